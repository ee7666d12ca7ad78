/- Typed functions, and that the codes are these. Printed by dec.py. -/
import Derived.Test.YtcbhpadficfnnaaDoorDPkC
namespace Go.Proofs.YtcbhpadficfnnaaDoor.Pm
set_option maxRecDepth 1000000
set_option maxHeartbeats 20000000
set_option linter.unusedVariables false
/- strconv.Itoa -/
theorem libItoaL_ok (d : Nat) (hd : 0 ≤ d) (a1 : Int) (r : List UInt8) (hS : libItoaL a1 = some r) : lev codes baseL d 7 [(.d (.int .i64 a1))] [] = some ((.d (.str r)), []) := lib_call (l := libs) rfl rfl rfl (oiS_ hS) d
/- farwriter/press.Mouse -/
def f4_fin (p44 : List UInt8) (p45 : Int) : St := ⟨(up (up (fun _ => .un) 5 (.d (.int .i64 p45))) 4 (.d (.str p44))), (hB fun _ => 0)⟩
theorem f4_out (p44 : List UInt8) (p45 : Int) : outR (f4_fin p44 p45) 0 c4.res = some ((.tup [(.d (.str p44)), (.d (.int .i64 p45))]), []) := by
  kernel_rfl
def f4_Q (r : (List UInt8) × Int) (e : PX) (st : St) : Prop := DoneF c4 0 ((.tup [(.d (.str r.1)), (.d (.int .i64 r.2))]), []) e st
def f4_j5_J (a1 : GMouse) (a2 : Int) (p96 : Int) (p97 : List UInt8) : St := ⟨(up (up (up (fun _ => .un) 9 (.d (.str p97))) 8 (.d (.int .i64 p96))) 2 (.r (.ptr 24 0 0))), (up (hB fun _ => 0) 24 ⟨0, some (.box ((.d (.int .i64 a1.Button)) :: ((.d (.int .i64 a1.Col)) :: ((.d (.int .i64 a1.Row)) :: ((.d (.int .i64 a1.Mods)) :: ((.d (.bool a1.Up)) :: []))))))⟩)⟩
noncomputable def f4_j5 (a1 : GMouse) (a2 : Int) (p96 : Int) (p97 : List UInt8) : Option ((List UInt8) × Int) := ((libItoaL p96).bind fun z10 => ((cat? ([27, 91, 60] : List UInt8) z10).bind fun z11 => ((cat? z11 ([59] : List UInt8)).bind fun z12 => ((libItoaL (IntKind.i64.wrap (a1.Col + 1))).bind fun z13 => ((cat? z12 z13).bind fun z14 => ((cat? z14 ([59] : List UInt8)).bind fun z15 => ((libItoaL (IntKind.i64.wrap (a1.Row + 1))).bind fun z16 => ((cat? z15 z16).bind fun z17 => ((cat? z17 p97).bind fun z18 => (some (z18, 0)))))))))))
theorem f4_j5_ok {d : Nat} (hd : 1 ≤ d) (a1 : GMouse) (a2 : Int) {r : (List UInt8) × Int} {Q : PX → St → Prop} (hQ : ∀ e st', f4_Q r e st' → Q e st') (p96 : Int) (p97 : List UInt8) (hS : f4_j5 a1 a2 p96 p97 = some r) {st : St} (he : keepSt [2, 8, 9] [(24, .id 24)] [] st = f4_j5_J a1 a2 p96 p97) : ZR (lev codes baseL (d - 1)) Q c4_1 [] st := by
  refine zrKeep he ?_
  unfold f4_j5 at hS
  refine zrSeq ?_
  refine zrRegD ?_
  refine zdRun (n := 1) (j := 1) (ts := [[]]) (acc' := [[]]) rfl (by kernel_rfl) (by kernel_rfl) (by kernel_rfl) ?_
  refine bindE hS (fun z10 hz10 hS => ?_)
  refine zdOp (d := some 119) (op := (.call 7 [(.tmp 118)])) (g := none) (j := 2) (t1 := [(960, true), (961, true), (962, true), (963, true), (964, true), (965, true), (966, true), (967, true)]) (acc' := [[], [(960, true), (961, true), (962, true), (963, true), (964, true), (965, true), (966, true), (967, true)]]) (by kernel_rfl) (by kernel_rfl) rfl (by kernel_rfl) (by kernel_rfl) (ev_callA (by kernel_rfl) (libItoaL_ok (d - 1) (dpt hd rfl) p96 z10 hz10) (by kernel_rfl) (by kernel_rfl)) ?_
  refine bindE hS (fun z11 hz11 hS => ?_)
  refine zdOp (d := some 120) (op := (.strO .add (.const (.string ⟨#[27, 91, 60]⟩)) (.tmp 119))) (g := none) (v := (.d (.str z11))) (ups := []) (j := 3) (t1 := []) (acc' := [[], [(960, true), (961, true), (962, true), (963, true), (964, true), (965, true), (966, true), (967, true)], []]) (by kernel_rfl) (by kernel_rfl) rfl (by kernel_rfl) (by kernel_rfl) (ev_cat (a := [27, 91, 60]) (c := z10) (by kernel_rfl) (by kernel_rfl) hz11) ?_
  refine bindE hS (fun z12 hz12 hS => ?_)
  refine zdOp (d := some 121) (op := (.strO .add (.tmp 120) (.const (.string ⟨#[59]⟩)))) (g := none) (v := (.d (.str z12))) (ups := []) (j := 4) (t1 := []) (acc' := [[], [(960, true), (961, true), (962, true), (963, true), (964, true), (965, true), (966, true), (967, true)], [], []]) (by kernel_rfl) (by kernel_rfl) rfl (by kernel_rfl) (by kernel_rfl) (ev_cat (a := z11) (c := [59]) (by kernel_rfl) (by kernel_rfl) hz12) ?_
  refine zdRun (n := 3) (j := 7) (ts := [[], [(24, false)], []]) (acc' := [[], [(960, true), (961, true), (962, true), (963, true), (964, true), (965, true), (966, true), (967, true)], [], [], [], [(24, false)], []]) rfl (by kernel_rfl) (by kernel_rfl) (by kernel_rfl) ?_
  refine bindE hS (fun z13 hz13 hS => ?_)
  refine zdOp (d := some 125) (op := (.call 7 [(.tmp 124)])) (g := none) (j := 8) (t1 := [(1008, true), (1009, true), (1010, true), (1011, true), (1012, true), (1013, true), (1014, true), (1015, true)]) (acc' := [[], [(960, true), (961, true), (962, true), (963, true), (964, true), (965, true), (966, true), (967, true)], [], [], [], [(24, false)], [], [(1008, true), (1009, true), (1010, true), (1011, true), (1012, true), (1013, true), (1014, true), (1015, true)]]) (by kernel_rfl) (by kernel_rfl) rfl (by kernel_rfl) (by kernel_rfl) (ev_callA (by kernel_rfl) (libItoaL_ok (d - 1) (dpt hd rfl) (IntKind.i64.wrap (a1.Col + 1)) z13 hz13) (by kernel_rfl) (by kernel_rfl)) ?_
  refine bindE hS (fun z14 hz14 hS => ?_)
  refine zdOp (d := some 126) (op := (.strO .add (.tmp 121) (.tmp 125))) (g := none) (v := (.d (.str z14))) (ups := []) (j := 9) (t1 := []) (acc' := [[], [(960, true), (961, true), (962, true), (963, true), (964, true), (965, true), (966, true), (967, true)], [], [], [], [(24, false)], [], [(1008, true), (1009, true), (1010, true), (1011, true), (1012, true), (1013, true), (1014, true), (1015, true)], []]) (by kernel_rfl) (by kernel_rfl) rfl (by kernel_rfl) (by kernel_rfl) (ev_cat (a := z12) (c := z13) (by kernel_rfl) (by kernel_rfl) hz14) ?_
  refine bindE hS (fun z15 hz15 hS => ?_)
  refine zdOp (d := some 127) (op := (.strO .add (.tmp 126) (.const (.string ⟨#[59]⟩)))) (g := none) (v := (.d (.str z15))) (ups := []) (j := 10) (t1 := []) (acc' := [[], [(960, true), (961, true), (962, true), (963, true), (964, true), (965, true), (966, true), (967, true)], [], [], [], [(24, false)], [], [(1008, true), (1009, true), (1010, true), (1011, true), (1012, true), (1013, true), (1014, true), (1015, true)], [], []]) (by kernel_rfl) (by kernel_rfl) rfl (by kernel_rfl) (by kernel_rfl) (ev_cat (a := z14) (c := [59]) (by kernel_rfl) (by kernel_rfl) hz15) ?_
  refine zdRun (n := 3) (j := 13) (ts := [[], [(24, false)], []]) (acc' := [[], [(960, true), (961, true), (962, true), (963, true), (964, true), (965, true), (966, true), (967, true)], [], [], [], [(24, false)], [], [(1008, true), (1009, true), (1010, true), (1011, true), (1012, true), (1013, true), (1014, true), (1015, true)], [], [], [], [(24, false)], []]) rfl (by kernel_rfl) (by kernel_rfl) (by kernel_rfl) ?_
  refine bindE hS (fun z16 hz16 hS => ?_)
  refine zdOp (d := some 131) (op := (.call 7 [(.tmp 130)])) (g := none) (j := 14) (t1 := [(1056, true), (1057, true), (1058, true), (1059, true), (1060, true), (1061, true), (1062, true), (1063, true)]) (acc' := [[], [(960, true), (961, true), (962, true), (963, true), (964, true), (965, true), (966, true), (967, true)], [], [], [], [(24, false)], [], [(1008, true), (1009, true), (1010, true), (1011, true), (1012, true), (1013, true), (1014, true), (1015, true)], [], [], [], [(24, false)], [], [(1056, true), (1057, true), (1058, true), (1059, true), (1060, true), (1061, true), (1062, true), (1063, true)]]) (by kernel_rfl) (by kernel_rfl) rfl (by kernel_rfl) (by kernel_rfl) (ev_callA (by kernel_rfl) (libItoaL_ok (d - 1) (dpt hd rfl) (IntKind.i64.wrap (a1.Row + 1)) z16 hz16) (by kernel_rfl) (by kernel_rfl)) ?_
  refine bindE hS (fun z17 hz17 hS => ?_)
  refine zdOp (d := some 132) (op := (.strO .add (.tmp 127) (.tmp 131))) (g := none) (v := (.d (.str z17))) (ups := []) (j := 15) (t1 := []) (acc' := [[], [(960, true), (961, true), (962, true), (963, true), (964, true), (965, true), (966, true), (967, true)], [], [], [], [(24, false)], [], [(1008, true), (1009, true), (1010, true), (1011, true), (1012, true), (1013, true), (1014, true), (1015, true)], [], [], [], [(24, false)], [], [(1056, true), (1057, true), (1058, true), (1059, true), (1060, true), (1061, true), (1062, true), (1063, true)], []]) (by kernel_rfl) (by kernel_rfl) rfl (by kernel_rfl) (by kernel_rfl) (ev_cat (a := z15) (c := z16) (by kernel_rfl) (by kernel_rfl) hz17) ?_
  refine zdRun (n := 1) (j := 16) (ts := [[]]) (acc' := [[], [(960, true), (961, true), (962, true), (963, true), (964, true), (965, true), (966, true), (967, true)], [], [], [], [(24, false)], [], [(1008, true), (1009, true), (1010, true), (1011, true), (1012, true), (1013, true), (1014, true), (1015, true)], [], [], [], [(24, false)], [], [(1056, true), (1057, true), (1058, true), (1059, true), (1060, true), (1061, true), (1062, true), (1063, true)], [], []]) rfl (by kernel_rfl) (by kernel_rfl) (by kernel_rfl) ?_
  refine bindE hS (fun z18 hz18 hS => ?_)
  refine zdOp (d := some 134) (op := (.strO .add (.tmp 132) (.tmp 133))) (g := none) (v := (.d (.str z18))) (ups := []) (j := 17) (t1 := []) (acc' := [[], [(960, true), (961, true), (962, true), (963, true), (964, true), (965, true), (966, true), (967, true)], [], [], [], [(24, false)], [], [(1008, true), (1009, true), (1010, true), (1011, true), (1012, true), (1013, true), (1014, true), (1015, true)], [], [], [], [(24, false)], [], [(1056, true), (1057, true), (1058, true), (1059, true), (1060, true), (1061, true), (1062, true), (1063, true)], [], [], []]) (by kernel_rfl) (by kernel_rfl) rfl (by kernel_rfl) (by kernel_rfl) (ev_cat (a := z17) (c := p97) (by kernel_rfl) (by kernel_rfl) hz18) ?_
  refine zdRun (n := 2) (j := 19) (ts := [[], []]) (acc' := [[], [(960, true), (961, true), (962, true), (963, true), (964, true), (965, true), (966, true), (967, true)], [], [], [], [(24, false)], [], [(1008, true), (1009, true), (1010, true), (1011, true), (1012, true), (1013, true), (1014, true), (1015, true)], [], [], [], [(24, false)], [], [(1056, true), (1057, true), (1058, true), (1059, true), (1060, true), (1061, true), (1062, true), (1063, true)], [], [], [], [], []]) rfl (by kernel_rfl) (by kernel_rfl) (by kernel_rfl) ?_
  refine zdEnd (by kernel_rfl) (by kernel_rfl) ?_
  refine zkSeq ?_
  refine zrRet ?_
  refine zkNil ?_
  exact endQ hS hQ (fRet (by kernel_rfl) ((congrArg (fun s => outR s 0 c4.res) (by kernel_rfl : finSt c4.fin _ = f4_fin z18 0)).trans (f4_out z18 0)))
def f4_j4_J (a1 : GMouse) (a2 : Int) (p93 : Int) : St := ⟨(up (up (fun _ => .un) 8 (.d (.int .i64 p93))) 2 (.r (.ptr 24 0 0))), (up (hB fun _ => 0) 24 ⟨0, some (.box ((.d (.int .i64 a1.Button)) :: ((.d (.int .i64 a1.Col)) :: ((.d (.int .i64 a1.Row)) :: ((.d (.int .i64 a1.Mods)) :: ((.d (.bool a1.Up)) :: []))))))⟩)⟩
noncomputable def f4_j4 (a1 : GMouse) (a2 : Int) (p93 : Int) : Option ((List UInt8) × Int) := (bif a1.Up then (f4_j5 a1 a2 p93 [109]) else (f4_j5 a1 a2 p93 [77]))
theorem f4_j4_ok {d : Nat} (hd : 1 ≤ d) (a1 : GMouse) (a2 : Int) {r : (List UInt8) × Int} {Q : PX → St → Prop} (hQ : ∀ e st', f4_Q r e st' → Q e st') (p93 : Int) (hS : f4_j4 a1 a2 p93 = some r) {st : St} (he : keepSt [2, 8] [(24, .id 24)] [] st = f4_j4_J a1 a2 p93) : ZR (lev codes baseL (d - 1)) Q c4_2 [] st := by
  refine zrKeep he ?_
  unfold f4_j4 at hS
  refine zrSeq ?_
  refine zrReg ?_
  refine zlRun (n := 1) (j := 1) rfl (by kernel_rfl) ?_
  refine zlEnd (by kernel_rfl) ?_
  refine zkSeq ?_
  refine zrSeq ?_
  refine zrSeq ?_
  refine zrReg ?_
  refine zlRun (n := 2) (j := 2) rfl (by kernel_rfl) ?_
  refine zlEnd (by kernel_rfl) ?_
  refine zkSeq ?_
  refine zrSplit 117 a1.Up (by kernel_rfl) (fun hc => ?_) (fun hc => ?_)
  · replace hS := cond_t hc hS
    refine zrCondT (by kernel_rfl) ?_
    refine zrReg ?_
    refine zlRun (n := 1) (j := 1) rfl (by kernel_rfl) ?_
    refine zlEnd (by kernel_rfl) ?_
    refine zkSeq ?_
    exact f4_j5_ok hd a1 a2 hQ p93 [109] hS (by kernel_rfl)
  · replace hS := cond_f hc hS
    refine zrCondF (by kernel_rfl) ?_
    refine zrSkip ?_
    refine zkSeq ?_
    exact f4_j5_ok hd a1 a2 hQ p93 [77] hS (by kernel_rfl)
def f4_j3_J (a1 : GMouse) (a2 : Int) (p91 : Bool) (p92 : Int) : St := ⟨(up (up (up (fun _ => .un) 8 (.d (.int .i64 p92))) 7 (.d (.bool p91))) 2 (.r (.ptr 24 0 0))), (up (hB fun _ => 0) 24 ⟨0, some (.box ((.d (.int .i64 a1.Button)) :: ((.d (.int .i64 a1.Col)) :: ((.d (.int .i64 a1.Row)) :: ((.d (.int .i64 a1.Mods)) :: ((.d (.bool a1.Up)) :: []))))))⟩)⟩
noncomputable def f4_j3 (a1 : GMouse) (a2 : Int) (p91 : Bool) (p92 : Int) : Option ((List UInt8) × Int) := (bif (!p91) then (some (([27, 91, 77, (u8 (IntKind.i64.wrap ((IntKind.i64.wrap (p92 + (IntKind.i64.wrap (4 * a1.Mods)))) + 32))), (u8 (IntKind.i64.wrap (a1.Col + 33))), (u8 (IntKind.i64.wrap (a1.Row + 33)))] : List UInt8), 0)) else (f4_j4 a1 a2 (IntKind.i64.wrap (p92 + (IntKind.i64.wrap (4 * a1.Mods))))))
theorem f4_j3_ok {d : Nat} (hd : 1 ≤ d) (a1 : GMouse) (a2 : Int) {r : (List UInt8) × Int} {Q : PX → St → Prop} (hQ : ∀ e st', f4_Q r e st' → Q e st') (p91 : Bool) (p92 : Int) (hS : f4_j3 a1 a2 p91 p92 = some r) {st : St} (he : keepSt [2, 7, 8] [(24, .id 24)] [] st = f4_j3_J a1 a2 p91 p92) : ZR (lev codes baseL (d - 1)) Q c4_3 [] st := by
  refine zrKeep he ?_
  unfold f4_j3 at hS
  refine zrSeq ?_
  refine zrReg ?_
  refine zlRun (n := 6) (j := 6) rfl (by kernel_rfl) ?_
  refine zlEnd (by kernel_rfl) ?_
  refine zkSeq ?_
  refine zrSeq ?_
  refine zrSeq ?_
  refine zrReg ?_
  refine zlRun (n := 2) (j := 2) rfl (by kernel_rfl) ?_
  refine zlEnd (by kernel_rfl) ?_
  refine zkSeq ?_
  refine zrSplit 102 (!p91) (by kernel_rfl) (fun hc => ?_) (fun hc => ?_)
  · replace hS := cond_t hc hS
    refine zrCondT (by kernel_rfl) ?_
    refine zrSeq ?_
    refine zrReg ?_
    refine zlRun (n := 2) (j := 2) rfl (by kernel_rfl) ?_
    refine zlOp (d := some 105) (op := (.cvI .u8 (.tmp 104))) (g := none) (v := (.d (.int .u8 ((u8 (IntKind.i64.wrap ((IntKind.i64.wrap (p92 + (IntKind.i64.wrap (4 * a1.Mods)))) + 32))).toNat : Int)))) (ups := []) (j := 3) rfl (by kernel_rfl) (by kernel_rfl) (ev_cv (kk := .i64) (a := (IntKind.i64.wrap ((IntKind.i64.wrap (p92 + (IntKind.i64.wrap (4 * a1.Mods)))) + 32))) (by kernel_rfl) (u8_wrap _)) ?_
    refine zlRun (n := 3) (j := 6) rfl (by kernel_rfl) ?_
    refine zlOp (d := some 109) (op := (.cvI .u8 (.tmp 108))) (g := none) (v := (.d (.int .u8 ((u8 (IntKind.i64.wrap (a1.Col + 33))).toNat : Int)))) (ups := []) (j := 7) rfl (by kernel_rfl) (by kernel_rfl) (ev_cv (kk := .i64) (a := (IntKind.i64.wrap (a1.Col + 33))) (by kernel_rfl) (u8_wrap _)) ?_
    refine zlRun (n := 3) (j := 10) rfl (by kernel_rfl) ?_
    refine zlOp (d := some 113) (op := (.cvI .u8 (.tmp 112))) (g := none) (v := (.d (.int .u8 ((u8 (IntKind.i64.wrap (a1.Row + 33))).toNat : Int)))) (ups := []) (j := 11) rfl (by kernel_rfl) (by kernel_rfl) (ev_cv (kk := .i64) (a := (IntKind.i64.wrap (a1.Row + 33))) (by kernel_rfl) (u8_wrap _)) ?_
    refine zlRun (n := 1) (j := 12) rfl (by kernel_rfl) ?_
    refine zlOp (d := some 115) (op := (.cvBS (.tmp 114))) (g := none) (v := (.d (.str ([27, 91, 77, (u8 (IntKind.i64.wrap ((IntKind.i64.wrap (p92 + (IntKind.i64.wrap (4 * a1.Mods)))) + 32))), (u8 (IntKind.i64.wrap (a1.Col + 33))), (u8 (IntKind.i64.wrap (a1.Row + 33)))] : List UInt8)))) (ups := []) (j := 13) rfl (by kernel_rfl) (by kernel_rfl) (ev_cvBS (s := [27, 91, 77, (u8 (IntKind.i64.wrap ((IntKind.i64.wrap (p92 + (IntKind.i64.wrap (4 * a1.Mods)))) + 32))), (u8 (IntKind.i64.wrap (a1.Col + 33))), (u8 (IntKind.i64.wrap (a1.Row + 33)))]) ((congrArg (asL _) (by kernel_rfl : ρof _ (.tmp 114) = (.r (.msl 920 1 0 (([27, 91, 77, (u8 (IntKind.i64.wrap ((IntKind.i64.wrap (p92 + (IntKind.i64.wrap (4 * a1.Mods)))) + 32))), (u8 (IntKind.i64.wrap (a1.Col + 33))), (u8 (IntKind.i64.wrap (a1.Row + 33)))] : List UInt8).length))))).trans (as_whole eU8 (e := 5) (k := 1) (xs := [27, 91, 77, (u8 (IntKind.i64.wrap ((IntKind.i64.wrap (p92 + (IntKind.i64.wrap (4 * a1.Mods)))) + 32))), (u8 (IntKind.i64.wrap (a1.Col + 33))), (u8 (IntKind.i64.wrap (a1.Row + 33)))]) (by kernel_rfl) rfl rfl)) rfl) ?_
    refine zlRun (n := 2) (j := 15) rfl (by kernel_rfl) ?_
    refine zlEnd (by kernel_rfl) ?_
    refine zkSeq ?_
    refine zrRet ?_
    refine zkSeqR ?_
    refine zkNil ?_
    exact endQ hS hQ (fRet (by kernel_rfl) ((congrArg (fun s => outR s 0 c4.res) (by kernel_rfl : finSt c4.fin _ = f4_fin ([27, 91, 77, (u8 (IntKind.i64.wrap ((IntKind.i64.wrap (p92 + (IntKind.i64.wrap (4 * a1.Mods)))) + 32))), (u8 (IntKind.i64.wrap (a1.Col + 33))), (u8 (IntKind.i64.wrap (a1.Row + 33)))] : List UInt8) 0)).trans (f4_out ([27, 91, 77, (u8 (IntKind.i64.wrap ((IntKind.i64.wrap (p92 + (IntKind.i64.wrap (4 * a1.Mods)))) + 32))), (u8 (IntKind.i64.wrap (a1.Col + 33))), (u8 (IntKind.i64.wrap (a1.Row + 33)))] : List UInt8) 0)))
  · replace hS := cond_f hc hS
    refine zrCondF (by kernel_rfl) ?_
    refine zrSkip ?_
    refine zkSeq ?_
    exact f4_j4_ok hd a1 a2 hQ (IntKind.i64.wrap (p92 + (IntKind.i64.wrap (4 * a1.Mods)))) hS (by kernel_rfl)
def f4_j2_J (a1 : GMouse) (a2 : Int) (p86 : Bool) : St := ⟨(up (up (fun _ => .un) 7 (.d (.bool p86))) 2 (.r (.ptr 24 0 0))), (up (hB fun _ => 0) 24 ⟨0, some (.box ((.d (.int .i64 a1.Button)) :: ((.d (.int .i64 a1.Col)) :: ((.d (.int .i64 a1.Row)) :: ((.d (.int .i64 a1.Mods)) :: ((.d (.bool a1.Up)) :: []))))))⟩)⟩
noncomputable def f4_j2 (a1 : GMouse) (a2 : Int) (p86 : Bool) : Option ((List UInt8) × Int) := (bif a1.Up then (bif (!p86) then (f4_j3 a1 a2 p86 3) else (f4_j3 a1 a2 p86 a1.Button)) else (f4_j3 a1 a2 p86 a1.Button))
theorem f4_j2_ok {d : Nat} (hd : 1 ≤ d) (a1 : GMouse) (a2 : Int) {r : (List UInt8) × Int} {Q : PX → St → Prop} (hQ : ∀ e st', f4_Q r e st' → Q e st') (p86 : Bool) (hS : f4_j2 a1 a2 p86 = some r) {st : St} (he : keepSt [2, 7] [(24, .id 24)] [] st = f4_j2_J a1 a2 p86) : ZR (lev codes baseL (d - 1)) Q c4_4 [] st := by
  refine zrKeep he ?_
  unfold f4_j2 at hS
  refine zrSeq ?_
  refine zrReg ?_
  refine zlRun (n := 3) (j := 3) rfl (by kernel_rfl) ?_
  refine zlEnd (by kernel_rfl) ?_
  refine zkSeq ?_
  refine zrSeq ?_
  refine zrSeq ?_
  refine zrReg ?_
  refine zlRun (n := 3) (j := 3) rfl (by kernel_rfl) ?_
  refine zlSplit 92 a1.Up (by kernel_rfl) (fun hc => ?_) (fun hc => ?_)
  · replace hS := cond_t hc hS
    refine zlRun (n := 3) (j := 6) rfl (by kernel_rfl) ?_
    refine zlEnd (by kernel_rfl) ?_
    refine zkSeq ?_
    refine zrSplit 95 (!p86) (by kernel_rfl) (fun hc => ?_) (fun hc => ?_)
    · replace hS := cond_t hc hS
      refine zrCondT (by kernel_rfl) ?_
      refine zrReg ?_
      refine zlRun (n := 1) (j := 1) rfl (by kernel_rfl) ?_
      refine zlEnd (by kernel_rfl) ?_
      refine zkSeq ?_
      exact f4_j3_ok hd a1 a2 hQ p86 3 hS (by kernel_rfl)
    · replace hS := cond_f hc hS
      refine zrCondF (by kernel_rfl) ?_
      refine zrSkip ?_
      refine zkSeq ?_
      exact f4_j3_ok hd a1 a2 hQ p86 a1.Button hS (by kernel_rfl)
  · replace hS := cond_f hc hS
    refine zlRun (n := 3) (j := 6) rfl (by kernel_rfl) ?_
    refine zlEnd (by kernel_rfl) ?_
    refine zkSeq ?_
    refine zrCondF (by kernel_rfl) ?_
    refine zrSkip ?_
    refine zkSeq ?_
    exact f4_j3_ok hd a1 a2 hQ p86 a1.Button hS (by kernel_rfl)
def f4_j6_J (a1 : GMouse) (a2 : Int) (p125 : Bool) (p126 : Bool) : St := ⟨(up (up (up (up (fun _ => .un) 21 (.d (.bool p126))) 7 (.d (.bool p125))) 2 (.r (.ptr 24 0 0))) 1 (.d (.int .i64 a2))), (up (hB fun _ => 0) 24 ⟨0, some (.box ((.d (.int .i64 a1.Button)) :: ((.d (.int .i64 a1.Col)) :: ((.d (.int .i64 a1.Row)) :: ((.d (.int .i64 a1.Mods)) :: ((.d (.bool a1.Up)) :: []))))))⟩)⟩
noncomputable def f4_j6 (a1 : GMouse) (a2 : Int) (p125 : Bool) (p126 : Bool) : Option ((List UInt8) × Int) := (bif p126 then (some ([], 1)) else (bif (decide ((bitI .and .i64 a2 512) = 0)) then (some ([], 7)) else (bif (!p125) then (bif (decide (94 < a1.Col)) then (some ([], 2)) else (bif (decide (94 < a1.Row)) then (some ([], 2)) else (f4_j2 a1 a2 p125))) else (f4_j2 a1 a2 p125))))
theorem f4_j6_ok {d : Nat} (hd : 1 ≤ d) (a1 : GMouse) (a2 : Int) {r : (List UInt8) × Int} {Q : PX → St → Prop} (hQ : ∀ e st', f4_Q r e st' → Q e st') (p125 : Bool) (p126 : Bool) (hS : f4_j6 a1 a2 p125 p126 = some r) {st : St} (he : keepSt [1, 2, 7, 21] [(24, .id 24)] [] st = f4_j6_J a1 a2 p125 p126) : ZR (lev codes baseL (d - 1)) Q c4_5 [.blk 0, .seq c4_4] st := by
  refine zrKeep he ?_
  unfold f4_j6 at hS
  refine zrSplit 21 p126 (by kernel_rfl) (fun hc => ?_) (fun hc => ?_)
  · replace hS := cond_t hc hS
    refine zrCondT (by kernel_rfl) ?_
    refine zrSeq ?_
    refine zrReg ?_
    refine zlRun (n := 2) (j := 2) rfl (by kernel_rfl) ?_
    refine zlEnd (by kernel_rfl) ?_
    refine zkSeq ?_
    refine zrRet ?_
    refine zkBlkR ?_
    refine zkSeqR ?_
    refine zkNil ?_
    exact endQ hS hQ (fRet (by kernel_rfl) ((congrArg (fun s => outR s 0 c4.res) (by kernel_rfl : finSt c4.fin _ = f4_fin [] 1)).trans (f4_out [] 1)))
  · replace hS := cond_f hc hS
    refine zrCondF (by kernel_rfl) ?_
    refine zrSeq ?_
    refine zrReg ?_
    refine zlRun (n := 2) (j := 2) rfl (by kernel_rfl) ?_
    refine zlBool (d := 74) (op := (.cmpI .eql (.tmp 73) (.const (.int .i64 0)))) (g := none) (j := 3) (decide ((bitI .and .i64 a2 512) = 0)) rfl (by kernel_rfl) (by kernel_rfl) (by kernel_rfl) (fun hc => ?_) (fun hc => ?_)
    · replace hS := cond_t hc hS
      refine zlRun (n := 1) (j := 4) rfl (by kernel_rfl) ?_
      refine zlEnd (by kernel_rfl) ?_
      refine zkSeq ?_
      refine zrCondT (by kernel_rfl) ?_
      refine zrSeq ?_
      refine zrReg ?_
      refine zlRun (n := 2) (j := 2) rfl (by kernel_rfl) ?_
      refine zlEnd (by kernel_rfl) ?_
      refine zkSeq ?_
      refine zrRet ?_
      refine zkBlkR ?_
      refine zkSeqR ?_
      refine zkNil ?_
      exact endQ hS hQ (fRet (by kernel_rfl) ((congrArg (fun s => outR s 0 c4.res) (by kernel_rfl : finSt c4.fin _ = f4_fin [] 7)).trans (f4_out [] 7)))
    · replace hS := cond_f hc hS
      refine zlRun (n := 1) (j := 4) rfl (by kernel_rfl) ?_
      refine zlEnd (by kernel_rfl) ?_
      refine zkSeq ?_
      refine zrCondF (by kernel_rfl) ?_
      refine zrSeq ?_
      refine zrReg ?_
      refine zlRun (n := 3) (j := 3) rfl (by kernel_rfl) ?_
      refine zlSplit 78 (!p125) (by kernel_rfl) (fun hc => ?_) (fun hc => ?_)
      · replace hS := cond_t hc hS
        refine zlRun (n := 2) (j := 5) rfl (by kernel_rfl) ?_
        refine zlBool (d := 81) (op := (.cmpI .gtr (.tmp 80) (.const (.int .i64 94)))) (g := (some (78, true))) (j := 6) (decide (94 < a1.Col)) rfl (by kernel_rfl) (by kernel_rfl) (by kernel_rfl) (fun hc => ?_) (fun hc => ?_)
        · replace hS := cond_t hc hS
          refine zlRun (n := 7) (j := 13) rfl (by kernel_rfl) ?_
          refine zlEnd (by kernel_rfl) ?_
          refine zkSeq ?_
          refine zrCondT (by kernel_rfl) ?_
          refine zrSeq ?_
          refine zrReg ?_
          refine zlRun (n := 2) (j := 2) rfl (by kernel_rfl) ?_
          refine zlEnd (by kernel_rfl) ?_
          refine zkSeq ?_
          refine zrRet ?_
          refine zkBlkR ?_
          refine zkSeqR ?_
          refine zkNil ?_
          exact endQ hS hQ (fRet (by kernel_rfl) ((congrArg (fun s => outR s 0 c4.res) (by kernel_rfl : finSt c4.fin _ = f4_fin [] 2)).trans (f4_out [] 2)))
        · replace hS := cond_f hc hS
          refine zlRun (n := 3) (j := 9) rfl (by kernel_rfl) ?_
          refine zlBool (d := 85) (op := (.cmpI .gtr (.tmp 84) (.const (.int .i64 94)))) (g := (some (82, false))) (j := 10) (decide (94 < a1.Row)) rfl (by kernel_rfl) (by kernel_rfl) (by kernel_rfl) (fun hc => ?_) (fun hc => ?_)
          · replace hS := cond_t hc hS
            refine zlRun (n := 3) (j := 13) rfl (by kernel_rfl) ?_
            refine zlEnd (by kernel_rfl) ?_
            refine zkSeq ?_
            refine zrCondT (by kernel_rfl) ?_
            refine zrSeq ?_
            refine zrReg ?_
            refine zlRun (n := 2) (j := 2) rfl (by kernel_rfl) ?_
            refine zlEnd (by kernel_rfl) ?_
            refine zkSeq ?_
            refine zrRet ?_
            refine zkBlkR ?_
            refine zkSeqR ?_
            refine zkNil ?_
            exact endQ hS hQ (fRet (by kernel_rfl) ((congrArg (fun s => outR s 0 c4.res) (by kernel_rfl : finSt c4.fin _ = f4_fin [] 2)).trans (f4_out [] 2)))
          · replace hS := cond_f hc hS
            refine zlRun (n := 3) (j := 13) rfl (by kernel_rfl) ?_
            refine zlEnd (by kernel_rfl) ?_
            refine zkSeq ?_
            refine zrCondF (by kernel_rfl) ?_
            refine zrSkip ?_
            refine zkBlk ?_
            refine zkSeq ?_
            exact f4_j2_ok hd a1 a2 hQ p125 hS (by kernel_rfl)
      · replace hS := cond_f hc hS
        refine zlRun (n := 10) (j := 13) rfl (by kernel_rfl) ?_
        refine zlEnd (by kernel_rfl) ?_
        refine zkSeq ?_
        refine zrCondF (by kernel_rfl) ?_
        refine zrSkip ?_
        refine zkBlk ?_
        refine zkSeq ?_
        exact f4_j2_ok hd a1 a2 hQ p125 hS (by kernel_rfl)
def f4_j1_J (a1 : GMouse) (a2 : Int) (p50 : Bool) (p51 : Bool) : St := ⟨(up (up (up (up (fun _ => .un) 7 (.d (.bool p51))) 6 (.d (.bool p50))) 2 (.r (.ptr 24 0 0))) 1 (.d (.int .i64 a2))), (up (hB fun _ => 0) 24 ⟨0, some (.box ((.d (.int .i64 a1.Button)) :: ((.d (.int .i64 a1.Col)) :: ((.d (.int .i64 a1.Row)) :: ((.d (.int .i64 a1.Mods)) :: ((.d (.bool a1.Up)) :: []))))))⟩)⟩
noncomputable def f4_j1 (a1 : GMouse) (a2 : Int) (p50 : Bool) (p51 : Bool) : Option ((List UInt8) × Int) := (bif (!p50) then (bif (decide (a1.Button < 0)) then (f4_j6 a1 a2 p51 true) else (bif (decide (2 < a1.Button)) then (f4_j6 a1 a2 p51 true) else (bif (decide (a1.Col < 0)) then (f4_j6 a1 a2 p51 true) else (bif (decide (1000 < a1.Col)) then (f4_j6 a1 a2 p51 true) else (bif (decide (a1.Row < 0)) then (f4_j6 a1 a2 p51 true) else (bif (decide (1000 < a1.Row)) then (f4_j6 a1 a2 p51 true) else (bif (decide (a1.Mods < 0)) then (f4_j6 a1 a2 p51 true) else (bif (decide (7 < a1.Mods)) then (f4_j6 a1 a2 p51 true) else (bif a1.Up then (f4_j6 a1 a2 p51 p50) else (f4_j6 a1 a2 p51 false)))))))))) else (bif (decide (a1.Col < 0)) then (f4_j6 a1 a2 p51 true) else (bif (decide (1000 < a1.Col)) then (f4_j6 a1 a2 p51 true) else (bif (decide (a1.Row < 0)) then (f4_j6 a1 a2 p51 true) else (bif (decide (1000 < a1.Row)) then (f4_j6 a1 a2 p51 true) else (bif (decide (a1.Mods < 0)) then (f4_j6 a1 a2 p51 true) else (bif (decide (7 < a1.Mods)) then (f4_j6 a1 a2 p51 true) else (bif a1.Up then (f4_j6 a1 a2 p51 p50) else (f4_j6 a1 a2 p51 false)))))))))
theorem f4_j1_ok {d : Nat} (hd : 1 ≤ d) (a1 : GMouse) (a2 : Int) {r : (List UInt8) × Int} {Q : PX → St → Prop} (hQ : ∀ e st', f4_Q r e st' → Q e st') (p50 : Bool) (p51 : Bool) (hS : f4_j1 a1 a2 p50 p51 = some r) {st : St} (he : keepSt [1, 2, 6, 7] [(24, .id 24)] [] st = f4_j1_J a1 a2 p50 p51) : ZR (lev codes baseL (d - 1)) Q c4_6 [] st := by
  refine zrKeep he ?_
  unfold f4_j1 at hS
  refine zrSeq ?_
  refine zrBlk ?_
  refine zrSeq ?_
  refine zrReg ?_
  refine zlRun (n := 3) (j := 3) rfl (by kernel_rfl) ?_
  refine zlSplit 24 (!p50) (by kernel_rfl) (fun hc => ?_) (fun hc => ?_)
  · replace hS := cond_t hc hS
    refine zlRun (n := 2) (j := 5) rfl (by kernel_rfl) ?_
    refine zlBool (d := 27) (op := (.cmpI .lss (.tmp 26) (.const (.int .i64 0)))) (g := (some (24, true))) (j := 6) (decide (a1.Button < 0)) rfl (by kernel_rfl) (by kernel_rfl) (by kernel_rfl) (fun hc => ?_) (fun hc => ?_)
    · replace hS := cond_t hc hS
      refine zlRun (n := 44) (j := 50) rfl (by kernel_rfl) ?_
      refine zlEnd (by kernel_rfl) ?_
      refine zkSeq ?_
      exact f4_j6_ok hd a1 a2 hQ p51 true hS (by kernel_rfl)
    · replace hS := cond_f hc hS
      refine zlRun (n := 3) (j := 9) rfl (by kernel_rfl) ?_
      refine zlBool (d := 31) (op := (.cmpI .gtr (.tmp 30) (.const (.int .i64 2)))) (g := (some (28, false))) (j := 10) (decide (2 < a1.Button)) rfl (by kernel_rfl) (by kernel_rfl) (by kernel_rfl) (fun hc => ?_) (fun hc => ?_)
      · replace hS := cond_t hc hS
        refine zlRun (n := 40) (j := 50) rfl (by kernel_rfl) ?_
        refine zlEnd (by kernel_rfl) ?_
        refine zkSeq ?_
        exact f4_j6_ok hd a1 a2 hQ p51 true hS (by kernel_rfl)
      · replace hS := cond_f hc hS
        refine zlRun (n := 5) (j := 15) rfl (by kernel_rfl) ?_
        refine zlBool (d := 37) (op := (.cmpI .lss (.tmp 36) (.const (.int .i64 0)))) (g := (some (34, false))) (j := 16) (decide (a1.Col < 0)) rfl (by kernel_rfl) (by kernel_rfl) (by kernel_rfl) (fun hc => ?_) (fun hc => ?_)
        · replace hS := cond_t hc hS
          refine zlRun (n := 34) (j := 50) rfl (by kernel_rfl) ?_
          refine zlEnd (by kernel_rfl) ?_
          refine zkSeq ?_
          exact f4_j6_ok hd a1 a2 hQ p51 true hS (by kernel_rfl)
        · replace hS := cond_f hc hS
          refine zlRun (n := 4) (j := 20) rfl (by kernel_rfl) ?_
          refine zlBool (d := 42) (op := (.cmpI .gtr (.tmp 41) (.const (.int .i64 1000)))) (g := (some (39, false))) (j := 21) (decide (1000 < a1.Col)) rfl (by kernel_rfl) (by kernel_rfl) (by kernel_rfl) (fun hc => ?_) (fun hc => ?_)
          · replace hS := cond_t hc hS
            refine zlRun (n := 29) (j := 50) rfl (by kernel_rfl) ?_
            refine zlEnd (by kernel_rfl) ?_
            refine zkSeq ?_
            exact f4_j6_ok hd a1 a2 hQ p51 true hS (by kernel_rfl)
          · replace hS := cond_f hc hS
            refine zlRun (n := 4) (j := 25) rfl (by kernel_rfl) ?_
            refine zlBool (d := 47) (op := (.cmpI .lss (.tmp 46) (.const (.int .i64 0)))) (g := (some (44, false))) (j := 26) (decide (a1.Row < 0)) rfl (by kernel_rfl) (by kernel_rfl) (by kernel_rfl) (fun hc => ?_) (fun hc => ?_)
            · replace hS := cond_t hc hS
              refine zlRun (n := 24) (j := 50) rfl (by kernel_rfl) ?_
              refine zlEnd (by kernel_rfl) ?_
              refine zkSeq ?_
              exact f4_j6_ok hd a1 a2 hQ p51 true hS (by kernel_rfl)
            · replace hS := cond_f hc hS
              refine zlRun (n := 4) (j := 30) rfl (by kernel_rfl) ?_
              refine zlBool (d := 52) (op := (.cmpI .gtr (.tmp 51) (.const (.int .i64 1000)))) (g := (some (49, false))) (j := 31) (decide (1000 < a1.Row)) rfl (by kernel_rfl) (by kernel_rfl) (by kernel_rfl) (fun hc => ?_) (fun hc => ?_)
              · replace hS := cond_t hc hS
                refine zlRun (n := 19) (j := 50) rfl (by kernel_rfl) ?_
                refine zlEnd (by kernel_rfl) ?_
                refine zkSeq ?_
                exact f4_j6_ok hd a1 a2 hQ p51 true hS (by kernel_rfl)
              · replace hS := cond_f hc hS
                refine zlRun (n := 4) (j := 35) rfl (by kernel_rfl) ?_
                refine zlBool (d := 57) (op := (.cmpI .lss (.tmp 56) (.const (.int .i64 0)))) (g := (some (54, false))) (j := 36) (decide (a1.Mods < 0)) rfl (by kernel_rfl) (by kernel_rfl) (by kernel_rfl) (fun hc => ?_) (fun hc => ?_)
                · replace hS := cond_t hc hS
                  refine zlRun (n := 14) (j := 50) rfl (by kernel_rfl) ?_
                  refine zlEnd (by kernel_rfl) ?_
                  refine zkSeq ?_
                  exact f4_j6_ok hd a1 a2 hQ p51 true hS (by kernel_rfl)
                · replace hS := cond_f hc hS
                  refine zlRun (n := 4) (j := 40) rfl (by kernel_rfl) ?_
                  refine zlBool (d := 62) (op := (.cmpI .gtr (.tmp 61) (.const (.int .i64 7)))) (g := (some (59, false))) (j := 41) (decide (7 < a1.Mods)) rfl (by kernel_rfl) (by kernel_rfl) (by kernel_rfl) (fun hc => ?_) (fun hc => ?_)
                  · replace hS := cond_t hc hS
                    refine zlRun (n := 9) (j := 50) rfl (by kernel_rfl) ?_
                    refine zlEnd (by kernel_rfl) ?_
                    refine zkSeq ?_
                    exact f4_j6_ok hd a1 a2 hQ p51 true hS (by kernel_rfl)
                  · replace hS := cond_f hc hS
                    refine zlRun (n := 5) (j := 46) rfl (by kernel_rfl) ?_
                    refine zlSplit 67 a1.Up (by kernel_rfl) (fun hc => ?_) (fun hc => ?_)
                    · replace hS := cond_t hc hS
                      refine zlRun (n := 4) (j := 50) rfl (by kernel_rfl) ?_
                      refine zlEnd (by kernel_rfl) ?_
                      refine zkSeq ?_
                      exact f4_j6_ok hd a1 a2 hQ p51 p50 hS (by kernel_rfl)
                    · replace hS := cond_f hc hS
                      refine zlRun (n := 4) (j := 50) rfl (by kernel_rfl) ?_
                      refine zlEnd (by kernel_rfl) ?_
                      refine zkSeq ?_
                      exact f4_j6_ok hd a1 a2 hQ p51 false hS (by kernel_rfl)
  · replace hS := cond_f hc hS
    refine zlRun (n := 12) (j := 15) rfl (by kernel_rfl) ?_
    refine zlBool (d := 37) (op := (.cmpI .lss (.tmp 36) (.const (.int .i64 0)))) (g := (some (34, false))) (j := 16) (decide (a1.Col < 0)) rfl (by kernel_rfl) (by kernel_rfl) (by kernel_rfl) (fun hc => ?_) (fun hc => ?_)
    · replace hS := cond_t hc hS
      refine zlRun (n := 34) (j := 50) rfl (by kernel_rfl) ?_
      refine zlEnd (by kernel_rfl) ?_
      refine zkSeq ?_
      exact f4_j6_ok hd a1 a2 hQ p51 true hS (by kernel_rfl)
    · replace hS := cond_f hc hS
      refine zlRun (n := 4) (j := 20) rfl (by kernel_rfl) ?_
      refine zlBool (d := 42) (op := (.cmpI .gtr (.tmp 41) (.const (.int .i64 1000)))) (g := (some (39, false))) (j := 21) (decide (1000 < a1.Col)) rfl (by kernel_rfl) (by kernel_rfl) (by kernel_rfl) (fun hc => ?_) (fun hc => ?_)
      · replace hS := cond_t hc hS
        refine zlRun (n := 29) (j := 50) rfl (by kernel_rfl) ?_
        refine zlEnd (by kernel_rfl) ?_
        refine zkSeq ?_
        exact f4_j6_ok hd a1 a2 hQ p51 true hS (by kernel_rfl)
      · replace hS := cond_f hc hS
        refine zlRun (n := 4) (j := 25) rfl (by kernel_rfl) ?_
        refine zlBool (d := 47) (op := (.cmpI .lss (.tmp 46) (.const (.int .i64 0)))) (g := (some (44, false))) (j := 26) (decide (a1.Row < 0)) rfl (by kernel_rfl) (by kernel_rfl) (by kernel_rfl) (fun hc => ?_) (fun hc => ?_)
        · replace hS := cond_t hc hS
          refine zlRun (n := 24) (j := 50) rfl (by kernel_rfl) ?_
          refine zlEnd (by kernel_rfl) ?_
          refine zkSeq ?_
          exact f4_j6_ok hd a1 a2 hQ p51 true hS (by kernel_rfl)
        · replace hS := cond_f hc hS
          refine zlRun (n := 4) (j := 30) rfl (by kernel_rfl) ?_
          refine zlBool (d := 52) (op := (.cmpI .gtr (.tmp 51) (.const (.int .i64 1000)))) (g := (some (49, false))) (j := 31) (decide (1000 < a1.Row)) rfl (by kernel_rfl) (by kernel_rfl) (by kernel_rfl) (fun hc => ?_) (fun hc => ?_)
          · replace hS := cond_t hc hS
            refine zlRun (n := 19) (j := 50) rfl (by kernel_rfl) ?_
            refine zlEnd (by kernel_rfl) ?_
            refine zkSeq ?_
            exact f4_j6_ok hd a1 a2 hQ p51 true hS (by kernel_rfl)
          · replace hS := cond_f hc hS
            refine zlRun (n := 4) (j := 35) rfl (by kernel_rfl) ?_
            refine zlBool (d := 57) (op := (.cmpI .lss (.tmp 56) (.const (.int .i64 0)))) (g := (some (54, false))) (j := 36) (decide (a1.Mods < 0)) rfl (by kernel_rfl) (by kernel_rfl) (by kernel_rfl) (fun hc => ?_) (fun hc => ?_)
            · replace hS := cond_t hc hS
              refine zlRun (n := 14) (j := 50) rfl (by kernel_rfl) ?_
              refine zlEnd (by kernel_rfl) ?_
              refine zkSeq ?_
              exact f4_j6_ok hd a1 a2 hQ p51 true hS (by kernel_rfl)
            · replace hS := cond_f hc hS
              refine zlRun (n := 4) (j := 40) rfl (by kernel_rfl) ?_
              refine zlBool (d := 62) (op := (.cmpI .gtr (.tmp 61) (.const (.int .i64 7)))) (g := (some (59, false))) (j := 41) (decide (7 < a1.Mods)) rfl (by kernel_rfl) (by kernel_rfl) (by kernel_rfl) (fun hc => ?_) (fun hc => ?_)
              · replace hS := cond_t hc hS
                refine zlRun (n := 9) (j := 50) rfl (by kernel_rfl) ?_
                refine zlEnd (by kernel_rfl) ?_
                refine zkSeq ?_
                exact f4_j6_ok hd a1 a2 hQ p51 true hS (by kernel_rfl)
              · replace hS := cond_f hc hS
                refine zlRun (n := 5) (j := 46) rfl (by kernel_rfl) ?_
                refine zlSplit 67 a1.Up (by kernel_rfl) (fun hc => ?_) (fun hc => ?_)
                · replace hS := cond_t hc hS
                  refine zlRun (n := 4) (j := 50) rfl (by kernel_rfl) ?_
                  refine zlEnd (by kernel_rfl) ?_
                  refine zkSeq ?_
                  exact f4_j6_ok hd a1 a2 hQ p51 p50 hS (by kernel_rfl)
                · replace hS := cond_f hc hS
                  refine zlRun (n := 4) (j := 50) rfl (by kernel_rfl) ?_
                  refine zlEnd (by kernel_rfl) ?_
                  refine zkSeq ?_
                  exact f4_j6_ok hd a1 a2 hQ p51 false hS (by kernel_rfl)
def f4_j0_J (a1 : GMouse) (a2 : Int) (p47 : Bool) : St := ⟨(up (up (up (fun _ => .un) 6 (.d (.bool p47))) 2 (.r (.ptr 24 0 0))) 1 (.d (.int .i64 a2))), (up (hB fun _ => 0) 24 ⟨0, some (.box ((.d (.int .i64 a1.Button)) :: ((.d (.int .i64 a1.Col)) :: ((.d (.int .i64 a1.Row)) :: ((.d (.int .i64 a1.Mods)) :: ((.d (.bool a1.Up)) :: []))))))⟩)⟩
noncomputable def f4_j0 (a1 : GMouse) (a2 : Int) (p47 : Bool) : Option ((List UInt8) × Int) := (bif (!decide ((bitI .and .i64 a2 1024) = 0)) then (f4_j1 a1 a2 p47 true) else (f4_j1 a1 a2 p47 false))
theorem f4_j0_ok {d : Nat} (hd : 1 ≤ d) (a1 : GMouse) (a2 : Int) {r : (List UInt8) × Int} {Q : PX → St → Prop} (hQ : ∀ e st', f4_Q r e st' → Q e st') (p47 : Bool) (hS : f4_j0 a1 a2 p47 = some r) {st : St} (he : keepSt [1, 2, 6] [(24, .id 24)] [] st = f4_j0_J a1 a2 p47) : ZR (lev codes baseL (d - 1)) Q c4_7 [] st := by
  refine zrKeep he ?_
  unfold f4_j0 at hS
  refine zrSeq ?_
  refine zrReg ?_
  refine zlRun (n := 2) (j := 2) rfl (by kernel_rfl) ?_
  refine zlBool (d := 20) (op := (.cmpI .neq (.tmp 19) (.const (.int .i64 0)))) (g := none) (j := 3) (!decide ((bitI .and .i64 a2 1024) = 0)) rfl (by kernel_rfl) (by kernel_rfl) (by kernel_rfl) (fun hc => ?_) (fun hc => ?_)
  · replace hS := cond_t hc hS
    refine zlRun (n := 1) (j := 4) rfl (by kernel_rfl) ?_
    refine zlEnd (by kernel_rfl) ?_
    refine zkSeq ?_
    exact f4_j1_ok hd a1 a2 hQ p47 true hS (by kernel_rfl)
  · replace hS := cond_f hc hS
    refine zlRun (n := 1) (j := 4) rfl (by kernel_rfl) ?_
    refine zlEnd (by kernel_rfl) ?_
    refine zkSeq ?_
    exact f4_j1_ok hd a1 a2 hQ p47 false hS (by kernel_rfl)
noncomputable def f4 (a1 : GMouse) (a2 : Int) : Option ((List UInt8) × Int) := (bif (decide (a1.Button = 64)) then (f4_j0 a1 a2 true) else (bif (decide (a1.Button = 65)) then (f4_j0 a1 a2 true) else (f4_j0 a1 a2 false)))
theorem f4_ok (d : Nat) (hd : 1 ≤ d) (a1 : GMouse) (a2 : Int) (r : (List UInt8) × Int) (hS : f4 a1 a2 = some r) : lev codes baseL d 4 [(.agg ((.d (.int .i64 a1.Button)) :: ((.d (.int .i64 a1.Col)) :: ((.d (.int .i64 a1.Row)) :: ((.d (.int .i64 a1.Mods)) :: ((.d (.bool a1.Up)) :: [])))))), (.d (.int .i64 a2))] [] = some ((.tup [(.d (.str r.1)), (.d (.int .i64 r.2))]), []) := by
  refine lev_go codes4 rfl rfl (Nat.le_trans (Nat.le_of_ble_eq_true rfl) hd) fun Q hQ => ?_
  unfold f4 at hS
  show ZR _ Q c4_b [] _
  replace hQ : ∀ e st', f4_Q r e st' → Q e st' := hQ
  refine zrSeq ?_
  refine zrReg ?_
  refine zlRun (n := 3) (j := 3) rfl (by kernel_rfl) ?_
  refine zlEnd (by kernel_rfl) ?_
  refine zkSeq ?_
  refine zrSeq ?_
  refine zrReg ?_
  refine zlRun (n := 2) (j := 2) rfl (by kernel_rfl) ?_
  refine zlBool (d := 12) (op := (.cmpI .eql (.tmp 11) (.const (.int .i64 64)))) (g := none) (j := 3) (decide (a1.Button = 64)) rfl (by kernel_rfl) (by kernel_rfl) (by kernel_rfl) (fun hc => ?_) (fun hc => ?_)
  · replace hS := cond_t hc hS
    refine zlRun (n := 6) (j := 9) rfl (by kernel_rfl) ?_
    refine zlEnd (by kernel_rfl) ?_
    refine zkSeq ?_
    exact f4_j0_ok hd a1 a2 hQ true hS (by kernel_rfl)
  · replace hS := cond_f hc hS
    refine zlRun (n := 3) (j := 6) rfl (by kernel_rfl) ?_
    refine zlBool (d := 16) (op := (.cmpI .eql (.tmp 15) (.const (.int .i64 65)))) (g := (some (13, false))) (j := 7) (decide (a1.Button = 65)) rfl (by kernel_rfl) (by kernel_rfl) (by kernel_rfl) (fun hc => ?_) (fun hc => ?_)
    · replace hS := cond_t hc hS
      refine zlRun (n := 2) (j := 9) rfl (by kernel_rfl) ?_
      refine zlEnd (by kernel_rfl) ?_
      refine zkSeq ?_
      exact f4_j0_ok hd a1 a2 hQ true hS (by kernel_rfl)
    · replace hS := cond_f hc hS
      refine zlRun (n := 2) (j := 9) rfl (by kernel_rfl) ?_
      refine zlEnd (by kernel_rfl) ?_
      refine zkSeq ?_
      exact f4_j0_ok hd a1 a2 hQ false hS (by kernel_rfl)
/- strings.TrimRight -/
theorem libTrimRightS_ok (d : Nat) (hd : 0 ≤ d) (a1 : List UInt8) (a2 : List UInt8) (r : List UInt8) (hS : libTrimRightS a1 a2 = some r) : lev codes baseL d 10 [(.d (.str a1)), (.d (.str a2))] [] = some ((.d (.str r)), []) := lib_call (l := libs) rfl rfl rfl (ossS_ hS) d
/- internal/stringslite.HasPrefix -/
def f32_fin (p3 : Bool) : St := ⟨(up (fun _ => .un) 4 (.d (.bool p3))), (hB fun _ => 0)⟩
theorem f32_out (p3 : Bool) : outR (f32_fin p3) 0 c32.res = some ((.d (.bool p3)), []) := by
  kernel_rfl
def f32_Q (r : Bool) (e : PX) (st : St) : Prop := DoneF c32 0 ((.d (.bool r)), []) e st
noncomputable def f32 (a1 : List UInt8) (a2 : List UInt8) : Option (Bool) := (bif (decide ((a2.length : Int) ≤ (a1.length : Int))) then ((sub? a1 0 (a2.length : Int)).bind fun z2 => (bif (decide (z2 = a2)) then (some true) else (some false))) else (some false))
theorem f32_ok (d : Nat) (hd : 1 ≤ d) (a1 : List UInt8) (a2 : List UInt8) (r : Bool) (hS : f32 a1 a2 = some r) : lev codes baseL d 32 [(.d (.str a1)), (.d (.str a2))] [] = some ((.d (.bool r)), []) := by
  refine lev_go codes32 rfl rfl (Nat.le_trans (Nat.le_of_ble_eq_true rfl) hd) fun Q hQ => ?_
  unfold f32 at hS
  show ZR _ Q c32_b [] _
  replace hQ : ∀ e st', f32_Q r e st' → Q e st' := hQ
  refine zrSeq ?_
  refine zrReg ?_
  refine zlRun (n := 1) (j := 1) rfl (by kernel_rfl) ?_
  refine zlEnd (by kernel_rfl) ?_
  refine zkSeq ?_
  refine zrSeq ?_
  refine zrReg ?_
  refine zlRun (n := 4) (j := 4) rfl (by kernel_rfl) ?_
  refine zlBool (d := 9) (op := (.cmpI .geq (.tmp 6) (.tmp 8))) (g := none) (j := 5) (decide ((a2.length : Int) ≤ (a1.length : Int))) rfl (by kernel_rfl) (by kernel_rfl) (by kernel_rfl) (fun hc => ?_) (fun hc => ?_)
  · replace hS := cond_t hc hS
    refine zlRun (n := 4) (j := 9) rfl (by kernel_rfl) ?_
    refine bindE hS (fun z2 hz2 hS => ?_)
    refine zlOp (d := some 14) (op := (.slStr (.tmp 11) .none (.some (.tmp 13)))) (g := (some (10, true))) (v := (.d (.str z2))) (ups := []) (j := 10) rfl (by kernel_rfl) (by kernel_rfl) (ev_slStr (s := a1) (a := 0) (c := (a2.length : Int)) (by kernel_rfl) (bnd_n 0) (bnd_s _ (kk := .i64) (j := (a2.length : Int)) (by kernel_rfl)) hz2) ?_
    refine zlRun (n := 1) (j := 11) rfl (by kernel_rfl) ?_
    refine zlBool (d := 16) (op := (.strO .eql (.tmp 14) (.tmp 15))) (g := (some (10, true))) (j := 12) (decide (z2 = a2)) rfl (by kernel_rfl) (by kernel_rfl) (by kernel_rfl) (fun hc => ?_) (fun hc => ?_)
    · replace hS := cond_t hc hS
      refine zlRun (n := 2) (j := 14) rfl (by kernel_rfl) ?_
      refine zlEnd (by kernel_rfl) ?_
      refine zkSeq ?_
      refine zrRet ?_
      refine zkNil ?_
      exact endQ hS hQ (fRet (by kernel_rfl) ((congrArg (fun s => outR s 0 c32.res) (by kernel_rfl : finSt c32.fin _ = f32_fin true)).trans (f32_out true)))
    · replace hS := cond_f hc hS
      refine zlRun (n := 2) (j := 14) rfl (by kernel_rfl) ?_
      refine zlEnd (by kernel_rfl) ?_
      refine zkSeq ?_
      refine zrRet ?_
      refine zkNil ?_
      exact endQ hS hQ (fRet (by kernel_rfl) ((congrArg (fun s => outR s 0 c32.res) (by kernel_rfl : finSt c32.fin _ = f32_fin false)).trans (f32_out false)))
  · replace hS := cond_f hc hS
    refine zlRun (n := 9) (j := 14) rfl (by kernel_rfl) ?_
    refine zlEnd (by kernel_rfl) ?_
    refine zkSeq ?_
    refine zrRet ?_
    refine zkNil ?_
    exact endQ hS hQ (fRet (by kernel_rfl) ((congrArg (fun s => outR s 0 c32.res) (by kernel_rfl : finSt c32.fin _ = f32_fin false)).trans (f32_out false)))
/- internal/stringslite.TrimPrefix -/
def f16_fin (p1 : List UInt8) : St := ⟨(up (fun _ => .un) 4 (.d (.str p1))), (hB fun _ => 0)⟩
theorem f16_out (p1 : List UInt8) : outR (f16_fin p1) 0 c16.res = some ((.d (.str p1)), []) := by
  kernel_rfl
def f16_Q (r : (List UInt8)) (e : PX) (st : St) : Prop := DoneF c16 0 ((.d (.str r)), []) e st
noncomputable def f16 (a1 : List UInt8) (a2 : List UInt8) : Option ((List UInt8)) := ((f32 a1 a2).bind fun z3 => (bif z3 then ((sub? a1 (a2.length : Int) (a1.length : Int)).bind fun z4 => (some z4)) else (some a1)))
theorem f16_ok (d : Nat) (hd : 2 ≤ d) (a1 : List UInt8) (a2 : List UInt8) (r : (List UInt8)) (hS : f16 a1 a2 = some r) : lev codes baseL d 16 [(.d (.str a1)), (.d (.str a2))] [] = some ((.d (.str r)), []) := by
  refine lev_go codes16 rfl rfl (Nat.le_trans (Nat.le_of_ble_eq_true rfl) hd) fun Q hQ => ?_
  unfold f16 at hS
  show ZR _ Q c16_b [] _
  replace hQ : ∀ e st', f16_Q r e st' → Q e st' := hQ
  refine zrSeq ?_
  refine zrReg ?_
  refine zlRun (n := 1) (j := 1) rfl (by kernel_rfl) ?_
  refine zlEnd (by kernel_rfl) ?_
  refine zkSeq ?_
  refine zrSeq ?_
  refine zrSeq ?_
  refine zrReg ?_
  refine zlRun (n := 2) (j := 2) rfl (by kernel_rfl) ?_
  refine bindE hS (fun z3 hz3 hS => ?_)
  refine zlOp (d := some 7) (op := (.call 32 [(.tmp 5), (.tmp 6)])) (g := none) (j := 3) rfl (by kernel_rfl) (by kernel_rfl) (ev_callA (by kernel_rfl) (f32_ok (d - 1) (dpt hd rfl) a1 a2 z3 hz3) (by kernel_rfl) (by kernel_rfl)) ?_
  refine zlEnd (by kernel_rfl) ?_
  refine zkSeq ?_
  refine zrSplit 7 z3 (by kernel_rfl) (fun hc => ?_) (fun hc => ?_)
  · replace hS := cond_t hc hS
    refine zrCondT (by kernel_rfl) ?_
    refine zrSeq ?_
    refine zrReg ?_
    refine zlRun (n := 3) (j := 3) rfl (by kernel_rfl) ?_
    refine bindE hS (fun z4 hz4 hS => ?_)
    refine zlOp (d := some 11) (op := (.slStr (.tmp 8) (.some (.tmp 10)) .none)) (g := none) (v := (.d (.str z4))) (ups := []) (j := 4) rfl (by kernel_rfl) (by kernel_rfl) (ev_slStr (s := a1) (a := (a2.length : Int)) (c := (a1.length : Int)) (by kernel_rfl) (bnd_s _ (kk := .i64) (j := (a2.length : Int)) (by kernel_rfl)) (bnd_n _) hz4) ?_
    refine zlRun (n := 1) (j := 5) rfl (by kernel_rfl) ?_
    refine zlEnd (by kernel_rfl) ?_
    refine zkSeq ?_
    refine zrRet ?_
    refine zkSeqR ?_
    refine zkNil ?_
    exact endQ hS hQ (fRet (by kernel_rfl) ((congrArg (fun s => outR s 0 c16.res) (by kernel_rfl : finSt c16.fin _ = f16_fin z4)).trans (f16_out z4)))
  · replace hS := cond_f hc hS
    refine zrCondF (by kernel_rfl) ?_
    refine zrSkip ?_
    refine zkSeq ?_
    refine zrSeq ?_
    refine zrReg ?_
    refine zlRun (n := 2) (j := 2) rfl (by kernel_rfl) ?_
    refine zlEnd (by kernel_rfl) ?_
    refine zkSeq ?_
    refine zrRet ?_
    refine zkNil ?_
    exact endQ hS hQ (fRet (by kernel_rfl) ((congrArg (fun s => outR s 0 c16.res) (by kernel_rfl : finSt c16.fin _ = f16_fin a1)).trans (f16_out a1)))
/- strings.TrimPrefix -/
def f9_fin (p1 : List UInt8) : St := ⟨(up (fun _ => .un) 4 (.d (.str p1))), (hB fun _ => 0)⟩
theorem f9_out (p1 : List UInt8) : outR (f9_fin p1) 0 c9.res = some ((.d (.str p1)), []) := by
  kernel_rfl
def f9_Q (r : (List UInt8)) (e : PX) (st : St) : Prop := DoneF c9 0 ((.d (.str r)), []) e st
noncomputable def f9 (a1 : List UInt8) (a2 : List UInt8) : Option ((List UInt8)) := ((f16 a1 a2).bind fun z2 => (some z2))
theorem f9_ok (d : Nat) (hd : 3 ≤ d) (a1 : List UInt8) (a2 : List UInt8) (r : (List UInt8)) (hS : f9 a1 a2 = some r) : lev codes baseL d 9 [(.d (.str a1)), (.d (.str a2))] [] = some ((.d (.str r)), []) := by
  refine lev_go codes9 rfl rfl (Nat.le_trans (Nat.le_of_ble_eq_true rfl) hd) fun Q hQ => ?_
  unfold f9 at hS
  show ZR _ Q c9_b [] _
  replace hQ : ∀ e st', f9_Q r e st' → Q e st' := hQ
  refine zrSeq ?_
  refine zrReg ?_
  refine zlRun (n := 1) (j := 1) rfl (by kernel_rfl) ?_
  refine zlEnd (by kernel_rfl) ?_
  refine zkSeq ?_
  refine zrSeq ?_
  refine zrReg ?_
  refine zlRun (n := 2) (j := 2) rfl (by kernel_rfl) ?_
  refine bindE hS (fun z2 hz2 hS => ?_)
  refine zlOp (d := some 7) (op := (.call 16 [(.tmp 5), (.tmp 6)])) (g := none) (j := 3) rfl (by kernel_rfl) (by kernel_rfl) (ev_callA (by kernel_rfl) (f16_ok (d - 1) (dpt hd rfl) a1 a2 z2 hz2) (by kernel_rfl) (by kernel_rfl)) ?_
  refine zlRun (n := 1) (j := 4) rfl (by kernel_rfl) ?_
  refine zlEnd (by kernel_rfl) ?_
  refine zkSeq ?_
  refine zrRet ?_
  refine zkNil ?_
  exact endQ hS hQ (fRet (by kernel_rfl) ((congrArg (fun s => outR s 0 c9.res) (by kernel_rfl : finSt c9.fin _ = f9_fin z2)).trans (f9_out z2)))
/- strings.Split -/
theorem libSplit_ok (d : Nat) (hd : 0 ≤ d) (a1 : List UInt8) (a2 : List UInt8) (r : List (List UInt8)) (hS : libSplit a1 a2 = some r) : lev codes baseL d 8 [(.d (.str a1)), (.d (.str a2))] [] = some ((.d (.sl r.length (eStr.cells r))), []) := lib_call (l := libs) rfl rfl rfl (ossL_ hS) d
/- strconv.Atoi -/
theorem libAtoi_ok (d : Nat) (hd : 0 ≤ d) (a1 : List UInt8) (r : (Int × Bool)) (hS : libAtoi a1 = some r) : lev codes baseL d 11 [(.d (.str a1))] [] = some ((.tup [.d (.int .i64 r.1), .d (.err r.2)]), []) := lib_call (l := libs) rfl rfl rfl (osE_ hS) d
/- strings.HasSuffix -/
theorem libHasSuffix_ok (d : Nat) (hd : 0 ≤ d) (a1 : List UInt8) (a2 : List UInt8) (r : Bool) (hS : libHasSuffix a1 a2 = some r) : lev codes baseL d 12 [(.d (.str a1)), (.d (.str a2))] [] = some ((.d (.bool r)), []) := lib_call (l := libs) rfl rfl rfl (ossB_ hS) d
/- farwriter/press.Unmouse -/
def f5_fin (p30 : GMouse) (p31 : Int) : St := ⟨(up (up (fun _ => .un) 3 (.d (.int .i64 p31))) 2 (.r (.ptr 24 0 0))), (up (hB fun _ => 0) 24 ⟨0, some (.box ((.d (.int .i64 p30.Button)) :: ((.d (.int .i64 p30.Col)) :: ((.d (.int .i64 p30.Row)) :: ((.d (.int .i64 p30.Mods)) :: ((.d (.bool p30.Up)) :: []))))))⟩)⟩
theorem f5_out (p30 : GMouse) (p31 : Int) : outR (f5_fin p30 p31) 0 c5.res = some ((.tup [(.agg ((.d (.int .i64 p30.Button)) :: ((.d (.int .i64 p30.Col)) :: ((.d (.int .i64 p30.Row)) :: ((.d (.int .i64 p30.Mods)) :: ((.d (.bool p30.Up)) :: [])))))), (.d (.int .i64 p31))]), []) := by
  kernel_rfl
def f5_Q (r : GMouse × Int) (e : PX) (st : St) : Prop := DoneF c5 0 ((.tup [(.agg ((.d (.int .i64 r.1.Button)) :: ((.d (.int .i64 r.1.Col)) :: ((.d (.int .i64 r.1.Row)) :: ((.d (.int .i64 r.1.Mods)) :: ((.d (.bool r.1.Up)) :: [])))))), (.d (.int .i64 r.2))]), []) e st
def f5_j1_J (a1 : List UInt8) (p59 : Nat → Int) : St := ⟨(up (up (up (fun _ => .un) 5 (.r (.ptr 48 0 0))) 2 (.r (.ptr 24 0 0))) 0 (.d (.str a1))), (up (up (hB fun _ => 0) 48 ⟨0, some (.box (((eInt .i64).row 3 p59) ++ []))⟩) 24 ⟨0, some (.box ((.d (.int .i64 0)) :: ((.d (.int .i64 0)) :: ((.d (.int .i64 0)) :: ((.d (.int .i64 0)) :: ((.d (.bool false)) :: []))))))⟩)⟩
noncomputable def f5_j1 (a1 : List UInt8) (p59 : Nat → Int) : Option (GMouse × Int) := ((libHasSuffix a1 [109]).bind fun z25 => ((f4 (GMouse.mk (bitI .andNot .i64 (p59 0) 28) (IntKind.i64.wrap ((p59 1) - 1)) (IntKind.i64.wrap ((p59 2) - 1)) (bitI .and .i64 (Int.fdiv (p59 0) (2 ^ 2)) 7) z25) 1536).bind fun z26 => (bif (!decide (z26.2 = 0)) then (some ((GMouse.mk 0 0 0 0 false), 4)) else (bif (!decide (z26.1 = a1)) then (some ((GMouse.mk 0 0 0 0 false), 4)) else (some ((GMouse.mk (bitI .andNot .i64 (p59 0) 28) (IntKind.i64.wrap ((p59 1) - 1)) (IntKind.i64.wrap ((p59 2) - 1)) (bitI .and .i64 (Int.fdiv (p59 0) (2 ^ 2)) 7) z25), 0))))))
theorem f5_j1_ok {d : Nat} (hd : 4 ≤ d) (a1 : List UInt8) {r : GMouse × Int} {Q : PX → St → Prop} (hQ : ∀ e st', f5_Q r e st' → Q e st') (p59 : Nat → Int) (hS : f5_j1 a1 p59 = some r) {st : St} (he : keepSt [0, 2, 5] [(24, .id 24), (48, .id 48)] [] st = f5_j1_J a1 p59) : ZR (lev codes baseL (d - 1)) Q c5_1 [] st := by
  refine zrKeep he ?_
  unfold f5_j1 at hS
  refine zrSeq ?_
  refine zrRegD ?_
  refine zdRun (n := 14) (j := 14) (ts := [[], [(48, false)], [], [], [(48, false)], [], [], [(48, false)], [], [], [(48, false)], [], [], []]) (acc' := [[], [(48, false)], [], [], [(48, false)], [], [], [(48, false)], [], [], [(48, false)], [], [], []]) rfl (by kernel_rfl) (by kernel_rfl) (by kernel_rfl) ?_
  refine bindE hS (fun z25 hz25 hS => ?_)
  refine zdOp (d := some 52) (op := (.call 12 [(.tmp 51), (.const (.string ⟨#[109]⟩))])) (g := none) (j := 15) (t1 := [(424, true), (425, true), (426, true), (427, true), (428, true), (429, true), (430, true), (431, true)]) (acc' := [[], [(48, false)], [], [], [(48, false)], [], [], [(48, false)], [], [], [(48, false)], [], [], [], [(424, true), (425, true), (426, true), (427, true), (428, true), (429, true), (430, true), (431, true)]]) (by kernel_rfl) (by kernel_rfl) rfl (by kernel_rfl) (by kernel_rfl) (ev_callA (by kernel_rfl) (libHasSuffix_ok (d - 1) (dpt hd rfl) a1 [109] z25 hz25) (by kernel_rfl) (by kernel_rfl)) ?_
  refine zdRun (n := 3) (j := 18) (ts := [[], [(80, true)], [(80, true)]]) (acc' := [[], [(48, false)], [], [], [(48, false)], [], [], [(48, false)], [], [], [(48, false)], [], [], [], [(424, true), (425, true), (426, true), (427, true), (428, true), (429, true), (430, true), (431, true)], [], [(80, true)], [(80, true)]]) rfl (by kernel_rfl) (by kernel_rfl) (by kernel_rfl) ?_
  refine zdEnd (by kernel_rfl) (by kernel_rfl) ?_
  refine zkSeq ?_
  refine zrSeq ?_
  refine zrSeq ?_
  refine zrReg ?_
  refine zlRun (n := 1) (j := 1) rfl (by kernel_rfl) ?_
  refine bindE hS (fun z26 hz26 hS => ?_)
  refine zlOp (d := some 56) (op := (.call 4 [(.tmp 55), (.const (.int .i64 1536))])) (g := none) (j := 2) rfl (by kernel_rfl) (by kernel_rfl) (ev_callA (by kernel_rfl) (f4_ok (d - 1) (dpt hd rfl) (GMouse.mk (bitI .andNot .i64 (p59 0) 28) (IntKind.i64.wrap ((p59 1) - 1)) (IntKind.i64.wrap ((p59 2) - 1)) (bitI .and .i64 (Int.fdiv (p59 0) (2 ^ 2)) 7) z25) 1536 z26 hz26) (by kernel_rfl) (by kernel_rfl)) ?_
  refine zlRun (n := 5) (j := 7) rfl (by kernel_rfl) ?_
  refine zlEnd (by kernel_rfl) ?_
  refine zkSeq ?_
  refine zrSeq ?_
  refine zrReg ?_
  refine zlRun (n := 1) (j := 1) rfl (by kernel_rfl) ?_
  refine zlBool (d := 60) (op := (.cmpI .neq (.tmp 59) (.const (.int .i64 0)))) (g := none) (j := 2) (!decide (z26.2 = 0)) rfl (by kernel_rfl) (by kernel_rfl) (by kernel_rfl) (fun hc => ?_) (fun hc => ?_)
  · replace hS := cond_t hc hS
    refine zlRun (n := 5) (j := 7) rfl (by kernel_rfl) ?_
    refine zlEnd (by kernel_rfl) ?_
    refine zkSeq ?_
    refine zrCondT (by kernel_rfl) ?_
    refine zrSeq ?_
    refine zrReg ?_
    refine zlRun (n := 3) (j := 3) rfl (by kernel_rfl) ?_
    refine zlEnd (by kernel_rfl) ?_
    refine zkSeq ?_
    refine zrRet ?_
    refine zkSeqR ?_
    refine zkNil ?_
    exact endQ hS hQ (fRet (by kernel_rfl) ((congrArg (fun s => outR s 0 c5.res) (by kernel_rfl : finSt c5.fin _ = f5_fin (GMouse.mk 0 0 0 0 false) 4)).trans (f5_out (GMouse.mk 0 0 0 0 false) 4)))
  · replace hS := cond_f hc hS
    refine zlRun (n := 3) (j := 5) rfl (by kernel_rfl) ?_
    refine zlBool (d := 64) (op := (.strO .neq (.tmp 62) (.tmp 63))) (g := (some (61, false))) (j := 6) (!decide (z26.1 = a1)) rfl (by kernel_rfl) (by kernel_rfl) (by kernel_rfl) (fun hc => ?_) (fun hc => ?_)
    · replace hS := cond_t hc hS
      refine zlRun (n := 1) (j := 7) rfl (by kernel_rfl) ?_
      refine zlEnd (by kernel_rfl) ?_
      refine zkSeq ?_
      refine zrCondT (by kernel_rfl) ?_
      refine zrSeq ?_
      refine zrReg ?_
      refine zlRun (n := 3) (j := 3) rfl (by kernel_rfl) ?_
      refine zlEnd (by kernel_rfl) ?_
      refine zkSeq ?_
      refine zrRet ?_
      refine zkSeqR ?_
      refine zkNil ?_
      exact endQ hS hQ (fRet (by kernel_rfl) ((congrArg (fun s => outR s 0 c5.res) (by kernel_rfl : finSt c5.fin _ = f5_fin (GMouse.mk 0 0 0 0 false) 4)).trans (f5_out (GMouse.mk 0 0 0 0 false) 4)))
    · replace hS := cond_f hc hS
      refine zlRun (n := 1) (j := 7) rfl (by kernel_rfl) ?_
      refine zlEnd (by kernel_rfl) ?_
      refine zkSeq ?_
      refine zrCondF (by kernel_rfl) ?_
      refine zrSkip ?_
      refine zkSeq ?_
      refine zrSeq ?_
      refine zrReg ?_
      refine zlRun (n := 3) (j := 3) rfl (by kernel_rfl) ?_
      refine zlEnd (by kernel_rfl) ?_
      refine zkSeq ?_
      refine zrRet ?_
      refine zkNil ?_
      exact endQ hS hQ (fRet (by kernel_rfl) ((congrArg (fun s => outR s 0 c5.res) (by kernel_rfl : finSt c5.fin _ = f5_fin (GMouse.mk (bitI .andNot .i64 (p59 0) 28) (IntKind.i64.wrap ((p59 1) - 1)) (IntKind.i64.wrap ((p59 2) - 1)) (bitI .and .i64 (Int.fdiv (p59 0) (2 ^ 2)) 7) z25) 0)).trans (f5_out (GMouse.mk (bitI .andNot .i64 (p59 0) 28) (IntKind.i64.wrap ((p59 1) - 1)) (IntKind.i64.wrap ((p59 2) - 1)) (bitI .and .i64 (Int.fdiv (p59 0) (2 ^ 2)) 7) z25) 0)))
def f5_l2_J (a1 : List UInt8) (x : (Nat → Int) × (List (List UInt8)) × Int × Int) : St := ⟨(up (up (up (up (up (up (fun _ => .un) 22 (.d (.int .i64 x.2.2.2))) 21 (.d (.int .i64 x.2.2.1))) 20 (.d (.sl x.2.1.length (eStr.cells x.2.1)))) 5 (.r (.ptr 48 0 0))) 2 (.r (.ptr 24 0 0))) 0 (.d (.str a1))), (up (up (hB fun _ => 0) 48 ⟨0, some (.box (((eInt .i64).row 3 x.1) ++ []))⟩) 24 ⟨0, some (.box ((.d (.int .i64 0)) :: ((.d (.int .i64 0)) :: ((.d (.int .i64 0)) :: ((.d (.int .i64 0)) :: ((.d (.bool false)) :: []))))))⟩)⟩
def f5_l2_H (a1 : List UInt8) (x : (Nat → Int) × (List (List UInt8)) × Int × Int) (st : St) : Prop := keepSt [0, 2, 5, 20, 21, 22] [(24, .id 24), (48, .id 48)] [] st = f5_l2_J a1 x
def f5_l2_e0_J (a1 : List UInt8) (p58 : Nat → Int) : St := ⟨(up (up (up (fun _ => .un) 5 (.r (.ptr 48 0 0))) 2 (.r (.ptr 24 0 0))) 0 (.d (.str a1))), (up (up (hB fun _ => 0) 48 ⟨0, some (.box (((eInt .i64).row 3 p58) ++ []))⟩) 24 ⟨0, some (.box ((.d (.int .i64 0)) :: ((.d (.int .i64 0)) :: ((.d (.int .i64 0)) :: ((.d (.int .i64 0)) :: ((.d (.bool false)) :: []))))))⟩)⟩
def f5_l2_X (a1 : List UInt8) (z : ((Nat → Int)) ⊕ (GMouse × Int)) (e : PX) (st : St) : Prop := (match z with | .inl z => e = .exit 0 ∧ st = f5_l2_e0_J a1 z | .inr z => e = .ret ∧ finSt c5.fin st = f5_fin z.1 z.2)
def f5_l2_j4_J (a1 : List UInt8) (p70 : Nat → Int) (p71 : List (List UInt8)) (p72 : Int) (p73 : Int) : St := ⟨(up (up (up (up (up (up (fun _ => .un) 22 (.d (.int .i64 p73))) 21 (.d (.int .i64 p72))) 20 (.d (.sl p71.length (eStr.cells p71)))) 5 (.r (.ptr 48 0 0))) 2 (.r (.ptr 24 0 0))) 0 (.d (.str a1))), (up (up (hB fun _ => 0) 48 ⟨0, some (.box (((eInt .i64).row 3 p70) ++ []))⟩) 24 ⟨0, some (.box ((.d (.int .i64 0)) :: ((.d (.int .i64 0)) :: ((.d (.int .i64 0)) :: ((.d (.int .i64 0)) :: ((.d (.bool false)) :: []))))))⟩)⟩
noncomputable def f5_l2_j4 (a1 : List UInt8) (p70 : Nat → Int) (p71 : List (List UInt8)) (p72 : Int) (p73 : Int) : Option (((Nat → Int) × (List (List UInt8)) × Int × Int) ⊕ (((Nat → Int)) ⊕ (GMouse × Int))) := ((idx p71 p73).bind fun z27 => ((libAtoi z27).bind fun z28 => ((inR p73 3).bind fun m29 => (bif z28.2 then (some (.inr (.inr ((GMouse.mk 0 0 0 0 false), 4)))) else (some (.inl ((upd p70 m29 z28.1), p71, p72, (IntKind.i64.wrap (p73 + 1)))))))))
theorem f5_l2_j4_ok {d : Nat} (hd : 4 ≤ d) (a1 : List UInt8) {r : ((Nat → Int) × (List (List UInt8)) × Int × Int) ⊕ (((Nat → Int)) ⊕ (GMouse × Int))} {Q : PX → St → Prop} (hQ : ∀ e st', finL (f5_l2_H a1) (f5_l2_X a1) r e st' → Q e st') (p70 : Nat → Int) (p71 : List (List UInt8)) (p72 : Int) (p73 : Int) (hS : f5_l2_j4 a1 p70 p71 p72 p73 = some r) {st : St} (he : keepSt [0, 2, 5, 20, 21, 22] [(24, .id 24), (48, .id 48)] [] st = f5_l2_j4_J a1 p70 p71 p72 p73) : ZR (lev codes baseL (d - 1)) Q c5_2 [] st := by
  refine zrKeep he ?_
  unfold f5_l2_j4 at hS
  refine zrSeq ?_
  refine zrBlk ?_
  refine zrSeq ?_
  refine zrReg ?_
  refine zlRun (n := 1) (j := 1) rfl (by kernel_rfl) ?_
  refine bindE hS (fun z27 hz27 hS => ?_)
  refine zlOp (d := some 25) (op := (.ixS 9 1 (.tmp 20) (.tmp 22))) (g := none) (v := (.rptr (eStr.enc z27 ++ (eStr.cells (p71.drop ((p73 : Int).toNat + 1)))))) (ups := []) (j := 2) rfl (by kernel_rfl) (by kernel_rfl) (ev_ixS eStr (kk := .i64) (xs := p71) (j := p73) (by kernel_rfl) (by kernel_rfl) hz27 rfl (by intro h; cases h)) ?_
  refine zlRun (n := 3) (j := 5) rfl (by kernel_rfl) ?_
  refine zlEnd (by kernel_rfl) ?_
  refine zkSeq ?_
  refine zrSeq ?_
  refine zrReg ?_
  refine zlRun (n := 1) (j := 1) rfl (by kernel_rfl) ?_
  refine zlEnd (by kernel_rfl) ?_
  refine zkSeq ?_
  refine zrSeq ?_
  refine zrReg ?_
  refine zlRun (n := 2) (j := 2) rfl (by kernel_rfl) ?_
  refine bindE hS (fun z28 hz28 hS => ?_)
  refine zlOp (d := some 30) (op := (.call 11 [(.tmp 29)])) (g := none) (j := 3) rfl (by kernel_rfl) (by kernel_rfl) (ev_callA (by kernel_rfl) (libAtoi_ok (d - 1) (dpt hd rfl) z27 z28 hz28) (by kernel_rfl) (by kernel_rfl)) ?_
  refine zlRun (n := 3) (j := 6) rfl (by kernel_rfl) ?_
  refine bindE hS (fun m29 hm29 hS => ?_)
  refine zlOp (d := some 33) (op := (.ixA 3 1 (.tmp 5) (.tmp 28))) (g := none) (v := (.r (.ptr 48 0 (0 + m29 * 1)))) (ups := []) (j := 7) rfl (by kernel_rfl) (by kernel_rfl) (ev_ixA (kk := .i64) (b := 48) (g := 0) (o := 0) (j := p73) (by kernel_rfl) (by kernel_rfl) hm29) ?_
  refine zlOp (d := none) (op := (.store 1 (.tmp 33) (.tmp 31))) (g := none) (v := .un) (ups := [(48, ⟨0, some (.box (((eInt .i64).row 3 (upd p70 m29 z28.1)) ++ []))⟩)]) (j := 8) rfl (by kernel_rfl) (by kernel_rfl) (ev_storeA (eInt .i64) (b := 48) (g := 0) (o := 0 + m29 * 1) (f := p70) (nn := 3) (m := m29) (fo := 0) (pre := []) (post := []) (by kernel_rfl) (by kernel_rfl) (by kernel_rfl) (inR_lt hm29) (new := ((.d (.int .i64 z28.1)) :: [])) (ds := [.int .i64 z28.1]) (z' := z28.1) (by kernel_rfl) (by kernel_rfl) (by kernel_rfl) (by kernel_rfl) (by kernel_rfl) (by kernel_rfl)) ?_
  refine zlRun (n := 1) (j := 9) rfl (by kernel_rfl) ?_
  refine zlEnd (by kernel_rfl) ?_
  refine zkSeq ?_
  refine zrSeq ?_
  refine zrReg ?_
  refine zlRun (n := 2) (j := 2) rfl (by kernel_rfl) ?_
  refine zlEnd (by kernel_rfl) ?_
  refine zkSeq ?_
  refine zrSplit 35 z28.2 (by kernel_rfl) (fun hc => ?_) (fun hc => ?_)
  · replace hS := cond_t hc hS
    refine zrCondT (by kernel_rfl) ?_
    refine zrSeq ?_
    refine zrReg ?_
    refine zlRun (n := 3) (j := 3) rfl (by kernel_rfl) ?_
    refine zlEnd (by kernel_rfl) ?_
    refine zkSeq ?_
    refine zrRet ?_
    refine zkBlkR ?_
    refine zkSeqR ?_
    refine zkNil ?_
    exact endQ hS hQ (finL_x (by intro h; cases h) (by show _ = _ ∧ _ = _; exact ⟨rfl, by kernel_rfl⟩))
  · replace hS := cond_f hc hS
    refine zrCondF (by kernel_rfl) ?_
    refine zrSkip ?_
    refine zkBlk ?_
    refine zkSeq ?_
    refine zrReg ?_
    refine zlRun (n := 2) (j := 2) rfl (by kernel_rfl) ?_
    refine zlEnd (by kernel_rfl) ?_
    refine zkNil ?_
    exact endQ hS hQ (finL_n (by show keepSt _ _ _ _ = _; kernel_rfl))
def f5_l2_j3_J (a1 : List UInt8) (p65 : Nat → Int) (p66 : List (List UInt8)) (p67 : Int) (p68 : Int) (p69 : Bool) : St := ⟨(up (up (up (up (up (up (up (fun _ => .un) 23 (.d (.bool p69))) 22 (.d (.int .i64 p68))) 21 (.d (.int .i64 p67))) 20 (.d (.sl p66.length (eStr.cells p66)))) 5 (.r (.ptr 48 0 0))) 2 (.r (.ptr 24 0 0))) 0 (.d (.str a1))), (up (up (hB fun _ => 0) 48 ⟨0, some (.box (((eInt .i64).row 3 p65) ++ []))⟩) 24 ⟨0, some (.box ((.d (.int .i64 0)) :: ((.d (.int .i64 0)) :: ((.d (.int .i64 0)) :: ((.d (.int .i64 0)) :: ((.d (.bool false)) :: []))))))⟩)⟩
noncomputable def f5_l2_j3 (a1 : List UInt8) (p65 : Nat → Int) (p66 : List (List UInt8)) (p67 : Int) (p68 : Int) (p69 : Bool) : Option (((Nat → Int) × (List (List UInt8)) × Int × Int) ⊕ (((Nat → Int)) ⊕ (GMouse × Int))) := (bif p69 then (f5_l2_j4 a1 p65 p66 p67 p68) else (some (.inr (.inl p65))))
theorem f5_l2_j3_ok {d : Nat} (hd : 4 ≤ d) (a1 : List UInt8) {r : ((Nat → Int) × (List (List UInt8)) × Int × Int) ⊕ (((Nat → Int)) ⊕ (GMouse × Int))} {Q : PX → St → Prop} (hQ : ∀ e st', finL (f5_l2_H a1) (f5_l2_X a1) r e st' → Q e st') (p65 : Nat → Int) (p66 : List (List UInt8)) (p67 : Int) (p68 : Int) (p69 : Bool) (hS : f5_l2_j3 a1 p65 p66 p67 p68 p69 = some r) {st : St} (he : keepSt [0, 2, 5, 20, 21, 22, 23] [(24, .id 24), (48, .id 48)] [] st = f5_l2_j3_J a1 p65 p66 p67 p68 p69) : ZR (lev codes baseL (d - 1)) Q c5_3 [] st := by
  refine zrKeep he ?_
  unfold f5_l2_j3 at hS
  refine zrSeq ?_
  refine zrSplit 23 p69 (by kernel_rfl) (fun hc => ?_) (fun hc => ?_)
  · replace hS := cond_t hc hS
    refine zrCondT (by kernel_rfl) ?_
    refine zrSkip ?_
    refine zkSeq ?_
    exact f5_l2_j4_ok hd a1 hQ p65 p66 p67 p68 hS (by kernel_rfl)
  · replace hS := cond_f hc hS
    refine zrCondF (by kernel_rfl) ?_
    refine zrKeep (J := f5_l2_e0_J a1 p65) (by kernel_rfl) ?_
    refine zrExit ?_
    refine zkSeqX ?_
    refine zkNil ?_
    exact endQ hS hQ (finL_x (by intro h; cases h) (by show _ = _ ∧ _ = _; exact ⟨rfl, rfl⟩))
noncomputable def f5_l2 (a1 : List UInt8) (x : (Nat → Int) × (List (List UInt8)) × Int × Int) : Option (((Nat → Int) × (List (List UInt8)) × Int × Int) ⊕ (((Nat → Int)) ⊕ (GMouse × Int))) := (bif (decide (x.2.2.2 < x.2.2.1)) then (f5_l2_j3 a1 x.1 x.2.1 x.2.2.1 x.2.2.2 true) else (f5_l2_j3 a1 x.1 x.2.1 x.2.2.1 x.2.2.2 false))
theorem f5_l2_ok {d : Nat} (hd : 4 ≤ d) (a1 : List UInt8) {r : ((Nat → Int) × (List (List UInt8)) × Int × Int) ⊕ (((Nat → Int)) ⊕ (GMouse × Int))} {Q : PX → St → Prop} (hQ : ∀ e st', finL (f5_l2_H a1) (f5_l2_X a1) r e st' → Q e st') {x : (Nat → Int) × (List (List UInt8)) × Int × Int} (hS : f5_l2 a1 x = some r) {st : St} (he : f5_l2_H a1 x st) : ZR (lev codes baseL (d - 1)) Q c5_4 [] st := by
  refine zrKeep he ?_
  unfold f5_l2 at hS
  refine zrSeq ?_
  refine zrReg ?_
  refine zlBool (d := 23) (op := (.cmpI .lss (.tmp 22) (.tmp 21))) (g := none) (j := 1) (decide (x.2.2.2 < x.2.2.1)) rfl (by kernel_rfl) (by kernel_rfl) (by kernel_rfl) (fun hc => ?_) (fun hc => ?_)
  · replace hS := cond_t hc hS
    refine zlEnd (by kernel_rfl) ?_
    refine zkSeq ?_
    exact f5_l2_j3_ok hd a1 hQ x.1 x.2.1 x.2.2.1 x.2.2.2 true hS (by kernel_rfl)
  · replace hS := cond_f hc hS
    refine zlEnd (by kernel_rfl) ?_
    refine zkSeq ?_
    exact f5_l2_j3_ok hd a1 hQ x.1 x.2.1 x.2.2.1 x.2.2.2 false hS (by kernel_rfl)
def f5_j0_J (a1 : List UInt8) (p34 : List (List UInt8)) : St := ⟨(up (up (up (fun _ => .un) 4 (.d (.sl p34.length (eStr.cells p34)))) 2 (.r (.ptr 24 0 0))) 0 (.d (.str a1))), (up (hB fun _ => 0) 24 ⟨0, some (.box ((.d (.int .i64 0)) :: ((.d (.int .i64 0)) :: ((.d (.int .i64 0)) :: ((.d (.int .i64 0)) :: ((.d (.bool false)) :: []))))))⟩)⟩
noncomputable def f5_j0 (a1 : List UInt8) (p34 : List (List UInt8)) : Option (GMouse × Int) := ((loopO (f5_l2 a1) ((fun _ => 0), p34, (p34.length : Int), 0)).bind fun z30 => (Sum.elim (fun z31 => (f5_j1 a1 z31)) (fun z32 => (some (z32.1, z32.2))) z30))
theorem f5_j0_ok {d : Nat} (hd : 4 ≤ d) (a1 : List UInt8) {r : GMouse × Int} {Q : PX → St → Prop} (hQ : ∀ e st', f5_Q r e st' → Q e st') (p34 : List (List UInt8)) (hS : f5_j0 a1 p34 = some r) {st : St} (he : keepSt [0, 2, 4] [(24, .id 24)] [] st = f5_j0_J a1 p34) : ZR (lev codes baseL (d - 1)) Q c5_5 [] st := by
  refine zrKeep he ?_
  unfold f5_j0 at hS
  refine zrSeq ?_
  refine zrReg ?_
  refine zlRun (n := 1) (j := 1) rfl (by kernel_rfl) ?_
  refine zlEnd (by kernel_rfl) ?_
  refine zkSeq ?_
  refine zrSeq ?_
  refine zrSeq ?_
  refine zrReg ?_
  refine zlRun (n := 3) (j := 3) rfl (by kernel_rfl) ?_
  refine zlEnd (by kernel_rfl) ?_
  refine zkSeq ?_
  refine zrBlk ?_
  refine bindE hS (fun z30 hz30 hS => ?_)
  refine zrLoop (f5_l2_H a1) (f5_l2_X a1) (fun x st r Q h0 hS hQ => f5_l2_ok hd a1 hQ hS h0) (x := ((fun _ => 0), p34, (p34.length : Int), 0)) (z := z30) (by show keepSt _ _ _ _ = _; kernel_rfl) hz30 ?_
  rcases z30 with z31 | z32
  · replace hS := (show _ = _ from hS)
    simp only [Sum.elim_inl] at hS
    intro e st' _ hX
    obtain ⟨rfl, rfl⟩ : _ ∧ _ := hX
    refine zkBlkX ?_
    refine zkSeq ?_
    exact f5_j1_ok hd a1 hQ z31 hS (by kernel_rfl)
  · simp only [Sum.elim_inr] at hS
    intro e st' _ hX
    obtain ⟨rfl, hX⟩ : _ ∧ _ := hX
    refine zkBlkR ?_
    refine zkSeqR ?_
    refine zkNil ?_
    exact endQ hS hQ (fRet (by kernel_rfl) ((congrArg (fun s => outR s 0 c5.res) hX).trans (f5_out z32.1 z32.2)))
noncomputable def f5 (a1 : List UInt8) : Option (GMouse × Int) := ((libTrimRightS a1 [109, 77]).bind fun z14 => ((f9 z14 [27, 91, 60]).bind fun z15 => ((libSplit z15 [59]).bind fun z16 => (bif (!decide ((z16.length : Int) = 3)) then (some ((GMouse.mk 0 0 0 0 false), 4)) else (f5_j0 a1 z16)))))
theorem f5_ok (d : Nat) (hd : 4 ≤ d) (a1 : List UInt8) (r : GMouse × Int) (hS : f5 a1 = some r) : lev codes baseL d 5 [(.d (.str a1))] [] = some ((.tup [(.agg ((.d (.int .i64 r.1.Button)) :: ((.d (.int .i64 r.1.Col)) :: ((.d (.int .i64 r.1.Row)) :: ((.d (.int .i64 r.1.Mods)) :: ((.d (.bool r.1.Up)) :: [])))))), (.d (.int .i64 r.2))]), []) := by
  refine lev_go codes5 rfl rfl (Nat.le_trans (Nat.le_of_ble_eq_true rfl) hd) fun Q hQ => ?_
  unfold f5 at hS
  show ZR _ Q c5_b [] _
  replace hQ : ∀ e st', f5_Q r e st' → Q e st' := hQ
  refine zrSeq ?_
  refine zrReg ?_
  refine zlRun (n := 2) (j := 2) rfl (by kernel_rfl) ?_
  refine zlEnd (by kernel_rfl) ?_
  refine zkSeq ?_
  refine zrSeq ?_
  refine zrReg ?_
  refine zlRun (n := 1) (j := 1) rfl (by kernel_rfl) ?_
  refine bindE hS (fun z14 hz14 hS => ?_)
  refine zlOp (d := some 13) (op := (.call 10 [(.tmp 12), (.const (.string ⟨#[109, 77]⟩))])) (g := none) (j := 2) rfl (by kernel_rfl) (by kernel_rfl) (ev_callA (by kernel_rfl) (libTrimRightS_ok (d - 1) (dpt hd rfl) a1 [109, 77] z14 hz14) (by kernel_rfl) (by kernel_rfl)) ?_
  refine bindE hS (fun z15 hz15 hS => ?_)
  refine zlOp (d := some 14) (op := (.call 9 [(.tmp 13), (.const (.string ⟨#[27, 91, 60]⟩))])) (g := none) (j := 3) rfl (by kernel_rfl) (by kernel_rfl) (ev_callA (by kernel_rfl) (f9_ok (d - 1) (dpt hd rfl) z14 [27, 91, 60] z15 hz15) (by kernel_rfl) (by kernel_rfl)) ?_
  refine bindE hS (fun z16 hz16 hS => ?_)
  refine zlOp (d := some 15) (op := (.call 8 [(.tmp 14), (.const (.string ⟨#[59]⟩))])) (g := none) (j := 4) rfl (by kernel_rfl) (by kernel_rfl) (ev_callA (by kernel_rfl) (libSplit_ok (d - 1) (dpt hd rfl) z15 [59] z16 hz16) (by kernel_rfl) (by kernel_rfl)) ?_
  refine zlRun (n := 1) (j := 5) rfl (by kernel_rfl) ?_
  refine zlEnd (by kernel_rfl) ?_
  refine zkSeq ?_
  refine zrSeq ?_
  refine zrSeq ?_
  refine zrReg ?_
  refine zlRun (n := 2) (j := 2) rfl (by kernel_rfl) ?_
  refine zlBool (d := 18) (op := (.cmpI .neq (.tmp 17) (.const (.int .i64 3)))) (g := none) (j := 3) (!decide ((z16.length : Int) = 3)) rfl (by kernel_rfl) (by kernel_rfl) (by kernel_rfl) (fun hc => ?_) (fun hc => ?_)
  · replace hS := cond_t hc hS
    refine zlEnd (by kernel_rfl) ?_
    refine zkSeq ?_
    refine zrCondT (by kernel_rfl) ?_
    refine zrSeq ?_
    refine zrReg ?_
    refine zlRun (n := 3) (j := 3) rfl (by kernel_rfl) ?_
    refine zlEnd (by kernel_rfl) ?_
    refine zkSeq ?_
    refine zrRet ?_
    refine zkSeqR ?_
    refine zkNil ?_
    exact endQ hS hQ (fRet (by kernel_rfl) ((congrArg (fun s => outR s 0 c5.res) (by kernel_rfl : finSt c5.fin _ = f5_fin (GMouse.mk 0 0 0 0 false) 4)).trans (f5_out (GMouse.mk 0 0 0 0 false) 4)))
  · replace hS := cond_f hc hS
    refine zlEnd (by kernel_rfl) ?_
    refine zkSeq ?_
    refine zrCondF (by kernel_rfl) ?_
    refine zrSkip ?_
    refine zkSeq ?_
    exact f5_j0_ok hd a1 hQ z16 hS (by kernel_rfl)
/- farwriter/press.code -/
def f24_fin (p4 : Bool) : St := ⟨(up (fun _ => .un) 2 (.d (.bool p4))), (hB fun _ => 0)⟩
theorem f24_out (p4 : Bool) : outR (f24_fin p4) 0 c24.res = some ((.d (.bool p4)), []) := by
  kernel_rfl
def f24_Q (r : Bool) (e : PX) (st : St) : Prop := DoneF c24 0 ((.d (.bool r)), []) e st
noncomputable def f24 (a1 : Int) : Option (Bool) := (bif (decide (0 ≤ a1)) then (bif (decide (a1 ≤ 1114111)) then (bif (decide (a1 < 55296)) then (some true) else (bif (decide (57343 < a1)) then (some true) else (some false))) else (some false)) else (some false))
theorem f24_ok (d : Nat) (hd : 1 ≤ d) (a1 : Int) (r : Bool) (hS : f24 a1 = some r) : lev codes baseL d 24 [(.d (.int .i64 a1))] [] = some ((.d (.bool r)), []) := by
  refine lev_go codes24 rfl rfl (Nat.le_trans (Nat.le_of_ble_eq_true rfl) hd) fun Q hQ => ?_
  unfold f24 at hS
  show ZR _ Q c24_b [] _
  replace hQ : ∀ e st', f24_Q r e st' → Q e st' := hQ
  refine zrSeq ?_
  refine zrReg ?_
  refine zlRun (n := 1) (j := 1) rfl (by kernel_rfl) ?_
  refine zlEnd (by kernel_rfl) ?_
  refine zkSeq ?_
  refine zrSeq ?_
  refine zrReg ?_
  refine zlRun (n := 1) (j := 1) rfl (by kernel_rfl) ?_
  refine zlBool (d := 4) (op := (.cmpI .geq (.tmp 3) (.const (.int .i64 0)))) (g := none) (j := 2) (decide (0 ≤ a1)) rfl (by kernel_rfl) (by kernel_rfl) (by kernel_rfl) (fun hc => ?_) (fun hc => ?_)
  · replace hS := cond_t hc hS
    refine zlRun (n := 2) (j := 4) rfl (by kernel_rfl) ?_
    refine zlBool (d := 7) (op := (.cmpI .leq (.tmp 6) (.const (.int .i64 1114111)))) (g := (some (5, true))) (j := 5) (decide (a1 ≤ 1114111)) rfl (by kernel_rfl) (by kernel_rfl) (by kernel_rfl) (fun hc => ?_) (fun hc => ?_)
    · replace hS := cond_t hc hS
      refine zlRun (n := 3) (j := 8) rfl (by kernel_rfl) ?_
      refine zlBool (d := 11) (op := (.cmpI .lss (.tmp 10) (.const (.int .i64 55296)))) (g := (some (9, true))) (j := 9) (decide (a1 < 55296)) rfl (by kernel_rfl) (by kernel_rfl) (by kernel_rfl) (fun hc => ?_) (fun hc => ?_)
      · replace hS := cond_t hc hS
        refine zlRun (n := 6) (j := 15) rfl (by kernel_rfl) ?_
        refine zlEnd (by kernel_rfl) ?_
        refine zkSeq ?_
        refine zrRet ?_
        refine zkNil ?_
        exact endQ hS hQ (fRet (by kernel_rfl) ((congrArg (fun s => outR s 0 c24.res) (by kernel_rfl : finSt c24.fin _ = f24_fin true)).trans (f24_out true)))
      · replace hS := cond_f hc hS
        refine zlRun (n := 2) (j := 11) rfl (by kernel_rfl) ?_
        refine zlBool (d := 14) (op := (.cmpI .gtr (.tmp 13) (.const (.int .i64 57343)))) (g := (some (12, false))) (j := 12) (decide (57343 < a1)) rfl (by kernel_rfl) (by kernel_rfl) (by kernel_rfl) (fun hc => ?_) (fun hc => ?_)
        · replace hS := cond_t hc hS
          refine zlRun (n := 3) (j := 15) rfl (by kernel_rfl) ?_
          refine zlEnd (by kernel_rfl) ?_
          refine zkSeq ?_
          refine zrRet ?_
          refine zkNil ?_
          exact endQ hS hQ (fRet (by kernel_rfl) ((congrArg (fun s => outR s 0 c24.res) (by kernel_rfl : finSt c24.fin _ = f24_fin true)).trans (f24_out true)))
        · replace hS := cond_f hc hS
          refine zlRun (n := 3) (j := 15) rfl (by kernel_rfl) ?_
          refine zlEnd (by kernel_rfl) ?_
          refine zkSeq ?_
          refine zrRet ?_
          refine zkNil ?_
          exact endQ hS hQ (fRet (by kernel_rfl) ((congrArg (fun s => outR s 0 c24.res) (by kernel_rfl : finSt c24.fin _ = f24_fin false)).trans (f24_out false)))
    · replace hS := cond_f hc hS
      refine zlRun (n := 10) (j := 15) rfl (by kernel_rfl) ?_
      refine zlEnd (by kernel_rfl) ?_
      refine zkSeq ?_
      refine zrRet ?_
      refine zkNil ?_
      exact endQ hS hQ (fRet (by kernel_rfl) ((congrArg (fun s => outR s 0 c24.res) (by kernel_rfl : finSt c24.fin _ = f24_fin false)).trans (f24_out false)))
  · replace hS := cond_f hc hS
    refine zlRun (n := 13) (j := 15) rfl (by kernel_rfl) ?_
    refine zlEnd (by kernel_rfl) ?_
    refine zkSeq ?_
    refine zrRet ?_
    refine zkNil ?_
    exact endQ hS hQ (fRet (by kernel_rfl) ((congrArg (fun s => outR s 0 c24.res) (by kernel_rfl : finSt c24.fin _ = f24_fin false)).trans (f24_out false)))
/- farwriter/press.letter -/
def f25_fin (p2 : List UInt8) : St := ⟨(up (fun _ => .un) 6 (.d (.str p2))), (hB fun _ => 0)⟩
theorem f25_out (p2 : List UInt8) : outR (f25_fin p2) 0 c25.res = some ((.d (.str p2)), []) := by
  kernel_rfl
def f25_Q (r : (List UInt8)) (e : PX) (st : St) : Prop := DoneF c25 0 ((.d (.str r)), []) e st
def f25_j0_J (a1 : List UInt8) (a2 : UInt8) (a3 : Int) : St := ⟨(up (up (fun _ => .un) 2 (.d (.int .i64 a3))) 1 (.d (.int .u8 (a2.toNat : Int)))), (hB fun _ => 0)⟩
noncomputable def f25_j0 (a1 : List UInt8) (a2 : UInt8) (a3 : Int) : Option ((List UInt8)) := ((libItoaL (IntKind.i64.wrap (a3 + 1))).bind fun z8 => ((cat? ([27, 91, 49, 59] : List UInt8) z8).bind fun z9 => ((cat? z9 ((Utf8.encode (a2.toNat : Int)).data.toList)).bind fun z10 => (some z10))))
theorem f25_j0_ok {d : Nat} (hd : 1 ≤ d) (a1 : List UInt8) (a2 : UInt8) (a3 : Int) {r : (List UInt8)} {Q : PX → St → Prop} (hQ : ∀ e st', f25_Q r e st' → Q e st')  (hS : f25_j0 a1 a2 a3 = some r) {st : St} (he : keepSt [1, 2] [] [] st = f25_j0_J a1 a2 a3) : ZR (lev codes baseL (d - 1)) Q c25_1 [] st := by
  refine zrKeep he ?_
  unfold f25_j0 at hS
  refine zrSeq ?_
  refine zrReg ?_
  refine zlRun (n := 2) (j := 2) rfl (by kernel_rfl) ?_
  refine bindE hS (fun z8 hz8 hS => ?_)
  refine zlOp (d := some 17) (op := (.call 7 [(.tmp 16)])) (g := none) (j := 3) rfl (by kernel_rfl) (by kernel_rfl) (ev_callA (by kernel_rfl) (libItoaL_ok (d - 1) (dpt hd rfl) (IntKind.i64.wrap (a3 + 1)) z8 hz8) (by kernel_rfl) (by kernel_rfl)) ?_
  refine bindE hS (fun z9 hz9 hS => ?_)
  refine zlOp (d := some 18) (op := (.strO .add (.const (.string ⟨#[27, 91, 49, 59]⟩)) (.tmp 17))) (g := none) (v := (.d (.str z9))) (ups := []) (j := 4) rfl (by kernel_rfl) (by kernel_rfl) (ev_cat (a := [27, 91, 49, 59]) (c := z8) (by kernel_rfl) (by kernel_rfl) hz9) ?_
  refine zlRun (n := 1) (j := 5) rfl (by kernel_rfl) ?_
  refine zlOp (d := some 20) (op := (.cvI .i32 (.tmp 19))) (g := none) (v := (.d (.int .i32 (a2.toNat : Int)))) (ups := []) (j := 6) rfl (by kernel_rfl) (by kernel_rfl) (ev_cv (kk := .u8) (a := (a2.toNat : Int)) (by kernel_rfl) (cv_i32 _)) ?_
  refine zlRun (n := 1) (j := 7) rfl (by kernel_rfl) ?_
  refine bindE hS (fun z10 hz10 hS => ?_)
  refine zlOp (d := some 22) (op := (.strO .add (.tmp 18) (.tmp 21))) (g := none) (v := (.d (.str z10))) (ups := []) (j := 8) rfl (by kernel_rfl) (by kernel_rfl) (ev_cat (a := z9) (c := (Utf8.encode (a2.toNat : Int)).data.toList) (by kernel_rfl) (by kernel_rfl) hz10) ?_
  refine zlRun (n := 1) (j := 9) rfl (by kernel_rfl) ?_
  refine zlEnd (by kernel_rfl) ?_
  refine zkSeq ?_
  refine zrRet ?_
  refine zkNil ?_
  exact endQ hS hQ (fRet (by kernel_rfl) ((congrArg (fun s => outR s 0 c25.res) (by kernel_rfl : finSt c25.fin _ = f25_fin z10)).trans (f25_out z10)))
noncomputable def f25 (a1 : List UInt8) (a2 : UInt8) (a3 : Int) : Option ((List UInt8)) := (bif (decide (a3 = 0)) then ((cat? ([27] : List UInt8) a1).bind fun z11 => ((cat? z11 ((Utf8.encode (a2.toNat : Int)).data.toList)).bind fun z12 => (some z12))) else (f25_j0 a1 a2 a3 ))
theorem f25_ok (d : Nat) (hd : 1 ≤ d) (a1 : List UInt8) (a2 : UInt8) (a3 : Int) (r : (List UInt8)) (hS : f25 a1 a2 a3 = some r) : lev codes baseL d 25 [(.d (.str a1)), (.d (.int .u8 (a2.toNat : Int))), (.d (.int .i64 a3))] [] = some ((.d (.str r)), []) := by
  refine lev_go codes25 rfl rfl (Nat.le_trans (Nat.le_of_ble_eq_true rfl) hd) fun Q hQ => ?_
  unfold f25 at hS
  show ZR _ Q c25_b [] _
  replace hQ : ∀ e st', f25_Q r e st' → Q e st' := hQ
  refine zrSeq ?_
  refine zrReg ?_
  refine zlRun (n := 1) (j := 1) rfl (by kernel_rfl) ?_
  refine zlEnd (by kernel_rfl) ?_
  refine zkSeq ?_
  refine zrSeq ?_
  refine zrSeq ?_
  refine zrReg ?_
  refine zlRun (n := 1) (j := 1) rfl (by kernel_rfl) ?_
  refine zlBool (d := 8) (op := (.cmpI .eql (.tmp 7) (.const (.int .i64 0)))) (g := none) (j := 2) (decide (a3 = 0)) rfl (by kernel_rfl) (by kernel_rfl) (by kernel_rfl) (fun hc => ?_) (fun hc => ?_)
  · replace hS := cond_t hc hS
    refine zlEnd (by kernel_rfl) ?_
    refine zkSeq ?_
    refine zrCondT (by kernel_rfl) ?_
    refine zrSeq ?_
    refine zrReg ?_
    refine zlRun (n := 1) (j := 1) rfl (by kernel_rfl) ?_
    refine bindE hS (fun z11 hz11 hS => ?_)
    refine zlOp (d := some 10) (op := (.strO .add (.const (.string ⟨#[27]⟩)) (.tmp 9))) (g := none) (v := (.d (.str z11))) (ups := []) (j := 2) rfl (by kernel_rfl) (by kernel_rfl) (ev_cat (a := [27]) (c := a1) (by kernel_rfl) (by kernel_rfl) hz11) ?_
    refine zlRun (n := 1) (j := 3) rfl (by kernel_rfl) ?_
    refine zlOp (d := some 12) (op := (.cvI .i32 (.tmp 11))) (g := none) (v := (.d (.int .i32 (a2.toNat : Int)))) (ups := []) (j := 4) rfl (by kernel_rfl) (by kernel_rfl) (ev_cv (kk := .u8) (a := (a2.toNat : Int)) (by kernel_rfl) (cv_i32 _)) ?_
    refine zlRun (n := 1) (j := 5) rfl (by kernel_rfl) ?_
    refine bindE hS (fun z12 hz12 hS => ?_)
    refine zlOp (d := some 14) (op := (.strO .add (.tmp 10) (.tmp 13))) (g := none) (v := (.d (.str z12))) (ups := []) (j := 6) rfl (by kernel_rfl) (by kernel_rfl) (ev_cat (a := z11) (c := (Utf8.encode (a2.toNat : Int)).data.toList) (by kernel_rfl) (by kernel_rfl) hz12) ?_
    refine zlRun (n := 1) (j := 7) rfl (by kernel_rfl) ?_
    refine zlEnd (by kernel_rfl) ?_
    refine zkSeq ?_
    refine zrRet ?_
    refine zkSeqR ?_
    refine zkNil ?_
    exact endQ hS hQ (fRet (by kernel_rfl) ((congrArg (fun s => outR s 0 c25.res) (by kernel_rfl : finSt c25.fin _ = f25_fin z12)).trans (f25_out z12)))
  · replace hS := cond_f hc hS
    refine zlEnd (by kernel_rfl) ?_
    refine zkSeq ?_
    refine zrCondF (by kernel_rfl) ?_
    refine zrSkip ?_
    refine zkSeq ?_
    exact f25_j0_ok hd a1 a2 a3 hQ  hS (by kernel_rfl)
/- farwriter/press.numbered -/
def f26_fin (p4 : List UInt8) : St := ⟨(up (fun _ => .un) 4 (.d (.str p4))), (hB fun _ => 0)⟩
theorem f26_out (p4 : List UInt8) : outR (f26_fin p4) 0 c26.res = some ((.d (.str p4)), []) := by
  kernel_rfl
def f26_Q (r : (List UInt8)) (e : PX) (st : St) : Prop := DoneF c26 0 ((.d (.str r)), []) e st
noncomputable def f26 (a1 : Int) (a2 : Int) : Option ((List UInt8)) := ((libItoaL a1).bind fun z9 => ((cat? ([27, 91] : List UInt8) z9).bind fun z10 => (bif (!decide (a2 = 0)) then ((libItoaL (IntKind.i64.wrap (a2 + 1))).bind fun z11 => ((cat? ([59] : List UInt8) z11).bind fun z12 => ((cat? z10 z12).bind fun z13 => ((cat? z13 ([126] : List UInt8)).bind fun z14 => (some z14))))) else ((cat? z10 ([126] : List UInt8)).bind fun z15 => (some z15)))))
theorem f26_ok (d : Nat) (hd : 1 ≤ d) (a1 : Int) (a2 : Int) (r : (List UInt8)) (hS : f26 a1 a2 = some r) : lev codes baseL d 26 [(.d (.int .i64 a1)), (.d (.int .i64 a2))] [] = some ((.d (.str r)), []) := by
  refine lev_go codes26 rfl rfl (Nat.le_trans (Nat.le_of_ble_eq_true rfl) hd) fun Q hQ => ?_
  unfold f26 at hS
  show ZR _ Q c26_b [] _
  replace hQ : ∀ e st', f26_Q r e st' → Q e st' := hQ
  refine zrSeq ?_
  refine zrReg ?_
  refine zlRun (n := 1) (j := 1) rfl (by kernel_rfl) ?_
  refine zlEnd (by kernel_rfl) ?_
  refine zkSeq ?_
  refine zrSeq ?_
  refine zrReg ?_
  refine zlRun (n := 1) (j := 1) rfl (by kernel_rfl) ?_
  refine bindE hS (fun z9 hz9 hS => ?_)
  refine zlOp (d := some 7) (op := (.call 7 [(.tmp 6)])) (g := none) (j := 2) rfl (by kernel_rfl) (by kernel_rfl) (ev_callA (by kernel_rfl) (libItoaL_ok (d - 1) (dpt hd rfl) a1 z9 hz9) (by kernel_rfl) (by kernel_rfl)) ?_
  refine bindE hS (fun z10 hz10 hS => ?_)
  refine zlOp (d := some 8) (op := (.strO .add (.const (.string ⟨#[27, 91]⟩)) (.tmp 7))) (g := none) (v := (.d (.str z10))) (ups := []) (j := 3) rfl (by kernel_rfl) (by kernel_rfl) (ev_cat (a := [27, 91]) (c := z9) (by kernel_rfl) (by kernel_rfl) hz10) ?_
  refine zlRun (n := 1) (j := 4) rfl (by kernel_rfl) ?_
  refine zlEnd (by kernel_rfl) ?_
  refine zkSeq ?_
  refine zrSeq ?_
  refine zrSeq ?_
  refine zrReg ?_
  refine zlRun (n := 1) (j := 1) rfl (by kernel_rfl) ?_
  refine zlBool (d := 10) (op := (.cmpI .neq (.tmp 9) (.const (.int .i64 0)))) (g := none) (j := 2) (!decide (a2 = 0)) rfl (by kernel_rfl) (by kernel_rfl) (by kernel_rfl) (fun hc => ?_) (fun hc => ?_)
  · replace hS := cond_t hc hS
    refine zlEnd (by kernel_rfl) ?_
    refine zkSeq ?_
    refine zrCondT (by kernel_rfl) ?_
    refine zrReg ?_
    refine zlRun (n := 3) (j := 3) rfl (by kernel_rfl) ?_
    refine bindE hS (fun z11 hz11 hS => ?_)
    refine zlOp (d := some 14) (op := (.call 7 [(.tmp 13)])) (g := none) (j := 4) rfl (by kernel_rfl) (by kernel_rfl) (ev_callA (by kernel_rfl) (libItoaL_ok (d - 1) (dpt hd rfl) (IntKind.i64.wrap (a2 + 1)) z11 hz11) (by kernel_rfl) (by kernel_rfl)) ?_
    refine bindE hS (fun z12 hz12 hS => ?_)
    refine zlOp (d := some 15) (op := (.strO .add (.const (.string ⟨#[59]⟩)) (.tmp 14))) (g := none) (v := (.d (.str z12))) (ups := []) (j := 5) rfl (by kernel_rfl) (by kernel_rfl) (ev_cat (a := [59]) (c := z11) (by kernel_rfl) (by kernel_rfl) hz12) ?_
    refine bindE hS (fun z13 hz13 hS => ?_)
    refine zlOp (d := some 16) (op := (.strO .add (.tmp 11) (.tmp 15))) (g := none) (v := (.d (.str z13))) (ups := []) (j := 6) rfl (by kernel_rfl) (by kernel_rfl) (ev_cat (a := z10) (c := z12) (by kernel_rfl) (by kernel_rfl) hz13) ?_
    refine zlRun (n := 1) (j := 7) rfl (by kernel_rfl) ?_
    refine zlEnd (by kernel_rfl) ?_
    refine zkSeq ?_
    refine zrSeq ?_
    refine zrReg ?_
    refine zlRun (n := 1) (j := 1) rfl (by kernel_rfl) ?_
    refine bindE hS (fun z14 hz14 hS => ?_)
    refine zlOp (d := some 18) (op := (.strO .add (.tmp 17) (.const (.string ⟨#[126]⟩)))) (g := none) (v := (.d (.str z14))) (ups := []) (j := 2) rfl (by kernel_rfl) (by kernel_rfl) (ev_cat (a := z13) (c := [126]) (by kernel_rfl) (by kernel_rfl) hz14) ?_
    refine zlRun (n := 1) (j := 3) rfl (by kernel_rfl) ?_
    refine zlEnd (by kernel_rfl) ?_
    refine zkSeq ?_
    refine zrRet ?_
    refine zkNil ?_
    exact endQ hS hQ (fRet (by kernel_rfl) ((congrArg (fun s => outR s 0 c26.res) (by kernel_rfl : finSt c26.fin _ = f26_fin z14)).trans (f26_out z14)))
  · replace hS := cond_f hc hS
    refine zlEnd (by kernel_rfl) ?_
    refine zkSeq ?_
    refine zrCondF (by kernel_rfl) ?_
    refine zrSkip ?_
    refine zkSeq ?_
    refine zrSeq ?_
    refine zrReg ?_
    refine zlRun (n := 1) (j := 1) rfl (by kernel_rfl) ?_
    refine bindE hS (fun z15 hz15 hS => ?_)
    refine zlOp (d := some 18) (op := (.strO .add (.tmp 17) (.const (.string ⟨#[126]⟩)))) (g := none) (v := (.d (.str z15))) (ups := []) (j := 2) rfl (by kernel_rfl) (by kernel_rfl) (ev_cat (a := z10) (c := [126]) (by kernel_rfl) (by kernel_rfl) hz15) ?_
    refine zlRun (n := 1) (j := 3) rfl (by kernel_rfl) ?_
    refine zlEnd (by kernel_rfl) ?_
    refine zkSeq ?_
    refine zrRet ?_
    refine zkNil ?_
    exact endQ hS hQ (fRet (by kernel_rfl) ((congrArg (fun s => outR s 0 c26.res) (by kernel_rfl : finSt c26.fin _ = f26_fin z15)).trans (f26_out z15)))
/- unicode/utf8.appendRuneNonASCII -/
def f75_fin (p7 : List UInt8) : St := ⟨(up (up (fun _ => .un) 1000000 .un) 4 (.r (.msl 0 1 0 p7.length))), (up (hB fun _ => 0) 0 ⟨1, some (.own 5 1 (eU8.cells p7))⟩)⟩
theorem f75_out (p7 : List UInt8) : outR (f75_fin p7) 1 c75.res = some ((.r (.msl 0 0 0 p7.length)), [(.own 5 1 (eU8.cells p7))]) := by
  kernel_rfl
def f75_Q (r : (List UInt8)) (e : PX) (st : St) : Prop := DoneF c75 1 ((.r (.msl 0 0 0 r.length)), [(.own 5 1 (eU8.cells r))]) e st
def f75_j0_J (a1 : Int) (a2 : List UInt8) (p11 : Bool) : St := ⟨(up (up (up (up (up (fun _ => .un) 1000000 .un) 25 (.d (.bool p11))) 5 (.d (.int .u32 (IntKind.u32.wrap (a1))))) 1 (.d (.int .i32 a1))) 0 (.r (.msl 0 1 0 a2.length))), (up (hB fun _ => 0) 0 ⟨1, some (.own 5 1 (eU8.cells a2))⟩)⟩
noncomputable def f75_j0 (a1 : Int) (a2 : List UInt8) (p11 : Bool) : Option ((List UInt8)) := (bif p11 then ((app? 1 a2 ([((224 : UInt8) ||| (u8 (Int.fdiv a1 (2 ^ 12)))), ((128 : UInt8) ||| ((u8 (Int.fdiv a1 (2 ^ 6))) &&& (63 : UInt8))), ((128 : UInt8) ||| ((u8 a1) &&& (63 : UInt8)))] : List UInt8)).bind fun z6 => (some z6)) else (bif (decide (65535 < (IntKind.u32.wrap (a1)))) then (bif (decide ((IntKind.u32.wrap (a1)) ≤ 1114111)) then ((app? 1 a2 ([((240 : UInt8) ||| (u8 (Int.fdiv a1 (2 ^ 18)))), ((128 : UInt8) ||| ((u8 (Int.fdiv a1 (2 ^ 12))) &&& (63 : UInt8))), ((128 : UInt8) ||| ((u8 (Int.fdiv a1 (2 ^ 6))) &&& (63 : UInt8))), ((128 : UInt8) ||| ((u8 a1) &&& (63 : UInt8)))] : List UInt8)).bind fun z7 => (some z7)) else ((app? 1 a2 ([239, 191, 189] : List UInt8)).bind fun z8 => (some z8))) else ((app? 1 a2 ([239, 191, 189] : List UInt8)).bind fun z9 => (some z9))))
theorem f75_j0_ok {d : Nat} (hd : 1 ≤ d) (a1 : Int) (a2 : List UInt8) {r : (List UInt8)} {Q : PX → St → Prop} (hQ : ∀ e st', f75_Q r e st' → Q e st') (p11 : Bool) (hS : f75_j0 a1 a2 p11 = some r) {st : St} (he : keepSt [0, 1, 5, 25, 1000000] [(0, .id 0)] [] st = f75_j0_J a1 a2 p11) : ZR (lev codes baseL (d - 1)) Q c75_1 [.blk 0] st := by
  refine zrKeep he ?_
  unfold f75_j0 at hS
  refine zrSplit 25 p11 (by kernel_rfl) (fun hc => ?_) (fun hc => ?_)
  · replace hS := cond_t hc hS
    refine zrCondT (by kernel_rfl) ?_
    refine zrSeq ?_
    refine zrReg ?_
    refine zlRun (n := 3) (j := 3) rfl (by kernel_rfl) ?_
    refine zlOp (d := some 37) (op := (.cvI .u8 (.tmp 36))) (g := none) (v := (.d (.int .u8 ((u8 (Int.fdiv a1 (2 ^ 12))).toNat : Int)))) (ups := []) (j := 4) rfl (by kernel_rfl) (by kernel_rfl) (ev_cv (kk := .i32) (a := (Int.fdiv a1 (2 ^ 12))) (by kernel_rfl) (u8_wrap _)) ?_
    refine zlOp (d := some 38) (op := (.arI .or (.const (.int .u8 224)) (.tmp 37))) (g := none) (v := (.d (.int .u8 (((224 : UInt8) ||| (u8 (Int.fdiv a1 (2 ^ 12)))).toNat : Int)))) (ups := []) (j := 5) rfl (by kernel_rfl) (by kernel_rfl) (ev_arI (kk := .u8) (a := ((224 : UInt8).toNat : Int)) (c := ((u8 (Int.fdiv a1 (2 ^ 12))).toNat : Int)) (by kernel_rfl) (by kernel_rfl) (ar_or8 (224 : UInt8) (u8 (Int.fdiv a1 (2 ^ 12))))) ?_
    refine zlRun (n := 2) (j := 7) rfl (by kernel_rfl) ?_
    refine zlOp (d := some 41) (op := (.cvI .u8 (.tmp 40))) (g := none) (v := (.d (.int .u8 ((u8 (Int.fdiv a1 (2 ^ 6))).toNat : Int)))) (ups := []) (j := 8) rfl (by kernel_rfl) (by kernel_rfl) (ev_cv (kk := .i32) (a := (Int.fdiv a1 (2 ^ 6))) (by kernel_rfl) (u8_wrap _)) ?_
    refine zlOp (d := some 42) (op := (.arI .and (.tmp 41) (.const (.int .u8 63)))) (g := none) (v := (.d (.int .u8 (((u8 (Int.fdiv a1 (2 ^ 6))) &&& (63 : UInt8)).toNat : Int)))) (ups := []) (j := 9) rfl (by kernel_rfl) (by kernel_rfl) (ev_arI (kk := .u8) (a := ((u8 (Int.fdiv a1 (2 ^ 6))).toNat : Int)) (c := ((63 : UInt8).toNat : Int)) (by kernel_rfl) (by kernel_rfl) (ar_and8 (u8 (Int.fdiv a1 (2 ^ 6))) (63 : UInt8))) ?_
    refine zlOp (d := some 43) (op := (.arI .or (.const (.int .u8 128)) (.tmp 42))) (g := none) (v := (.d (.int .u8 (((128 : UInt8) ||| ((u8 (Int.fdiv a1 (2 ^ 6))) &&& (63 : UInt8))).toNat : Int)))) (ups := []) (j := 10) rfl (by kernel_rfl) (by kernel_rfl) (ev_arI (kk := .u8) (a := ((128 : UInt8).toNat : Int)) (c := (((u8 (Int.fdiv a1 (2 ^ 6))) &&& (63 : UInt8)).toNat : Int)) (by kernel_rfl) (by kernel_rfl) (ar_or8 (128 : UInt8) ((u8 (Int.fdiv a1 (2 ^ 6))) &&& (63 : UInt8)))) ?_
    refine zlRun (n := 1) (j := 11) rfl (by kernel_rfl) ?_
    refine zlOp (d := some 45) (op := (.cvI .u8 (.tmp 44))) (g := none) (v := (.d (.int .u8 ((u8 a1).toNat : Int)))) (ups := []) (j := 12) rfl (by kernel_rfl) (by kernel_rfl) (ev_cv (kk := .i32) (a := a1) (by kernel_rfl) (u8_wrap _)) ?_
    refine zlOp (d := some 46) (op := (.arI .and (.tmp 45) (.const (.int .u8 63)))) (g := none) (v := (.d (.int .u8 (((u8 a1) &&& (63 : UInt8)).toNat : Int)))) (ups := []) (j := 13) rfl (by kernel_rfl) (by kernel_rfl) (ev_arI (kk := .u8) (a := ((u8 a1).toNat : Int)) (c := ((63 : UInt8).toNat : Int)) (by kernel_rfl) (by kernel_rfl) (ar_and8 (u8 a1) (63 : UInt8))) ?_
    refine zlOp (d := some 47) (op := (.arI .or (.const (.int .u8 128)) (.tmp 46))) (g := none) (v := (.d (.int .u8 (((128 : UInt8) ||| ((u8 a1) &&& (63 : UInt8))).toNat : Int)))) (ups := []) (j := 14) rfl (by kernel_rfl) (by kernel_rfl) (ev_arI (kk := .u8) (a := ((128 : UInt8).toNat : Int)) (c := (((u8 a1) &&& (63 : UInt8)).toNat : Int)) (by kernel_rfl) (by kernel_rfl) (ar_or8 (128 : UInt8) ((u8 a1) &&& (63 : UInt8)))) ?_
    refine zlRun (n := 1) (j := 15) rfl (by kernel_rfl) ?_
    refine bindE hS (fun z6 hz6 hS => ?_)
    refine zlOp (d := some 49) (op := (.app 5 1 1 (.tmp 34) (.tmp 48))) (g := none) (v := (.r (.msl 0 2 0 z6.length))) (ups := [(0, ⟨2, some (.own 5 1 (eU8.cells z6))⟩)]) (j := 16) rfl (by kernel_rfl) (by kernel_rfl) (ev_app eU8 (b := 0) (g := 1) (n := a2.length) (xs := a2) (ys := [((224 : UInt8) ||| (u8 (Int.fdiv a1 (2 ^ 12)))), ((128 : UInt8) ||| ((u8 (Int.fdiv a1 (2 ^ 6))) &&& (63 : UInt8))), ((128 : UInt8) ||| ((u8 a1) &&& (63 : UInt8)))]) ((congrArg (asL _) (by kernel_rfl : ρof _ (.tmp 48) = (.r (.msl 392 1 0 (([((224 : UInt8) ||| (u8 (Int.fdiv a1 (2 ^ 12)))), ((128 : UInt8) ||| ((u8 (Int.fdiv a1 (2 ^ 6))) &&& (63 : UInt8))), ((128 : UInt8) ||| ((u8 a1) &&& (63 : UInt8)))] : List UInt8).length))))).trans (as_whole eU8 (e := 5) (k := 1) (xs := [((224 : UInt8) ||| (u8 (Int.fdiv a1 (2 ^ 12)))), ((128 : UInt8) ||| ((u8 (Int.fdiv a1 (2 ^ 6))) &&& (63 : UInt8))), ((128 : UInt8) ||| ((u8 a1) &&& (63 : UInt8)))]) (by kernel_rfl) rfl rfl)) rfl (by kernel_rfl) rfl (by kernel_rfl) rfl hz6) ?_
    refine zlRun (n := 1) (j := 17) rfl (by kernel_rfl) ?_
    refine zlEnd (by kernel_rfl) ?_
    refine zkSeq ?_
    refine zrRet ?_
    refine zkBlkR ?_
    refine zkNil ?_
    exact endQ hS hQ (fRet (by kernel_rfl) ((congrArg (fun s => outR s 1 c75.res) (by kernel_rfl : finSt c75.fin _ = f75_fin z6)).trans (f75_out z6)))
  · replace hS := cond_f hc hS
    refine zrCondF (by kernel_rfl) ?_
    refine zrSeq ?_
    refine zrReg ?_
    refine zlRun (n := 1) (j := 1) rfl (by kernel_rfl) ?_
    refine zlBool (d := 52) (op := (.cmpI .gtr (.tmp 51) (.const (.int .u32 65535)))) (g := none) (j := 2) (decide (65535 < (IntKind.u32.wrap (a1)))) rfl (by kernel_rfl) (by kernel_rfl) (by kernel_rfl) (fun hc => ?_) (fun hc => ?_)
    · replace hS := cond_t hc hS
      refine zlRun (n := 2) (j := 4) rfl (by kernel_rfl) ?_
      refine zlBool (d := 55) (op := (.cmpI .leq (.tmp 54) (.const (.int .u32 1114111)))) (g := (some (53, true))) (j := 5) (decide ((IntKind.u32.wrap (a1)) ≤ 1114111)) rfl (by kernel_rfl) (by kernel_rfl) (by kernel_rfl) (fun hc => ?_) (fun hc => ?_)
      · replace hS := cond_t hc hS
        refine zlRun (n := 2) (j := 7) rfl (by kernel_rfl) ?_
        refine zlEnd (by kernel_rfl) ?_
        refine zkSeq ?_
        refine zrCondT (by kernel_rfl) ?_
        refine zrSeq ?_
        refine zrReg ?_
        refine zlRun (n := 3) (j := 3) rfl (by kernel_rfl) ?_
        refine zlOp (d := some 60) (op := (.cvI .u8 (.tmp 59))) (g := none) (v := (.d (.int .u8 ((u8 (Int.fdiv a1 (2 ^ 18))).toNat : Int)))) (ups := []) (j := 4) rfl (by kernel_rfl) (by kernel_rfl) (ev_cv (kk := .i32) (a := (Int.fdiv a1 (2 ^ 18))) (by kernel_rfl) (u8_wrap _)) ?_
        refine zlOp (d := some 61) (op := (.arI .or (.const (.int .u8 240)) (.tmp 60))) (g := none) (v := (.d (.int .u8 (((240 : UInt8) ||| (u8 (Int.fdiv a1 (2 ^ 18)))).toNat : Int)))) (ups := []) (j := 5) rfl (by kernel_rfl) (by kernel_rfl) (ev_arI (kk := .u8) (a := ((240 : UInt8).toNat : Int)) (c := ((u8 (Int.fdiv a1 (2 ^ 18))).toNat : Int)) (by kernel_rfl) (by kernel_rfl) (ar_or8 (240 : UInt8) (u8 (Int.fdiv a1 (2 ^ 18))))) ?_
        refine zlRun (n := 2) (j := 7) rfl (by kernel_rfl) ?_
        refine zlOp (d := some 64) (op := (.cvI .u8 (.tmp 63))) (g := none) (v := (.d (.int .u8 ((u8 (Int.fdiv a1 (2 ^ 12))).toNat : Int)))) (ups := []) (j := 8) rfl (by kernel_rfl) (by kernel_rfl) (ev_cv (kk := .i32) (a := (Int.fdiv a1 (2 ^ 12))) (by kernel_rfl) (u8_wrap _)) ?_
        refine zlOp (d := some 65) (op := (.arI .and (.tmp 64) (.const (.int .u8 63)))) (g := none) (v := (.d (.int .u8 (((u8 (Int.fdiv a1 (2 ^ 12))) &&& (63 : UInt8)).toNat : Int)))) (ups := []) (j := 9) rfl (by kernel_rfl) (by kernel_rfl) (ev_arI (kk := .u8) (a := ((u8 (Int.fdiv a1 (2 ^ 12))).toNat : Int)) (c := ((63 : UInt8).toNat : Int)) (by kernel_rfl) (by kernel_rfl) (ar_and8 (u8 (Int.fdiv a1 (2 ^ 12))) (63 : UInt8))) ?_
        refine zlOp (d := some 66) (op := (.arI .or (.const (.int .u8 128)) (.tmp 65))) (g := none) (v := (.d (.int .u8 (((128 : UInt8) ||| ((u8 (Int.fdiv a1 (2 ^ 12))) &&& (63 : UInt8))).toNat : Int)))) (ups := []) (j := 10) rfl (by kernel_rfl) (by kernel_rfl) (ev_arI (kk := .u8) (a := ((128 : UInt8).toNat : Int)) (c := (((u8 (Int.fdiv a1 (2 ^ 12))) &&& (63 : UInt8)).toNat : Int)) (by kernel_rfl) (by kernel_rfl) (ar_or8 (128 : UInt8) ((u8 (Int.fdiv a1 (2 ^ 12))) &&& (63 : UInt8)))) ?_
        refine zlRun (n := 2) (j := 12) rfl (by kernel_rfl) ?_
        refine zlOp (d := some 69) (op := (.cvI .u8 (.tmp 68))) (g := none) (v := (.d (.int .u8 ((u8 (Int.fdiv a1 (2 ^ 6))).toNat : Int)))) (ups := []) (j := 13) rfl (by kernel_rfl) (by kernel_rfl) (ev_cv (kk := .i32) (a := (Int.fdiv a1 (2 ^ 6))) (by kernel_rfl) (u8_wrap _)) ?_
        refine zlOp (d := some 70) (op := (.arI .and (.tmp 69) (.const (.int .u8 63)))) (g := none) (v := (.d (.int .u8 (((u8 (Int.fdiv a1 (2 ^ 6))) &&& (63 : UInt8)).toNat : Int)))) (ups := []) (j := 14) rfl (by kernel_rfl) (by kernel_rfl) (ev_arI (kk := .u8) (a := ((u8 (Int.fdiv a1 (2 ^ 6))).toNat : Int)) (c := ((63 : UInt8).toNat : Int)) (by kernel_rfl) (by kernel_rfl) (ar_and8 (u8 (Int.fdiv a1 (2 ^ 6))) (63 : UInt8))) ?_
        refine zlOp (d := some 71) (op := (.arI .or (.const (.int .u8 128)) (.tmp 70))) (g := none) (v := (.d (.int .u8 (((128 : UInt8) ||| ((u8 (Int.fdiv a1 (2 ^ 6))) &&& (63 : UInt8))).toNat : Int)))) (ups := []) (j := 15) rfl (by kernel_rfl) (by kernel_rfl) (ev_arI (kk := .u8) (a := ((128 : UInt8).toNat : Int)) (c := (((u8 (Int.fdiv a1 (2 ^ 6))) &&& (63 : UInt8)).toNat : Int)) (by kernel_rfl) (by kernel_rfl) (ar_or8 (128 : UInt8) ((u8 (Int.fdiv a1 (2 ^ 6))) &&& (63 : UInt8)))) ?_
        refine zlRun (n := 1) (j := 16) rfl (by kernel_rfl) ?_
        refine zlOp (d := some 73) (op := (.cvI .u8 (.tmp 72))) (g := none) (v := (.d (.int .u8 ((u8 a1).toNat : Int)))) (ups := []) (j := 17) rfl (by kernel_rfl) (by kernel_rfl) (ev_cv (kk := .i32) (a := a1) (by kernel_rfl) (u8_wrap _)) ?_
        refine zlOp (d := some 74) (op := (.arI .and (.tmp 73) (.const (.int .u8 63)))) (g := none) (v := (.d (.int .u8 (((u8 a1) &&& (63 : UInt8)).toNat : Int)))) (ups := []) (j := 18) rfl (by kernel_rfl) (by kernel_rfl) (ev_arI (kk := .u8) (a := ((u8 a1).toNat : Int)) (c := ((63 : UInt8).toNat : Int)) (by kernel_rfl) (by kernel_rfl) (ar_and8 (u8 a1) (63 : UInt8))) ?_
        refine zlOp (d := some 75) (op := (.arI .or (.const (.int .u8 128)) (.tmp 74))) (g := none) (v := (.d (.int .u8 (((128 : UInt8) ||| ((u8 a1) &&& (63 : UInt8))).toNat : Int)))) (ups := []) (j := 19) rfl (by kernel_rfl) (by kernel_rfl) (ev_arI (kk := .u8) (a := ((128 : UInt8).toNat : Int)) (c := (((u8 a1) &&& (63 : UInt8)).toNat : Int)) (by kernel_rfl) (by kernel_rfl) (ar_or8 (128 : UInt8) ((u8 a1) &&& (63 : UInt8)))) ?_
        refine zlRun (n := 1) (j := 20) rfl (by kernel_rfl) ?_
        refine bindE hS (fun z7 hz7 hS => ?_)
        refine zlOp (d := some 77) (op := (.app 5 1 1 (.tmp 57) (.tmp 76))) (g := none) (v := (.r (.msl 0 2 0 z7.length))) (ups := [(0, ⟨2, some (.own 5 1 (eU8.cells z7))⟩)]) (j := 21) rfl (by kernel_rfl) (by kernel_rfl) (ev_app eU8 (b := 0) (g := 1) (n := a2.length) (xs := a2) (ys := [((240 : UInt8) ||| (u8 (Int.fdiv a1 (2 ^ 18)))), ((128 : UInt8) ||| ((u8 (Int.fdiv a1 (2 ^ 12))) &&& (63 : UInt8))), ((128 : UInt8) ||| ((u8 (Int.fdiv a1 (2 ^ 6))) &&& (63 : UInt8))), ((128 : UInt8) ||| ((u8 a1) &&& (63 : UInt8)))]) ((congrArg (asL _) (by kernel_rfl : ρof _ (.tmp 76) = (.r (.msl 616 1 0 (([((240 : UInt8) ||| (u8 (Int.fdiv a1 (2 ^ 18)))), ((128 : UInt8) ||| ((u8 (Int.fdiv a1 (2 ^ 12))) &&& (63 : UInt8))), ((128 : UInt8) ||| ((u8 (Int.fdiv a1 (2 ^ 6))) &&& (63 : UInt8))), ((128 : UInt8) ||| ((u8 a1) &&& (63 : UInt8)))] : List UInt8).length))))).trans (as_whole eU8 (e := 5) (k := 1) (xs := [((240 : UInt8) ||| (u8 (Int.fdiv a1 (2 ^ 18)))), ((128 : UInt8) ||| ((u8 (Int.fdiv a1 (2 ^ 12))) &&& (63 : UInt8))), ((128 : UInt8) ||| ((u8 (Int.fdiv a1 (2 ^ 6))) &&& (63 : UInt8))), ((128 : UInt8) ||| ((u8 a1) &&& (63 : UInt8)))]) (by kernel_rfl) rfl rfl)) rfl (by kernel_rfl) rfl (by kernel_rfl) rfl hz7) ?_
        refine zlRun (n := 1) (j := 22) rfl (by kernel_rfl) ?_
        refine zlEnd (by kernel_rfl) ?_
        refine zkSeq ?_
        refine zrRet ?_
        refine zkBlkR ?_
        refine zkNil ?_
        exact endQ hS hQ (fRet (by kernel_rfl) ((congrArg (fun s => outR s 1 c75.res) (by kernel_rfl : finSt c75.fin _ = f75_fin z7)).trans (f75_out z7)))
      · replace hS := cond_f hc hS
        refine zlRun (n := 2) (j := 7) rfl (by kernel_rfl) ?_
        refine zlEnd (by kernel_rfl) ?_
        refine zkSeq ?_
        refine zrCondF (by kernel_rfl) ?_
        refine zrSeq ?_
        refine zrReg ?_
        refine zlRun (n := 2) (j := 2) rfl (by kernel_rfl) ?_
        refine bindE hS (fun z8 hz8 hS => ?_)
        refine zlOp (d := some 10) (op := (.app 5 1 1 (.tmp 8) (.tmp 9))) (g := none) (v := (.r (.msl 0 2 0 z8.length))) (ups := [(0, ⟨2, some (.own 5 1 (eU8.cells z8))⟩)]) (j := 3) rfl (by kernel_rfl) (by kernel_rfl) (ev_app eU8 (b := 0) (g := 1) (n := a2.length) (xs := a2) (ys := [239, 191, 189]) ((congrArg (asL _) (by kernel_rfl : ρof _ (.tmp 9) = (.r (.msl 80 1 0 (([239, 191, 189] : List UInt8).length))))).trans (as_whole eU8 (e := 5) (k := 1) (xs := [239, 191, 189]) (by kernel_rfl) rfl rfl)) rfl (by kernel_rfl) rfl (by kernel_rfl) rfl hz8) ?_
        refine zlRun (n := 1) (j := 4) rfl (by kernel_rfl) ?_
        refine zlEnd (by kernel_rfl) ?_
        refine zkSeq ?_
        refine zrRet ?_
        refine zkBlkR ?_
        refine zkNil ?_
        exact endQ hS hQ (fRet (by kernel_rfl) ((congrArg (fun s => outR s 1 c75.res) (by kernel_rfl : finSt c75.fin _ = f75_fin z8)).trans (f75_out z8)))
    · replace hS := cond_f hc hS
      refine zlRun (n := 5) (j := 7) rfl (by kernel_rfl) ?_
      refine zlEnd (by kernel_rfl) ?_
      refine zkSeq ?_
      refine zrCondF (by kernel_rfl) ?_
      refine zrSeq ?_
      refine zrReg ?_
      refine zlRun (n := 2) (j := 2) rfl (by kernel_rfl) ?_
      refine bindE hS (fun z9 hz9 hS => ?_)
      refine zlOp (d := some 10) (op := (.app 5 1 1 (.tmp 8) (.tmp 9))) (g := none) (v := (.r (.msl 0 2 0 z9.length))) (ups := [(0, ⟨2, some (.own 5 1 (eU8.cells z9))⟩)]) (j := 3) rfl (by kernel_rfl) (by kernel_rfl) (ev_app eU8 (b := 0) (g := 1) (n := a2.length) (xs := a2) (ys := [239, 191, 189]) ((congrArg (asL _) (by kernel_rfl : ρof _ (.tmp 9) = (.r (.msl 80 1 0 (([239, 191, 189] : List UInt8).length))))).trans (as_whole eU8 (e := 5) (k := 1) (xs := [239, 191, 189]) (by kernel_rfl) rfl rfl)) rfl (by kernel_rfl) rfl (by kernel_rfl) rfl hz9) ?_
      refine zlRun (n := 1) (j := 4) rfl (by kernel_rfl) ?_
      refine zlEnd (by kernel_rfl) ?_
      refine zkSeq ?_
      refine zrRet ?_
      refine zkBlkR ?_
      refine zkNil ?_
      exact endQ hS hQ (fRet (by kernel_rfl) ((congrArg (fun s => outR s 1 c75.res) (by kernel_rfl : finSt c75.fin _ = f75_fin z9)).trans (f75_out z9)))
noncomputable def f75 (a1 : Int) (a2 : List UInt8) : Option ((List UInt8)) := (bif (decide ((IntKind.u32.wrap (a1)) ≤ 2047)) then ((app? 1 a2 ([((192 : UInt8) ||| (u8 (Int.fdiv a1 (2 ^ 6)))), ((128 : UInt8) ||| ((u8 a1) &&& (63 : UInt8)))] : List UInt8)).bind fun z5 => (some z5)) else (bif (decide ((IntKind.u32.wrap (a1)) < 55296)) then (f75_j0 a1 a2 true) else (bif (decide (57343 < (IntKind.u32.wrap (a1)))) then (bif (decide ((IntKind.u32.wrap (a1)) ≤ 65535)) then (f75_j0 a1 a2 true) else (f75_j0 a1 a2 false)) else (f75_j0 a1 a2 false))))
theorem f75_ok (d : Nat) (hd : 1 ≤ d) (a1 : Int) (a2 : List UInt8) (r : (List UInt8)) (hS : f75 a1 a2 = some r) : lev codes baseL d 75 [(.r (.msl 0 0 0 a2.length)), (.d (.int .i32 a1))] [(.own 5 1 (eU8.cells a2))] = some ((.r (.msl 0 0 0 r.length)), [(.own 5 1 (eU8.cells r))]) := by
  refine lev_go codes75 rfl rfl (Nat.le_trans (Nat.le_of_ble_eq_true rfl) hd) fun Q hQ => ?_
  unfold f75 at hS
  show ZR _ Q c75_b [] _
  replace hQ : ∀ e st', f75_Q r e st' → Q e st' := hQ
  refine zrSeq ?_
  refine zrReg ?_
  refine zlRun (n := 1) (j := 1) rfl (by kernel_rfl) ?_
  refine zlEnd (by kernel_rfl) ?_
  refine zkSeq ?_
  refine zrSeq ?_
  refine zrReg ?_
  refine zlRun (n := 3) (j := 3) rfl (by kernel_rfl) ?_
  refine zlEnd (by kernel_rfl) ?_
  refine zkSeq ?_
  refine zrBlk ?_
  refine zrSeq ?_
  refine zrReg ?_
  refine zlRun (n := 1) (j := 1) rfl (by kernel_rfl) ?_
  refine zlBool (d := 13) (op := (.cmpI .leq (.tmp 12) (.const (.int .u32 2047)))) (g := none) (j := 2) (decide ((IntKind.u32.wrap (a1)) ≤ 2047)) rfl (by kernel_rfl) (by kernel_rfl) (by kernel_rfl) (fun hc => ?_) (fun hc => ?_)
  · replace hS := cond_t hc hS
    refine zlRun (n := 1) (j := 3) rfl (by kernel_rfl) ?_
    refine zlEnd (by kernel_rfl) ?_
    refine zkSeq ?_
    refine zrCondT (by kernel_rfl) ?_
    refine zrSeq ?_
    refine zrReg ?_
    refine zlRun (n := 3) (j := 3) rfl (by kernel_rfl) ?_
    refine zlOp (d := some 17) (op := (.cvI .u8 (.tmp 16))) (g := none) (v := (.d (.int .u8 ((u8 (Int.fdiv a1 (2 ^ 6))).toNat : Int)))) (ups := []) (j := 4) rfl (by kernel_rfl) (by kernel_rfl) (ev_cv (kk := .i32) (a := (Int.fdiv a1 (2 ^ 6))) (by kernel_rfl) (u8_wrap _)) ?_
    refine zlOp (d := some 18) (op := (.arI .or (.const (.int .u8 192)) (.tmp 17))) (g := none) (v := (.d (.int .u8 (((192 : UInt8) ||| (u8 (Int.fdiv a1 (2 ^ 6)))).toNat : Int)))) (ups := []) (j := 5) rfl (by kernel_rfl) (by kernel_rfl) (ev_arI (kk := .u8) (a := ((192 : UInt8).toNat : Int)) (c := ((u8 (Int.fdiv a1 (2 ^ 6))).toNat : Int)) (by kernel_rfl) (by kernel_rfl) (ar_or8 (192 : UInt8) (u8 (Int.fdiv a1 (2 ^ 6))))) ?_
    refine zlRun (n := 1) (j := 6) rfl (by kernel_rfl) ?_
    refine zlOp (d := some 20) (op := (.cvI .u8 (.tmp 19))) (g := none) (v := (.d (.int .u8 ((u8 a1).toNat : Int)))) (ups := []) (j := 7) rfl (by kernel_rfl) (by kernel_rfl) (ev_cv (kk := .i32) (a := a1) (by kernel_rfl) (u8_wrap _)) ?_
    refine zlOp (d := some 21) (op := (.arI .and (.tmp 20) (.const (.int .u8 63)))) (g := none) (v := (.d (.int .u8 (((u8 a1) &&& (63 : UInt8)).toNat : Int)))) (ups := []) (j := 8) rfl (by kernel_rfl) (by kernel_rfl) (ev_arI (kk := .u8) (a := ((u8 a1).toNat : Int)) (c := ((63 : UInt8).toNat : Int)) (by kernel_rfl) (by kernel_rfl) (ar_and8 (u8 a1) (63 : UInt8))) ?_
    refine zlOp (d := some 22) (op := (.arI .or (.const (.int .u8 128)) (.tmp 21))) (g := none) (v := (.d (.int .u8 (((128 : UInt8) ||| ((u8 a1) &&& (63 : UInt8))).toNat : Int)))) (ups := []) (j := 9) rfl (by kernel_rfl) (by kernel_rfl) (ev_arI (kk := .u8) (a := ((128 : UInt8).toNat : Int)) (c := (((u8 a1) &&& (63 : UInt8)).toNat : Int)) (by kernel_rfl) (by kernel_rfl) (ar_or8 (128 : UInt8) ((u8 a1) &&& (63 : UInt8)))) ?_
    refine zlRun (n := 1) (j := 10) rfl (by kernel_rfl) ?_
    refine bindE hS (fun z5 hz5 hS => ?_)
    refine zlOp (d := some 24) (op := (.app 5 1 1 (.tmp 14) (.tmp 23))) (g := none) (v := (.r (.msl 0 1 0 z5.length))) (ups := [(0, ⟨1, some (.own 5 1 (eU8.cells z5))⟩)]) (j := 11) rfl (by kernel_rfl) (by kernel_rfl) (ev_app eU8 (b := 0) (g := 0) (n := a2.length) (xs := a2) (ys := [((192 : UInt8) ||| (u8 (Int.fdiv a1 (2 ^ 6)))), ((128 : UInt8) ||| ((u8 a1) &&& (63 : UInt8)))]) ((congrArg (asL _) (by kernel_rfl : ρof _ (.tmp 23) = (.r (.msl 192 1 0 (([((192 : UInt8) ||| (u8 (Int.fdiv a1 (2 ^ 6)))), ((128 : UInt8) ||| ((u8 a1) &&& (63 : UInt8)))] : List UInt8).length))))).trans (as_whole eU8 (e := 5) (k := 1) (xs := [((192 : UInt8) ||| (u8 (Int.fdiv a1 (2 ^ 6)))), ((128 : UInt8) ||| ((u8 a1) &&& (63 : UInt8)))]) (by kernel_rfl) rfl rfl)) rfl (by kernel_rfl) rfl (by kernel_rfl) rfl hz5) ?_
    refine zlRun (n := 1) (j := 12) rfl (by kernel_rfl) ?_
    refine zlEnd (by kernel_rfl) ?_
    refine zkSeq ?_
    refine zrRet ?_
    refine zkBlkR ?_
    refine zkNil ?_
    exact endQ hS hQ (fRet (by kernel_rfl) ((congrArg (fun s => outR s 1 c75.res) (by kernel_rfl : finSt c75.fin _ = f75_fin z5)).trans (f75_out z5)))
  · replace hS := cond_f hc hS
    refine zlRun (n := 1) (j := 3) rfl (by kernel_rfl) ?_
    refine zlEnd (by kernel_rfl) ?_
    refine zkSeq ?_
    refine zrCondF (by kernel_rfl) ?_
    refine zrSeq ?_
    refine zrSeq ?_
    refine zrReg ?_
    refine zlRun (n := 1) (j := 1) rfl (by kernel_rfl) ?_
    refine zlBool (d := 27) (op := (.cmpI .lss (.tmp 26) (.const (.int .u32 55296)))) (g := none) (j := 2) (decide ((IntKind.u32.wrap (a1)) < 55296)) rfl (by kernel_rfl) (by kernel_rfl) (by kernel_rfl) (fun hc => ?_) (fun hc => ?_)
    · replace hS := cond_t hc hS
      refine zlRun (n := 1) (j := 3) rfl (by kernel_rfl) ?_
      refine zlEnd (by kernel_rfl) ?_
      refine zkSeq ?_
      refine zrCondT (by kernel_rfl) ?_
      refine zrSkip ?_
      refine zkSeq ?_
      exact f75_j0_ok hd a1 a2 hQ true hS (by kernel_rfl)
    · replace hS := cond_f hc hS
      refine zlRun (n := 1) (j := 3) rfl (by kernel_rfl) ?_
      refine zlEnd (by kernel_rfl) ?_
      refine zkSeq ?_
      refine zrCondF (by kernel_rfl) ?_
      refine zrReg ?_
      refine zlRun (n := 1) (j := 1) rfl (by kernel_rfl) ?_
      refine zlBool (d := 29) (op := (.cmpI .lss (.const (.int .u32 57343)) (.tmp 28))) (g := none) (j := 2) (decide (57343 < (IntKind.u32.wrap (a1)))) rfl (by kernel_rfl) (by kernel_rfl) (by kernel_rfl) (fun hc => ?_) (fun hc => ?_)
      · replace hS := cond_t hc hS
        refine zlRun (n := 2) (j := 4) rfl (by kernel_rfl) ?_
        refine zlBool (d := 32) (op := (.cmpI .leq (.tmp 31) (.const (.int .u32 65535)))) (g := (some (30, true))) (j := 5) (decide ((IntKind.u32.wrap (a1)) ≤ 65535)) rfl (by kernel_rfl) (by kernel_rfl) (by kernel_rfl) (fun hc => ?_) (fun hc => ?_)
        · replace hS := cond_t hc hS
          refine zlRun (n := 2) (j := 7) rfl (by kernel_rfl) ?_
          refine zlEnd (by kernel_rfl) ?_
          refine zkSeq ?_
          exact f75_j0_ok hd a1 a2 hQ true hS (by kernel_rfl)
        · replace hS := cond_f hc hS
          refine zlRun (n := 2) (j := 7) rfl (by kernel_rfl) ?_
          refine zlEnd (by kernel_rfl) ?_
          refine zkSeq ?_
          exact f75_j0_ok hd a1 a2 hQ false hS (by kernel_rfl)
      · replace hS := cond_f hc hS
        refine zlRun (n := 5) (j := 7) rfl (by kernel_rfl) ?_
        refine zlEnd (by kernel_rfl) ?_
        refine zkSeq ?_
        exact f75_j0_ok hd a1 a2 hQ false hS (by kernel_rfl)
/- unicode/utf8.AppendRune -/
def f70_fin (p2 : List UInt8) : St := ⟨(up (up (fun _ => .un) 1000000 .un) 4 (.r (.msl 0 1 0 p2.length))), (up (hB fun _ => 0) 0 ⟨1, some (.own 5 1 (eU8.cells p2))⟩)⟩
theorem f70_out (p2 : List UInt8) : outR (f70_fin p2) 1 c70.res = some ((.r (.msl 0 0 0 p2.length)), [(.own 5 1 (eU8.cells p2))]) := by
  kernel_rfl
def f70_Q (r : (List UInt8)) (e : PX) (st : St) : Prop := DoneF c70 1 ((.r (.msl 0 0 0 r.length)), [(.own 5 1 (eU8.cells r))]) e st
noncomputable def f70 (a1 : Int) (a2 : List UInt8) : Option ((List UInt8)) := (bif (decide ((IntKind.u32.wrap (a1)) ≤ 127)) then ((app? 1 a2 ([(u8 a1)] : List UInt8)).bind fun z3 => (some z3)) else ((f75 a1 a2).bind fun z4 => (some z4)))
theorem f70_ok (d : Nat) (hd : 2 ≤ d) (a1 : Int) (a2 : List UInt8) (r : (List UInt8)) (hS : f70 a1 a2 = some r) : lev codes baseL d 70 [(.r (.msl 0 0 0 a2.length)), (.d (.int .i32 a1))] [(.own 5 1 (eU8.cells a2))] = some ((.r (.msl 0 0 0 r.length)), [(.own 5 1 (eU8.cells r))]) := by
  refine lev_go codes70 rfl rfl (Nat.le_trans (Nat.le_of_ble_eq_true rfl) hd) fun Q hQ => ?_
  unfold f70 at hS
  show ZR _ Q c70_b [] _
  replace hQ : ∀ e st', f70_Q r e st' → Q e st' := hQ
  refine zrSeq ?_
  refine zrReg ?_
  refine zlRun (n := 1) (j := 1) rfl (by kernel_rfl) ?_
  refine zlEnd (by kernel_rfl) ?_
  refine zkSeq ?_
  refine zrSeq ?_
  refine zrSeq ?_
  refine zrReg ?_
  refine zlRun (n := 2) (j := 2) rfl (by kernel_rfl) ?_
  refine zlBool (d := 7) (op := (.cmpI .leq (.tmp 6) (.const (.int .u32 127)))) (g := none) (j := 3) (decide ((IntKind.u32.wrap (a1)) ≤ 127)) rfl (by kernel_rfl) (by kernel_rfl) (by kernel_rfl) (fun hc => ?_) (fun hc => ?_)
  · replace hS := cond_t hc hS
    refine zlEnd (by kernel_rfl) ?_
    refine zkSeq ?_
    refine zrCondT (by kernel_rfl) ?_
    refine zrSeq ?_
    refine zrReg ?_
    refine zlRun (n := 2) (j := 2) rfl (by kernel_rfl) ?_
    refine zlOp (d := some 10) (op := (.cvI .u8 (.tmp 9))) (g := none) (v := (.d (.int .u8 ((u8 a1).toNat : Int)))) (ups := []) (j := 3) rfl (by kernel_rfl) (by kernel_rfl) (ev_cv (kk := .i32) (a := a1) (by kernel_rfl) (u8_wrap _)) ?_
    refine zlRun (n := 1) (j := 4) rfl (by kernel_rfl) ?_
    refine bindE hS (fun z3 hz3 hS => ?_)
    refine zlOp (d := some 12) (op := (.app 5 1 1 (.tmp 8) (.tmp 11))) (g := none) (v := (.r (.msl 0 1 0 z3.length))) (ups := [(0, ⟨1, some (.own 5 1 (eU8.cells z3))⟩)]) (j := 5) rfl (by kernel_rfl) (by kernel_rfl) (ev_app eU8 (b := 0) (g := 0) (n := a2.length) (xs := a2) (ys := [(u8 a1)]) ((congrArg (asL _) (by kernel_rfl : ρof _ (.tmp 11) = (.r (.msl 96 1 0 (([(u8 a1)] : List UInt8).length))))).trans (as_whole eU8 (e := 5) (k := 1) (xs := [(u8 a1)]) (by kernel_rfl) rfl rfl)) rfl (by kernel_rfl) rfl (by kernel_rfl) rfl hz3) ?_
    refine zlRun (n := 1) (j := 6) rfl (by kernel_rfl) ?_
    refine zlEnd (by kernel_rfl) ?_
    refine zkSeq ?_
    refine zrRet ?_
    refine zkSeqR ?_
    refine zkNil ?_
    exact endQ hS hQ (fRet (by kernel_rfl) ((congrArg (fun s => outR s 1 c70.res) (by kernel_rfl : finSt c70.fin _ = f70_fin z3)).trans (f70_out z3)))
  · replace hS := cond_f hc hS
    refine zlEnd (by kernel_rfl) ?_
    refine zkSeq ?_
    refine zrCondF (by kernel_rfl) ?_
    refine zrSkip ?_
    refine zkSeq ?_
    refine zrSeq ?_
    refine zrReg ?_
    refine zlRun (n := 2) (j := 2) rfl (by kernel_rfl) ?_
    refine bindE hS (fun z4 hz4 hS => ?_)
    refine zlOp (d := some 15) (op := (.callr 75 [(.tmp 13), (.tmp 14)])) (g := none) (j := 3) rfl (by kernel_rfl) (by kernel_rfl) (ev_callrA (ids := [0]) (by kernel_rfl) (by kernel_rfl) (by kernel_rfl) (f75_ok (d - 1) (dpt hd rfl) a1 a2 z4 hz4) (by kernel_rfl)) ?_
    refine zlRun (n := 1) (j := 4) rfl (by kernel_rfl) ?_
    refine zlEnd (by kernel_rfl) ?_
    refine zkSeq ?_
    refine zrRet ?_
    refine zkNil ?_
    exact endQ hS hQ (fRet (by kernel_rfl) ((congrArg (fun s => outR s 1 c70.res) (by kernel_rfl : finSt c70.fin _ = f70_fin z4)).trans (f70_out z4)))
/- farwriter/utf.Encode -/
def f55_fin (p54 : List UInt8) : St := ⟨(up (fun _ => .un) 2 (.d (.str p54))), (hB fun _ => 0)⟩
theorem f55_out (p54 : List UInt8) : outR (f55_fin p54) 0 c55.res = some ((.d (.str p54)), []) := by
  kernel_rfl
def f55_Q (r : (List UInt8)) (e : PX) (st : St) : Prop := DoneF c55 0 ((.d (.str r)), []) e st
def f55_l0_J (a1 : List Int) (x : (List UInt8) × Int) : St := ⟨(up (up (up (up (fun _ => .un) 8 (.d (.int .i64 x.2))) 7 (.d (.int .i64 (a1.length : Int)))) 6 (.d (.sl a1.length ((eInt .i64).cells a1)))) 3 (.r (.msl 32 0 0 x.1.length))), (up (hB fun _ => 0) 32 ⟨0, some (.own 5 1 (eU8.cells x.1))⟩)⟩
def f55_l0_H (a1 : List Int) (x : (List UInt8) × Int) (st : St) : Prop := keepSt [3, 6, 7, 8] [(32, .id 32)] [] st = f55_l0_J a1 x
def f55_l0_e0_J (a1 : List Int) (p53 : List UInt8) : St := ⟨(up (fun _ => .un) 3 (.r (.msl 32 0 0 p53.length))), (up (hB fun _ => 0) 32 ⟨0, some (.own 5 1 (eU8.cells p53))⟩)⟩
def f55_l0_X (a1 : List Int) (z : ((List UInt8))) (e : PX) (st : St) : Prop := e = .exit 0 ∧ st = f55_l0_e0_J a1 z
def f55_l0_j2_J (a1 : List Int) (p61 : List UInt8) (p62 : Int) : St := ⟨(up (up (up (up (fun _ => .un) 8 (.d (.int .i64 p62))) 7 (.d (.int .i64 (a1.length : Int)))) 6 (.d (.sl a1.length ((eInt .i64).cells a1)))) 3 (.r (.msl 32 0 0 p61.length))), (up (hB fun _ => 0) 32 ⟨0, some (.own 5 1 (eU8.cells p61))⟩)⟩
noncomputable def f55_l0_j2 (a1 : List Int) (p61 : List UInt8) (p62 : Int) : Option (((List UInt8) × Int) ⊕ (((List UInt8)))) := ((idx a1 p62).bind fun z7 => (bif (decide (z7 < 0)) then ((f70 65533 p61).bind fun z8 => (some (.inl (z8, (IntKind.i64.wrap (p62 + 1)))))) else (bif (decide (1114111 < z7)) then ((f70 65533 p61).bind fun z9 => (some (.inl (z9, (IntKind.i64.wrap (p62 + 1)))))) else (bif (decide (55296 ≤ z7)) then (bif (decide (z7 ≤ 57343)) then ((f70 65533 p61).bind fun z10 => (some (.inl (z10, (IntKind.i64.wrap (p62 + 1)))))) else ((f70 (IntKind.i32.wrap (z7)) p61).bind fun z11 => (some (.inl (z11, (IntKind.i64.wrap (p62 + 1))))))) else ((f70 (IntKind.i32.wrap (z7)) p61).bind fun z12 => (some (.inl (z12, (IntKind.i64.wrap (p62 + 1))))))))))
theorem f55_l0_j2_ok {d : Nat} (hd : 3 ≤ d) (a1 : List Int) {r : ((List UInt8) × Int) ⊕ (((List UInt8)))} {Q : PX → St → Prop} (hQ : ∀ e st', finL (f55_l0_H a1) (f55_l0_X a1) r e st' → Q e st') (p61 : List UInt8) (p62 : Int) (hS : f55_l0_j2 a1 p61 p62 = some r) {st : St} (he : keepSt [3, 6, 7, 8] [(32, .id 32)] [] st = f55_l0_j2_J a1 p61 p62) : ZR (lev codes baseL (d - 1)) Q c55_1 [] st := by
  refine zrKeep he ?_
  unfold f55_l0_j2 at hS
  refine zrSeq ?_
  refine zrBlk ?_
  refine zrSeq ?_
  refine zrReg ?_
  refine bindE hS (fun z7 hz7 hS => ?_)
  refine zlOp (d := some 10) (op := (.ixS 3 1 (.tmp 6) (.tmp 8))) (g := none) (v := (.rptr ((eInt .i64).enc z7 ++ ((eInt .i64).cells (a1.drop ((p62 : Int).toNat + 1)))))) (ups := []) (j := 1) rfl (by kernel_rfl) (by kernel_rfl) (ev_ixS (eInt .i64) (kk := .i64) (xs := a1) (j := p62) (by kernel_rfl) (by kernel_rfl) hz7 rfl (by intro h; cases h)) ?_
  refine zlRun (n := 2) (j := 3) rfl (by kernel_rfl) ?_
  refine zlEnd (by kernel_rfl) ?_
  refine zkSeq ?_
  refine zrSeq ?_
  refine zrSeq ?_
  refine zrReg ?_
  refine zlRun (n := 1) (j := 1) rfl (by kernel_rfl) ?_
  refine zlBool (d := 13) (op := (.cmpI .lss (.tmp 12) (.const (.int .i64 0)))) (g := none) (j := 2) (decide (z7 < 0)) rfl (by kernel_rfl) (by kernel_rfl) (by kernel_rfl) (fun hc => ?_) (fun hc => ?_)
  · replace hS := cond_t hc hS
    refine zlRun (n := 12) (j := 14) rfl (by kernel_rfl) ?_
    refine zlEnd (by kernel_rfl) ?_
    refine zkSeq ?_
    refine zrCondT (by kernel_rfl) ?_
    refine zrReg ?_
    refine zlRun (n := 1) (j := 1) rfl (by kernel_rfl) ?_
    refine zlEnd (by kernel_rfl) ?_
    refine zkSeq ?_
    refine zrReg ?_
    refine zlRun (n := 3) (j := 3) rfl (by kernel_rfl) ?_
    refine bindE hS (fun z8 hz8 hS => ?_)
    refine zlOp (d := some 29) (op := (.callr 70 [(.tmp 26), (.tmp 28)])) (g := none) (j := 4) rfl (by kernel_rfl) (by kernel_rfl) (ev_callrA (ids := [32]) (by kernel_rfl) (by kernel_rfl) (by kernel_rfl) (f70_ok (d - 1) (dpt hd rfl) 65533 p61 z8 hz8) (by kernel_rfl)) ?_
    refine zlRun (n := 1) (j := 5) rfl (by kernel_rfl) ?_
    refine zlEnd (by kernel_rfl) ?_
    refine zkBlk ?_
    refine zkSeq ?_
    refine zrReg ?_
    refine zlRun (n := 2) (j := 2) rfl (by kernel_rfl) ?_
    refine zlEnd (by kernel_rfl) ?_
    refine zkNil ?_
    exact endQ hS hQ (finL_n (by show keepSt _ _ _ _ = _; kernel_rfl))
  · replace hS := cond_f hc hS
    refine zlRun (n := 2) (j := 4) rfl (by kernel_rfl) ?_
    refine zlBool (d := 16) (op := (.cmpI .gtr (.tmp 15) (.const (.int .i64 1114111)))) (g := (some (14, false))) (j := 5) (decide (1114111 < z7)) rfl (by kernel_rfl) (by kernel_rfl) (by kernel_rfl) (fun hc => ?_) (fun hc => ?_)
    · replace hS := cond_t hc hS
      refine zlRun (n := 9) (j := 14) rfl (by kernel_rfl) ?_
      refine zlEnd (by kernel_rfl) ?_
      refine zkSeq ?_
      refine zrCondT (by kernel_rfl) ?_
      refine zrReg ?_
      refine zlRun (n := 1) (j := 1) rfl (by kernel_rfl) ?_
      refine zlEnd (by kernel_rfl) ?_
      refine zkSeq ?_
      refine zrReg ?_
      refine zlRun (n := 3) (j := 3) rfl (by kernel_rfl) ?_
      refine bindE hS (fun z9 hz9 hS => ?_)
      refine zlOp (d := some 29) (op := (.callr 70 [(.tmp 26), (.tmp 28)])) (g := none) (j := 4) rfl (by kernel_rfl) (by kernel_rfl) (ev_callrA (ids := [32]) (by kernel_rfl) (by kernel_rfl) (by kernel_rfl) (f70_ok (d - 1) (dpt hd rfl) 65533 p61 z9 hz9) (by kernel_rfl)) ?_
      refine zlRun (n := 1) (j := 5) rfl (by kernel_rfl) ?_
      refine zlEnd (by kernel_rfl) ?_
      refine zkBlk ?_
      refine zkSeq ?_
      refine zrReg ?_
      refine zlRun (n := 2) (j := 2) rfl (by kernel_rfl) ?_
      refine zlEnd (by kernel_rfl) ?_
      refine zkNil ?_
      exact endQ hS hQ (finL_n (by show keepSt _ _ _ _ = _; kernel_rfl))
    · replace hS := cond_f hc hS
      refine zlRun (n := 3) (j := 8) rfl (by kernel_rfl) ?_
      refine zlBool (d := 20) (op := (.cmpI .geq (.tmp 19) (.const (.int .i64 55296)))) (g := (some (18, false))) (j := 9) (decide (55296 ≤ z7)) rfl (by kernel_rfl) (by kernel_rfl) (by kernel_rfl) (fun hc => ?_) (fun hc => ?_)
      · replace hS := cond_t hc hS
        refine zlRun (n := 2) (j := 11) rfl (by kernel_rfl) ?_
        refine zlBool (d := 23) (op := (.cmpI .leq (.tmp 22) (.const (.int .i64 57343)))) (g := (some (21, true))) (j := 12) (decide (z7 ≤ 57343)) rfl (by kernel_rfl) (by kernel_rfl) (by kernel_rfl) (fun hc => ?_) (fun hc => ?_)
        · replace hS := cond_t hc hS
          refine zlRun (n := 2) (j := 14) rfl (by kernel_rfl) ?_
          refine zlEnd (by kernel_rfl) ?_
          refine zkSeq ?_
          refine zrCondT (by kernel_rfl) ?_
          refine zrReg ?_
          refine zlRun (n := 1) (j := 1) rfl (by kernel_rfl) ?_
          refine zlEnd (by kernel_rfl) ?_
          refine zkSeq ?_
          refine zrReg ?_
          refine zlRun (n := 3) (j := 3) rfl (by kernel_rfl) ?_
          refine bindE hS (fun z10 hz10 hS => ?_)
          refine zlOp (d := some 29) (op := (.callr 70 [(.tmp 26), (.tmp 28)])) (g := none) (j := 4) rfl (by kernel_rfl) (by kernel_rfl) (ev_callrA (ids := [32]) (by kernel_rfl) (by kernel_rfl) (by kernel_rfl) (f70_ok (d - 1) (dpt hd rfl) 65533 p61 z10 hz10) (by kernel_rfl)) ?_
          refine zlRun (n := 1) (j := 5) rfl (by kernel_rfl) ?_
          refine zlEnd (by kernel_rfl) ?_
          refine zkBlk ?_
          refine zkSeq ?_
          refine zrReg ?_
          refine zlRun (n := 2) (j := 2) rfl (by kernel_rfl) ?_
          refine zlEnd (by kernel_rfl) ?_
          refine zkNil ?_
          exact endQ hS hQ (finL_n (by show keepSt _ _ _ _ = _; kernel_rfl))
        · replace hS := cond_f hc hS
          refine zlRun (n := 2) (j := 14) rfl (by kernel_rfl) ?_
          refine zlEnd (by kernel_rfl) ?_
          refine zkSeq ?_
          refine zrCondF (by kernel_rfl) ?_
          refine zrSkip ?_
          refine zkSeq ?_
          refine zrReg ?_
          refine zlRun (n := 3) (j := 3) rfl (by kernel_rfl) ?_
          refine bindE hS (fun z11 hz11 hS => ?_)
          refine zlOp (d := some 29) (op := (.callr 70 [(.tmp 26), (.tmp 28)])) (g := none) (j := 4) rfl (by kernel_rfl) (by kernel_rfl) (ev_callrA (ids := [32]) (by kernel_rfl) (by kernel_rfl) (by kernel_rfl) (f70_ok (d - 1) (dpt hd rfl) (IntKind.i32.wrap (z7)) p61 z11 hz11) (by kernel_rfl)) ?_
          refine zlRun (n := 1) (j := 5) rfl (by kernel_rfl) ?_
          refine zlEnd (by kernel_rfl) ?_
          refine zkBlk ?_
          refine zkSeq ?_
          refine zrReg ?_
          refine zlRun (n := 2) (j := 2) rfl (by kernel_rfl) ?_
          refine zlEnd (by kernel_rfl) ?_
          refine zkNil ?_
          exact endQ hS hQ (finL_n (by show keepSt _ _ _ _ = _; kernel_rfl))
      · replace hS := cond_f hc hS
        refine zlRun (n := 5) (j := 14) rfl (by kernel_rfl) ?_
        refine zlEnd (by kernel_rfl) ?_
        refine zkSeq ?_
        refine zrCondF (by kernel_rfl) ?_
        refine zrSkip ?_
        refine zkSeq ?_
        refine zrReg ?_
        refine zlRun (n := 3) (j := 3) rfl (by kernel_rfl) ?_
        refine bindE hS (fun z12 hz12 hS => ?_)
        refine zlOp (d := some 29) (op := (.callr 70 [(.tmp 26), (.tmp 28)])) (g := none) (j := 4) rfl (by kernel_rfl) (by kernel_rfl) (ev_callrA (ids := [32]) (by kernel_rfl) (by kernel_rfl) (by kernel_rfl) (f70_ok (d - 1) (dpt hd rfl) (IntKind.i32.wrap (z7)) p61 z12 hz12) (by kernel_rfl)) ?_
        refine zlRun (n := 1) (j := 5) rfl (by kernel_rfl) ?_
        refine zlEnd (by kernel_rfl) ?_
        refine zkBlk ?_
        refine zkSeq ?_
        refine zrReg ?_
        refine zlRun (n := 2) (j := 2) rfl (by kernel_rfl) ?_
        refine zlEnd (by kernel_rfl) ?_
        refine zkNil ?_
        exact endQ hS hQ (finL_n (by show keepSt _ _ _ _ = _; kernel_rfl))
def f55_l0_j1_J (a1 : List Int) (p58 : List UInt8) (p59 : Int) (p60 : Bool) : St := ⟨(up (up (up (up (up (fun _ => .un) 9 (.d (.bool p60))) 8 (.d (.int .i64 p59))) 7 (.d (.int .i64 (a1.length : Int)))) 6 (.d (.sl a1.length ((eInt .i64).cells a1)))) 3 (.r (.msl 32 0 0 p58.length))), (up (hB fun _ => 0) 32 ⟨0, some (.own 5 1 (eU8.cells p58))⟩)⟩
noncomputable def f55_l0_j1 (a1 : List Int) (p58 : List UInt8) (p59 : Int) (p60 : Bool) : Option (((List UInt8) × Int) ⊕ (((List UInt8)))) := (bif p60 then (f55_l0_j2 a1 p58 p59) else (some (.inr p58)))
theorem f55_l0_j1_ok {d : Nat} (hd : 3 ≤ d) (a1 : List Int) {r : ((List UInt8) × Int) ⊕ (((List UInt8)))} {Q : PX → St → Prop} (hQ : ∀ e st', finL (f55_l0_H a1) (f55_l0_X a1) r e st' → Q e st') (p58 : List UInt8) (p59 : Int) (p60 : Bool) (hS : f55_l0_j1 a1 p58 p59 p60 = some r) {st : St} (he : keepSt [3, 6, 7, 8, 9] [(32, .id 32)] [] st = f55_l0_j1_J a1 p58 p59 p60) : ZR (lev codes baseL (d - 1)) Q c55_2 [] st := by
  refine zrKeep he ?_
  unfold f55_l0_j1 at hS
  refine zrSeq ?_
  refine zrSplit 9 p60 (by kernel_rfl) (fun hc => ?_) (fun hc => ?_)
  · replace hS := cond_t hc hS
    refine zrCondT (by kernel_rfl) ?_
    refine zrSkip ?_
    refine zkSeq ?_
    exact f55_l0_j2_ok hd a1 hQ p58 p59 hS (by kernel_rfl)
  · replace hS := cond_f hc hS
    refine zrCondF (by kernel_rfl) ?_
    refine zrKeep (J := f55_l0_e0_J a1 p58) (by kernel_rfl) ?_
    refine zrExit ?_
    refine zkSeqX ?_
    refine zkNil ?_
    exact endQ hS hQ (finL_x (by intro h; cases h) (by show _ = _ ∧ _ = _; exact ⟨rfl, rfl⟩))
noncomputable def f55_l0 (a1 : List Int) (x : (List UInt8) × Int) : Option (((List UInt8) × Int) ⊕ (((List UInt8)))) := (bif (decide (x.2 < (a1.length : Int))) then (f55_l0_j1 a1 x.1 x.2 true) else (f55_l0_j1 a1 x.1 x.2 false))
theorem f55_l0_ok {d : Nat} (hd : 3 ≤ d) (a1 : List Int) {r : ((List UInt8) × Int) ⊕ (((List UInt8)))} {Q : PX → St → Prop} (hQ : ∀ e st', finL (f55_l0_H a1) (f55_l0_X a1) r e st' → Q e st') {x : (List UInt8) × Int} (hS : f55_l0 a1 x = some r) {st : St} (he : f55_l0_H a1 x st) : ZR (lev codes baseL (d - 1)) Q c55_3 [] st := by
  refine zrKeep he ?_
  unfold f55_l0 at hS
  refine zrSeq ?_
  refine zrReg ?_
  refine zlBool (d := 9) (op := (.cmpI .lss (.tmp 8) (.tmp 7))) (g := none) (j := 1) (decide (x.2 < (a1.length : Int))) rfl (by kernel_rfl) (by kernel_rfl) (by kernel_rfl) (fun hc => ?_) (fun hc => ?_)
  · replace hS := cond_t hc hS
    refine zlEnd (by kernel_rfl) ?_
    refine zkSeq ?_
    exact f55_l0_j1_ok hd a1 hQ x.1 x.2 true hS (by kernel_rfl)
  · replace hS := cond_f hc hS
    refine zlEnd (by kernel_rfl) ?_
    refine zkSeq ?_
    exact f55_l0_j1_ok hd a1 hQ x.1 x.2 false hS (by kernel_rfl)
noncomputable def f55 (a1 : List Int) : Option ((List UInt8)) := ((loopO (f55_l0 a1) ([], 0)).bind fun z13 => (some z13))
theorem f55_ok (d : Nat) (hd : 3 ≤ d) (a1 : List Int) (r : (List UInt8)) (hS : f55 a1 = some r) : lev codes baseL d 55 [(.d (.sl a1.length ((eInt .i64).cells a1)))] [] = some ((.d (.str r)), []) := by
  refine lev_go codes55 rfl rfl (Nat.le_trans (Nat.le_of_ble_eq_true rfl) hd) fun Q hQ => ?_
  unfold f55 at hS
  show ZR _ Q c55_b [] _
  replace hQ : ∀ e st', f55_Q r e st' → Q e st' := hQ
  refine zrSeq ?_
  refine zrReg ?_
  refine zlRun (n := 1) (j := 1) rfl (by kernel_rfl) ?_
  refine zlEnd (by kernel_rfl) ?_
  refine zkSeq ?_
  refine zrSeq ?_
  refine zrReg ?_
  refine zlRun (n := 1) (j := 1) rfl (by kernel_rfl) ?_
  refine zlEnd (by kernel_rfl) ?_
  refine zkSeq ?_
  refine zrSeq ?_
  refine zrSeq ?_
  refine zrReg ?_
  refine zlRun (n := 3) (j := 3) rfl (by kernel_rfl) ?_
  refine zlEnd (by kernel_rfl) ?_
  refine zkSeq ?_
  refine zrBlk ?_
  refine bindE hS (fun z13 hz13 hS => ?_)
  refine zrLoop (f55_l0_H a1) (f55_l0_X a1) (fun x st r Q h0 hS hQ => f55_l0_ok hd a1 hQ hS h0) (x := ([], 0)) (z := z13) (by show keepSt _ _ _ _ = _; kernel_rfl) hz13 ?_
  intro e st' _ hX
  obtain ⟨rfl, rfl⟩ : _ ∧ _ := hX
  refine zkBlkX ?_
  refine zkSeq ?_
  refine zrSeq ?_
  refine zrReg ?_
  refine zlRun (n := 1) (j := 1) rfl (by kernel_rfl) ?_
  refine zlOp (d := some 32) (op := (.cvBS (.tmp 31))) (g := none) (v := (.d (.str z13))) (ups := []) (j := 2) rfl (by kernel_rfl) (by kernel_rfl) (ev_cvBS (s := z13) ((congrArg (asL _) (by kernel_rfl : ρof _ (.tmp 31) = (.r (.msl 32 0 0 z13.length)))).trans (as_whole eU8 (e := 5) (k := 1) (xs := z13) (by kernel_rfl) rfl rfl)) rfl) ?_
  refine zlRun (n := 1) (j := 3) rfl (by kernel_rfl) ?_
  refine zlEnd (by kernel_rfl) ?_
  refine zkSeq ?_
  refine zrRet ?_
  refine zkNil ?_
  exact endQ hS hQ (fRet (by kernel_rfl) ((congrArg (fun s => outR s 0 c55.res) (by kernel_rfl : finSt c55.fin _ = f55_fin z13)).trans (f55_out z13)))
/- farwriter/press.character -/
def f41_fin (p13 : List UInt8) : St := ⟨(up (fun _ => .un) 4 (.d (.str p13))), (hB fun _ => 0)⟩
theorem f41_out (p13 : List UInt8) : outR (f41_fin p13) 0 c41.res = some ((.d (.str p13)), []) := by
  kernel_rfl
def f41_Q (r : (List UInt8)) (e : PX) (st : St) : Prop := DoneF c41 0 ((.d (.str r)), []) e st
def f41_j0_J (a1 : Int) (a2 : Int) : St := ⟨(up (fun _ => .un) 0 (.d (.int .i64 a1))), (hB fun _ => 0)⟩
noncomputable def f41_j0 (a1 : Int) (a2 : Int) : Option ((List UInt8)) := ((f55 [(bitI .and .i64 a1 31)]).bind fun z2 => (some z2))
theorem f41_j0_ok {d : Nat} (hd : 4 ≤ d) (a1 : Int) (a2 : Int) {r : (List UInt8)} {Q : PX → St → Prop} (hQ : ∀ e st', f41_Q r e st' → Q e st')  (hS : f41_j0 a1 a2 = some r) {st : St} (he : keepSt [0] [] [] st = f41_j0_J a1 a2) : ZR (lev codes baseL (d - 1)) Q c41_1 [.blk 0, .seq c41_2] st := by
  refine zrKeep he ?_
  unfold f41_j0 at hS
  refine zrReg ?_
  refine zlRun (n := 3) (j := 3) rfl (by kernel_rfl) ?_
  refine zlEnd (by kernel_rfl) ?_
  refine zkBlk ?_
  refine zkSeq ?_
  refine zrSeq ?_
  refine zrReg ?_
  refine zlRun (n := 2) (j := 2) rfl (by kernel_rfl) ?_
  refine bindE hS (fun z2 hz2 hS => ?_)
  refine zlOp (d := some 33) (op := (.call 55 [(.tmp 32)])) (g := none) (j := 3) rfl (by kernel_rfl) (by kernel_rfl) (ev_callB (args := [(.r (.msl 264 1 0 (([(bitI .and .i64 a1 31)] : List Int).length)))]) (by kernel_rfl) (l_cons (l_own (eInt .i64) (e := 3) (k := 1) (xs := [(bitI .and .i64 a1 31)]) (by kernel_rfl) rfl rfl) l_nil) (f55_ok (d - 1) (dpt hd rfl) [(bitI .and .i64 a1 31)] z2 hz2) (by kernel_rfl) (by kernel_rfl)) ?_
  refine zlRun (n := 1) (j := 4) rfl (by kernel_rfl) ?_
  refine zlEnd (by kernel_rfl) ?_
  refine zkSeq ?_
  refine zrRet ?_
  refine zkNil ?_
  exact endQ hS hQ (fRet (by kernel_rfl) ((congrArg (fun s => outR s 0 c41.res) (by kernel_rfl : finSt c41.fin _ = f41_fin z2)).trans (f41_out z2)))
def f41_j1_J (a1 : Int) (a2 : Int) : St := ⟨(up (fun _ => .un) 0 (.d (.int .i64 a1))), (hB fun _ => 0)⟩
noncomputable def f41_j1 (a1 : Int) (a2 : Int) : Option ((List UInt8)) := (bif (decide (a1 = 32)) then ((f55 [0]).bind fun z3 => (some z3)) else (bif (decide (a1 = 63)) then ((f55 [127]).bind fun z4 => (some z4)) else ((f55 [a1]).bind fun z5 => (some z5))))
theorem f41_j1_ok {d : Nat} (hd : 4 ≤ d) (a1 : Int) (a2 : Int) {r : (List UInt8)} {Q : PX → St → Prop} (hQ : ∀ e st', f41_Q r e st' → Q e st')  (hS : f41_j1 a1 a2 = some r) {st : St} (he : keepSt [0] [] [] st = f41_j1_J a1 a2) : ZR (lev codes baseL (d - 1)) Q c41_3 [.blk 0, .seq c41_2] st := by
  refine zrKeep he ?_
  unfold f41_j1 at hS
  refine zrSeq ?_
  refine zrReg ?_
  refine zlRun (n := 1) (j := 1) rfl (by kernel_rfl) ?_
  refine zlBool (d := 27) (op := (.cmpI .eql (.tmp 26) (.const (.int .i64 32)))) (g := none) (j := 2) (decide (a1 = 32)) rfl (by kernel_rfl) (by kernel_rfl) (by kernel_rfl) (fun hc => ?_) (fun hc => ?_)
  · replace hS := cond_t hc hS
    refine zlRun (n := 1) (j := 3) rfl (by kernel_rfl) ?_
    refine zlEnd (by kernel_rfl) ?_
    refine zkSeq ?_
    refine zrCondT (by kernel_rfl) ?_
    refine zrReg ?_
    refine zlRun (n := 1) (j := 1) rfl (by kernel_rfl) ?_
    refine zlEnd (by kernel_rfl) ?_
    refine zkBlk ?_
    refine zkSeq ?_
    refine zrSeq ?_
    refine zrReg ?_
    refine zlRun (n := 2) (j := 2) rfl (by kernel_rfl) ?_
    refine bindE hS (fun z3 hz3 hS => ?_)
    refine zlOp (d := some 33) (op := (.call 55 [(.tmp 32)])) (g := none) (j := 3) rfl (by kernel_rfl) (by kernel_rfl) (ev_callB (args := [(.r (.msl 264 1 0 (([0] : List Int).length)))]) (by kernel_rfl) (l_cons (l_own (eInt .i64) (e := 3) (k := 1) (xs := [0]) (by kernel_rfl) rfl rfl) l_nil) (f55_ok (d - 1) (dpt hd rfl) [0] z3 hz3) (by kernel_rfl) (by kernel_rfl)) ?_
    refine zlRun (n := 1) (j := 4) rfl (by kernel_rfl) ?_
    refine zlEnd (by kernel_rfl) ?_
    refine zkSeq ?_
    refine zrRet ?_
    refine zkNil ?_
    exact endQ hS hQ (fRet (by kernel_rfl) ((congrArg (fun s => outR s 0 c41.res) (by kernel_rfl : finSt c41.fin _ = f41_fin z3)).trans (f41_out z3)))
  · replace hS := cond_f hc hS
    refine zlRun (n := 1) (j := 3) rfl (by kernel_rfl) ?_
    refine zlEnd (by kernel_rfl) ?_
    refine zkSeq ?_
    refine zrCondF (by kernel_rfl) ?_
    refine zrSeq ?_
    refine zrReg ?_
    refine zlRun (n := 1) (j := 1) rfl (by kernel_rfl) ?_
    refine zlBool (d := 30) (op := (.cmpI .eql (.tmp 29) (.const (.int .i64 63)))) (g := none) (j := 2) (decide (a1 = 63)) rfl (by kernel_rfl) (by kernel_rfl) (by kernel_rfl) (fun hc => ?_) (fun hc => ?_)
    · replace hS := cond_t hc hS
      refine zlRun (n := 1) (j := 3) rfl (by kernel_rfl) ?_
      refine zlEnd (by kernel_rfl) ?_
      refine zkSeq ?_
      refine zrCondT (by kernel_rfl) ?_
      refine zrReg ?_
      refine zlRun (n := 1) (j := 1) rfl (by kernel_rfl) ?_
      refine zlEnd (by kernel_rfl) ?_
      refine zkBlk ?_
      refine zkSeq ?_
      refine zrSeq ?_
      refine zrReg ?_
      refine zlRun (n := 2) (j := 2) rfl (by kernel_rfl) ?_
      refine bindE hS (fun z4 hz4 hS => ?_)
      refine zlOp (d := some 33) (op := (.call 55 [(.tmp 32)])) (g := none) (j := 3) rfl (by kernel_rfl) (by kernel_rfl) (ev_callB (args := [(.r (.msl 264 1 0 (([127] : List Int).length)))]) (by kernel_rfl) (l_cons (l_own (eInt .i64) (e := 3) (k := 1) (xs := [127]) (by kernel_rfl) rfl rfl) l_nil) (f55_ok (d - 1) (dpt hd rfl) [127] z4 hz4) (by kernel_rfl) (by kernel_rfl)) ?_
      refine zlRun (n := 1) (j := 4) rfl (by kernel_rfl) ?_
      refine zlEnd (by kernel_rfl) ?_
      refine zkSeq ?_
      refine zrRet ?_
      refine zkNil ?_
      exact endQ hS hQ (fRet (by kernel_rfl) ((congrArg (fun s => outR s 0 c41.res) (by kernel_rfl : finSt c41.fin _ = f41_fin z4)).trans (f41_out z4)))
    · replace hS := cond_f hc hS
      refine zlRun (n := 1) (j := 3) rfl (by kernel_rfl) ?_
      refine zlEnd (by kernel_rfl) ?_
      refine zkSeq ?_
      refine zrCondF (by kernel_rfl) ?_
      refine zrSkip ?_
      refine zkBlk ?_
      refine zkSeq ?_
      refine zrSeq ?_
      refine zrReg ?_
      refine zlRun (n := 2) (j := 2) rfl (by kernel_rfl) ?_
      refine bindE hS (fun z5 hz5 hS => ?_)
      refine zlOp (d := some 33) (op := (.call 55 [(.tmp 32)])) (g := none) (j := 3) rfl (by kernel_rfl) (by kernel_rfl) (ev_callB (args := [(.r (.msl 264 1 0 (([a1] : List Int).length)))]) (by kernel_rfl) (l_cons (l_own (eInt .i64) (e := 3) (k := 1) (xs := [a1]) (by kernel_rfl) rfl rfl) l_nil) (f55_ok (d - 1) (dpt hd rfl) [a1] z5 hz5) (by kernel_rfl) (by kernel_rfl)) ?_
      refine zlRun (n := 1) (j := 4) rfl (by kernel_rfl) ?_
      refine zlEnd (by kernel_rfl) ?_
      refine zkSeq ?_
      refine zrRet ?_
      refine zkNil ?_
      exact endQ hS hQ (fRet (by kernel_rfl) ((congrArg (fun s => outR s 0 c41.res) (by kernel_rfl : finSt c41.fin _ = f41_fin z5)).trans (f41_out z5)))
noncomputable def f41 (a1 : Int) (a2 : Int) : Option ((List UInt8)) := (bif (!decide ((bitI .and .i64 a2 4) = 0)) then (bif (decide (64 ≤ a1)) then (bif (decide (a1 ≤ 95)) then (f41_j0 a1 a2 ) else (bif (decide (97 ≤ a1)) then (bif (decide (a1 ≤ 122)) then (f41_j0 a1 a2 ) else (f41_j1 a1 a2 )) else (f41_j1 a1 a2 ))) else (bif (decide (97 ≤ a1)) then (bif (decide (a1 ≤ 122)) then (f41_j0 a1 a2 ) else (f41_j1 a1 a2 )) else (f41_j1 a1 a2 ))) else ((f55 [a1]).bind fun z6 => (some z6)))
theorem f41_ok (d : Nat) (hd : 4 ≤ d) (a1 : Int) (a2 : Int) (r : (List UInt8)) (hS : f41 a1 a2 = some r) : lev codes baseL d 41 [(.d (.int .i64 a1)), (.d (.int .i64 a2))] [] = some ((.d (.str r)), []) := by
  refine lev_go codes41 rfl rfl (Nat.le_trans (Nat.le_of_ble_eq_true rfl) hd) fun Q hQ => ?_
  unfold f41 at hS
  show ZR _ Q c41_b [] _
  replace hQ : ∀ e st', f41_Q r e st' → Q e st' := hQ
  refine zrSeq ?_
  refine zrReg ?_
  refine zlRun (n := 1) (j := 1) rfl (by kernel_rfl) ?_
  refine zlEnd (by kernel_rfl) ?_
  refine zkSeq ?_
  refine zrSeq ?_
  refine zrSeq ?_
  refine zrReg ?_
  refine zlRun (n := 2) (j := 2) rfl (by kernel_rfl) ?_
  refine zlBool (d := 7) (op := (.cmpI .neq (.tmp 6) (.const (.int .i64 0)))) (g := none) (j := 3) (!decide ((bitI .and .i64 a2 4) = 0)) rfl (by kernel_rfl) (by kernel_rfl) (by kernel_rfl) (fun hc => ?_) (fun hc => ?_)
  · replace hS := cond_t hc hS
    refine zlEnd (by kernel_rfl) ?_
    refine zkSeq ?_
    refine zrCondT (by kernel_rfl) ?_
    refine zrBlk ?_
    refine zrSeq ?_
    refine zrReg ?_
    refine zlRun (n := 1) (j := 1) rfl (by kernel_rfl) ?_
    refine zlBool (d := 10) (op := (.cmpI .geq (.tmp 9) (.const (.int .i64 64)))) (g := none) (j := 2) (decide (64 ≤ a1)) rfl (by kernel_rfl) (by kernel_rfl) (by kernel_rfl) (fun hc => ?_) (fun hc => ?_)
    · replace hS := cond_t hc hS
      refine zlRun (n := 2) (j := 4) rfl (by kernel_rfl) ?_
      refine zlBool (d := 13) (op := (.cmpI .leq (.tmp 12) (.const (.int .i64 95)))) (g := (some (11, true))) (j := 5) (decide (a1 ≤ 95)) rfl (by kernel_rfl) (by kernel_rfl) (by kernel_rfl) (fun hc => ?_) (fun hc => ?_)
      · replace hS := cond_t hc hS
        refine zlRun (n := 10) (j := 15) rfl (by kernel_rfl) ?_
        refine zlEnd (by kernel_rfl) ?_
        refine zkSeq ?_
        refine zrCondT (by kernel_rfl) ?_
        exact f41_j0_ok hd a1 a2 hQ  hS (by kernel_rfl)
      · replace hS := cond_f hc hS
        refine zlRun (n := 3) (j := 8) rfl (by kernel_rfl) ?_
        refine zlBool (d := 17) (op := (.cmpI .geq (.tmp 16) (.const (.int .i64 97)))) (g := (some (15, false))) (j := 9) (decide (97 ≤ a1)) rfl (by kernel_rfl) (by kernel_rfl) (by kernel_rfl) (fun hc => ?_) (fun hc => ?_)
        · replace hS := cond_t hc hS
          refine zlRun (n := 2) (j := 11) rfl (by kernel_rfl) ?_
          refine zlBool (d := 20) (op := (.cmpI .leq (.tmp 19) (.const (.int .i64 122)))) (g := (some (18, true))) (j := 12) (decide (a1 ≤ 122)) rfl (by kernel_rfl) (by kernel_rfl) (by kernel_rfl) (fun hc => ?_) (fun hc => ?_)
          · replace hS := cond_t hc hS
            refine zlRun (n := 3) (j := 15) rfl (by kernel_rfl) ?_
            refine zlEnd (by kernel_rfl) ?_
            refine zkSeq ?_
            refine zrCondT (by kernel_rfl) ?_
            exact f41_j0_ok hd a1 a2 hQ  hS (by kernel_rfl)
          · replace hS := cond_f hc hS
            refine zlRun (n := 3) (j := 15) rfl (by kernel_rfl) ?_
            refine zlEnd (by kernel_rfl) ?_
            refine zkSeq ?_
            refine zrCondF (by kernel_rfl) ?_
            exact f41_j1_ok hd a1 a2 hQ  hS (by kernel_rfl)
        · replace hS := cond_f hc hS
          refine zlRun (n := 6) (j := 15) rfl (by kernel_rfl) ?_
          refine zlEnd (by kernel_rfl) ?_
          refine zkSeq ?_
          refine zrCondF (by kernel_rfl) ?_
          exact f41_j1_ok hd a1 a2 hQ  hS (by kernel_rfl)
    · replace hS := cond_f hc hS
      refine zlRun (n := 6) (j := 8) rfl (by kernel_rfl) ?_
      refine zlBool (d := 17) (op := (.cmpI .geq (.tmp 16) (.const (.int .i64 97)))) (g := (some (15, false))) (j := 9) (decide (97 ≤ a1)) rfl (by kernel_rfl) (by kernel_rfl) (by kernel_rfl) (fun hc => ?_) (fun hc => ?_)
      · replace hS := cond_t hc hS
        refine zlRun (n := 2) (j := 11) rfl (by kernel_rfl) ?_
        refine zlBool (d := 20) (op := (.cmpI .leq (.tmp 19) (.const (.int .i64 122)))) (g := (some (18, true))) (j := 12) (decide (a1 ≤ 122)) rfl (by kernel_rfl) (by kernel_rfl) (by kernel_rfl) (fun hc => ?_) (fun hc => ?_)
        · replace hS := cond_t hc hS
          refine zlRun (n := 3) (j := 15) rfl (by kernel_rfl) ?_
          refine zlEnd (by kernel_rfl) ?_
          refine zkSeq ?_
          refine zrCondT (by kernel_rfl) ?_
          exact f41_j0_ok hd a1 a2 hQ  hS (by kernel_rfl)
        · replace hS := cond_f hc hS
          refine zlRun (n := 3) (j := 15) rfl (by kernel_rfl) ?_
          refine zlEnd (by kernel_rfl) ?_
          refine zkSeq ?_
          refine zrCondF (by kernel_rfl) ?_
          exact f41_j1_ok hd a1 a2 hQ  hS (by kernel_rfl)
      · replace hS := cond_f hc hS
        refine zlRun (n := 6) (j := 15) rfl (by kernel_rfl) ?_
        refine zlEnd (by kernel_rfl) ?_
        refine zkSeq ?_
        refine zrCondF (by kernel_rfl) ?_
        exact f41_j1_ok hd a1 a2 hQ  hS (by kernel_rfl)
  · replace hS := cond_f hc hS
    refine zlEnd (by kernel_rfl) ?_
    refine zkSeq ?_
    refine zrCondF (by kernel_rfl) ?_
    refine zrSkip ?_
    refine zkSeq ?_
    refine zrSeq ?_
    refine zrReg ?_
    refine zlRun (n := 2) (j := 2) rfl (by kernel_rfl) ?_
    refine bindE hS (fun z6 hz6 hS => ?_)
    refine zlOp (d := some 33) (op := (.call 55 [(.tmp 32)])) (g := none) (j := 3) rfl (by kernel_rfl) (by kernel_rfl) (ev_callB (args := [(.r (.msl 264 1 0 (([a1] : List Int).length)))]) (by kernel_rfl) (l_cons (l_own (eInt .i64) (e := 3) (k := 1) (xs := [a1]) (by kernel_rfl) rfl rfl) l_nil) (f55_ok (d - 1) (dpt hd rfl) [a1] z6 hz6) (by kernel_rfl) (by kernel_rfl)) ?_
    refine zlRun (n := 1) (j := 4) rfl (by kernel_rfl) ?_
    refine zlEnd (by kernel_rfl) ?_
    refine zkSeq ?_
    refine zrRet ?_
    refine zkNil ?_
    exact endQ hS hQ (fRet (by kernel_rfl) ((congrArg (fun s => outR s 0 c41.res) (by kernel_rfl : finSt c41.fin _ = f41_fin z6)).trans (f41_out z6)))
/- farwriter/press.plain -/
def f27_fin (p9 : List UInt8) : St := ⟨(up (fun _ => .un) 2 (.d (.str p9))), (hB fun _ => 0)⟩
theorem f27_out (p9 : List UInt8) : outR (f27_fin p9) 0 c27.res = some ((.d (.str p9)), []) := by
  kernel_rfl
def f27_Q (r : (List UInt8)) (e : PX) (st : St) : Prop := DoneF c27 0 ((.d (.str r)), []) e st
def f27_j1_J (a1 : GKey) : St := ⟨(up (fun _ => .un) 1 (.r (.ptr 16 0 0))), (up (hB fun _ => 0) 16 ⟨0, some (.box ((.d (.int .i64 a1.Name)) :: ((.d (.int .i64 a1.Rune)) :: ((.d (.int .i64 a1.Mods)) :: []))))⟩)⟩
noncomputable def f27_j1 (a1 : GKey) : Option ((List UInt8)) := (bif (decide (a1.Name = 25)) then (some [127]) else (bif (decide (a1.Name = 26)) then (some [27]) else ((f41 a1.Rune a1.Mods).bind fun z2 => (some z2))))
theorem f27_j1_ok {d : Nat} (hd : 5 ≤ d) (a1 : GKey) {r : (List UInt8)} {Q : PX → St → Prop} (hQ : ∀ e st', f27_Q r e st' → Q e st')  (hS : f27_j1 a1 = some r) {st : St} (he : keepSt [1] [(16, .id 16)] [] st = f27_j1_J a1) : ZR (lev codes baseL (d - 1)) Q c27_1 [.blk 0, .seq c27_2] st := by
  refine zrKeep he ?_
  unfold f27_j1 at hS
  refine zrSeq ?_
  refine zrReg ?_
  refine zlRun (n := 2) (j := 2) rfl (by kernel_rfl) ?_
  refine zlBool (d := 34) (op := (.cmpI .eql (.tmp 33) (.const (.int .i64 25)))) (g := none) (j := 3) (decide (a1.Name = 25)) rfl (by kernel_rfl) (by kernel_rfl) (by kernel_rfl) (fun hc => ?_) (fun hc => ?_)
  · replace hS := cond_t hc hS
    refine zlRun (n := 1) (j := 4) rfl (by kernel_rfl) ?_
    refine zlEnd (by kernel_rfl) ?_
    refine zkSeq ?_
    refine zrCondT (by kernel_rfl) ?_
    refine zrSeq ?_
    refine zrReg ?_
    refine zlRun (n := 1) (j := 1) rfl (by kernel_rfl) ?_
    refine zlEnd (by kernel_rfl) ?_
    refine zkSeq ?_
    refine zrRet ?_
    refine zkBlkR ?_
    refine zkSeqR ?_
    refine zkNil ?_
    exact endQ hS hQ (fRet (by kernel_rfl) ((congrArg (fun s => outR s 0 c27.res) (by kernel_rfl : finSt c27.fin _ = f27_fin [127])).trans (f27_out [127])))
  · replace hS := cond_f hc hS
    refine zlRun (n := 1) (j := 4) rfl (by kernel_rfl) ?_
    refine zlEnd (by kernel_rfl) ?_
    refine zkSeq ?_
    refine zrCondF (by kernel_rfl) ?_
    refine zrSeq ?_
    refine zrReg ?_
    refine zlRun (n := 2) (j := 2) rfl (by kernel_rfl) ?_
    refine zlBool (d := 38) (op := (.cmpI .eql (.tmp 37) (.const (.int .i64 26)))) (g := none) (j := 3) (decide (a1.Name = 26)) rfl (by kernel_rfl) (by kernel_rfl) (by kernel_rfl) (fun hc => ?_) (fun hc => ?_)
    · replace hS := cond_t hc hS
      refine zlRun (n := 1) (j := 4) rfl (by kernel_rfl) ?_
      refine zlEnd (by kernel_rfl) ?_
      refine zkSeq ?_
      refine zrCondT (by kernel_rfl) ?_
      refine zrSeq ?_
      refine zrReg ?_
      refine zlRun (n := 1) (j := 1) rfl (by kernel_rfl) ?_
      refine zlEnd (by kernel_rfl) ?_
      refine zkSeq ?_
      refine zrRet ?_
      refine zkBlkR ?_
      refine zkSeqR ?_
      refine zkNil ?_
      exact endQ hS hQ (fRet (by kernel_rfl) ((congrArg (fun s => outR s 0 c27.res) (by kernel_rfl : finSt c27.fin _ = f27_fin [27])).trans (f27_out [27])))
    · replace hS := cond_f hc hS
      refine zlRun (n := 1) (j := 4) rfl (by kernel_rfl) ?_
      refine zlEnd (by kernel_rfl) ?_
      refine zkSeq ?_
      refine zrCondF (by kernel_rfl) ?_
      refine zrSkip ?_
      refine zkBlk ?_
      refine zkSeq ?_
      refine zrSeq ?_
      refine zrReg ?_
      refine zlRun (n := 4) (j := 4) rfl (by kernel_rfl) ?_
      refine bindE hS (fun z2 hz2 hS => ?_)
      refine zlOp (d := some 43) (op := (.call 41 [(.tmp 40), (.tmp 42)])) (g := none) (j := 5) rfl (by kernel_rfl) (by kernel_rfl) (ev_callA (by kernel_rfl) (f41_ok (d - 1) (dpt hd rfl) a1.Rune a1.Mods z2 hz2) (by kernel_rfl) (by kernel_rfl)) ?_
      refine zlRun (n := 1) (j := 6) rfl (by kernel_rfl) ?_
      refine zlEnd (by kernel_rfl) ?_
      refine zkSeq ?_
      refine zrRet ?_
      refine zkNil ?_
      exact endQ hS hQ (fRet (by kernel_rfl) ((congrArg (fun s => outR s 0 c27.res) (by kernel_rfl : finSt c27.fin _ = f27_fin z2)).trans (f27_out z2)))
def f27_j0_J (a1 : GKey) : St := ⟨(up (fun _ => .un) 1 (.r (.ptr 16 0 0))), (up (hB fun _ => 0) 16 ⟨0, some (.box ((.d (.int .i64 a1.Name)) :: ((.d (.int .i64 a1.Rune)) :: ((.d (.int .i64 a1.Mods)) :: []))))⟩)⟩
noncomputable def f27_j0 (a1 : GKey) : Option ((List UInt8)) := (bif (decide (a1.Name = 24)) then (some [9]) else (bif (decide (a1.Name = 25)) then (bif (!decide ((bitI .and .i64 a1.Mods 4) = 0)) then (some [8]) else (f27_j1 a1 )) else (f27_j1 a1 )))
theorem f27_j0_ok {d : Nat} (hd : 5 ≤ d) (a1 : GKey) {r : (List UInt8)} {Q : PX → St → Prop} (hQ : ∀ e st', f27_Q r e st' → Q e st')  (hS : f27_j0 a1 = some r) {st : St} (he : keepSt [1] [(16, .id 16)] [] st = f27_j0_J a1) : ZR (lev codes baseL (d - 1)) Q c27_3 [.blk 0, .seq c27_2] st := by
  refine zrKeep he ?_
  unfold f27_j0 at hS
  refine zrSeq ?_
  refine zrReg ?_
  refine zlRun (n := 2) (j := 2) rfl (by kernel_rfl) ?_
  refine zlBool (d := 20) (op := (.cmpI .eql (.tmp 19) (.const (.int .i64 24)))) (g := none) (j := 3) (decide (a1.Name = 24)) rfl (by kernel_rfl) (by kernel_rfl) (by kernel_rfl) (fun hc => ?_) (fun hc => ?_)
  · replace hS := cond_t hc hS
    refine zlRun (n := 1) (j := 4) rfl (by kernel_rfl) ?_
    refine zlEnd (by kernel_rfl) ?_
    refine zkSeq ?_
    refine zrCondT (by kernel_rfl) ?_
    refine zrSeq ?_
    refine zrReg ?_
    refine zlRun (n := 1) (j := 1) rfl (by kernel_rfl) ?_
    refine zlEnd (by kernel_rfl) ?_
    refine zkSeq ?_
    refine zrRet ?_
    refine zkBlkR ?_
    refine zkSeqR ?_
    refine zkNil ?_
    exact endQ hS hQ (fRet (by kernel_rfl) ((congrArg (fun s => outR s 0 c27.res) (by kernel_rfl : finSt c27.fin _ = f27_fin [9])).trans (f27_out [9])))
  · replace hS := cond_f hc hS
    refine zlRun (n := 1) (j := 4) rfl (by kernel_rfl) ?_
    refine zlEnd (by kernel_rfl) ?_
    refine zkSeq ?_
    refine zrCondF (by kernel_rfl) ?_
    refine zrSeq ?_
    refine zrReg ?_
    refine zlRun (n := 2) (j := 2) rfl (by kernel_rfl) ?_
    refine zlBool (d := 24) (op := (.cmpI .eql (.tmp 23) (.const (.int .i64 25)))) (g := none) (j := 3) (decide (a1.Name = 25)) rfl (by kernel_rfl) (by kernel_rfl) (by kernel_rfl) (fun hc => ?_) (fun hc => ?_)
    · replace hS := cond_t hc hS
      refine zlRun (n := 4) (j := 7) rfl (by kernel_rfl) ?_
      refine zlBool (d := 29) (op := (.cmpI .neq (.tmp 28) (.const (.int .i64 0)))) (g := (some (25, true))) (j := 8) (!decide ((bitI .and .i64 a1.Mods 4) = 0)) rfl (by kernel_rfl) (by kernel_rfl) (by kernel_rfl) (fun hc => ?_) (fun hc => ?_)
      · replace hS := cond_t hc hS
        refine zlRun (n := 2) (j := 10) rfl (by kernel_rfl) ?_
        refine zlEnd (by kernel_rfl) ?_
        refine zkSeq ?_
        refine zrCondT (by kernel_rfl) ?_
        refine zrSeq ?_
        refine zrReg ?_
        refine zlRun (n := 1) (j := 1) rfl (by kernel_rfl) ?_
        refine zlEnd (by kernel_rfl) ?_
        refine zkSeq ?_
        refine zrRet ?_
        refine zkBlkR ?_
        refine zkSeqR ?_
        refine zkNil ?_
        exact endQ hS hQ (fRet (by kernel_rfl) ((congrArg (fun s => outR s 0 c27.res) (by kernel_rfl : finSt c27.fin _ = f27_fin [8])).trans (f27_out [8])))
      · replace hS := cond_f hc hS
        refine zlRun (n := 2) (j := 10) rfl (by kernel_rfl) ?_
        refine zlEnd (by kernel_rfl) ?_
        refine zkSeq ?_
        refine zrCondF (by kernel_rfl) ?_
        exact f27_j1_ok hd a1 hQ  hS (by kernel_rfl)
    · replace hS := cond_f hc hS
      refine zlRun (n := 7) (j := 10) rfl (by kernel_rfl) ?_
      refine zlEnd (by kernel_rfl) ?_
      refine zkSeq ?_
      refine zrCondF (by kernel_rfl) ?_
      exact f27_j1_ok hd a1 hQ  hS (by kernel_rfl)
noncomputable def f27 (a1 : GKey) : Option ((List UInt8)) := (bif (decide (a1.Name = 23)) then (some [13]) else (bif (decide (a1.Name = 24)) then (bif (!decide ((bitI .and .i64 a1.Mods 1) = 0)) then (some [27, 91, 90]) else (f27_j0 a1 )) else (f27_j0 a1 )))
theorem f27_ok (d : Nat) (hd : 5 ≤ d) (a1 : GKey) (r : (List UInt8)) (hS : f27 a1 = some r) : lev codes baseL d 27 [(.agg ((.d (.int .i64 a1.Name)) :: ((.d (.int .i64 a1.Rune)) :: ((.d (.int .i64 a1.Mods)) :: []))))] [] = some ((.d (.str r)), []) := by
  refine lev_go codes27 rfl rfl (Nat.le_trans (Nat.le_of_ble_eq_true rfl) hd) fun Q hQ => ?_
  unfold f27 at hS
  show ZR _ Q c27_b [] _
  replace hQ : ∀ e st', f27_Q r e st' → Q e st' := hQ
  refine zrSeq ?_
  refine zrReg ?_
  refine zlRun (n := 2) (j := 2) rfl (by kernel_rfl) ?_
  refine zlEnd (by kernel_rfl) ?_
  refine zkSeq ?_
  refine zrSeq ?_
  refine zrBlk ?_
  refine zrSeq ?_
  refine zrReg ?_
  refine zlRun (n := 2) (j := 2) rfl (by kernel_rfl) ?_
  refine zlBool (d := 6) (op := (.cmpI .eql (.tmp 5) (.const (.int .i64 23)))) (g := none) (j := 3) (decide (a1.Name = 23)) rfl (by kernel_rfl) (by kernel_rfl) (by kernel_rfl) (fun hc => ?_) (fun hc => ?_)
  · replace hS := cond_t hc hS
    refine zlRun (n := 1) (j := 4) rfl (by kernel_rfl) ?_
    refine zlEnd (by kernel_rfl) ?_
    refine zkSeq ?_
    refine zrCondT (by kernel_rfl) ?_
    refine zrSeq ?_
    refine zrReg ?_
    refine zlRun (n := 1) (j := 1) rfl (by kernel_rfl) ?_
    refine zlEnd (by kernel_rfl) ?_
    refine zkSeq ?_
    refine zrRet ?_
    refine zkBlkR ?_
    refine zkSeqR ?_
    refine zkNil ?_
    exact endQ hS hQ (fRet (by kernel_rfl) ((congrArg (fun s => outR s 0 c27.res) (by kernel_rfl : finSt c27.fin _ = f27_fin [13])).trans (f27_out [13])))
  · replace hS := cond_f hc hS
    refine zlRun (n := 1) (j := 4) rfl (by kernel_rfl) ?_
    refine zlEnd (by kernel_rfl) ?_
    refine zkSeq ?_
    refine zrCondF (by kernel_rfl) ?_
    refine zrSeq ?_
    refine zrReg ?_
    refine zlRun (n := 2) (j := 2) rfl (by kernel_rfl) ?_
    refine zlBool (d := 10) (op := (.cmpI .eql (.tmp 9) (.const (.int .i64 24)))) (g := none) (j := 3) (decide (a1.Name = 24)) rfl (by kernel_rfl) (by kernel_rfl) (by kernel_rfl) (fun hc => ?_) (fun hc => ?_)
    · replace hS := cond_t hc hS
      refine zlRun (n := 4) (j := 7) rfl (by kernel_rfl) ?_
      refine zlBool (d := 15) (op := (.cmpI .neq (.tmp 14) (.const (.int .i64 0)))) (g := (some (11, true))) (j := 8) (!decide ((bitI .and .i64 a1.Mods 1) = 0)) rfl (by kernel_rfl) (by kernel_rfl) (by kernel_rfl) (fun hc => ?_) (fun hc => ?_)
      · replace hS := cond_t hc hS
        refine zlRun (n := 2) (j := 10) rfl (by kernel_rfl) ?_
        refine zlEnd (by kernel_rfl) ?_
        refine zkSeq ?_
        refine zrCondT (by kernel_rfl) ?_
        refine zrSeq ?_
        refine zrReg ?_
        refine zlRun (n := 1) (j := 1) rfl (by kernel_rfl) ?_
        refine zlEnd (by kernel_rfl) ?_
        refine zkSeq ?_
        refine zrRet ?_
        refine zkBlkR ?_
        refine zkSeqR ?_
        refine zkNil ?_
        exact endQ hS hQ (fRet (by kernel_rfl) ((congrArg (fun s => outR s 0 c27.res) (by kernel_rfl : finSt c27.fin _ = f27_fin [27, 91, 90])).trans (f27_out [27, 91, 90])))
      · replace hS := cond_f hc hS
        refine zlRun (n := 2) (j := 10) rfl (by kernel_rfl) ?_
        refine zlEnd (by kernel_rfl) ?_
        refine zkSeq ?_
        refine zrCondF (by kernel_rfl) ?_
        exact f27_j0_ok hd a1 hQ  hS (by kernel_rfl)
    · replace hS := cond_f hc hS
      refine zlRun (n := 7) (j := 10) rfl (by kernel_rfl) ?_
      refine zlEnd (by kernel_rfl) ?_
      refine zkSeq ?_
      refine zrCondF (by kernel_rfl) ?_
      exact f27_j0_ok hd a1 hQ  hS (by kernel_rfl)
end Go.Proofs.YtcbhpadficfnnaaDoor.Pm
