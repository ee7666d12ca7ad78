/- Typed functions, and that the codes are these. Printed by dec.py. -/
import Derived.Test.YtanhpibphkblnaaDoorDLnD
namespace Go.Proofs.YtanhpibphkblnaaDoor.Pm
set_option maxRecDepth 1000000
set_option maxHeartbeats 20000000
set_option linter.unusedVariables false
/- farwriter/farkeep.LineCuts -/
def f7_fin (p22 : Bool) : St := ⟨(up (fun _ => .un) 10 (.d (.bool p22))), (hB fun _ => 0)⟩
theorem f7_out (p22 : Bool) : outR (f7_fin p22) 0 c7.res = some ((.d (.bool p22)), []) := by
  kernel_rfl
def f7_Q (r : Bool) (e : PX) (st : St) : Prop := DoneF c7 0 ((.d (.bool r)), []) e st
def f7_j0_J (a1 : GEditor) (a2 : GKeys) (a3 : GMask) (a4 : List UInt8) (a5 : List UInt8) (p39 : GEditor) (p40 : List (List UInt8)) (p41 : List UInt8) : St := ⟨(up (up (up (up (up (up (up (up (fun _ => .un) 13 (.d (.str p41))) 12 (.r (.msl 232 0 0 p40.length))) 11 (.r (.ptr 96 0 0))) 7 (.r (.ptr 64 0 0))) 6 (.r (.ptr 56 0 0))) 5 (.r (.ptr 48 0 0))) 4 (.d (.str a5))) 3 (.d (.str a4))), (up (up (up (up (up (hB fun _ => 0) 232 ⟨0, some (.own 9 1 (eStr.cells p40))⟩) 96 ⟨0, some (.box ((.d (.str p39.Buf)) :: ((.d (.bool p39.Quote)) :: [])))⟩) 64 ⟨0, some (.box (((eInt .u64).row 4 a3.Bits) ++ []))⟩) 56 ⟨0, some (.box ((eU8.row 19 a2.Levels) ++ ((eU8.row 19 a2.Chars) ++ [])))⟩) 48 ⟨0, some (.box ((.d (.str a1.Buf)) :: ((.d (.bool a1.Quote)) :: [])))⟩)⟩
noncomputable def f7_j0 (a1 : GEditor) (a2 : GKeys) (a3 : GMask) (a4 : List UInt8) (a5 : List UInt8) (p39 : GEditor) (p40 : List (List UInt8)) (p41 : List UInt8) : Option (Bool) := ((f24 p39 a2 a3 a5).bind fun z14 => ((cat? a4 a5).bind fun z17 => ((f24 a1 a2 a3 z17).bind fun z18 => (bif (decide (z14.2.2.2 = 0)) then (bif (decide (z18.2.2.2 = 0)) then (bif (decide (z14.1.Buf = z18.1.Buf) && (decide (z14.1.Quote = z18.1.Quote) && true)) then ((f27 p40).bind fun z19 => ((app? 16 z19 z14.2.1).bind fun z20 => ((f26 z18.2.1 z20).bind fun z21 => (bif z21 then ((cat? p41 z14.2.2.1).bind fun z22 => (bif (decide (z18.2.2.1 = z22)) then (some true) else (some false))) else (some false))))) else (some false)) else (some false)) else (some false)))))
theorem f7_j0_ok {d : Nat} (hd : 6 ≤ d) (a1 : GEditor) (a2 : GKeys) (a3 : GMask) (a4 : List UInt8) (a5 : List UInt8) {r : Bool} {Q : PX → St → Prop} (hQ : ∀ e st', f7_Q r e st' → Q e st') (p39 : GEditor) (p40 : List (List UInt8)) (p41 : List UInt8) (hS : f7_j0 a1 a2 a3 a4 a5 p39 p40 p41 = some r) {st : St} (he : keepSt [3, 4, 5, 6, 7, 11, 12, 13] [(48, .id 48), (56, .id 56), (64, .id 64), (96, .id 96), (232, .id 232)] [] st = f7_j0_J a1 a2 a3 a4 a5 p39 p40 p41) : ZR (lev codes baseL (d - 1)) Q c7_1 [] st := by
  refine zrKeep he ?_
  unfold f7_j0 at hS
  refine zrSeq ?_
  refine zrReg ?_
  refine zlRun (n := 4) (j := 4) rfl (by kernel_rfl) ?_
  refine bindE hS (fun z14 hz14 hS => ?_)
  refine zlOp (d := some 67) (op := (.call 24 [(.tmp 63), (.tmp 64), (.tmp 65), (.tmp 66)])) (g := none) (v := (.tup [(.agg ((.d (.str z14.1.Buf)) :: ((.d (.bool z14.1.Quote)) :: []))), (.r (.msl 544 1 0 z14.2.1.length)), (.d (.str z14.2.2.1)), (.d (.int .i64 z14.2.2.2))])) (ups := [(544, ⟨1, some (.own 9 1 (eStr.cells z14.2.1))⟩)]) (j := 5) rfl (by kernel_rfl) (by kernel_rfl) (ev_call (args := [(.agg ((.d (.str p39.Buf)) :: ((.d (.bool p39.Quote)) :: []))), (.agg ((eU8.row 19 a2.Levels) ++ ((eU8.row 19 a2.Chars) ++ []))), (.agg (((eInt .u64).row 4 a3.Bits) ++ [])), (.d (.str a5))]) (l := [(.agg ((.d (.str p39.Buf)) :: ((.d (.bool p39.Quote)) :: []))), (.agg ((eU8.row 19 a2.Levels) ++ ((eU8.row 19 a2.Chars) ++ []))), (.agg (((eInt .u64).row 4 a3.Bits) ++ [])), (.d (.str a5))]) (r := (.tup [(.agg ((.d (.str z14.1.Buf)) :: ((.d (.bool z14.1.Quote)) :: []))), (.r (.own 0 9 1 z14.2.1.length (eStr.cells z14.2.1))), (.d (.str z14.2.2.1)), (.d (.int .i64 z14.2.2.2))])) (by kernel_rfl) (by kernel_rfl) (f24_ok (d - 1) (dpt hd rfl) p39 a2 a3 a5 z14 hz14) (by kernel_rfl) (by kernel_rfl) (by kernel_rfl)) ?_
  refine zlRun (n := 10) (j := 15) rfl (by kernel_rfl) ?_
  refine zlEnd (by kernel_rfl) ?_
  refine zkSeq ?_
  refine zrSeq ?_
  refine zrReg ?_
  refine zlRun (n := 5) (j := 5) rfl (by kernel_rfl) ?_
  refine bindE hS (fun z17 hz17 hS => ?_)
  refine zlOp (d := some 78) (op := (.strO .add (.tmp 76) (.tmp 77))) (g := none) (v := (.d (.str z17))) (ups := []) (j := 6) rfl (by kernel_rfl) (by kernel_rfl) (ev_cat (a := a4) (c := a5) (by kernel_rfl) (by kernel_rfl) hz17) ?_
  refine bindE hS (fun z18 hz18 hS => ?_)
  refine zlOp (d := some 79) (op := (.call 24 [(.tmp 73), (.tmp 74), (.tmp 75), (.tmp 78)])) (g := none) (v := (.tup [(.agg ((.d (.str z18.1.Buf)) :: ((.d (.bool z18.1.Quote)) :: []))), (.r (.msl 640 1 0 z18.2.1.length)), (.d (.str z18.2.2.1)), (.d (.int .i64 z18.2.2.2))])) (ups := [(640, ⟨1, some (.own 9 1 (eStr.cells z18.2.1))⟩)]) (j := 7) rfl (by kernel_rfl) (by kernel_rfl) (ev_call (args := [(.agg ((.d (.str a1.Buf)) :: ((.d (.bool a1.Quote)) :: []))), (.agg ((eU8.row 19 a2.Levels) ++ ((eU8.row 19 a2.Chars) ++ []))), (.agg (((eInt .u64).row 4 a3.Bits) ++ [])), (.d (.str z17))]) (l := [(.agg ((.d (.str a1.Buf)) :: ((.d (.bool a1.Quote)) :: []))), (.agg ((eU8.row 19 a2.Levels) ++ ((eU8.row 19 a2.Chars) ++ []))), (.agg (((eInt .u64).row 4 a3.Bits) ++ [])), (.d (.str z17))]) (r := (.tup [(.agg ((.d (.str z18.1.Buf)) :: ((.d (.bool z18.1.Quote)) :: []))), (.r (.own 0 9 1 z18.2.1.length (eStr.cells z18.2.1))), (.d (.str z18.2.2.1)), (.d (.int .i64 z18.2.2.2))])) (by kernel_rfl) (by kernel_rfl) (f24_ok (d - 1) (dpt hd rfl) a1 a2 a3 z17 z18 hz18) (by kernel_rfl) (by kernel_rfl) (by kernel_rfl)) ?_
  refine zlRun (n := 10) (j := 17) rfl (by kernel_rfl) ?_
  refine zlEnd (by kernel_rfl) ?_
  refine zkSeq ?_
  refine zrSeq ?_
  refine zrReg ?_
  refine zlRun (n := 1) (j := 1) rfl (by kernel_rfl) ?_
  refine zlBool (d := 85) (op := (.cmpI .eql (.tmp 84) (.const (.int .i64 0)))) (g := none) (j := 2) (decide (z14.2.2.2 = 0)) rfl (by kernel_rfl) (by kernel_rfl) (by kernel_rfl) (fun hc => ?_) (fun hc => ?_)
  · replace hS := cond_t hc hS
    refine zlRun (n := 2) (j := 4) rfl (by kernel_rfl) ?_
    refine zlBool (d := 88) (op := (.cmpI .eql (.tmp 87) (.const (.int .i64 0)))) (g := (some (86, true))) (j := 5) (decide (z18.2.2.2 = 0)) rfl (by kernel_rfl) (by kernel_rfl) (by kernel_rfl) (fun hc => ?_) (fun hc => ?_)
    · replace hS := cond_t hc hS
      refine zlRun (n := 4) (j := 9) rfl (by kernel_rfl) ?_
      refine zlBool (d := 93) (op := (.eqA .false [(1, .str), (1, .bool)] (.tmp 91) (.tmp 92))) (g := (some (90, true))) (j := 10) (decide (z14.1.Buf = z18.1.Buf) && (decide (z14.1.Quote = z18.1.Quote) && true)) rfl (by kernel_rfl) (by kernel_rfl) (by kernel_rfl) (fun hc => ?_) (fun hc => ?_)
      · replace hS := cond_t hc hS
        refine zlRun (n := 4) (j := 14) rfl (by kernel_rfl) ?_
        refine bindE hS (fun z19 hz19 hS => ?_)
        refine zlOp (d := some 98) (op := (.call 27 [(.tmp 97)])) (g := (some (95, true))) (v := (.r (.msl 792 1 0 z19.length))) (ups := [(792, ⟨1, some (.own 9 1 (eStr.cells z19))⟩)]) (j := 15) rfl (by kernel_rfl) (by kernel_rfl) (ev_call (args := [(.r (.msl 232 0 0 p40.length))]) (l := [(.d (.sl p40.length (eStr.cells p40)))]) (r := (.r (.own 0 9 1 z19.length (eStr.cells z19)))) (by kernel_rfl) (l_cons (l_own eStr (e := 9) (k := 1) (xs := p40) (by kernel_rfl) rfl rfl) l_nil) (f27_ok (d - 1) (dpt hd rfl) p40 z19 hz19) (by simp only [free_own eStr (fun _ => rfl), free_tup, free_agg, free_nl, free_cs, free_int, free_bool, free_str, free_un, free_ni, free_s0, Bool.and_true, Bool.or_true, Bool.and_self]) (by kernel_rfl) (by kernel_rfl)) ?_
        refine zlRun (n := 1) (j := 16) rfl (by kernel_rfl) ?_
        refine bindE hS (fun z20 hz20 hS => ?_)
        refine zlOp (d := some 100) (op := (.app 9 1 16 (.tmp 98) (.tmp 99))) (g := (some (95, true))) (v := (.r (.msl 792 2 0 z20.length))) (ups := [(792, ⟨2, some (.own 9 1 (eStr.cells z20))⟩)]) (j := 17) rfl (by kernel_rfl) (by kernel_rfl) (ev_app eStr (b := 792) (g := 1) (n := z19.length) (xs := z19) (ys := z14.2.1) ((congrArg (asL _) (by kernel_rfl : ρof _ (.tmp 99) = (.r (.msl 544 1 0 z14.2.1.length)))).trans (as_whole eStr (e := 9) (k := 1) (xs := z14.2.1) (by kernel_rfl) rfl rfl)) rfl (by kernel_rfl) rfl (by kernel_rfl) rfl hz20) ?_
        refine bindE hS (fun z21 hz21 hS => ?_)
        refine zlOp (d := some 101) (op := (.call 26 [(.tmp 96), (.tmp 100)])) (g := (some (95, true))) (v := (.d (.bool z21))) (ups := []) (j := 18) rfl (by kernel_rfl) (by kernel_rfl) (ev_call (args := [(.r (.msl 640 1 0 z18.2.1.length)), (.r (.msl 792 2 0 z20.length))]) (l := [(.d (.sl z18.2.1.length (eStr.cells z18.2.1))), (.d (.sl z20.length (eStr.cells z20)))]) (r := (.d (.bool z21))) (by kernel_rfl) (l_cons (l_own eStr (e := 9) (k := 1) (xs := z18.2.1) (by kernel_rfl) rfl rfl) (l_cons (l_own eStr (e := 9) (k := 1) (xs := z20) (by kernel_rfl) rfl rfl) l_nil)) (f26_ok (d - 1) (dpt hd rfl) z18.2.1 z20 z21 hz21) (by kernel_rfl) (by kernel_rfl) (by kernel_rfl)) ?_
        refine zlRun (n := 2) (j := 20) rfl (by kernel_rfl) ?_
        refine zlSplit 103 z21 (by kernel_rfl) (fun hc => ?_) (fun hc => ?_)
        · replace hS := cond_t hc hS
          refine zlRun (n := 3) (j := 23) rfl (by kernel_rfl) ?_
          refine bindE hS (fun z22 hz22 hS => ?_)
          refine zlOp (d := some 107) (op := (.strO .add (.tmp 105) (.tmp 106))) (g := (some (103, true))) (v := (.d (.str z22))) (ups := []) (j := 24) rfl (by kernel_rfl) (by kernel_rfl) (ev_cat (a := p41) (c := z14.2.2.1) (by kernel_rfl) (by kernel_rfl) hz22) ?_
          refine zlBool (d := 108) (op := (.strO .eql (.tmp 104) (.tmp 107))) (g := (some (103, true))) (j := 25) (decide (z18.2.2.1 = z22)) rfl (by kernel_rfl) (by kernel_rfl) (by kernel_rfl) (fun hc => ?_) (fun hc => ?_)
          · replace hS := cond_t hc hS
            refine zlRun (n := 2) (j := 27) rfl (by kernel_rfl) ?_
            refine zlEnd (by kernel_rfl) ?_
            refine zkSeq ?_
            refine zrRet ?_
            refine zkNil ?_
            exact endQ hS hQ (fRet ((congrArg (fun s => outR s 0 c7.res) (by kernel_rfl : finSt c7.fin _ = f7_fin true)).trans (f7_out true)))
          · replace hS := cond_f hc hS
            refine zlRun (n := 2) (j := 27) rfl (by kernel_rfl) ?_
            refine zlEnd (by kernel_rfl) ?_
            refine zkSeq ?_
            refine zrRet ?_
            refine zkNil ?_
            exact endQ hS hQ (fRet ((congrArg (fun s => outR s 0 c7.res) (by kernel_rfl : finSt c7.fin _ = f7_fin false)).trans (f7_out false)))
        · replace hS := cond_f hc hS
          refine zlRun (n := 7) (j := 27) rfl (by kernel_rfl) ?_
          refine zlEnd (by kernel_rfl) ?_
          refine zkSeq ?_
          refine zrRet ?_
          refine zkNil ?_
          exact endQ hS hQ (fRet ((congrArg (fun s => outR s 0 c7.res) (by kernel_rfl : finSt c7.fin _ = f7_fin false)).trans (f7_out false)))
      · replace hS := cond_f hc hS
        refine zlRun (n := 17) (j := 27) rfl (by kernel_rfl) ?_
        refine zlEnd (by kernel_rfl) ?_
        refine zkSeq ?_
        refine zrRet ?_
        refine zkNil ?_
        exact endQ hS hQ (fRet ((congrArg (fun s => outR s 0 c7.res) (by kernel_rfl : finSt c7.fin _ = f7_fin false)).trans (f7_out false)))
    · replace hS := cond_f hc hS
      refine zlRun (n := 22) (j := 27) rfl (by kernel_rfl) ?_
      refine zlEnd (by kernel_rfl) ?_
      refine zkSeq ?_
      refine zrRet ?_
      refine zkNil ?_
      exact endQ hS hQ (fRet ((congrArg (fun s => outR s 0 c7.res) (by kernel_rfl : finSt c7.fin _ = f7_fin false)).trans (f7_out false)))
  · replace hS := cond_f hc hS
    refine zlRun (n := 25) (j := 27) rfl (by kernel_rfl) ?_
    refine zlEnd (by kernel_rfl) ?_
    refine zkSeq ?_
    refine zrRet ?_
    refine zkNil ?_
    exact endQ hS hQ (fRet ((congrArg (fun s => outR s 0 c7.res) (by kernel_rfl : finSt c7.fin _ = f7_fin false)).trans (f7_out false)))
def f7_j1_J (a1 : GEditor) (a2 : GKeys) (a3 : GMask) (a4 : List UInt8) (a5 : List UInt8) (p48 : GEditor) (p49 : List (List UInt8)) (p50 : Int) : St := ⟨(up (up (up (up (fun _ => .un) 14 (.d (.int .i64 p50))) 12 (.r (.msl 232 0 0 p49.length))) 11 (.r (.ptr 96 0 0))) 5 (.r (.ptr 48 0 0))), (up (up (up (hB fun _ => 0) 232 ⟨0, some (.own 9 1 (eStr.cells p49))⟩) 96 ⟨0, some (.box ((.d (.str p48.Buf)) :: ((.d (.bool p48.Quote)) :: [])))⟩) 48 ⟨0, some (.box ((.d (.str a1.Buf)) :: ((.d (.bool a1.Quote)) :: [])))⟩)⟩
noncomputable def f7_j1 (a1 : GEditor) (a2 : GKeys) (a3 : GMask) (a4 : List UInt8) (a5 : List UInt8) (p48 : GEditor) (p49 : List (List UInt8)) (p50 : Int) : Option (Bool) := (f25.bind fun z24 => (bif z24 then (bif (decide (p50 = 0)) then (some true) else (bif (decide (p48.Buf = a1.Buf) && (decide (p48.Quote = a1.Quote) && true)) then (bif (decide ((p49.length : Int) = 0)) then (some true) else (some false)) else (some false))) else (some false)))
theorem f7_j1_ok {d : Nat} (hd : 6 ≤ d) (a1 : GEditor) (a2 : GKeys) (a3 : GMask) (a4 : List UInt8) (a5 : List UInt8) {r : Bool} {Q : PX → St → Prop} (hQ : ∀ e st', f7_Q r e st' → Q e st') (p48 : GEditor) (p49 : List (List UInt8)) (p50 : Int) (hS : f7_j1 a1 a2 a3 a4 a5 p48 p49 p50 = some r) {st : St} (he : keepSt [5, 11, 12, 14] [(48, .id 48), (96, .id 96), (232, .id 232)] [] st = f7_j1_J a1 a2 a3 a4 a5 p48 p49 p50) : ZR (lev codes baseL (d - 1)) Q c7_2 [.seq c7_1] st := by
  refine zrKeep he ?_
  unfold f7_j1 at hS
  refine zrSeq ?_
  refine zrReg ?_
  refine bindE hS (fun z24 hz24 hS => ?_)
  refine zlOp (d := some 47) (op := (.call 25 [])) (g := none) (v := (.d (.bool z24))) (ups := []) (j := 1) rfl (by kernel_rfl) (by kernel_rfl) (ev_call (args := []) (l := []) (r := (.d (.bool z24))) (by kernel_rfl) (by kernel_rfl) (f25_ok (d - 1) (dpt hd rfl)  z24 hz24) (by kernel_rfl) (by kernel_rfl) (by kernel_rfl)) ?_
  refine zlRun (n := 1) (j := 2) rfl (by kernel_rfl) ?_
  refine zlSplit 48 z24 (by kernel_rfl) (fun hc => ?_) (fun hc => ?_)
  · replace hS := cond_t hc hS
    refine zlRun (n := 1) (j := 3) rfl (by kernel_rfl) ?_
    refine zlBool (d := 50) (op := (.cmpI .eql (.tmp 49) (.const (.int .i64 0)))) (g := (some (48, true))) (j := 4) (decide (p50 = 0)) rfl (by kernel_rfl) (by kernel_rfl) (by kernel_rfl) (fun hc => ?_) (fun hc => ?_)
    · replace hS := cond_t hc hS
      refine zlRun (n := 12) (j := 16) rfl (by kernel_rfl) ?_
      refine zlEnd (by kernel_rfl) ?_
      refine zkSeq ?_
      refine zrRet ?_
      refine zkSeqR ?_
      refine zkNil ?_
      exact endQ hS hQ (fRet ((congrArg (fun s => outR s 0 c7.res) (by kernel_rfl : finSt c7.fin _ = f7_fin true)).trans (f7_out true)))
    · replace hS := cond_f hc hS
      refine zlRun (n := 3) (j := 7) rfl (by kernel_rfl) ?_
      refine zlBool (d := 54) (op := (.eqA .false [(1, .str), (1, .bool)] (.tmp 52) (.tmp 53))) (g := (some (51, false))) (j := 8) (decide (p48.Buf = a1.Buf) && (decide (p48.Quote = a1.Quote) && true)) rfl (by kernel_rfl) (by kernel_rfl) (by kernel_rfl) (fun hc => ?_) (fun hc => ?_)
      · replace hS := cond_t hc hS
        refine zlRun (n := 3) (j := 11) rfl (by kernel_rfl) ?_
        refine zlBool (d := 58) (op := (.cmpI .eql (.tmp 57) (.const (.int .i64 0)))) (g := (some (55, true))) (j := 12) (decide ((p49.length : Int) = 0)) rfl (by kernel_rfl) (by kernel_rfl) (by kernel_rfl) (fun hc => ?_) (fun hc => ?_)
        · replace hS := cond_t hc hS
          refine zlRun (n := 4) (j := 16) rfl (by kernel_rfl) ?_
          refine zlEnd (by kernel_rfl) ?_
          refine zkSeq ?_
          refine zrRet ?_
          refine zkSeqR ?_
          refine zkNil ?_
          exact endQ hS hQ (fRet ((congrArg (fun s => outR s 0 c7.res) (by kernel_rfl : finSt c7.fin _ = f7_fin true)).trans (f7_out true)))
        · replace hS := cond_f hc hS
          refine zlRun (n := 4) (j := 16) rfl (by kernel_rfl) ?_
          refine zlEnd (by kernel_rfl) ?_
          refine zkSeq ?_
          refine zrRet ?_
          refine zkSeqR ?_
          refine zkNil ?_
          exact endQ hS hQ (fRet ((congrArg (fun s => outR s 0 c7.res) (by kernel_rfl : finSt c7.fin _ = f7_fin false)).trans (f7_out false)))
      · replace hS := cond_f hc hS
        refine zlRun (n := 8) (j := 16) rfl (by kernel_rfl) ?_
        refine zlEnd (by kernel_rfl) ?_
        refine zkSeq ?_
        refine zrRet ?_
        refine zkSeqR ?_
        refine zkNil ?_
        exact endQ hS hQ (fRet ((congrArg (fun s => outR s 0 c7.res) (by kernel_rfl : finSt c7.fin _ = f7_fin false)).trans (f7_out false)))
  · replace hS := cond_f hc hS
    refine zlRun (n := 14) (j := 16) rfl (by kernel_rfl) ?_
    refine zlEnd (by kernel_rfl) ?_
    refine zkSeq ?_
    refine zrRet ?_
    refine zkSeqR ?_
    refine zkNil ?_
    exact endQ hS hQ (fRet ((congrArg (fun s => outR s 0 c7.res) (by kernel_rfl : finSt c7.fin _ = f7_fin false)).trans (f7_out false)))
noncomputable def f7 (a1 : GEditor) (a2 : GKeys) (a3 : GMask) (a4 : List UInt8) (a5 : List UInt8) : Option (Bool) := ((f24 a1 a2 a3 a4).bind fun z11 => (f25.bind fun z25 => (bif (!z25) then (f7_j1 a1 a2 a3 a4 a5 z11.1 z11.2.1 z11.2.2.2) else (bif (!decide (z11.2.2.2 = 0)) then (f7_j1 a1 a2 a3 a4 a5 z11.1 z11.2.1 z11.2.2.2) else (bif (decide (4096 < (IntKind.i64.wrap ((a4.length : Int) + (a5.length : Int))))) then (f7_j1 a1 a2 a3 a4 a5 z11.1 z11.2.1 z11.2.2.2) else (f7_j0 a1 a2 a3 a4 a5 z11.1 z11.2.1 z11.2.2.1))))))
theorem f7_ok (d : Nat) (hd : 6 ≤ d) (a1 : GEditor) (a2 : GKeys) (a3 : GMask) (a4 : List UInt8) (a5 : List UInt8) (r : Bool) (hS : f7 a1 a2 a3 a4 a5 = some r) : lev codes baseL d 7 [(.agg ((.d (.str a1.Buf)) :: ((.d (.bool a1.Quote)) :: []))), (.agg ((eU8.row 19 a2.Levels) ++ ((eU8.row 19 a2.Chars) ++ []))), (.agg (((eInt .u64).row 4 a3.Bits) ++ [])), (.d (.str a4)), (.d (.str a5))] [] = some ((.d (.bool r)), []) := by
  refine lev_go codes7 rfl rfl (Nat.le_trans (Nat.le_of_ble_eq_true rfl) hd) fun Q hQ => ?_
  unfold f7 at hS
  show ZR _ Q c7_b [] _
  replace hQ : ∀ e st', f7_Q r e st' → Q e st' := hQ
  refine zrSeq ?_
  refine zrReg ?_
  refine zlRun (n := 4) (j := 4) rfl (by kernel_rfl) ?_
  refine zlEnd (by kernel_rfl) ?_
  refine zkSeq ?_
  refine zrSeq ?_
  refine zrReg ?_
  refine zlRun (n := 4) (j := 4) rfl (by kernel_rfl) ?_
  refine bindE hS (fun z11 hz11 hS => ?_)
  refine zlOp (d := some 28) (op := (.call 24 [(.tmp 24), (.tmp 25), (.tmp 26), (.tmp 27)])) (g := none) (v := (.tup [(.agg ((.d (.str z11.1.Buf)) :: ((.d (.bool z11.1.Quote)) :: []))), (.r (.msl 232 1 0 z11.2.1.length)), (.d (.str z11.2.2.1)), (.d (.int .i64 z11.2.2.2))])) (ups := [(232, ⟨1, some (.own 9 1 (eStr.cells z11.2.1))⟩)]) (j := 5) rfl (by kernel_rfl) (by kernel_rfl) (ev_call (args := [(.agg ((.d (.str a1.Buf)) :: ((.d (.bool a1.Quote)) :: []))), (.agg ((eU8.row 19 a2.Levels) ++ ((eU8.row 19 a2.Chars) ++ []))), (.agg (((eInt .u64).row 4 a3.Bits) ++ [])), (.d (.str a4))]) (l := [(.agg ((.d (.str a1.Buf)) :: ((.d (.bool a1.Quote)) :: []))), (.agg ((eU8.row 19 a2.Levels) ++ ((eU8.row 19 a2.Chars) ++ []))), (.agg (((eInt .u64).row 4 a3.Bits) ++ [])), (.d (.str a4))]) (r := (.tup [(.agg ((.d (.str z11.1.Buf)) :: ((.d (.bool z11.1.Quote)) :: []))), (.r (.own 0 9 1 z11.2.1.length (eStr.cells z11.2.1))), (.d (.str z11.2.2.1)), (.d (.int .i64 z11.2.2.2))])) (by kernel_rfl) (by kernel_rfl) (f24_ok (d - 1) (dpt hd rfl) a1 a2 a3 a4 z11 hz11) (by kernel_rfl) (by kernel_rfl) (by kernel_rfl)) ?_
  refine zlRun (n := 10) (j := 15) rfl (by kernel_rfl) ?_
  refine zlEnd (by kernel_rfl) ?_
  refine zkSeq ?_
  refine zrSeq ?_
  refine zrSeq ?_
  refine zrReg ?_
  refine bindE hS (fun z25 hz25 hS => ?_)
  refine zlOp (d := some 33) (op := (.call 25 [])) (g := none) (v := (.d (.bool z25))) (ups := []) (j := 1) rfl (by kernel_rfl) (by kernel_rfl) (ev_call (args := []) (l := []) (r := (.d (.bool z25))) (by kernel_rfl) (by kernel_rfl) (f25_ok (d - 1) (dpt hd rfl)  z25 hz25) (by kernel_rfl) (by kernel_rfl) (by kernel_rfl)) ?_
  refine zlRun (n := 2) (j := 3) rfl (by kernel_rfl) ?_
  refine zlSplit 35 (!z25) (by kernel_rfl) (fun hc => ?_) (fun hc => ?_)
  · replace hS := cond_t hc hS
    refine zlRun (n := 11) (j := 14) rfl (by kernel_rfl) ?_
    refine zlEnd (by kernel_rfl) ?_
    refine zkSeq ?_
    refine zrCondT (by kernel_rfl) ?_
    exact f7_j1_ok hd a1 a2 a3 a4 a5 hQ z11.1 z11.2.1 z11.2.2.2 hS (by kernel_rfl)
  · replace hS := cond_f hc hS
    refine zlRun (n := 1) (j := 4) rfl (by kernel_rfl) ?_
    refine zlBool (d := 37) (op := (.cmpI .neq (.tmp 36) (.const (.int .i64 0)))) (g := (some (35, false))) (j := 5) (!decide (z11.2.2.2 = 0)) rfl (by kernel_rfl) (by kernel_rfl) (by kernel_rfl) (fun hc => ?_) (fun hc => ?_)
    · replace hS := cond_t hc hS
      refine zlRun (n := 9) (j := 14) rfl (by kernel_rfl) ?_
      refine zlEnd (by kernel_rfl) ?_
      refine zkSeq ?_
      refine zrCondT (by kernel_rfl) ?_
      exact f7_j1_ok hd a1 a2 a3 a4 a5 hQ z11.1 z11.2.1 z11.2.2.2 hS (by kernel_rfl)
    · replace hS := cond_f hc hS
      refine zlRun (n := 7) (j := 12) rfl (by kernel_rfl) ?_
      refine zlBool (d := 45) (op := (.cmpI .gtr (.tmp 44) (.const (.int .i64 4096)))) (g := (some (39, false))) (j := 13) (decide (4096 < (IntKind.i64.wrap ((a4.length : Int) + (a5.length : Int))))) rfl (by kernel_rfl) (by kernel_rfl) (by kernel_rfl) (fun hc => ?_) (fun hc => ?_)
      · replace hS := cond_t hc hS
        refine zlRun (n := 1) (j := 14) rfl (by kernel_rfl) ?_
        refine zlEnd (by kernel_rfl) ?_
        refine zkSeq ?_
        refine zrCondT (by kernel_rfl) ?_
        exact f7_j1_ok hd a1 a2 a3 a4 a5 hQ z11.1 z11.2.1 z11.2.2.2 hS (by kernel_rfl)
      · replace hS := cond_f hc hS
        refine zlRun (n := 1) (j := 14) rfl (by kernel_rfl) ?_
        refine zlEnd (by kernel_rfl) ?_
        refine zkSeq ?_
        refine zrCondF (by kernel_rfl) ?_
        refine zrSkip ?_
        refine zkSeq ?_
        exact f7_j0_ok hd a1 a2 a3 a4 a5 hQ z11.1 z11.2.1 z11.2.2.1 hS (by kernel_rfl)
/- farwriter/farkeep.special -/
def f29_fin (p19 : Bool) : St := ⟨(up (fun _ => .un) 4 (.d (.bool p19))), (hB fun _ => 0)⟩
theorem f29_out (p19 : Bool) : outR (f29_fin p19) 0 c29.res = some ((.d (.bool p19)), []) := by
  kernel_rfl
def f29_Q (r : Bool) (e : PX) (st : St) : Prop := DoneF c29 0 ((.d (.bool r)), []) e st
def f29_l0_J (a1 : GKeys) (a2 : UInt8) (x : Int) : St := ⟨(up (up (up (up (up (fun _ => .un) 9 (.d (.int .i64 x))) 8 (.d (.int .i64 ((([10, 11, 12, 13, 14] : List Int).length) : Int)))) 7 (.r (.msl 64 0 0 (([10, 11, 12, 13, 14] : List Int).length)))) 2 (.r (.ptr 24 0 0))) 1 (.d (.int .u8 (a2.toNat : Int)))), (up (up (hB fun _ => 0) 64 ⟨0, some (.own 3 1 ((eInt .i64).cells ([10, 11, 12, 13, 14])))⟩) 24 ⟨0, some (.box ((eU8.row 19 a1.Levels) ++ ((eU8.row 19 a1.Chars) ++ [])))⟩)⟩
def f29_l0_H (a1 : GKeys) (a2 : UInt8) (x : Int) (st : St) : Prop := keepSt [1, 2, 7, 8, 9] [(24, .id 24), (64, .id 64)] [] st = f29_l0_J a1 a2 x
def f29_l0_e0_J (a1 : GKeys) (a2 : UInt8) : St := ⟨(fun _ => .un), (hB fun _ => 0)⟩
def f29_l0_X (a1 : GKeys) (a2 : UInt8) (z : Unit ⊕ Bool) (e : PX) (st : St) : Prop := (match z with | .inl z => e = .exit 0 ∧ st = f29_l0_e0_J a1 a2 | .inr z => e = .ret ∧ finSt c29.fin st = f29_fin z)
def f29_l0_j2_J (a1 : GKeys) (a2 : UInt8) (p24 : Int) : St := ⟨(up (up (up (up (up (fun _ => .un) 9 (.d (.int .i64 p24))) 8 (.d (.int .i64 ((([10, 11, 12, 13, 14] : List Int).length) : Int)))) 7 (.r (.msl 64 0 0 (([10, 11, 12, 13, 14] : List Int).length)))) 2 (.r (.ptr 24 0 0))) 1 (.d (.int .u8 (a2.toNat : Int)))), (up (up (hB fun _ => 0) 64 ⟨0, some (.own 3 1 ((eInt .i64).cells ([10, 11, 12, 13, 14])))⟩) 24 ⟨0, some (.box ((eU8.row 19 a1.Levels) ++ ((eU8.row 19 a1.Chars) ++ [])))⟩)⟩
noncomputable def f29_l0_j2 (a1 : GKeys) (a2 : UInt8) (p24 : Int) : Option (Int ⊕ (Unit ⊕ Bool)) := ((inR p24 (([10, 11, 12, 13, 14] : List Int).length)).bind fun m13 => ((([10, 11, 12, 13, 14])[m13]?).bind fun z14 => ((inR z14 19).bind fun m15 => (bif (!decide (((a1.Levels m15).toNat : Int) = 0)) then ((inR z14 19).bind fun m16 => (bif (decide (((a1.Chars m16).toNat : Int) = (a2.toNat : Int))) then (some (.inr (.inr true))) else (some (.inl (IntKind.i64.wrap (p24 + 1)))))) else (some (.inl (IntKind.i64.wrap (p24 + 1))))))))
theorem f29_l0_j2_ok {d : Nat} (hd : 1 ≤ d) (a1 : GKeys) (a2 : UInt8) {r : Int ⊕ (Unit ⊕ Bool)} {Q : PX → St → Prop} (hQ : ∀ e st', finL (f29_l0_H a1 a2) (f29_l0_X a1 a2) r e st' → Q e st') (p24 : Int) (hS : f29_l0_j2 a1 a2 p24 = some r) {st : St} (he : keepSt [1, 2, 7, 8, 9] [(24, .id 24), (64, .id 64)] [] st = f29_l0_j2_J a1 a2 p24) : ZR (lev codes baseL (d - 1)) Q c29_1 [] st := by
  refine zrKeep he ?_
  unfold f29_l0_j2 at hS
  refine zrSeq ?_
  refine zrBlk ?_
  refine zrSeq ?_
  refine zrReg ?_
  refine bindE hS (fun m13 hm13 hS => ?_)
  refine zlOp (d := some 11) (op := (.ixS 3 1 (.tmp 7) (.tmp 9))) (g := none) (v := (.r (.ptr 64 0 ((0 + m13) * 1)))) (ups := []) (j := 1) rfl (by kernel_rfl) (by kernel_rfl) (ev_ixM (kk := .i64) (b := 64) (g := 0) (l := 0) (n := ([10, 11, 12, 13, 14] : List Int).length) (j := p24) (cs := (eInt .i64).cells ([10, 11, 12, 13, 14])) (by kernel_rfl) (by kernel_rfl) (by kernel_rfl) hm13) ?_
  refine bindE hS (fun z14 hz14 hS => ?_)
  refine zlOp (d := some 12) (op := (.load .false 1 (.tmp 11))) (g := none) (v := (.d (.int .i64 z14))) (ups := []) (j := 2) rfl (by kernel_rfl) (by kernel_rfl) (ev_loadM (eInt .i64) (b := 64) (g := 0) (o := (0 + m13) * 1) (e := 3) (k := 1) (m := m13) (fo := 0) (xs := [10, 11, 12, 13, 14]) (by kernel_rfl) (by kernel_rfl) (by rw [Nat.zero_add]; rfl) hz14 (by kernel_rfl) (by kernel_rfl) (by kernel_rfl)) ?_
  refine zlRun (n := 1) (j := 3) rfl (by kernel_rfl) ?_
  refine zlEnd (by kernel_rfl) ?_
  refine zkSeq ?_
  refine zrSeq ?_
  refine zrReg ?_
  refine zlRun (n := 2) (j := 2) rfl (by kernel_rfl) ?_
  refine bindE hS (fun m15 hm15 hS => ?_)
  refine zlOp (d := some 15) (op := (.ixA 19 1 (.tmp 14) (.tmp 13))) (g := none) (v := (.r (.ptr 24 0 (0 + m15 * 1)))) (ups := []) (j := 3) rfl (by kernel_rfl) (by kernel_rfl) (ev_ixA (kk := .i64) (b := 24) (g := 0) (o := 0) (j := z14) (by kernel_rfl) (by kernel_rfl) hm15) ?_
  refine zlOp (d := some 16) (op := (.load .false 1 (.tmp 15))) (g := none) (v := (.d (.int .u8 ((a1.Levels m15).toNat : Int)))) (ups := []) (j := 4) rfl (by kernel_rfl) (by kernel_rfl) (ev_loadA eU8 (b := 24) (g := 0) (o := 0 + m15 * 1) (f := a1.Levels) (nn := 19) (m := m15) (fo := 0) (pre := []) (post := ((eU8.row 19 a1.Chars) ++ [])) (by kernel_rfl) (by kernel_rfl) (by kernel_rfl) (inR_lt hm15) (by kernel_rfl) (by kernel_rfl) (by kernel_rfl)) ?_
  refine zlBool (d := 17) (op := (.cmpI .neq (.tmp 16) (.const (.int .u8 0)))) (g := none) (j := 5) (!decide (((a1.Levels m15).toNat : Int) = 0)) rfl (by kernel_rfl) (by kernel_rfl) (by kernel_rfl) (fun hc => ?_) (fun hc => ?_)
  · replace hS := cond_t hc hS
    refine zlRun (n := 3) (j := 8) rfl (by kernel_rfl) ?_
    refine bindE hS (fun m16 hm16 hS => ?_)
    refine zlOp (d := some 21) (op := (.ixA 19 1 (.tmp 20) (.tmp 19))) (g := (some (18, true))) (v := (.r (.ptr 24 0 (19 + m16 * 1)))) (ups := []) (j := 9) rfl (by kernel_rfl) (by kernel_rfl) (ev_ixA (kk := .i64) (b := 24) (g := 0) (o := 19) (j := z14) (by kernel_rfl) (by kernel_rfl) hm16) ?_
    refine zlOp (d := some 22) (op := (.load .false 1 (.tmp 21))) (g := (some (18, true))) (v := (.d (.int .u8 ((a1.Chars m16).toNat : Int)))) (ups := []) (j := 10) rfl (by kernel_rfl) (by kernel_rfl) (ev_loadA eU8 (b := 24) (g := 0) (o := 19 + m16 * 1) (f := a1.Chars) (nn := 19) (m := m16) (fo := 0) (pre := ((eU8.row 19 a1.Levels) ++ [])) (post := []) (by kernel_rfl) (by kernel_rfl) (by kernel_rfl) (inR_lt hm16) (by kernel_rfl) (by kernel_rfl) (by kernel_rfl)) ?_
    refine zlRun (n := 1) (j := 11) rfl (by kernel_rfl) ?_
    refine zlBool (d := 24) (op := (.cmpI .eql (.tmp 22) (.tmp 23))) (g := (some (18, true))) (j := 12) (decide (((a1.Chars m16).toNat : Int) = (a2.toNat : Int))) rfl (by kernel_rfl) (by kernel_rfl) (by kernel_rfl) (fun hc => ?_) (fun hc => ?_)
    · replace hS := cond_t hc hS
      refine zlRun (n := 1) (j := 13) rfl (by kernel_rfl) ?_
      refine zlEnd (by kernel_rfl) ?_
      refine zkSeq ?_
      refine zrCondT (by kernel_rfl) ?_
      refine zrSeq ?_
      refine zrReg ?_
      refine zlRun (n := 1) (j := 1) rfl (by kernel_rfl) ?_
      refine zlEnd (by kernel_rfl) ?_
      refine zkSeq ?_
      refine zrRet ?_
      refine zkBlkR ?_
      refine zkSeqR ?_
      refine zkNil ?_
      exact endQ hS hQ (finL_x (by intro h; cases h) (by show _ = _ ∧ _ = _; exact ⟨rfl, by kernel_rfl⟩))
    · replace hS := cond_f hc hS
      refine zlRun (n := 1) (j := 13) rfl (by kernel_rfl) ?_
      refine zlEnd (by kernel_rfl) ?_
      refine zkSeq ?_
      refine zrCondF (by kernel_rfl) ?_
      refine zrSkip ?_
      refine zkBlk ?_
      refine zkSeq ?_
      refine zrReg ?_
      refine zlRun (n := 2) (j := 2) rfl (by kernel_rfl) ?_
      refine zlEnd (by kernel_rfl) ?_
      refine zkNil ?_
      exact endQ hS hQ (finL_n (by show keepSt _ _ _ _ = _; kernel_rfl))
  · replace hS := cond_f hc hS
    refine zlRun (n := 8) (j := 13) rfl (by kernel_rfl) ?_
    refine zlEnd (by kernel_rfl) ?_
    refine zkSeq ?_
    refine zrCondF (by kernel_rfl) ?_
    refine zrSkip ?_
    refine zkBlk ?_
    refine zkSeq ?_
    refine zrReg ?_
    refine zlRun (n := 2) (j := 2) rfl (by kernel_rfl) ?_
    refine zlEnd (by kernel_rfl) ?_
    refine zkNil ?_
    exact endQ hS hQ (finL_n (by show keepSt _ _ _ _ = _; kernel_rfl))
def f29_l0_j1_J (a1 : GKeys) (a2 : UInt8) (p22 : Int) (p23 : Bool) : St := ⟨(up (up (up (up (up (up (fun _ => .un) 10 (.d (.bool p23))) 9 (.d (.int .i64 p22))) 8 (.d (.int .i64 ((([10, 11, 12, 13, 14] : List Int).length) : Int)))) 7 (.r (.msl 64 0 0 (([10, 11, 12, 13, 14] : List Int).length)))) 2 (.r (.ptr 24 0 0))) 1 (.d (.int .u8 (a2.toNat : Int)))), (up (up (hB fun _ => 0) 64 ⟨0, some (.own 3 1 ((eInt .i64).cells ([10, 11, 12, 13, 14])))⟩) 24 ⟨0, some (.box ((eU8.row 19 a1.Levels) ++ ((eU8.row 19 a1.Chars) ++ [])))⟩)⟩
noncomputable def f29_l0_j1 (a1 : GKeys) (a2 : UInt8) (p22 : Int) (p23 : Bool) : Option (Int ⊕ (Unit ⊕ Bool)) := (bif p23 then (f29_l0_j2 a1 a2 p22) else (some (.inr (.inl ()))))
theorem f29_l0_j1_ok {d : Nat} (hd : 1 ≤ d) (a1 : GKeys) (a2 : UInt8) {r : Int ⊕ (Unit ⊕ Bool)} {Q : PX → St → Prop} (hQ : ∀ e st', finL (f29_l0_H a1 a2) (f29_l0_X a1 a2) r e st' → Q e st') (p22 : Int) (p23 : Bool) (hS : f29_l0_j1 a1 a2 p22 p23 = some r) {st : St} (he : keepSt [1, 2, 7, 8, 9, 10] [(24, .id 24), (64, .id 64)] [] st = f29_l0_j1_J a1 a2 p22 p23) : ZR (lev codes baseL (d - 1)) Q c29_2 [] st := by
  refine zrKeep he ?_
  unfold f29_l0_j1 at hS
  refine zrSeq ?_
  refine zrSplit 10 p23 (by kernel_rfl) (fun hc => ?_) (fun hc => ?_)
  · replace hS := cond_t hc hS
    refine zrCondT (by kernel_rfl) ?_
    refine zrSkip ?_
    refine zkSeq ?_
    exact f29_l0_j2_ok hd a1 a2 hQ p22 hS (by kernel_rfl)
  · replace hS := cond_f hc hS
    refine zrCondF (by kernel_rfl) ?_
    refine zrKeep (J := f29_l0_e0_J a1 a2) (by kernel_rfl) ?_
    refine zrExit ?_
    refine zkSeqX ?_
    refine zkNil ?_
    exact endQ hS hQ (finL_x (by intro h; cases h) (by show _ = _ ∧ _ = _; exact ⟨rfl, rfl⟩))
noncomputable def f29_l0 (a1 : GKeys) (a2 : UInt8) (x : Int) : Option (Int ⊕ (Unit ⊕ Bool)) := (bif (decide (x < ((([10, 11, 12, 13, 14] : List Int).length) : Int))) then (f29_l0_j1 a1 a2 x true) else (f29_l0_j1 a1 a2 x false))
theorem f29_l0_ok {d : Nat} (hd : 1 ≤ d) (a1 : GKeys) (a2 : UInt8) {r : Int ⊕ (Unit ⊕ Bool)} {Q : PX → St → Prop} (hQ : ∀ e st', finL (f29_l0_H a1 a2) (f29_l0_X a1 a2) r e st' → Q e st') {x : Int} (hS : f29_l0 a1 a2 x = some r) {st : St} (he : f29_l0_H a1 a2 x st) : ZR (lev codes baseL (d - 1)) Q c29_3 [] st := by
  refine zrKeep he ?_
  unfold f29_l0 at hS
  refine zrSeq ?_
  refine zrReg ?_
  refine zlBool (d := 10) (op := (.cmpI .lss (.tmp 9) (.tmp 8))) (g := none) (j := 1) (decide (x < ((([10, 11, 12, 13, 14] : List Int).length) : Int))) rfl (by kernel_rfl) (by kernel_rfl) (by kernel_rfl) (fun hc => ?_) (fun hc => ?_)
  · replace hS := cond_t hc hS
    refine zlEnd (by kernel_rfl) ?_
    refine zkSeq ?_
    exact f29_l0_j1_ok hd a1 a2 hQ x true hS (by kernel_rfl)
  · replace hS := cond_f hc hS
    refine zlEnd (by kernel_rfl) ?_
    refine zkSeq ?_
    exact f29_l0_j1_ok hd a1 a2 hQ x false hS (by kernel_rfl)
noncomputable def f29 (a1 : GKeys) (a2 : UInt8) : Option (Bool) := ((loopO (f29_l0 a1 a2) 0).bind fun z17 => (Sum.elim (fun z18 => (some false)) (fun z19 => (some z19)) z17))
theorem f29_ok (d : Nat) (hd : 1 ≤ d) (a1 : GKeys) (a2 : UInt8) (r : Bool) (hS : f29 a1 a2 = some r) : lev codes baseL d 29 [(.agg ((eU8.row 19 a1.Levels) ++ ((eU8.row 19 a1.Chars) ++ []))), (.d (.int .u8 (a2.toNat : Int)))] [] = some ((.d (.bool r)), []) := by
  refine lev_go codes29 rfl rfl (Nat.le_trans (Nat.le_of_ble_eq_true rfl) hd) fun Q hQ => ?_
  unfold f29 at hS
  show ZR _ Q c29_b [] _
  replace hQ : ∀ e st', f29_Q r e st' → Q e st' := hQ
  refine zrSeq ?_
  refine zrReg ?_
  refine zlRun (n := 2) (j := 2) rfl (by kernel_rfl) ?_
  refine zlEnd (by kernel_rfl) ?_
  refine zkSeq ?_
  refine zrSeq ?_
  refine zrSeq ?_
  refine zrReg ?_
  refine zlRun (n := 3) (j := 3) rfl (by kernel_rfl) ?_
  refine zlEnd (by kernel_rfl) ?_
  refine zkSeq ?_
  refine zrBlk ?_
  refine bindE hS (fun z17 hz17 hS => ?_)
  refine zrLoop (f29_l0_H a1 a2) (f29_l0_X a1 a2) (fun x st r Q h0 hS hQ => f29_l0_ok hd a1 a2 hQ hS h0) (x := 0) (z := z17) (by show keepSt _ _ _ _ = _; kernel_rfl) hz17 ?_
  rcases z17 with z18 | z19
  · replace hS := (show _ = _ from hS)
    simp only [Sum.elim_inl] at hS
    intro e st' _ hX
    obtain ⟨rfl, rfl⟩ : _ ∧ _ := hX
    refine zkBlkX ?_
    refine zkSeq ?_
    refine zrSeq ?_
    refine zrReg ?_
    refine zlRun (n := 1) (j := 1) rfl (by kernel_rfl) ?_
    refine zlEnd (by kernel_rfl) ?_
    refine zkSeq ?_
    refine zrRet ?_
    refine zkNil ?_
    exact endQ hS hQ (fRet ((congrArg (fun s => outR s 0 c29.res) (by kernel_rfl : finSt c29.fin _ = f29_fin false)).trans (f29_out false)))
  · simp only [Sum.elim_inr] at hS
    intro e st' _ hX
    obtain ⟨rfl, hX⟩ : _ ∧ _ := hX
    refine zkBlkR ?_
    refine zkSeqR ?_
    refine zkNil ?_
    exact endQ hS hQ (fRet ((congrArg (fun s => outR s 0 c29.res) hX).trans (f29_out z19)))
/- farwriter/farkeep.LineErases -/
def f8_fin (p86 : Bool) : St := ⟨(up (fun _ => .un) 6 (.d (.bool p86))), (hB fun _ => 0)⟩
theorem f8_out (p86 : Bool) : outR (f8_fin p86) 0 c8.res = some ((.d (.bool p86)), []) := by
  kernel_rfl
def f8_Q (r : Bool) (e : PX) (st : St) : Prop := DoneF c8 0 ((.d (.bool r)), []) e st
def f8_j2_J (a1 : GEditor) (a2 : List UInt8) (a3 : Bool) (p171 : GKeys) : St := ⟨(up (up (up (fun _ => .un) 7 (.r (.ptr 64 0 0))) 3 (.r (.ptr 32 0 0))) 1 (.d (.str a2))), (up (up (hB fun _ => 0) 64 ⟨0, some (.box ((eU8.row 19 p171.Levels) ++ ((eU8.row 19 p171.Chars) ++ [])))⟩) 32 ⟨0, some (.box ((.d (.str a1.Buf)) :: ((.d (.bool false)) :: [])))⟩)⟩
noncomputable def f8_j2 (a1 : GEditor) (a2 : List UInt8) (a3 : Bool) (p171 : GKeys) : Option (Bool) := ((libRepeat [127] (a2.length : Int)).bind fun z59 => ((cat? a2 z59).bind fun z60 => ((f24 (GEditor.mk a1.Buf false) p171 (GMask.mk (fun _ => 0)) z60).bind fun z61 => (bif (decide (z61.2.2.2 = 0)) then (bif (decide (z61.1.Buf = a1.Buf) && (decide (z61.1.Quote = false) && true)) then (bif (decide ((z61.2.1.length : Int) = 0)) then (some true) else (some false)) else (some false)) else (some false)))))
theorem f8_j2_ok {d : Nat} (hd : 6 ≤ d) (a1 : GEditor) (a2 : List UInt8) (a3 : Bool) {r : Bool} {Q : PX → St → Prop} (hQ : ∀ e st', f8_Q r e st' → Q e st') (p171 : GKeys) (hS : f8_j2 a1 a2 a3 p171 = some r) {st : St} (he : keepSt [1, 3, 7] [(32, .id 32), (64, .id 64)] [] st = f8_j2_J a1 a2 a3 p171) : ZR (lev codes baseL (d - 1)) Q c8_1 [] st := by
  refine zrKeep he ?_
  unfold f8_j2 at hS
  refine zrSeq ?_
  refine zrRegD ?_
  refine zdRun (n := 6) (j := 6) (ts := [[(32, false)], [(64, false)], [], [], [], []]) (acc' := [[(32, false)], [(64, false)], [], [], [], []]) rfl (by kernel_rfl) (by kernel_rfl) (by kernel_rfl) ?_
  refine bindE hS (fun z59 hz59 hS => ?_)
  refine zdOp (d := some 86) (op := (.call 20 [(.const (.string ⟨#[127]⟩)), (.tmp 85)])) (g := none) (v := (.d (.str z59))) (ups := []) (j := 7) (t1 := [(696, true), (697, true), (698, true), (699, true), (700, true), (701, true), (702, true), (703, true)]) (acc' := [[(32, false)], [(64, false)], [], [], [], [], [(696, true), (697, true), (698, true), (699, true), (700, true), (701, true), (702, true), (703, true)]]) (by kernel_rfl) (by kernel_rfl) rfl (by kernel_rfl) (by kernel_rfl) (ev_call (args := [(.d (.str ([127]))), (.d (.int .i64 (a2.length : Int)))]) (l := [(.d (.str ([127]))), (.d (.int .i64 (a2.length : Int)))]) (r := (.d (.str z59))) (by kernel_rfl) (by kernel_rfl) (libRepeat_ok (d - 1) (dpt hd rfl) [127] (a2.length : Int) z59 hz59) (by kernel_rfl) (by kernel_rfl) (by kernel_rfl)) ?_
  refine bindE hS (fun z60 hz60 hS => ?_)
  refine zdOp (d := some 87) (op := (.strO .add (.tmp 83) (.tmp 86))) (g := none) (v := (.d (.str z60))) (ups := []) (j := 8) (t1 := []) (acc' := [[(32, false)], [(64, false)], [], [], [], [], [(696, true), (697, true), (698, true), (699, true), (700, true), (701, true), (702, true), (703, true)], []]) (by kernel_rfl) (by kernel_rfl) rfl (by kernel_rfl) (by kernel_rfl) (ev_cat (a := a2) (c := z59) (by kernel_rfl) (by kernel_rfl) hz60) ?_
  refine bindE hS (fun z61 hz61 hS => ?_)
  refine zdOp (d := some 88) (op := (.call 24 [(.tmp 80), (.tmp 81), (.tmp 82), (.tmp 87)])) (g := none) (v := (.tup [(.agg ((.d (.str z61.1.Buf)) :: ((.d (.bool z61.1.Quote)) :: []))), (.r (.msl 712 1 0 z61.2.1.length)), (.d (.str z61.2.2.1)), (.d (.int .i64 z61.2.2.2))])) (ups := [(712, ⟨1, some (.own 9 1 (eStr.cells z61.2.1))⟩)]) (j := 9) (t1 := [(712, true), (713, true), (714, true), (715, true), (716, true), (717, true), (718, true), (719, true)]) (acc' := [[(32, false)], [(64, false)], [], [], [], [], [(696, true), (697, true), (698, true), (699, true), (700, true), (701, true), (702, true), (703, true)], [], [(712, true), (713, true), (714, true), (715, true), (716, true), (717, true), (718, true), (719, true)]]) (by kernel_rfl) (by kernel_rfl) rfl (by kernel_rfl) (by kernel_rfl) (ev_call (args := [(.agg ((.d (.str a1.Buf)) :: ((.d (.bool false)) :: []))), (.agg ((eU8.row 19 p171.Levels) ++ ((eU8.row 19 p171.Chars) ++ []))), (.agg (((eInt .u64).row 4 (fun _ => 0)) ++ [])), (.d (.str z60))]) (l := [(.agg ((.d (.str a1.Buf)) :: ((.d (.bool false)) :: []))), (.agg ((eU8.row 19 p171.Levels) ++ ((eU8.row 19 p171.Chars) ++ []))), (.agg (((eInt .u64).row 4 (fun _ => 0)) ++ [])), (.d (.str z60))]) (r := (.tup [(.agg ((.d (.str z61.1.Buf)) :: ((.d (.bool z61.1.Quote)) :: []))), (.r (.own 0 9 1 z61.2.1.length (eStr.cells z61.2.1))), (.d (.str z61.2.2.1)), (.d (.int .i64 z61.2.2.2))])) (by kernel_rfl) (by kernel_rfl) (f24_ok (d - 1) (dpt hd rfl) (GEditor.mk a1.Buf false) p171 (GMask.mk (fun _ => 0)) z60 z61 hz61) (by kernel_rfl) (by kernel_rfl) (by kernel_rfl)) ?_
  refine zdRun (n := 10) (j := 19) (ts := [[], [], [], [], [], [(112, true)], [(112, true)], [], [], []]) (acc' := [[(32, false)], [(64, false)], [], [], [], [], [(696, true), (697, true), (698, true), (699, true), (700, true), (701, true), (702, true), (703, true)], [], [(712, true), (713, true), (714, true), (715, true), (716, true), (717, true), (718, true), (719, true)], [], [], [], [], [], [(112, true)], [(112, true)], [], [], []]) rfl (by kernel_rfl) (by kernel_rfl) (by kernel_rfl) ?_
  refine zdEnd (by kernel_rfl) (by kernel_rfl) ?_
  refine zkSeq ?_
  refine zrSeq ?_
  refine zrReg ?_
  refine zlRun (n := 1) (j := 1) rfl (by kernel_rfl) ?_
  refine zlBool (d := 94) (op := (.cmpI .eql (.tmp 93) (.const (.int .i64 0)))) (g := none) (j := 2) (decide (z61.2.2.2 = 0)) rfl (by kernel_rfl) (by kernel_rfl) (by kernel_rfl) (fun hc => ?_) (fun hc => ?_)
  · replace hS := cond_t hc hS
    refine zlRun (n := 3) (j := 5) rfl (by kernel_rfl) ?_
    refine zlBool (d := 98) (op := (.eqA .false [(1, .str), (1, .bool)] (.tmp 96) (.tmp 97))) (g := (some (95, true))) (j := 6) (decide (z61.1.Buf = a1.Buf) && (decide (z61.1.Quote = false) && true)) rfl (by kernel_rfl) (by kernel_rfl) (by kernel_rfl) (fun hc => ?_) (fun hc => ?_)
    · replace hS := cond_t hc hS
      refine zlRun (n := 4) (j := 10) rfl (by kernel_rfl) ?_
      refine zlBool (d := 103) (op := (.cmpI .eql (.tmp 102) (.const (.int .i64 0)))) (g := (some (100, true))) (j := 11) (decide ((z61.2.1.length : Int) = 0)) rfl (by kernel_rfl) (by kernel_rfl) (by kernel_rfl) (fun hc => ?_) (fun hc => ?_)
      · replace hS := cond_t hc hS
        refine zlRun (n := 2) (j := 13) rfl (by kernel_rfl) ?_
        refine zlEnd (by kernel_rfl) ?_
        refine zkSeq ?_
        refine zrRet ?_
        refine zkNil ?_
        exact endQ hS hQ (fRet ((congrArg (fun s => outR s 0 c8.res) (by kernel_rfl : finSt c8.fin _ = f8_fin true)).trans (f8_out true)))
      · replace hS := cond_f hc hS
        refine zlRun (n := 2) (j := 13) rfl (by kernel_rfl) ?_
        refine zlEnd (by kernel_rfl) ?_
        refine zkSeq ?_
        refine zrRet ?_
        refine zkNil ?_
        exact endQ hS hQ (fRet ((congrArg (fun s => outR s 0 c8.res) (by kernel_rfl : finSt c8.fin _ = f8_fin false)).trans (f8_out false)))
    · replace hS := cond_f hc hS
      refine zlRun (n := 7) (j := 13) rfl (by kernel_rfl) ?_
      refine zlEnd (by kernel_rfl) ?_
      refine zkSeq ?_
      refine zrRet ?_
      refine zkNil ?_
      exact endQ hS hQ (fRet ((congrArg (fun s => outR s 0 c8.res) (by kernel_rfl : finSt c8.fin _ = f8_fin false)).trans (f8_out false)))
  · replace hS := cond_f hc hS
    refine zlRun (n := 11) (j := 13) rfl (by kernel_rfl) ?_
    refine zlEnd (by kernel_rfl) ?_
    refine zkSeq ?_
    refine zrRet ?_
    refine zkNil ?_
    exact endQ hS hQ (fRet ((congrArg (fun s => outR s 0 c8.res) (by kernel_rfl : finSt c8.fin _ = f8_fin false)).trans (f8_out false)))
def f8_j1_J (a1 : GEditor) (a2 : List UInt8) (a3 : Bool) (p167 : GKeys) : St := ⟨(up (up (up (up (fun _ => .un) 7 (.r (.ptr 64 0 0))) 3 (.r (.ptr 32 0 0))) 2 (.d (.bool a3))) 1 (.d (.str a2))), (up (up (hB fun _ => 0) 64 ⟨0, some (.box ((eU8.row 19 p167.Levels) ++ ((eU8.row 19 p167.Chars) ++ [])))⟩) 32 ⟨0, some (.box ((.d (.str a1.Buf)) :: ((.d (.bool false)) :: [])))⟩)⟩
noncomputable def f8_j1 (a1 : GEditor) (a2 : List UInt8) (a3 : Bool) (p167 : GKeys) : Option (Bool) := (bif a3 then ((cat? a2 ([21] : List UInt8)).bind fun z64 => ((f24 (GEditor.mk a1.Buf false) p167 (GMask.mk (fun _ => 0)) z64).bind fun z65 => (bif (decide (z65.2.2.2 = 0)) then (bif (decide (z65.1.Buf = ([] : List UInt8)) && (decide (z65.1.Quote = false) && true)) then (bif (decide ((z65.2.1.length : Int) = 0)) then (some true) else (some false)) else (some false)) else (some false)))) else (f8_j2 a1 a2 a3 p167))
theorem f8_j1_ok {d : Nat} (hd : 6 ≤ d) (a1 : GEditor) (a2 : List UInt8) (a3 : Bool) {r : Bool} {Q : PX → St → Prop} (hQ : ∀ e st', f8_Q r e st' → Q e st') (p167 : GKeys) (hS : f8_j1 a1 a2 a3 p167 = some r) {st : St} (he : keepSt [1, 2, 3, 7] [(32, .id 32), (64, .id 64)] [] st = f8_j1_J a1 a2 a3 p167) : ZR (lev codes baseL (d - 1)) Q c8_2 [] st := by
  refine zrKeep he ?_
  unfold f8_j1 at hS
  refine zrSeq ?_
  refine zrSeq ?_
  refine zrReg ?_
  refine zlRun (n := 1) (j := 1) rfl (by kernel_rfl) ?_
  refine zlEnd (by kernel_rfl) ?_
  refine zkSeq ?_
  refine zrSplit 55 a3 (by kernel_rfl) (fun hc => ?_) (fun hc => ?_)
  · replace hS := cond_t hc hS
    refine zrCondT (by kernel_rfl) ?_
    refine zrSeq ?_
    refine zrReg ?_
    refine zlRun (n := 4) (j := 4) rfl (by kernel_rfl) ?_
    refine bindE hS (fun z64 hz64 hS => ?_)
    refine zlOp (d := some 61) (op := (.strO .add (.tmp 60) (.const (.string ⟨#[21]⟩)))) (g := none) (v := (.d (.str z64))) (ups := []) (j := 5) rfl (by kernel_rfl) (by kernel_rfl) (ev_cat (a := a2) (c := [21]) (by kernel_rfl) (by kernel_rfl) hz64) ?_
    refine bindE hS (fun z65 hz65 hS => ?_)
    refine zlOp (d := some 62) (op := (.call 24 [(.tmp 57), (.tmp 58), (.tmp 59), (.tmp 61)])) (g := none) (v := (.tup [(.agg ((.d (.str z65.1.Buf)) :: ((.d (.bool z65.1.Quote)) :: []))), (.r (.msl 504 1 0 z65.2.1.length)), (.d (.str z65.2.2.1)), (.d (.int .i64 z65.2.2.2))])) (ups := [(504, ⟨1, some (.own 9 1 (eStr.cells z65.2.1))⟩)]) (j := 6) rfl (by kernel_rfl) (by kernel_rfl) (ev_call (args := [(.agg ((.d (.str a1.Buf)) :: ((.d (.bool false)) :: []))), (.agg ((eU8.row 19 p167.Levels) ++ ((eU8.row 19 p167.Chars) ++ []))), (.agg (((eInt .u64).row 4 (fun _ => 0)) ++ [])), (.d (.str z64))]) (l := [(.agg ((.d (.str a1.Buf)) :: ((.d (.bool false)) :: []))), (.agg ((eU8.row 19 p167.Levels) ++ ((eU8.row 19 p167.Chars) ++ []))), (.agg (((eInt .u64).row 4 (fun _ => 0)) ++ [])), (.d (.str z64))]) (r := (.tup [(.agg ((.d (.str z65.1.Buf)) :: ((.d (.bool z65.1.Quote)) :: []))), (.r (.own 0 9 1 z65.2.1.length (eStr.cells z65.2.1))), (.d (.str z65.2.2.1)), (.d (.int .i64 z65.2.2.2))])) (by kernel_rfl) (by kernel_rfl) (f24_ok (d - 1) (dpt hd rfl) (GEditor.mk a1.Buf false) p167 (GMask.mk (fun _ => 0)) z64 z65 hz65) (by kernel_rfl) (by kernel_rfl) (by kernel_rfl)) ?_
    refine zlRun (n := 10) (j := 16) rfl (by kernel_rfl) ?_
    refine zlEnd (by kernel_rfl) ?_
    refine zkSeq ?_
    refine zrSeq ?_
    refine zrReg ?_
    refine zlRun (n := 1) (j := 1) rfl (by kernel_rfl) ?_
    refine zlBool (d := 68) (op := (.cmpI .eql (.tmp 67) (.const (.int .i64 0)))) (g := none) (j := 2) (decide (z65.2.2.2 = 0)) rfl (by kernel_rfl) (by kernel_rfl) (by kernel_rfl) (fun hc => ?_) (fun hc => ?_)
    · replace hS := cond_t hc hS
      refine zlRun (n := 3) (j := 5) rfl (by kernel_rfl) ?_
      refine zlBool (d := 72) (op := (.eqA .false [(1, .str), (1, .bool)] (.tmp 70) (.tmp 71))) (g := (some (69, true))) (j := 6) (decide (z65.1.Buf = ([] : List UInt8)) && (decide (z65.1.Quote = false) && true)) rfl (by kernel_rfl) (by kernel_rfl) (by kernel_rfl) (fun hc => ?_) (fun hc => ?_)
      · replace hS := cond_t hc hS
        refine zlRun (n := 4) (j := 10) rfl (by kernel_rfl) ?_
        refine zlBool (d := 77) (op := (.cmpI .eql (.tmp 76) (.const (.int .i64 0)))) (g := (some (74, true))) (j := 11) (decide ((z65.2.1.length : Int) = 0)) rfl (by kernel_rfl) (by kernel_rfl) (by kernel_rfl) (fun hc => ?_) (fun hc => ?_)
        · replace hS := cond_t hc hS
          refine zlRun (n := 2) (j := 13) rfl (by kernel_rfl) ?_
          refine zlEnd (by kernel_rfl) ?_
          refine zkSeq ?_
          refine zrRet ?_
          refine zkSeqR ?_
          refine zkNil ?_
          exact endQ hS hQ (fRet ((congrArg (fun s => outR s 0 c8.res) (by kernel_rfl : finSt c8.fin _ = f8_fin true)).trans (f8_out true)))
        · replace hS := cond_f hc hS
          refine zlRun (n := 2) (j := 13) rfl (by kernel_rfl) ?_
          refine zlEnd (by kernel_rfl) ?_
          refine zkSeq ?_
          refine zrRet ?_
          refine zkSeqR ?_
          refine zkNil ?_
          exact endQ hS hQ (fRet ((congrArg (fun s => outR s 0 c8.res) (by kernel_rfl : finSt c8.fin _ = f8_fin false)).trans (f8_out false)))
      · replace hS := cond_f hc hS
        refine zlRun (n := 7) (j := 13) rfl (by kernel_rfl) ?_
        refine zlEnd (by kernel_rfl) ?_
        refine zkSeq ?_
        refine zrRet ?_
        refine zkSeqR ?_
        refine zkNil ?_
        exact endQ hS hQ (fRet ((congrArg (fun s => outR s 0 c8.res) (by kernel_rfl : finSt c8.fin _ = f8_fin false)).trans (f8_out false)))
    · replace hS := cond_f hc hS
      refine zlRun (n := 11) (j := 13) rfl (by kernel_rfl) ?_
      refine zlEnd (by kernel_rfl) ?_
      refine zkSeq ?_
      refine zrRet ?_
      refine zkSeqR ?_
      refine zkNil ?_
      exact endQ hS hQ (fRet ((congrArg (fun s => outR s 0 c8.res) (by kernel_rfl : finSt c8.fin _ = f8_fin false)).trans (f8_out false)))
  · replace hS := cond_f hc hS
    refine zrCondF (by kernel_rfl) ?_
    refine zrSkip ?_
    refine zkSeq ?_
    exact f8_j2_ok hd a1 a2 a3 hQ p167 hS (by kernel_rfl)
def f8_j0_J (a1 : GEditor) (a2 : List UInt8) (a3 : Bool) (p163 : GKeys) : St := ⟨(up (up (up (up (fun _ => .un) 7 (.r (.ptr 64 0 0))) 3 (.r (.ptr 32 0 0))) 2 (.d (.bool a3))) 1 (.d (.str a2))), (up (up (hB fun _ => 0) 64 ⟨0, some (.box ((eU8.row 19 p163.Levels) ++ ((eU8.row 19 p163.Chars) ++ [])))⟩) 32 ⟨0, some (.box ((.d (.str a1.Buf)) :: ((.d (.bool false)) :: [])))⟩)⟩
noncomputable def f8_j0 (a1 : GEditor) (a2 : List UInt8) (a3 : Bool) (p163 : GKeys) : Option (Bool) := (f25.bind fun z66 => (bif (!z66) then (f25.bind fun z67 => (some z67)) else (bif (decide (1024 ≤ (IntKind.i64.wrap ((a1.Buf.length : Int) + (a2.length : Int))))) then (f25.bind fun z68 => (some z68)) else (f8_j1 a1 a2 a3 p163))))
theorem f8_j0_ok {d : Nat} (hd : 6 ≤ d) (a1 : GEditor) (a2 : List UInt8) (a3 : Bool) {r : Bool} {Q : PX → St → Prop} (hQ : ∀ e st', f8_Q r e st' → Q e st') (p163 : GKeys) (hS : f8_j0 a1 a2 a3 p163 = some r) {st : St} (he : keepSt [1, 2, 3, 7] [(32, .id 32), (64, .id 64)] [] st = f8_j0_J a1 a2 a3 p163) : ZR (lev codes baseL (d - 1)) Q c8_3 [] st := by
  refine zrKeep he ?_
  unfold f8_j0 at hS
  refine zrSeq ?_
  refine zrSeq ?_
  refine zrReg ?_
  refine bindE hS (fun z66 hz66 hS => ?_)
  refine zlOp (d := some 43) (op := (.call 25 [])) (g := none) (v := (.d (.bool z66))) (ups := []) (j := 1) rfl (by kernel_rfl) (by kernel_rfl) (ev_call (args := []) (l := []) (r := (.d (.bool z66))) (by kernel_rfl) (by kernel_rfl) (f25_ok (d - 1) (dpt hd rfl)  z66 hz66) (by kernel_rfl) (by kernel_rfl) (by kernel_rfl)) ?_
  refine zlRun (n := 2) (j := 3) rfl (by kernel_rfl) ?_
  refine zlSplit 45 (!z66) (by kernel_rfl) (fun hc => ?_) (fun hc => ?_)
  · replace hS := cond_t hc hS
    refine zlRun (n := 8) (j := 11) rfl (by kernel_rfl) ?_
    refine zlEnd (by kernel_rfl) ?_
    refine zkSeq ?_
    refine zrCondT (by kernel_rfl) ?_
    refine zrSeq ?_
    refine zrReg ?_
    refine bindE hS (fun z67 hz67 hS => ?_)
    refine zlOp (d := some 54) (op := (.call 25 [])) (g := none) (v := (.d (.bool z67))) (ups := []) (j := 1) rfl (by kernel_rfl) (by kernel_rfl) (ev_call (args := []) (l := []) (r := (.d (.bool z67))) (by kernel_rfl) (by kernel_rfl) (f25_ok (d - 1) (dpt hd rfl)  z67 hz67) (by kernel_rfl) (by kernel_rfl) (by kernel_rfl)) ?_
    refine zlRun (n := 1) (j := 2) rfl (by kernel_rfl) ?_
    refine zlEnd (by kernel_rfl) ?_
    refine zkSeq ?_
    refine zrRet ?_
    refine zkSeqR ?_
    refine zkNil ?_
    exact endQ hS hQ (fRet ((congrArg (fun s => outR s 0 c8.res) (by kernel_rfl : finSt c8.fin _ = f8_fin z67)).trans (f8_out z67)))
  · replace hS := cond_f hc hS
    refine zlRun (n := 6) (j := 9) rfl (by kernel_rfl) ?_
    refine zlBool (d := 52) (op := (.cmpI .geq (.tmp 51) (.const (.int .i64 1024)))) (g := (some (45, false))) (j := 10) (decide (1024 ≤ (IntKind.i64.wrap ((a1.Buf.length : Int) + (a2.length : Int))))) rfl (by kernel_rfl) (by kernel_rfl) (by kernel_rfl) (fun hc => ?_) (fun hc => ?_)
    · replace hS := cond_t hc hS
      refine zlRun (n := 1) (j := 11) rfl (by kernel_rfl) ?_
      refine zlEnd (by kernel_rfl) ?_
      refine zkSeq ?_
      refine zrCondT (by kernel_rfl) ?_
      refine zrSeq ?_
      refine zrReg ?_
      refine bindE hS (fun z68 hz68 hS => ?_)
      refine zlOp (d := some 54) (op := (.call 25 [])) (g := none) (v := (.d (.bool z68))) (ups := []) (j := 1) rfl (by kernel_rfl) (by kernel_rfl) (ev_call (args := []) (l := []) (r := (.d (.bool z68))) (by kernel_rfl) (by kernel_rfl) (f25_ok (d - 1) (dpt hd rfl)  z68 hz68) (by kernel_rfl) (by kernel_rfl) (by kernel_rfl)) ?_
      refine zlRun (n := 1) (j := 2) rfl (by kernel_rfl) ?_
      refine zlEnd (by kernel_rfl) ?_
      refine zkSeq ?_
      refine zrRet ?_
      refine zkSeqR ?_
      refine zkNil ?_
      exact endQ hS hQ (fRet ((congrArg (fun s => outR s 0 c8.res) (by kernel_rfl : finSt c8.fin _ = f8_fin z68)).trans (f8_out z68)))
    · replace hS := cond_f hc hS
      refine zlRun (n := 1) (j := 11) rfl (by kernel_rfl) ?_
      refine zlEnd (by kernel_rfl) ?_
      refine zkSeq ?_
      refine zrCondF (by kernel_rfl) ?_
      refine zrSkip ?_
      refine zkSeq ?_
      exact f8_j1_ok hd a1 a2 a3 hQ p163 hS (by kernel_rfl)
def f8_l3_J (a1 : GEditor) (a2 : List UInt8) (a3 : Bool) (x : GKeys × Int) : St := ⟨(up (up (up (up (up (up (fun _ => .un) 21 (.d (.int .i64 x.2))) 20 (.d (.int .i64 (a2.length : Int)))) 7 (.r (.ptr 64 0 0))) 3 (.r (.ptr 32 0 0))) 2 (.d (.bool a3))) 1 (.d (.str a2))), (up (up (hB fun _ => 0) 64 ⟨0, some (.box ((eU8.row 19 x.1.Levels) ++ ((eU8.row 19 x.1.Chars) ++ [])))⟩) 32 ⟨0, some (.box ((.d (.str a1.Buf)) :: ((.d (.bool false)) :: [])))⟩)⟩
def f8_l3_H (a1 : GEditor) (a2 : List UInt8) (a3 : Bool) (x : GKeys × Int) (st : St) : Prop := keepSt [1, 2, 3, 7, 20, 21] [(32, .id 32), (64, .id 64)] [] st = f8_l3_J a1 a2 a3 x
def f8_l3_e0_J (a1 : GEditor) (a2 : List UInt8) (a3 : Bool) (p162 : GKeys) : St := ⟨(up (up (up (up (fun _ => .un) 7 (.r (.ptr 64 0 0))) 3 (.r (.ptr 32 0 0))) 2 (.d (.bool a3))) 1 (.d (.str a2))), (up (up (hB fun _ => 0) 64 ⟨0, some (.box ((eU8.row 19 p162.Levels) ++ ((eU8.row 19 p162.Chars) ++ [])))⟩) 32 ⟨0, some (.box ((.d (.str a1.Buf)) :: ((.d (.bool false)) :: [])))⟩)⟩
def f8_l3_X (a1 : GEditor) (a2 : List UInt8) (a3 : Bool) (z : GKeys ⊕ Bool) (e : PX) (st : St) : Prop := (match z with | .inl z => e = .exit 0 ∧ st = f8_l3_e0_J a1 a2 a3 z | .inr z => e = .ret ∧ finSt c8.fin st = f8_fin z)
def f8_l3_j5_J (a1 : GEditor) (a2 : List UInt8) (a3 : Bool) (p178 : GKeys) (p179 : Int) : St := ⟨(up (up (up (up (up (up (fun _ => .un) 21 (.d (.int .i64 p179))) 20 (.d (.int .i64 (a2.length : Int)))) 7 (.r (.ptr 64 0 0))) 3 (.r (.ptr 32 0 0))) 2 (.d (.bool a3))) 1 (.d (.str a2))), (up (up (hB fun _ => 0) 64 ⟨0, some (.box ((eU8.row 19 p178.Levels) ++ ((eU8.row 19 p178.Chars) ++ [])))⟩) 32 ⟨0, some (.box ((.d (.str a1.Buf)) :: ((.d (.bool false)) :: [])))⟩)⟩
noncomputable def f8_l3_j5 (a1 : GEditor) (a2 : List UInt8) (a3 : Bool) (p178 : GKeys) (p179 : Int) : Option ((GKeys × Int) ⊕ (GKeys ⊕ Bool)) := ((idx a2 p179).bind fun z69 => ((f29 p178 z69).bind fun z70 => (bif z70 then (f25.bind fun z71 => (some (.inr (.inr z71)))) else ((idx a2 p179).bind fun z72 => (bif (decide ((z72.toNat : Int) = 13)) then (f25.bind fun z73 => (some (.inr (.inr z73)))) else ((idx a2 p179).bind fun z74 => (bif (decide ((z74.toNat : Int) = 10)) then (f25.bind fun z75 => (some (.inr (.inr z75)))) else (some (.inl (p178, (IntKind.i64.wrap (p179 + 1))))))))))))
theorem f8_l3_j5_ok {d : Nat} (hd : 6 ≤ d) (a1 : GEditor) (a2 : List UInt8) (a3 : Bool) {r : (GKeys × Int) ⊕ (GKeys ⊕ Bool)} {Q : PX → St → Prop} (hQ : ∀ e st', finL (f8_l3_H a1 a2 a3) (f8_l3_X a1 a2 a3) r e st' → Q e st') (p178 : GKeys) (p179 : Int) (hS : f8_l3_j5 a1 a2 a3 p178 p179 = some r) {st : St} (he : keepSt [1, 2, 3, 7, 20, 21] [(32, .id 32), (64, .id 64)] [] st = f8_l3_j5_J a1 a2 a3 p178 p179) : ZR (lev codes baseL (d - 1)) Q c8_4 [] st := by
  refine zrKeep he ?_
  unfold f8_l3_j5 at hS
  refine zrSeq ?_
  refine zrBlk ?_
  refine zrSeq ?_
  refine zrReg ?_
  refine zlRun (n := 2) (j := 2) rfl (by kernel_rfl) ?_
  refine zlEnd (by kernel_rfl) ?_
  refine zkSeq ?_
  refine zrSeq ?_
  refine zrRegD ?_
  refine zdRun (n := 3) (j := 3) (ts := [[(64, false)], [], []]) (acc' := [[(64, false)], [], []]) rfl (by kernel_rfl) (by kernel_rfl) (by kernel_rfl) ?_
  refine bindE hS (fun z69 hz69 hS => ?_)
  refine zdOp (d := some 27) (op := (.ixStr (.tmp 25) (.tmp 26))) (g := none) (v := (.d (.int .u8 (z69.toNat : Int)))) (ups := []) (j := 4) (t1 := []) (acc' := [[(64, false)], [], [], []]) (by kernel_rfl) (by kernel_rfl) rfl (by kernel_rfl) (by kernel_rfl) (ev_ixStr (kk := .i64) (s := a2) (j := p179) (by kernel_rfl) (by kernel_rfl) hz69) ?_
  refine bindE hS (fun z70 hz70 hS => ?_)
  refine zdOp (d := some 28) (op := (.call 29 [(.tmp 24), (.tmp 27)])) (g := none) (v := (.d (.bool z70))) (ups := []) (j := 5) (t1 := [(232, true), (233, true), (234, true), (235, true), (236, true), (237, true), (238, true), (239, true)]) (acc' := [[(64, false)], [], [], [], [(232, true), (233, true), (234, true), (235, true), (236, true), (237, true), (238, true), (239, true)]]) (by kernel_rfl) (by kernel_rfl) rfl (by kernel_rfl) (by kernel_rfl) (ev_call (args := [(.agg ((eU8.row 19 p178.Levels) ++ ((eU8.row 19 p178.Chars) ++ []))), (.d (.int .u8 (z69.toNat : Int)))]) (l := [(.agg ((eU8.row 19 p178.Levels) ++ ((eU8.row 19 p178.Chars) ++ []))), (.d (.int .u8 (z69.toNat : Int)))]) (r := (.d (.bool z70))) (by kernel_rfl) (by kernel_rfl) (f29_ok (d - 1) (dpt hd rfl) p178 z69 z70 hz70) (by kernel_rfl) (by kernel_rfl) (by kernel_rfl)) ?_
  refine zdRun (n := 1) (j := 6) (ts := [[]]) (acc' := [[(64, false)], [], [], [], [(232, true), (233, true), (234, true), (235, true), (236, true), (237, true), (238, true), (239, true)], []]) rfl (by kernel_rfl) (by kernel_rfl) (by kernel_rfl) ?_
  refine zdSplit 29 z70 (by kernel_rfl) (fun hc => ?_) (fun hc => ?_)
  · replace hS := cond_t hc hS
    refine zdRun (n := 11) (j := 17) (ts := [[], [], [], [], [], [], [], [], [], [], []]) (acc' := [[(64, false)], [], [], [], [(232, true), (233, true), (234, true), (235, true), (236, true), (237, true), (238, true), (239, true)], [], [], [], [], [], [], [], [], [], [], [], []]) rfl (by kernel_rfl) (by kernel_rfl) (by kernel_rfl) ?_
    refine zdEnd (by kernel_rfl) (by kernel_rfl) ?_
    refine zkSeq ?_
    refine zrCondT (by kernel_rfl) ?_
    refine zrSeq ?_
    refine zrReg ?_
    refine bindE hS (fun z71 hz71 hS => ?_)
    refine zlOp (d := some 41) (op := (.call 25 [])) (g := none) (v := (.d (.bool z71))) (ups := []) (j := 1) rfl (by kernel_rfl) (by kernel_rfl) (ev_call (args := []) (l := []) (r := (.d (.bool z71))) (by kernel_rfl) (by kernel_rfl) (f25_ok (d - 1) (dpt hd rfl)  z71 hz71) (by kernel_rfl) (by kernel_rfl) (by kernel_rfl)) ?_
    refine zlRun (n := 1) (j := 2) rfl (by kernel_rfl) ?_
    refine zlEnd (by kernel_rfl) ?_
    refine zkSeq ?_
    refine zrRet ?_
    refine zkBlkR ?_
    refine zkSeqR ?_
    refine zkNil ?_
    exact endQ hS hQ (finL_x (by intro h; cases h) (by show _ = _ ∧ _ = _; exact ⟨rfl, by kernel_rfl⟩))
  · replace hS := cond_f hc hS
    refine zdRun (n := 2) (j := 8) (ts := [[], []]) (acc' := [[(64, false)], [], [], [], [(232, true), (233, true), (234, true), (235, true), (236, true), (237, true), (238, true), (239, true)], [], [], []]) rfl (by kernel_rfl) (by kernel_rfl) (by kernel_rfl) ?_
    refine bindE hS (fun z72 hz72 hS => ?_)
    refine zdOp (d := some 32) (op := (.ixStr (.tmp 30) (.tmp 31))) (g := (some (29, false))) (v := (.d (.int .u8 (z72.toNat : Int)))) (ups := []) (j := 9) (t1 := []) (acc' := [[(64, false)], [], [], [], [(232, true), (233, true), (234, true), (235, true), (236, true), (237, true), (238, true), (239, true)], [], [], [], []]) (by kernel_rfl) (by kernel_rfl) rfl (by kernel_rfl) (by kernel_rfl) (ev_ixStr (kk := .i64) (s := a2) (j := p179) (by kernel_rfl) (by kernel_rfl) hz72) ?_
    refine zdBool (d := 33) (op := (.cmpI .eql (.tmp 32) (.const (.int .u8 13)))) (g := (some (29, false))) (j := 10) (t1 := []) (acc' := [[(64, false)], [], [], [], [(232, true), (233, true), (234, true), (235, true), (236, true), (237, true), (238, true), (239, true)], [], [], [], [], []]) (decide ((z72.toNat : Int) = 13)) (by kernel_rfl) (by kernel_rfl) rfl (by kernel_rfl) (by kernel_rfl) (by kernel_rfl) (fun hc => ?_) (fun hc => ?_)
    · replace hS := cond_t hc hS
      refine zdRun (n := 7) (j := 17) (ts := [[], [], [], [], [], [], []]) (acc' := [[(64, false)], [], [], [], [(232, true), (233, true), (234, true), (235, true), (236, true), (237, true), (238, true), (239, true)], [], [], [], [], [], [], [], [], [], [], [], []]) rfl (by kernel_rfl) (by kernel_rfl) (by kernel_rfl) ?_
      refine zdEnd (by kernel_rfl) (by kernel_rfl) ?_
      refine zkSeq ?_
      refine zrCondT (by kernel_rfl) ?_
      refine zrSeq ?_
      refine zrReg ?_
      refine bindE hS (fun z73 hz73 hS => ?_)
      refine zlOp (d := some 41) (op := (.call 25 [])) (g := none) (v := (.d (.bool z73))) (ups := []) (j := 1) rfl (by kernel_rfl) (by kernel_rfl) (ev_call (args := []) (l := []) (r := (.d (.bool z73))) (by kernel_rfl) (by kernel_rfl) (f25_ok (d - 1) (dpt hd rfl)  z73 hz73) (by kernel_rfl) (by kernel_rfl) (by kernel_rfl)) ?_
      refine zlRun (n := 1) (j := 2) rfl (by kernel_rfl) ?_
      refine zlEnd (by kernel_rfl) ?_
      refine zkSeq ?_
      refine zrRet ?_
      refine zkBlkR ?_
      refine zkSeqR ?_
      refine zkNil ?_
      exact endQ hS hQ (finL_x (by intro h; cases h) (by show _ = _ ∧ _ = _; exact ⟨rfl, by kernel_rfl⟩))
    · replace hS := cond_f hc hS
      refine zdRun (n := 4) (j := 14) (ts := [[], [], [], []]) (acc' := [[(64, false)], [], [], [], [(232, true), (233, true), (234, true), (235, true), (236, true), (237, true), (238, true), (239, true)], [], [], [], [], [], [], [], [], []]) rfl (by kernel_rfl) (by kernel_rfl) (by kernel_rfl) ?_
      refine bindE hS (fun z74 hz74 hS => ?_)
      refine zdOp (d := some 38) (op := (.ixStr (.tmp 36) (.tmp 37))) (g := (some (35, false))) (v := (.d (.int .u8 (z74.toNat : Int)))) (ups := []) (j := 15) (t1 := []) (acc' := [[(64, false)], [], [], [], [(232, true), (233, true), (234, true), (235, true), (236, true), (237, true), (238, true), (239, true)], [], [], [], [], [], [], [], [], [], []]) (by kernel_rfl) (by kernel_rfl) rfl (by kernel_rfl) (by kernel_rfl) (ev_ixStr (kk := .i64) (s := a2) (j := p179) (by kernel_rfl) (by kernel_rfl) hz74) ?_
      refine zdBool (d := 39) (op := (.cmpI .eql (.tmp 38) (.const (.int .u8 10)))) (g := (some (35, false))) (j := 16) (t1 := []) (acc' := [[(64, false)], [], [], [], [(232, true), (233, true), (234, true), (235, true), (236, true), (237, true), (238, true), (239, true)], [], [], [], [], [], [], [], [], [], [], []]) (decide ((z74.toNat : Int) = 10)) (by kernel_rfl) (by kernel_rfl) rfl (by kernel_rfl) (by kernel_rfl) (by kernel_rfl) (fun hc => ?_) (fun hc => ?_)
      · replace hS := cond_t hc hS
        refine zdRun (n := 1) (j := 17) (ts := [[]]) (acc' := [[(64, false)], [], [], [], [(232, true), (233, true), (234, true), (235, true), (236, true), (237, true), (238, true), (239, true)], [], [], [], [], [], [], [], [], [], [], [], []]) rfl (by kernel_rfl) (by kernel_rfl) (by kernel_rfl) ?_
        refine zdEnd (by kernel_rfl) (by kernel_rfl) ?_
        refine zkSeq ?_
        refine zrCondT (by kernel_rfl) ?_
        refine zrSeq ?_
        refine zrReg ?_
        refine bindE hS (fun z75 hz75 hS => ?_)
        refine zlOp (d := some 41) (op := (.call 25 [])) (g := none) (v := (.d (.bool z75))) (ups := []) (j := 1) rfl (by kernel_rfl) (by kernel_rfl) (ev_call (args := []) (l := []) (r := (.d (.bool z75))) (by kernel_rfl) (by kernel_rfl) (f25_ok (d - 1) (dpt hd rfl)  z75 hz75) (by kernel_rfl) (by kernel_rfl) (by kernel_rfl)) ?_
        refine zlRun (n := 1) (j := 2) rfl (by kernel_rfl) ?_
        refine zlEnd (by kernel_rfl) ?_
        refine zkSeq ?_
        refine zrRet ?_
        refine zkBlkR ?_
        refine zkSeqR ?_
        refine zkNil ?_
        exact endQ hS hQ (finL_x (by intro h; cases h) (by show _ = _ ∧ _ = _; exact ⟨rfl, by kernel_rfl⟩))
      · replace hS := cond_f hc hS
        refine zdRun (n := 1) (j := 17) (ts := [[]]) (acc' := [[(64, false)], [], [], [], [(232, true), (233, true), (234, true), (235, true), (236, true), (237, true), (238, true), (239, true)], [], [], [], [], [], [], [], [], [], [], [], []]) rfl (by kernel_rfl) (by kernel_rfl) (by kernel_rfl) ?_
        refine zdEnd (by kernel_rfl) (by kernel_rfl) ?_
        refine zkSeq ?_
        refine zrCondF (by kernel_rfl) ?_
        refine zrSkip ?_
        refine zkBlk ?_
        refine zkSeq ?_
        refine zrReg ?_
        refine zlRun (n := 2) (j := 2) rfl (by kernel_rfl) ?_
        refine zlEnd (by kernel_rfl) ?_
        refine zkNil ?_
        exact endQ hS hQ (finL_n (by show keepSt _ _ _ _ = _; kernel_rfl))
def f8_l3_j4_J (a1 : GEditor) (a2 : List UInt8) (a3 : Bool) (p175 : GKeys) (p176 : Int) (p177 : Bool) : St := ⟨(up (up (up (up (up (up (up (fun _ => .un) 22 (.d (.bool p177))) 21 (.d (.int .i64 p176))) 20 (.d (.int .i64 (a2.length : Int)))) 7 (.r (.ptr 64 0 0))) 3 (.r (.ptr 32 0 0))) 2 (.d (.bool a3))) 1 (.d (.str a2))), (up (up (hB fun _ => 0) 64 ⟨0, some (.box ((eU8.row 19 p175.Levels) ++ ((eU8.row 19 p175.Chars) ++ [])))⟩) 32 ⟨0, some (.box ((.d (.str a1.Buf)) :: ((.d (.bool false)) :: [])))⟩)⟩
noncomputable def f8_l3_j4 (a1 : GEditor) (a2 : List UInt8) (a3 : Bool) (p175 : GKeys) (p176 : Int) (p177 : Bool) : Option ((GKeys × Int) ⊕ (GKeys ⊕ Bool)) := (bif p177 then (f8_l3_j5 a1 a2 a3 p175 p176) else (some (.inr (.inl p175))))
theorem f8_l3_j4_ok {d : Nat} (hd : 6 ≤ d) (a1 : GEditor) (a2 : List UInt8) (a3 : Bool) {r : (GKeys × Int) ⊕ (GKeys ⊕ Bool)} {Q : PX → St → Prop} (hQ : ∀ e st', finL (f8_l3_H a1 a2 a3) (f8_l3_X a1 a2 a3) r e st' → Q e st') (p175 : GKeys) (p176 : Int) (p177 : Bool) (hS : f8_l3_j4 a1 a2 a3 p175 p176 p177 = some r) {st : St} (he : keepSt [1, 2, 3, 7, 20, 21, 22] [(32, .id 32), (64, .id 64)] [] st = f8_l3_j4_J a1 a2 a3 p175 p176 p177) : ZR (lev codes baseL (d - 1)) Q c8_5 [] st := by
  refine zrKeep he ?_
  unfold f8_l3_j4 at hS
  refine zrSeq ?_
  refine zrSplit 22 p177 (by kernel_rfl) (fun hc => ?_) (fun hc => ?_)
  · replace hS := cond_t hc hS
    refine zrCondT (by kernel_rfl) ?_
    refine zrSkip ?_
    refine zkSeq ?_
    exact f8_l3_j5_ok hd a1 a2 a3 hQ p175 p176 hS (by kernel_rfl)
  · replace hS := cond_f hc hS
    refine zrCondF (by kernel_rfl) ?_
    refine zrKeep (J := f8_l3_e0_J a1 a2 a3 p175) (by kernel_rfl) ?_
    refine zrExit ?_
    refine zkSeqX ?_
    refine zkNil ?_
    exact endQ hS hQ (finL_x (by intro h; cases h) (by show _ = _ ∧ _ = _; exact ⟨rfl, rfl⟩))
noncomputable def f8_l3 (a1 : GEditor) (a2 : List UInt8) (a3 : Bool) (x : GKeys × Int) : Option ((GKeys × Int) ⊕ (GKeys ⊕ Bool)) := (bif (decide (x.2 < (a2.length : Int))) then (f8_l3_j4 a1 a2 a3 x.1 x.2 true) else (f8_l3_j4 a1 a2 a3 x.1 x.2 false))
theorem f8_l3_ok {d : Nat} (hd : 6 ≤ d) (a1 : GEditor) (a2 : List UInt8) (a3 : Bool) {r : (GKeys × Int) ⊕ (GKeys ⊕ Bool)} {Q : PX → St → Prop} (hQ : ∀ e st', finL (f8_l3_H a1 a2 a3) (f8_l3_X a1 a2 a3) r e st' → Q e st') {x : GKeys × Int} (hS : f8_l3 a1 a2 a3 x = some r) {st : St} (he : f8_l3_H a1 a2 a3 x st) : ZR (lev codes baseL (d - 1)) Q c8_6 [] st := by
  refine zrKeep he ?_
  unfold f8_l3 at hS
  refine zrSeq ?_
  refine zrReg ?_
  refine zlBool (d := 22) (op := (.cmpI .lss (.tmp 21) (.tmp 20))) (g := none) (j := 1) (decide (x.2 < (a2.length : Int))) rfl (by kernel_rfl) (by kernel_rfl) (by kernel_rfl) (fun hc => ?_) (fun hc => ?_)
  · replace hS := cond_t hc hS
    refine zlEnd (by kernel_rfl) ?_
    refine zkSeq ?_
    exact f8_l3_j4_ok hd a1 a2 a3 hQ x.1 x.2 true hS (by kernel_rfl)
  · replace hS := cond_f hc hS
    refine zlEnd (by kernel_rfl) ?_
    refine zkSeq ?_
    exact f8_l3_j4_ok hd a1 a2 a3 hQ x.1 x.2 false hS (by kernel_rfl)
noncomputable def f8 (a1 : GEditor) (a2 : List UInt8) (a3 : Bool) : Option (Bool) := (f28.bind fun z30 => ((loopO (f8_l3 a1 a2 a3) (z30, 0)).bind fun z76 => (Sum.elim (fun z77 => (f8_j0 a1 a2 a3 z77)) (fun z78 => (some z78)) z76)))
theorem f8_ok (d : Nat) (hd : 6 ≤ d) (a1 : GEditor) (a2 : List UInt8) (a3 : Bool) (r : Bool) (hS : f8 a1 a2 a3 = some r) : lev codes baseL d 8 [(.agg ((.d (.str a1.Buf)) :: ((.d (.bool a1.Quote)) :: []))), (.d (.str a2)), (.d (.bool a3))] [] = some ((.d (.bool r)), []) := by
  refine lev_go codes8 rfl rfl (Nat.le_trans (Nat.le_of_ble_eq_true rfl) hd) fun Q hQ => ?_
  unfold f8 at hS
  show ZR _ Q c8_b [] _
  replace hQ : ∀ e st', f8_Q r e st' → Q e st' := hQ
  refine zrSeq ?_
  refine zrReg ?_
  refine zlRun (n := 2) (j := 2) rfl (by kernel_rfl) ?_
  refine zlEnd (by kernel_rfl) ?_
  refine zkSeq ?_
  refine zrSeq ?_
  refine zrReg ?_
  refine zlRun (n := 2) (j := 2) rfl (by kernel_rfl) ?_
  refine zlEnd (by kernel_rfl) ?_
  refine zkSeq ?_
  refine zrSeq ?_
  refine zrReg ?_
  refine bindE hS (fun z30 hz30 hS => ?_)
  refine zlOp (d := some 18) (op := (.call 28 [])) (g := none) (v := (.agg ((eU8.row 19 z30.Levels) ++ ((eU8.row 19 z30.Chars) ++ [])))) (ups := []) (j := 1) rfl (by kernel_rfl) (by kernel_rfl) (ev_call (args := []) (l := []) (r := (.agg ((eU8.row 19 z30.Levels) ++ ((eU8.row 19 z30.Chars) ++ [])))) (by kernel_rfl) (by kernel_rfl) (f28_ok (d - 1) (dpt hd rfl)  z30 hz30) (by kernel_rfl) (by kernel_rfl) (by kernel_rfl)) ?_
  refine zlRun (n := 2) (j := 3) rfl (by kernel_rfl) ?_
  refine zlEnd (by kernel_rfl) ?_
  refine zkSeq ?_
  refine zrSeq ?_
  refine zrSeq ?_
  refine zrReg ?_
  refine zlRun (n := 3) (j := 3) rfl (by kernel_rfl) ?_
  refine zlEnd (by kernel_rfl) ?_
  refine zkSeq ?_
  refine zrBlk ?_
  refine bindE hS (fun z76 hz76 hS => ?_)
  refine zrLoop (f8_l3_H a1 a2 a3) (f8_l3_X a1 a2 a3) (fun x st r Q h0 hS hQ => f8_l3_ok hd a1 a2 a3 hQ hS h0) (x := (z30, 0)) (z := z76) (by show keepSt _ _ _ _ = _; kernel_rfl) hz76 ?_
  rcases z76 with z77 | z78
  · replace hS := (show _ = _ from hS)
    simp only [Sum.elim_inl] at hS
    intro e st' _ hX
    obtain ⟨rfl, rfl⟩ : _ ∧ _ := hX
    refine zkBlkX ?_
    refine zkSeq ?_
    exact f8_j0_ok hd a1 a2 a3 hQ z77 hS (by kernel_rfl)
  · simp only [Sum.elim_inr] at hS
    intro e st' _ hX
    obtain ⟨rfl, hX⟩ : _ ∧ _ := hX
    refine zkBlkR ?_
    refine zkSeqR ?_
    refine zkNil ?_
    exact endQ hS hQ (fRet ((congrArg (fun s => outR s 0 c8.res) hX).trans (f8_out z78)))
end Go.Proofs.YtanhpibphkblnaaDoor.Pm
