/- Typed functions, and that the codes are these. Printed by dec.py. -/
import Derived.Test.YtakmihemhmdpkaaDoorDPaE
namespace Go.Proofs.YtakmihemhmdpkaaDoor.Pm
set_option maxRecDepth 1000000
set_option maxHeartbeats 20000000
set_option linter.unusedVariables false
/- farwriter/farkeep.ParsePlain -/
def f3_fin (p983 : Bool) : St := ⟨(up (fun _ => .un) 2 (.d (.bool p983))), (hB fun _ => 0)⟩
theorem f3_out (p983 : Bool) : outR (f3_fin p983) 0 c3.res = some ((.d (.bool p983)), []) := by
  kernel_rfl
def f3_Q (r : Bool) (e : PX) (st : St) : Prop := DoneF c3 0 ((.d (.bool r)), []) e st
def f3_j1_J (a1 : List Int) (p1967 : GParser) (p1968 : List GAct) (p1969 : List GAct) : St := ⟨(up (up (up (fun _ => .un) 6 (.r (.msl 56 0 0 p1969.length))) 4 (.r (.msl 104 0 0 p1968.length))) 3 (.r (.ptr 32 0 0))), (up (up (up (hB fun _ => 0) 56 ⟨0, some (.own 31 6 (e_GAct.cells p1969))⟩) 104 ⟨0, some (.own 31 6 (e_GAct.cells p1968))⟩) 32 ⟨0, some (.box ((.d (.int .i64 p1967.State)) :: ((.d (.int .i64 p1967.Mark)) :: ((.d (.str p1967.Inter)) :: ((.d (.str p1967.Args)) :: ((.d (.str p1967.Text)) :: []))))))⟩)⟩
noncomputable def f3_j1 (a1 : List Int) (p1967 : GParser) (p1968 : List GAct) (p1969 : List GAct) : Option (Bool) := (bif (decide (p1967.State = 0) && (decide (p1967.Mark = 0) && (decide (p1967.Inter = ([] : List UInt8)) && (decide (p1967.Args = ([] : List UInt8)) && (decide (p1967.Text = ([] : List UInt8)) && true))))) then ((f13 p1968 p1969).bind fun z36 => (some z36)) else (some false))
theorem f3_j1_ok {d : Nat} (hd : 8 ≤ d) (a1 : List Int) {r : Bool} {Q : PX → St → Prop} (hQ : ∀ e st', f3_Q r e st' → Q e st') (p1967 : GParser) (p1968 : List GAct) (p1969 : List GAct) (hS : f3_j1 a1 p1967 p1968 p1969 = some r) {st : St} (he : keepSt [3, 4, 6] [(32, .id 32), (104, .id 104), (56, .id 56)] [] st = f3_j1_J a1 p1967 p1968 p1969) : ZR (lev codes baseL (d - 1)) Q c3_1 [] st := by
  refine zrKeep he ?_
  unfold f3_j1 at hS
  refine zrSeq ?_
  refine zrReg ?_
  refine zlRun (n := 2) (j := 2) rfl (by kernel_rfl) ?_
  refine zlBool (d := 56) (op := (.eqA .false [(2, .int), (3, .str)] (.tmp 54) (.tmp 55))) (g := none) (j := 3) (decide (p1967.State = 0) && (decide (p1967.Mark = 0) && (decide (p1967.Inter = ([] : List UInt8)) && (decide (p1967.Args = ([] : List UInt8)) && (decide (p1967.Text = ([] : List UInt8)) && true))))) rfl (by kernel_rfl) (by kernel_rfl) (by kernel_rfl) (fun hc => ?_) (fun hc => ?_)
  · replace hS := cond_t hc hS
    refine zlRun (n := 3) (j := 6) rfl (by kernel_rfl) ?_
    refine bindE hS (fun z36 hz36 hS => ?_)
    refine zlOp (d := some 60) (op := (.call 13 [(.tmp 58), (.tmp 59)])) (g := (some (57, true))) (v := (.d (.bool z36))) (ups := []) (j := 7) rfl (by kernel_rfl) (by kernel_rfl) (ev_call (args := [(.r (.msl 104 0 0 p1968.length)), (.r (.msl 56 0 0 p1969.length))]) (l := [(.d (.sl p1968.length (e_GAct.cells p1968))), (.d (.sl p1969.length (e_GAct.cells p1969)))]) (r := (.d (.bool z36))) (by kernel_rfl) (l_cons (l_own e_GAct (e := 31) (k := 6) (xs := p1968) (by kernel_rfl) rfl rfl) (l_cons (l_own e_GAct (e := 31) (k := 6) (xs := p1969) (by kernel_rfl) rfl rfl) l_nil)) (f13_ok (d - 1) (dpt hd rfl) p1968 p1969 z36 hz36) (by kernel_rfl) (by kernel_rfl) (by kernel_rfl)) ?_
    refine zlRun (n := 2) (j := 9) rfl (by kernel_rfl) ?_
    refine zlEnd (by kernel_rfl) ?_
    refine zkSeq ?_
    refine zrRet ?_
    refine zkNil ?_
    exact endQ hS hQ (fRet ((congrArg (fun s => outR s 0 c3.res) (by kernel_rfl : finSt c3.fin _ = f3_fin z36)).trans (f3_out z36)))
  · replace hS := cond_f hc hS
    refine zlRun (n := 6) (j := 9) rfl (by kernel_rfl) ?_
    refine zlEnd (by kernel_rfl) ?_
    refine zkSeq ?_
    refine zrRet ?_
    refine zkNil ?_
    exact endQ hS hQ (fRet ((congrArg (fun s => outR s 0 c3.res) (by kernel_rfl : finSt c3.fin _ = f3_fin false)).trans (f3_out false)))
def f3_l2_J (a1 : List Int) (x : GParser × (List GAct) × (List GAct) × Int) : St := ⟨(up (up (up (up (up (up (fun _ => .un) 24 (.d (.int .i64 x.2.2.2))) 23 (.d (.int .i64 (a1.length : Int)))) 22 (.d (.sl a1.length ((eInt .i64).cells a1)))) 6 (.r (.msl 56 0 0 x.2.2.1.length))) 4 (.r (.msl 104 0 0 x.2.1.length))) 3 (.r (.ptr 32 0 0))), (up (up (up (hB fun _ => 0) 56 ⟨0, some (.own 31 6 (e_GAct.cells x.2.2.1))⟩) 104 ⟨0, some (.own 31 6 (e_GAct.cells x.2.1))⟩) 32 ⟨0, some (.box ((.d (.int .i64 x.1.State)) :: ((.d (.int .i64 x.1.Mark)) :: ((.d (.str x.1.Inter)) :: ((.d (.str x.1.Args)) :: ((.d (.str x.1.Text)) :: []))))))⟩)⟩
def f3_l2_H (a1 : List Int) (x : GParser × (List GAct) × (List GAct) × Int) (st : St) : Prop := keepSt [3, 4, 6, 22, 23, 24] [(32, .id 32), (104, .id 104), (56, .id 56)] [] st = f3_l2_J a1 x
def f3_l2_e0_J (a1 : List Int) (p1964 : GParser) (p1965 : List GAct) (p1966 : List GAct) : St := ⟨(up (up (up (fun _ => .un) 6 (.r (.msl 56 0 0 p1966.length))) 4 (.r (.msl 104 0 0 p1965.length))) 3 (.r (.ptr 32 0 0))), (up (up (up (hB fun _ => 0) 56 ⟨0, some (.own 31 6 (e_GAct.cells p1966))⟩) 104 ⟨0, some (.own 31 6 (e_GAct.cells p1965))⟩) 32 ⟨0, some (.box ((.d (.int .i64 p1964.State)) :: ((.d (.int .i64 p1964.Mark)) :: ((.d (.str p1964.Inter)) :: ((.d (.str p1964.Args)) :: ((.d (.str p1964.Text)) :: []))))))⟩)⟩
def f3_l2_X (a1 : List Int) (z : (GParser × (List GAct) × (List GAct)) ⊕ Bool) (e : PX) (st : St) : Prop := (match z with | .inl z => e = .exit 0 ∧ st = f3_l2_e0_J a1 z.1 z.2.1 z.2.2 | .inr z => e = .ret ∧ finSt c3.fin st = f3_fin z)
def f3_l2_j6_J (a1 : List Int) (p2025 : GParser) (p2026 : List GAct) (p2027 : List GAct) (p2028 : Int) (p2029 : Int) (p2030 : Int) (p2031 : Bool) (p2032 : Int) (p2033 : Int) : St := ⟨(up (up (up (up (up (up (up (up (up (up (up (up (up (up (up (up (up (fun _ => .un) 46 (.d (.bool true))) 45 (.tup [])) 44 (.tup [])) 43 (.d (.bool true))) 42 (.d (.bool true))) 41 (.d (.int .i64 p2033))) 38 (.d (.bool true))) 37 (.d (.int .i64 p2032))) 32 (.d (.bool p2031))) 31 (.d (.int .i64 p2030))) 24 (.d (.int .i64 p2029))) 23 (.d (.int .i64 (a1.length : Int)))) 22 (.d (.sl a1.length ((eInt .i64).cells a1)))) 8 (.d (.int .i64 p2028))) 6 (.r (.msl 56 0 0 p2027.length))) 4 (.r (.msl 104 0 0 p2026.length))) 3 (.r (.ptr 32 0 0))), (up (up (up (hB fun _ => 0) 56 ⟨0, some (.own 31 6 (e_GAct.cells p2027))⟩) 104 ⟨0, some (.own 31 6 (e_GAct.cells p2026))⟩) 32 ⟨0, some (.box ((.d (.int .i64 p2025.State)) :: ((.d (.int .i64 p2025.Mark)) :: ((.d (.str p2025.Inter)) :: ((.d (.str p2025.Args)) :: ((.d (.str p2025.Text)) :: []))))))⟩)⟩
noncomputable def f3_l2_j6 (a1 : List Int) (p2025 : GParser) (p2026 : List GAct) (p2027 : List GAct) (p2028 : Int) (p2029 : Int) (p2030 : Int) (p2031 : Bool) (p2032 : Int) (p2033 : Int) : Option ((GParser × (List GAct) × (List GAct) × Int) ⊕ ((GParser × (List GAct) × (List GAct)) ⊕ Bool)) := ((app? 80 p2027 ([(GAct.mk 1 p2028 0 ([]) ([]) ([]))] : List GAct)).bind fun z38 => (some (.inl (p2025, p2026, z38, (IntKind.i64.wrap (p2029 + 1))))))
theorem f3_l2_j6_ok {d : Nat} (hd : 8 ≤ d) (a1 : List Int) {r : (GParser × (List GAct) × (List GAct) × Int) ⊕ ((GParser × (List GAct) × (List GAct)) ⊕ Bool)} {Q : PX → St → Prop} (hQ : ∀ e st', finL (f3_l2_H a1) (f3_l2_X a1) r e st' → Q e st') (p2025 : GParser) (p2026 : List GAct) (p2027 : List GAct) (p2028 : Int) (p2029 : Int) (p2030 : Int) (p2031 : Bool) (p2032 : Int) (p2033 : Int) (hS : f3_l2_j6 a1 p2025 p2026 p2027 p2028 p2029 p2030 p2031 p2032 p2033 = some r) {st : St} (he : keepSt [3, 4, 6, 8, 22, 23, 24, 31, 32, 37, 38, 41, 42, 43, 44, 45, 46] [(32, .id 32), (104, .id 104), (56, .id 56)] [] st = f3_l2_j6_J a1 p2025 p2026 p2027 p2028 p2029 p2030 p2031 p2032 p2033) : ZR (lev codes baseL (d - 1)) Q c3_2 [.blk 1, .seq c3_3] st := by
  refine zrKeep he ?_
  unfold f3_l2_j6 at hS
  refine zrReg ?_
  refine zlRun (n := 4) (j := 4) rfl (by kernel_rfl) ?_
  refine bindE hS (fun z38 hz38 hS => ?_)
  refine zlOp (d := some 52) (op := (.app 31 6 80 (.tmp 48) (.tmp 51))) (g := none) (v := (.r (.msl 56 1 0 z38.length))) (ups := [(56, ⟨1, some (.own 31 6 (e_GAct.cells z38))⟩)]) (j := 5) rfl (by kernel_rfl) (by kernel_rfl) (ev_app e_GAct (b := 56) (g := 0) (n := p2027.length) (xs := p2027) (ys := [(GAct.mk 1 p2028 0 ([]) ([]) ([]))]) ((congrArg (asL _) (by kernel_rfl : ρof _ (.tmp 51) = (.r (.msl 416 1 0 (([(GAct.mk 1 p2028 0 ([]) ([]) ([]))] : List GAct).length))))).trans (as_whole e_GAct (e := 31) (k := 6) (xs := [(GAct.mk 1 p2028 0 ([]) ([]) ([]))]) (by kernel_rfl) rfl rfl)) rfl (by kernel_rfl) rfl (by kernel_rfl) rfl hz38) ?_
  refine zlRun (n := 1) (j := 6) rfl (by kernel_rfl) ?_
  refine zlEnd (by kernel_rfl) ?_
  refine zkBlk ?_
  refine zkSeq ?_
  refine zrReg ?_
  refine zlRun (n := 2) (j := 2) rfl (by kernel_rfl) ?_
  refine zlEnd (by kernel_rfl) ?_
  refine zkNil ?_
  exact endQ hS hQ (finL_n (by show keepSt _ _ _ _ = _; kernel_rfl))
def f3_l2_j7_J (a1 : List Int) (p2034 : GParser) (p2035 : List GAct) (p2036 : List GAct) (p2037 : Int) (p2038 : Int) (p2039 : Int) (p2040 : Bool) (p2041 : Int) (p2042 : Int) (p2043 : Int) : St := ⟨(up (up (up (up (up (up (up (up (up (up (up (up (up (up (up (up (up (fun _ => .un) 46 (.d (.bool true))) 45 (.d (.bool true))) 44 (.d (.int .i64 p2043))) 43 (.d (.bool false))) 42 (.d (.bool false))) 41 (.d (.int .i64 p2042))) 38 (.d (.bool true))) 37 (.d (.int .i64 p2041))) 32 (.d (.bool p2040))) 31 (.d (.int .i64 p2039))) 24 (.d (.int .i64 p2038))) 23 (.d (.int .i64 (a1.length : Int)))) 22 (.d (.sl a1.length ((eInt .i64).cells a1)))) 8 (.d (.int .i64 p2037))) 6 (.r (.msl 56 0 0 p2036.length))) 4 (.r (.msl 104 0 0 p2035.length))) 3 (.r (.ptr 32 0 0))), (up (up (up (hB fun _ => 0) 56 ⟨0, some (.own 31 6 (e_GAct.cells p2036))⟩) 104 ⟨0, some (.own 31 6 (e_GAct.cells p2035))⟩) 32 ⟨0, some (.box ((.d (.int .i64 p2034.State)) :: ((.d (.int .i64 p2034.Mark)) :: ((.d (.str p2034.Inter)) :: ((.d (.str p2034.Args)) :: ((.d (.str p2034.Text)) :: []))))))⟩)⟩
noncomputable def f3_l2_j7 (a1 : List Int) (p2034 : GParser) (p2035 : List GAct) (p2036 : List GAct) (p2037 : Int) (p2038 : Int) (p2039 : Int) (p2040 : Bool) (p2041 : Int) (p2042 : Int) (p2043 : Int) : Option ((GParser × (List GAct) × (List GAct) × Int) ⊕ ((GParser × (List GAct) × (List GAct)) ⊕ Bool)) := ((app? 80 p2036 ([(GAct.mk 1 p2037 0 ([]) ([]) ([]))] : List GAct)).bind fun z39 => (some (.inl (p2034, p2035, z39, (IntKind.i64.wrap (p2038 + 1))))))
theorem f3_l2_j7_ok {d : Nat} (hd : 8 ≤ d) (a1 : List Int) {r : (GParser × (List GAct) × (List GAct) × Int) ⊕ ((GParser × (List GAct) × (List GAct)) ⊕ Bool)} {Q : PX → St → Prop} (hQ : ∀ e st', finL (f3_l2_H a1) (f3_l2_X a1) r e st' → Q e st') (p2034 : GParser) (p2035 : List GAct) (p2036 : List GAct) (p2037 : Int) (p2038 : Int) (p2039 : Int) (p2040 : Bool) (p2041 : Int) (p2042 : Int) (p2043 : Int) (hS : f3_l2_j7 a1 p2034 p2035 p2036 p2037 p2038 p2039 p2040 p2041 p2042 p2043 = some r) {st : St} (he : keepSt [3, 4, 6, 8, 22, 23, 24, 31, 32, 37, 38, 41, 42, 43, 44, 45, 46] [(32, .id 32), (104, .id 104), (56, .id 56)] [] st = f3_l2_j7_J a1 p2034 p2035 p2036 p2037 p2038 p2039 p2040 p2041 p2042 p2043) : ZR (lev codes baseL (d - 1)) Q c3_2 [.blk 1, .seq c3_3] st := by
  refine zrKeep he ?_
  unfold f3_l2_j7 at hS
  refine zrReg ?_
  refine zlRun (n := 4) (j := 4) rfl (by kernel_rfl) ?_
  refine bindE hS (fun z39 hz39 hS => ?_)
  refine zlOp (d := some 52) (op := (.app 31 6 80 (.tmp 48) (.tmp 51))) (g := none) (v := (.r (.msl 56 1 0 z39.length))) (ups := [(56, ⟨1, some (.own 31 6 (e_GAct.cells z39))⟩)]) (j := 5) rfl (by kernel_rfl) (by kernel_rfl) (ev_app e_GAct (b := 56) (g := 0) (n := p2036.length) (xs := p2036) (ys := [(GAct.mk 1 p2037 0 ([]) ([]) ([]))]) ((congrArg (asL _) (by kernel_rfl : ρof _ (.tmp 51) = (.r (.msl 416 1 0 (([(GAct.mk 1 p2037 0 ([]) ([]) ([]))] : List GAct).length))))).trans (as_whole e_GAct (e := 31) (k := 6) (xs := [(GAct.mk 1 p2037 0 ([]) ([]) ([]))]) (by kernel_rfl) rfl rfl)) rfl (by kernel_rfl) rfl (by kernel_rfl) rfl hz39) ?_
  refine zlRun (n := 1) (j := 6) rfl (by kernel_rfl) ?_
  refine zlEnd (by kernel_rfl) ?_
  refine zkBlk ?_
  refine zkSeq ?_
  refine zrReg ?_
  refine zlRun (n := 2) (j := 2) rfl (by kernel_rfl) ?_
  refine zlEnd (by kernel_rfl) ?_
  refine zkNil ?_
  exact endQ hS hQ (finL_n (by show keepSt _ _ _ _ = _; kernel_rfl))
def f3_l2_j5_J (a1 : List Int) (p2002 : GParser) (p2003 : List GAct) (p2004 : List GAct) (p2005 : Int) (p2006 : Int) (p2007 : Int) (p2008 : Bool) : St := ⟨(up (up (up (up (up (up (up (up (up (fun _ => .un) 32 (.d (.bool p2008))) 31 (.d (.int .i64 p2007))) 24 (.d (.int .i64 p2006))) 23 (.d (.int .i64 (a1.length : Int)))) 22 (.d (.sl a1.length ((eInt .i64).cells a1)))) 8 (.d (.int .i64 p2005))) 6 (.r (.msl 56 0 0 p2004.length))) 4 (.r (.msl 104 0 0 p2003.length))) 3 (.r (.ptr 32 0 0))), (up (up (up (hB fun _ => 0) 56 ⟨0, some (.own 31 6 (e_GAct.cells p2004))⟩) 104 ⟨0, some (.own 31 6 (e_GAct.cells p2003))⟩) 32 ⟨0, some (.box ((.d (.int .i64 p2002.State)) :: ((.d (.int .i64 p2002.Mark)) :: ((.d (.str p2002.Inter)) :: ((.d (.str p2002.Args)) :: ((.d (.str p2002.Text)) :: []))))))⟩)⟩
noncomputable def f3_l2_j5 (a1 : List Int) (p2002 : GParser) (p2003 : List GAct) (p2004 : List GAct) (p2005 : Int) (p2006 : Int) (p2007 : Int) (p2008 : Bool) : Option ((GParser × (List GAct) × (List GAct) × Int) ⊕ ((GParser × (List GAct) × (List GAct)) ⊕ Bool)) := (bif (decide (32 ≤ p2005)) then (bif (decide (p2005 ≤ 1114111)) then (bif (decide (p2005 < 127)) then (f3_l2_j6 a1 p2002 p2003 p2004 p2005 p2006 p2007 p2008 p2005 p2005) else (bif (decide (160 ≤ p2005)) then (f3_l2_j7 a1 p2002 p2003 p2004 p2005 p2006 p2007 p2008 p2005 p2005 p2005) else (some (.inl (p2002, p2003, p2004, (IntKind.i64.wrap (p2006 + 1))))))) else (some (.inl (p2002, p2003, p2004, (IntKind.i64.wrap (p2006 + 1)))))) else (some (.inl (p2002, p2003, p2004, (IntKind.i64.wrap (p2006 + 1))))))
theorem f3_l2_j5_ok {d : Nat} (hd : 8 ≤ d) (a1 : List Int) {r : (GParser × (List GAct) × (List GAct) × Int) ⊕ ((GParser × (List GAct) × (List GAct)) ⊕ Bool)} {Q : PX → St → Prop} (hQ : ∀ e st', finL (f3_l2_H a1) (f3_l2_X a1) r e st' → Q e st') (p2002 : GParser) (p2003 : List GAct) (p2004 : List GAct) (p2005 : Int) (p2006 : Int) (p2007 : Int) (p2008 : Bool) (hS : f3_l2_j5 a1 p2002 p2003 p2004 p2005 p2006 p2007 p2008 = some r) {st : St} (he : keepSt [3, 4, 6, 8, 22, 23, 24, 31, 32] [(32, .id 32), (104, .id 104), (56, .id 56)] [] st = f3_l2_j5_J a1 p2002 p2003 p2004 p2005 p2006 p2007 p2008) : ZR (lev codes baseL (d - 1)) Q c3_4 [.blk 1, .seq c3_3] st := by
  refine zrKeep he ?_
  unfold f3_l2_j5 at hS
  refine zrSeq ?_
  refine zrReg ?_
  refine zlRun (n := 1) (j := 1) rfl (by kernel_rfl) ?_
  refine zlBool (d := 35) (op := (.cmpI .geq (.tmp 34) (.const (.int .i64 32)))) (g := none) (j := 2) (decide (32 ≤ p2005)) rfl (by kernel_rfl) (by kernel_rfl) (by kernel_rfl) (fun hc => ?_) (fun hc => ?_)
  · replace hS := cond_t hc hS
    refine zlRun (n := 2) (j := 4) rfl (by kernel_rfl) ?_
    refine zlBool (d := 38) (op := (.cmpI .leq (.tmp 37) (.const (.int .i64 1114111)))) (g := (some (36, true))) (j := 5) (decide (p2005 ≤ 1114111)) rfl (by kernel_rfl) (by kernel_rfl) (by kernel_rfl) (fun hc => ?_) (fun hc => ?_)
    · replace hS := cond_t hc hS
      refine zlRun (n := 3) (j := 8) rfl (by kernel_rfl) ?_
      refine zlBool (d := 42) (op := (.cmpI .lss (.tmp 41) (.const (.int .i64 127)))) (g := (some (40, true))) (j := 9) (decide (p2005 < 127)) rfl (by kernel_rfl) (by kernel_rfl) (by kernel_rfl) (fun hc => ?_) (fun hc => ?_)
      · replace hS := cond_t hc hS
        refine zlRun (n := 5) (j := 14) rfl (by kernel_rfl) ?_
        refine zlEnd (by kernel_rfl) ?_
        refine zkSeq ?_
        refine zrCondT (by kernel_rfl) ?_
        exact f3_l2_j6_ok hd a1 hQ p2002 p2003 p2004 p2005 p2006 p2007 p2008 p2005 p2005 hS (by kernel_rfl)
      · replace hS := cond_f hc hS
        refine zlRun (n := 2) (j := 11) rfl (by kernel_rfl) ?_
        refine zlBool (d := 45) (op := (.cmpI .geq (.tmp 44) (.const (.int .i64 160)))) (g := (some (43, false))) (j := 12) (decide (160 ≤ p2005)) rfl (by kernel_rfl) (by kernel_rfl) (by kernel_rfl) (fun hc => ?_) (fun hc => ?_)
        · replace hS := cond_t hc hS
          refine zlRun (n := 2) (j := 14) rfl (by kernel_rfl) ?_
          refine zlEnd (by kernel_rfl) ?_
          refine zkSeq ?_
          refine zrCondT (by kernel_rfl) ?_
          exact f3_l2_j7_ok hd a1 hQ p2002 p2003 p2004 p2005 p2006 p2007 p2008 p2005 p2005 p2005 hS (by kernel_rfl)
        · replace hS := cond_f hc hS
          refine zlRun (n := 2) (j := 14) rfl (by kernel_rfl) ?_
          refine zlEnd (by kernel_rfl) ?_
          refine zkSeq ?_
          refine zrCondF (by kernel_rfl) ?_
          refine zrSkip ?_
          refine zkBlk ?_
          refine zkSeq ?_
          refine zrReg ?_
          refine zlRun (n := 2) (j := 2) rfl (by kernel_rfl) ?_
          refine zlEnd (by kernel_rfl) ?_
          refine zkNil ?_
          exact endQ hS hQ (finL_n (by show keepSt _ _ _ _ = _; kernel_rfl))
    · replace hS := cond_f hc hS
      refine zlRun (n := 9) (j := 14) rfl (by kernel_rfl) ?_
      refine zlEnd (by kernel_rfl) ?_
      refine zkSeq ?_
      refine zrCondF (by kernel_rfl) ?_
      refine zrSkip ?_
      refine zkBlk ?_
      refine zkSeq ?_
      refine zrReg ?_
      refine zlRun (n := 2) (j := 2) rfl (by kernel_rfl) ?_
      refine zlEnd (by kernel_rfl) ?_
      refine zkNil ?_
      exact endQ hS hQ (finL_n (by show keepSt _ _ _ _ = _; kernel_rfl))
  · replace hS := cond_f hc hS
    refine zlRun (n := 12) (j := 14) rfl (by kernel_rfl) ?_
    refine zlEnd (by kernel_rfl) ?_
    refine zkSeq ?_
    refine zrCondF (by kernel_rfl) ?_
    refine zrSkip ?_
    refine zkBlk ?_
    refine zkSeq ?_
    refine zrReg ?_
    refine zlRun (n := 2) (j := 2) rfl (by kernel_rfl) ?_
    refine zlEnd (by kernel_rfl) ?_
    refine zkNil ?_
    exact endQ hS hQ (finL_n (by show keepSt _ _ _ _ = _; kernel_rfl))
def f3_l2_j9_J (a1 : List Int) (p2053 : GParser) (p2054 : List GAct) (p2055 : List GAct) (p2056 : Int) (p2057 : Int) (p2058 : Int) (p2059 : Int) : St := ⟨(up (up (up (up (up (up (up (up (up (up (up (up (up (up (up (up (up (fun _ => .un) 46 (.d (.bool true))) 45 (.tup [])) 44 (.tup [])) 43 (.d (.bool true))) 42 (.d (.bool true))) 41 (.d (.int .i64 p2059))) 38 (.d (.bool true))) 37 (.d (.int .i64 p2058))) 32 (.tup [])) 31 (.tup [])) 24 (.d (.int .i64 p2057))) 23 (.d (.int .i64 (a1.length : Int)))) 22 (.d (.sl a1.length ((eInt .i64).cells a1)))) 8 (.d (.int .i64 p2056))) 6 (.r (.msl 56 0 0 p2055.length))) 4 (.r (.msl 104 0 0 p2054.length))) 3 (.r (.ptr 32 0 0))), (up (up (up (hB fun _ => 0) 56 ⟨0, some (.own 31 6 (e_GAct.cells p2055))⟩) 104 ⟨0, some (.own 31 6 (e_GAct.cells p2054))⟩) 32 ⟨0, some (.box ((.d (.int .i64 p2053.State)) :: ((.d (.int .i64 p2053.Mark)) :: ((.d (.str p2053.Inter)) :: ((.d (.str p2053.Args)) :: ((.d (.str p2053.Text)) :: []))))))⟩)⟩
noncomputable def f3_l2_j9 (a1 : List Int) (p2053 : GParser) (p2054 : List GAct) (p2055 : List GAct) (p2056 : Int) (p2057 : Int) (p2058 : Int) (p2059 : Int) : Option ((GParser × (List GAct) × (List GAct) × Int) ⊕ ((GParser × (List GAct) × (List GAct)) ⊕ Bool)) := ((app? 80 p2055 ([(GAct.mk 1 p2056 0 ([]) ([]) ([]))] : List GAct)).bind fun z40 => (some (.inl (p2053, p2054, z40, (IntKind.i64.wrap (p2057 + 1))))))
theorem f3_l2_j9_ok {d : Nat} (hd : 8 ≤ d) (a1 : List Int) {r : (GParser × (List GAct) × (List GAct) × Int) ⊕ ((GParser × (List GAct) × (List GAct)) ⊕ Bool)} {Q : PX → St → Prop} (hQ : ∀ e st', finL (f3_l2_H a1) (f3_l2_X a1) r e st' → Q e st') (p2053 : GParser) (p2054 : List GAct) (p2055 : List GAct) (p2056 : Int) (p2057 : Int) (p2058 : Int) (p2059 : Int) (hS : f3_l2_j9 a1 p2053 p2054 p2055 p2056 p2057 p2058 p2059 = some r) {st : St} (he : keepSt [3, 4, 6, 8, 22, 23, 24, 31, 32, 37, 38, 41, 42, 43, 44, 45, 46] [(32, .id 32), (104, .id 104), (56, .id 56)] [] st = f3_l2_j9_J a1 p2053 p2054 p2055 p2056 p2057 p2058 p2059) : ZR (lev codes baseL (d - 1)) Q c3_2 [.blk 1, .seq c3_3] st := by
  refine zrKeep he ?_
  unfold f3_l2_j9 at hS
  refine zrReg ?_
  refine zlRun (n := 4) (j := 4) rfl (by kernel_rfl) ?_
  refine bindE hS (fun z40 hz40 hS => ?_)
  refine zlOp (d := some 52) (op := (.app 31 6 80 (.tmp 48) (.tmp 51))) (g := none) (v := (.r (.msl 56 1 0 z40.length))) (ups := [(56, ⟨1, some (.own 31 6 (e_GAct.cells z40))⟩)]) (j := 5) rfl (by kernel_rfl) (by kernel_rfl) (ev_app e_GAct (b := 56) (g := 0) (n := p2055.length) (xs := p2055) (ys := [(GAct.mk 1 p2056 0 ([]) ([]) ([]))]) ((congrArg (asL _) (by kernel_rfl : ρof _ (.tmp 51) = (.r (.msl 416 1 0 (([(GAct.mk 1 p2056 0 ([]) ([]) ([]))] : List GAct).length))))).trans (as_whole e_GAct (e := 31) (k := 6) (xs := [(GAct.mk 1 p2056 0 ([]) ([]) ([]))]) (by kernel_rfl) rfl rfl)) rfl (by kernel_rfl) rfl (by kernel_rfl) rfl hz40) ?_
  refine zlRun (n := 1) (j := 6) rfl (by kernel_rfl) ?_
  refine zlEnd (by kernel_rfl) ?_
  refine zkBlk ?_
  refine zkSeq ?_
  refine zrReg ?_
  refine zlRun (n := 2) (j := 2) rfl (by kernel_rfl) ?_
  refine zlEnd (by kernel_rfl) ?_
  refine zkNil ?_
  exact endQ hS hQ (finL_n (by show keepSt _ _ _ _ = _; kernel_rfl))
def f3_l2_j10_J (a1 : List Int) (p2060 : GParser) (p2061 : List GAct) (p2062 : List GAct) (p2063 : Int) (p2064 : Int) (p2065 : Int) (p2066 : Int) (p2067 : Int) : St := ⟨(up (up (up (up (up (up (up (up (up (up (up (up (up (up (up (up (up (fun _ => .un) 46 (.d (.bool true))) 45 (.d (.bool true))) 44 (.d (.int .i64 p2067))) 43 (.d (.bool false))) 42 (.d (.bool false))) 41 (.d (.int .i64 p2066))) 38 (.d (.bool true))) 37 (.d (.int .i64 p2065))) 32 (.tup [])) 31 (.tup [])) 24 (.d (.int .i64 p2064))) 23 (.d (.int .i64 (a1.length : Int)))) 22 (.d (.sl a1.length ((eInt .i64).cells a1)))) 8 (.d (.int .i64 p2063))) 6 (.r (.msl 56 0 0 p2062.length))) 4 (.r (.msl 104 0 0 p2061.length))) 3 (.r (.ptr 32 0 0))), (up (up (up (hB fun _ => 0) 56 ⟨0, some (.own 31 6 (e_GAct.cells p2062))⟩) 104 ⟨0, some (.own 31 6 (e_GAct.cells p2061))⟩) 32 ⟨0, some (.box ((.d (.int .i64 p2060.State)) :: ((.d (.int .i64 p2060.Mark)) :: ((.d (.str p2060.Inter)) :: ((.d (.str p2060.Args)) :: ((.d (.str p2060.Text)) :: []))))))⟩)⟩
noncomputable def f3_l2_j10 (a1 : List Int) (p2060 : GParser) (p2061 : List GAct) (p2062 : List GAct) (p2063 : Int) (p2064 : Int) (p2065 : Int) (p2066 : Int) (p2067 : Int) : Option ((GParser × (List GAct) × (List GAct) × Int) ⊕ ((GParser × (List GAct) × (List GAct)) ⊕ Bool)) := ((app? 80 p2062 ([(GAct.mk 1 p2063 0 ([]) ([]) ([]))] : List GAct)).bind fun z41 => (some (.inl (p2060, p2061, z41, (IntKind.i64.wrap (p2064 + 1))))))
theorem f3_l2_j10_ok {d : Nat} (hd : 8 ≤ d) (a1 : List Int) {r : (GParser × (List GAct) × (List GAct) × Int) ⊕ ((GParser × (List GAct) × (List GAct)) ⊕ Bool)} {Q : PX → St → Prop} (hQ : ∀ e st', finL (f3_l2_H a1) (f3_l2_X a1) r e st' → Q e st') (p2060 : GParser) (p2061 : List GAct) (p2062 : List GAct) (p2063 : Int) (p2064 : Int) (p2065 : Int) (p2066 : Int) (p2067 : Int) (hS : f3_l2_j10 a1 p2060 p2061 p2062 p2063 p2064 p2065 p2066 p2067 = some r) {st : St} (he : keepSt [3, 4, 6, 8, 22, 23, 24, 31, 32, 37, 38, 41, 42, 43, 44, 45, 46] [(32, .id 32), (104, .id 104), (56, .id 56)] [] st = f3_l2_j10_J a1 p2060 p2061 p2062 p2063 p2064 p2065 p2066 p2067) : ZR (lev codes baseL (d - 1)) Q c3_2 [.blk 1, .seq c3_3] st := by
  refine zrKeep he ?_
  unfold f3_l2_j10 at hS
  refine zrReg ?_
  refine zlRun (n := 4) (j := 4) rfl (by kernel_rfl) ?_
  refine bindE hS (fun z41 hz41 hS => ?_)
  refine zlOp (d := some 52) (op := (.app 31 6 80 (.tmp 48) (.tmp 51))) (g := none) (v := (.r (.msl 56 1 0 z41.length))) (ups := [(56, ⟨1, some (.own 31 6 (e_GAct.cells z41))⟩)]) (j := 5) rfl (by kernel_rfl) (by kernel_rfl) (ev_app e_GAct (b := 56) (g := 0) (n := p2062.length) (xs := p2062) (ys := [(GAct.mk 1 p2063 0 ([]) ([]) ([]))]) ((congrArg (asL _) (by kernel_rfl : ρof _ (.tmp 51) = (.r (.msl 416 1 0 (([(GAct.mk 1 p2063 0 ([]) ([]) ([]))] : List GAct).length))))).trans (as_whole e_GAct (e := 31) (k := 6) (xs := [(GAct.mk 1 p2063 0 ([]) ([]) ([]))]) (by kernel_rfl) rfl rfl)) rfl (by kernel_rfl) rfl (by kernel_rfl) rfl hz41) ?_
  refine zlRun (n := 1) (j := 6) rfl (by kernel_rfl) ?_
  refine zlEnd (by kernel_rfl) ?_
  refine zkBlk ?_
  refine zkSeq ?_
  refine zrReg ?_
  refine zlRun (n := 2) (j := 2) rfl (by kernel_rfl) ?_
  refine zlEnd (by kernel_rfl) ?_
  refine zkNil ?_
  exact endQ hS hQ (finL_n (by show keepSt _ _ _ _ = _; kernel_rfl))
def f3_l2_j8_J (a1 : List Int) (p2009 : GParser) (p2010 : List GAct) (p2011 : List GAct) (p2012 : Int) (p2013 : Int) : St := ⟨(up (up (up (up (up (up (up (up (up (fun _ => .un) 32 (.tup [])) 31 (.tup [])) 24 (.d (.int .i64 p2013))) 23 (.d (.int .i64 (a1.length : Int)))) 22 (.d (.sl a1.length ((eInt .i64).cells a1)))) 8 (.d (.int .i64 p2012))) 6 (.r (.msl 56 0 0 p2011.length))) 4 (.r (.msl 104 0 0 p2010.length))) 3 (.r (.ptr 32 0 0))), (up (up (up (hB fun _ => 0) 56 ⟨0, some (.own 31 6 (e_GAct.cells p2011))⟩) 104 ⟨0, some (.own 31 6 (e_GAct.cells p2010))⟩) 32 ⟨0, some (.box ((.d (.int .i64 p2009.State)) :: ((.d (.int .i64 p2009.Mark)) :: ((.d (.str p2009.Inter)) :: ((.d (.str p2009.Args)) :: ((.d (.str p2009.Text)) :: []))))))⟩)⟩
noncomputable def f3_l2_j8 (a1 : List Int) (p2009 : GParser) (p2010 : List GAct) (p2011 : List GAct) (p2012 : Int) (p2013 : Int) : Option ((GParser × (List GAct) × (List GAct) × Int) ⊕ ((GParser × (List GAct) × (List GAct)) ⊕ Bool)) := (bif (decide (32 ≤ p2012)) then (bif (decide (p2012 ≤ 1114111)) then (bif (decide (p2012 < 127)) then (f3_l2_j9 a1 p2009 p2010 p2011 p2012 p2013 p2012 p2012) else (bif (decide (160 ≤ p2012)) then (f3_l2_j10 a1 p2009 p2010 p2011 p2012 p2013 p2012 p2012 p2012) else (some (.inl (p2009, p2010, p2011, (IntKind.i64.wrap (p2013 + 1))))))) else (some (.inl (p2009, p2010, p2011, (IntKind.i64.wrap (p2013 + 1)))))) else (some (.inl (p2009, p2010, p2011, (IntKind.i64.wrap (p2013 + 1))))))
theorem f3_l2_j8_ok {d : Nat} (hd : 8 ≤ d) (a1 : List Int) {r : (GParser × (List GAct) × (List GAct) × Int) ⊕ ((GParser × (List GAct) × (List GAct)) ⊕ Bool)} {Q : PX → St → Prop} (hQ : ∀ e st', finL (f3_l2_H a1) (f3_l2_X a1) r e st' → Q e st') (p2009 : GParser) (p2010 : List GAct) (p2011 : List GAct) (p2012 : Int) (p2013 : Int) (hS : f3_l2_j8 a1 p2009 p2010 p2011 p2012 p2013 = some r) {st : St} (he : keepSt [3, 4, 6, 8, 22, 23, 24, 31, 32] [(32, .id 32), (104, .id 104), (56, .id 56)] [] st = f3_l2_j8_J a1 p2009 p2010 p2011 p2012 p2013) : ZR (lev codes baseL (d - 1)) Q c3_4 [.blk 1, .seq c3_3] st := by
  refine zrKeep he ?_
  unfold f3_l2_j8 at hS
  refine zrSeq ?_
  refine zrReg ?_
  refine zlRun (n := 1) (j := 1) rfl (by kernel_rfl) ?_
  refine zlBool (d := 35) (op := (.cmpI .geq (.tmp 34) (.const (.int .i64 32)))) (g := none) (j := 2) (decide (32 ≤ p2012)) rfl (by kernel_rfl) (by kernel_rfl) (by kernel_rfl) (fun hc => ?_) (fun hc => ?_)
  · replace hS := cond_t hc hS
    refine zlRun (n := 2) (j := 4) rfl (by kernel_rfl) ?_
    refine zlBool (d := 38) (op := (.cmpI .leq (.tmp 37) (.const (.int .i64 1114111)))) (g := (some (36, true))) (j := 5) (decide (p2012 ≤ 1114111)) rfl (by kernel_rfl) (by kernel_rfl) (by kernel_rfl) (fun hc => ?_) (fun hc => ?_)
    · replace hS := cond_t hc hS
      refine zlRun (n := 3) (j := 8) rfl (by kernel_rfl) ?_
      refine zlBool (d := 42) (op := (.cmpI .lss (.tmp 41) (.const (.int .i64 127)))) (g := (some (40, true))) (j := 9) (decide (p2012 < 127)) rfl (by kernel_rfl) (by kernel_rfl) (by kernel_rfl) (fun hc => ?_) (fun hc => ?_)
      · replace hS := cond_t hc hS
        refine zlRun (n := 5) (j := 14) rfl (by kernel_rfl) ?_
        refine zlEnd (by kernel_rfl) ?_
        refine zkSeq ?_
        refine zrCondT (by kernel_rfl) ?_
        exact f3_l2_j9_ok hd a1 hQ p2009 p2010 p2011 p2012 p2013 p2012 p2012 hS (by kernel_rfl)
      · replace hS := cond_f hc hS
        refine zlRun (n := 2) (j := 11) rfl (by kernel_rfl) ?_
        refine zlBool (d := 45) (op := (.cmpI .geq (.tmp 44) (.const (.int .i64 160)))) (g := (some (43, false))) (j := 12) (decide (160 ≤ p2012)) rfl (by kernel_rfl) (by kernel_rfl) (by kernel_rfl) (fun hc => ?_) (fun hc => ?_)
        · replace hS := cond_t hc hS
          refine zlRun (n := 2) (j := 14) rfl (by kernel_rfl) ?_
          refine zlEnd (by kernel_rfl) ?_
          refine zkSeq ?_
          refine zrCondT (by kernel_rfl) ?_
          exact f3_l2_j10_ok hd a1 hQ p2009 p2010 p2011 p2012 p2013 p2012 p2012 p2012 hS (by kernel_rfl)
        · replace hS := cond_f hc hS
          refine zlRun (n := 2) (j := 14) rfl (by kernel_rfl) ?_
          refine zlEnd (by kernel_rfl) ?_
          refine zkSeq ?_
          refine zrCondF (by kernel_rfl) ?_
          refine zrSkip ?_
          refine zkBlk ?_
          refine zkSeq ?_
          refine zrReg ?_
          refine zlRun (n := 2) (j := 2) rfl (by kernel_rfl) ?_
          refine zlEnd (by kernel_rfl) ?_
          refine zkNil ?_
          exact endQ hS hQ (finL_n (by show keepSt _ _ _ _ = _; kernel_rfl))
    · replace hS := cond_f hc hS
      refine zlRun (n := 9) (j := 14) rfl (by kernel_rfl) ?_
      refine zlEnd (by kernel_rfl) ?_
      refine zkSeq ?_
      refine zrCondF (by kernel_rfl) ?_
      refine zrSkip ?_
      refine zkBlk ?_
      refine zkSeq ?_
      refine zrReg ?_
      refine zlRun (n := 2) (j := 2) rfl (by kernel_rfl) ?_
      refine zlEnd (by kernel_rfl) ?_
      refine zkNil ?_
      exact endQ hS hQ (finL_n (by show keepSt _ _ _ _ = _; kernel_rfl))
  · replace hS := cond_f hc hS
    refine zlRun (n := 12) (j := 14) rfl (by kernel_rfl) ?_
    refine zlEnd (by kernel_rfl) ?_
    refine zkSeq ?_
    refine zrCondF (by kernel_rfl) ?_
    refine zrSkip ?_
    refine zkBlk ?_
    refine zkSeq ?_
    refine zrReg ?_
    refine zlRun (n := 2) (j := 2) rfl (by kernel_rfl) ?_
    refine zlEnd (by kernel_rfl) ?_
    refine zkNil ?_
    exact endQ hS hQ (finL_n (by show keepSt _ _ _ _ = _; kernel_rfl))
def f3_l2_j4_J (a1 : List Int) (p1980 : GParser) (p1981 : List GAct) (p1982 : List GAct) (p1983 : Int) : St := ⟨(up (up (up (up (up (up (fun _ => .un) 24 (.d (.int .i64 p1983))) 23 (.d (.int .i64 (a1.length : Int)))) 22 (.d (.sl a1.length ((eInt .i64).cells a1)))) 6 (.r (.msl 56 0 0 p1982.length))) 4 (.r (.msl 104 0 0 p1981.length))) 3 (.r (.ptr 32 0 0))), (up (up (up (hB fun _ => 0) 56 ⟨0, some (.own 31 6 (e_GAct.cells p1982))⟩) 104 ⟨0, some (.own 31 6 (e_GAct.cells p1981))⟩) 32 ⟨0, some (.box ((.d (.int .i64 p1980.State)) :: ((.d (.int .i64 p1980.Mark)) :: ((.d (.str p1980.Inter)) :: ((.d (.str p1980.Args)) :: ((.d (.str p1980.Text)) :: []))))))⟩)⟩
noncomputable def f3_l2_j4 (a1 : List Int) (p1980 : GParser) (p1981 : List GAct) (p1982 : List GAct) (p1983 : Int) : Option ((GParser × (List GAct) × (List GAct) × Int) ⊕ ((GParser × (List GAct) × (List GAct)) ⊕ Bool)) := ((idx a1 p1983).bind fun z37 => (bif (decide (0 ≤ z37)) then (bif (decide (z37 < 32)) then (some (.inr (.inr true))) else (f3_l2_j5 a1 p1980 p1981 p1982 z37 p1983 z37 false)) else (f3_l2_j8 a1 p1980 p1981 p1982 z37 p1983)))
theorem f3_l2_j4_ok {d : Nat} (hd : 8 ≤ d) (a1 : List Int) {r : (GParser × (List GAct) × (List GAct) × Int) ⊕ ((GParser × (List GAct) × (List GAct)) ⊕ Bool)} {Q : PX → St → Prop} (hQ : ∀ e st', finL (f3_l2_H a1) (f3_l2_X a1) r e st' → Q e st') (p1980 : GParser) (p1981 : List GAct) (p1982 : List GAct) (p1983 : Int) (hS : f3_l2_j4 a1 p1980 p1981 p1982 p1983 = some r) {st : St} (he : keepSt [3, 4, 6, 22, 23, 24] [(32, .id 32), (104, .id 104), (56, .id 56)] [] st = f3_l2_j4_J a1 p1980 p1981 p1982 p1983) : ZR (lev codes baseL (d - 1)) Q c3_5 [] st := by
  refine zrKeep he ?_
  unfold f3_l2_j4 at hS
  refine zrSeq ?_
  refine zrBlk ?_
  refine zrSeq ?_
  refine zrReg ?_
  refine bindE hS (fun z37 hz37 hS => ?_)
  refine zlOp (d := some 26) (op := (.ixS 3 1 (.tmp 22) (.tmp 24))) (g := none) (v := (.rptr ((eInt .i64).enc z37 ++ ((eInt .i64).cells (a1.drop ((p1983 : Int).toNat + 1)))))) (ups := []) (j := 1) rfl (by kernel_rfl) (by kernel_rfl) (ev_ixS (eInt .i64) (kk := .i64) (xs := a1) (j := p1983) (by kernel_rfl) (by kernel_rfl) hz37 rfl (by intro h; cases h)) ?_
  refine zlRun (n := 2) (j := 3) rfl (by kernel_rfl) ?_
  refine zlEnd (by kernel_rfl) ?_
  refine zkSeq ?_
  refine zrSeq ?_
  refine zrSeq ?_
  refine zrReg ?_
  refine zlRun (n := 1) (j := 1) rfl (by kernel_rfl) ?_
  refine zlBool (d := 29) (op := (.cmpI .geq (.tmp 28) (.const (.int .i64 0)))) (g := none) (j := 2) (decide (0 ≤ z37)) rfl (by kernel_rfl) (by kernel_rfl) (by kernel_rfl) (fun hc => ?_) (fun hc => ?_)
  · replace hS := cond_t hc hS
    refine zlRun (n := 2) (j := 4) rfl (by kernel_rfl) ?_
    refine zlBool (d := 32) (op := (.cmpI .lss (.tmp 31) (.const (.int .i64 32)))) (g := (some (30, true))) (j := 5) (decide (z37 < 32)) rfl (by kernel_rfl) (by kernel_rfl) (by kernel_rfl) (fun hc => ?_) (fun hc => ?_)
    · replace hS := cond_t hc hS
      refine zlRun (n := 1) (j := 6) rfl (by kernel_rfl) ?_
      refine zlEnd (by kernel_rfl) ?_
      refine zkSeq ?_
      refine zrCondT (by kernel_rfl) ?_
      refine zrSeq ?_
      refine zrReg ?_
      refine zlRun (n := 1) (j := 1) rfl (by kernel_rfl) ?_
      refine zlEnd (by kernel_rfl) ?_
      refine zkSeq ?_
      refine zrRet ?_
      refine zkSeqR ?_
      refine zkBlkR ?_
      refine zkSeqR ?_
      refine zkNil ?_
      exact endQ hS hQ (finL_x (by intro h; cases h) (by show _ = _ ∧ _ = _; exact ⟨rfl, by kernel_rfl⟩))
    · replace hS := cond_f hc hS
      refine zlRun (n := 1) (j := 6) rfl (by kernel_rfl) ?_
      refine zlEnd (by kernel_rfl) ?_
      refine zkSeq ?_
      refine zrCondF (by kernel_rfl) ?_
      refine zrSkip ?_
      refine zkSeq ?_
      exact f3_l2_j5_ok hd a1 hQ p1980 p1981 p1982 z37 p1983 z37 false hS (by kernel_rfl)
  · replace hS := cond_f hc hS
    refine zlRun (n := 4) (j := 6) rfl (by kernel_rfl) ?_
    refine zlEnd (by kernel_rfl) ?_
    refine zkSeq ?_
    refine zrCondF (by kernel_rfl) ?_
    refine zrSkip ?_
    refine zkSeq ?_
    exact f3_l2_j8_ok hd a1 hQ p1980 p1981 p1982 z37 p1983 hS (by kernel_rfl)
def f3_l2_j3_J (a1 : List Int) (p1975 : GParser) (p1976 : List GAct) (p1977 : List GAct) (p1978 : Int) (p1979 : Bool) : St := ⟨(up (up (up (up (up (up (up (fun _ => .un) 25 (.d (.bool p1979))) 24 (.d (.int .i64 p1978))) 23 (.d (.int .i64 (a1.length : Int)))) 22 (.d (.sl a1.length ((eInt .i64).cells a1)))) 6 (.r (.msl 56 0 0 p1977.length))) 4 (.r (.msl 104 0 0 p1976.length))) 3 (.r (.ptr 32 0 0))), (up (up (up (hB fun _ => 0) 56 ⟨0, some (.own 31 6 (e_GAct.cells p1977))⟩) 104 ⟨0, some (.own 31 6 (e_GAct.cells p1976))⟩) 32 ⟨0, some (.box ((.d (.int .i64 p1975.State)) :: ((.d (.int .i64 p1975.Mark)) :: ((.d (.str p1975.Inter)) :: ((.d (.str p1975.Args)) :: ((.d (.str p1975.Text)) :: []))))))⟩)⟩
noncomputable def f3_l2_j3 (a1 : List Int) (p1975 : GParser) (p1976 : List GAct) (p1977 : List GAct) (p1978 : Int) (p1979 : Bool) : Option ((GParser × (List GAct) × (List GAct) × Int) ⊕ ((GParser × (List GAct) × (List GAct)) ⊕ Bool)) := (bif p1979 then (f3_l2_j4 a1 p1975 p1976 p1977 p1978) else (some (.inr (.inl (p1975, p1976, p1977)))))
theorem f3_l2_j3_ok {d : Nat} (hd : 8 ≤ d) (a1 : List Int) {r : (GParser × (List GAct) × (List GAct) × Int) ⊕ ((GParser × (List GAct) × (List GAct)) ⊕ Bool)} {Q : PX → St → Prop} (hQ : ∀ e st', finL (f3_l2_H a1) (f3_l2_X a1) r e st' → Q e st') (p1975 : GParser) (p1976 : List GAct) (p1977 : List GAct) (p1978 : Int) (p1979 : Bool) (hS : f3_l2_j3 a1 p1975 p1976 p1977 p1978 p1979 = some r) {st : St} (he : keepSt [3, 4, 6, 22, 23, 24, 25] [(32, .id 32), (104, .id 104), (56, .id 56)] [] st = f3_l2_j3_J a1 p1975 p1976 p1977 p1978 p1979) : ZR (lev codes baseL (d - 1)) Q c3_6 [] st := by
  refine zrKeep he ?_
  unfold f3_l2_j3 at hS
  refine zrSeq ?_
  refine zrSplit 25 p1979 (by kernel_rfl) (fun hc => ?_) (fun hc => ?_)
  · replace hS := cond_t hc hS
    refine zrCondT (by kernel_rfl) ?_
    refine zrSkip ?_
    refine zkSeq ?_
    exact f3_l2_j4_ok hd a1 hQ p1975 p1976 p1977 p1978 hS (by kernel_rfl)
  · replace hS := cond_f hc hS
    refine zrCondF (by kernel_rfl) ?_
    refine zrKeep (J := f3_l2_e0_J a1 p1975 p1976 p1977) (by kernel_rfl) ?_
    refine zrExit ?_
    refine zkSeqX ?_
    refine zkNil ?_
    exact endQ hS hQ (finL_x (by intro h; cases h) (by show _ = _ ∧ _ = _; exact ⟨rfl, rfl⟩))
noncomputable def f3_l2 (a1 : List Int) (x : GParser × (List GAct) × (List GAct) × Int) : Option ((GParser × (List GAct) × (List GAct) × Int) ⊕ ((GParser × (List GAct) × (List GAct)) ⊕ Bool)) := (bif (decide (x.2.2.2 < (a1.length : Int))) then (f3_l2_j3 a1 x.1 x.2.1 x.2.2.1 x.2.2.2 true) else (f3_l2_j3 a1 x.1 x.2.1 x.2.2.1 x.2.2.2 false))
theorem f3_l2_ok {d : Nat} (hd : 8 ≤ d) (a1 : List Int) {r : (GParser × (List GAct) × (List GAct) × Int) ⊕ ((GParser × (List GAct) × (List GAct)) ⊕ Bool)} {Q : PX → St → Prop} (hQ : ∀ e st', finL (f3_l2_H a1) (f3_l2_X a1) r e st' → Q e st') {x : GParser × (List GAct) × (List GAct) × Int} (hS : f3_l2 a1 x = some r) {st : St} (he : f3_l2_H a1 x st) : ZR (lev codes baseL (d - 1)) Q c3_7 [] st := by
  refine zrKeep he ?_
  unfold f3_l2 at hS
  refine zrSeq ?_
  refine zrReg ?_
  refine zlBool (d := 25) (op := (.cmpI .lss (.tmp 24) (.tmp 23))) (g := none) (j := 1) (decide (x.2.2.2 < (a1.length : Int))) rfl (by kernel_rfl) (by kernel_rfl) (by kernel_rfl) (fun hc => ?_) (fun hc => ?_)
  · replace hS := cond_t hc hS
    refine zlEnd (by kernel_rfl) ?_
    refine zkSeq ?_
    exact f3_l2_j3_ok hd a1 hQ x.1 x.2.1 x.2.2.1 x.2.2.2 true hS (by kernel_rfl)
  · replace hS := cond_f hc hS
    refine zlEnd (by kernel_rfl) ?_
    refine zkSeq ?_
    exact f3_l2_j3_ok hd a1 hQ x.1 x.2.1 x.2.2.1 x.2.2.2 false hS (by kernel_rfl)
def f3_j0_J (a1 : List Int) (p989 : GParser) (p990 : List GAct) : St := ⟨(up (up (up (fun _ => .un) 4 (.r (.msl 104 0 0 p990.length))) 3 (.r (.ptr 32 0 0))) 0 (.d (.sl a1.length ((eInt .i64).cells a1)))), (up (up (hB fun _ => 0) 104 ⟨0, some (.own 31 6 (e_GAct.cells p990))⟩) 32 ⟨0, some (.box ((.d (.int .i64 p989.State)) :: ((.d (.int .i64 p989.Mark)) :: ((.d (.str p989.Inter)) :: ((.d (.str p989.Args)) :: ((.d (.str p989.Text)) :: []))))))⟩)⟩
noncomputable def f3_j0 (a1 : List Int) (p989 : GParser) (p990 : List GAct) : Option (Bool) := ((loopO (f3_l2 a1) (p989, p990, [], 0)).bind fun z42 => (Sum.elim (fun z43 => (f3_j1 a1 z43.1 z43.2.1 z43.2.2)) (fun z44 => (some z44)) z42))
theorem f3_j0_ok {d : Nat} (hd : 8 ≤ d) (a1 : List Int) {r : Bool} {Q : PX → St → Prop} (hQ : ∀ e st', f3_Q r e st' → Q e st') (p989 : GParser) (p990 : List GAct) (hS : f3_j0 a1 p989 p990 = some r) {st : St} (he : keepSt [0, 3, 4] [(32, .id 32), (104, .id 104)] [] st = f3_j0_J a1 p989 p990) : ZR (lev codes baseL (d - 1)) Q c3_8 [] st := by
  refine zrKeep he ?_
  unfold f3_j0 at hS
  refine zrSeq ?_
  refine zrReg ?_
  refine zlRun (n := 1) (j := 1) rfl (by kernel_rfl) ?_
  refine zlEnd (by kernel_rfl) ?_
  refine zkSeq ?_
  refine zrSeq ?_
  refine zrSeq ?_
  refine zrReg ?_
  refine zlRun (n := 3) (j := 3) rfl (by kernel_rfl) ?_
  refine zlEnd (by kernel_rfl) ?_
  refine zkSeq ?_
  refine zrBlk ?_
  refine bindE hS (fun z42 hz42 hS => ?_)
  refine zrLoop (f3_l2_H a1) (f3_l2_X a1) (fun x st r Q h0 hS hQ => f3_l2_ok hd a1 hQ hS h0) (x := (p989, p990, [], 0)) (z := z42) (by show keepSt _ _ _ _ = _; kernel_rfl) hz42 ?_
  rcases z42 with z43 | z44
  · replace hS := (show _ = _ from hS)
    simp only [Sum.elim_inl] at hS
    intro e st' _ hX
    obtain ⟨rfl, rfl⟩ : _ ∧ _ := hX
    refine zkBlkX ?_
    refine zkSeq ?_
    exact f3_j1_ok hd a1 hQ z43.1 z43.2.1 z43.2.2 hS (by kernel_rfl)
  · simp only [Sum.elim_inr] at hS
    intro e st' _ hX
    obtain ⟨rfl, hX⟩ : _ ∧ _ := hX
    refine zkBlkR ?_
    refine zkSeqR ?_
    refine zkNil ?_
    exact endQ hS hQ (fRet ((congrArg (fun s => outR s 0 c3.res) hX).trans (f3_out z44)))
noncomputable def f3 (a1 : List Int) : Option (Bool) := ((f11 (GParser.mk 0 0 ([]) ([]) ([])) a1).bind fun z19 => (f12.bind fun z45 => (bif (!z45) then (some false) else (bif (!decide (z19.2.2 = 0)) then (some false) else (f3_j0 a1 z19.1 z19.2.1)))))
theorem f3_ok (d : Nat) (hd : 8 ≤ d) (a1 : List Int) (r : Bool) (hS : f3 a1 = some r) : lev codes baseL d 3 [(.d (.sl a1.length ((eInt .i64).cells a1)))] [] = some ((.d (.bool r)), []) := by
  refine lev_go codes3 rfl rfl (Nat.le_trans (Nat.le_of_ble_eq_true rfl) hd) fun Q hQ => ?_
  unfold f3 at hS
  show ZR _ Q c3_b [] _
  replace hQ : ∀ e st', f3_Q r e st' → Q e st' := hQ
  refine zrSeq ?_
  refine zrReg ?_
  refine zlRun (n := 1) (j := 1) rfl (by kernel_rfl) ?_
  refine zlEnd (by kernel_rfl) ?_
  refine zkSeq ?_
  refine zrSeq ?_
  refine zrReg ?_
  refine zlRun (n := 2) (j := 2) rfl (by kernel_rfl) ?_
  refine bindE hS (fun z19 hz19 hS => ?_)
  refine zlOp (d := some 12) (op := (.callf 11 [(.tmp 10), (.tmp 11)])) (g := none) (v := (.tup [(.agg ((.d (.int .i64 z19.1.State)) :: ((.d (.int .i64 z19.1.Mark)) :: ((.d (.str z19.1.Inter)) :: ((.d (.str z19.1.Args)) :: ((.d (.str z19.1.Text)) :: [])))))), (.r (.msl 104 1 0 z19.2.1.length)), (.d (.int .i64 z19.2.2))])) (ups := [(104, ⟨1, some (.own 31 6 (e_GAct.cells z19.2.1))⟩)]) (j := 3) rfl (by kernel_rfl) (by kernel_rfl) (ev_callF (args := [(.agg ((.d (.int .i64 0)) :: ((.d (.int .i64 0)) :: ((.d (.str ([]))) :: ((.d (.str ([]))) :: ((.d (.str ([]))) :: [])))))), (.d (.sl a1.length ((eInt .i64).cells a1)))]) (args' := [(.agg ((.d (.int .i64 0)) :: ((.d (.int .i64 0)) :: ((.d (.str ([]))) :: ((.d (.str ([]))) :: ((.d (.str ([]))) :: [])))))), (.d (.sl a1.length ((eInt .i64).cells a1)))]) (l := [(.agg ((.d (.int .i64 0)) :: ((.d (.int .i64 0)) :: ((.d (.str ([]))) :: ((.d (.str ([]))) :: ((.d (.str ([]))) :: [])))))), (.d (.sl a1.length ((eInt .i64).cells a1)))]) (refs := []) (r := (.tup [(.agg ((.d (.int .i64 z19.1.State)) :: ((.d (.int .i64 z19.1.Mark)) :: ((.d (.str z19.1.Inter)) :: ((.d (.str z19.1.Args)) :: ((.d (.str z19.1.Text)) :: [])))))), (.r (.own 0 31 6 z19.2.1.length (e_GAct.cells z19.2.1))), (.d (.int .i64 z19.2.2))])) (v := (.tup [(.agg ((.d (.int .i64 z19.1.State)) :: ((.d (.int .i64 z19.1.Mark)) :: ((.d (.str z19.1.Inter)) :: ((.d (.str z19.1.Args)) :: ((.d (.str z19.1.Text)) :: [])))))), (.r (.msl 104 1 0 z19.2.1.length)), (.d (.int .i64 z19.2.2))])) (ups' := [(104, ⟨1, some (.own 31 6 (e_GAct.cells z19.2.1))⟩)]) (by kernel_rfl) (by kernel_rfl) (by kernel_rfl) (fz_cons rfl (fz_cons rfl fz_nil)) (by kernel_rfl) (f11_ok (d - 1) (dpt hd rfl) (GParser.mk 0 0 ([]) ([]) ([])) a1 z19 hz19) (by kernel_rfl) (by kernel_rfl) (by kernel_rfl) (by kernel_rfl)) ?_
  refine zlRun (n := 8) (j := 11) rfl (by kernel_rfl) ?_
  refine zlEnd (by kernel_rfl) ?_
  refine zkSeq ?_
  refine zrSeq ?_
  refine zrSeq ?_
  refine zrReg ?_
  refine bindE hS (fun z45 hz45 hS => ?_)
  refine zlOp (d := some 16) (op := (.call 12 [])) (g := none) (v := (.d (.bool z45))) (ups := []) (j := 1) rfl (by kernel_rfl) (by kernel_rfl) (ev_call (args := []) (l := []) (r := (.d (.bool z45))) (by kernel_rfl) (by kernel_rfl) (f12_ok (d - 1) (dpt hd rfl)  z45 hz45) (by kernel_rfl) (by kernel_rfl) (by kernel_rfl)) ?_
  refine zlRun (n := 2) (j := 3) rfl (by kernel_rfl) ?_
  refine zlSplit 18 (!z45) (by kernel_rfl) (fun hc => ?_) (fun hc => ?_)
  · replace hS := cond_t hc hS
    refine zlRun (n := 3) (j := 6) rfl (by kernel_rfl) ?_
    refine zlEnd (by kernel_rfl) ?_
    refine zkSeq ?_
    refine zrCondT (by kernel_rfl) ?_
    refine zrSeq ?_
    refine zrReg ?_
    refine zlRun (n := 1) (j := 1) rfl (by kernel_rfl) ?_
    refine zlEnd (by kernel_rfl) ?_
    refine zkSeq ?_
    refine zrRet ?_
    refine zkSeqR ?_
    refine zkNil ?_
    exact endQ hS hQ (fRet ((congrArg (fun s => outR s 0 c3.res) (by kernel_rfl : finSt c3.fin _ = f3_fin false)).trans (f3_out false)))
  · replace hS := cond_f hc hS
    refine zlRun (n := 1) (j := 4) rfl (by kernel_rfl) ?_
    refine zlBool (d := 20) (op := (.cmpI .neq (.tmp 19) (.const (.int .i64 0)))) (g := (some (18, false))) (j := 5) (!decide (z19.2.2 = 0)) rfl (by kernel_rfl) (by kernel_rfl) (by kernel_rfl) (fun hc => ?_) (fun hc => ?_)
    · replace hS := cond_t hc hS
      refine zlRun (n := 1) (j := 6) rfl (by kernel_rfl) ?_
      refine zlEnd (by kernel_rfl) ?_
      refine zkSeq ?_
      refine zrCondT (by kernel_rfl) ?_
      refine zrSeq ?_
      refine zrReg ?_
      refine zlRun (n := 1) (j := 1) rfl (by kernel_rfl) ?_
      refine zlEnd (by kernel_rfl) ?_
      refine zkSeq ?_
      refine zrRet ?_
      refine zkSeqR ?_
      refine zkNil ?_
      exact endQ hS hQ (fRet ((congrArg (fun s => outR s 0 c3.res) (by kernel_rfl : finSt c3.fin _ = f3_fin false)).trans (f3_out false)))
    · replace hS := cond_f hc hS
      refine zlRun (n := 1) (j := 6) rfl (by kernel_rfl) ?_
      refine zlEnd (by kernel_rfl) ?_
      refine zkSeq ?_
      refine zrCondF (by kernel_rfl) ?_
      refine zrSkip ?_
      refine zkSeq ?_
      exact f3_j0_ok hd a1 hQ z19.1 z19.2.1 hS (by kernel_rfl)
/- farwriter/farref.Between -/
def f30_fin (p3 : Bool) : St := ⟨(up (fun _ => .un) 6 (.d (.bool p3))), (hB fun _ => 0)⟩
theorem f30_out (p3 : Bool) : outR (f30_fin p3) 0 c30.res = some ((.d (.bool p3)), []) := by
  kernel_rfl
def f30_Q (r : Bool) (e : PX) (st : St) : Prop := DoneF c30 0 ((.d (.bool r)), []) e st
noncomputable def f30 (a1 : Int) (a2 : Int) (a3 : Int) : Option (Bool) := (bif (decide (a2 ≤ a1)) then (bif (decide (a1 ≤ a3)) then (some true) else (some false)) else (some false))
theorem f30_ok (d : Nat) (hd : 1 ≤ d) (a1 : Int) (a2 : Int) (a3 : Int) (r : Bool) (hS : f30 a1 a2 a3 = some r) : lev codes baseL d 30 [(.d (.int .i64 a1)), (.d (.int .i64 a2)), (.d (.int .i64 a3))] [] = some ((.d (.bool r)), []) := by
  refine lev_go codes30 rfl rfl (Nat.le_trans (Nat.le_of_ble_eq_true rfl) hd) fun Q hQ => ?_
  unfold f30 at hS
  show ZR _ Q c30_b [] _
  replace hQ : ∀ e st', f30_Q r e st' → Q e st' := hQ
  refine zrSeq ?_
  refine zrReg ?_
  refine zlRun (n := 1) (j := 1) rfl (by kernel_rfl) ?_
  refine zlEnd (by kernel_rfl) ?_
  refine zkSeq ?_
  refine zrSeq ?_
  refine zrReg ?_
  refine zlRun (n := 2) (j := 2) rfl (by kernel_rfl) ?_
  refine zlBool (d := 9) (op := (.cmpI .leq (.tmp 7) (.tmp 8))) (g := none) (j := 3) (decide (a2 ≤ a1)) rfl (by kernel_rfl) (by kernel_rfl) (by kernel_rfl) (fun hc => ?_) (fun hc => ?_)
  · replace hS := cond_t hc hS
    refine zlRun (n := 3) (j := 6) rfl (by kernel_rfl) ?_
    refine zlBool (d := 13) (op := (.cmpI .leq (.tmp 11) (.tmp 12))) (g := (some (10, true))) (j := 7) (decide (a1 ≤ a3)) rfl (by kernel_rfl) (by kernel_rfl) (by kernel_rfl) (fun hc => ?_) (fun hc => ?_)
    · replace hS := cond_t hc hS
      refine zlRun (n := 2) (j := 9) rfl (by kernel_rfl) ?_
      refine zlEnd (by kernel_rfl) ?_
      refine zkSeq ?_
      refine zrRet ?_
      refine zkNil ?_
      exact endQ hS hQ (fRet ((congrArg (fun s => outR s 0 c30.res) (by kernel_rfl : finSt c30.fin _ = f30_fin true)).trans (f30_out true)))
    · replace hS := cond_f hc hS
      refine zlRun (n := 2) (j := 9) rfl (by kernel_rfl) ?_
      refine zlEnd (by kernel_rfl) ?_
      refine zkSeq ?_
      refine zrRet ?_
      refine zkNil ?_
      exact endQ hS hQ (fRet ((congrArg (fun s => outR s 0 c30.res) (by kernel_rfl : finSt c30.fin _ = f30_fin false)).trans (f30_out false)))
  · replace hS := cond_f hc hS
    refine zlRun (n := 6) (j := 9) rfl (by kernel_rfl) ?_
    refine zlEnd (by kernel_rfl) ?_
    refine zkSeq ?_
    refine zrRet ?_
    refine zkNil ?_
    exact endQ hS hQ (fRet ((congrArg (fun s => outR s 0 c30.res) (by kernel_rfl : finSt c30.fin _ = f30_fin false)).trans (f30_out false)))
/- farwriter/farref.ParserRight -/
def f14_fin (p73 : Int) : St := ⟨(up (fun _ => .un) 2 (.d (.int .i64 p73))), (hB fun _ => 0)⟩
theorem f14_out (p73 : Int) : outR (f14_fin p73) 0 c14.res = some ((.d (.int .i64 p73)), []) := by
  kernel_rfl
def f14_Q (r : Int) (e : PX) (st : St) : Prop := DoneF c14 0 ((.d (.int .i64 r)), []) e st
def f14_l5_J (a1 : GParser) (x : Bool × Int) : St := ⟨(up (up (up (up (fun _ => .un) 100 (.d (.int .i64 x.2))) 99 (.d (.int .i64 (a1.Args.length : Int)))) 98 (.r (.msl 792 0 0 a1.Args.length))) 3 (.d (.bool x.1))), (up (hB fun _ => 0) 792 ⟨0, some (.own 5 1 (eU8.cells a1.Args))⟩)⟩
def f14_l5_H (a1 : GParser) (x : Bool × Int) (st : St) : Prop := keepSt [3, 98, 99, 100] [(792, .id 792)] [] st = f14_l5_J a1 x
def f14_l5_e2_J (a1 : GParser) (p150 : Bool) : St := ⟨(up (fun _ => .un) 3 (.d (.bool p150))), (hB fun _ => 0)⟩
def f14_l5_X (a1 : GParser) (z : Bool) (e : PX) (st : St) : Prop := e = .exit 2 ∧ st = f14_l5_e2_J a1 z
def f14_l5_j7_J (a1 : GParser) (p157 : Bool) (p158 : Int) : St := ⟨(up (up (up (up (fun _ => .un) 100 (.d (.int .i64 p158))) 99 (.d (.int .i64 (a1.Args.length : Int)))) 98 (.r (.msl 792 0 0 a1.Args.length))) 3 (.d (.bool p157))), (up (hB fun _ => 0) 792 ⟨0, some (.own 5 1 (eU8.cells a1.Args))⟩)⟩
noncomputable def f14_l5_j7 (a1 : GParser) (p157 : Bool) (p158 : Int) : Option ((Bool × Int) ⊕ Bool) := ((inR p158 a1.Args.length).bind fun m51 => ((a1.Args[m51]?).bind fun z52 => (bif p157 then (bif (decide ((z52.toNat : Int) = 59)) then (some (.inl (true, (IntKind.i64.wrap (p158 + 1))))) else ((f30 (z52.toNat : Int) 48 57).bind fun z53 => (some (.inl (z53, (IntKind.i64.wrap (p158 + 1))))))) else (some (.inl (false, (IntKind.i64.wrap (p158 + 1))))))))
theorem f14_l5_j7_ok {d : Nat} (hd : 2 ≤ d) (a1 : GParser) {r : (Bool × Int) ⊕ Bool} {Q : PX → St → Prop} (hQ : ∀ e st', finL (f14_l5_H a1) (f14_l5_X a1) r e st' → Q e st') (p157 : Bool) (p158 : Int) (hS : f14_l5_j7 a1 p157 p158 = some r) {st : St} (he : keepSt [3, 98, 99, 100] [(792, .id 792)] [] st = f14_l5_j7_J a1 p157 p158) : ZR (lev codes baseL (d - 1)) Q c14_1 [] st := by
  refine zrKeep he ?_
  unfold f14_l5_j7 at hS
  refine zrSeq ?_
  refine zrBlk ?_
  refine zrSeq ?_
  refine zrReg ?_
  refine bindE hS (fun m51 hm51 hS => ?_)
  refine zlOp (d := some 102) (op := (.ixS 5 1 (.tmp 98) (.tmp 100))) (g := none) (v := (.r (.ptr 792 0 ((0 + m51) * 1)))) (ups := []) (j := 1) rfl (by kernel_rfl) (by kernel_rfl) (ev_ixM (kk := .i64) (b := 792) (g := 0) (l := 0) (n := a1.Args.length) (j := p158) (cs := eU8.cells a1.Args) (by kernel_rfl) (by kernel_rfl) (by kernel_rfl) hm51) ?_
  refine bindE hS (fun z52 hz52 hS => ?_)
  refine zlOp (d := some 103) (op := (.load .false 1 (.tmp 102))) (g := none) (v := (.d (.int .u8 (z52.toNat : Int)))) (ups := []) (j := 2) rfl (by kernel_rfl) (by kernel_rfl) (ev_loadM eU8 (b := 792) (g := 0) (o := (0 + m51) * 1) (e := 5) (k := 1) (m := m51) (fo := 0) (xs := a1.Args) (by kernel_rfl) (by kernel_rfl) (by rw [Nat.zero_add]; rfl) hz52 (by kernel_rfl) (by kernel_rfl) (by kernel_rfl)) ?_
  refine zlRun (n := 1) (j := 3) rfl (by kernel_rfl) ?_
  refine zlEnd (by kernel_rfl) ?_
  refine zkSeq ?_
  refine zrReg ?_
  refine zlRun (n := 2) (j := 2) rfl (by kernel_rfl) ?_
  refine zlSplit 105 p157 (by kernel_rfl) (fun hc => ?_) (fun hc => ?_)
  · replace hS := cond_t hc hS
    refine zlRun (n := 1) (j := 3) rfl (by kernel_rfl) ?_
    refine zlBool (d := 107) (op := (.cmpI .eql (.tmp 106) (.const (.int .u8 59)))) (g := (some (105, true))) (j := 4) (decide ((z52.toNat : Int) = 59)) rfl (by kernel_rfl) (by kernel_rfl) (by kernel_rfl) (fun hc => ?_) (fun hc => ?_)
    · replace hS := cond_t hc hS
      refine zlRun (n := 7) (j := 11) rfl (by kernel_rfl) ?_
      refine zlEnd (by kernel_rfl) ?_
      refine zkBlk ?_
      refine zkSeq ?_
      refine zrReg ?_
      refine zlRun (n := 2) (j := 2) rfl (by kernel_rfl) ?_
      refine zlEnd (by kernel_rfl) ?_
      refine zkNil ?_
      exact endQ hS hQ (finL_n (by show keepSt _ _ _ _ = _; kernel_rfl))
    · replace hS := cond_f hc hS
      refine zlRun (n := 2) (j := 6) rfl (by kernel_rfl) ?_
      refine zlOp (d := some 110) (op := (.cvI .i64 (.tmp 109))) (g := (some (108, false))) (v := (.d (.int .i64 (z52.toNat : Int)))) (ups := []) (j := 7) rfl (by kernel_rfl) (by kernel_rfl) (ev_cv (kk := .u8) (a := (z52.toNat : Int)) (by kernel_rfl) (cv_i64 _)) ?_
      refine bindE hS (fun z53 hz53 hS => ?_)
      refine zlOp (d := some 111) (op := (.call 30 [(.tmp 110), (.const (.int .i64 48)), (.const (.int .i64 57))])) (g := (some (108, false))) (v := (.d (.bool z53))) (ups := []) (j := 8) rfl (by kernel_rfl) (by kernel_rfl) (ev_call (args := [(.d (.int .i64 (z52.toNat : Int))), (.d (.int .i64 48)), (.d (.int .i64 57))]) (l := [(.d (.int .i64 (z52.toNat : Int))), (.d (.int .i64 48)), (.d (.int .i64 57))]) (r := (.d (.bool z53))) (by kernel_rfl) (by kernel_rfl) (f30_ok (d - 1) (dpt hd rfl) (z52.toNat : Int) 48 57 z53 hz53) (by kernel_rfl) (by kernel_rfl) (by kernel_rfl)) ?_
      refine zlRun (n := 3) (j := 11) rfl (by kernel_rfl) ?_
      refine zlEnd (by kernel_rfl) ?_
      refine zkBlk ?_
      refine zkSeq ?_
      refine zrReg ?_
      refine zlRun (n := 2) (j := 2) rfl (by kernel_rfl) ?_
      refine zlEnd (by kernel_rfl) ?_
      refine zkNil ?_
      exact endQ hS hQ (finL_n (by show keepSt _ _ _ _ = _; kernel_rfl))
  · replace hS := cond_f hc hS
    refine zlRun (n := 9) (j := 11) rfl (by kernel_rfl) ?_
    refine zlEnd (by kernel_rfl) ?_
    refine zkBlk ?_
    refine zkSeq ?_
    refine zrReg ?_
    refine zlRun (n := 2) (j := 2) rfl (by kernel_rfl) ?_
    refine zlEnd (by kernel_rfl) ?_
    refine zkNil ?_
    exact endQ hS hQ (finL_n (by show keepSt _ _ _ _ = _; kernel_rfl))
def f14_l5_j6_J (a1 : GParser) (p154 : Bool) (p155 : Int) (p156 : Bool) : St := ⟨(up (up (up (up (up (fun _ => .un) 101 (.d (.bool p156))) 100 (.d (.int .i64 p155))) 99 (.d (.int .i64 (a1.Args.length : Int)))) 98 (.r (.msl 792 0 0 a1.Args.length))) 3 (.d (.bool p154))), (up (hB fun _ => 0) 792 ⟨0, some (.own 5 1 (eU8.cells a1.Args))⟩)⟩
noncomputable def f14_l5_j6 (a1 : GParser) (p154 : Bool) (p155 : Int) (p156 : Bool) : Option ((Bool × Int) ⊕ Bool) := (bif p156 then (f14_l5_j7 a1 p154 p155) else (some (.inr p154)))
theorem f14_l5_j6_ok {d : Nat} (hd : 2 ≤ d) (a1 : GParser) {r : (Bool × Int) ⊕ Bool} {Q : PX → St → Prop} (hQ : ∀ e st', finL (f14_l5_H a1) (f14_l5_X a1) r e st' → Q e st') (p154 : Bool) (p155 : Int) (p156 : Bool) (hS : f14_l5_j6 a1 p154 p155 p156 = some r) {st : St} (he : keepSt [3, 98, 99, 100, 101] [(792, .id 792)] [] st = f14_l5_j6_J a1 p154 p155 p156) : ZR (lev codes baseL (d - 1)) Q c14_2 [] st := by
  refine zrKeep he ?_
  unfold f14_l5_j6 at hS
  refine zrSeq ?_
  refine zrSplit 101 p156 (by kernel_rfl) (fun hc => ?_) (fun hc => ?_)
  · replace hS := cond_t hc hS
    refine zrCondT (by kernel_rfl) ?_
    refine zrSkip ?_
    refine zkSeq ?_
    exact f14_l5_j7_ok hd a1 hQ p154 p155 hS (by kernel_rfl)
  · replace hS := cond_f hc hS
    refine zrCondF (by kernel_rfl) ?_
    refine zrKeep (J := f14_l5_e2_J a1 p154) (by kernel_rfl) ?_
    refine zrExit ?_
    refine zkSeqX ?_
    refine zkNil ?_
    exact endQ hS hQ (finL_x (by intro h; cases h) (by show _ = _ ∧ _ = _; exact ⟨rfl, rfl⟩))
noncomputable def f14_l5 (a1 : GParser) (x : Bool × Int) : Option ((Bool × Int) ⊕ Bool) := (bif (decide (x.2 < (a1.Args.length : Int))) then (f14_l5_j6 a1 x.1 x.2 true) else (f14_l5_j6 a1 x.1 x.2 false))
theorem f14_l5_ok {d : Nat} (hd : 2 ≤ d) (a1 : GParser) {r : (Bool × Int) ⊕ Bool} {Q : PX → St → Prop} (hQ : ∀ e st', finL (f14_l5_H a1) (f14_l5_X a1) r e st' → Q e st') {x : Bool × Int} (hS : f14_l5 a1 x = some r) {st : St} (he : f14_l5_H a1 x st) : ZR (lev codes baseL (d - 1)) Q c14_3 [] st := by
  refine zrKeep he ?_
  unfold f14_l5 at hS
  refine zrSeq ?_
  refine zrReg ?_
  refine zlBool (d := 101) (op := (.cmpI .lss (.tmp 100) (.tmp 99))) (g := none) (j := 1) (decide (x.2 < (a1.Args.length : Int))) rfl (by kernel_rfl) (by kernel_rfl) (by kernel_rfl) (fun hc => ?_) (fun hc => ?_)
  · replace hS := cond_t hc hS
    refine zlEnd (by kernel_rfl) ?_
    refine zkSeq ?_
    exact f14_l5_j6_ok hd a1 hQ x.1 x.2 true hS (by kernel_rfl)
  · replace hS := cond_f hc hS
    refine zlEnd (by kernel_rfl) ?_
    refine zkSeq ?_
    exact f14_l5_j6_ok hd a1 hQ x.1 x.2 false hS (by kernel_rfl)
def f14_j4_J (a1 : GParser) (p112 : Bool) : St := ⟨(up (up (fun _ => .un) 3 (.d (.bool p112))) 1 (.r (.ptr 16 0 0))), (up (hB fun _ => 0) 16 ⟨0, some (.box ((.d (.int .i64 a1.State)) :: ((.d (.int .i64 a1.Mark)) :: ((.d (.str a1.Inter)) :: ((.d (.str a1.Args)) :: ((.d (.str a1.Text)) :: []))))))⟩)⟩
noncomputable def f14_j4 (a1 : GParser) (p112 : Bool) : Option (Int) := ((chk (decide (a1.Args.length ≤ 140737488355328))).bind fun z41 => ((loopO (f14_l5 a1) (p112, 0)).bind fun z54 => (bif (!z54) then (some 4) else (some 0))))
theorem f14_j4_ok {d : Nat} (hd : 2 ≤ d) (a1 : GParser) {r : Int} {Q : PX → St → Prop} (hQ : ∀ e st', f14_Q r e st' → Q e st') (p112 : Bool) (hS : f14_j4 a1 p112 = some r) {st : St} (he : keepSt [1, 3] [(16, .id 16)] [] st = f14_j4_J a1 p112) : ZR (lev codes baseL (d - 1)) Q c14_4 [] st := by
  refine zrKeep he ?_
  unfold f14_j4 at hS
  refine zrSeq ?_
  refine zrSeq ?_
  refine zrReg ?_
  refine zlRun (n := 2) (j := 2) rfl (by kernel_rfl) ?_
  refine bindE hS (fun z41 hz41 hS => ?_)
  refine zlOp (d := some 98) (op := (.cvSO 5 (.tmp 97))) (g := none) (v := (.r (.msl 792 1 0 a1.Args.length))) (ups := [(792, ⟨1, some (.own 5 1 (eU8.cells a1.Args))⟩)]) (j := 3) rfl (by kernel_rfl) (by kernel_rfl) (ev_cvSO (s := a1.Args) (by kernel_rfl) hz41) ?_
  refine zlRun (n := 2) (j := 5) rfl (by kernel_rfl) ?_
  refine zlEnd (by kernel_rfl) ?_
  refine zkSeq ?_
  refine zrBlk ?_
  refine bindE hS (fun z54 hz54 hS => ?_)
  refine zrLoop (f14_l5_H a1) (f14_l5_X a1) (fun x st r Q h0 hS hQ => f14_l5_ok hd a1 hQ hS h0) (x := (p112, 0)) (z := z54) (by show keepSt _ _ _ _ = _; kernel_rfl) hz54 ?_
  intro e st' _ hX
  obtain ⟨rfl, rfl⟩ : _ ∧ _ := hX
  refine zkBlkX ?_
  refine zkSeq ?_
  refine zrSeq ?_
  refine zrSeq ?_
  refine zrReg ?_
  refine zlRun (n := 2) (j := 2) rfl (by kernel_rfl) ?_
  refine zlEnd (by kernel_rfl) ?_
  refine zkSeq ?_
  refine zrSplit 116 (!z54) (by kernel_rfl) (fun hc => ?_) (fun hc => ?_)
  · replace hS := cond_t hc hS
    refine zrCondT (by kernel_rfl) ?_
    refine zrSeq ?_
    refine zrReg ?_
    refine zlRun (n := 1) (j := 1) rfl (by kernel_rfl) ?_
    refine zlEnd (by kernel_rfl) ?_
    refine zkSeq ?_
    refine zrRet ?_
    refine zkSeqR ?_
    refine zkNil ?_
    exact endQ hS hQ (fRet ((congrArg (fun s => outR s 0 c14.res) (by kernel_rfl : finSt c14.fin _ = f14_fin 4)).trans (f14_out 4)))
  · replace hS := cond_f hc hS
    refine zrCondF (by kernel_rfl) ?_
    refine zrSkip ?_
    refine zkSeq ?_
    refine zrSeq ?_
    refine zrReg ?_
    refine zlRun (n := 1) (j := 1) rfl (by kernel_rfl) ?_
    refine zlEnd (by kernel_rfl) ?_
    refine zkSeq ?_
    refine zrRet ?_
    refine zkNil ?_
    exact endQ hS hQ (fRet ((congrArg (fun s => outR s 0 c14.res) (by kernel_rfl : finSt c14.fin _ = f14_fin 0)).trans (f14_out 0)))
def f14_l8_J (a1 : GParser) (x : Bool × Int) : St := ⟨(up (up (up (up (up (fun _ => .un) 85 (.d (.int .i64 x.2))) 84 (.d (.int .i64 (a1.Inter.length : Int)))) 83 (.r (.msl 672 0 0 a1.Inter.length))) 3 (.d (.bool x.1))) 1 (.r (.ptr 16 0 0))), (up (up (hB fun _ => 0) 672 ⟨0, some (.own 5 1 (eU8.cells a1.Inter))⟩) 16 ⟨0, some (.box ((.d (.int .i64 a1.State)) :: ((.d (.int .i64 a1.Mark)) :: ((.d (.str a1.Inter)) :: ((.d (.str a1.Args)) :: ((.d (.str a1.Text)) :: []))))))⟩)⟩
def f14_l8_H (a1 : GParser) (x : Bool × Int) (st : St) : Prop := keepSt [1, 3, 83, 84, 85] [(16, .id 16), (672, .id 672)] [] st = f14_l8_J a1 x
def f14_l8_e0_J (a1 : GParser) (p111 : Bool) : St := ⟨(up (up (fun _ => .un) 3 (.d (.bool p111))) 1 (.r (.ptr 16 0 0))), (up (hB fun _ => 0) 16 ⟨0, some (.box ((.d (.int .i64 a1.State)) :: ((.d (.int .i64 a1.Mark)) :: ((.d (.str a1.Inter)) :: ((.d (.str a1.Args)) :: ((.d (.str a1.Text)) :: []))))))⟩)⟩
def f14_l8_X (a1 : GParser) (z : Bool) (e : PX) (st : St) : Prop := e = .exit 0 ∧ st = f14_l8_e0_J a1 z
def f14_l8_j10_J (a1 : GParser) (p165 : Bool) (p166 : Int) : St := ⟨(up (up (up (up (up (fun _ => .un) 85 (.d (.int .i64 p166))) 84 (.d (.int .i64 (a1.Inter.length : Int)))) 83 (.r (.msl 672 0 0 a1.Inter.length))) 3 (.d (.bool p165))) 1 (.r (.ptr 16 0 0))), (up (up (hB fun _ => 0) 672 ⟨0, some (.own 5 1 (eU8.cells a1.Inter))⟩) 16 ⟨0, some (.box ((.d (.int .i64 a1.State)) :: ((.d (.int .i64 a1.Mark)) :: ((.d (.str a1.Inter)) :: ((.d (.str a1.Args)) :: ((.d (.str a1.Text)) :: []))))))⟩)⟩
noncomputable def f14_l8_j10 (a1 : GParser) (p165 : Bool) (p166 : Int) : Option ((Bool × Int) ⊕ Bool) := ((inR p166 a1.Inter.length).bind fun m56 => ((a1.Inter[m56]?).bind fun z57 => (bif p165 then ((f30 (z57.toNat : Int) 32 47).bind fun z58 => (some (.inl (z58, (IntKind.i64.wrap (p166 + 1)))))) else (some (.inl (false, (IntKind.i64.wrap (p166 + 1))))))))
theorem f14_l8_j10_ok {d : Nat} (hd : 2 ≤ d) (a1 : GParser) {r : (Bool × Int) ⊕ Bool} {Q : PX → St → Prop} (hQ : ∀ e st', finL (f14_l8_H a1) (f14_l8_X a1) r e st' → Q e st') (p165 : Bool) (p166 : Int) (hS : f14_l8_j10 a1 p165 p166 = some r) {st : St} (he : keepSt [1, 3, 83, 84, 85] [(16, .id 16), (672, .id 672)] [] st = f14_l8_j10_J a1 p165 p166) : ZR (lev codes baseL (d - 1)) Q c14_5 [] st := by
  refine zrKeep he ?_
  unfold f14_l8_j10 at hS
  refine zrSeq ?_
  refine zrBlk ?_
  refine zrSeq ?_
  refine zrReg ?_
  refine bindE hS (fun m56 hm56 hS => ?_)
  refine zlOp (d := some 87) (op := (.ixS 5 1 (.tmp 83) (.tmp 85))) (g := none) (v := (.r (.ptr 672 0 ((0 + m56) * 1)))) (ups := []) (j := 1) rfl (by kernel_rfl) (by kernel_rfl) (ev_ixM (kk := .i64) (b := 672) (g := 0) (l := 0) (n := a1.Inter.length) (j := p166) (cs := eU8.cells a1.Inter) (by kernel_rfl) (by kernel_rfl) (by kernel_rfl) hm56) ?_
  refine bindE hS (fun z57 hz57 hS => ?_)
  refine zlOp (d := some 88) (op := (.load .false 1 (.tmp 87))) (g := none) (v := (.d (.int .u8 (z57.toNat : Int)))) (ups := []) (j := 2) rfl (by kernel_rfl) (by kernel_rfl) (ev_loadM eU8 (b := 672) (g := 0) (o := (0 + m56) * 1) (e := 5) (k := 1) (m := m56) (fo := 0) (xs := a1.Inter) (by kernel_rfl) (by kernel_rfl) (by rw [Nat.zero_add]; rfl) hz57 (by kernel_rfl) (by kernel_rfl) (by kernel_rfl)) ?_
  refine zlRun (n := 1) (j := 3) rfl (by kernel_rfl) ?_
  refine zlEnd (by kernel_rfl) ?_
  refine zkSeq ?_
  refine zrReg ?_
  refine zlRun (n := 2) (j := 2) rfl (by kernel_rfl) ?_
  refine zlSplit 90 p165 (by kernel_rfl) (fun hc => ?_) (fun hc => ?_)
  · replace hS := cond_t hc hS
    refine zlRun (n := 1) (j := 3) rfl (by kernel_rfl) ?_
    refine zlOp (d := some 92) (op := (.cvI .i64 (.tmp 91))) (g := (some (90, true))) (v := (.d (.int .i64 (z57.toNat : Int)))) (ups := []) (j := 4) rfl (by kernel_rfl) (by kernel_rfl) (ev_cv (kk := .u8) (a := (z57.toNat : Int)) (by kernel_rfl) (cv_i64 _)) ?_
    refine bindE hS (fun z58 hz58 hS => ?_)
    refine zlOp (d := some 93) (op := (.call 30 [(.tmp 92), (.const (.int .i64 32)), (.const (.int .i64 47))])) (g := (some (90, true))) (v := (.d (.bool z58))) (ups := []) (j := 5) rfl (by kernel_rfl) (by kernel_rfl) (ev_call (args := [(.d (.int .i64 (z57.toNat : Int))), (.d (.int .i64 32)), (.d (.int .i64 47))]) (l := [(.d (.int .i64 (z57.toNat : Int))), (.d (.int .i64 32)), (.d (.int .i64 47))]) (r := (.d (.bool z58))) (by kernel_rfl) (by kernel_rfl) (f30_ok (d - 1) (dpt hd rfl) (z57.toNat : Int) 32 47 z58 hz58) (by kernel_rfl) (by kernel_rfl) (by kernel_rfl)) ?_
    refine zlRun (n := 2) (j := 7) rfl (by kernel_rfl) ?_
    refine zlEnd (by kernel_rfl) ?_
    refine zkBlk ?_
    refine zkSeq ?_
    refine zrReg ?_
    refine zlRun (n := 2) (j := 2) rfl (by kernel_rfl) ?_
    refine zlEnd (by kernel_rfl) ?_
    refine zkNil ?_
    exact endQ hS hQ (finL_n (by show keepSt _ _ _ _ = _; kernel_rfl))
  · replace hS := cond_f hc hS
    refine zlRun (n := 5) (j := 7) rfl (by kernel_rfl) ?_
    refine zlEnd (by kernel_rfl) ?_
    refine zkBlk ?_
    refine zkSeq ?_
    refine zrReg ?_
    refine zlRun (n := 2) (j := 2) rfl (by kernel_rfl) ?_
    refine zlEnd (by kernel_rfl) ?_
    refine zkNil ?_
    exact endQ hS hQ (finL_n (by show keepSt _ _ _ _ = _; kernel_rfl))
def f14_l8_j9_J (a1 : GParser) (p162 : Bool) (p163 : Int) (p164 : Bool) : St := ⟨(up (up (up (up (up (up (fun _ => .un) 86 (.d (.bool p164))) 85 (.d (.int .i64 p163))) 84 (.d (.int .i64 (a1.Inter.length : Int)))) 83 (.r (.msl 672 0 0 a1.Inter.length))) 3 (.d (.bool p162))) 1 (.r (.ptr 16 0 0))), (up (up (hB fun _ => 0) 672 ⟨0, some (.own 5 1 (eU8.cells a1.Inter))⟩) 16 ⟨0, some (.box ((.d (.int .i64 a1.State)) :: ((.d (.int .i64 a1.Mark)) :: ((.d (.str a1.Inter)) :: ((.d (.str a1.Args)) :: ((.d (.str a1.Text)) :: []))))))⟩)⟩
noncomputable def f14_l8_j9 (a1 : GParser) (p162 : Bool) (p163 : Int) (p164 : Bool) : Option ((Bool × Int) ⊕ Bool) := (bif p164 then (f14_l8_j10 a1 p162 p163) else (some (.inr p162)))
theorem f14_l8_j9_ok {d : Nat} (hd : 2 ≤ d) (a1 : GParser) {r : (Bool × Int) ⊕ Bool} {Q : PX → St → Prop} (hQ : ∀ e st', finL (f14_l8_H a1) (f14_l8_X a1) r e st' → Q e st') (p162 : Bool) (p163 : Int) (p164 : Bool) (hS : f14_l8_j9 a1 p162 p163 p164 = some r) {st : St} (he : keepSt [1, 3, 83, 84, 85, 86] [(16, .id 16), (672, .id 672)] [] st = f14_l8_j9_J a1 p162 p163 p164) : ZR (lev codes baseL (d - 1)) Q c14_6 [] st := by
  refine zrKeep he ?_
  unfold f14_l8_j9 at hS
  refine zrSeq ?_
  refine zrSplit 86 p164 (by kernel_rfl) (fun hc => ?_) (fun hc => ?_)
  · replace hS := cond_t hc hS
    refine zrCondT (by kernel_rfl) ?_
    refine zrSkip ?_
    refine zkSeq ?_
    exact f14_l8_j10_ok hd a1 hQ p162 p163 hS (by kernel_rfl)
  · replace hS := cond_f hc hS
    refine zrCondF (by kernel_rfl) ?_
    refine zrKeep (J := f14_l8_e0_J a1 p162) (by kernel_rfl) ?_
    refine zrExit ?_
    refine zkSeqX ?_
    refine zkNil ?_
    exact endQ hS hQ (finL_x (by intro h; cases h) (by show _ = _ ∧ _ = _; exact ⟨rfl, rfl⟩))
noncomputable def f14_l8 (a1 : GParser) (x : Bool × Int) : Option ((Bool × Int) ⊕ Bool) := (bif (decide (x.2 < (a1.Inter.length : Int))) then (f14_l8_j9 a1 x.1 x.2 true) else (f14_l8_j9 a1 x.1 x.2 false))
theorem f14_l8_ok {d : Nat} (hd : 2 ≤ d) (a1 : GParser) {r : (Bool × Int) ⊕ Bool} {Q : PX → St → Prop} (hQ : ∀ e st', finL (f14_l8_H a1) (f14_l8_X a1) r e st' → Q e st') {x : Bool × Int} (hS : f14_l8 a1 x = some r) {st : St} (he : f14_l8_H a1 x st) : ZR (lev codes baseL (d - 1)) Q c14_7 [] st := by
  refine zrKeep he ?_
  unfold f14_l8 at hS
  refine zrSeq ?_
  refine zrReg ?_
  refine zlBool (d := 86) (op := (.cmpI .lss (.tmp 85) (.tmp 84))) (g := none) (j := 1) (decide (x.2 < (a1.Inter.length : Int))) rfl (by kernel_rfl) (by kernel_rfl) (by kernel_rfl) (fun hc => ?_) (fun hc => ?_)
  · replace hS := cond_t hc hS
    refine zlEnd (by kernel_rfl) ?_
    refine zkSeq ?_
    exact f14_l8_j9_ok hd a1 hQ x.1 x.2 true hS (by kernel_rfl)
  · replace hS := cond_f hc hS
    refine zlEnd (by kernel_rfl) ?_
    refine zkSeq ?_
    exact f14_l8_j9_ok hd a1 hQ x.1 x.2 false hS (by kernel_rfl)
def f14_j3_J (a1 : GParser) (p92 : Bool) : St := ⟨(up (up (fun _ => .un) 3 (.d (.bool p92))) 1 (.r (.ptr 16 0 0))), (up (hB fun _ => 0) 16 ⟨0, some (.box ((.d (.int .i64 a1.State)) :: ((.d (.int .i64 a1.Mark)) :: ((.d (.str a1.Inter)) :: ((.d (.str a1.Args)) :: ((.d (.str a1.Text)) :: []))))))⟩)⟩
noncomputable def f14_j3 (a1 : GParser) (p92 : Bool) : Option (Int) := ((chk (decide (a1.Inter.length ≤ 140737488355328))).bind fun z55 => ((loopO (f14_l8 a1) (p92, 0)).bind fun z59 => (f14_j4 a1 z59)))
theorem f14_j3_ok {d : Nat} (hd : 2 ≤ d) (a1 : GParser) {r : Int} {Q : PX → St → Prop} (hQ : ∀ e st', f14_Q r e st' → Q e st') (p92 : Bool) (hS : f14_j3 a1 p92 = some r) {st : St} (he : keepSt [1, 3] [(16, .id 16)] [] st = f14_j3_J a1 p92) : ZR (lev codes baseL (d - 1)) Q c14_8 [] st := by
  refine zrKeep he ?_
  unfold f14_j3 at hS
  refine zrSeq ?_
  refine zrSeq ?_
  refine zrReg ?_
  refine zlRun (n := 2) (j := 2) rfl (by kernel_rfl) ?_
  refine bindE hS (fun z55 hz55 hS => ?_)
  refine zlOp (d := some 83) (op := (.cvSO 5 (.tmp 82))) (g := none) (v := (.r (.msl 672 1 0 a1.Inter.length))) (ups := [(672, ⟨1, some (.own 5 1 (eU8.cells a1.Inter))⟩)]) (j := 3) rfl (by kernel_rfl) (by kernel_rfl) (ev_cvSO (s := a1.Inter) (by kernel_rfl) hz55) ?_
  refine zlRun (n := 2) (j := 5) rfl (by kernel_rfl) ?_
  refine zlEnd (by kernel_rfl) ?_
  refine zkSeq ?_
  refine zrBlk ?_
  refine bindE hS (fun z59 hz59 hS => ?_)
  refine zrLoop (f14_l8_H a1) (f14_l8_X a1) (fun x st r Q h0 hS hQ => f14_l8_ok hd a1 hQ hS h0) (x := (p92, 0)) (z := z59) (by show keepSt _ _ _ _ = _; kernel_rfl) hz59 ?_
  intro e st' _ hX
  obtain ⟨rfl, rfl⟩ : _ ∧ _ := hX
  refine zkBlkX ?_
  refine zkSeq ?_
  exact f14_j4_ok hd a1 hQ z59 hS (by kernel_rfl)
def f14_j2_J (a1 : GParser) (p88 : Bool) : St := ⟨(up (up (fun _ => .un) 3 (.d (.bool p88))) 1 (.r (.ptr 16 0 0))), (up (hB fun _ => 0) 16 ⟨0, some (.box ((.d (.int .i64 a1.State)) :: ((.d (.int .i64 a1.Mark)) :: ((.d (.str a1.Inter)) :: ((.d (.str a1.Args)) :: ((.d (.str a1.Text)) :: []))))))⟩)⟩
noncomputable def f14_j2 (a1 : GParser) (p88 : Bool) : Option (Int) := (bif p88 then (bif (decide ((a1.Text.length : Int) ≤ 256)) then (bif (decide (a1.Text = ([] : List UInt8))) then (f14_j3 a1 true) else ((f30 a1.State 7 8).bind fun z60 => (f14_j3 a1 z60))) else (f14_j3 a1 false)) else (f14_j3 a1 false))
theorem f14_j2_ok {d : Nat} (hd : 2 ≤ d) (a1 : GParser) {r : Int} {Q : PX → St → Prop} (hQ : ∀ e st', f14_Q r e st' → Q e st') (p88 : Bool) (hS : f14_j2 a1 p88 = some r) {st : St} (he : keepSt [1, 3] [(16, .id 16)] [] st = f14_j2_J a1 p88) : ZR (lev codes baseL (d - 1)) Q c14_9 [] st := by
  refine zrKeep he ?_
  unfold f14_j2 at hS
  refine zrSeq ?_
  refine zrReg ?_
  refine zlRun (n := 2) (j := 2) rfl (by kernel_rfl) ?_
  refine zlSplit 65 p88 (by kernel_rfl) (fun hc => ?_) (fun hc => ?_)
  · replace hS := cond_t hc hS
    refine zlRun (n := 3) (j := 5) rfl (by kernel_rfl) ?_
    refine zlBool (d := 69) (op := (.cmpI .leq (.tmp 68) (.const (.int .i64 256)))) (g := (some (65, true))) (j := 6) (decide ((a1.Text.length : Int) ≤ 256)) rfl (by kernel_rfl) (by kernel_rfl) (by kernel_rfl) (fun hc => ?_) (fun hc => ?_)
    · replace hS := cond_t hc hS
      refine zlRun (n := 4) (j := 10) rfl (by kernel_rfl) ?_
      refine zlBool (d := 74) (op := (.strO .eql (.tmp 73) (.const (.string ⟨#[]⟩)))) (g := (some (71, true))) (j := 11) (decide (a1.Text = ([] : List UInt8))) rfl (by kernel_rfl) (by kernel_rfl) (by kernel_rfl) (fun hc => ?_) (fun hc => ?_)
      · replace hS := cond_t hc hS
        refine zlRun (n := 7) (j := 18) rfl (by kernel_rfl) ?_
        refine zlEnd (by kernel_rfl) ?_
        refine zkSeq ?_
        exact f14_j3_ok hd a1 hQ true hS (by kernel_rfl)
      · replace hS := cond_f hc hS
        refine zlRun (n := 3) (j := 14) rfl (by kernel_rfl) ?_
        refine bindE hS (fun z60 hz60 hS => ?_)
        refine zlOp (d := some 78) (op := (.call 30 [(.tmp 77), (.const (.int .i64 7)), (.const (.int .i64 8))])) (g := (some (75, false))) (v := (.d (.bool z60))) (ups := []) (j := 15) rfl (by kernel_rfl) (by kernel_rfl) (ev_call (args := [(.d (.int .i64 a1.State)), (.d (.int .i64 7)), (.d (.int .i64 8))]) (l := [(.d (.int .i64 a1.State)), (.d (.int .i64 7)), (.d (.int .i64 8))]) (r := (.d (.bool z60))) (by kernel_rfl) (by kernel_rfl) (f30_ok (d - 1) (dpt hd rfl) a1.State 7 8 z60 hz60) (by kernel_rfl) (by kernel_rfl) (by kernel_rfl)) ?_
        refine zlRun (n := 3) (j := 18) rfl (by kernel_rfl) ?_
        refine zlEnd (by kernel_rfl) ?_
        refine zkSeq ?_
        exact f14_j3_ok hd a1 hQ z60 hS (by kernel_rfl)
    · replace hS := cond_f hc hS
      refine zlRun (n := 12) (j := 18) rfl (by kernel_rfl) ?_
      refine zlEnd (by kernel_rfl) ?_
      refine zkSeq ?_
      exact f14_j3_ok hd a1 hQ false hS (by kernel_rfl)
  · replace hS := cond_f hc hS
    refine zlRun (n := 16) (j := 18) rfl (by kernel_rfl) ?_
    refine zlEnd (by kernel_rfl) ?_
    refine zkSeq ?_
    exact f14_j3_ok hd a1 hQ false hS (by kernel_rfl)
def f14_j1_J (a1 : GParser) (p84 : Bool) : St := ⟨(up (up (fun _ => .un) 3 (.d (.bool p84))) 1 (.r (.ptr 16 0 0))), (up (hB fun _ => 0) 16 ⟨0, some (.box ((.d (.int .i64 a1.State)) :: ((.d (.int .i64 a1.Mark)) :: ((.d (.str a1.Inter)) :: ((.d (.str a1.Args)) :: ((.d (.str a1.Text)) :: []))))))⟩)⟩
noncomputable def f14_j1 (a1 : GParser) (p84 : Bool) : Option (Int) := (bif p84 then (bif (decide ((a1.Args.length : Int) ≤ 100)) then (bif (decide (a1.Args = ([] : List UInt8))) then (f14_j2 a1 true) else ((f30 a1.State 4 5).bind fun z61 => (f14_j2 a1 z61))) else (f14_j2 a1 false)) else (f14_j2 a1 false))
theorem f14_j1_ok {d : Nat} (hd : 2 ≤ d) (a1 : GParser) {r : Int} {Q : PX → St → Prop} (hQ : ∀ e st', f14_Q r e st' → Q e st') (p84 : Bool) (hS : f14_j1 a1 p84 = some r) {st : St} (he : keepSt [1, 3] [(16, .id 16)] [] st = f14_j1_J a1 p84) : ZR (lev codes baseL (d - 1)) Q c14_10 [] st := by
  refine zrKeep he ?_
  unfold f14_j1 at hS
  refine zrSeq ?_
  refine zrReg ?_
  refine zlRun (n := 2) (j := 2) rfl (by kernel_rfl) ?_
  refine zlSplit 48 p84 (by kernel_rfl) (fun hc => ?_) (fun hc => ?_)
  · replace hS := cond_t hc hS
    refine zlRun (n := 3) (j := 5) rfl (by kernel_rfl) ?_
    refine zlBool (d := 52) (op := (.cmpI .leq (.tmp 51) (.const (.int .i64 100)))) (g := (some (48, true))) (j := 6) (decide ((a1.Args.length : Int) ≤ 100)) rfl (by kernel_rfl) (by kernel_rfl) (by kernel_rfl) (fun hc => ?_) (fun hc => ?_)
    · replace hS := cond_t hc hS
      refine zlRun (n := 4) (j := 10) rfl (by kernel_rfl) ?_
      refine zlBool (d := 57) (op := (.strO .eql (.tmp 56) (.const (.string ⟨#[]⟩)))) (g := (some (54, true))) (j := 11) (decide (a1.Args = ([] : List UInt8))) rfl (by kernel_rfl) (by kernel_rfl) (by kernel_rfl) (fun hc => ?_) (fun hc => ?_)
      · replace hS := cond_t hc hS
        refine zlRun (n := 7) (j := 18) rfl (by kernel_rfl) ?_
        refine zlEnd (by kernel_rfl) ?_
        refine zkSeq ?_
        exact f14_j2_ok hd a1 hQ true hS (by kernel_rfl)
      · replace hS := cond_f hc hS
        refine zlRun (n := 3) (j := 14) rfl (by kernel_rfl) ?_
        refine bindE hS (fun z61 hz61 hS => ?_)
        refine zlOp (d := some 61) (op := (.call 30 [(.tmp 60), (.const (.int .i64 4)), (.const (.int .i64 5))])) (g := (some (58, false))) (v := (.d (.bool z61))) (ups := []) (j := 15) rfl (by kernel_rfl) (by kernel_rfl) (ev_call (args := [(.d (.int .i64 a1.State)), (.d (.int .i64 4)), (.d (.int .i64 5))]) (l := [(.d (.int .i64 a1.State)), (.d (.int .i64 4)), (.d (.int .i64 5))]) (r := (.d (.bool z61))) (by kernel_rfl) (by kernel_rfl) (f30_ok (d - 1) (dpt hd rfl) a1.State 4 5 z61 hz61) (by kernel_rfl) (by kernel_rfl) (by kernel_rfl)) ?_
        refine zlRun (n := 3) (j := 18) rfl (by kernel_rfl) ?_
        refine zlEnd (by kernel_rfl) ?_
        refine zkSeq ?_
        exact f14_j2_ok hd a1 hQ z61 hS (by kernel_rfl)
    · replace hS := cond_f hc hS
      refine zlRun (n := 12) (j := 18) rfl (by kernel_rfl) ?_
      refine zlEnd (by kernel_rfl) ?_
      refine zkSeq ?_
      exact f14_j2_ok hd a1 hQ false hS (by kernel_rfl)
  · replace hS := cond_f hc hS
    refine zlRun (n := 16) (j := 18) rfl (by kernel_rfl) ?_
    refine zlEnd (by kernel_rfl) ?_
    refine zkSeq ?_
    exact f14_j2_ok hd a1 hQ false hS (by kernel_rfl)
def f14_j0_J (a1 : GParser) (p77 : Bool) : St := ⟨(up (up (fun _ => .un) 3 (.d (.bool p77))) 1 (.r (.ptr 16 0 0))), (up (hB fun _ => 0) 16 ⟨0, some (.box ((.d (.int .i64 a1.State)) :: ((.d (.int .i64 a1.Mark)) :: ((.d (.str a1.Inter)) :: ((.d (.str a1.Args)) :: ((.d (.str a1.Text)) :: []))))))⟩)⟩
noncomputable def f14_j0 (a1 : GParser) (p77 : Bool) : Option (Int) := (bif p77 then (bif (decide ((a1.Inter.length : Int) ≤ 3)) then (bif (!decide (a1.Inter = ([] : List UInt8))) then (bif (decide (a1.State = 2)) then (f14_j1 a1 true) else (bif (decide (a1.State = 5)) then (f14_j1 a1 true) else (f14_j1 a1 false))) else (bif (decide (a1.State = 2)) then (f14_j1 a1 false) else (bif (decide (a1.State = 5)) then (f14_j1 a1 false) else (f14_j1 a1 true)))) else (f14_j1 a1 false)) else (f14_j1 a1 false))
theorem f14_j0_ok {d : Nat} (hd : 2 ≤ d) (a1 : GParser) {r : Int} {Q : PX → St → Prop} (hQ : ∀ e st', f14_Q r e st' → Q e st') (p77 : Bool) (hS : f14_j0 a1 p77 = some r) {st : St} (he : keepSt [1, 3] [(16, .id 16)] [] st = f14_j0_J a1 p77) : ZR (lev codes baseL (d - 1)) Q c14_11 [] st := by
  refine zrKeep he ?_
  unfold f14_j0 at hS
  refine zrSeq ?_
  refine zrReg ?_
  refine zlRun (n := 2) (j := 2) rfl (by kernel_rfl) ?_
  refine zlSplit 27 p77 (by kernel_rfl) (fun hc => ?_) (fun hc => ?_)
  · replace hS := cond_t hc hS
    refine zlRun (n := 3) (j := 5) rfl (by kernel_rfl) ?_
    refine zlBool (d := 31) (op := (.cmpI .leq (.tmp 30) (.const (.int .i64 3)))) (g := (some (27, true))) (j := 6) (decide ((a1.Inter.length : Int) ≤ 3)) rfl (by kernel_rfl) (by kernel_rfl) (by kernel_rfl) (fun hc => ?_) (fun hc => ?_)
    · replace hS := cond_t hc hS
      refine zlRun (n := 4) (j := 10) rfl (by kernel_rfl) ?_
      refine zlBool (d := 36) (op := (.strO .neq (.tmp 35) (.const (.string ⟨#[]⟩)))) (g := (some (33, true))) (j := 11) (!decide (a1.Inter = ([] : List UInt8))) rfl (by kernel_rfl) (by kernel_rfl) (by kernel_rfl) (fun hc => ?_) (fun hc => ?_)
      · replace hS := cond_t hc hS
        refine zlRun (n := 2) (j := 13) rfl (by kernel_rfl) ?_
        refine zlBool (d := 39) (op := (.cmpI .eql (.tmp 38) (.const (.int .i64 2)))) (g := (some (33, true))) (j := 14) (decide (a1.State = 2)) rfl (by kernel_rfl) (by kernel_rfl) (by kernel_rfl) (fun hc => ?_) (fun hc => ?_)
        · replace hS := cond_t hc hS
          refine zlRun (n := 8) (j := 22) rfl (by kernel_rfl) ?_
          refine zlEnd (by kernel_rfl) ?_
          refine zkSeq ?_
          exact f14_j1_ok hd a1 hQ true hS (by kernel_rfl)
        · replace hS := cond_f hc hS
          refine zlRun (n := 3) (j := 17) rfl (by kernel_rfl) ?_
          refine zlBool (d := 43) (op := (.cmpI .eql (.tmp 42) (.const (.int .i64 5)))) (g := (some (40, false))) (j := 18) (decide (a1.State = 5)) rfl (by kernel_rfl) (by kernel_rfl) (by kernel_rfl) (fun hc => ?_) (fun hc => ?_)
          · replace hS := cond_t hc hS
            refine zlRun (n := 4) (j := 22) rfl (by kernel_rfl) ?_
            refine zlEnd (by kernel_rfl) ?_
            refine zkSeq ?_
            exact f14_j1_ok hd a1 hQ true hS (by kernel_rfl)
          · replace hS := cond_f hc hS
            refine zlRun (n := 4) (j := 22) rfl (by kernel_rfl) ?_
            refine zlEnd (by kernel_rfl) ?_
            refine zkSeq ?_
            exact f14_j1_ok hd a1 hQ false hS (by kernel_rfl)
      · replace hS := cond_f hc hS
        refine zlRun (n := 2) (j := 13) rfl (by kernel_rfl) ?_
        refine zlBool (d := 39) (op := (.cmpI .eql (.tmp 38) (.const (.int .i64 2)))) (g := (some (33, true))) (j := 14) (decide (a1.State = 2)) rfl (by kernel_rfl) (by kernel_rfl) (by kernel_rfl) (fun hc => ?_) (fun hc => ?_)
        · replace hS := cond_t hc hS
          refine zlRun (n := 8) (j := 22) rfl (by kernel_rfl) ?_
          refine zlEnd (by kernel_rfl) ?_
          refine zkSeq ?_
          exact f14_j1_ok hd a1 hQ false hS (by kernel_rfl)
        · replace hS := cond_f hc hS
          refine zlRun (n := 3) (j := 17) rfl (by kernel_rfl) ?_
          refine zlBool (d := 43) (op := (.cmpI .eql (.tmp 42) (.const (.int .i64 5)))) (g := (some (40, false))) (j := 18) (decide (a1.State = 5)) rfl (by kernel_rfl) (by kernel_rfl) (by kernel_rfl) (fun hc => ?_) (fun hc => ?_)
          · replace hS := cond_t hc hS
            refine zlRun (n := 4) (j := 22) rfl (by kernel_rfl) ?_
            refine zlEnd (by kernel_rfl) ?_
            refine zkSeq ?_
            exact f14_j1_ok hd a1 hQ false hS (by kernel_rfl)
          · replace hS := cond_f hc hS
            refine zlRun (n := 4) (j := 22) rfl (by kernel_rfl) ?_
            refine zlEnd (by kernel_rfl) ?_
            refine zkSeq ?_
            exact f14_j1_ok hd a1 hQ true hS (by kernel_rfl)
    · replace hS := cond_f hc hS
      refine zlRun (n := 16) (j := 22) rfl (by kernel_rfl) ?_
      refine zlEnd (by kernel_rfl) ?_
      refine zkSeq ?_
      exact f14_j1_ok hd a1 hQ false hS (by kernel_rfl)
  · replace hS := cond_f hc hS
    refine zlRun (n := 20) (j := 22) rfl (by kernel_rfl) ?_
    refine zlEnd (by kernel_rfl) ?_
    refine zkSeq ?_
    exact f14_j1_ok hd a1 hQ false hS (by kernel_rfl)
noncomputable def f14 (a1 : GParser) : Option (Int) := ((f30 a1.State 0 10).bind fun z62 => (bif z62 then (bif (decide (a1.Mark = 0)) then (f14_j0 a1 true) else ((f30 a1.Mark 60 63).bind fun z63 => (bif z63 then ((f30 a1.State 4 5).bind fun z64 => (f14_j0 a1 z64)) else (f14_j0 a1 false)))) else (f14_j0 a1 false)))
theorem f14_ok (d : Nat) (hd : 2 ≤ d) (a1 : GParser) (r : Int) (hS : f14 a1 = some r) : lev codes baseL d 14 [(.agg ((.d (.int .i64 a1.State)) :: ((.d (.int .i64 a1.Mark)) :: ((.d (.str a1.Inter)) :: ((.d (.str a1.Args)) :: ((.d (.str a1.Text)) :: []))))))] [] = some ((.d (.int .i64 r)), []) := by
  refine lev_go codes14 rfl rfl (Nat.le_trans (Nat.le_of_ble_eq_true rfl) hd) fun Q hQ => ?_
  unfold f14 at hS
  show ZR _ Q c14_b [] _
  replace hQ : ∀ e st', f14_Q r e st' → Q e st' := hQ
  refine zrSeq ?_
  refine zrReg ?_
  refine zlRun (n := 2) (j := 2) rfl (by kernel_rfl) ?_
  refine zlEnd (by kernel_rfl) ?_
  refine zkSeq ?_
  refine zrSeq ?_
  refine zrReg ?_
  refine zlRun (n := 2) (j := 2) rfl (by kernel_rfl) ?_
  refine bindE hS (fun z62 hz62 hS => ?_)
  refine zlOp (d := some 10) (op := (.call 30 [(.tmp 9), (.const (.int .i64 0)), (.const (.int .i64 10))])) (g := none) (v := (.d (.bool z62))) (ups := []) (j := 3) rfl (by kernel_rfl) (by kernel_rfl) (ev_call (args := [(.d (.int .i64 a1.State)), (.d (.int .i64 0)), (.d (.int .i64 10))]) (l := [(.d (.int .i64 a1.State)), (.d (.int .i64 0)), (.d (.int .i64 10))]) (r := (.d (.bool z62))) (by kernel_rfl) (by kernel_rfl) (f30_ok (d - 1) (dpt hd rfl) a1.State 0 10 z62 hz62) (by kernel_rfl) (by kernel_rfl) (by kernel_rfl)) ?_
  refine zlRun (n := 1) (j := 4) rfl (by kernel_rfl) ?_
  refine zlSplit 11 z62 (by kernel_rfl) (fun hc => ?_) (fun hc => ?_)
  · replace hS := cond_t hc hS
    refine zlRun (n := 2) (j := 6) rfl (by kernel_rfl) ?_
    refine zlBool (d := 14) (op := (.cmpI .eql (.tmp 13) (.const (.int .i64 0)))) (g := (some (11, true))) (j := 7) (decide (a1.Mark = 0)) rfl (by kernel_rfl) (by kernel_rfl) (by kernel_rfl) (fun hc => ?_) (fun hc => ?_)
    · replace hS := cond_t hc hS
      refine zlRun (n := 12) (j := 19) rfl (by kernel_rfl) ?_
      refine zlEnd (by kernel_rfl) ?_
      refine zkSeq ?_
      exact f14_j0_ok hd a1 hQ true hS (by kernel_rfl)
    · replace hS := cond_f hc hS
      refine zlRun (n := 3) (j := 10) rfl (by kernel_rfl) ?_
      refine bindE hS (fun z63 hz63 hS => ?_)
      refine zlOp (d := some 18) (op := (.call 30 [(.tmp 17), (.const (.int .i64 60)), (.const (.int .i64 63))])) (g := (some (15, false))) (v := (.d (.bool z63))) (ups := []) (j := 11) rfl (by kernel_rfl) (by kernel_rfl) (ev_call (args := [(.d (.int .i64 a1.Mark)), (.d (.int .i64 60)), (.d (.int .i64 63))]) (l := [(.d (.int .i64 a1.Mark)), (.d (.int .i64 60)), (.d (.int .i64 63))]) (r := (.d (.bool z63))) (by kernel_rfl) (by kernel_rfl) (f30_ok (d - 1) (dpt hd rfl) a1.Mark 60 63 z63 hz63) (by kernel_rfl) (by kernel_rfl) (by kernel_rfl)) ?_
      refine zlRun (n := 1) (j := 12) rfl (by kernel_rfl) ?_
      refine zlSplit 19 z63 (by kernel_rfl) (fun hc => ?_) (fun hc => ?_)
      · replace hS := cond_t hc hS
        refine zlRun (n := 2) (j := 14) rfl (by kernel_rfl) ?_
        refine bindE hS (fun z64 hz64 hS => ?_)
        refine zlOp (d := some 22) (op := (.call 30 [(.tmp 21), (.const (.int .i64 4)), (.const (.int .i64 5))])) (g := (some (19, true))) (v := (.d (.bool z64))) (ups := []) (j := 15) rfl (by kernel_rfl) (by kernel_rfl) (ev_call (args := [(.d (.int .i64 a1.State)), (.d (.int .i64 4)), (.d (.int .i64 5))]) (l := [(.d (.int .i64 a1.State)), (.d (.int .i64 4)), (.d (.int .i64 5))]) (r := (.d (.bool z64))) (by kernel_rfl) (by kernel_rfl) (f30_ok (d - 1) (dpt hd rfl) a1.State 4 5 z64 hz64) (by kernel_rfl) (by kernel_rfl) (by kernel_rfl)) ?_
        refine zlRun (n := 4) (j := 19) rfl (by kernel_rfl) ?_
        refine zlEnd (by kernel_rfl) ?_
        refine zkSeq ?_
        exact f14_j0_ok hd a1 hQ z64 hS (by kernel_rfl)
      · replace hS := cond_f hc hS
        refine zlRun (n := 7) (j := 19) rfl (by kernel_rfl) ?_
        refine zlEnd (by kernel_rfl) ?_
        refine zkSeq ?_
        exact f14_j0_ok hd a1 hQ false hS (by kernel_rfl)
  · replace hS := cond_f hc hS
    refine zlRun (n := 15) (j := 19) rfl (by kernel_rfl) ?_
    refine zlEnd (by kernel_rfl) ?_
    refine zkSeq ?_
    exact f14_j0_ok hd a1 hQ false hS (by kernel_rfl)
/- farwriter/farkeep.ParseRight -/
def f4_fin (p543 : Bool) : St := ⟨(up (fun _ => .un) 4 (.d (.bool p543))), (hB fun _ => 0)⟩
theorem f4_out (p543 : Bool) : outR (f4_fin p543) 0 c4.res = some ((.d (.bool p543)), []) := by
  kernel_rfl
def f4_Q (r : Bool) (e : PX) (st : St) : Prop := DoneF c4 0 ((.d (.bool r)), []) e st
def f4_j2_J (a1 : GParser) (a2 : List Int) (p1088 : GParser) (p1089 : Int) : St := ⟨(up (up (fun _ => .un) 8 (.d (.int .i64 p1089))) 5 (.r (.ptr 48 0 0))), (up (hB fun _ => 0) 48 ⟨0, some (.box ((.d (.int .i64 p1088.State)) :: ((.d (.int .i64 p1088.Mark)) :: ((.d (.str p1088.Inter)) :: ((.d (.str p1088.Args)) :: ((.d (.str p1088.Text)) :: []))))))⟩)⟩
noncomputable def f4_j2 (a1 : GParser) (a2 : List Int) (p1088 : GParser) (p1089 : Int) : Option (Bool) := (bif (decide (0 ≤ p1089)) then ((f14 p1088).bind fun z27 => (bif (decide (z27 = 0)) then ((f15 p1088).bind fun z28 => (bif (decide (z28 = 0)) then (some true) else (some false))) else (some false))) else (some false))
theorem f4_j2_ok {d : Nat} (hd : 8 ≤ d) (a1 : GParser) (a2 : List Int) {r : Bool} {Q : PX → St → Prop} (hQ : ∀ e st', f4_Q r e st' → Q e st') (p1088 : GParser) (p1089 : Int) (hS : f4_j2 a1 a2 p1088 p1089 = some r) {st : St} (he : keepSt [5, 8] [(48, .id 48)] [] st = f4_j2_J a1 a2 p1088 p1089) : ZR (lev codes baseL (d - 1)) Q c4_1 [] st := by
  refine zrKeep he ?_
  unfold f4_j2 at hS
  refine zrSeq ?_
  refine zrReg ?_
  refine zlRun (n := 1) (j := 1) rfl (by kernel_rfl) ?_
  refine zlBool (d := 81) (op := (.cmpI .geq (.tmp 80) (.const (.int .i64 0)))) (g := none) (j := 2) (decide (0 ≤ p1089)) rfl (by kernel_rfl) (by kernel_rfl) (by kernel_rfl) (fun hc => ?_) (fun hc => ?_)
  · replace hS := cond_t hc hS
    refine zlRun (n := 2) (j := 4) rfl (by kernel_rfl) ?_
    refine bindE hS (fun z27 hz27 hS => ?_)
    refine zlOp (d := some 84) (op := (.call 14 [(.tmp 83)])) (g := (some (82, true))) (v := (.d (.int .i64 z27))) (ups := []) (j := 5) rfl (by kernel_rfl) (by kernel_rfl) (ev_call (args := [(.agg ((.d (.int .i64 p1088.State)) :: ((.d (.int .i64 p1088.Mark)) :: ((.d (.str p1088.Inter)) :: ((.d (.str p1088.Args)) :: ((.d (.str p1088.Text)) :: []))))))]) (l := [(.agg ((.d (.int .i64 p1088.State)) :: ((.d (.int .i64 p1088.Mark)) :: ((.d (.str p1088.Inter)) :: ((.d (.str p1088.Args)) :: ((.d (.str p1088.Text)) :: []))))))]) (r := (.d (.int .i64 z27))) (by kernel_rfl) (by kernel_rfl) (f14_ok (d - 1) (dpt hd rfl) p1088 z27 hz27) (by kernel_rfl) (by kernel_rfl) (by kernel_rfl)) ?_
    refine zlBool (d := 85) (op := (.cmpI .eql (.tmp 84) (.const (.int .i64 0)))) (g := (some (82, true))) (j := 6) (decide (z27 = 0)) rfl (by kernel_rfl) (by kernel_rfl) (by kernel_rfl) (fun hc => ?_) (fun hc => ?_)
    · replace hS := cond_t hc hS
      refine zlRun (n := 3) (j := 9) rfl (by kernel_rfl) ?_
      refine bindE hS (fun z28 hz28 hS => ?_)
      refine zlOp (d := some 89) (op := (.call 15 [(.tmp 88)])) (g := (some (87, true))) (v := (.d (.int .i64 z28))) (ups := []) (j := 10) rfl (by kernel_rfl) (by kernel_rfl) (ev_call (args := [(.agg ((.d (.int .i64 p1088.State)) :: ((.d (.int .i64 p1088.Mark)) :: ((.d (.str p1088.Inter)) :: ((.d (.str p1088.Args)) :: ((.d (.str p1088.Text)) :: []))))))]) (l := [(.agg ((.d (.int .i64 p1088.State)) :: ((.d (.int .i64 p1088.Mark)) :: ((.d (.str p1088.Inter)) :: ((.d (.str p1088.Args)) :: ((.d (.str p1088.Text)) :: []))))))]) (r := (.d (.int .i64 z28))) (by kernel_rfl) (by kernel_rfl) (f15_ok (d - 1) (dpt hd rfl) p1088 z28 hz28) (by kernel_rfl) (by kernel_rfl) (by kernel_rfl)) ?_
      refine zlBool (d := 90) (op := (.cmpI .eql (.tmp 89) (.const (.int .i64 0)))) (g := (some (87, true))) (j := 11) (decide (z28 = 0)) rfl (by kernel_rfl) (by kernel_rfl) (by kernel_rfl) (fun hc => ?_) (fun hc => ?_)
      · replace hS := cond_t hc hS
        refine zlRun (n := 2) (j := 13) rfl (by kernel_rfl) ?_
        refine zlEnd (by kernel_rfl) ?_
        refine zkSeq ?_
        refine zrRet ?_
        refine zkNil ?_
        exact endQ hS hQ (fRet ((congrArg (fun s => outR s 0 c4.res) (by kernel_rfl : finSt c4.fin _ = f4_fin true)).trans (f4_out true)))
      · replace hS := cond_f hc hS
        refine zlRun (n := 2) (j := 13) rfl (by kernel_rfl) ?_
        refine zlEnd (by kernel_rfl) ?_
        refine zkSeq ?_
        refine zrRet ?_
        refine zkNil ?_
        exact endQ hS hQ (fRet ((congrArg (fun s => outR s 0 c4.res) (by kernel_rfl : finSt c4.fin _ = f4_fin false)).trans (f4_out false)))
    · replace hS := cond_f hc hS
      refine zlRun (n := 7) (j := 13) rfl (by kernel_rfl) ?_
      refine zlEnd (by kernel_rfl) ?_
      refine zkSeq ?_
      refine zrRet ?_
      refine zkNil ?_
      exact endQ hS hQ (fRet ((congrArg (fun s => outR s 0 c4.res) (by kernel_rfl : finSt c4.fin _ = f4_fin false)).trans (f4_out false)))
  · replace hS := cond_f hc hS
    refine zlRun (n := 11) (j := 13) rfl (by kernel_rfl) ?_
    refine zlEnd (by kernel_rfl) ?_
    refine zkSeq ?_
    refine zrRet ?_
    refine zkNil ?_
    exact endQ hS hQ (fRet ((congrArg (fun s => outR s 0 c4.res) (by kernel_rfl : finSt c4.fin _ = f4_fin false)).trans (f4_out false)))
def f4_l3_J (a1 : GParser) (a2 : List Int) (x : GParser × Int × (List GAct) × Int × Int) : St := ⟨(up (up (up (up (up (fun _ => .un) 44 (.d (.int .i64 x.2.2.2.2))) 43 (.d (.int .i64 x.2.2.2.1))) 42 (.r (.msl 136 0 0 x.2.2.1.length))) 8 (.d (.int .i64 x.2.1))) 5 (.r (.ptr 48 0 0))), (up (up (hB fun _ => 0) 136 ⟨0, some (.own 31 6 (e_GAct.cells x.2.2.1))⟩) 48 ⟨0, some (.box ((.d (.int .i64 x.1.State)) :: ((.d (.int .i64 x.1.Mark)) :: ((.d (.str x.1.Inter)) :: ((.d (.str x.1.Args)) :: ((.d (.str x.1.Text)) :: []))))))⟩)⟩
def f4_l3_H (a1 : GParser) (a2 : List Int) (x : GParser × Int × (List GAct) × Int × Int) (st : St) : Prop := keepSt [5, 8, 42, 43, 44] [(48, .id 48), (136, .id 136)] [] st = f4_l3_J a1 a2 x
def f4_l3_e2_J (a1 : GParser) (a2 : List Int) (p1086 : GParser) (p1087 : Int) : St := ⟨(up (up (fun _ => .un) 8 (.d (.int .i64 p1087))) 5 (.r (.ptr 48 0 0))), (up (hB fun _ => 0) 48 ⟨0, some (.box ((.d (.int .i64 p1086.State)) :: ((.d (.int .i64 p1086.Mark)) :: ((.d (.str p1086.Inter)) :: ((.d (.str p1086.Args)) :: ((.d (.str p1086.Text)) :: []))))))⟩)⟩
def f4_l3_X (a1 : GParser) (a2 : List Int) (z : (GParser × Int) ⊕ Bool) (e : PX) (st : St) : Prop := (match z with | .inl z => e = .exit 2 ∧ st = f4_l3_e2_J a1 a2 z.1 z.2 | .inr z => e = .ret ∧ finSt c4.fin st = f4_fin z)
def f4_l3_j6_J (a1 : GParser) (a2 : List Int) (p1120 : GParser) (p1121 : Int) (p1122 : GAct) (p1123 : List GAct) (p1124 : Int) (p1125 : Int) : St := ⟨(up (up (up (up (up (up (fun _ => .un) 44 (.d (.int .i64 p1125))) 43 (.d (.int .i64 p1124))) 42 (.r (.msl 136 0 0 p1123.length))) 12 (.r (.ptr 104 0 0))) 8 (.d (.int .i64 p1121))) 5 (.r (.ptr 48 0 0))), (up (up (up (hB fun _ => 0) 136 ⟨0, some (.own 31 6 (e_GAct.cells p1123))⟩) 104 ⟨0, some (.box ((.d (.int .i64 p1122.Kind)) :: ((.d (.int .i64 p1122.Code)) :: ((.d (.int .i64 p1122.Mark)) :: ((.d (.str p1122.Inter)) :: ((.d (.sl p1122.Args.length ((eInt .i64).cells p1122.Args))) :: ((.d (.str p1122.Text)) :: [])))))))⟩) 48 ⟨0, some (.box ((.d (.int .i64 p1120.State)) :: ((.d (.int .i64 p1120.Mark)) :: ((.d (.str p1120.Inter)) :: ((.d (.str p1120.Args)) :: ((.d (.str p1120.Text)) :: []))))))⟩)⟩
noncomputable def f4_l3_j6 (a1 : GParser) (a2 : List Int) (p1120 : GParser) (p1121 : Int) (p1122 : GAct) (p1123 : List GAct) (p1124 : Int) (p1125 : Int) : Option ((GParser × Int × (List GAct) × Int × Int) ⊕ ((GParser × Int) ⊕ Bool)) := (bif (decide (256 < (p1122.Text.length : Int))) then (some (.inr (.inr false))) else (bif (decide (2 < (p1122.Inter.length : Int))) then (some (.inr (.inr false))) else (bif (decide (32 < (p1122.Args.length : Int))) then (some (.inr (.inr false))) else (bif (decide (p1122.Kind < 1)) then (some (.inr (.inr false))) else (bif (decide (6 < p1122.Kind)) then (some (.inr (.inr false))) else (some (.inl (p1120, p1121, p1123, p1124, (IntKind.i64.wrap (p1125 + 1))))))))))
theorem f4_l3_j6_ok {d : Nat} (hd : 8 ≤ d) (a1 : GParser) (a2 : List Int) {r : (GParser × Int × (List GAct) × Int × Int) ⊕ ((GParser × Int) ⊕ Bool)} {Q : PX → St → Prop} (hQ : ∀ e st', finL (f4_l3_H a1 a2) (f4_l3_X a1 a2) r e st' → Q e st') (p1120 : GParser) (p1121 : Int) (p1122 : GAct) (p1123 : List GAct) (p1124 : Int) (p1125 : Int) (hS : f4_l3_j6 a1 a2 p1120 p1121 p1122 p1123 p1124 p1125 = some r) {st : St} (he : keepSt [5, 8, 12, 42, 43, 44] [(48, .id 48), (104, .id 104), (136, .id 136)] [] st = f4_l3_j6_J a1 a2 p1120 p1121 p1122 p1123 p1124 p1125) : ZR (lev codes baseL (d - 1)) Q c4_2 [.blk 3, .seq c4_3] st := by
  refine zrKeep he ?_
  unfold f4_l3_j6 at hS
  refine zrSeq ?_
  refine zrReg ?_
  refine zlRun (n := 3) (j := 3) rfl (by kernel_rfl) ?_
  refine zlBool (d := 56) (op := (.cmpI .gtr (.tmp 55) (.const (.int .i64 256)))) (g := none) (j := 4) (decide (256 < (p1122.Text.length : Int))) rfl (by kernel_rfl) (by kernel_rfl) (by kernel_rfl) (fun hc => ?_) (fun hc => ?_)
  · replace hS := cond_t hc hS
    refine zlRun (n := 22) (j := 26) rfl (by kernel_rfl) ?_
    refine zlEnd (by kernel_rfl) ?_
    refine zkSeq ?_
    refine zrCondT (by kernel_rfl) ?_
    refine zrSeq ?_
    refine zrReg ?_
    refine zlRun (n := 1) (j := 1) rfl (by kernel_rfl) ?_
    refine zlEnd (by kernel_rfl) ?_
    refine zkSeq ?_
    refine zrRet ?_
    refine zkBlkR ?_
    refine zkSeqR ?_
    refine zkNil ?_
    exact endQ hS hQ (finL_x (by intro h; cases h) (by show _ = _ ∧ _ = _; exact ⟨rfl, by kernel_rfl⟩))
  · replace hS := cond_f hc hS
    refine zlRun (n := 4) (j := 8) rfl (by kernel_rfl) ?_
    refine zlBool (d := 61) (op := (.cmpI .gtr (.tmp 60) (.const (.int .i64 2)))) (g := (some (57, false))) (j := 9) (decide (2 < (p1122.Inter.length : Int))) rfl (by kernel_rfl) (by kernel_rfl) (by kernel_rfl) (fun hc => ?_) (fun hc => ?_)
    · replace hS := cond_t hc hS
      refine zlRun (n := 17) (j := 26) rfl (by kernel_rfl) ?_
      refine zlEnd (by kernel_rfl) ?_
      refine zkSeq ?_
      refine zrCondT (by kernel_rfl) ?_
      refine zrSeq ?_
      refine zrReg ?_
      refine zlRun (n := 1) (j := 1) rfl (by kernel_rfl) ?_
      refine zlEnd (by kernel_rfl) ?_
      refine zkSeq ?_
      refine zrRet ?_
      refine zkBlkR ?_
      refine zkSeqR ?_
      refine zkNil ?_
      exact endQ hS hQ (finL_x (by intro h; cases h) (by show _ = _ ∧ _ = _; exact ⟨rfl, by kernel_rfl⟩))
    · replace hS := cond_f hc hS
      refine zlRun (n := 5) (j := 14) rfl (by kernel_rfl) ?_
      refine zlBool (d := 67) (op := (.cmpI .gtr (.tmp 66) (.const (.int .i64 32)))) (g := (some (63, false))) (j := 15) (decide (32 < (p1122.Args.length : Int))) rfl (by kernel_rfl) (by kernel_rfl) (by kernel_rfl) (fun hc => ?_) (fun hc => ?_)
      · replace hS := cond_t hc hS
        refine zlRun (n := 11) (j := 26) rfl (by kernel_rfl) ?_
        refine zlEnd (by kernel_rfl) ?_
        refine zkSeq ?_
        refine zrCondT (by kernel_rfl) ?_
        refine zrSeq ?_
        refine zrReg ?_
        refine zlRun (n := 1) (j := 1) rfl (by kernel_rfl) ?_
        refine zlEnd (by kernel_rfl) ?_
        refine zkSeq ?_
        refine zrRet ?_
        refine zkBlkR ?_
        refine zkSeqR ?_
        refine zkNil ?_
        exact endQ hS hQ (finL_x (by intro h; cases h) (by show _ = _ ∧ _ = _; exact ⟨rfl, by kernel_rfl⟩))
      · replace hS := cond_f hc hS
        refine zlRun (n := 4) (j := 19) rfl (by kernel_rfl) ?_
        refine zlBool (d := 72) (op := (.cmpI .lss (.tmp 71) (.const (.int .i64 1)))) (g := (some (69, false))) (j := 20) (decide (p1122.Kind < 1)) rfl (by kernel_rfl) (by kernel_rfl) (by kernel_rfl) (fun hc => ?_) (fun hc => ?_)
        · replace hS := cond_t hc hS
          refine zlRun (n := 6) (j := 26) rfl (by kernel_rfl) ?_
          refine zlEnd (by kernel_rfl) ?_
          refine zkSeq ?_
          refine zrCondT (by kernel_rfl) ?_
          refine zrSeq ?_
          refine zrReg ?_
          refine zlRun (n := 1) (j := 1) rfl (by kernel_rfl) ?_
          refine zlEnd (by kernel_rfl) ?_
          refine zkSeq ?_
          refine zrRet ?_
          refine zkBlkR ?_
          refine zkSeqR ?_
          refine zkNil ?_
          exact endQ hS hQ (finL_x (by intro h; cases h) (by show _ = _ ∧ _ = _; exact ⟨rfl, by kernel_rfl⟩))
        · replace hS := cond_f hc hS
          refine zlRun (n := 4) (j := 24) rfl (by kernel_rfl) ?_
          refine zlBool (d := 77) (op := (.cmpI .gtr (.tmp 76) (.const (.int .i64 6)))) (g := (some (74, false))) (j := 25) (decide (6 < p1122.Kind)) rfl (by kernel_rfl) (by kernel_rfl) (by kernel_rfl) (fun hc => ?_) (fun hc => ?_)
          · replace hS := cond_t hc hS
            refine zlRun (n := 1) (j := 26) rfl (by kernel_rfl) ?_
            refine zlEnd (by kernel_rfl) ?_
            refine zkSeq ?_
            refine zrCondT (by kernel_rfl) ?_
            refine zrSeq ?_
            refine zrReg ?_
            refine zlRun (n := 1) (j := 1) rfl (by kernel_rfl) ?_
            refine zlEnd (by kernel_rfl) ?_
            refine zkSeq ?_
            refine zrRet ?_
            refine zkBlkR ?_
            refine zkSeqR ?_
            refine zkNil ?_
            exact endQ hS hQ (finL_x (by intro h; cases h) (by show _ = _ ∧ _ = _; exact ⟨rfl, by kernel_rfl⟩))
          · replace hS := cond_f hc hS
            refine zlRun (n := 1) (j := 26) rfl (by kernel_rfl) ?_
            refine zlEnd (by kernel_rfl) ?_
            refine zkSeq ?_
            refine zrCondF (by kernel_rfl) ?_
            refine zrSkip ?_
            refine zkBlk ?_
            refine zkSeq ?_
            refine zrReg ?_
            refine zlRun (n := 2) (j := 2) rfl (by kernel_rfl) ?_
            refine zlEnd (by kernel_rfl) ?_
            refine zkNil ?_
            exact endQ hS hQ (finL_n (by show keepSt _ _ _ _ = _; kernel_rfl))
def f4_l3_j5_J (a1 : GParser) (a2 : List Int) (p1102 : GParser) (p1103 : Int) (p1104 : List GAct) (p1105 : Int) (p1106 : Int) : St := ⟨(up (up (up (up (up (fun _ => .un) 44 (.d (.int .i64 p1106))) 43 (.d (.int .i64 p1105))) 42 (.r (.msl 136 0 0 p1104.length))) 8 (.d (.int .i64 p1103))) 5 (.r (.ptr 48 0 0))), (up (up (hB fun _ => 0) 136 ⟨0, some (.own 31 6 (e_GAct.cells p1104))⟩) 48 ⟨0, some (.box ((.d (.int .i64 p1102.State)) :: ((.d (.int .i64 p1102.Mark)) :: ((.d (.str p1102.Inter)) :: ((.d (.str p1102.Args)) :: ((.d (.str p1102.Text)) :: []))))))⟩)⟩
noncomputable def f4_l3_j5 (a1 : GParser) (a2 : List Int) (p1102 : GParser) (p1103 : Int) (p1104 : List GAct) (p1105 : Int) (p1106 : Int) : Option ((GParser × Int × (List GAct) × Int × Int) ⊕ ((GParser × Int) ⊕ Bool)) := ((inR p1106 p1104.length).bind fun m29 => ((p1104[m29]?).bind fun z30 => (bif (decide (z30.Kind = 2)) then (f4_l3_j6 a1 a2 p1102 (IntKind.i64.wrap (p1103 - 1)) z30 p1104 p1105 p1106) else (f4_l3_j6 a1 a2 p1102 p1103 z30 p1104 p1105 p1106))))
theorem f4_l3_j5_ok {d : Nat} (hd : 8 ≤ d) (a1 : GParser) (a2 : List Int) {r : (GParser × Int × (List GAct) × Int × Int) ⊕ ((GParser × Int) ⊕ Bool)} {Q : PX → St → Prop} (hQ : ∀ e st', finL (f4_l3_H a1 a2) (f4_l3_X a1 a2) r e st' → Q e st') (p1102 : GParser) (p1103 : Int) (p1104 : List GAct) (p1105 : Int) (p1106 : Int) (hS : f4_l3_j5 a1 a2 p1102 p1103 p1104 p1105 p1106 = some r) {st : St} (he : keepSt [5, 8, 42, 43, 44] [(48, .id 48), (136, .id 136)] [] st = f4_l3_j5_J a1 a2 p1102 p1103 p1104 p1105 p1106) : ZR (lev codes baseL (d - 1)) Q c4_4 [] st := by
  refine zrKeep he ?_
  unfold f4_l3_j5 at hS
  refine zrSeq ?_
  refine zrBlk ?_
  refine zrSeq ?_
  refine zrReg ?_
  refine bindE hS (fun m29 hm29 hS => ?_)
  refine zlOp (d := some 46) (op := (.ixS 31 6 (.tmp 42) (.tmp 44))) (g := none) (v := (.r (.ptr 136 0 ((0 + m29) * 6)))) (ups := []) (j := 1) rfl (by kernel_rfl) (by kernel_rfl) (ev_ixM (kk := .i64) (b := 136) (g := 0) (l := 0) (n := p1104.length) (j := p1106) (cs := e_GAct.cells p1104) (by kernel_rfl) (by kernel_rfl) (by kernel_rfl) hm29) ?_
  refine bindE hS (fun z30 hz30 hS => ?_)
  refine zlOp (d := some 47) (op := (.load .true 6 (.tmp 46))) (g := none) (v := (.agg ((.d (.int .i64 z30.Kind)) :: ((.d (.int .i64 z30.Code)) :: ((.d (.int .i64 z30.Mark)) :: ((.d (.str z30.Inter)) :: ((.d (.sl z30.Args.length ((eInt .i64).cells z30.Args))) :: ((.d (.str z30.Text)) :: [])))))))) (ups := []) (j := 2) rfl (by kernel_rfl) (by kernel_rfl) (ev_loadM e_GAct (b := 136) (g := 0) (o := (0 + m29) * 6) (e := 31) (k := 6) (m := m29) (fo := 0) (xs := p1104) (by kernel_rfl) (by kernel_rfl) (by rw [Nat.zero_add]; rfl) hz30 (by kernel_rfl) (by kernel_rfl) (by kernel_rfl)) ?_
  refine zlRun (n := 2) (j := 4) rfl (by kernel_rfl) ?_
  refine zlEnd (by kernel_rfl) ?_
  refine zkSeq ?_
  refine zrSeq ?_
  refine zrSeq ?_
  refine zrReg ?_
  refine zlRun (n := 2) (j := 2) rfl (by kernel_rfl) ?_
  refine zlBool (d := 50) (op := (.cmpI .eql (.tmp 49) (.const (.int .i64 2)))) (g := none) (j := 3) (decide (z30.Kind = 2)) rfl (by kernel_rfl) (by kernel_rfl) (by kernel_rfl) (fun hc => ?_) (fun hc => ?_)
  · replace hS := cond_t hc hS
    refine zlEnd (by kernel_rfl) ?_
    refine zkSeq ?_
    refine zrCondT (by kernel_rfl) ?_
    refine zrReg ?_
    refine zlRun (n := 3) (j := 3) rfl (by kernel_rfl) ?_
    refine zlEnd (by kernel_rfl) ?_
    refine zkSeq ?_
    exact f4_l3_j6_ok hd a1 a2 hQ p1102 (IntKind.i64.wrap (p1103 - 1)) z30 p1104 p1105 p1106 hS (by kernel_rfl)
  · replace hS := cond_f hc hS
    refine zlEnd (by kernel_rfl) ?_
    refine zkSeq ?_
    refine zrCondF (by kernel_rfl) ?_
    refine zrSkip ?_
    refine zkSeq ?_
    exact f4_l3_j6_ok hd a1 a2 hQ p1102 p1103 z30 p1104 p1105 p1106 hS (by kernel_rfl)
def f4_l3_j4_J (a1 : GParser) (a2 : List Int) (p1096 : GParser) (p1097 : Int) (p1098 : List GAct) (p1099 : Int) (p1100 : Int) (p1101 : Bool) : St := ⟨(up (up (up (up (up (up (fun _ => .un) 45 (.d (.bool p1101))) 44 (.d (.int .i64 p1100))) 43 (.d (.int .i64 p1099))) 42 (.r (.msl 136 0 0 p1098.length))) 8 (.d (.int .i64 p1097))) 5 (.r (.ptr 48 0 0))), (up (up (hB fun _ => 0) 136 ⟨0, some (.own 31 6 (e_GAct.cells p1098))⟩) 48 ⟨0, some (.box ((.d (.int .i64 p1096.State)) :: ((.d (.int .i64 p1096.Mark)) :: ((.d (.str p1096.Inter)) :: ((.d (.str p1096.Args)) :: ((.d (.str p1096.Text)) :: []))))))⟩)⟩
noncomputable def f4_l3_j4 (a1 : GParser) (a2 : List Int) (p1096 : GParser) (p1097 : Int) (p1098 : List GAct) (p1099 : Int) (p1100 : Int) (p1101 : Bool) : Option ((GParser × Int × (List GAct) × Int × Int) ⊕ ((GParser × Int) ⊕ Bool)) := (bif p1101 then (f4_l3_j5 a1 a2 p1096 p1097 p1098 p1099 p1100) else (some (.inr (.inl (p1096, p1097)))))
theorem f4_l3_j4_ok {d : Nat} (hd : 8 ≤ d) (a1 : GParser) (a2 : List Int) {r : (GParser × Int × (List GAct) × Int × Int) ⊕ ((GParser × Int) ⊕ Bool)} {Q : PX → St → Prop} (hQ : ∀ e st', finL (f4_l3_H a1 a2) (f4_l3_X a1 a2) r e st' → Q e st') (p1096 : GParser) (p1097 : Int) (p1098 : List GAct) (p1099 : Int) (p1100 : Int) (p1101 : Bool) (hS : f4_l3_j4 a1 a2 p1096 p1097 p1098 p1099 p1100 p1101 = some r) {st : St} (he : keepSt [5, 8, 42, 43, 44, 45] [(48, .id 48), (136, .id 136)] [] st = f4_l3_j4_J a1 a2 p1096 p1097 p1098 p1099 p1100 p1101) : ZR (lev codes baseL (d - 1)) Q c4_5 [] st := by
  refine zrKeep he ?_
  unfold f4_l3_j4 at hS
  refine zrSeq ?_
  refine zrSplit 45 p1101 (by kernel_rfl) (fun hc => ?_) (fun hc => ?_)
  · replace hS := cond_t hc hS
    refine zrCondT (by kernel_rfl) ?_
    refine zrSkip ?_
    refine zkSeq ?_
    exact f4_l3_j5_ok hd a1 a2 hQ p1096 p1097 p1098 p1099 p1100 hS (by kernel_rfl)
  · replace hS := cond_f hc hS
    refine zrCondF (by kernel_rfl) ?_
    refine zrKeep (J := f4_l3_e2_J a1 a2 p1096 p1097) (by kernel_rfl) ?_
    refine zrExit ?_
    refine zkSeqX ?_
    refine zkNil ?_
    exact endQ hS hQ (finL_x (by intro h; cases h) (by show _ = _ ∧ _ = _; exact ⟨rfl, rfl⟩))
noncomputable def f4_l3 (a1 : GParser) (a2 : List Int) (x : GParser × Int × (List GAct) × Int × Int) : Option ((GParser × Int × (List GAct) × Int × Int) ⊕ ((GParser × Int) ⊕ Bool)) := (bif (decide (x.2.2.2.2 < x.2.2.2.1)) then (f4_l3_j4 a1 a2 x.1 x.2.1 x.2.2.1 x.2.2.2.1 x.2.2.2.2 true) else (f4_l3_j4 a1 a2 x.1 x.2.1 x.2.2.1 x.2.2.2.1 x.2.2.2.2 false))
theorem f4_l3_ok {d : Nat} (hd : 8 ≤ d) (a1 : GParser) (a2 : List Int) {r : (GParser × Int × (List GAct) × Int × Int) ⊕ ((GParser × Int) ⊕ Bool)} {Q : PX → St → Prop} (hQ : ∀ e st', finL (f4_l3_H a1 a2) (f4_l3_X a1 a2) r e st' → Q e st') {x : GParser × Int × (List GAct) × Int × Int} (hS : f4_l3 a1 a2 x = some r) {st : St} (he : f4_l3_H a1 a2 x st) : ZR (lev codes baseL (d - 1)) Q c4_6 [] st := by
  refine zrKeep he ?_
  unfold f4_l3 at hS
  refine zrSeq ?_
  refine zrReg ?_
  refine zlBool (d := 45) (op := (.cmpI .lss (.tmp 44) (.tmp 43))) (g := none) (j := 1) (decide (x.2.2.2.2 < x.2.2.2.1)) rfl (by kernel_rfl) (by kernel_rfl) (by kernel_rfl) (fun hc => ?_) (fun hc => ?_)
  · replace hS := cond_t hc hS
    refine zlEnd (by kernel_rfl) ?_
    refine zkSeq ?_
    exact f4_l3_j4_ok hd a1 a2 hQ x.1 x.2.1 x.2.2.1 x.2.2.2.1 x.2.2.2.2 true hS (by kernel_rfl)
  · replace hS := cond_f hc hS
    refine zlEnd (by kernel_rfl) ?_
    refine zkSeq ?_
    exact f4_l3_j4_ok hd a1 a2 hQ x.1 x.2.1 x.2.2.1 x.2.2.2.1 x.2.2.2.2 false hS (by kernel_rfl)
def f4_j1_J (a1 : GParser) (a2 : List Int) (p634 : GParser) (p635 : List GAct) (p636 : Int) : St := ⟨(up (up (up (fun _ => .un) 8 (.d (.int .i64 p636))) 6 (.r (.msl 136 0 0 p635.length))) 5 (.r (.ptr 48 0 0))), (up (up (hB fun _ => 0) 136 ⟨0, some (.own 31 6 (e_GAct.cells p635))⟩) 48 ⟨0, some (.box ((.d (.int .i64 p634.State)) :: ((.d (.int .i64 p634.Mark)) :: ((.d (.str p634.Inter)) :: ((.d (.str p634.Args)) :: ((.d (.str p634.Text)) :: []))))))⟩)⟩
noncomputable def f4_j1 (a1 : GParser) (a2 : List Int) (p634 : GParser) (p635 : List GAct) (p636 : Int) : Option (Bool) := ((loopO (f4_l3 a1 a2) (p634, p636, p635, (p635.length : Int), 0)).bind fun z31 => (Sum.elim (fun z32 => (f4_j2 a1 a2 z32.1 z32.2)) (fun z33 => (some z33)) z31))
theorem f4_j1_ok {d : Nat} (hd : 8 ≤ d) (a1 : GParser) (a2 : List Int) {r : Bool} {Q : PX → St → Prop} (hQ : ∀ e st', f4_Q r e st' → Q e st') (p634 : GParser) (p635 : List GAct) (p636 : Int) (hS : f4_j1 a1 a2 p634 p635 p636 = some r) {st : St} (he : keepSt [5, 6, 8] [(48, .id 48), (136, .id 136)] [] st = f4_j1_J a1 a2 p634 p635 p636) : ZR (lev codes baseL (d - 1)) Q c4_7 [] st := by
  refine zrKeep he ?_
  unfold f4_j1 at hS
  refine zrSeq ?_
  refine zrSeq ?_
  refine zrReg ?_
  refine zlRun (n := 3) (j := 3) rfl (by kernel_rfl) ?_
  refine zlEnd (by kernel_rfl) ?_
  refine zkSeq ?_
  refine zrBlk ?_
  refine bindE hS (fun z31 hz31 hS => ?_)
  refine zrLoop (f4_l3_H a1 a2) (f4_l3_X a1 a2) (fun x st r Q h0 hS hQ => f4_l3_ok hd a1 a2 hQ hS h0) (x := (p634, p636, p635, (p635.length : Int), 0)) (z := z31) (by show keepSt _ _ _ _ = _; kernel_rfl) hz31 ?_
  rcases z31 with z32 | z33
  · replace hS := (show _ = _ from hS)
    simp only [Sum.elim_inl] at hS
    intro e st' _ hX
    obtain ⟨rfl, rfl⟩ : _ ∧ _ := hX
    refine zkBlkX ?_
    refine zkSeq ?_
    exact f4_j2_ok hd a1 a2 hQ z32.1 z32.2 hS (by kernel_rfl)
  · simp only [Sum.elim_inr] at hS
    intro e st' _ hX
    obtain ⟨rfl, hX⟩ : _ ∧ _ := hX
    refine zkBlkR ?_
    refine zkSeqR ?_
    refine zkNil ?_
    exact endQ hS hQ (fRet ((congrArg (fun s => outR s 0 c4.res) hX).trans (f4_out z33)))
def f4_l7_J (a1 : GParser) (a2 : List Int) (x : GParser × (List GAct) × Int × Int) : St := ⟨(up (up (up (up (up (up (fun _ => .un) 29 (.d (.int .i64 x.2.2.2))) 28 (.d (.int .i64 (a2.length : Int)))) 27 (.d (.sl a2.length ((eInt .i64).cells a2)))) 8 (.d (.int .i64 x.2.2.1))) 6 (.r (.msl 136 0 0 x.2.1.length))) 5 (.r (.ptr 48 0 0))), (up (up (hB fun _ => 0) 136 ⟨0, some (.own 31 6 (e_GAct.cells x.2.1))⟩) 48 ⟨0, some (.box ((.d (.int .i64 x.1.State)) :: ((.d (.int .i64 x.1.Mark)) :: ((.d (.str x.1.Inter)) :: ((.d (.str x.1.Args)) :: ((.d (.str x.1.Text)) :: []))))))⟩)⟩
def f4_l7_H (a1 : GParser) (a2 : List Int) (x : GParser × (List GAct) × Int × Int) (st : St) : Prop := keepSt [5, 6, 8, 27, 28, 29] [(48, .id 48), (136, .id 136)] [] st = f4_l7_J a1 a2 x
def f4_l7_e0_J (a1 : GParser) (a2 : List Int) (p631 : GParser) (p632 : List GAct) (p633 : Int) : St := ⟨(up (up (up (fun _ => .un) 8 (.d (.int .i64 p633))) 6 (.r (.msl 136 0 0 p632.length))) 5 (.r (.ptr 48 0 0))), (up (up (hB fun _ => 0) 136 ⟨0, some (.own 31 6 (e_GAct.cells p632))⟩) 48 ⟨0, some (.box ((.d (.int .i64 p631.State)) :: ((.d (.int .i64 p631.Mark)) :: ((.d (.str p631.Inter)) :: ((.d (.str p631.Args)) :: ((.d (.str p631.Text)) :: []))))))⟩)⟩
def f4_l7_X (a1 : GParser) (a2 : List Int) (z : (GParser × (List GAct) × Int)) (e : PX) (st : St) : Prop := e = .exit 0 ∧ st = f4_l7_e0_J a1 a2 z.1 z.2.1 z.2.2
def f4_l7_j9_J (a1 : GParser) (a2 : List Int) (p1136 : GParser) (p1137 : List GAct) (p1138 : Int) (p1139 : Int) : St := ⟨(up (up (up (up (up (up (fun _ => .un) 29 (.d (.int .i64 p1139))) 28 (.d (.int .i64 (a2.length : Int)))) 27 (.d (.sl a2.length ((eInt .i64).cells a2)))) 8 (.d (.int .i64 p1138))) 6 (.r (.msl 136 0 0 p1137.length))) 5 (.r (.ptr 48 0 0))), (up (up (hB fun _ => 0) 136 ⟨0, some (.own 31 6 (e_GAct.cells p1137))⟩) 48 ⟨0, some (.box ((.d (.int .i64 p1136.State)) :: ((.d (.int .i64 p1136.Mark)) :: ((.d (.str p1136.Inter)) :: ((.d (.str p1136.Args)) :: ((.d (.str p1136.Text)) :: []))))))⟩)⟩
noncomputable def f4_l7_j9 (a1 : GParser) (a2 : List Int) (p1136 : GParser) (p1137 : List GAct) (p1138 : Int) (p1139 : Int) : Option ((GParser × (List GAct) × Int × Int) ⊕ ((GParser × (List GAct) × Int))) := ((idx a2 p1139).bind fun z34 => (bif (decide (0 ≤ z34)) then (bif (decide (z34 < 32)) then (some (.inl (p1136, p1137, (IntKind.i64.wrap (p1138 + 1)), (IntKind.i64.wrap (p1139 + 1))))) else (some (.inl (p1136, p1137, p1138, (IntKind.i64.wrap (p1139 + 1)))))) else (some (.inl (p1136, p1137, p1138, (IntKind.i64.wrap (p1139 + 1)))))))
theorem f4_l7_j9_ok {d : Nat} (hd : 8 ≤ d) (a1 : GParser) (a2 : List Int) {r : (GParser × (List GAct) × Int × Int) ⊕ ((GParser × (List GAct) × Int))} {Q : PX → St → Prop} (hQ : ∀ e st', finL (f4_l7_H a1 a2) (f4_l7_X a1 a2) r e st' → Q e st') (p1136 : GParser) (p1137 : List GAct) (p1138 : Int) (p1139 : Int) (hS : f4_l7_j9 a1 a2 p1136 p1137 p1138 p1139 = some r) {st : St} (he : keepSt [5, 6, 8, 27, 28, 29] [(48, .id 48), (136, .id 136)] [] st = f4_l7_j9_J a1 a2 p1136 p1137 p1138 p1139) : ZR (lev codes baseL (d - 1)) Q c4_8 [] st := by
  refine zrKeep he ?_
  unfold f4_l7_j9 at hS
  refine zrSeq ?_
  refine zrBlk ?_
  refine zrSeq ?_
  refine zrReg ?_
  refine bindE hS (fun z34 hz34 hS => ?_)
  refine zlOp (d := some 31) (op := (.ixS 3 1 (.tmp 27) (.tmp 29))) (g := none) (v := (.rptr ((eInt .i64).enc z34 ++ ((eInt .i64).cells (a2.drop ((p1139 : Int).toNat + 1)))))) (ups := []) (j := 1) rfl (by kernel_rfl) (by kernel_rfl) (ev_ixS (eInt .i64) (kk := .i64) (xs := a2) (j := p1139) (by kernel_rfl) (by kernel_rfl) hz34 rfl (by intro h; cases h)) ?_
  refine zlRun (n := 2) (j := 3) rfl (by kernel_rfl) ?_
  refine zlEnd (by kernel_rfl) ?_
  refine zkSeq ?_
  refine zrSeq ?_
  refine zrReg ?_
  refine zlRun (n := 1) (j := 1) rfl (by kernel_rfl) ?_
  refine zlBool (d := 34) (op := (.cmpI .geq (.tmp 33) (.const (.int .i64 0)))) (g := none) (j := 2) (decide (0 ≤ z34)) rfl (by kernel_rfl) (by kernel_rfl) (by kernel_rfl) (fun hc => ?_) (fun hc => ?_)
  · replace hS := cond_t hc hS
    refine zlRun (n := 2) (j := 4) rfl (by kernel_rfl) ?_
    refine zlBool (d := 37) (op := (.cmpI .lss (.tmp 36) (.const (.int .i64 32)))) (g := (some (35, true))) (j := 5) (decide (z34 < 32)) rfl (by kernel_rfl) (by kernel_rfl) (by kernel_rfl) (fun hc => ?_) (fun hc => ?_)
    · replace hS := cond_t hc hS
      refine zlRun (n := 1) (j := 6) rfl (by kernel_rfl) ?_
      refine zlEnd (by kernel_rfl) ?_
      refine zkSeq ?_
      refine zrCondT (by kernel_rfl) ?_
      refine zrReg ?_
      refine zlRun (n := 3) (j := 3) rfl (by kernel_rfl) ?_
      refine zlEnd (by kernel_rfl) ?_
      refine zkBlk ?_
      refine zkSeq ?_
      refine zrReg ?_
      refine zlRun (n := 2) (j := 2) rfl (by kernel_rfl) ?_
      refine zlEnd (by kernel_rfl) ?_
      refine zkNil ?_
      exact endQ hS hQ (finL_n (by show keepSt _ _ _ _ = _; kernel_rfl))
    · replace hS := cond_f hc hS
      refine zlRun (n := 1) (j := 6) rfl (by kernel_rfl) ?_
      refine zlEnd (by kernel_rfl) ?_
      refine zkSeq ?_
      refine zrCondF (by kernel_rfl) ?_
      refine zrSkip ?_
      refine zkBlk ?_
      refine zkSeq ?_
      refine zrReg ?_
      refine zlRun (n := 2) (j := 2) rfl (by kernel_rfl) ?_
      refine zlEnd (by kernel_rfl) ?_
      refine zkNil ?_
      exact endQ hS hQ (finL_n (by show keepSt _ _ _ _ = _; kernel_rfl))
  · replace hS := cond_f hc hS
    refine zlRun (n := 4) (j := 6) rfl (by kernel_rfl) ?_
    refine zlEnd (by kernel_rfl) ?_
    refine zkSeq ?_
    refine zrCondF (by kernel_rfl) ?_
    refine zrSkip ?_
    refine zkBlk ?_
    refine zkSeq ?_
    refine zrReg ?_
    refine zlRun (n := 2) (j := 2) rfl (by kernel_rfl) ?_
    refine zlEnd (by kernel_rfl) ?_
    refine zkNil ?_
    exact endQ hS hQ (finL_n (by show keepSt _ _ _ _ = _; kernel_rfl))
def f4_l7_j8_J (a1 : GParser) (a2 : List Int) (p1131 : GParser) (p1132 : List GAct) (p1133 : Int) (p1134 : Int) (p1135 : Bool) : St := ⟨(up (up (up (up (up (up (up (fun _ => .un) 30 (.d (.bool p1135))) 29 (.d (.int .i64 p1134))) 28 (.d (.int .i64 (a2.length : Int)))) 27 (.d (.sl a2.length ((eInt .i64).cells a2)))) 8 (.d (.int .i64 p1133))) 6 (.r (.msl 136 0 0 p1132.length))) 5 (.r (.ptr 48 0 0))), (up (up (hB fun _ => 0) 136 ⟨0, some (.own 31 6 (e_GAct.cells p1132))⟩) 48 ⟨0, some (.box ((.d (.int .i64 p1131.State)) :: ((.d (.int .i64 p1131.Mark)) :: ((.d (.str p1131.Inter)) :: ((.d (.str p1131.Args)) :: ((.d (.str p1131.Text)) :: []))))))⟩)⟩
noncomputable def f4_l7_j8 (a1 : GParser) (a2 : List Int) (p1131 : GParser) (p1132 : List GAct) (p1133 : Int) (p1134 : Int) (p1135 : Bool) : Option ((GParser × (List GAct) × Int × Int) ⊕ ((GParser × (List GAct) × Int))) := (bif p1135 then (f4_l7_j9 a1 a2 p1131 p1132 p1133 p1134) else (some (.inr (p1131, p1132, p1133))))
theorem f4_l7_j8_ok {d : Nat} (hd : 8 ≤ d) (a1 : GParser) (a2 : List Int) {r : (GParser × (List GAct) × Int × Int) ⊕ ((GParser × (List GAct) × Int))} {Q : PX → St → Prop} (hQ : ∀ e st', finL (f4_l7_H a1 a2) (f4_l7_X a1 a2) r e st' → Q e st') (p1131 : GParser) (p1132 : List GAct) (p1133 : Int) (p1134 : Int) (p1135 : Bool) (hS : f4_l7_j8 a1 a2 p1131 p1132 p1133 p1134 p1135 = some r) {st : St} (he : keepSt [5, 6, 8, 27, 28, 29, 30] [(48, .id 48), (136, .id 136)] [] st = f4_l7_j8_J a1 a2 p1131 p1132 p1133 p1134 p1135) : ZR (lev codes baseL (d - 1)) Q c4_9 [] st := by
  refine zrKeep he ?_
  unfold f4_l7_j8 at hS
  refine zrSeq ?_
  refine zrSplit 30 p1135 (by kernel_rfl) (fun hc => ?_) (fun hc => ?_)
  · replace hS := cond_t hc hS
    refine zrCondT (by kernel_rfl) ?_
    refine zrSkip ?_
    refine zkSeq ?_
    exact f4_l7_j9_ok hd a1 a2 hQ p1131 p1132 p1133 p1134 hS (by kernel_rfl)
  · replace hS := cond_f hc hS
    refine zrCondF (by kernel_rfl) ?_
    refine zrKeep (J := f4_l7_e0_J a1 a2 p1131 p1132 p1133) (by kernel_rfl) ?_
    refine zrExit ?_
    refine zkSeqX ?_
    refine zkNil ?_
    exact endQ hS hQ (finL_x (by intro h; cases h) (by show _ = _ ∧ _ = _; exact ⟨rfl, rfl⟩))
noncomputable def f4_l7 (a1 : GParser) (a2 : List Int) (x : GParser × (List GAct) × Int × Int) : Option ((GParser × (List GAct) × Int × Int) ⊕ ((GParser × (List GAct) × Int))) := (bif (decide (x.2.2.2 < (a2.length : Int))) then (f4_l7_j8 a1 a2 x.1 x.2.1 x.2.2.1 x.2.2.2 true) else (f4_l7_j8 a1 a2 x.1 x.2.1 x.2.2.1 x.2.2.2 false))
theorem f4_l7_ok {d : Nat} (hd : 8 ≤ d) (a1 : GParser) (a2 : List Int) {r : (GParser × (List GAct) × Int × Int) ⊕ ((GParser × (List GAct) × Int))} {Q : PX → St → Prop} (hQ : ∀ e st', finL (f4_l7_H a1 a2) (f4_l7_X a1 a2) r e st' → Q e st') {x : GParser × (List GAct) × Int × Int} (hS : f4_l7 a1 a2 x = some r) {st : St} (he : f4_l7_H a1 a2 x st) : ZR (lev codes baseL (d - 1)) Q c4_10 [] st := by
  refine zrKeep he ?_
  unfold f4_l7 at hS
  refine zrSeq ?_
  refine zrReg ?_
  refine zlBool (d := 30) (op := (.cmpI .lss (.tmp 29) (.tmp 28))) (g := none) (j := 1) (decide (x.2.2.2 < (a2.length : Int))) rfl (by kernel_rfl) (by kernel_rfl) (by kernel_rfl) (fun hc => ?_) (fun hc => ?_)
  · replace hS := cond_t hc hS
    refine zlEnd (by kernel_rfl) ?_
    refine zkSeq ?_
    exact f4_l7_j8_ok hd a1 a2 hQ x.1 x.2.1 x.2.2.1 x.2.2.2 true hS (by kernel_rfl)
  · replace hS := cond_f hc hS
    refine zlEnd (by kernel_rfl) ?_
    refine zkSeq ?_
    exact f4_l7_j8_ok hd a1 a2 hQ x.1 x.2.1 x.2.2.1 x.2.2.2 false hS (by kernel_rfl)
def f4_j0_J (a1 : GParser) (a2 : List Int) (p549 : GParser) (p550 : List GAct) : St := ⟨(up (up (up (fun _ => .un) 6 (.r (.msl 136 0 0 p550.length))) 5 (.r (.ptr 48 0 0))) 1 (.d (.sl a2.length ((eInt .i64).cells a2)))), (up (up (hB fun _ => 0) 136 ⟨0, some (.own 31 6 (e_GAct.cells p550))⟩) 48 ⟨0, some (.box ((.d (.int .i64 p549.State)) :: ((.d (.int .i64 p549.Mark)) :: ((.d (.str p549.Inter)) :: ((.d (.str p549.Args)) :: ((.d (.str p549.Text)) :: []))))))⟩)⟩
noncomputable def f4_j0 (a1 : GParser) (a2 : List Int) (p549 : GParser) (p550 : List GAct) : Option (Bool) := ((loopO (f4_l7 a1 a2) (p549, p550, 0, 0)).bind fun z35 => (f4_j1 a1 a2 z35.1 z35.2.1 z35.2.2))
theorem f4_j0_ok {d : Nat} (hd : 8 ≤ d) (a1 : GParser) (a2 : List Int) {r : Bool} {Q : PX → St → Prop} (hQ : ∀ e st', f4_Q r e st' → Q e st') (p549 : GParser) (p550 : List GAct) (hS : f4_j0 a1 a2 p549 p550 = some r) {st : St} (he : keepSt [1, 5, 6] [(48, .id 48), (136, .id 136)] [] st = f4_j0_J a1 a2 p549 p550) : ZR (lev codes baseL (d - 1)) Q c4_11 [] st := by
  refine zrKeep he ?_
  unfold f4_j0 at hS
  refine zrSeq ?_
  refine zrReg ?_
  refine zlRun (n := 1) (j := 1) rfl (by kernel_rfl) ?_
  refine zlEnd (by kernel_rfl) ?_
  refine zkSeq ?_
  refine zrSeq ?_
  refine zrSeq ?_
  refine zrReg ?_
  refine zlRun (n := 3) (j := 3) rfl (by kernel_rfl) ?_
  refine zlEnd (by kernel_rfl) ?_
  refine zkSeq ?_
  refine zrBlk ?_
  refine bindE hS (fun z35 hz35 hS => ?_)
  refine zrLoop (f4_l7_H a1 a2) (f4_l7_X a1 a2) (fun x st r Q h0 hS hQ => f4_l7_ok hd a1 a2 hQ hS h0) (x := (p549, p550, 0, 0)) (z := z35) (by show keepSt _ _ _ _ = _; kernel_rfl) hz35 ?_
  intro e st' _ hX
  obtain ⟨rfl, rfl⟩ : _ ∧ _ := hX
  refine zkBlkX ?_
  refine zkSeq ?_
  exact f4_j1_ok hd a1 a2 hQ z35.1 z35.2.1 z35.2.2 hS (by kernel_rfl)
noncomputable def f4 (a1 : GParser) (a2 : List Int) : Option (Bool) := ((f11 a1 a2).bind fun z15 => (f12.bind fun z36 => (bif (!z36) then (f12.bind fun z37 => (some z37)) else (bif (!decide (z15.2.2 = 0)) then (f12.bind fun z38 => (some z38)) else (f4_j0 a1 a2 z15.1 z15.2.1)))))
theorem f4_ok (d : Nat) (hd : 8 ≤ d) (a1 : GParser) (a2 : List Int) (r : Bool) (hS : f4 a1 a2 = some r) : lev codes baseL d 4 [(.agg ((.d (.int .i64 a1.State)) :: ((.d (.int .i64 a1.Mark)) :: ((.d (.str a1.Inter)) :: ((.d (.str a1.Args)) :: ((.d (.str a1.Text)) :: [])))))), (.d (.sl a2.length ((eInt .i64).cells a2)))] [] = some ((.d (.bool r)), []) := by
  refine lev_go codes4 rfl rfl (Nat.le_trans (Nat.le_of_ble_eq_true rfl) hd) fun Q hQ => ?_
  unfold f4 at hS
  show ZR _ Q c4_b [] _
  replace hQ : ∀ e st', f4_Q r e st' → Q e st' := hQ
  refine zrSeq ?_
  refine zrReg ?_
  refine zlRun (n := 2) (j := 2) rfl (by kernel_rfl) ?_
  refine zlEnd (by kernel_rfl) ?_
  refine zkSeq ?_
  refine zrSeq ?_
  refine zrReg ?_
  refine zlRun (n := 2) (j := 2) rfl (by kernel_rfl) ?_
  refine bindE hS (fun z15 hz15 hS => ?_)
  refine zlOp (d := some 16) (op := (.callf 11 [(.tmp 14), (.tmp 15)])) (g := none) (v := (.tup [(.agg ((.d (.int .i64 z15.1.State)) :: ((.d (.int .i64 z15.1.Mark)) :: ((.d (.str z15.1.Inter)) :: ((.d (.str z15.1.Args)) :: ((.d (.str z15.1.Text)) :: [])))))), (.r (.msl 136 1 0 z15.2.1.length)), (.d (.int .i64 z15.2.2))])) (ups := [(136, ⟨1, some (.own 31 6 (e_GAct.cells z15.2.1))⟩)]) (j := 3) rfl (by kernel_rfl) (by kernel_rfl) (ev_callF (args := [(.agg ((.d (.int .i64 a1.State)) :: ((.d (.int .i64 a1.Mark)) :: ((.d (.str a1.Inter)) :: ((.d (.str a1.Args)) :: ((.d (.str a1.Text)) :: [])))))), (.d (.sl a2.length ((eInt .i64).cells a2)))]) (args' := [(.agg ((.d (.int .i64 a1.State)) :: ((.d (.int .i64 a1.Mark)) :: ((.d (.str a1.Inter)) :: ((.d (.str a1.Args)) :: ((.d (.str a1.Text)) :: [])))))), (.d (.sl a2.length ((eInt .i64).cells a2)))]) (l := [(.agg ((.d (.int .i64 a1.State)) :: ((.d (.int .i64 a1.Mark)) :: ((.d (.str a1.Inter)) :: ((.d (.str a1.Args)) :: ((.d (.str a1.Text)) :: [])))))), (.d (.sl a2.length ((eInt .i64).cells a2)))]) (refs := []) (r := (.tup [(.agg ((.d (.int .i64 z15.1.State)) :: ((.d (.int .i64 z15.1.Mark)) :: ((.d (.str z15.1.Inter)) :: ((.d (.str z15.1.Args)) :: ((.d (.str z15.1.Text)) :: [])))))), (.r (.own 0 31 6 z15.2.1.length (e_GAct.cells z15.2.1))), (.d (.int .i64 z15.2.2))])) (v := (.tup [(.agg ((.d (.int .i64 z15.1.State)) :: ((.d (.int .i64 z15.1.Mark)) :: ((.d (.str z15.1.Inter)) :: ((.d (.str z15.1.Args)) :: ((.d (.str z15.1.Text)) :: [])))))), (.r (.msl 136 1 0 z15.2.1.length)), (.d (.int .i64 z15.2.2))])) (ups' := [(136, ⟨1, some (.own 31 6 (e_GAct.cells z15.2.1))⟩)]) (by kernel_rfl) (by kernel_rfl) (by kernel_rfl) (fz_cons rfl (fz_cons rfl fz_nil)) (by kernel_rfl) (f11_ok (d - 1) (dpt hd rfl) a1 a2 z15 hz15) (by kernel_rfl) (by kernel_rfl) (by kernel_rfl) (by kernel_rfl)) ?_
  refine zlRun (n := 8) (j := 11) rfl (by kernel_rfl) ?_
  refine zlEnd (by kernel_rfl) ?_
  refine zkSeq ?_
  refine zrSeq ?_
  refine zrSeq ?_
  refine zrReg ?_
  refine bindE hS (fun z36 hz36 hS => ?_)
  refine zlOp (d := some 20) (op := (.call 12 [])) (g := none) (v := (.d (.bool z36))) (ups := []) (j := 1) rfl (by kernel_rfl) (by kernel_rfl) (ev_call (args := []) (l := []) (r := (.d (.bool z36))) (by kernel_rfl) (by kernel_rfl) (f12_ok (d - 1) (dpt hd rfl)  z36 hz36) (by kernel_rfl) (by kernel_rfl) (by kernel_rfl)) ?_
  refine zlRun (n := 2) (j := 3) rfl (by kernel_rfl) ?_
  refine zlSplit 22 (!z36) (by kernel_rfl) (fun hc => ?_) (fun hc => ?_)
  · replace hS := cond_t hc hS
    refine zlRun (n := 3) (j := 6) rfl (by kernel_rfl) ?_
    refine zlEnd (by kernel_rfl) ?_
    refine zkSeq ?_
    refine zrCondT (by kernel_rfl) ?_
    refine zrSeq ?_
    refine zrReg ?_
    refine bindE hS (fun z37 hz37 hS => ?_)
    refine zlOp (d := some 26) (op := (.call 12 [])) (g := none) (v := (.d (.bool z37))) (ups := []) (j := 1) rfl (by kernel_rfl) (by kernel_rfl) (ev_call (args := []) (l := []) (r := (.d (.bool z37))) (by kernel_rfl) (by kernel_rfl) (f12_ok (d - 1) (dpt hd rfl)  z37 hz37) (by kernel_rfl) (by kernel_rfl) (by kernel_rfl)) ?_
    refine zlRun (n := 1) (j := 2) rfl (by kernel_rfl) ?_
    refine zlEnd (by kernel_rfl) ?_
    refine zkSeq ?_
    refine zrRet ?_
    refine zkSeqR ?_
    refine zkNil ?_
    exact endQ hS hQ (fRet ((congrArg (fun s => outR s 0 c4.res) (by kernel_rfl : finSt c4.fin _ = f4_fin z37)).trans (f4_out z37)))
  · replace hS := cond_f hc hS
    refine zlRun (n := 1) (j := 4) rfl (by kernel_rfl) ?_
    refine zlBool (d := 24) (op := (.cmpI .neq (.tmp 23) (.const (.int .i64 0)))) (g := (some (22, false))) (j := 5) (!decide (z15.2.2 = 0)) rfl (by kernel_rfl) (by kernel_rfl) (by kernel_rfl) (fun hc => ?_) (fun hc => ?_)
    · replace hS := cond_t hc hS
      refine zlRun (n := 1) (j := 6) rfl (by kernel_rfl) ?_
      refine zlEnd (by kernel_rfl) ?_
      refine zkSeq ?_
      refine zrCondT (by kernel_rfl) ?_
      refine zrSeq ?_
      refine zrReg ?_
      refine bindE hS (fun z38 hz38 hS => ?_)
      refine zlOp (d := some 26) (op := (.call 12 [])) (g := none) (v := (.d (.bool z38))) (ups := []) (j := 1) rfl (by kernel_rfl) (by kernel_rfl) (ev_call (args := []) (l := []) (r := (.d (.bool z38))) (by kernel_rfl) (by kernel_rfl) (f12_ok (d - 1) (dpt hd rfl)  z38 hz38) (by kernel_rfl) (by kernel_rfl) (by kernel_rfl)) ?_
      refine zlRun (n := 1) (j := 2) rfl (by kernel_rfl) ?_
      refine zlEnd (by kernel_rfl) ?_
      refine zkSeq ?_
      refine zrRet ?_
      refine zkSeqR ?_
      refine zkNil ?_
      exact endQ hS hQ (fRet ((congrArg (fun s => outR s 0 c4.res) (by kernel_rfl : finSt c4.fin _ = f4_fin z38)).trans (f4_out z38)))
    · replace hS := cond_f hc hS
      refine zlRun (n := 1) (j := 6) rfl (by kernel_rfl) ?_
      refine zlEnd (by kernel_rfl) ?_
      refine zkSeq ?_
      refine zrCondF (by kernel_rfl) ?_
      refine zrSkip ?_
      refine zkSeq ?_
      exact f4_j0_ok hd a1 a2 hQ z15.1 z15.2.1 hS (by kernel_rfl)
/- slices.Clone[[]int,int] -/
def f16_fin (p1 : List Int) : St := ⟨(up (fun _ => .un) 2 (.r (.msl 97 0 0 p1.length))), (up (hB fun _ => 0) 97 ⟨0, some (.own 3 1 ((eInt .i64).cells p1))⟩)⟩
theorem f16_out (p1 : List Int) : outR (f16_fin p1) 0 c16.res = some ((.r (.own 0 3 1 p1.length ((eInt .i64).cells p1))), []) := by
  exact out_of (ids := []) (ids' := [97]) (l := [(.r (.msl 97 0 0 p1.length))]) (by kernel_rfl) (by kernel_rfl) (o_own (eInt .i64) (e := 3) (k := 1) (xs := p1) (by kernel_rfl) rfl rfl rfl rfl)
def f16_Q (r : List Int) (e : PX) (st : St) : Prop := DoneF c16 0 ((.r (.own 0 3 1 r.length ((eInt .i64).cells r))), []) e st
noncomputable def f16 (a1 : List Int) : Option (List Int) := ((app? 8 ([] : List Int) a1).bind fun z2 => (some z2))
theorem f16_ok (d : Nat) (hd : 1 ≤ d) (a1 : List Int) (r : List Int) (hS : f16 a1 = some r) : lev codes baseL d 16 [(.d (.sl a1.length ((eInt .i64).cells a1)))] [] = some ((.r (.own 0 3 1 r.length ((eInt .i64).cells r))), []) := by
  refine lev_goZ codes16 rfl rfl (Nat.le_trans (Nat.le_of_ble_eq_true rfl) hd) (fun Q hQ => ?_) (fun h0 Q hQ => ?_)
  · unfold f16 at hS
    show ZR _ Q c16_b [] _
    refine zrSeq ?_
    refine zrReg ?_
    refine zlRun (n := 1) (j := 1) rfl (by kernel_rfl) ?_
    refine zlEnd (by kernel_rfl) ?_
    refine zkSeq ?_
    refine zrSeq ?_
    refine zrSeq ?_
    refine zrReg ?_
    refine zlRun (n := 2) (j := 2) rfl (by kernel_rfl) ?_
    refine zlEnd (by kernel_rfl) ?_
    refine zkSeq ?_
    refine zrCondF (by kernel_rfl) ?_
    refine zrSkip ?_
    refine zkSeq ?_
    refine zrSeq ?_
    refine zrReg ?_
    refine zlRun (n := 2) (j := 2) rfl (by kernel_rfl) ?_
    refine bindE hS (fun z2 hz2 hS => ?_)
    refine zlOp (d := some 7) (op := (.app 3 1 8 (.tmp 5) (.tmp 6))) (g := none) (v := (.r (.msl 48 2 0 z2.length))) (ups := [(48, ⟨2, some (.own 3 1 ((eInt .i64).cells z2))⟩)]) (j := 3) rfl (by kernel_rfl) (by kernel_rfl) (ev_app (eInt .i64) (b := 48) (g := 1) (n := ([] : List Int).length) (xs := []) (ys := a1) ((congrArg (asL _) (by kernel_rfl : ρof _ (.tmp 6) = (.slz false a1.length ((eInt .i64).cells a1)))).trans rfl) rfl (by kernel_rfl) rfl (by kernel_rfl) rfl hz2) ?_
    refine zlRun (n := 1) (j := 4) rfl (by kernel_rfl) ?_
    refine zlEnd (by kernel_rfl) ?_
    refine zkSeq ?_
    refine zrRet ?_
    refine zkNil ?_
    exact endQ (F := f16_Q) hS hQ (fRet ((congrArg (fun s => outR s 0 c16.res) (by kernel_rfl : finSt c16.fin _ = f16_fin z2)).trans (f16_out z2)))
  · have hS : (some []) = some r := by
      have hl := List.eq_nil_of_length_eq_zero h0
      subst hl
      simpa [f16, app?] using hS
    show ZR _ Q c16_b [] _
    refine zrSeq ?_
    refine zrReg ?_
    refine zlRun (n := 1) (j := 1) rfl (by kernel_rfl) ?_
    refine zlEnd (by kernel_rfl) ?_
    refine zkSeq ?_
    refine zrSeq ?_
    refine zrSeq ?_
    refine zrReg ?_
    refine zlRun (n := 2) (j := 2) rfl (by kernel_rfl) ?_
    refine zlEnd (by kernel_rfl) ?_
    refine zkSeq ?_
    refine zrCondT (by kernel_rfl) ?_
    refine zrSeq ?_
    refine zrReg ?_
    refine zlRun (n := 1) (j := 1) rfl (by kernel_rfl) ?_
    refine zlEnd (by kernel_rfl) ?_
    refine zkSeq ?_
    refine zrRet ?_
    refine zkSeqR ?_
    refine zkNil ?_
    exact endQ (F := f16_Q) hS hQ (fRet ((congrArg (fun s => outR s 0 c16.res) (by kernel_rfl : finSt c16.fin _ = f16_fin [])).trans (f16_out [])))
/- slices.Clone[[]farwriter/api.Act,farwriter/api.Act] -/
def f17_fin (p1 : List GAct) : St := ⟨(up (fun _ => .un) 2 (.r (.msl 97 0 0 p1.length))), (up (hB fun _ => 0) 97 ⟨0, some (.own 31 6 (e_GAct.cells p1))⟩)⟩
theorem f17_out (p1 : List GAct) : outR (f17_fin p1) 0 c17.res = some ((.r (.own 0 31 6 p1.length (e_GAct.cells p1))), []) := by
  exact out_of (ids := []) (ids' := [97]) (l := [(.r (.msl 97 0 0 p1.length))]) (by kernel_rfl) (by kernel_rfl) (o_own e_GAct (e := 31) (k := 6) (xs := p1) (by kernel_rfl) rfl rfl rfl rfl)
def f17_Q (r : List GAct) (e : PX) (st : St) : Prop := DoneF c17 0 ((.r (.own 0 31 6 r.length (e_GAct.cells r))), []) e st
noncomputable def f17 (a1 : List GAct) : Option (List GAct) := ((app? 80 ([] : List GAct) a1).bind fun z2 => (some z2))
theorem f17_ok (d : Nat) (hd : 1 ≤ d) (a1 : List GAct) (r : List GAct) (hS : f17 a1 = some r) : lev codes baseL d 17 [(.d (.sl a1.length (e_GAct.cells a1)))] [] = some ((.r (.own 0 31 6 r.length (e_GAct.cells r))), []) := by
  refine lev_goZ codes17 rfl rfl (Nat.le_trans (Nat.le_of_ble_eq_true rfl) hd) (fun Q hQ => ?_) (fun h0 Q hQ => ?_)
  · unfold f17 at hS
    show ZR _ Q c17_b [] _
    refine zrSeq ?_
    refine zrReg ?_
    refine zlRun (n := 1) (j := 1) rfl (by kernel_rfl) ?_
    refine zlEnd (by kernel_rfl) ?_
    refine zkSeq ?_
    refine zrSeq ?_
    refine zrSeq ?_
    refine zrReg ?_
    refine zlRun (n := 2) (j := 2) rfl (by kernel_rfl) ?_
    refine zlEnd (by kernel_rfl) ?_
    refine zkSeq ?_
    refine zrCondF (by kernel_rfl) ?_
    refine zrSkip ?_
    refine zkSeq ?_
    refine zrSeq ?_
    refine zrReg ?_
    refine zlRun (n := 2) (j := 2) rfl (by kernel_rfl) ?_
    refine bindE hS (fun z2 hz2 hS => ?_)
    refine zlOp (d := some 7) (op := (.app 31 6 80 (.tmp 5) (.tmp 6))) (g := none) (v := (.r (.msl 48 2 0 z2.length))) (ups := [(48, ⟨2, some (.own 31 6 (e_GAct.cells z2))⟩)]) (j := 3) rfl (by kernel_rfl) (by kernel_rfl) (ev_app e_GAct (b := 48) (g := 1) (n := ([] : List GAct).length) (xs := []) (ys := a1) ((congrArg (asL _) (by kernel_rfl : ρof _ (.tmp 6) = (.slz false a1.length (e_GAct.cells a1)))).trans rfl) rfl (by kernel_rfl) rfl (by kernel_rfl) rfl hz2) ?_
    refine zlRun (n := 1) (j := 4) rfl (by kernel_rfl) ?_
    refine zlEnd (by kernel_rfl) ?_
    refine zkSeq ?_
    refine zrRet ?_
    refine zkNil ?_
    exact endQ (F := f17_Q) hS hQ (fRet ((congrArg (fun s => outR s 0 c17.res) (by kernel_rfl : finSt c17.fin _ = f17_fin z2)).trans (f17_out z2)))
  · have hS : (some []) = some r := by
      have hl := List.eq_nil_of_length_eq_zero h0
      subst hl
      simpa [f17, app?] using hS
    show ZR _ Q c17_b [] _
    refine zrSeq ?_
    refine zrReg ?_
    refine zlRun (n := 1) (j := 1) rfl (by kernel_rfl) ?_
    refine zlEnd (by kernel_rfl) ?_
    refine zkSeq ?_
    refine zrSeq ?_
    refine zrSeq ?_
    refine zrReg ?_
    refine zlRun (n := 2) (j := 2) rfl (by kernel_rfl) ?_
    refine zlEnd (by kernel_rfl) ?_
    refine zkSeq ?_
    refine zrCondT (by kernel_rfl) ?_
    refine zrSeq ?_
    refine zrReg ?_
    refine zlRun (n := 1) (j := 1) rfl (by kernel_rfl) ?_
    refine zlEnd (by kernel_rfl) ?_
    refine zkSeq ?_
    refine zrRet ?_
    refine zkSeqR ?_
    refine zkNil ?_
    exact endQ (F := f17_Q) hS hQ (fRet ((congrArg (fun s => outR s 0 c17.res) (by kernel_rfl : finSt c17.fin _ = f17_fin [])).trans (f17_out [])))
/- farwriter/farkeep.ParseCuts -/
def f5_fin (p19 : Bool) : St := ⟨(up (fun _ => .un) 6 (.d (.bool p19))), (hB fun _ => 0)⟩
theorem f5_out (p19 : Bool) : outR (f5_fin p19) 0 c5.res = some ((.d (.bool p19)), []) := by
  kernel_rfl
def f5_Q (r : Bool) (e : PX) (st : St) : Prop := DoneF c5 0 ((.d (.bool r)), []) e st
def f5_j1_J (a1 : GParser) (a2 : List Int) (a3 : List Int) (p30 : List GAct) (p31 : GParser) (p32 : List GAct) (p33 : Int) (p34 : GParser) (p35 : List GAct) (p36 : Int) : St := ⟨(up (up (up (up (up (up (up (fun _ => .un) 15 (.d (.int .i64 p36))) 14 (.r (.msl 432 0 0 p35.length))) 13 (.r (.ptr 112 0 0))) 12 (.d (.int .i64 p33))) 11 (.r (.msl 352 0 0 p32.length))) 10 (.r (.ptr 88 0 0))) 8 (.d (.sl p30.length (e_GAct.cells p30)))), (up (up (up (up (hB fun _ => 0) 432 ⟨0, some (.own 31 6 (e_GAct.cells p35))⟩) 112 ⟨0, some (.box ((.d (.int .i64 p34.State)) :: ((.d (.int .i64 p34.Mark)) :: ((.d (.str p34.Inter)) :: ((.d (.str p34.Args)) :: ((.d (.str p34.Text)) :: []))))))⟩) 352 ⟨0, some (.own 31 6 (e_GAct.cells p32))⟩) 88 ⟨0, some (.box ((.d (.int .i64 p31.State)) :: ((.d (.int .i64 p31.Mark)) :: ((.d (.str p31.Inter)) :: ((.d (.str p31.Args)) :: ((.d (.str p31.Text)) :: []))))))⟩)⟩
noncomputable def f5_j1 (a1 : GParser) (a2 : List Int) (a3 : List Int) (p30 : List GAct) (p31 : GParser) (p32 : List GAct) (p33 : Int) (p34 : GParser) (p35 : List GAct) (p36 : Int) : Option (Bool) := (bif (decide (p33 = 0)) then (bif (decide (p36 = 0)) then (bif (decide (p31.State = p34.State) && (decide (p31.Mark = p34.Mark) && (decide (p31.Inter = p34.Inter) && (decide (p31.Args = p34.Args) && (decide (p31.Text = p34.Text) && true))))) then ((f17 p30).bind fun z18 => ((app? 80 z18 p32).bind fun z19 => ((f13 z19 p35).bind fun z20 => (some z20)))) else (some false)) else (some false)) else (some false))
theorem f5_j1_ok {d : Nat} (hd : 8 ≤ d) (a1 : GParser) (a2 : List Int) (a3 : List Int) {r : Bool} {Q : PX → St → Prop} (hQ : ∀ e st', f5_Q r e st' → Q e st') (p30 : List GAct) (p31 : GParser) (p32 : List GAct) (p33 : Int) (p34 : GParser) (p35 : List GAct) (p36 : Int) (hS : f5_j1 a1 a2 a3 p30 p31 p32 p33 p34 p35 p36 = some r) {st : St} (he : keepSt [8, 10, 11, 12, 13, 14, 15] [(88, .id 88), (352, .id 352), (112, .id 112), (432, .id 432)] [] st = f5_j1_J a1 a2 a3 p30 p31 p32 p33 p34 p35 p36) : ZR (lev codes baseL (d - 1)) Q c5_1 [] st := by
  refine zrKeep he ?_
  unfold f5_j1 at hS
  refine zrSeq ?_
  refine zrReg ?_
  refine zlRun (n := 1) (j := 1) rfl (by kernel_rfl) ?_
  refine zlBool (d := 58) (op := (.cmpI .eql (.tmp 57) (.const (.int .i64 0)))) (g := none) (j := 2) (decide (p33 = 0)) rfl (by kernel_rfl) (by kernel_rfl) (by kernel_rfl) (fun hc => ?_) (fun hc => ?_)
  · replace hS := cond_t hc hS
    refine zlRun (n := 2) (j := 4) rfl (by kernel_rfl) ?_
    refine zlBool (d := 61) (op := (.cmpI .eql (.tmp 60) (.const (.int .i64 0)))) (g := (some (59, true))) (j := 5) (decide (p36 = 0)) rfl (by kernel_rfl) (by kernel_rfl) (by kernel_rfl) (fun hc => ?_) (fun hc => ?_)
    · replace hS := cond_t hc hS
      refine zlRun (n := 4) (j := 9) rfl (by kernel_rfl) ?_
      refine zlBool (d := 66) (op := (.eqA .false [(2, .int), (3, .str)] (.tmp 64) (.tmp 65))) (g := (some (63, true))) (j := 10) (decide (p31.State = p34.State) && (decide (p31.Mark = p34.Mark) && (decide (p31.Inter = p34.Inter) && (decide (p31.Args = p34.Args) && (decide (p31.Text = p34.Text) && true))))) rfl (by kernel_rfl) (by kernel_rfl) (by kernel_rfl) (fun hc => ?_) (fun hc => ?_)
      · replace hS := cond_t hc hS
        refine zlRun (n := 3) (j := 13) rfl (by kernel_rfl) ?_
        refine bindE hS (fun z18 hz18 hS => ?_)
        refine zlOp (d := some 70) (op := (.callf 17 [(.tmp 69)])) (g := (some (68, true))) (v := (.r (.msl 568 1 0 z18.length))) (ups := [(568, ⟨1, some (.own 31 6 (e_GAct.cells z18))⟩)]) (j := 14) rfl (by kernel_rfl) (by kernel_rfl) (ev_callF (args := [(.d (.sl p30.length (e_GAct.cells p30)))]) (args' := [(.d (.sl p30.length (e_GAct.cells p30)))]) (l := [(.d (.sl p30.length (e_GAct.cells p30)))]) (refs := []) (r := (.r (.own 0 31 6 z18.length (e_GAct.cells z18)))) (v := (.r (.msl 568 1 0 z18.length))) (ups' := [(568, ⟨1, some (.own 31 6 (e_GAct.cells z18))⟩)]) (by kernel_rfl) (by kernel_rfl) (by kernel_rfl) (fz_cons rfl fz_nil) (by kernel_rfl) (f17_ok (d - 1) (dpt hd rfl) p30 z18 hz18) (by kernel_rfl) (by kernel_rfl) (by kernel_rfl) (by kernel_rfl)) ?_
        refine zlRun (n := 1) (j := 15) rfl (by kernel_rfl) ?_
        refine bindE hS (fun z19 hz19 hS => ?_)
        refine zlOp (d := some 72) (op := (.app 31 6 80 (.tmp 70) (.tmp 71))) (g := (some (68, true))) (v := (.r (.msl 568 2 0 z19.length))) (ups := [(568, ⟨2, some (.own 31 6 (e_GAct.cells z19))⟩)]) (j := 16) rfl (by kernel_rfl) (by kernel_rfl) (ev_app e_GAct (b := 568) (g := 1) (n := z18.length) (xs := z18) (ys := p32) ((congrArg (asL _) (by kernel_rfl : ρof _ (.tmp 71) = (.r (.msl 352 0 0 p32.length)))).trans (as_whole e_GAct (e := 31) (k := 6) (xs := p32) (by kernel_rfl) rfl rfl)) rfl (by kernel_rfl) rfl (by kernel_rfl) rfl hz19) ?_
        refine zlRun (n := 1) (j := 17) rfl (by kernel_rfl) ?_
        refine bindE hS (fun z20 hz20 hS => ?_)
        refine zlOp (d := some 74) (op := (.call 13 [(.tmp 72), (.tmp 73)])) (g := (some (68, true))) (v := (.d (.bool z20))) (ups := []) (j := 18) rfl (by kernel_rfl) (by kernel_rfl) (ev_call (args := [(.r (.msl 568 2 0 z19.length)), (.r (.msl 432 0 0 p35.length))]) (l := [(.d (.sl z19.length (e_GAct.cells z19))), (.d (.sl p35.length (e_GAct.cells p35)))]) (r := (.d (.bool z20))) (by kernel_rfl) (l_cons (l_own e_GAct (e := 31) (k := 6) (xs := z19) (by kernel_rfl) rfl rfl) (l_cons (l_own e_GAct (e := 31) (k := 6) (xs := p35) (by kernel_rfl) rfl rfl) l_nil)) (f13_ok (d - 1) (dpt hd rfl) z19 p35 z20 hz20) (by kernel_rfl) (by kernel_rfl) (by kernel_rfl)) ?_
        refine zlRun (n := 2) (j := 20) rfl (by kernel_rfl) ?_
        refine zlEnd (by kernel_rfl) ?_
        refine zkSeq ?_
        refine zrRet ?_
        refine zkNil ?_
        exact endQ hS hQ (fRet ((congrArg (fun s => outR s 0 c5.res) (by kernel_rfl : finSt c5.fin _ = f5_fin z20)).trans (f5_out z20)))
      · replace hS := cond_f hc hS
        refine zlRun (n := 10) (j := 20) rfl (by kernel_rfl) ?_
        refine zlEnd (by kernel_rfl) ?_
        refine zkSeq ?_
        refine zrRet ?_
        refine zkNil ?_
        exact endQ hS hQ (fRet ((congrArg (fun s => outR s 0 c5.res) (by kernel_rfl : finSt c5.fin _ = f5_fin false)).trans (f5_out false)))
    · replace hS := cond_f hc hS
      refine zlRun (n := 15) (j := 20) rfl (by kernel_rfl) ?_
      refine zlEnd (by kernel_rfl) ?_
      refine zkSeq ?_
      refine zrRet ?_
      refine zkNil ?_
      exact endQ hS hQ (fRet ((congrArg (fun s => outR s 0 c5.res) (by kernel_rfl : finSt c5.fin _ = f5_fin false)).trans (f5_out false)))
  · replace hS := cond_f hc hS
    refine zlRun (n := 18) (j := 20) rfl (by kernel_rfl) ?_
    refine zlEnd (by kernel_rfl) ?_
    refine zkSeq ?_
    refine zrRet ?_
    refine zkNil ?_
    exact endQ hS hQ (fRet ((congrArg (fun s => outR s 0 c5.res) (by kernel_rfl : finSt c5.fin _ = f5_fin false)).trans (f5_out false)))
def f5_j0_J (a1 : GParser) (a2 : List Int) (a3 : List Int) (p28 : GParser) (p29 : List GAct) : St := ⟨(up (up (up (up (up (fun _ => .un) 8 (.r (.msl 160 0 0 p29.length))) 7 (.r (.ptr 64 0 0))) 3 (.r (.ptr 32 0 0))) 2 (.d (.sl a3.length ((eInt .i64).cells a3)))) 1 (.d (.sl a2.length ((eInt .i64).cells a2)))), (up (up (up (hB fun _ => 0) 160 ⟨0, some (.own 31 6 (e_GAct.cells p29))⟩) 64 ⟨0, some (.box ((.d (.int .i64 p28.State)) :: ((.d (.int .i64 p28.Mark)) :: ((.d (.str p28.Inter)) :: ((.d (.str p28.Args)) :: ((.d (.str p28.Text)) :: []))))))⟩) 32 ⟨0, some (.box ((.d (.int .i64 a1.State)) :: ((.d (.int .i64 a1.Mark)) :: ((.d (.str a1.Inter)) :: ((.d (.str a1.Args)) :: ((.d (.str a1.Text)) :: []))))))⟩)⟩
noncomputable def f5_j0 (a1 : GParser) (a2 : List Int) (a3 : List Int) (p28 : GParser) (p29 : List GAct) : Option (Bool) := ((f11 p28 a3).bind fun z14 => ((f16 a2).bind fun z15 => ((app? 8 z15 a3).bind fun z16 => ((f11 a1 z16).bind fun z17 => (f5_j1 a1 a2 a3 p29 z14.1 z14.2.1 z14.2.2 z17.1 z17.2.1 z17.2.2)))))
theorem f5_j0_ok {d : Nat} (hd : 8 ≤ d) (a1 : GParser) (a2 : List Int) (a3 : List Int) {r : Bool} {Q : PX → St → Prop} (hQ : ∀ e st', f5_Q r e st' → Q e st') (p28 : GParser) (p29 : List GAct) (hS : f5_j0 a1 a2 a3 p28 p29 = some r) {st : St} (he : keepSt [1, 2, 3, 7, 8] [(32, .id 32), (64, .id 64), (160, .id 160)] [] st = f5_j0_J a1 a2 a3 p28 p29) : ZR (lev codes baseL (d - 1)) Q c5_2 [] st := by
  refine zrKeep he ?_
  unfold f5_j0 at hS
  refine zrSeq ?_
  refine zrReg ?_
  refine zlRun (n := 2) (j := 2) rfl (by kernel_rfl) ?_
  refine bindE hS (fun z14 hz14 hS => ?_)
  refine zlOp (d := some 43) (op := (.callf 11 [(.tmp 41), (.tmp 42)])) (g := none) (v := (.tup [(.agg ((.d (.int .i64 z14.1.State)) :: ((.d (.int .i64 z14.1.Mark)) :: ((.d (.str z14.1.Inter)) :: ((.d (.str z14.1.Args)) :: ((.d (.str z14.1.Text)) :: [])))))), (.r (.msl 352 1 0 z14.2.1.length)), (.d (.int .i64 z14.2.2))])) (ups := [(352, ⟨1, some (.own 31 6 (e_GAct.cells z14.2.1))⟩)]) (j := 3) rfl (by kernel_rfl) (by kernel_rfl) (ev_callF (args := [(.agg ((.d (.int .i64 p28.State)) :: ((.d (.int .i64 p28.Mark)) :: ((.d (.str p28.Inter)) :: ((.d (.str p28.Args)) :: ((.d (.str p28.Text)) :: [])))))), (.d (.sl a3.length ((eInt .i64).cells a3)))]) (args' := [(.agg ((.d (.int .i64 p28.State)) :: ((.d (.int .i64 p28.Mark)) :: ((.d (.str p28.Inter)) :: ((.d (.str p28.Args)) :: ((.d (.str p28.Text)) :: [])))))), (.d (.sl a3.length ((eInt .i64).cells a3)))]) (l := [(.agg ((.d (.int .i64 p28.State)) :: ((.d (.int .i64 p28.Mark)) :: ((.d (.str p28.Inter)) :: ((.d (.str p28.Args)) :: ((.d (.str p28.Text)) :: [])))))), (.d (.sl a3.length ((eInt .i64).cells a3)))]) (refs := []) (r := (.tup [(.agg ((.d (.int .i64 z14.1.State)) :: ((.d (.int .i64 z14.1.Mark)) :: ((.d (.str z14.1.Inter)) :: ((.d (.str z14.1.Args)) :: ((.d (.str z14.1.Text)) :: [])))))), (.r (.own 0 31 6 z14.2.1.length (e_GAct.cells z14.2.1))), (.d (.int .i64 z14.2.2))])) (v := (.tup [(.agg ((.d (.int .i64 z14.1.State)) :: ((.d (.int .i64 z14.1.Mark)) :: ((.d (.str z14.1.Inter)) :: ((.d (.str z14.1.Args)) :: ((.d (.str z14.1.Text)) :: [])))))), (.r (.msl 352 1 0 z14.2.1.length)), (.d (.int .i64 z14.2.2))])) (ups' := [(352, ⟨1, some (.own 31 6 (e_GAct.cells z14.2.1))⟩)]) (by kernel_rfl) (by kernel_rfl) (by kernel_rfl) (fz_cons rfl (fz_cons rfl fz_nil)) (by kernel_rfl) (f11_ok (d - 1) (dpt hd rfl) p28 a3 z14 hz14) (by kernel_rfl) (by kernel_rfl) (by kernel_rfl) (by kernel_rfl)) ?_
  refine zlRun (n := 8) (j := 11) rfl (by kernel_rfl) ?_
  refine zlEnd (by kernel_rfl) ?_
  refine zkSeq ?_
  refine zrSeq ?_
  refine zrRegD ?_
  refine zdRun (n := 2) (j := 2) (ts := [[(32, false)], []]) (acc' := [[(32, false)], []]) rfl (by kernel_rfl) (by kernel_rfl) (by kernel_rfl) ?_
  refine bindE hS (fun z15 hz15 hS => ?_)
  refine zdOp (d := some 50) (op := (.call 16 [(.tmp 49)])) (g := none) (v := (.r (.msl 408 1 0 z15.length))) (ups := [(408, ⟨1, some (.own 3 1 ((eInt .i64).cells z15))⟩)]) (j := 3) (t1 := [(408, true), (409, true), (410, true), (411, true), (412, true), (413, true), (414, true), (415, true)]) (acc' := [[(32, false)], [], [(408, true), (409, true), (410, true), (411, true), (412, true), (413, true), (414, true), (415, true)]]) (by kernel_rfl) (by kernel_rfl) rfl (by kernel_rfl) (by kernel_rfl) (ev_call (args := [(.d (.sl a2.length ((eInt .i64).cells a2)))]) (l := [(.d (.sl a2.length ((eInt .i64).cells a2)))]) (r := (.r (.own 0 3 1 z15.length ((eInt .i64).cells z15)))) (by kernel_rfl) (by kernel_rfl) (f16_ok (d - 1) (dpt hd rfl) a2 z15 hz15) (by kernel_rfl) (by kernel_rfl) (by kernel_rfl)) ?_
  refine zdRun (n := 1) (j := 4) (ts := [[]]) (acc' := [[(32, false)], [], [(408, true), (409, true), (410, true), (411, true), (412, true), (413, true), (414, true), (415, true)], []]) rfl (by kernel_rfl) (by kernel_rfl) (by kernel_rfl) ?_
  refine bindE hS (fun z16 hz16 hS => ?_)
  refine zdOp (d := some 52) (op := (.app 3 1 8 (.tmp 50) (.tmp 51))) (g := none) (v := (.r (.msl 408 2 0 z16.length))) (ups := [(408, ⟨2, some (.own 3 1 ((eInt .i64).cells z16))⟩)]) (j := 5) (t1 := [(424, true), (408, true)]) (acc' := [[(32, false)], [], [(408, true), (409, true), (410, true), (411, true), (412, true), (413, true), (414, true), (415, true)], [], [(424, true), (408, true)]]) (by kernel_rfl) (by kernel_rfl) rfl (by kernel_rfl) (by kernel_rfl) (ev_app (eInt .i64) (b := 408) (g := 1) (n := z15.length) (xs := z15) (ys := a3) ((congrArg (asL _) (by kernel_rfl : ρof _ (.tmp 51) = (.d (.sl a3.length ((eInt .i64).cells a3))))).trans (as_d _ _)) rfl (by kernel_rfl) rfl (by kernel_rfl) rfl hz16) ?_
  refine bindE hS (fun z17 hz17 hS => ?_)
  refine zdOp (d := some 53) (op := (.callf 11 [(.tmp 48), (.tmp 52)])) (g := none) (v := (.tup [(.agg ((.d (.int .i64 z17.1.State)) :: ((.d (.int .i64 z17.1.Mark)) :: ((.d (.str z17.1.Inter)) :: ((.d (.str z17.1.Args)) :: ((.d (.str z17.1.Text)) :: [])))))), (.r (.msl 432 1 0 z17.2.1.length)), (.d (.int .i64 z17.2.2))])) (ups := [(408, ⟨3, none⟩), (432, ⟨1, some (.own 31 6 (e_GAct.cells z17.2.1))⟩)]) (j := 6) (t1 := [(408, true), (432, true), (433, true), (434, true), (435, true), (436, true), (437, true), (438, true), (439, true)]) (acc' := [[(32, false)], [], [(408, true), (409, true), (410, true), (411, true), (412, true), (413, true), (414, true), (415, true)], [], [(424, true), (408, true)], [(408, true), (432, true), (433, true), (434, true), (435, true), (436, true), (437, true), (438, true), (439, true)]]) (by kernel_rfl) (by kernel_rfl) rfl (by kernel_rfl) (by kernel_rfl) (ev_callF (args := [(.agg ((.d (.int .i64 a1.State)) :: ((.d (.int .i64 a1.Mark)) :: ((.d (.str a1.Inter)) :: ((.d (.str a1.Args)) :: ((.d (.str a1.Text)) :: [])))))), (.r (.msl 408 2 0 z16.length))]) (args' := [(.agg ((.d (.int .i64 a1.State)) :: ((.d (.int .i64 a1.Mark)) :: ((.d (.str a1.Inter)) :: ((.d (.str a1.Args)) :: ((.d (.str a1.Text)) :: [])))))), (.d (.sl z16.length ((eInt .i64).cells z16)))]) (l := [(.agg ((.d (.int .i64 a1.State)) :: ((.d (.int .i64 a1.Mark)) :: ((.d (.str a1.Inter)) :: ((.d (.str a1.Args)) :: ((.d (.str a1.Text)) :: [])))))), (.d (.sl z16.length ((eInt .i64).cells z16)))]) (refs := [408]) (r := (.tup [(.agg ((.d (.int .i64 z17.1.State)) :: ((.d (.int .i64 z17.1.Mark)) :: ((.d (.str z17.1.Inter)) :: ((.d (.str z17.1.Args)) :: ((.d (.str z17.1.Text)) :: [])))))), (.r (.own 0 31 6 z17.2.1.length (e_GAct.cells z17.2.1))), (.d (.int .i64 z17.2.2))])) (v := (.tup [(.agg ((.d (.int .i64 z17.1.State)) :: ((.d (.int .i64 z17.1.Mark)) :: ((.d (.str z17.1.Inter)) :: ((.d (.str z17.1.Args)) :: ((.d (.str z17.1.Text)) :: [])))))), (.r (.msl 432 1 0 z17.2.1.length)), (.d (.int .i64 z17.2.2))])) (ups' := [(432, ⟨1, some (.own 31 6 (e_GAct.cells z17.2.1))⟩)]) (by kernel_rfl) (by kernel_rfl) (by kernel_rfl) (fz_cons rfl (fz_cons (fz_own (eInt .i64) (e := 3) (k := 1) (xs := z16) (by kernel_rfl) (by kernel_rfl) rfl rfl) fz_nil)) (by kernel_rfl) (f11_ok (d - 1) (dpt hd rfl) a1 z16 z17 hz17) (by kernel_rfl) (by kernel_rfl) (by kernel_rfl) (by kernel_rfl)) ?_
  refine zdRun (n := 8) (j := 14) (ts := [[], [], [], [], [(112, true)], [(112, true)], [], []]) (acc' := [[(32, false)], [], [(408, true), (409, true), (410, true), (411, true), (412, true), (413, true), (414, true), (415, true)], [], [(424, true), (408, true)], [(408, true), (432, true), (433, true), (434, true), (435, true), (436, true), (437, true), (438, true), (439, true)], [], [], [], [], [(112, true)], [(112, true)], [], []]) rfl (by kernel_rfl) (by kernel_rfl) (by kernel_rfl) ?_
  refine zdEnd (by kernel_rfl) (by kernel_rfl) ?_
  refine zkSeq ?_
  exact f5_j1_ok hd a1 a2 a3 hQ p29 z14.1 z14.2.1 z14.2.2 z17.1 z17.2.1 z17.2.2 hS (by exact (by kernel_rfl : _ = (⟨(up (up (up (up (up (up (up (fun _ => .un) 15 (.d (.int .i64 z17.2.2))) 14 (.r (.msl 432 0 0 z17.2.1.length))) 13 (.r (.ptr 112 0 0))) 12 (.d (.int .i64 z14.2.2))) 11 (.r (.msl 352 0 0 z14.2.1.length))) 10 (.r (.ptr 88 0 0))) 8 (.d (.sl p29.length (((e_GAct.cells p29).drop (0 * e_GAct.k)).take (p29.length * e_GAct.k))))), (up (up (up (up (hB fun _ => 0) 432 ⟨0, some (.own 31 6 (e_GAct.cells z17.2.1))⟩) 112 ⟨0, some (.box ((.d (.int .i64 z17.1.State)) :: ((.d (.int .i64 z17.1.Mark)) :: ((.d (.str z17.1.Inter)) :: ((.d (.str z17.1.Args)) :: ((.d (.str z17.1.Text)) :: []))))))⟩) 352 ⟨0, some (.own 31 6 (e_GAct.cells z14.2.1))⟩) 88 ⟨0, some (.box ((.d (.int .i64 z14.1.State)) :: ((.d (.int .i64 z14.1.Mark)) :: ((.d (.str z14.1.Inter)) :: ((.d (.str z14.1.Args)) :: ((.d (.str z14.1.Text)) :: []))))))⟩)⟩ : St)).trans (by simp only [Enc.frz]; kernel_rfl))
def f5_j2_J (a1 : GParser) (a2 : List Int) (a3 : List Int) (p39 : GParser) (p40 : List GAct) : St := ⟨(up (up (up (fun _ => .un) 8 (.r (.msl 160 0 0 p40.length))) 7 (.r (.ptr 64 0 0))) 3 (.r (.ptr 32 0 0))), (up (up (up (hB fun _ => 0) 160 ⟨0, some (.own 31 6 (e_GAct.cells p40))⟩) 64 ⟨0, some (.box ((.d (.int .i64 p39.State)) :: ((.d (.int .i64 p39.Mark)) :: ((.d (.str p39.Inter)) :: ((.d (.str p39.Args)) :: ((.d (.str p39.Text)) :: []))))))⟩) 32 ⟨0, some (.box ((.d (.int .i64 a1.State)) :: ((.d (.int .i64 a1.Mark)) :: ((.d (.str a1.Inter)) :: ((.d (.str a1.Args)) :: ((.d (.str a1.Text)) :: []))))))⟩)⟩
noncomputable def f5_j2 (a1 : GParser) (a2 : List Int) (a3 : List Int) (p39 : GParser) (p40 : List GAct) : Option (Bool) := (f12.bind fun z22 => (bif z22 then (bif (decide (p39.State = a1.State) && (decide (p39.Mark = a1.Mark) && (decide (p39.Inter = a1.Inter) && (decide (p39.Args = a1.Args) && (decide (p39.Text = a1.Text) && true))))) then (bif (decide ((p40.length : Int) = 0)) then (some true) else (some false)) else (some false)) else (some false)))
theorem f5_j2_ok {d : Nat} (hd : 8 ≤ d) (a1 : GParser) (a2 : List Int) (a3 : List Int) {r : Bool} {Q : PX → St → Prop} (hQ : ∀ e st', f5_Q r e st' → Q e st') (p39 : GParser) (p40 : List GAct) (hS : f5_j2 a1 a2 a3 p39 p40 = some r) {st : St} (he : keepSt [3, 7, 8] [(32, .id 32), (64, .id 64), (160, .id 160)] [] st = f5_j2_J a1 a2 a3 p39 p40) : ZR (lev codes baseL (d - 1)) Q c5_3 [.seq c5_2] st := by
  refine zrKeep he ?_
  unfold f5_j2 at hS
  refine zrSeq ?_
  refine zrReg ?_
  refine bindE hS (fun z22 hz22 hS => ?_)
  refine zlOp (d := some 29) (op := (.call 12 [])) (g := none) (v := (.d (.bool z22))) (ups := []) (j := 1) rfl (by kernel_rfl) (by kernel_rfl) (ev_call (args := []) (l := []) (r := (.d (.bool z22))) (by kernel_rfl) (by kernel_rfl) (f12_ok (d - 1) (dpt hd rfl)  z22 hz22) (by kernel_rfl) (by kernel_rfl) (by kernel_rfl)) ?_
  refine zlRun (n := 1) (j := 2) rfl (by kernel_rfl) ?_
  refine zlSplit 30 z22 (by kernel_rfl) (fun hc => ?_) (fun hc => ?_)
  · replace hS := cond_t hc hS
    refine zlRun (n := 2) (j := 4) rfl (by kernel_rfl) ?_
    refine zlBool (d := 33) (op := (.eqA .false [(2, .int), (3, .str)] (.tmp 31) (.tmp 32))) (g := (some (30, true))) (j := 5) (decide (p39.State = a1.State) && (decide (p39.Mark = a1.Mark) && (decide (p39.Inter = a1.Inter) && (decide (p39.Args = a1.Args) && (decide (p39.Text = a1.Text) && true))))) rfl (by kernel_rfl) (by kernel_rfl) (by kernel_rfl) (fun hc => ?_) (fun hc => ?_)
    · replace hS := cond_t hc hS
      refine zlRun (n := 4) (j := 9) rfl (by kernel_rfl) ?_
      refine zlBool (d := 38) (op := (.cmpI .eql (.tmp 37) (.const (.int .i64 0)))) (g := (some (35, true))) (j := 10) (decide ((p40.length : Int) = 0)) rfl (by kernel_rfl) (by kernel_rfl) (by kernel_rfl) (fun hc => ?_) (fun hc => ?_)
      · replace hS := cond_t hc hS
        refine zlRun (n := 2) (j := 12) rfl (by kernel_rfl) ?_
        refine zlEnd (by kernel_rfl) ?_
        refine zkSeq ?_
        refine zrRet ?_
        refine zkSeqR ?_
        refine zkNil ?_
        exact endQ hS hQ (fRet ((congrArg (fun s => outR s 0 c5.res) (by kernel_rfl : finSt c5.fin _ = f5_fin true)).trans (f5_out true)))
      · replace hS := cond_f hc hS
        refine zlRun (n := 2) (j := 12) rfl (by kernel_rfl) ?_
        refine zlEnd (by kernel_rfl) ?_
        refine zkSeq ?_
        refine zrRet ?_
        refine zkSeqR ?_
        refine zkNil ?_
        exact endQ hS hQ (fRet ((congrArg (fun s => outR s 0 c5.res) (by kernel_rfl : finSt c5.fin _ = f5_fin false)).trans (f5_out false)))
    · replace hS := cond_f hc hS
      refine zlRun (n := 7) (j := 12) rfl (by kernel_rfl) ?_
      refine zlEnd (by kernel_rfl) ?_
      refine zkSeq ?_
      refine zrRet ?_
      refine zkSeqR ?_
      refine zkNil ?_
      exact endQ hS hQ (fRet ((congrArg (fun s => outR s 0 c5.res) (by kernel_rfl : finSt c5.fin _ = f5_fin false)).trans (f5_out false)))
  · replace hS := cond_f hc hS
    refine zlRun (n := 10) (j := 12) rfl (by kernel_rfl) ?_
    refine zlEnd (by kernel_rfl) ?_
    refine zkSeq ?_
    refine zrRet ?_
    refine zkSeqR ?_
    refine zkNil ?_
    exact endQ hS hQ (fRet ((congrArg (fun s => outR s 0 c5.res) (by kernel_rfl : finSt c5.fin _ = f5_fin false)).trans (f5_out false)))
noncomputable def f5 (a1 : GParser) (a2 : List Int) (a3 : List Int) : Option (Bool) := ((f11 a1 a2).bind fun z11 => (f12.bind fun z23 => (bif (!z23) then (f5_j2 a1 a2 a3 z11.1 z11.2.1) else (bif (!decide (z11.2.2 = 0)) then (f5_j2 a1 a2 a3 z11.1 z11.2.1) else (f5_j0 a1 a2 a3 z11.1 z11.2.1)))))
theorem f5_ok (d : Nat) (hd : 8 ≤ d) (a1 : GParser) (a2 : List Int) (a3 : List Int) (r : Bool) (hS : f5 a1 a2 a3 = some r) : lev codes baseL d 5 [(.agg ((.d (.int .i64 a1.State)) :: ((.d (.int .i64 a1.Mark)) :: ((.d (.str a1.Inter)) :: ((.d (.str a1.Args)) :: ((.d (.str a1.Text)) :: [])))))), (.d (.sl a2.length ((eInt .i64).cells a2))), (.d (.sl a3.length ((eInt .i64).cells a3)))] [] = some ((.d (.bool r)), []) := by
  refine lev_go codes5 rfl rfl (Nat.le_trans (Nat.le_of_ble_eq_true rfl) hd) fun Q hQ => ?_
  unfold f5 at hS
  show ZR _ Q c5_b [] _
  replace hQ : ∀ e st', f5_Q r e st' → Q e st' := hQ
  refine zrSeq ?_
  refine zrReg ?_
  refine zlRun (n := 2) (j := 2) rfl (by kernel_rfl) ?_
  refine zlEnd (by kernel_rfl) ?_
  refine zkSeq ?_
  refine zrSeq ?_
  refine zrReg ?_
  refine zlRun (n := 2) (j := 2) rfl (by kernel_rfl) ?_
  refine bindE hS (fun z11 hz11 hS => ?_)
  refine zlOp (d := some 19) (op := (.callf 11 [(.tmp 17), (.tmp 18)])) (g := none) (v := (.tup [(.agg ((.d (.int .i64 z11.1.State)) :: ((.d (.int .i64 z11.1.Mark)) :: ((.d (.str z11.1.Inter)) :: ((.d (.str z11.1.Args)) :: ((.d (.str z11.1.Text)) :: [])))))), (.r (.msl 160 1 0 z11.2.1.length)), (.d (.int .i64 z11.2.2))])) (ups := [(160, ⟨1, some (.own 31 6 (e_GAct.cells z11.2.1))⟩)]) (j := 3) rfl (by kernel_rfl) (by kernel_rfl) (ev_callF (args := [(.agg ((.d (.int .i64 a1.State)) :: ((.d (.int .i64 a1.Mark)) :: ((.d (.str a1.Inter)) :: ((.d (.str a1.Args)) :: ((.d (.str a1.Text)) :: [])))))), (.d (.sl a2.length ((eInt .i64).cells a2)))]) (args' := [(.agg ((.d (.int .i64 a1.State)) :: ((.d (.int .i64 a1.Mark)) :: ((.d (.str a1.Inter)) :: ((.d (.str a1.Args)) :: ((.d (.str a1.Text)) :: [])))))), (.d (.sl a2.length ((eInt .i64).cells a2)))]) (l := [(.agg ((.d (.int .i64 a1.State)) :: ((.d (.int .i64 a1.Mark)) :: ((.d (.str a1.Inter)) :: ((.d (.str a1.Args)) :: ((.d (.str a1.Text)) :: [])))))), (.d (.sl a2.length ((eInt .i64).cells a2)))]) (refs := []) (r := (.tup [(.agg ((.d (.int .i64 z11.1.State)) :: ((.d (.int .i64 z11.1.Mark)) :: ((.d (.str z11.1.Inter)) :: ((.d (.str z11.1.Args)) :: ((.d (.str z11.1.Text)) :: [])))))), (.r (.own 0 31 6 z11.2.1.length (e_GAct.cells z11.2.1))), (.d (.int .i64 z11.2.2))])) (v := (.tup [(.agg ((.d (.int .i64 z11.1.State)) :: ((.d (.int .i64 z11.1.Mark)) :: ((.d (.str z11.1.Inter)) :: ((.d (.str z11.1.Args)) :: ((.d (.str z11.1.Text)) :: [])))))), (.r (.msl 160 1 0 z11.2.1.length)), (.d (.int .i64 z11.2.2))])) (ups' := [(160, ⟨1, some (.own 31 6 (e_GAct.cells z11.2.1))⟩)]) (by kernel_rfl) (by kernel_rfl) (by kernel_rfl) (fz_cons rfl (fz_cons rfl fz_nil)) (by kernel_rfl) (f11_ok (d - 1) (dpt hd rfl) a1 a2 z11 hz11) (by kernel_rfl) (by kernel_rfl) (by kernel_rfl) (by kernel_rfl)) ?_
  refine zlRun (n := 8) (j := 11) rfl (by kernel_rfl) ?_
  refine zlEnd (by kernel_rfl) ?_
  refine zkSeq ?_
  refine zrSeq ?_
  refine zrSeq ?_
  refine zrReg ?_
  refine bindE hS (fun z23 hz23 hS => ?_)
  refine zlOp (d := some 23) (op := (.call 12 [])) (g := none) (v := (.d (.bool z23))) (ups := []) (j := 1) rfl (by kernel_rfl) (by kernel_rfl) (ev_call (args := []) (l := []) (r := (.d (.bool z23))) (by kernel_rfl) (by kernel_rfl) (f12_ok (d - 1) (dpt hd rfl)  z23 hz23) (by kernel_rfl) (by kernel_rfl) (by kernel_rfl)) ?_
  refine zlRun (n := 2) (j := 3) rfl (by kernel_rfl) ?_
  refine zlSplit 25 (!z23) (by kernel_rfl) (fun hc => ?_) (fun hc => ?_)
  · replace hS := cond_t hc hS
    refine zlRun (n := 3) (j := 6) rfl (by kernel_rfl) ?_
    refine zlEnd (by kernel_rfl) ?_
    refine zkSeq ?_
    refine zrCondT (by kernel_rfl) ?_
    exact f5_j2_ok hd a1 a2 a3 hQ z11.1 z11.2.1 hS (by kernel_rfl)
  · replace hS := cond_f hc hS
    refine zlRun (n := 1) (j := 4) rfl (by kernel_rfl) ?_
    refine zlBool (d := 27) (op := (.cmpI .neq (.tmp 26) (.const (.int .i64 0)))) (g := (some (25, false))) (j := 5) (!decide (z11.2.2 = 0)) rfl (by kernel_rfl) (by kernel_rfl) (by kernel_rfl) (fun hc => ?_) (fun hc => ?_)
    · replace hS := cond_t hc hS
      refine zlRun (n := 1) (j := 6) rfl (by kernel_rfl) ?_
      refine zlEnd (by kernel_rfl) ?_
      refine zkSeq ?_
      refine zrCondT (by kernel_rfl) ?_
      exact f5_j2_ok hd a1 a2 a3 hQ z11.1 z11.2.1 hS (by kernel_rfl)
    · replace hS := cond_f hc hS
      refine zlRun (n := 1) (j := 6) rfl (by kernel_rfl) ?_
      refine zlEnd (by kernel_rfl) ?_
      refine zkSeq ?_
      refine zrCondF (by kernel_rfl) ?_
      refine zrSkip ?_
      refine zkSeq ?_
      exact f5_j0_ok hd a1 a2 a3 hQ z11.1 z11.2.1 hS (by kernel_rfl)
/- farwriter/farkeep.ParseHeals -/
def f6_fin (p8 : Bool) : St := ⟨(up (fun _ => .un) 6 (.d (.bool p8))), (hB fun _ => 0)⟩
theorem f6_out (p8 : Bool) : outR (f6_fin p8) 0 c6.res = some ((.d (.bool p8)), []) := by
  kernel_rfl
def f6_Q (r : Bool) (e : PX) (st : St) : Prop := DoneF c6 0 ((.d (.bool r)), []) e st
def f6_j0_J (a1 : GParser) (a2 : List Int) (a3 : List Int) (p12 : GParser) : St := ⟨(up (up (fun _ => .un) 7 (.r (.ptr 64 0 0))) 2 (.d (.sl a3.length ((eInt .i64).cells a3)))), (up (hB fun _ => 0) 64 ⟨0, some (.box ((.d (.int .i64 p12.State)) :: ((.d (.int .i64 p12.Mark)) :: ((.d (.str p12.Inter)) :: ((.d (.str p12.Args)) :: ((.d (.str p12.Text)) :: []))))))⟩)⟩
noncomputable def f6_j0 (a1 : GParser) (a2 : List Int) (a3 : List Int) (p12 : GParser) : Option (Bool) := ((f11 p12 a3).bind fun z14 => ((f11 (GParser.mk 0 0 ([]) ([]) ([])) a3).bind fun z15 => (bif (decide (z14.2.2 = 0)) then (bif (decide (z15.2.2 = 0)) then (bif (decide (p12.State = 0) && (decide (p12.Mark = 0) && (decide (p12.Inter = ([] : List UInt8)) && (decide (p12.Args = ([] : List UInt8)) && (decide (p12.Text = ([] : List UInt8)) && true))))) then (bif (decide (z14.1.State = z15.1.State) && (decide (z14.1.Mark = z15.1.Mark) && (decide (z14.1.Inter = z15.1.Inter) && (decide (z14.1.Args = z15.1.Args) && (decide (z14.1.Text = z15.1.Text) && true))))) then ((f13 z14.2.1 z15.2.1).bind fun z16 => (some z16)) else (some false)) else (some false)) else (some false)) else (some false))))
theorem f6_j0_ok {d : Nat} (hd : 8 ≤ d) (a1 : GParser) (a2 : List Int) (a3 : List Int) {r : Bool} {Q : PX → St → Prop} (hQ : ∀ e st', f6_Q r e st' → Q e st') (p12 : GParser) (hS : f6_j0 a1 a2 a3 p12 = some r) {st : St} (he : keepSt [2, 7] [(64, .id 64)] [] st = f6_j0_J a1 a2 a3 p12) : ZR (lev codes baseL (d - 1)) Q c6_1 [] st := by
  refine zrKeep he ?_
  unfold f6_j0 at hS
  refine zrSeq ?_
  refine zrReg ?_
  refine zlRun (n := 2) (j := 2) rfl (by kernel_rfl) ?_
  refine bindE hS (fun z14 hz14 hS => ?_)
  refine zlOp (d := some 36) (op := (.callf 11 [(.tmp 34), (.tmp 35)])) (g := none) (v := (.tup [(.agg ((.d (.int .i64 z14.1.State)) :: ((.d (.int .i64 z14.1.Mark)) :: ((.d (.str z14.1.Inter)) :: ((.d (.str z14.1.Args)) :: ((.d (.str z14.1.Text)) :: [])))))), (.r (.msl 296 1 0 z14.2.1.length)), (.d (.int .i64 z14.2.2))])) (ups := [(296, ⟨1, some (.own 31 6 (e_GAct.cells z14.2.1))⟩)]) (j := 3) rfl (by kernel_rfl) (by kernel_rfl) (ev_callF (args := [(.agg ((.d (.int .i64 p12.State)) :: ((.d (.int .i64 p12.Mark)) :: ((.d (.str p12.Inter)) :: ((.d (.str p12.Args)) :: ((.d (.str p12.Text)) :: [])))))), (.d (.sl a3.length ((eInt .i64).cells a3)))]) (args' := [(.agg ((.d (.int .i64 p12.State)) :: ((.d (.int .i64 p12.Mark)) :: ((.d (.str p12.Inter)) :: ((.d (.str p12.Args)) :: ((.d (.str p12.Text)) :: [])))))), (.d (.sl a3.length ((eInt .i64).cells a3)))]) (l := [(.agg ((.d (.int .i64 p12.State)) :: ((.d (.int .i64 p12.Mark)) :: ((.d (.str p12.Inter)) :: ((.d (.str p12.Args)) :: ((.d (.str p12.Text)) :: [])))))), (.d (.sl a3.length ((eInt .i64).cells a3)))]) (refs := []) (r := (.tup [(.agg ((.d (.int .i64 z14.1.State)) :: ((.d (.int .i64 z14.1.Mark)) :: ((.d (.str z14.1.Inter)) :: ((.d (.str z14.1.Args)) :: ((.d (.str z14.1.Text)) :: [])))))), (.r (.own 0 31 6 z14.2.1.length (e_GAct.cells z14.2.1))), (.d (.int .i64 z14.2.2))])) (v := (.tup [(.agg ((.d (.int .i64 z14.1.State)) :: ((.d (.int .i64 z14.1.Mark)) :: ((.d (.str z14.1.Inter)) :: ((.d (.str z14.1.Args)) :: ((.d (.str z14.1.Text)) :: [])))))), (.r (.msl 296 1 0 z14.2.1.length)), (.d (.int .i64 z14.2.2))])) (ups' := [(296, ⟨1, some (.own 31 6 (e_GAct.cells z14.2.1))⟩)]) (by kernel_rfl) (by kernel_rfl) (by kernel_rfl) (fz_cons rfl (fz_cons rfl fz_nil)) (by kernel_rfl) (f11_ok (d - 1) (dpt hd rfl) p12 a3 z14 hz14) (by kernel_rfl) (by kernel_rfl) (by kernel_rfl) (by kernel_rfl)) ?_
  refine zlRun (n := 8) (j := 11) rfl (by kernel_rfl) ?_
  refine zlEnd (by kernel_rfl) ?_
  refine zkSeq ?_
  refine zrSeq ?_
  refine zrReg ?_
  refine zlRun (n := 2) (j := 2) rfl (by kernel_rfl) ?_
  refine bindE hS (fun z15 hz15 hS => ?_)
  refine zlOp (d := some 43) (op := (.callf 11 [(.tmp 41), (.tmp 42)])) (g := none) (v := (.tup [(.agg ((.d (.int .i64 z15.1.State)) :: ((.d (.int .i64 z15.1.Mark)) :: ((.d (.str z15.1.Inter)) :: ((.d (.str z15.1.Args)) :: ((.d (.str z15.1.Text)) :: [])))))), (.r (.msl 352 1 0 z15.2.1.length)), (.d (.int .i64 z15.2.2))])) (ups := [(352, ⟨1, some (.own 31 6 (e_GAct.cells z15.2.1))⟩)]) (j := 3) rfl (by kernel_rfl) (by kernel_rfl) (ev_callF (args := [(.agg ((.d (.int .i64 0)) :: ((.d (.int .i64 0)) :: ((.d (.str ([]))) :: ((.d (.str ([]))) :: ((.d (.str ([]))) :: [])))))), (.d (.sl a3.length ((eInt .i64).cells a3)))]) (args' := [(.agg ((.d (.int .i64 0)) :: ((.d (.int .i64 0)) :: ((.d (.str ([]))) :: ((.d (.str ([]))) :: ((.d (.str ([]))) :: [])))))), (.d (.sl a3.length ((eInt .i64).cells a3)))]) (l := [(.agg ((.d (.int .i64 0)) :: ((.d (.int .i64 0)) :: ((.d (.str ([]))) :: ((.d (.str ([]))) :: ((.d (.str ([]))) :: [])))))), (.d (.sl a3.length ((eInt .i64).cells a3)))]) (refs := []) (r := (.tup [(.agg ((.d (.int .i64 z15.1.State)) :: ((.d (.int .i64 z15.1.Mark)) :: ((.d (.str z15.1.Inter)) :: ((.d (.str z15.1.Args)) :: ((.d (.str z15.1.Text)) :: [])))))), (.r (.own 0 31 6 z15.2.1.length (e_GAct.cells z15.2.1))), (.d (.int .i64 z15.2.2))])) (v := (.tup [(.agg ((.d (.int .i64 z15.1.State)) :: ((.d (.int .i64 z15.1.Mark)) :: ((.d (.str z15.1.Inter)) :: ((.d (.str z15.1.Args)) :: ((.d (.str z15.1.Text)) :: [])))))), (.r (.msl 352 1 0 z15.2.1.length)), (.d (.int .i64 z15.2.2))])) (ups' := [(352, ⟨1, some (.own 31 6 (e_GAct.cells z15.2.1))⟩)]) (by kernel_rfl) (by kernel_rfl) (by kernel_rfl) (fz_cons rfl (fz_cons rfl fz_nil)) (by kernel_rfl) (f11_ok (d - 1) (dpt hd rfl) (GParser.mk 0 0 ([]) ([]) ([])) a3 z15 hz15) (by kernel_rfl) (by kernel_rfl) (by kernel_rfl) (by kernel_rfl)) ?_
  refine zlRun (n := 8) (j := 11) rfl (by kernel_rfl) ?_
  refine zlEnd (by kernel_rfl) ?_
  refine zkSeq ?_
  refine zrSeq ?_
  refine zrReg ?_
  refine zlRun (n := 1) (j := 1) rfl (by kernel_rfl) ?_
  refine zlBool (d := 48) (op := (.cmpI .eql (.tmp 47) (.const (.int .i64 0)))) (g := none) (j := 2) (decide (z14.2.2 = 0)) rfl (by kernel_rfl) (by kernel_rfl) (by kernel_rfl) (fun hc => ?_) (fun hc => ?_)
  · replace hS := cond_t hc hS
    refine zlRun (n := 2) (j := 4) rfl (by kernel_rfl) ?_
    refine zlBool (d := 51) (op := (.cmpI .eql (.tmp 50) (.const (.int .i64 0)))) (g := (some (49, true))) (j := 5) (decide (z15.2.2 = 0)) rfl (by kernel_rfl) (by kernel_rfl) (by kernel_rfl) (fun hc => ?_) (fun hc => ?_)
    · replace hS := cond_t hc hS
      refine zlRun (n := 4) (j := 9) rfl (by kernel_rfl) ?_
      refine zlBool (d := 56) (op := (.eqA .false [(2, .int), (3, .str)] (.tmp 54) (.tmp 55))) (g := (some (53, true))) (j := 10) (decide (p12.State = 0) && (decide (p12.Mark = 0) && (decide (p12.Inter = ([] : List UInt8)) && (decide (p12.Args = ([] : List UInt8)) && (decide (p12.Text = ([] : List UInt8)) && true))))) rfl (by kernel_rfl) (by kernel_rfl) (by kernel_rfl) (fun hc => ?_) (fun hc => ?_)
      · replace hS := cond_t hc hS
        refine zlRun (n := 4) (j := 14) rfl (by kernel_rfl) ?_
        refine zlBool (d := 61) (op := (.eqA .false [(2, .int), (3, .str)] (.tmp 59) (.tmp 60))) (g := (some (58, true))) (j := 15) (decide (z14.1.State = z15.1.State) && (decide (z14.1.Mark = z15.1.Mark) && (decide (z14.1.Inter = z15.1.Inter) && (decide (z14.1.Args = z15.1.Args) && (decide (z14.1.Text = z15.1.Text) && true))))) rfl (by kernel_rfl) (by kernel_rfl) (by kernel_rfl) (fun hc => ?_) (fun hc => ?_)
        · replace hS := cond_t hc hS
          refine zlRun (n := 4) (j := 19) rfl (by kernel_rfl) ?_
          refine bindE hS (fun z16 hz16 hS => ?_)
          refine zlOp (d := some 66) (op := (.call 13 [(.tmp 64), (.tmp 65)])) (g := (some (63, true))) (v := (.d (.bool z16))) (ups := []) (j := 20) rfl (by kernel_rfl) (by kernel_rfl) (ev_call (args := [(.r (.msl 296 1 0 z14.2.1.length)), (.r (.msl 352 1 0 z15.2.1.length))]) (l := [(.d (.sl z14.2.1.length (e_GAct.cells z14.2.1))), (.d (.sl z15.2.1.length (e_GAct.cells z15.2.1)))]) (r := (.d (.bool z16))) (by kernel_rfl) (l_cons (l_own e_GAct (e := 31) (k := 6) (xs := z14.2.1) (by kernel_rfl) rfl rfl) (l_cons (l_own e_GAct (e := 31) (k := 6) (xs := z15.2.1) (by kernel_rfl) rfl rfl) l_nil)) (f13_ok (d - 1) (dpt hd rfl) z14.2.1 z15.2.1 z16 hz16) (by kernel_rfl) (by kernel_rfl) (by kernel_rfl)) ?_
          refine zlRun (n := 2) (j := 22) rfl (by kernel_rfl) ?_
          refine zlEnd (by kernel_rfl) ?_
          refine zkSeq ?_
          refine zrRet ?_
          refine zkNil ?_
          exact endQ hS hQ (fRet ((congrArg (fun s => outR s 0 c6.res) (by kernel_rfl : finSt c6.fin _ = f6_fin z16)).trans (f6_out z16)))
        · replace hS := cond_f hc hS
          refine zlRun (n := 7) (j := 22) rfl (by kernel_rfl) ?_
          refine zlEnd (by kernel_rfl) ?_
          refine zkSeq ?_
          refine zrRet ?_
          refine zkNil ?_
          exact endQ hS hQ (fRet ((congrArg (fun s => outR s 0 c6.res) (by kernel_rfl : finSt c6.fin _ = f6_fin false)).trans (f6_out false)))
      · replace hS := cond_f hc hS
        refine zlRun (n := 12) (j := 22) rfl (by kernel_rfl) ?_
        refine zlEnd (by kernel_rfl) ?_
        refine zkSeq ?_
        refine zrRet ?_
        refine zkNil ?_
        exact endQ hS hQ (fRet ((congrArg (fun s => outR s 0 c6.res) (by kernel_rfl : finSt c6.fin _ = f6_fin false)).trans (f6_out false)))
    · replace hS := cond_f hc hS
      refine zlRun (n := 17) (j := 22) rfl (by kernel_rfl) ?_
      refine zlEnd (by kernel_rfl) ?_
      refine zkSeq ?_
      refine zrRet ?_
      refine zkNil ?_
      exact endQ hS hQ (fRet ((congrArg (fun s => outR s 0 c6.res) (by kernel_rfl : finSt c6.fin _ = f6_fin false)).trans (f6_out false)))
  · replace hS := cond_f hc hS
    refine zlRun (n := 20) (j := 22) rfl (by kernel_rfl) ?_
    refine zlEnd (by kernel_rfl) ?_
    refine zkSeq ?_
    refine zrRet ?_
    refine zkNil ?_
    exact endQ hS hQ (fRet ((congrArg (fun s => outR s 0 c6.res) (by kernel_rfl : finSt c6.fin _ = f6_fin false)).trans (f6_out false)))
noncomputable def f6 (a1 : GParser) (a2 : List Int) (a3 : List Int) : Option (Bool) := ((f16 a2).bind fun z9 => ((app? 8 z9 ([24] : List Int)).bind fun z10 => ((f11 a1 z10).bind fun z11 => (f12.bind fun z17 => (bif (!z17) then (f12.bind fun z18 => (some z18)) else (bif (!decide (z11.2.2 = 0)) then (f12.bind fun z19 => (some z19)) else (f6_j0 a1 a2 a3 z11.1)))))))
theorem f6_ok (d : Nat) (hd : 8 ≤ d) (a1 : GParser) (a2 : List Int) (a3 : List Int) (r : Bool) (hS : f6 a1 a2 a3 = some r) : lev codes baseL d 6 [(.agg ((.d (.int .i64 a1.State)) :: ((.d (.int .i64 a1.Mark)) :: ((.d (.str a1.Inter)) :: ((.d (.str a1.Args)) :: ((.d (.str a1.Text)) :: [])))))), (.d (.sl a2.length ((eInt .i64).cells a2))), (.d (.sl a3.length ((eInt .i64).cells a3)))] [] = some ((.d (.bool r)), []) := by
  refine lev_go codes6 rfl rfl (Nat.le_trans (Nat.le_of_ble_eq_true rfl) hd) fun Q hQ => ?_
  unfold f6 at hS
  show ZR _ Q c6_b [] _
  replace hQ : ∀ e st', f6_Q r e st' → Q e st' := hQ
  refine zrSeq ?_
  refine zrReg ?_
  refine zlRun (n := 2) (j := 2) rfl (by kernel_rfl) ?_
  refine zlEnd (by kernel_rfl) ?_
  refine zkSeq ?_
  refine zrSeq ?_
  refine zrRegD ?_
  refine zdRun (n := 2) (j := 2) (ts := [[(32, false)], []]) (acc' := [[(32, false)], []]) rfl (by kernel_rfl) (by kernel_rfl) (by kernel_rfl) ?_
  refine bindE hS (fun z9 hz9 hS => ?_)
  refine zdOp (d := some 19) (op := (.call 16 [(.tmp 18)])) (g := none) (v := (.r (.msl 160 1 0 z9.length))) (ups := [(160, ⟨1, some (.own 3 1 ((eInt .i64).cells z9))⟩)]) (j := 3) (t1 := [(160, true), (161, true), (162, true), (163, true), (164, true), (165, true), (166, true), (167, true)]) (acc' := [[(32, false)], [], [(160, true), (161, true), (162, true), (163, true), (164, true), (165, true), (166, true), (167, true)]]) (by kernel_rfl) (by kernel_rfl) rfl (by kernel_rfl) (by kernel_rfl) (ev_call (args := [(.d (.sl a2.length ((eInt .i64).cells a2)))]) (l := [(.d (.sl a2.length ((eInt .i64).cells a2)))]) (r := (.r (.own 0 3 1 z9.length ((eInt .i64).cells z9)))) (by kernel_rfl) (by kernel_rfl) (f16_ok (d - 1) (dpt hd rfl) a2 z9 hz9) (by kernel_rfl) (by kernel_rfl) (by kernel_rfl)) ?_
  refine zdRun (n := 1) (j := 4) (ts := [[(168, true)]]) (acc' := [[(32, false)], [], [(160, true), (161, true), (162, true), (163, true), (164, true), (165, true), (166, true), (167, true)], [(168, true)]]) rfl (by kernel_rfl) (by kernel_rfl) (by kernel_rfl) ?_
  refine bindE hS (fun z10 hz10 hS => ?_)
  refine zdOp (d := some 21) (op := (.app 3 1 8 (.tmp 19) (.tmp 20))) (g := none) (v := (.r (.msl 160 2 0 z10.length))) (ups := [(160, ⟨2, some (.own 3 1 ((eInt .i64).cells z10))⟩)]) (j := 5) (t1 := [(176, true), (160, true), (168, false)]) (acc' := [[(32, false)], [], [(160, true), (161, true), (162, true), (163, true), (164, true), (165, true), (166, true), (167, true)], [(168, true)], [(176, true), (160, true), (168, false)]]) (by kernel_rfl) (by kernel_rfl) rfl (by kernel_rfl) (by kernel_rfl) (ev_app (eInt .i64) (b := 160) (g := 1) (n := z9.length) (xs := z9) (ys := [24]) ((congrArg (asL _) (by kernel_rfl : ρof _ (.tmp 20) = (.r (.msl 168 1 0 (([24] : List Int).length))))).trans (as_whole (eInt .i64) (e := 3) (k := 1) (xs := [24]) (by kernel_rfl) rfl rfl)) rfl (by kernel_rfl) rfl (by kernel_rfl) rfl hz10) ?_
  refine bindE hS (fun z11 hz11 hS => ?_)
  refine zdOp (d := some 22) (op := (.callf 11 [(.tmp 17), (.tmp 21)])) (g := none) (v := (.tup [(.agg ((.d (.int .i64 z11.1.State)) :: ((.d (.int .i64 z11.1.Mark)) :: ((.d (.str z11.1.Inter)) :: ((.d (.str z11.1.Args)) :: ((.d (.str z11.1.Text)) :: [])))))), (.r (.msl 184 1 0 z11.2.1.length)), (.d (.int .i64 z11.2.2))])) (ups := [(160, ⟨3, none⟩), (184, ⟨1, some (.own 31 6 (e_GAct.cells z11.2.1))⟩)]) (j := 6) (t1 := [(160, true), (184, true), (185, true), (186, true), (187, true), (188, true), (189, true), (190, true), (191, true)]) (acc' := [[(32, false)], [], [(160, true), (161, true), (162, true), (163, true), (164, true), (165, true), (166, true), (167, true)], [(168, true)], [(176, true), (160, true), (168, false)], [(160, true), (184, true), (185, true), (186, true), (187, true), (188, true), (189, true), (190, true), (191, true)]]) (by kernel_rfl) (by kernel_rfl) rfl (by kernel_rfl) (by kernel_rfl) (ev_callF (args := [(.agg ((.d (.int .i64 a1.State)) :: ((.d (.int .i64 a1.Mark)) :: ((.d (.str a1.Inter)) :: ((.d (.str a1.Args)) :: ((.d (.str a1.Text)) :: [])))))), (.r (.msl 160 2 0 z10.length))]) (args' := [(.agg ((.d (.int .i64 a1.State)) :: ((.d (.int .i64 a1.Mark)) :: ((.d (.str a1.Inter)) :: ((.d (.str a1.Args)) :: ((.d (.str a1.Text)) :: [])))))), (.d (.sl z10.length ((eInt .i64).cells z10)))]) (l := [(.agg ((.d (.int .i64 a1.State)) :: ((.d (.int .i64 a1.Mark)) :: ((.d (.str a1.Inter)) :: ((.d (.str a1.Args)) :: ((.d (.str a1.Text)) :: [])))))), (.d (.sl z10.length ((eInt .i64).cells z10)))]) (refs := [160]) (r := (.tup [(.agg ((.d (.int .i64 z11.1.State)) :: ((.d (.int .i64 z11.1.Mark)) :: ((.d (.str z11.1.Inter)) :: ((.d (.str z11.1.Args)) :: ((.d (.str z11.1.Text)) :: [])))))), (.r (.own 0 31 6 z11.2.1.length (e_GAct.cells z11.2.1))), (.d (.int .i64 z11.2.2))])) (v := (.tup [(.agg ((.d (.int .i64 z11.1.State)) :: ((.d (.int .i64 z11.1.Mark)) :: ((.d (.str z11.1.Inter)) :: ((.d (.str z11.1.Args)) :: ((.d (.str z11.1.Text)) :: [])))))), (.r (.msl 184 1 0 z11.2.1.length)), (.d (.int .i64 z11.2.2))])) (ups' := [(184, ⟨1, some (.own 31 6 (e_GAct.cells z11.2.1))⟩)]) (by kernel_rfl) (by kernel_rfl) (by kernel_rfl) (fz_cons rfl (fz_cons (fz_own (eInt .i64) (e := 3) (k := 1) (xs := z10) (by kernel_rfl) (by kernel_rfl) rfl rfl) fz_nil)) (by kernel_rfl) (f11_ok (d - 1) (dpt hd rfl) a1 z10 z11 hz11) (by kernel_rfl) (by kernel_rfl) (by kernel_rfl) (by kernel_rfl)) ?_
  refine zdRun (n := 8) (j := 14) (ts := [[], [], [], [], [(64, true)], [(64, true)], [], []]) (acc' := [[(32, false)], [], [(160, true), (161, true), (162, true), (163, true), (164, true), (165, true), (166, true), (167, true)], [(168, true)], [(176, true), (160, true), (168, false)], [(160, true), (184, true), (185, true), (186, true), (187, true), (188, true), (189, true), (190, true), (191, true)], [], [], [], [], [(64, true)], [(64, true)], [], []]) rfl (by kernel_rfl) (by kernel_rfl) (by kernel_rfl) ?_
  refine zdEnd (by kernel_rfl) (by kernel_rfl) ?_
  refine zkSeq ?_
  refine zrSeq ?_
  refine zrSeq ?_
  refine zrReg ?_
  refine bindE hS (fun z17 hz17 hS => ?_)
  refine zlOp (d := some 26) (op := (.call 12 [])) (g := none) (v := (.d (.bool z17))) (ups := []) (j := 1) rfl (by kernel_rfl) (by kernel_rfl) (ev_call (args := []) (l := []) (r := (.d (.bool z17))) (by kernel_rfl) (by kernel_rfl) (f12_ok (d - 1) (dpt hd rfl)  z17 hz17) (by kernel_rfl) (by kernel_rfl) (by kernel_rfl)) ?_
  refine zlRun (n := 2) (j := 3) rfl (by kernel_rfl) ?_
  refine zlSplit 28 (!z17) (by kernel_rfl) (fun hc => ?_) (fun hc => ?_)
  · replace hS := cond_t hc hS
    refine zlRun (n := 3) (j := 6) rfl (by kernel_rfl) ?_
    refine zlEnd (by kernel_rfl) ?_
    refine zkSeq ?_
    refine zrCondT (by kernel_rfl) ?_
    refine zrSeq ?_
    refine zrReg ?_
    refine bindE hS (fun z18 hz18 hS => ?_)
    refine zlOp (d := some 32) (op := (.call 12 [])) (g := none) (v := (.d (.bool z18))) (ups := []) (j := 1) rfl (by kernel_rfl) (by kernel_rfl) (ev_call (args := []) (l := []) (r := (.d (.bool z18))) (by kernel_rfl) (by kernel_rfl) (f12_ok (d - 1) (dpt hd rfl)  z18 hz18) (by kernel_rfl) (by kernel_rfl) (by kernel_rfl)) ?_
    refine zlRun (n := 1) (j := 2) rfl (by kernel_rfl) ?_
    refine zlEnd (by kernel_rfl) ?_
    refine zkSeq ?_
    refine zrRet ?_
    refine zkSeqR ?_
    refine zkNil ?_
    exact endQ hS hQ (fRet ((congrArg (fun s => outR s 0 c6.res) (by kernel_rfl : finSt c6.fin _ = f6_fin z18)).trans (f6_out z18)))
  · replace hS := cond_f hc hS
    refine zlRun (n := 1) (j := 4) rfl (by kernel_rfl) ?_
    refine zlBool (d := 30) (op := (.cmpI .neq (.tmp 29) (.const (.int .i64 0)))) (g := (some (28, false))) (j := 5) (!decide (z11.2.2 = 0)) rfl (by kernel_rfl) (by kernel_rfl) (by kernel_rfl) (fun hc => ?_) (fun hc => ?_)
    · replace hS := cond_t hc hS
      refine zlRun (n := 1) (j := 6) rfl (by kernel_rfl) ?_
      refine zlEnd (by kernel_rfl) ?_
      refine zkSeq ?_
      refine zrCondT (by kernel_rfl) ?_
      refine zrSeq ?_
      refine zrReg ?_
      refine bindE hS (fun z19 hz19 hS => ?_)
      refine zlOp (d := some 32) (op := (.call 12 [])) (g := none) (v := (.d (.bool z19))) (ups := []) (j := 1) rfl (by kernel_rfl) (by kernel_rfl) (ev_call (args := []) (l := []) (r := (.d (.bool z19))) (by kernel_rfl) (by kernel_rfl) (f12_ok (d - 1) (dpt hd rfl)  z19 hz19) (by kernel_rfl) (by kernel_rfl) (by kernel_rfl)) ?_
      refine zlRun (n := 1) (j := 2) rfl (by kernel_rfl) ?_
      refine zlEnd (by kernel_rfl) ?_
      refine zkSeq ?_
      refine zrRet ?_
      refine zkSeqR ?_
      refine zkNil ?_
      exact endQ hS hQ (fRet ((congrArg (fun s => outR s 0 c6.res) (by kernel_rfl : finSt c6.fin _ = f6_fin z19)).trans (f6_out z19)))
    · replace hS := cond_f hc hS
      refine zlRun (n := 1) (j := 6) rfl (by kernel_rfl) ?_
      refine zlEnd (by kernel_rfl) ?_
      refine zkSeq ?_
      refine zrCondF (by kernel_rfl) ?_
      refine zrSkip ?_
      refine zkSeq ?_
      exact f6_j0_ok hd a1 a2 a3 hQ z11.1 hS (by kernel_rfl)
end Go.Proofs.YtakmihemhmdpkaaDoor.Pm
