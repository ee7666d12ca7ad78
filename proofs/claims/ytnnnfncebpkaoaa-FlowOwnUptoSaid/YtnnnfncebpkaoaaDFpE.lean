/- Typed functions, and that the codes are these. Printed by dec.py. -/
import Derived.Test.YtnnnfncebpkaoaaDFpD
namespace Go.Proofs.Ytnnnfncebpkaoaa.Pm
set_option maxRecDepth 1000000
set_option maxHeartbeats 20000000
set_option linter.unusedVariables false
/- farwriter/farkeep.FlowOwn -/
def f4_fin (p102 : Bool) : St := ⟨(up (fun _ => .un) 6 (.d (.bool p102))), (hB fun _ => 0)⟩
theorem f4_out (p102 : Bool) : outR (f4_fin p102) 0 c4.res = some ((.d (.bool p102)), []) := by
  kernel_rfl
def f4_Q (r : Bool) (e : PX) (st : St) : Prop := DoneF c4 0 ((.d (.bool r)), []) e st
def f4_j4_J (a1 : List (List Int)) (a2 : List GRow) (a3 : Int) (p196 : List (List Int)) (p197 : List GRow) (p198 : Bool) : St := ⟨(up (up (up (up (up (fun _ => .un) 19 (.d (.bool p198))) 8 (.r (.msl 72 0 0 p197.length))) 7 (.r (.msl 64 0 0 p196.length))) 1 (.d (.sl a2.length (e_GRow.cells a2)))) 0 (.d (.sl a1.length ((eSl (eInt .i64)).cells a1)))), (up (up (hB fun _ => 0) 72 ⟨0, some (.own 35 2 (e_GRow.cells p197))⟩) 64 ⟨0, some (.own 32 1 ((eSl (eInt .i64)).cells p196))⟩)⟩
noncomputable def f4_j4 (a1 : List (List Int)) (a2 : List GRow) (a3 : Int) (p196 : List (List Int)) (p197 : List GRow) (p198 : Bool) : Option (Bool) := (f6.bind fun z61 => (bif z61 then (bif p198 then ((f8 a1 p196).bind fun z62 => (bif z62 then ((f11 a2 p197).bind fun z63 => (some z63)) else (some false))) else (some false)) else (some false)))
theorem f4_j4_ok {base : Orc} {d : Nat} (hd : 7 ≤ d) (a1 : List (List Int)) (a2 : List GRow) (a3 : Int) {r : Bool} {Q : PX → St → Prop} (hQ : ∀ e st', f4_Q r e st' → Q e st') (p196 : List (List Int)) (p197 : List GRow) (p198 : Bool) (hS : f4_j4 a1 a2 a3 p196 p197 p198 = some r) {st : St} (he : keepSt [0, 1, 7, 8, 19] [(64, .id 64), (72, .id 72)] [] st = f4_j4_J a1 a2 a3 p196 p197 p198) : ZR (lev codes base (d - 1)) Q c4_1 [] st := by
  refine zrKeep he ?_
  unfold f4_j4 at hS
  refine zrSeq ?_
  refine zrReg ?_
  refine bindE hS (fun z61 hz61 hS => ?_)
  refine zlOp (d := some 99) (op := (.call 6 [])) (g := none) (j := 1) rfl (by kernel_rfl) (by kernel_rfl) (ev_callA (by kernel_rfl) (f6_ok base (d - 1) (dpt hd rfl)  z61 hz61) (by kernel_rfl) (by kernel_rfl)) ?_
  refine zlRun (n := 1) (j := 2) rfl (by kernel_rfl) ?_
  refine zlSplit 100 z61 (by kernel_rfl) (fun hc => ?_) (fun hc => ?_)
  · replace hS := cond_t hc hS
    refine zlRun (n := 3) (j := 5) rfl (by kernel_rfl) ?_
    refine zlSplit 103 p198 (by kernel_rfl) (fun hc => ?_) (fun hc => ?_)
    · replace hS := cond_t hc hS
      refine zlRun (n := 2) (j := 7) rfl (by kernel_rfl) ?_
      refine bindE hS (fun z62 hz62 hS => ?_)
      refine zlOp (d := some 106) (op := (.call 8 [(.tmp 104), (.tmp 105)])) (g := (some (103, true))) (j := 8) rfl (by kernel_rfl) (by kernel_rfl) (ev_callB (args := [(.d (.sl a1.length ((eSl (eInt .i64)).cells a1))), (.r (.msl 64 0 0 p196.length))]) (by kernel_rfl) (l_cons (by kernel_rfl) (l_cons (l_own (eSl (eInt .i64)) (e := 32) (k := 1) (xs := p196) (by kernel_rfl) rfl rfl) l_nil)) (f8_ok base (d - 1) (dpt hd rfl) a1 p196 z62 hz62) (by kernel_rfl) (by kernel_rfl)) ?_
      refine zlRun (n := 2) (j := 10) rfl (by kernel_rfl) ?_
      refine zlSplit 108 z62 (by kernel_rfl) (fun hc => ?_) (fun hc => ?_)
      · replace hS := cond_t hc hS
        refine zlRun (n := 2) (j := 12) rfl (by kernel_rfl) ?_
        refine bindE hS (fun z63 hz63 hS => ?_)
        refine zlOp (d := some 111) (op := (.call 11 [(.tmp 109), (.tmp 110)])) (g := (some (108, true))) (j := 13) rfl (by kernel_rfl) (by kernel_rfl) (ev_callB (args := [(.d (.sl a2.length (e_GRow.cells a2))), (.r (.msl 72 0 0 p197.length))]) (by kernel_rfl) (l_cons (by kernel_rfl) (l_cons (l_own e_GRow (e := 35) (k := 2) (xs := p197) (by kernel_rfl) rfl rfl) l_nil)) (f11_ok base (d - 1) (dpt hd rfl) a2 p197 z63 hz63) (by kernel_rfl) (by kernel_rfl)) ?_
        refine zlRun (n := 2) (j := 15) rfl (by kernel_rfl) ?_
        refine zlEnd (by kernel_rfl) ?_
        refine zkSeq ?_
        refine zrRet ?_
        refine zkNil ?_
        exact endQ hS hQ (fRet (by kernel_rfl) ((congrArg (fun s => outR s 0 c4.res) (by kernel_rfl : finSt c4.fin _ = f4_fin z63)).trans (f4_out z63)))
      · replace hS := cond_f hc hS
        refine zlRun (n := 5) (j := 15) rfl (by kernel_rfl) ?_
        refine zlEnd (by kernel_rfl) ?_
        refine zkSeq ?_
        refine zrRet ?_
        refine zkNil ?_
        exact endQ hS hQ (fRet (by kernel_rfl) ((congrArg (fun s => outR s 0 c4.res) (by kernel_rfl : finSt c4.fin _ = f4_fin false)).trans (f4_out false)))
    · replace hS := cond_f hc hS
      refine zlRun (n := 10) (j := 15) rfl (by kernel_rfl) ?_
      refine zlEnd (by kernel_rfl) ?_
      refine zkSeq ?_
      refine zrRet ?_
      refine zkNil ?_
      exact endQ hS hQ (fRet (by kernel_rfl) ((congrArg (fun s => outR s 0 c4.res) (by kernel_rfl : finSt c4.fin _ = f4_fin false)).trans (f4_out false)))
  · replace hS := cond_f hc hS
    refine zlRun (n := 13) (j := 15) rfl (by kernel_rfl) ?_
    refine zlEnd (by kernel_rfl) ?_
    refine zkSeq ?_
    refine zrRet ?_
    refine zkNil ?_
    exact endQ hS hQ (fRet (by kernel_rfl) ((congrArg (fun s => outR s 0 c4.res) (by kernel_rfl : finSt c4.fin _ = f4_fin false)).trans (f4_out false)))
def f4_l5_J (a1 : List (List Int)) (a2 : List GRow) (a3 : Int) (p171 : List (List Int)) (p172 : List GRow) (p173 : Bool) (p174 : List (List Int)) (p175 : Int) (x : Unit) : St := ⟨(up (up (up (up (up (up (up (up (fun _ => .un) 92 (.d (.int .i64 0))) 91 (.d (.int .i64 p175))) 90 (.r (.msl 488 0 0 p174.length))) 19 (.d (.bool p173))) 8 (.r (.msl 72 0 0 p172.length))) 7 (.r (.msl 64 0 0 p171.length))) 1 (.d (.sl a2.length (e_GRow.cells a2)))) 0 (.d (.sl a1.length ((eSl (eInt .i64)).cells a1)))), (up (up (up (hB fun _ => 0) 488 ⟨0, some (.own 32 1 ((eSl (eInt .i64)).cells p174))⟩) 72 ⟨0, some (.own 35 2 (e_GRow.cells p172))⟩) 64 ⟨0, some (.own 32 1 ((eSl (eInt .i64)).cells p171))⟩)⟩
def f4_l5_H (a1 : List (List Int)) (a2 : List GRow) (a3 : Int) (p171 : List (List Int)) (p172 : List GRow) (p173 : Bool) (p174 : List (List Int)) (p175 : Int) (x : Unit) (st : St) : Prop := keepSt [0, 1, 7, 8, 19, 90, 91, 92] [(64, .id 64), (72, .id 72), (488, .id 488)] [] st = f4_l5_J a1 a2 a3 p171 p172 p173 p174 p175 x
def f4_l5_e6_J (a1 : List (List Int)) (a2 : List GRow) (a3 : Int) (p171 : List (List Int)) (p172 : List GRow) (p173 : Bool) (p174 : List (List Int)) (p175 : Int) (p193 : List (List Int)) (p194 : List GRow) (p195 : Bool) : St := ⟨(up (up (up (up (up (fun _ => .un) 19 (.d (.bool p195))) 8 (.r (.msl 72 0 0 p194.length))) 7 (.r (.msl 64 0 0 p193.length))) 1 (.d (.sl a2.length (e_GRow.cells a2)))) 0 (.d (.sl a1.length ((eSl (eInt .i64)).cells a1)))), (up (up (hB fun _ => 0) 72 ⟨0, some (.own 35 2 (e_GRow.cells p194))⟩) 64 ⟨0, some (.own 32 1 ((eSl (eInt .i64)).cells p193))⟩)⟩
def f4_l5_X (a1 : List (List Int)) (a2 : List GRow) (a3 : Int) (p171 : List (List Int)) (p172 : List GRow) (p173 : Bool) (p174 : List (List Int)) (p175 : Int) (z : ((List (List Int)) × (List GRow) × Bool)) (e : PX) (st : St) : Prop := e = .exit 6 ∧ st = f4_l5_e6_J a1 a2 a3 p171 p172 p173 p174 p175 z.1 z.2.1 z.2.2
def f4_l5_j7_J (a1 : List (List Int)) (a2 : List GRow) (a3 : Int) (p171 : List (List Int)) (p172 : List GRow) (p173 : Bool) (p174 : List (List Int)) (p175 : Int) : St := ⟨(up (up (up (up (up (up (up (up (fun _ => .un) 92 (.d (.int .i64 0))) 91 (.d (.int .i64 p175))) 90 (.r (.msl 488 0 0 p174.length))) 19 (.d (.bool p173))) 8 (.r (.msl 72 0 0 p172.length))) 7 (.r (.msl 64 0 0 p171.length))) 1 (.d (.sl a2.length (e_GRow.cells a2)))) 0 (.d (.sl a1.length ((eSl (eInt .i64)).cells a1)))), (up (up (up (hB fun _ => 0) 488 ⟨0, some (.own 32 1 ((eSl (eInt .i64)).cells p174))⟩) 72 ⟨0, some (.own 35 2 (e_GRow.cells p172))⟩) 64 ⟨0, some (.own 32 1 ((eSl (eInt .i64)).cells p171))⟩)⟩
noncomputable def f4_l5_j7 (a1 : List (List Int)) (a2 : List GRow) (a3 : Int) (p171 : List (List Int)) (p172 : List GRow) (p173 : Bool) (p174 : List (List Int)) (p175 : Int) : Option (Unit ⊕ (((List (List Int)) × (List GRow) × Bool))) := ((inR 0 p174.length).bind fun m64 => ((p174[m64]?).bind fun z65 => none))
theorem f4_l5_j7_ok {base : Orc} {d : Nat} (hd : 7 ≤ d) (a1 : List (List Int)) (a2 : List GRow) (a3 : Int) (p171 : List (List Int)) (p172 : List GRow) (p173 : Bool) (p174 : List (List Int)) (p175 : Int) {r : Unit ⊕ (((List (List Int)) × (List GRow) × Bool))} {Q : PX → St → Prop} (hQ : ∀ e st', finL (f4_l5_H a1 a2 a3 p171 p172 p173 p174 p175) (f4_l5_X a1 a2 a3 p171 p172 p173 p174 p175) r e st' → Q e st')  (hS : f4_l5_j7 a1 a2 a3 p171 p172 p173 p174 p175 = some r) {st : St} (he : keepSt [0, 1, 7, 8, 19, 90, 91, 92] [(64, .id 64), (72, .id 72), (488, .id 488)] [] st = f4_l5_j7_J a1 a2 a3 p171 p172 p173 p174 p175) : ZR (lev codes base (d - 1)) Q c4_2 [] st := by
  refine zrKeep he ?_
  unfold f4_l5_j7 at hS
  refine zrSeq ?_
  refine zrBlk ?_
  refine zrSeq ?_
  refine zrReg ?_
  refine bindE hS (fun m64 hm64 hS => ?_)
  refine zlOp (d := some 94) (op := (.ixS 32 1 (.tmp 90) (.tmp 92))) (g := none) (v := (.r (.ptr 488 0 ((0 + m64) * 1)))) (ups := []) (j := 1) rfl (by kernel_rfl) (by kernel_rfl) (ev_ixM (kk := .i64) (b := 488) (g := 0) (l := 0) (n := p174.length) (j := 0) (cs := (eSl (eInt .i64)).cells p174) (by kernel_rfl) (by kernel_rfl) (by kernel_rfl) hm64) ?_
  refine bindE hS (fun z65 hz65 hS => ?_)
  refine zlOp (d := some 95) (op := (.load .false 1 (.tmp 94))) (g := none) (v := (.d (.sl z65.length ((eInt .i64).cells z65)))) (ups := []) (j := 2) rfl (by kernel_rfl) (by kernel_rfl) (ev_loadM (eSl (eInt .i64)) (b := 488) (g := 0) (o := (0 + m64) * 1) (e := 32) (k := 1) (m := m64) (fo := 0) (xs := p174) (by kernel_rfl) (by kernel_rfl) (by rw [Nat.zero_add]; rfl) hz65 (by kernel_rfl) (by kernel_rfl) (by kernel_rfl)) ?_
  refine zlRun (n := 1) (j := 3) rfl (by kernel_rfl) ?_
  refine zlEnd (by kernel_rfl) ?_
  refine zkSeq ?_
  refine zrReg ?_
  refine zlRun (n := 1) (j := 1) rfl (by kernel_rfl) ?_
  cases hS
def f4_l5_j6_J (a1 : List (List Int)) (a2 : List GRow) (a3 : Int) (p171 : List (List Int)) (p172 : List GRow) (p173 : Bool) (p174 : List (List Int)) (p175 : Int) (p200 : Bool) : St := ⟨(up (up (up (up (up (up (up (up (up (fun _ => .un) 93 (.d (.bool p200))) 92 (.d (.int .i64 0))) 91 (.d (.int .i64 p175))) 90 (.r (.msl 488 0 0 p174.length))) 19 (.d (.bool p173))) 8 (.r (.msl 72 0 0 p172.length))) 7 (.r (.msl 64 0 0 p171.length))) 1 (.d (.sl a2.length (e_GRow.cells a2)))) 0 (.d (.sl a1.length ((eSl (eInt .i64)).cells a1)))), (up (up (up (hB fun _ => 0) 488 ⟨0, some (.own 32 1 ((eSl (eInt .i64)).cells p174))⟩) 72 ⟨0, some (.own 35 2 (e_GRow.cells p172))⟩) 64 ⟨0, some (.own 32 1 ((eSl (eInt .i64)).cells p171))⟩)⟩
noncomputable def f4_l5_j6 (a1 : List (List Int)) (a2 : List GRow) (a3 : Int) (p171 : List (List Int)) (p172 : List GRow) (p173 : Bool) (p174 : List (List Int)) (p175 : Int) (p200 : Bool) : Option (Unit ⊕ (((List (List Int)) × (List GRow) × Bool))) := (bif p200 then (f4_l5_j7 a1 a2 a3 p171 p172 p173 p174 p175 ) else (some (.inr (p171, p172, p173))))
theorem f4_l5_j6_ok {base : Orc} {d : Nat} (hd : 7 ≤ d) (a1 : List (List Int)) (a2 : List GRow) (a3 : Int) (p171 : List (List Int)) (p172 : List GRow) (p173 : Bool) (p174 : List (List Int)) (p175 : Int) {r : Unit ⊕ (((List (List Int)) × (List GRow) × Bool))} {Q : PX → St → Prop} (hQ : ∀ e st', finL (f4_l5_H a1 a2 a3 p171 p172 p173 p174 p175) (f4_l5_X a1 a2 a3 p171 p172 p173 p174 p175) r e st' → Q e st') (p200 : Bool) (hS : f4_l5_j6 a1 a2 a3 p171 p172 p173 p174 p175 p200 = some r) {st : St} (he : keepSt [0, 1, 7, 8, 19, 90, 91, 92, 93] [(64, .id 64), (72, .id 72), (488, .id 488)] [] st = f4_l5_j6_J a1 a2 a3 p171 p172 p173 p174 p175 p200) : ZR (lev codes base (d - 1)) Q c4_3 [] st := by
  refine zrKeep he ?_
  unfold f4_l5_j6 at hS
  refine zrSeq ?_
  refine zrSplit 93 p200 (by kernel_rfl) (fun hc => ?_) (fun hc => ?_)
  · replace hS := cond_t hc hS
    refine zrCondT (by kernel_rfl) ?_
    refine zrSkip ?_
    refine zkSeq ?_
    exact f4_l5_j7_ok hd a1 a2 a3 p171 p172 p173 p174 p175 hQ  hS (by kernel_rfl)
  · replace hS := cond_f hc hS
    refine zrCondF (by kernel_rfl) ?_
    refine zrKeep (J := f4_l5_e6_J a1 a2 a3 p171 p172 p173 p174 p175 p171 p172 p173) (by kernel_rfl) ?_
    refine zrExit ?_
    refine zkSeqX ?_
    refine zkNil ?_
    exact endQ hS hQ (finL_x (by intro h; cases h) (by show _ = _ ∧ _ = _; exact ⟨rfl, rfl⟩))
noncomputable def f4_l5 (a1 : List (List Int)) (a2 : List GRow) (a3 : Int) (p171 : List (List Int)) (p172 : List GRow) (p173 : Bool) (p174 : List (List Int)) (p175 : Int) (x : Unit) : Option (Unit ⊕ (((List (List Int)) × (List GRow) × Bool))) := (bif (decide (0 < p175)) then (f4_l5_j6 a1 a2 a3 p171 p172 p173 p174 p175 true) else (f4_l5_j6 a1 a2 a3 p171 p172 p173 p174 p175 false))
theorem f4_l5_ok {base : Orc} {d : Nat} (hd : 7 ≤ d) (a1 : List (List Int)) (a2 : List GRow) (a3 : Int) (p171 : List (List Int)) (p172 : List GRow) (p173 : Bool) (p174 : List (List Int)) (p175 : Int) {r : Unit ⊕ (((List (List Int)) × (List GRow) × Bool))} {Q : PX → St → Prop} (hQ : ∀ e st', finL (f4_l5_H a1 a2 a3 p171 p172 p173 p174 p175) (f4_l5_X a1 a2 a3 p171 p172 p173 p174 p175) r e st' → Q e st') {x : Unit} (hS : f4_l5 a1 a2 a3 p171 p172 p173 p174 p175 x = some r) {st : St} (he : f4_l5_H a1 a2 a3 p171 p172 p173 p174 p175 x st) : ZR (lev codes base (d - 1)) Q c4_4 [] st := by
  refine zrKeep he ?_
  unfold f4_l5 at hS
  refine zrSeq ?_
  refine zrReg ?_
  refine zlBool (d := 93) (op := (.cmpI .lss (.tmp 92) (.tmp 91))) (g := none) (j := 1) (decide (0 < p175)) rfl (by kernel_rfl) (by kernel_rfl) (by kernel_rfl) (fun hc => ?_) (fun hc => ?_)
  · replace hS := cond_t hc hS
    refine zlEnd (by kernel_rfl) ?_
    refine zkSeq ?_
    exact f4_l5_j6_ok hd a1 a2 a3 p171 p172 p173 p174 p175 hQ true hS (by kernel_rfl)
  · replace hS := cond_f hc hS
    refine zlEnd (by kernel_rfl) ?_
    refine zkSeq ?_
    exact f4_l5_j6_ok hd a1 a2 a3 p171 p172 p173 p174 p175 hQ false hS (by kernel_rfl)
def f4_j3_J (a1 : List (List Int)) (a2 : List GRow) (a3 : Int) (p167 : List (List Int)) (p168 : List GRow) (p169 : List (List Int)) (p170 : Bool) : St := ⟨(up (up (up (up (up (up (fun _ => .un) 19 (.d (.bool p170))) 15 (.r (.msl 488 0 0 p169.length))) 8 (.r (.msl 72 0 0 p168.length))) 7 (.r (.msl 64 0 0 p167.length))) 1 (.d (.sl a2.length (e_GRow.cells a2)))) 0 (.d (.sl a1.length ((eSl (eInt .i64)).cells a1)))), (up (up (up (hB fun _ => 0) 488 ⟨0, some (.own 32 1 ((eSl (eInt .i64)).cells p169))⟩) 72 ⟨0, some (.own 35 2 (e_GRow.cells p168))⟩) 64 ⟨0, some (.own 32 1 ((eSl (eInt .i64)).cells p167))⟩)⟩
noncomputable def f4_j3 (a1 : List (List Int)) (a2 : List GRow) (a3 : Int) (p167 : List (List Int)) (p168 : List GRow) (p169 : List (List Int)) (p170 : Bool) : Option (Bool) := ((loopO (f4_l5 a1 a2 a3 p167 p168 p170 p169 (p169.length : Int)) ()).bind fun z66 => (f4_j4 a1 a2 a3 z66.1 z66.2.1 z66.2.2))
theorem f4_j3_ok {base : Orc} {d : Nat} (hd : 7 ≤ d) (a1 : List (List Int)) (a2 : List GRow) (a3 : Int) {r : Bool} {Q : PX → St → Prop} (hQ : ∀ e st', f4_Q r e st' → Q e st') (p167 : List (List Int)) (p168 : List GRow) (p169 : List (List Int)) (p170 : Bool) (hS : f4_j3 a1 a2 a3 p167 p168 p169 p170 = some r) {st : St} (he : keepSt [0, 1, 7, 8, 15, 19] [(64, .id 64), (72, .id 72), (488, .id 488)] [] st = f4_j3_J a1 a2 a3 p167 p168 p169 p170) : ZR (lev codes base (d - 1)) Q c4_5 [] st := by
  refine zrKeep he ?_
  unfold f4_j3 at hS
  refine zrSeq ?_
  refine zrSeq ?_
  refine zrReg ?_
  refine zlRun (n := 3) (j := 3) rfl (by kernel_rfl) ?_
  refine zlEnd (by kernel_rfl) ?_
  refine zkSeq ?_
  refine zrBlk ?_
  refine bindE hS (fun z66 hz66 hS => ?_)
  refine zrLoop (f4_l5_H a1 a2 a3 p167 p168 p170 p169 (p169.length : Int)) (f4_l5_X a1 a2 a3 p167 p168 p170 p169 (p169.length : Int)) (fun x st r Q h0 hS hQ => f4_l5_ok hd a1 a2 a3 p167 p168 p170 p169 (p169.length : Int) hQ hS h0) (x := ()) (z := z66) (by show keepSt _ _ _ _ = _; kernel_rfl) hz66 ?_
  intro e st' _ hX
  obtain ⟨rfl, rfl⟩ : _ ∧ _ := hX
  refine zkBlkX ?_
  refine zkSeq ?_
  exact f4_j4_ok hd a1 a2 a3 hQ z66.1 z66.2.1 z66.2.2 hS (by kernel_rfl)
def f4_l8_J (a1 : List (List Int)) (a2 : List GRow) (a3 : Int) (p201 : List (List Int)) (p202 : List GRow) (p203 : List (List Int)) (p204 : Bool) (p205 : List GRow) (p206 : Int) (x : Unit) : St := ⟨(up (up (up (up (up (up (up (up (up (fun _ => .un) 82 (.d (.int .i64 0))) 81 (.d (.int .i64 p206))) 80 (.r (.msl 632 0 0 p205.length))) 19 (.d (.bool p204))) 15 (.r (.msl 488 0 0 p203.length))) 8 (.r (.msl 72 0 0 p202.length))) 7 (.r (.msl 64 0 0 p201.length))) 1 (.d (.sl a2.length (e_GRow.cells a2)))) 0 (.d (.sl a1.length ((eSl (eInt .i64)).cells a1)))), (up (up (up (up (hB fun _ => 0) 632 ⟨0, some (.own 35 2 (e_GRow.cells p205))⟩) 488 ⟨0, some (.own 32 1 ((eSl (eInt .i64)).cells p203))⟩) 72 ⟨0, some (.own 35 2 (e_GRow.cells p202))⟩) 64 ⟨0, some (.own 32 1 ((eSl (eInt .i64)).cells p201))⟩)⟩
def f4_l8_H (a1 : List (List Int)) (a2 : List GRow) (a3 : Int) (p201 : List (List Int)) (p202 : List GRow) (p203 : List (List Int)) (p204 : Bool) (p205 : List GRow) (p206 : Int) (x : Unit) (st : St) : Prop := keepSt [0, 1, 7, 8, 15, 19, 80, 81, 82] [(64, .id 64), (72, .id 72), (488, .id 488), (632, .id 632)] [] st = f4_l8_J a1 a2 a3 p201 p202 p203 p204 p205 p206 x
def f4_l8_e4_J (a1 : List (List Int)) (a2 : List GRow) (a3 : Int) (p201 : List (List Int)) (p202 : List GRow) (p203 : List (List Int)) (p204 : Bool) (p205 : List GRow) (p206 : Int) (p227 : List (List Int)) (p228 : List GRow) (p229 : List (List Int)) (p230 : Bool) : St := ⟨(up (up (up (up (up (up (fun _ => .un) 19 (.d (.bool p230))) 15 (.r (.msl 488 0 0 p229.length))) 8 (.r (.msl 72 0 0 p228.length))) 7 (.r (.msl 64 0 0 p227.length))) 1 (.d (.sl a2.length (e_GRow.cells a2)))) 0 (.d (.sl a1.length ((eSl (eInt .i64)).cells a1)))), (up (up (up (hB fun _ => 0) 488 ⟨0, some (.own 32 1 ((eSl (eInt .i64)).cells p229))⟩) 72 ⟨0, some (.own 35 2 (e_GRow.cells p228))⟩) 64 ⟨0, some (.own 32 1 ((eSl (eInt .i64)).cells p227))⟩)⟩
def f4_l8_X (a1 : List (List Int)) (a2 : List GRow) (a3 : Int) (p201 : List (List Int)) (p202 : List GRow) (p203 : List (List Int)) (p204 : Bool) (p205 : List GRow) (p206 : Int) (z : ((List (List Int)) × (List GRow) × (List (List Int)) × Bool)) (e : PX) (st : St) : Prop := e = .exit 4 ∧ st = f4_l8_e4_J a1 a2 a3 p201 p202 p203 p204 p205 p206 z.1 z.2.1 z.2.2.1 z.2.2.2
def f4_l8_j10_J (a1 : List (List Int)) (a2 : List GRow) (a3 : Int) (p201 : List (List Int)) (p202 : List GRow) (p203 : List (List Int)) (p204 : Bool) (p205 : List GRow) (p206 : Int) : St := ⟨(up (up (up (up (up (up (up (up (up (fun _ => .un) 82 (.d (.int .i64 0))) 81 (.d (.int .i64 p206))) 80 (.r (.msl 632 0 0 p205.length))) 19 (.d (.bool p204))) 15 (.r (.msl 488 0 0 p203.length))) 8 (.r (.msl 72 0 0 p202.length))) 7 (.r (.msl 64 0 0 p201.length))) 1 (.d (.sl a2.length (e_GRow.cells a2)))) 0 (.d (.sl a1.length ((eSl (eInt .i64)).cells a1)))), (up (up (up (up (hB fun _ => 0) 632 ⟨0, some (.own 35 2 (e_GRow.cells p205))⟩) 488 ⟨0, some (.own 32 1 ((eSl (eInt .i64)).cells p203))⟩) 72 ⟨0, some (.own 35 2 (e_GRow.cells p202))⟩) 64 ⟨0, some (.own 32 1 ((eSl (eInt .i64)).cells p201))⟩)⟩
noncomputable def f4_l8_j10 (a1 : List (List Int)) (a2 : List GRow) (a3 : Int) (p201 : List (List Int)) (p202 : List GRow) (p203 : List (List Int)) (p204 : Bool) (p205 : List GRow) (p206 : Int) : Option (Unit ⊕ (((List (List Int)) × (List GRow) × (List (List Int)) × Bool))) := ((inR 0 p205.length).bind fun m73 => ((p205[m73]?).bind fun z74 => none))
theorem f4_l8_j10_ok {base : Orc} {d : Nat} (hd : 7 ≤ d) (a1 : List (List Int)) (a2 : List GRow) (a3 : Int) (p201 : List (List Int)) (p202 : List GRow) (p203 : List (List Int)) (p204 : Bool) (p205 : List GRow) (p206 : Int) {r : Unit ⊕ (((List (List Int)) × (List GRow) × (List (List Int)) × Bool))} {Q : PX → St → Prop} (hQ : ∀ e st', finL (f4_l8_H a1 a2 a3 p201 p202 p203 p204 p205 p206) (f4_l8_X a1 a2 a3 p201 p202 p203 p204 p205 p206) r e st' → Q e st')  (hS : f4_l8_j10 a1 a2 a3 p201 p202 p203 p204 p205 p206 = some r) {st : St} (he : keepSt [0, 1, 7, 8, 15, 19, 80, 81, 82] [(64, .id 64), (72, .id 72), (488, .id 488), (632, .id 632)] [] st = f4_l8_j10_J a1 a2 a3 p201 p202 p203 p204 p205 p206) : ZR (lev codes base (d - 1)) Q c4_6 [] st := by
  refine zrKeep he ?_
  unfold f4_l8_j10 at hS
  refine zrSeq ?_
  refine zrBlk ?_
  refine zrSeq ?_
  refine zrReg ?_
  refine bindE hS (fun m73 hm73 hS => ?_)
  refine zlOp (d := some 84) (op := (.ixS 35 2 (.tmp 80) (.tmp 82))) (g := none) (v := (.r (.ptr 632 0 ((0 + m73) * 2)))) (ups := []) (j := 1) rfl (by kernel_rfl) (by kernel_rfl) (ev_ixM (kk := .i64) (b := 632) (g := 0) (l := 0) (n := p205.length) (j := 0) (cs := e_GRow.cells p205) (by kernel_rfl) (by kernel_rfl) (by kernel_rfl) hm73) ?_
  refine bindE hS (fun z74 hz74 hS => ?_)
  refine zlOp (d := some 85) (op := (.load .true 2 (.tmp 84))) (g := none) (v := (.agg ((.d (.sl z74.Runes.length ((eInt .i64).cells z74.Runes))) :: ((.d (.bool z74.Soft)) :: [])))) (ups := []) (j := 2) rfl (by kernel_rfl) (by kernel_rfl) (ev_loadM e_GRow (b := 632) (g := 0) (o := (0 + m73) * 2) (e := 35) (k := 2) (m := m73) (fo := 0) (xs := p205) (by kernel_rfl) (by kernel_rfl) (by rw [Nat.zero_add]; rfl) hz74 (by kernel_rfl) (by kernel_rfl) (by kernel_rfl)) ?_
  refine zlRun (n := 2) (j := 4) rfl (by kernel_rfl) ?_
  refine zlEnd (by kernel_rfl) ?_
  refine zkSeq ?_
  refine zrReg ?_
  refine zlRun (n := 2) (j := 2) rfl (by kernel_rfl) ?_
  cases hS
def f4_l8_j9_J (a1 : List (List Int)) (a2 : List GRow) (a3 : Int) (p201 : List (List Int)) (p202 : List GRow) (p203 : List (List Int)) (p204 : Bool) (p205 : List GRow) (p206 : Int) (p232 : Bool) : St := ⟨(up (up (up (up (up (up (up (up (up (up (fun _ => .un) 83 (.d (.bool p232))) 82 (.d (.int .i64 0))) 81 (.d (.int .i64 p206))) 80 (.r (.msl 632 0 0 p205.length))) 19 (.d (.bool p204))) 15 (.r (.msl 488 0 0 p203.length))) 8 (.r (.msl 72 0 0 p202.length))) 7 (.r (.msl 64 0 0 p201.length))) 1 (.d (.sl a2.length (e_GRow.cells a2)))) 0 (.d (.sl a1.length ((eSl (eInt .i64)).cells a1)))), (up (up (up (up (hB fun _ => 0) 632 ⟨0, some (.own 35 2 (e_GRow.cells p205))⟩) 488 ⟨0, some (.own 32 1 ((eSl (eInt .i64)).cells p203))⟩) 72 ⟨0, some (.own 35 2 (e_GRow.cells p202))⟩) 64 ⟨0, some (.own 32 1 ((eSl (eInt .i64)).cells p201))⟩)⟩
noncomputable def f4_l8_j9 (a1 : List (List Int)) (a2 : List GRow) (a3 : Int) (p201 : List (List Int)) (p202 : List GRow) (p203 : List (List Int)) (p204 : Bool) (p205 : List GRow) (p206 : Int) (p232 : Bool) : Option (Unit ⊕ (((List (List Int)) × (List GRow) × (List (List Int)) × Bool))) := (bif p232 then (f4_l8_j10 a1 a2 a3 p201 p202 p203 p204 p205 p206 ) else (some (.inr (p201, p202, p203, p204))))
theorem f4_l8_j9_ok {base : Orc} {d : Nat} (hd : 7 ≤ d) (a1 : List (List Int)) (a2 : List GRow) (a3 : Int) (p201 : List (List Int)) (p202 : List GRow) (p203 : List (List Int)) (p204 : Bool) (p205 : List GRow) (p206 : Int) {r : Unit ⊕ (((List (List Int)) × (List GRow) × (List (List Int)) × Bool))} {Q : PX → St → Prop} (hQ : ∀ e st', finL (f4_l8_H a1 a2 a3 p201 p202 p203 p204 p205 p206) (f4_l8_X a1 a2 a3 p201 p202 p203 p204 p205 p206) r e st' → Q e st') (p232 : Bool) (hS : f4_l8_j9 a1 a2 a3 p201 p202 p203 p204 p205 p206 p232 = some r) {st : St} (he : keepSt [0, 1, 7, 8, 15, 19, 80, 81, 82, 83] [(64, .id 64), (72, .id 72), (488, .id 488), (632, .id 632)] [] st = f4_l8_j9_J a1 a2 a3 p201 p202 p203 p204 p205 p206 p232) : ZR (lev codes base (d - 1)) Q c4_7 [] st := by
  refine zrKeep he ?_
  unfold f4_l8_j9 at hS
  refine zrSeq ?_
  refine zrSplit 83 p232 (by kernel_rfl) (fun hc => ?_) (fun hc => ?_)
  · replace hS := cond_t hc hS
    refine zrCondT (by kernel_rfl) ?_
    refine zrSkip ?_
    refine zkSeq ?_
    exact f4_l8_j10_ok hd a1 a2 a3 p201 p202 p203 p204 p205 p206 hQ  hS (by kernel_rfl)
  · replace hS := cond_f hc hS
    refine zrCondF (by kernel_rfl) ?_
    refine zrKeep (J := f4_l8_e4_J a1 a2 a3 p201 p202 p203 p204 p205 p206 p201 p202 p203 p204) (by kernel_rfl) ?_
    refine zrExit ?_
    refine zkSeqX ?_
    refine zkNil ?_
    exact endQ hS hQ (finL_x (by intro h; cases h) (by show _ = _ ∧ _ = _; exact ⟨rfl, rfl⟩))
noncomputable def f4_l8 (a1 : List (List Int)) (a2 : List GRow) (a3 : Int) (p201 : List (List Int)) (p202 : List GRow) (p203 : List (List Int)) (p204 : Bool) (p205 : List GRow) (p206 : Int) (x : Unit) : Option (Unit ⊕ (((List (List Int)) × (List GRow) × (List (List Int)) × Bool))) := (bif (decide (0 < p206)) then (f4_l8_j9 a1 a2 a3 p201 p202 p203 p204 p205 p206 true) else (f4_l8_j9 a1 a2 a3 p201 p202 p203 p204 p205 p206 false))
theorem f4_l8_ok {base : Orc} {d : Nat} (hd : 7 ≤ d) (a1 : List (List Int)) (a2 : List GRow) (a3 : Int) (p201 : List (List Int)) (p202 : List GRow) (p203 : List (List Int)) (p204 : Bool) (p205 : List GRow) (p206 : Int) {r : Unit ⊕ (((List (List Int)) × (List GRow) × (List (List Int)) × Bool))} {Q : PX → St → Prop} (hQ : ∀ e st', finL (f4_l8_H a1 a2 a3 p201 p202 p203 p204 p205 p206) (f4_l8_X a1 a2 a3 p201 p202 p203 p204 p205 p206) r e st' → Q e st') {x : Unit} (hS : f4_l8 a1 a2 a3 p201 p202 p203 p204 p205 p206 x = some r) {st : St} (he : f4_l8_H a1 a2 a3 p201 p202 p203 p204 p205 p206 x st) : ZR (lev codes base (d - 1)) Q c4_8 [] st := by
  refine zrKeep he ?_
  unfold f4_l8 at hS
  refine zrSeq ?_
  refine zrReg ?_
  refine zlBool (d := 83) (op := (.cmpI .lss (.tmp 82) (.tmp 81))) (g := none) (j := 1) (decide (0 < p206)) rfl (by kernel_rfl) (by kernel_rfl) (by kernel_rfl) (fun hc => ?_) (fun hc => ?_)
  · replace hS := cond_t hc hS
    refine zlEnd (by kernel_rfl) ?_
    refine zkSeq ?_
    exact f4_l8_j9_ok hd a1 a2 a3 p201 p202 p203 p204 p205 p206 hQ true hS (by kernel_rfl)
  · replace hS := cond_f hc hS
    refine zlEnd (by kernel_rfl) ?_
    refine zkSeq ?_
    exact f4_l8_j9_ok hd a1 a2 a3 p201 p202 p203 p204 p205 p206 hQ false hS (by kernel_rfl)
def f4_j2_J (a1 : List (List Int)) (a2 : List GRow) (a3 : Int) (p131 : List (List Int)) (p132 : List GRow) (p133 : List GRow) (p134 : List (List Int)) (p135 : List GRow) (p136 : Bool) : St := ⟨(up (up (up (up (up (up (up (up (fun _ => .un) 19 (.d (.bool p136))) 17 (.r (.msl 536 0 0 p135.length))) 15 (.r (.msl 488 0 0 p134.length))) 13 (.r (.msl 448 0 0 p133.length))) 8 (.r (.msl 72 0 0 p132.length))) 7 (.r (.msl 64 0 0 p131.length))) 1 (.d (.sl a2.length (e_GRow.cells a2)))) 0 (.d (.sl a1.length ((eSl (eInt .i64)).cells a1)))), (up (up (up (up (up (hB fun _ => 0) 536 ⟨0, some (.own 35 2 (e_GRow.cells p135))⟩) 488 ⟨0, some (.own 32 1 ((eSl (eInt .i64)).cells p134))⟩) 448 ⟨0, some (.own 35 2 (e_GRow.cells p133))⟩) 72 ⟨0, some (.own 35 2 (e_GRow.cells p132))⟩) 64 ⟨0, some (.own 32 1 ((eSl (eInt .i64)).cells p131))⟩)⟩
noncomputable def f4_j2 (a1 : List (List Int)) (a2 : List GRow) (a3 : Int) (p131 : List (List Int)) (p132 : List GRow) (p133 : List GRow) (p134 : List (List Int)) (p135 : List GRow) (p136 : Bool) : Option (Bool) := ((f12 p133).bind fun z67 => ((app? 32 z67 p135).bind fun z68 => ((loopO (f4_l8 a1 a2 a3 p131 p132 p134 p136 z68 (z68.length : Int)) ()).bind fun z75 => (f4_j3 a1 a2 a3 z75.1 z75.2.1 z75.2.2.1 z75.2.2.2))))
theorem f4_j2_ok {base : Orc} {d : Nat} (hd : 7 ≤ d) (a1 : List (List Int)) (a2 : List GRow) (a3 : Int) {r : Bool} {Q : PX → St → Prop} (hQ : ∀ e st', f4_Q r e st' → Q e st') (p131 : List (List Int)) (p132 : List GRow) (p133 : List GRow) (p134 : List (List Int)) (p135 : List GRow) (p136 : Bool) (hS : f4_j2 a1 a2 a3 p131 p132 p133 p134 p135 p136 = some r) {st : St} (he : keepSt [0, 1, 7, 8, 13, 15, 17, 19] [(64, .id 64), (72, .id 72), (448, .id 448), (488, .id 488), (536, .id 536)] [] st = f4_j2_J a1 a2 a3 p131 p132 p133 p134 p135 p136) : ZR (lev codes base (d - 1)) Q c4_9 [] st := by
  refine zrKeep he ?_
  unfold f4_j2 at hS
  refine zrSeq ?_
  refine zrSeq ?_
  refine zrReg ?_
  refine zlRun (n := 1) (j := 1) rfl (by kernel_rfl) ?_
  refine bindE hS (fun z67 hz67 hS => ?_)
  refine zlOp (d := some 78) (op := (.callf 12 [(.tmp 77)])) (g := none) (v := (.r (.msl 632 1 0 z67.length))) (ups := [(448, ⟨1, none⟩), (632, ⟨1, some (.own 35 2 (e_GRow.cells z67))⟩)]) (j := 2) rfl (by kernel_rfl) (by kernel_rfl) (ev_callF (args := [(.r (.msl 448 0 0 p133.length))]) (args' := [(.d (.sl p133.length (e_GRow.cells p133)))]) (l := [(.d (.sl p133.length (e_GRow.cells p133)))]) (refs := [448]) (r := (.r (.own 0 35 2 z67.length (e_GRow.cells z67)))) (v := (.r (.msl 632 1 0 z67.length))) (ups' := [(632, ⟨1, some (.own 35 2 (e_GRow.cells z67))⟩)]) (by kernel_rfl) (by kernel_rfl) (by kernel_rfl) (fz_cons (fz_own e_GRow (e := 35) (k := 2) (xs := p133) (by kernel_rfl) (by kernel_rfl) rfl rfl) fz_nil) (by kernel_rfl) (f12_ok base (d - 1) (dpt hd rfl) p133 z67 hz67) (by kernel_rfl) (by kernel_rfl) (by kernel_rfl) (by kernel_rfl)) ?_
  refine zlRun (n := 1) (j := 3) rfl (by kernel_rfl) ?_
  refine bindE hS (fun z68 hz68 hS => ?_)
  refine zlOp (d := some 80) (op := (.app 35 2 32 (.tmp 78) (.tmp 79))) (g := none) (v := (.r (.msl 632 2 0 z68.length))) (ups := [(632, ⟨2, some (.own 35 2 (e_GRow.cells z68))⟩)]) (j := 4) rfl (by kernel_rfl) (by kernel_rfl) (ev_app e_GRow (b := 632) (g := 1) (n := z67.length) (xs := z67) (ys := p135) ((congrArg (asL _) (by kernel_rfl : ρof _ (.tmp 79) = (.r (.msl 536 0 0 p135.length)))).trans (as_whole e_GRow (e := 35) (k := 2) (xs := p135) (by kernel_rfl) rfl rfl)) rfl (by kernel_rfl) rfl (by kernel_rfl) rfl hz68) ?_
  refine zlRun (n := 2) (j := 6) rfl (by kernel_rfl) ?_
  refine zlEnd (by kernel_rfl) ?_
  refine zkSeq ?_
  refine zrBlk ?_
  refine bindE hS (fun z75 hz75 hS => ?_)
  refine zrLoop (f4_l8_H a1 a2 a3 p131 p132 p134 p136 z68 (z68.length : Int)) (f4_l8_X a1 a2 a3 p131 p132 p134 p136 z68 (z68.length : Int)) (fun x st r Q h0 hS hQ => f4_l8_ok hd a1 a2 a3 p131 p132 p134 p136 z68 (z68.length : Int) hQ hS h0) (x := ()) (z := z75) (by show keepSt _ _ _ _ = _; kernel_rfl) hz75 ?_
  intro e st' _ hX
  obtain ⟨rfl, rfl⟩ : _ ∧ _ := hX
  refine zkBlkX ?_
  refine zkSeq ?_
  exact f4_j3_ok hd a1 a2 a3 hQ z75.1 z75.2.1 z75.2.2.1 z75.2.2.2 hS (by kernel_rfl)
def f4_j1_J (a1 : List (List Int)) (a2 : List GRow) (a3 : Int) (p123 : List (List Int)) (p124 : List GRow) : St := ⟨(up (up (up (up (up (fun _ => .un) 8 (.r (.msl 72 0 0 p124.length))) 7 (.r (.msl 64 0 0 p123.length))) 2 (.d (.int .i64 a3))) 1 (.d (.sl a2.length (e_GRow.cells a2)))) 0 (.d (.sl a1.length ((eSl (eInt .i64)).cells a1)))), (up (up (hB fun _ => 0) 72 ⟨0, some (.own 35 2 (e_GRow.cells p124))⟩) 64 ⟨0, some (.own 32 1 ((eSl (eInt .i64)).cells p123))⟩)⟩
noncomputable def f4_j1 (a1 : List (List Int)) (a2 : List GRow) (a3 : Int) (p123 : List (List Int)) (p124 : List GRow) : Option (Bool) := ((f5 a1 a3).bind fun z46 => ((f7 a2).bind fun z47 => ((f10 a2 a3).bind fun z48 => ((f8 a1 p123).bind fun z76 => (bif z76 then ((f11 a2 p124).bind fun z77 => (f4_j2 a1 a2 a3 p123 p124 z46.1 z47.1 z48.1 z77)) else (f4_j2 a1 a2 a3 p123 p124 z46.1 z47.1 z48.1 false))))))
theorem f4_j1_ok {base : Orc} {d : Nat} (hd : 7 ≤ d) (a1 : List (List Int)) (a2 : List GRow) (a3 : Int) {r : Bool} {Q : PX → St → Prop} (hQ : ∀ e st', f4_Q r e st' → Q e st') (p123 : List (List Int)) (p124 : List GRow) (hS : f4_j1 a1 a2 a3 p123 p124 = some r) {st : St} (he : keepSt [0, 1, 2, 7, 8] [(64, .id 64), (72, .id 72)] [] st = f4_j1_J a1 a2 a3 p123 p124) : ZR (lev codes base (d - 1)) Q c4_10 [] st := by
  refine zrKeep he ?_
  unfold f4_j1 at hS
  refine zrSeq ?_
  refine zrReg ?_
  refine zlRun (n := 2) (j := 2) rfl (by kernel_rfl) ?_
  refine bindE hS (fun z46 hz46 hS => ?_)
  refine zlOp (d := some 55) (op := (.callf 5 [(.tmp 53), (.tmp 54)])) (g := none) (v := (.tup [(.r (.msl 448 1 0 z46.1.length)), (.d (.int .i64 z46.2))])) (ups := [(448, ⟨1, some (.own 35 2 (e_GRow.cells z46.1))⟩)]) (j := 3) rfl (by kernel_rfl) (by kernel_rfl) (ev_callF (args := [(.d (.sl a1.length ((eSl (eInt .i64)).cells a1))), (.d (.int .i64 a3))]) (args' := [(.d (.sl a1.length ((eSl (eInt .i64)).cells a1))), (.d (.int .i64 a3))]) (l := [(.d (.sl a1.length ((eSl (eInt .i64)).cells a1))), (.d (.int .i64 a3))]) (refs := []) (r := (.tup [(.r (.own 0 35 2 z46.1.length (e_GRow.cells z46.1))), (.d (.int .i64 z46.2))])) (v := (.tup [(.r (.msl 448 1 0 z46.1.length)), (.d (.int .i64 z46.2))])) (ups' := [(448, ⟨1, some (.own 35 2 (e_GRow.cells z46.1))⟩)]) (by kernel_rfl) (by kernel_rfl) (by kernel_rfl) (fz_cons rfl (fz_cons rfl fz_nil)) (by kernel_rfl) (f5_ok base (d - 1) (dpt hd rfl) a1 a3 z46 hz46) (by kernel_rfl) (by kernel_rfl) (by kernel_rfl) (by kernel_rfl)) ?_
  refine zlRun (n := 5) (j := 8) rfl (by kernel_rfl) ?_
  refine zlEnd (by kernel_rfl) ?_
  refine zkSeq ?_
  refine zrSeq ?_
  refine zrReg ?_
  refine zlRun (n := 1) (j := 1) rfl (by kernel_rfl) ?_
  refine bindE hS (fun z47 hz47 hS => ?_)
  refine zlOp (d := some 60) (op := (.callf 7 [(.tmp 59)])) (g := none) (v := (.tup [(.r (.msl 488 1 0 z47.1.length)), (.d (.int .i64 z47.2))])) (ups := [(488, ⟨1, some (.own 32 1 ((eSl (eInt .i64)).cells z47.1))⟩)]) (j := 2) rfl (by kernel_rfl) (by kernel_rfl) (ev_callF (args := [(.d (.sl a2.length (e_GRow.cells a2)))]) (args' := [(.d (.sl a2.length (e_GRow.cells a2)))]) (l := [(.d (.sl a2.length (e_GRow.cells a2)))]) (refs := []) (r := (.tup [(.r (.own 0 32 1 z47.1.length ((eSl (eInt .i64)).cells z47.1))), (.d (.int .i64 z47.2))])) (v := (.tup [(.r (.msl 488 1 0 z47.1.length)), (.d (.int .i64 z47.2))])) (ups' := [(488, ⟨1, some (.own 32 1 ((eSl (eInt .i64)).cells z47.1))⟩)]) (by kernel_rfl) (by kernel_rfl) (by kernel_rfl) (fz_cons rfl fz_nil) (by kernel_rfl) (f7_ok base (d - 1) (dpt hd rfl) a2 z47 hz47) (by kernel_rfl) (by kernel_rfl) (by kernel_rfl) (by kernel_rfl)) ?_
  refine zlRun (n := 5) (j := 7) rfl (by kernel_rfl) ?_
  refine zlEnd (by kernel_rfl) ?_
  refine zkSeq ?_
  refine zrSeq ?_
  refine zrReg ?_
  refine zlRun (n := 2) (j := 2) rfl (by kernel_rfl) ?_
  refine bindE hS (fun z48 hz48 hS => ?_)
  refine zlOp (d := some 66) (op := (.callf 10 [(.tmp 64), (.tmp 65)])) (g := none) (v := (.tup [(.r (.msl 536 1 0 z48.1.length)), (.d (.int .i64 z48.2))])) (ups := [(536, ⟨1, some (.own 35 2 (e_GRow.cells z48.1))⟩)]) (j := 3) rfl (by kernel_rfl) (by kernel_rfl) (ev_callF (args := [(.d (.sl a2.length (e_GRow.cells a2))), (.d (.int .i64 a3))]) (args' := [(.d (.sl a2.length (e_GRow.cells a2))), (.d (.int .i64 a3))]) (l := [(.d (.sl a2.length (e_GRow.cells a2))), (.d (.int .i64 a3))]) (refs := []) (r := (.tup [(.r (.own 0 35 2 z48.1.length (e_GRow.cells z48.1))), (.d (.int .i64 z48.2))])) (v := (.tup [(.r (.msl 536 1 0 z48.1.length)), (.d (.int .i64 z48.2))])) (ups' := [(536, ⟨1, some (.own 35 2 (e_GRow.cells z48.1))⟩)]) (by kernel_rfl) (by kernel_rfl) (by kernel_rfl) (fz_cons rfl (fz_cons rfl fz_nil)) (by kernel_rfl) (f10_ok base (d - 1) (dpt hd rfl) a2 a3 z48 hz48) (by kernel_rfl) (by kernel_rfl) (by kernel_rfl) (by kernel_rfl)) ?_
  refine zlRun (n := 5) (j := 8) rfl (by kernel_rfl) ?_
  refine zlEnd (by kernel_rfl) ?_
  refine zkSeq ?_
  refine zrSeq ?_
  refine zrReg ?_
  refine zlRun (n := 2) (j := 2) rfl (by kernel_rfl) ?_
  refine bindE hS (fun z76 hz76 hS => ?_)
  refine zlOp (d := some 71) (op := (.call 8 [(.tmp 69), (.tmp 70)])) (g := none) (j := 3) rfl (by kernel_rfl) (by kernel_rfl) (ev_callB (args := [(.d (.sl a1.length ((eSl (eInt .i64)).cells a1))), (.r (.msl 64 0 0 p123.length))]) (by kernel_rfl) (l_cons (by kernel_rfl) (l_cons (l_own (eSl (eInt .i64)) (e := 32) (k := 1) (xs := p123) (by kernel_rfl) rfl rfl) l_nil)) (f8_ok base (d - 1) (dpt hd rfl) a1 p123 z76 hz76) (by kernel_rfl) (by kernel_rfl)) ?_
  refine zlRun (n := 1) (j := 4) rfl (by kernel_rfl) ?_
  refine zlSplit 72 z76 (by kernel_rfl) (fun hc => ?_) (fun hc => ?_)
  · replace hS := cond_t hc hS
    refine zlRun (n := 2) (j := 6) rfl (by kernel_rfl) ?_
    refine bindE hS (fun z77 hz77 hS => ?_)
    refine zlOp (d := some 75) (op := (.call 11 [(.tmp 73), (.tmp 74)])) (g := (some (72, true))) (j := 7) rfl (by kernel_rfl) (by kernel_rfl) (ev_callB (args := [(.d (.sl a2.length (e_GRow.cells a2))), (.r (.msl 72 0 0 p124.length))]) (by kernel_rfl) (l_cons (by kernel_rfl) (l_cons (l_own e_GRow (e := 35) (k := 2) (xs := p124) (by kernel_rfl) rfl rfl) l_nil)) (f11_ok base (d - 1) (dpt hd rfl) a2 p124 z77 hz77) (by kernel_rfl) (by kernel_rfl)) ?_
    refine zlRun (n := 2) (j := 9) rfl (by kernel_rfl) ?_
    refine zlEnd (by kernel_rfl) ?_
    refine zkSeq ?_
    exact f4_j2_ok hd a1 a2 a3 hQ p123 p124 z46.1 z47.1 z48.1 z77 hS (by kernel_rfl)
  · replace hS := cond_f hc hS
    refine zlRun (n := 5) (j := 9) rfl (by kernel_rfl) ?_
    refine zlEnd (by kernel_rfl) ?_
    refine zkSeq ?_
    exact f4_j2_ok hd a1 a2 a3 hQ p123 p124 z46.1 z47.1 z48.1 false hS (by kernel_rfl)
def f4_l11_J (a1 : List (List Int)) (a2 : List GRow) (a3 : Int) (x : (List (List Int)) × (List GRow) × Int) : St := ⟨(up (up (up (up (up (up (up (up (fun _ => .un) 38 (.d (.int .i64 x.2.2))) 37 (.d (.int .i64 (a2.length : Int)))) 36 (.d (.sl a2.length (e_GRow.cells a2)))) 8 (.r (.msl 72 0 0 x.2.1.length))) 7 (.r (.msl 64 0 0 x.1.length))) 2 (.d (.int .i64 a3))) 1 (.d (.sl a2.length (e_GRow.cells a2)))) 0 (.d (.sl a1.length ((eSl (eInt .i64)).cells a1)))), (up (up (hB fun _ => 0) 72 ⟨0, some (.own 35 2 (e_GRow.cells x.2.1))⟩) 64 ⟨0, some (.own 32 1 ((eSl (eInt .i64)).cells x.1))⟩)⟩
def f4_l11_H (a1 : List (List Int)) (a2 : List GRow) (a3 : Int) (x : (List (List Int)) × (List GRow) × Int) (st : St) : Prop := keepSt [0, 1, 2, 7, 8, 36, 37, 38] [(64, .id 64), (72, .id 72)] [] st = f4_l11_J a1 a2 a3 x
def f4_l11_e2_J (a1 : List (List Int)) (a2 : List GRow) (a3 : Int) (p121 : List (List Int)) (p122 : List GRow) : St := ⟨(up (up (up (up (up (fun _ => .un) 8 (.r (.msl 72 0 0 p122.length))) 7 (.r (.msl 64 0 0 p121.length))) 2 (.d (.int .i64 a3))) 1 (.d (.sl a2.length (e_GRow.cells a2)))) 0 (.d (.sl a1.length ((eSl (eInt .i64)).cells a1)))), (up (up (hB fun _ => 0) 72 ⟨0, some (.own 35 2 (e_GRow.cells p122))⟩) 64 ⟨0, some (.own 32 1 ((eSl (eInt .i64)).cells p121))⟩)⟩
def f4_l11_X (a1 : List (List Int)) (a2 : List GRow) (a3 : Int) (z : ((List (List Int)) × (List GRow))) (e : PX) (st : St) : Prop := e = .exit 2 ∧ st = f4_l11_e2_J a1 a2 a3 z.1 z.2
def f4_l11_j13_J (a1 : List (List Int)) (a2 : List GRow) (a3 : Int) (p241 : List (List Int)) (p242 : List GRow) (p243 : Int) : St := ⟨(up (up (up (up (up (up (up (up (fun _ => .un) 38 (.d (.int .i64 p243))) 37 (.d (.int .i64 (a2.length : Int)))) 36 (.d (.sl a2.length (e_GRow.cells a2)))) 8 (.r (.msl 72 0 0 p242.length))) 7 (.r (.msl 64 0 0 p241.length))) 2 (.d (.int .i64 a3))) 1 (.d (.sl a2.length (e_GRow.cells a2)))) 0 (.d (.sl a1.length ((eSl (eInt .i64)).cells a1)))), (up (up (hB fun _ => 0) 72 ⟨0, some (.own 35 2 (e_GRow.cells p242))⟩) 64 ⟨0, some (.own 32 1 ((eSl (eInt .i64)).cells p241))⟩)⟩
noncomputable def f4_l11_j13 (a1 : List (List Int)) (a2 : List GRow) (a3 : Int) (p241 : List (List Int)) (p242 : List GRow) (p243 : Int) : Option (((List (List Int)) × (List GRow) × Int) ⊕ (((List (List Int)) × (List GRow)))) := ((idx a2 p243).bind fun z78 => ((f9 z78.Runes).bind fun z79 => ((app? 32 p242 ([(GRow.mk z79 z78.Soft)] : List GRow)).bind fun z80 => (some (.inl (p241, z80, (IntKind.i64.wrap (p243 + 1))))))))
theorem f4_l11_j13_ok {base : Orc} {d : Nat} (hd : 7 ≤ d) (a1 : List (List Int)) (a2 : List GRow) (a3 : Int) {r : ((List (List Int)) × (List GRow) × Int) ⊕ (((List (List Int)) × (List GRow)))} {Q : PX → St → Prop} (hQ : ∀ e st', finL (f4_l11_H a1 a2 a3) (f4_l11_X a1 a2 a3) r e st' → Q e st') (p241 : List (List Int)) (p242 : List GRow) (p243 : Int) (hS : f4_l11_j13 a1 a2 a3 p241 p242 p243 = some r) {st : St} (he : keepSt [0, 1, 2, 7, 8, 36, 37, 38] [(64, .id 64), (72, .id 72)] [] st = f4_l11_j13_J a1 a2 a3 p241 p242 p243) : ZR (lev codes base (d - 1)) Q c4_11 [] st := by
  refine zrKeep he ?_
  unfold f4_l11_j13 at hS
  refine zrSeq ?_
  refine zrBlk ?_
  refine zrSeq ?_
  refine zrReg ?_
  refine bindE hS (fun z78 hz78 hS => ?_)
  refine zlOp (d := some 40) (op := (.ixS 35 2 (.tmp 36) (.tmp 38))) (g := none) (v := (.rptr (e_GRow.enc z78 ++ (e_GRow.cells (a2.drop ((p243 : Int).toNat + 1)))))) (ups := []) (j := 1) rfl (by kernel_rfl) (by kernel_rfl) (ev_ixS e_GRow (kk := .i64) (xs := a2) (j := p243) (by kernel_rfl) (by kernel_rfl) hz78 rfl (by intro h; cases h)) ?_
  refine zlRun (n := 3) (j := 4) rfl (by kernel_rfl) ?_
  refine zlEnd (by kernel_rfl) ?_
  refine zkSeq ?_
  refine zrRegD ?_
  refine zdRun (n := 3) (j := 3) (ts := [[], [], [(104, false)]]) (acc' := [[], [], [(104, false)]]) rfl (by kernel_rfl) (by kernel_rfl) (by kernel_rfl) ?_
  refine bindE hS (fun z79 hz79 hS => ?_)
  refine zdOp (d := some 45) (op := (.call 9 [(.tmp 44)])) (g := none) (j := 4) (t1 := [(368, true), (369, true), (370, true), (371, true), (372, true), (373, true), (374, true), (375, true)]) (acc' := [[], [], [(104, false)], [(368, true), (369, true), (370, true), (371, true), (372, true), (373, true), (374, true), (375, true)]]) (by kernel_rfl) (by kernel_rfl) rfl (by kernel_rfl) (by kernel_rfl) (ev_callA (by kernel_rfl) (f9_ok base (d - 1) (dpt hd rfl) z78.Runes z79 hz79) (by kernel_rfl) (by kernel_rfl)) ?_
  refine zdRun (n := 3) (j := 7) (ts := [[], [(104, false)], []]) (acc' := [[], [], [(104, false)], [(368, true), (369, true), (370, true), (371, true), (372, true), (373, true), (374, true), (375, true)], [], [(104, false)], []]) rfl (by kernel_rfl) (by kernel_rfl) (by kernel_rfl) ?_
  refine zdOp (d := some 49) (op := (.bsl 35 2 1 [(1, (.slice .none 0 0)), (1, (.bool .false))] [(0, (2, (.tmp 48)))])) (g := none) (v := (.r (.msl 400 1 0 (([(GRow.mk z79 z78.Soft)] : List GRow).length)))) (ups := [(368, ⟨2, none⟩), (400, ⟨1, some (.own 35 2 (e_GRow.cells ([(GRow.mk z79 z78.Soft)])))⟩)]) (j := 8) (t1 := [(400, true), (368, true)]) (acc' := [[], [], [(104, false)], [(368, true), (369, true), (370, true), (371, true), (372, true), (373, true), (374, true), (375, true)], [], [(104, false)], [], [(400, true), (368, true)]]) (by kernel_rfl) (by kernel_rfl) rfl (by kernel_rfl) (by kernel_rfl) ((by kernel_rfl : peval _ _ 49 (ρof _) (.bsl 35 2 1 [(1, (.slice .none 0 0)), (1, (.bool .false))] [(0, (2, (.tmp 48)))]) = some ((.r (.msl 400 1 0 (([(GRow.mk z79 z78.Soft)] : List GRow).length))), [(368, ⟨2, none⟩), (400, ⟨1, some (.own 35 2 [.sl z79.length ((((eInt .i64).cells z79).drop (0 * (eInt .i64).k)).take (z79.length * (eInt .i64).k)), .bool z78.Soft])⟩)])).trans (by simp only [Enc.frz]; rfl)) ?_
  refine bindE hS (fun z80 hz80 hS => ?_)
  refine zdOp (d := some 50) (op := (.app 35 2 32 (.tmp 42) (.tmp 49))) (g := none) (v := (.r (.msl 72 1 0 z80.length))) (ups := [(72, ⟨1, some (.own 35 2 (e_GRow.cells z80))⟩)]) (j := 9) (t1 := [(408, true), (72, true), (400, false)]) (acc' := [[], [], [(104, false)], [(368, true), (369, true), (370, true), (371, true), (372, true), (373, true), (374, true), (375, true)], [], [(104, false)], [], [(400, true), (368, true)], [(408, true), (72, true), (400, false)]]) (by kernel_rfl) (by kernel_rfl) rfl (by kernel_rfl) (by kernel_rfl) (ev_app e_GRow (b := 72) (g := 0) (n := p242.length) (xs := p242) (ys := [(GRow.mk z79 z78.Soft)]) ((congrArg (asL _) (by kernel_rfl : ρof _ (.tmp 49) = (.r (.msl 400 1 0 (([(GRow.mk z79 z78.Soft)] : List GRow).length))))).trans (as_whole e_GRow (e := 35) (k := 2) (xs := [(GRow.mk z79 z78.Soft)]) (by kernel_rfl) rfl rfl)) rfl (by kernel_rfl) rfl (by kernel_rfl) rfl hz80) ?_
  refine zdRun (n := 1) (j := 10) (ts := [[]]) (acc' := [[], [], [(104, false)], [(368, true), (369, true), (370, true), (371, true), (372, true), (373, true), (374, true), (375, true)], [], [(104, false)], [], [(400, true), (368, true)], [(408, true), (72, true), (400, false)], []]) rfl (by kernel_rfl) (by kernel_rfl) (by kernel_rfl) ?_
  refine zdEnd (by kernel_rfl) (by kernel_rfl) ?_
  refine zkBlk ?_
  refine zkSeq ?_
  refine zrReg ?_
  refine zlRun (n := 2) (j := 2) rfl (by kernel_rfl) ?_
  refine zlEnd (by kernel_rfl) ?_
  refine zkNil ?_
  exact endQ hS hQ (finL_n (by show keepSt _ _ _ _ = _; kernel_rfl))
def f4_l11_j12_J (a1 : List (List Int)) (a2 : List GRow) (a3 : Int) (p237 : List (List Int)) (p238 : List GRow) (p239 : Int) (p240 : Bool) : St := ⟨(up (up (up (up (up (up (up (up (up (fun _ => .un) 39 (.d (.bool p240))) 38 (.d (.int .i64 p239))) 37 (.d (.int .i64 (a2.length : Int)))) 36 (.d (.sl a2.length (e_GRow.cells a2)))) 8 (.r (.msl 72 0 0 p238.length))) 7 (.r (.msl 64 0 0 p237.length))) 2 (.d (.int .i64 a3))) 1 (.d (.sl a2.length (e_GRow.cells a2)))) 0 (.d (.sl a1.length ((eSl (eInt .i64)).cells a1)))), (up (up (hB fun _ => 0) 72 ⟨0, some (.own 35 2 (e_GRow.cells p238))⟩) 64 ⟨0, some (.own 32 1 ((eSl (eInt .i64)).cells p237))⟩)⟩
noncomputable def f4_l11_j12 (a1 : List (List Int)) (a2 : List GRow) (a3 : Int) (p237 : List (List Int)) (p238 : List GRow) (p239 : Int) (p240 : Bool) : Option (((List (List Int)) × (List GRow) × Int) ⊕ (((List (List Int)) × (List GRow)))) := (bif p240 then (f4_l11_j13 a1 a2 a3 p237 p238 p239) else (some (.inr (p237, p238))))
theorem f4_l11_j12_ok {base : Orc} {d : Nat} (hd : 7 ≤ d) (a1 : List (List Int)) (a2 : List GRow) (a3 : Int) {r : ((List (List Int)) × (List GRow) × Int) ⊕ (((List (List Int)) × (List GRow)))} {Q : PX → St → Prop} (hQ : ∀ e st', finL (f4_l11_H a1 a2 a3) (f4_l11_X a1 a2 a3) r e st' → Q e st') (p237 : List (List Int)) (p238 : List GRow) (p239 : Int) (p240 : Bool) (hS : f4_l11_j12 a1 a2 a3 p237 p238 p239 p240 = some r) {st : St} (he : keepSt [0, 1, 2, 7, 8, 36, 37, 38, 39] [(64, .id 64), (72, .id 72)] [] st = f4_l11_j12_J a1 a2 a3 p237 p238 p239 p240) : ZR (lev codes base (d - 1)) Q c4_12 [] st := by
  refine zrKeep he ?_
  unfold f4_l11_j12 at hS
  refine zrSeq ?_
  refine zrSplit 39 p240 (by kernel_rfl) (fun hc => ?_) (fun hc => ?_)
  · replace hS := cond_t hc hS
    refine zrCondT (by kernel_rfl) ?_
    refine zrSkip ?_
    refine zkSeq ?_
    exact f4_l11_j13_ok hd a1 a2 a3 hQ p237 p238 p239 hS (by kernel_rfl)
  · replace hS := cond_f hc hS
    refine zrCondF (by kernel_rfl) ?_
    refine zrKeep (J := f4_l11_e2_J a1 a2 a3 p237 p238) (by kernel_rfl) ?_
    refine zrExit ?_
    refine zkSeqX ?_
    refine zkNil ?_
    exact endQ hS hQ (finL_x (by intro h; cases h) (by show _ = _ ∧ _ = _; exact ⟨rfl, rfl⟩))
noncomputable def f4_l11 (a1 : List (List Int)) (a2 : List GRow) (a3 : Int) (x : (List (List Int)) × (List GRow) × Int) : Option (((List (List Int)) × (List GRow) × Int) ⊕ (((List (List Int)) × (List GRow)))) := (bif (decide (x.2.2 < (a2.length : Int))) then (f4_l11_j12 a1 a2 a3 x.1 x.2.1 x.2.2 true) else (f4_l11_j12 a1 a2 a3 x.1 x.2.1 x.2.2 false))
theorem f4_l11_ok {base : Orc} {d : Nat} (hd : 7 ≤ d) (a1 : List (List Int)) (a2 : List GRow) (a3 : Int) {r : ((List (List Int)) × (List GRow) × Int) ⊕ (((List (List Int)) × (List GRow)))} {Q : PX → St → Prop} (hQ : ∀ e st', finL (f4_l11_H a1 a2 a3) (f4_l11_X a1 a2 a3) r e st' → Q e st') {x : (List (List Int)) × (List GRow) × Int} (hS : f4_l11 a1 a2 a3 x = some r) {st : St} (he : f4_l11_H a1 a2 a3 x st) : ZR (lev codes base (d - 1)) Q c4_13 [] st := by
  refine zrKeep he ?_
  unfold f4_l11 at hS
  refine zrSeq ?_
  refine zrReg ?_
  refine zlBool (d := 39) (op := (.cmpI .lss (.tmp 38) (.tmp 37))) (g := none) (j := 1) (decide (x.2.2 < (a2.length : Int))) rfl (by kernel_rfl) (by kernel_rfl) (by kernel_rfl) (fun hc => ?_) (fun hc => ?_)
  · replace hS := cond_t hc hS
    refine zlEnd (by kernel_rfl) ?_
    refine zkSeq ?_
    exact f4_l11_j12_ok hd a1 a2 a3 hQ x.1 x.2.1 x.2.2 true hS (by kernel_rfl)
  · replace hS := cond_f hc hS
    refine zlEnd (by kernel_rfl) ?_
    refine zkSeq ?_
    exact f4_l11_j12_ok hd a1 a2 a3 hQ x.1 x.2.1 x.2.2 false hS (by kernel_rfl)
def f4_j0_J (a1 : List (List Int)) (a2 : List GRow) (a3 : Int) (p103 : List (List Int)) : St := ⟨(up (up (up (up (up (fun _ => .un) 8 (.r (.msl 72 0 0 (([] : List GRow).length)))) 7 (.r (.msl 64 0 0 p103.length))) 2 (.d (.int .i64 a3))) 1 (.d (.sl a2.length (e_GRow.cells a2)))) 0 (.d (.sl a1.length ((eSl (eInt .i64)).cells a1)))), (up (up (hB fun _ => 0) 72 ⟨0, some (.own 35 2 (e_GRow.cells ([])))⟩) 64 ⟨0, some (.own 32 1 ((eSl (eInt .i64)).cells p103))⟩)⟩
noncomputable def f4_j0 (a1 : List (List Int)) (a2 : List GRow) (a3 : Int) (p103 : List (List Int)) : Option (Bool) := ((loopO (f4_l11 a1 a2 a3) (p103, [], 0)).bind fun z81 => (f4_j1 a1 a2 a3 z81.1 z81.2))
theorem f4_j0_ok {base : Orc} {d : Nat} (hd : 7 ≤ d) (a1 : List (List Int)) (a2 : List GRow) (a3 : Int) {r : Bool} {Q : PX → St → Prop} (hQ : ∀ e st', f4_Q r e st' → Q e st') (p103 : List (List Int)) (hS : f4_j0 a1 a2 a3 p103 = some r) {st : St} (he : keepSt [0, 1, 2, 7, 8] [(64, .id 64), (72, .id 72)] [] st = f4_j0_J a1 a2 a3 p103) : ZR (lev codes base (d - 1)) Q c4_14 [] st := by
  refine zrKeep he ?_
  unfold f4_j0 at hS
  refine zrSeq ?_
  refine zrSeq ?_
  refine zrReg ?_
  refine zlRun (n := 3) (j := 3) rfl (by kernel_rfl) ?_
  refine zlEnd (by kernel_rfl) ?_
  refine zkSeq ?_
  refine zrBlk ?_
  refine bindE hS (fun z81 hz81 hS => ?_)
  refine zrLoop (f4_l11_H a1 a2 a3) (f4_l11_X a1 a2 a3) (fun x st r Q h0 hS hQ => f4_l11_ok hd a1 a2 a3 hQ hS h0) (x := (p103, [], 0)) (z := z81) (by show keepSt _ _ _ _ = _; kernel_rfl) hz81 ?_
  intro e st' _ hX
  obtain ⟨rfl, rfl⟩ : _ ∧ _ := hX
  refine zkBlkX ?_
  refine zkSeq ?_
  exact f4_j1_ok hd a1 a2 a3 hQ z81.1 z81.2 hS (by kernel_rfl)
def f4_l14_J (a1 : List (List Int)) (a2 : List GRow) (a3 : Int) (x : (List (List Int)) × Int) : St := ⟨(up (up (up (up (up (up (up (up (fun _ => .un) 26 (.d (.int .i64 x.2))) 25 (.d (.int .i64 (a1.length : Int)))) 24 (.d (.sl a1.length ((eSl (eInt .i64)).cells a1)))) 8 (.r (.msl 72 0 0 (([] : List GRow).length)))) 7 (.r (.msl 64 0 0 x.1.length))) 2 (.d (.int .i64 a3))) 1 (.d (.sl a2.length (e_GRow.cells a2)))) 0 (.d (.sl a1.length ((eSl (eInt .i64)).cells a1)))), (up (up (hB fun _ => 0) 72 ⟨0, some (.own 35 2 (e_GRow.cells ([])))⟩) 64 ⟨0, some (.own 32 1 ((eSl (eInt .i64)).cells x.1))⟩)⟩
def f4_l14_H (a1 : List (List Int)) (a2 : List GRow) (a3 : Int) (x : (List (List Int)) × Int) (st : St) : Prop := keepSt [0, 1, 2, 7, 8, 24, 25, 26] [(64, .id 64), (72, .id 72)] [] st = f4_l14_J a1 a2 a3 x
def f4_l14_e0_J (a1 : List (List Int)) (a2 : List GRow) (a3 : Int) (p12 : List (List Int)) : St := ⟨(up (up (up (up (up (fun _ => .un) 8 (.r (.msl 72 0 0 (([] : List GRow).length)))) 7 (.r (.msl 64 0 0 p12.length))) 2 (.d (.int .i64 a3))) 1 (.d (.sl a2.length (e_GRow.cells a2)))) 0 (.d (.sl a1.length ((eSl (eInt .i64)).cells a1)))), (up (up (hB fun _ => 0) 72 ⟨0, some (.own 35 2 (e_GRow.cells ([])))⟩) 64 ⟨0, some (.own 32 1 ((eSl (eInt .i64)).cells p12))⟩)⟩
def f4_l14_X (a1 : List (List Int)) (a2 : List GRow) (a3 : Int) (z : ((List (List Int)))) (e : PX) (st : St) : Prop := e = .exit 0 ∧ st = f4_l14_e0_J a1 a2 a3 z
def f4_l14_j16_J (a1 : List (List Int)) (a2 : List GRow) (a3 : Int) (p250 : List (List Int)) (p251 : Int) : St := ⟨(up (up (up (up (up (up (up (up (fun _ => .un) 26 (.d (.int .i64 p251))) 25 (.d (.int .i64 (a1.length : Int)))) 24 (.d (.sl a1.length ((eSl (eInt .i64)).cells a1)))) 8 (.r (.msl 72 0 0 (([] : List GRow).length)))) 7 (.r (.msl 64 0 0 p250.length))) 2 (.d (.int .i64 a3))) 1 (.d (.sl a2.length (e_GRow.cells a2)))) 0 (.d (.sl a1.length ((eSl (eInt .i64)).cells a1)))), (up (up (hB fun _ => 0) 72 ⟨0, some (.own 35 2 (e_GRow.cells ([])))⟩) 64 ⟨0, some (.own 32 1 ((eSl (eInt .i64)).cells p250))⟩)⟩
noncomputable def f4_l14_j16 (a1 : List (List Int)) (a2 : List GRow) (a3 : Int) (p250 : List (List Int)) (p251 : Int) : Option (((List (List Int)) × Int) ⊕ (((List (List Int))))) := ((idx a1 p251).bind fun z82 => ((f9 z82).bind fun z83 => ((app? 24 p250 ([z83] : List (List Int))).bind fun z84 => (some (.inl (z84, (IntKind.i64.wrap (p251 + 1))))))))
theorem f4_l14_j16_ok {base : Orc} {d : Nat} (hd : 7 ≤ d) (a1 : List (List Int)) (a2 : List GRow) (a3 : Int) {r : ((List (List Int)) × Int) ⊕ (((List (List Int))))} {Q : PX → St → Prop} (hQ : ∀ e st', finL (f4_l14_H a1 a2 a3) (f4_l14_X a1 a2 a3) r e st' → Q e st') (p250 : List (List Int)) (p251 : Int) (hS : f4_l14_j16 a1 a2 a3 p250 p251 = some r) {st : St} (he : keepSt [0, 1, 2, 7, 8, 24, 25, 26] [(64, .id 64), (72, .id 72)] [] st = f4_l14_j16_J a1 a2 a3 p250 p251) : ZR (lev codes base (d - 1)) Q c4_15 [] st := by
  refine zrKeep he ?_
  unfold f4_l14_j16 at hS
  refine zrSeq ?_
  refine zrBlk ?_
  refine zrSeq ?_
  refine zrReg ?_
  refine bindE hS (fun z82 hz82 hS => ?_)
  refine zlOp (d := some 28) (op := (.ixS 32 1 (.tmp 24) (.tmp 26))) (g := none) (v := (.rptr ((eSl (eInt .i64)).enc z82 ++ ((eSl (eInt .i64)).cells (a1.drop ((p251 : Int).toNat + 1)))))) (ups := []) (j := 1) rfl (by kernel_rfl) (by kernel_rfl) (ev_ixS (eSl (eInt .i64)) (kk := .i64) (xs := a1) (j := p251) (by kernel_rfl) (by kernel_rfl) hz82 rfl (by intro h; cases h)) ?_
  refine zlRun (n := 2) (j := 3) rfl (by kernel_rfl) ?_
  refine zlEnd (by kernel_rfl) ?_
  refine zkSeq ?_
  refine zrReg ?_
  refine zlRun (n := 2) (j := 2) rfl (by kernel_rfl) ?_
  refine bindE hS (fun z83 hz83 hS => ?_)
  refine zlOp (d := some 32) (op := (.call 9 [(.tmp 31)])) (g := none) (j := 3) rfl (by kernel_rfl) (by kernel_rfl) (ev_callA (by kernel_rfl) (f9_ok base (d - 1) (dpt hd rfl) z82 z83 hz83) (by kernel_rfl) (by kernel_rfl)) ?_
  refine zlOp (d := some 33) (op := (.bsl 32 1 1 [(1, (.slice .none 0 0))] [(0, (1, (.tmp 32)))])) (g := none) (v := (.r (.msl 272 1 0 (([z83] : List (List Int)).length)))) (ups := [(264, ⟨2, none⟩), (272, ⟨1, some (.own 32 1 ((eSl (eInt .i64)).cells ([z83])))⟩)]) (j := 4) rfl (by kernel_rfl) (by kernel_rfl) ((by kernel_rfl : peval _ _ 33 (ρof _) (.bsl 32 1 1 [(1, (.slice .none 0 0))] [(0, (1, (.tmp 32)))]) = some ((.r (.msl 272 1 0 (([z83] : List (List Int)).length))), [(264, ⟨2, none⟩), (272, ⟨1, some (.own 32 1 [.sl z83.length ((((eInt .i64).cells z83).drop (0 * (eInt .i64).k)).take (z83.length * (eInt .i64).k))])⟩)])).trans (by simp only [Enc.frz]; rfl)) ?_
  refine bindE hS (fun z84 hz84 hS => ?_)
  refine zlOp (d := some 34) (op := (.app 32 1 24 (.tmp 30) (.tmp 33))) (g := none) (v := (.r (.msl 64 1 0 z84.length))) (ups := [(64, ⟨1, some (.own 32 1 ((eSl (eInt .i64)).cells z84))⟩)]) (j := 5) rfl (by kernel_rfl) (by kernel_rfl) (ev_app (eSl (eInt .i64)) (b := 64) (g := 0) (n := p250.length) (xs := p250) (ys := [z83]) ((congrArg (asL _) (by kernel_rfl : ρof _ (.tmp 33) = (.r (.msl 272 1 0 (([z83] : List (List Int)).length))))).trans (as_whole (eSl (eInt .i64)) (e := 32) (k := 1) (xs := [z83]) (by kernel_rfl) rfl rfl)) rfl (by kernel_rfl) rfl (by kernel_rfl) rfl hz84) ?_
  refine zlRun (n := 1) (j := 6) rfl (by kernel_rfl) ?_
  refine zlEnd (by kernel_rfl) ?_
  refine zkBlk ?_
  refine zkSeq ?_
  refine zrReg ?_
  refine zlRun (n := 2) (j := 2) rfl (by kernel_rfl) ?_
  refine zlEnd (by kernel_rfl) ?_
  refine zkNil ?_
  exact endQ hS hQ (finL_n (by show keepSt _ _ _ _ = _; kernel_rfl))
def f4_l14_j15_J (a1 : List (List Int)) (a2 : List GRow) (a3 : Int) (p247 : List (List Int)) (p248 : Int) (p249 : Bool) : St := ⟨(up (up (up (up (up (up (up (up (up (fun _ => .un) 27 (.d (.bool p249))) 26 (.d (.int .i64 p248))) 25 (.d (.int .i64 (a1.length : Int)))) 24 (.d (.sl a1.length ((eSl (eInt .i64)).cells a1)))) 8 (.r (.msl 72 0 0 (([] : List GRow).length)))) 7 (.r (.msl 64 0 0 p247.length))) 2 (.d (.int .i64 a3))) 1 (.d (.sl a2.length (e_GRow.cells a2)))) 0 (.d (.sl a1.length ((eSl (eInt .i64)).cells a1)))), (up (up (hB fun _ => 0) 72 ⟨0, some (.own 35 2 (e_GRow.cells ([])))⟩) 64 ⟨0, some (.own 32 1 ((eSl (eInt .i64)).cells p247))⟩)⟩
noncomputable def f4_l14_j15 (a1 : List (List Int)) (a2 : List GRow) (a3 : Int) (p247 : List (List Int)) (p248 : Int) (p249 : Bool) : Option (((List (List Int)) × Int) ⊕ (((List (List Int))))) := (bif p249 then (f4_l14_j16 a1 a2 a3 p247 p248) else (some (.inr p247)))
theorem f4_l14_j15_ok {base : Orc} {d : Nat} (hd : 7 ≤ d) (a1 : List (List Int)) (a2 : List GRow) (a3 : Int) {r : ((List (List Int)) × Int) ⊕ (((List (List Int))))} {Q : PX → St → Prop} (hQ : ∀ e st', finL (f4_l14_H a1 a2 a3) (f4_l14_X a1 a2 a3) r e st' → Q e st') (p247 : List (List Int)) (p248 : Int) (p249 : Bool) (hS : f4_l14_j15 a1 a2 a3 p247 p248 p249 = some r) {st : St} (he : keepSt [0, 1, 2, 7, 8, 24, 25, 26, 27] [(64, .id 64), (72, .id 72)] [] st = f4_l14_j15_J a1 a2 a3 p247 p248 p249) : ZR (lev codes base (d - 1)) Q c4_16 [] st := by
  refine zrKeep he ?_
  unfold f4_l14_j15 at hS
  refine zrSeq ?_
  refine zrSplit 27 p249 (by kernel_rfl) (fun hc => ?_) (fun hc => ?_)
  · replace hS := cond_t hc hS
    refine zrCondT (by kernel_rfl) ?_
    refine zrSkip ?_
    refine zkSeq ?_
    exact f4_l14_j16_ok hd a1 a2 a3 hQ p247 p248 hS (by kernel_rfl)
  · replace hS := cond_f hc hS
    refine zrCondF (by kernel_rfl) ?_
    refine zrKeep (J := f4_l14_e0_J a1 a2 a3 p247) (by kernel_rfl) ?_
    refine zrExit ?_
    refine zkSeqX ?_
    refine zkNil ?_
    exact endQ hS hQ (finL_x (by intro h; cases h) (by show _ = _ ∧ _ = _; exact ⟨rfl, rfl⟩))
noncomputable def f4_l14 (a1 : List (List Int)) (a2 : List GRow) (a3 : Int) (x : (List (List Int)) × Int) : Option (((List (List Int)) × Int) ⊕ (((List (List Int))))) := (bif (decide (x.2 < (a1.length : Int))) then (f4_l14_j15 a1 a2 a3 x.1 x.2 true) else (f4_l14_j15 a1 a2 a3 x.1 x.2 false))
theorem f4_l14_ok {base : Orc} {d : Nat} (hd : 7 ≤ d) (a1 : List (List Int)) (a2 : List GRow) (a3 : Int) {r : ((List (List Int)) × Int) ⊕ (((List (List Int))))} {Q : PX → St → Prop} (hQ : ∀ e st', finL (f4_l14_H a1 a2 a3) (f4_l14_X a1 a2 a3) r e st' → Q e st') {x : (List (List Int)) × Int} (hS : f4_l14 a1 a2 a3 x = some r) {st : St} (he : f4_l14_H a1 a2 a3 x st) : ZR (lev codes base (d - 1)) Q c4_17 [] st := by
  refine zrKeep he ?_
  unfold f4_l14 at hS
  refine zrSeq ?_
  refine zrReg ?_
  refine zlBool (d := 27) (op := (.cmpI .lss (.tmp 26) (.tmp 25))) (g := none) (j := 1) (decide (x.2 < (a1.length : Int))) rfl (by kernel_rfl) (by kernel_rfl) (by kernel_rfl) (fun hc => ?_) (fun hc => ?_)
  · replace hS := cond_t hc hS
    refine zlEnd (by kernel_rfl) ?_
    refine zkSeq ?_
    exact f4_l14_j15_ok hd a1 a2 a3 hQ x.1 x.2 true hS (by kernel_rfl)
  · replace hS := cond_f hc hS
    refine zlEnd (by kernel_rfl) ?_
    refine zkSeq ?_
    exact f4_l14_j15_ok hd a1 a2 a3 hQ x.1 x.2 false hS (by kernel_rfl)
noncomputable def f4 (a1 : List (List Int)) (a2 : List GRow) (a3 : Int) : Option (Bool) := ((loopO (f4_l14 a1 a2 a3) ([], 0)).bind fun z85 => (f4_j0 a1 a2 a3 z85))
theorem f4_ok (base : Orc) (d : Nat) (hd : 7 ≤ d) (a1 : List (List Int)) (a2 : List GRow) (a3 : Int) (r : Bool) (hS : f4 a1 a2 a3 = some r) : lev codes base d 4 [(.d (.sl a1.length ((eSl (eInt .i64)).cells a1))), (.d (.sl a2.length (e_GRow.cells a2))), (.d (.int .i64 a3))] [] = some ((.d (.bool r)), []) := by
  refine lev_go codes4 rfl rfl (Nat.le_trans (Nat.le_of_ble_eq_true rfl) hd) fun Q hQ => ?_
  unfold f4 at hS
  show ZR _ Q c4_b [] _
  replace hQ : ∀ e st', f4_Q r e st' → Q e st' := hQ
  refine zrSeq ?_
  refine zrReg ?_
  refine zlRun (n := 1) (j := 1) rfl (by kernel_rfl) ?_
  refine zlEnd (by kernel_rfl) ?_
  refine zkSeq ?_
  refine zrSeq ?_
  refine zrReg ?_
  refine zlRun (n := 1) (j := 1) rfl (by kernel_rfl) ?_
  refine zlEnd (by kernel_rfl) ?_
  refine zkSeq ?_
  refine zrSeq ?_
  refine zrReg ?_
  refine zlRun (n := 1) (j := 1) rfl (by kernel_rfl) ?_
  refine zlEnd (by kernel_rfl) ?_
  refine zkSeq ?_
  refine zrSeq ?_
  refine zrSeq ?_
  refine zrReg ?_
  refine zlRun (n := 3) (j := 3) rfl (by kernel_rfl) ?_
  refine zlEnd (by kernel_rfl) ?_
  refine zkSeq ?_
  refine zrBlk ?_
  refine bindE hS (fun z85 hz85 hS => ?_)
  refine zrLoop (f4_l14_H a1 a2 a3) (f4_l14_X a1 a2 a3) (fun x st r Q h0 hS hQ => f4_l14_ok hd a1 a2 a3 hQ hS h0) (x := ([], 0)) (z := z85) (by show keepSt _ _ _ _ = _; kernel_rfl) hz85 ?_
  intro e st' _ hX
  obtain ⟨rfl, rfl⟩ : _ ∧ _ := hX
  refine zkBlkX ?_
  refine zkSeq ?_
  exact f4_j0_ok hd a1 a2 a3 hQ z85 hS (by kernel_rfl)
end Go.Proofs.Ytnnnfncebpkaoaa.Pm
