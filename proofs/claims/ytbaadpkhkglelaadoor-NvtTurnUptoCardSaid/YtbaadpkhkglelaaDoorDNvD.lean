/- Typed functions, and that the codes are these. Printed by dec.py. -/
import Derived.Test.YtbaadpkhkglelaaDoorDNvC
namespace Go.Proofs.YtbaadpkhkglelaaDoor.Pm
set_option maxRecDepth 1000000
set_option maxHeartbeats 20000000
set_option linter.unusedVariables false
/- farwriter/nvt.Flush -/
def f8_fin (p1 : List UInt8) : St := ⟨(up (fun _ => .un) 2 (.d (.str p1))), (hB fun _ => 0)⟩
theorem f8_out (p1 : List UInt8) : outR (f8_fin p1) 0 c8.res = some ((.d (.str p1)), []) := by
  kernel_rfl
def f8_Q (r : (List UInt8)) (e : PX) (st : St) : Prop := DoneF c8 0 ((.d (.str r)), []) e st
noncomputable def f8 (a1 : Bool) : Option ((List UInt8)) := (bif a1 then (some [13]) else (some []))
theorem f8_ok (d : Nat) (hd : 1 ≤ d) (a1 : Bool) (r : (List UInt8)) (hS : f8 a1 = some r) : lev codes baseL d 8 [(.d (.bool a1))] [] = some ((.d (.str r)), []) := by
  refine lev_go codes8 rfl rfl (Nat.le_trans (Nat.le_of_ble_eq_true rfl) hd) fun Q hQ => ?_
  unfold f8 at hS
  show ZR _ Q c8_b [] _
  replace hQ : ∀ e st', f8_Q r e st' → Q e st' := hQ
  refine zrSeq ?_
  refine zrReg ?_
  refine zlRun (n := 1) (j := 1) rfl (by kernel_rfl) ?_
  refine zlEnd (by kernel_rfl) ?_
  refine zkSeq ?_
  refine zrSeq ?_
  refine zrSeq ?_
  refine zrReg ?_
  refine zlRun (n := 1) (j := 1) rfl (by kernel_rfl) ?_
  refine zlEnd (by kernel_rfl) ?_
  refine zkSeq ?_
  refine zrSplit 3 a1 (by kernel_rfl) (fun hc => ?_) (fun hc => ?_)
  · replace hS := cond_t hc hS
    refine zrCondT (by kernel_rfl) ?_
    refine zrSeq ?_
    refine zrReg ?_
    refine zlRun (n := 1) (j := 1) rfl (by kernel_rfl) ?_
    refine zlEnd (by kernel_rfl) ?_
    refine zkSeq ?_
    refine zrRet ?_
    refine zkSeqR ?_
    refine zkNil ?_
    exact endQ hS hQ (fRet ((congrArg (fun s => outR s 0 c8.res) (by kernel_rfl : finSt c8.fin _ = f8_fin [13])).trans (f8_out [13])))
  · replace hS := cond_f hc hS
    refine zrCondF (by kernel_rfl) ?_
    refine zrSkip ?_
    refine zkSeq ?_
    refine zrSeq ?_
    refine zrReg ?_
    refine zlRun (n := 1) (j := 1) rfl (by kernel_rfl) ?_
    refine zlEnd (by kernel_rfl) ?_
    refine zkSeq ?_
    refine zrRet ?_
    refine zkNil ?_
    exact endQ hS hQ (fRet ((congrArg (fun s => outR s 0 c8.res) (by kernel_rfl : finSt c8.fin _ = f8_fin [])).trans (f8_out [])))
/- farwriter/nvt.In -/
def f4_fin (p90 : Bool) (p91 : List UInt8) : St := ⟨(up (up (fun _ => .un) 7 (.d (.str p91))) 6 (.d (.bool p90))), (hB fun _ => 0)⟩
theorem f4_out (p90 : Bool) (p91 : List UInt8) : outR (f4_fin p90 p91) 0 c4.res = some ((.tup [(.d (.bool p90)), (.d (.str p91))]), []) := by
  kernel_rfl
def f4_Q (r : Bool × (List UInt8)) (e : PX) (st : St) : Prop := DoneF c4 0 ((.tup [(.d (.bool r.1)), (.d (.str r.2))]), []) e st
def f4_l1_J (a1 : Bool) (a2 : List UInt8) (a3 : Bool) (x : Bool × (List UInt8) × Int) : St := ⟨(up (up (up (up (up (fun _ => .un) 18 (.d (.int .i64 x.2.2))) 17 (.d (.int .i64 (a2.length : Int)))) 8 (.r (.msl 72 0 0 x.2.1.length))) 1 (.d (.str a2))) 0 (.d (.bool x.1))), (up (hB fun _ => 0) 72 ⟨0, some (.own 5 1 (eU8.cells x.2.1))⟩)⟩
def f4_l1_H (a1 : Bool) (a2 : List UInt8) (a3 : Bool) (x : Bool × (List UInt8) × Int) (st : St) : Prop := keepSt [0, 1, 8, 17, 18] [(72, .id 72)] [] st = f4_l1_J a1 a2 a3 x
def f4_l1_e0_J (a1 : Bool) (a2 : List UInt8) (a3 : Bool) (p88 : Bool) (p89 : List UInt8) : St := ⟨(up (up (fun _ => .un) 8 (.r (.msl 72 0 0 p89.length))) 0 (.d (.bool p88))), (up (hB fun _ => 0) 72 ⟨0, some (.own 5 1 (eU8.cells p89))⟩)⟩
def f4_l1_X (a1 : Bool) (a2 : List UInt8) (a3 : Bool) (z : (Bool × (List UInt8))) (e : PX) (st : St) : Prop := e = .exit 0 ∧ st = f4_l1_e0_J a1 a2 a3 z.1 z.2
def f4_l1_j4_J (a1 : Bool) (a2 : List UInt8) (a3 : Bool) (p116 : Bool) (p117 : List UInt8) (p118 : UInt8) (p119 : Int) : St := ⟨(up (up (up (up (up (up (fun _ => .un) 18 (.d (.int .i64 p119))) 17 (.d (.int .i64 (a2.length : Int)))) 10 (.d (.int .u8 (p118.toNat : Int)))) 8 (.r (.msl 72 0 0 p117.length))) 1 (.d (.str a2))) 0 (.d (.bool p116))), (up (hB fun _ => 0) 72 ⟨0, some (.own 5 1 (eU8.cells p117))⟩)⟩
noncomputable def f4_l1_j4 (a1 : Bool) (a2 : List UInt8) (a3 : Bool) (p116 : Bool) (p117 : List UInt8) (p118 : UInt8) (p119 : Int) : Option ((Bool × (List UInt8) × Int) ⊕ ((Bool × (List UInt8)))) := (bif (decide ((p118.toNat : Int) = 13)) then (some (.inl (true, p117, (IntKind.i64.wrap (p119 + 1))))) else ((app? 1 p117 ([p118] : List UInt8)).bind fun z24 => (some (.inl (p116, z24, (IntKind.i64.wrap (p119 + 1)))))))
theorem f4_l1_j4_ok {d : Nat} (hd : 2 ≤ d) (a1 : Bool) (a2 : List UInt8) (a3 : Bool) {r : (Bool × (List UInt8) × Int) ⊕ ((Bool × (List UInt8)))} {Q : PX → St → Prop} (hQ : ∀ e st', finL (f4_l1_H a1 a2 a3) (f4_l1_X a1 a2 a3) r e st' → Q e st') (p116 : Bool) (p117 : List UInt8) (p118 : UInt8) (p119 : Int) (hS : f4_l1_j4 a1 a2 a3 p116 p117 p118 p119 = some r) {st : St} (he : keepSt [0, 1, 8, 10, 17, 18] [(72, .id 72)] [] st = f4_l1_j4_J a1 a2 a3 p116 p117 p118 p119) : ZR (lev codes baseL (d - 1)) Q c4_1 [.blk 1, .seq c4_2] st := by
  refine zrKeep he ?_
  unfold f4_l1_j4 at hS
  refine zrSeq ?_
  refine zrReg ?_
  refine zlRun (n := 1) (j := 1) rfl (by kernel_rfl) ?_
  refine zlBool (d := 40) (op := (.cmpI .eql (.tmp 39) (.const (.int .u8 13)))) (g := none) (j := 2) (decide ((p118.toNat : Int) = 13)) rfl (by kernel_rfl) (by kernel_rfl) (by kernel_rfl) (fun hc => ?_) (fun hc => ?_)
  · replace hS := cond_t hc hS
    refine zlEnd (by kernel_rfl) ?_
    refine zkSeq ?_
    refine zrCondT (by kernel_rfl) ?_
    refine zrReg ?_
    refine zlRun (n := 1) (j := 1) rfl (by kernel_rfl) ?_
    refine zlEnd (by kernel_rfl) ?_
    refine zkBlk ?_
    refine zkSeq ?_
    refine zrReg ?_
    refine zlRun (n := 2) (j := 2) rfl (by kernel_rfl) ?_
    refine zlEnd (by kernel_rfl) ?_
    refine zkNil ?_
    exact endQ hS hQ (finL_n (by show keepSt _ _ _ _ = _; kernel_rfl))
  · replace hS := cond_f hc hS
    refine zlEnd (by kernel_rfl) ?_
    refine zkSeq ?_
    refine zrCondF (by kernel_rfl) ?_
    refine zrReg ?_
    refine zlRun (n := 3) (j := 3) rfl (by kernel_rfl) ?_
    refine bindE hS (fun z24 hz24 hS => ?_)
    refine zlOp (d := some 44) (op := (.app 5 1 1 (.tmp 41) (.tmp 43))) (g := none) (v := (.r (.msl 72 1 0 z24.length))) (ups := [(72, ⟨1, some (.own 5 1 (eU8.cells z24))⟩)]) (j := 4) rfl (by kernel_rfl) (by kernel_rfl) (ev_app eU8 (b := 72) (g := 0) (n := p117.length) (xs := p117) (ys := [p118]) ((congrArg (asL _) (by kernel_rfl : ρof _ (.tmp 43) = (.r (.msl 352 1 0 (([p118] : List UInt8).length))))).trans (as_whole eU8 (e := 5) (k := 1) (xs := [p118]) (by kernel_rfl) rfl rfl)) rfl (by kernel_rfl) rfl (by kernel_rfl) rfl hz24) ?_
    refine zlRun (n := 1) (j := 5) rfl (by kernel_rfl) ?_
    refine zlEnd (by kernel_rfl) ?_
    refine zkBlk ?_
    refine zkSeq ?_
    refine zrReg ?_
    refine zlRun (n := 2) (j := 2) rfl (by kernel_rfl) ?_
    refine zlEnd (by kernel_rfl) ?_
    refine zkNil ?_
    exact endQ hS hQ (finL_n (by show keepSt _ _ _ _ = _; kernel_rfl))
def f4_l1_j3_J (a1 : Bool) (a2 : List UInt8) (a3 : Bool) (p100 : Bool) (p101 : List UInt8) (p102 : Int) : St := ⟨(up (up (up (up (up (fun _ => .un) 18 (.d (.int .i64 p102))) 17 (.d (.int .i64 (a2.length : Int)))) 8 (.r (.msl 72 0 0 p101.length))) 1 (.d (.str a2))) 0 (.d (.bool p100))), (up (hB fun _ => 0) 72 ⟨0, some (.own 5 1 (eU8.cells p101))⟩)⟩
noncomputable def f4_l1_j3 (a1 : Bool) (a2 : List UInt8) (a3 : Bool) (p100 : Bool) (p101 : List UInt8) (p102 : Int) : Option ((Bool × (List UInt8) × Int) ⊕ ((Bool × (List UInt8)))) := ((idx a2 p102).bind fun z20 => (bif p100 then (bif (decide ((z20.toNat : Int) = 10)) then ((app? 1 p101 ([10] : List UInt8)).bind fun z25 => (some (.inl (false, z25, (IntKind.i64.wrap (p102 + 1)))))) else (bif (decide ((z20.toNat : Int) = 0)) then ((app? 1 p101 ([13] : List UInt8)).bind fun z26 => (some (.inl (false, z26, (IntKind.i64.wrap (p102 + 1)))))) else ((app? 1 p101 ([13] : List UInt8)).bind fun z27 => (f4_l1_j4 a1 a2 a3 false z27 z20 p102)))) else (f4_l1_j4 a1 a2 a3 p100 p101 z20 p102)))
theorem f4_l1_j3_ok {d : Nat} (hd : 2 ≤ d) (a1 : Bool) (a2 : List UInt8) (a3 : Bool) {r : (Bool × (List UInt8) × Int) ⊕ ((Bool × (List UInt8)))} {Q : PX → St → Prop} (hQ : ∀ e st', finL (f4_l1_H a1 a2 a3) (f4_l1_X a1 a2 a3) r e st' → Q e st') (p100 : Bool) (p101 : List UInt8) (p102 : Int) (hS : f4_l1_j3 a1 a2 a3 p100 p101 p102 = some r) {st : St} (he : keepSt [0, 1, 8, 17, 18] [(72, .id 72)] [] st = f4_l1_j3_J a1 a2 a3 p100 p101 p102) : ZR (lev codes baseL (d - 1)) Q c4_3 [] st := by
  refine zrKeep he ?_
  unfold f4_l1_j3 at hS
  refine zrSeq ?_
  refine zrBlk ?_
  refine zrSeq ?_
  refine zrReg ?_
  refine zlRun (n := 2) (j := 2) rfl (by kernel_rfl) ?_
  refine zlEnd (by kernel_rfl) ?_
  refine zkSeq ?_
  refine zrSeq ?_
  refine zrReg ?_
  refine zlRun (n := 2) (j := 2) rfl (by kernel_rfl) ?_
  refine bindE hS (fun z20 hz20 hS => ?_)
  refine zlOp (d := some 23) (op := (.ixStr (.tmp 21) (.tmp 22))) (g := none) (v := (.d (.int .u8 (z20.toNat : Int)))) (ups := []) (j := 3) rfl (by kernel_rfl) (by kernel_rfl) (ev_ixStr (kk := .i64) (s := a2) (j := p102) (by kernel_rfl) (by kernel_rfl) hz20) ?_
  refine zlRun (n := 1) (j := 4) rfl (by kernel_rfl) ?_
  refine zlEnd (by kernel_rfl) ?_
  refine zkSeq ?_
  refine zrSeq ?_
  refine zrSeq ?_
  refine zrReg ?_
  refine zlRun (n := 1) (j := 1) rfl (by kernel_rfl) ?_
  refine zlEnd (by kernel_rfl) ?_
  refine zkSeq ?_
  refine zrSplit 24 p100 (by kernel_rfl) (fun hc => ?_) (fun hc => ?_)
  · replace hS := cond_t hc hS
    refine zrCondT (by kernel_rfl) ?_
    refine zrSeq ?_
    refine zrReg ?_
    refine zlRun (n := 1) (j := 1) rfl (by kernel_rfl) ?_
    refine zlEnd (by kernel_rfl) ?_
    refine zkSeq ?_
    refine zrSeq ?_
    refine zrSeq ?_
    refine zrReg ?_
    refine zlRun (n := 1) (j := 1) rfl (by kernel_rfl) ?_
    refine zlEnd (by kernel_rfl) ?_
    refine zkSeq ?_
    refine zrBlk ?_
    refine zrSeq ?_
    refine zrReg ?_
    refine zlBool (d := 27) (op := (.cmpI .eql (.tmp 25) (.const (.int .u8 10)))) (g := none) (j := 1) (decide ((z20.toNat : Int) = 10)) rfl (by kernel_rfl) (by kernel_rfl) (by kernel_rfl) (fun hc => ?_) (fun hc => ?_)
    · replace hS := cond_t hc hS
      refine zlRun (n := 1) (j := 2) rfl (by kernel_rfl) ?_
      refine zlEnd (by kernel_rfl) ?_
      refine zkSeq ?_
      refine zrCondT (by kernel_rfl) ?_
      refine zrSeq ?_
      refine zrReg ?_
      refine zlRun (n := 2) (j := 2) rfl (by kernel_rfl) ?_
      refine bindE hS (fun z25 hz25 hS => ?_)
      refine zlOp (d := some 30) (op := (.app 5 1 1 (.tmp 28) (.tmp 29))) (g := none) (v := (.r (.msl 72 1 0 z25.length))) (ups := [(72, ⟨1, some (.own 5 1 (eU8.cells z25))⟩)]) (j := 3) rfl (by kernel_rfl) (by kernel_rfl) (ev_app eU8 (b := 72) (g := 0) (n := p101.length) (xs := p101) (ys := [10]) ((congrArg (asL _) (by kernel_rfl : ρof _ (.tmp 29) = (.r (.msl 240 1 0 (([10] : List UInt8).length))))).trans (as_whole eU8 (e := 5) (k := 1) (xs := [10]) (by kernel_rfl) rfl rfl)) rfl (by kernel_rfl) rfl (by kernel_rfl) rfl hz25) ?_
      refine zlRun (n := 1) (j := 4) rfl (by kernel_rfl) ?_
      refine zlEnd (by kernel_rfl) ?_
      refine zkSeq ?_
      refine zrExit ?_
      refine zkBlkY rfl ?_
      refine zkSeqX ?_
      refine zkSeqX ?_
      refine zkBlkX ?_
      refine zkSeq ?_
      refine zrReg ?_
      refine zlRun (n := 2) (j := 2) rfl (by kernel_rfl) ?_
      refine zlEnd (by kernel_rfl) ?_
      refine zkNil ?_
      exact endQ hS hQ (finL_n (by show keepSt _ _ _ _ = _; kernel_rfl))
    · replace hS := cond_f hc hS
      refine zlRun (n := 1) (j := 2) rfl (by kernel_rfl) ?_
      refine zlEnd (by kernel_rfl) ?_
      refine zkSeq ?_
      refine zrCondF (by kernel_rfl) ?_
      refine zrSeq ?_
      refine zrReg ?_
      refine zlBool (d := 32) (op := (.cmpI .eql (.tmp 25) (.const (.int .u8 0)))) (g := none) (j := 1) (decide ((z20.toNat : Int) = 0)) rfl (by kernel_rfl) (by kernel_rfl) (by kernel_rfl) (fun hc => ?_) (fun hc => ?_)
      · replace hS := cond_t hc hS
        refine zlRun (n := 1) (j := 2) rfl (by kernel_rfl) ?_
        refine zlEnd (by kernel_rfl) ?_
        refine zkSeq ?_
        refine zrCondT (by kernel_rfl) ?_
        refine zrSeq ?_
        refine zrReg ?_
        refine zlRun (n := 2) (j := 2) rfl (by kernel_rfl) ?_
        refine bindE hS (fun z26 hz26 hS => ?_)
        refine zlOp (d := some 35) (op := (.app 5 1 1 (.tmp 33) (.tmp 34))) (g := none) (v := (.r (.msl 72 1 0 z26.length))) (ups := [(72, ⟨1, some (.own 5 1 (eU8.cells z26))⟩)]) (j := 3) rfl (by kernel_rfl) (by kernel_rfl) (ev_app eU8 (b := 72) (g := 0) (n := p101.length) (xs := p101) (ys := [13]) ((congrArg (asL _) (by kernel_rfl : ρof _ (.tmp 34) = (.r (.msl 280 1 0 (([13] : List UInt8).length))))).trans (as_whole eU8 (e := 5) (k := 1) (xs := [13]) (by kernel_rfl) rfl rfl)) rfl (by kernel_rfl) rfl (by kernel_rfl) rfl hz26) ?_
        refine zlRun (n := 1) (j := 4) rfl (by kernel_rfl) ?_
        refine zlEnd (by kernel_rfl) ?_
        refine zkSeq ?_
        refine zrExit ?_
        refine zkBlkY rfl ?_
        refine zkSeqX ?_
        refine zkSeqX ?_
        refine zkBlkX ?_
        refine zkSeq ?_
        refine zrReg ?_
        refine zlRun (n := 2) (j := 2) rfl (by kernel_rfl) ?_
        refine zlEnd (by kernel_rfl) ?_
        refine zkNil ?_
        exact endQ hS hQ (finL_n (by show keepSt _ _ _ _ = _; kernel_rfl))
      · replace hS := cond_f hc hS
        refine zlRun (n := 1) (j := 2) rfl (by kernel_rfl) ?_
        refine zlEnd (by kernel_rfl) ?_
        refine zkSeq ?_
        refine zrCondF (by kernel_rfl) ?_
        refine zrSkip ?_
        refine zkBlk ?_
        refine zkSeq ?_
        refine zrReg ?_
        refine zlRun (n := 2) (j := 2) rfl (by kernel_rfl) ?_
        refine bindE hS (fun z27 hz27 hS => ?_)
        refine zlOp (d := some 38) (op := (.app 5 1 1 (.tmp 36) (.tmp 37))) (g := none) (v := (.r (.msl 72 1 0 z27.length))) (ups := [(72, ⟨1, some (.own 5 1 (eU8.cells z27))⟩)]) (j := 3) rfl (by kernel_rfl) (by kernel_rfl) (ev_app eU8 (b := 72) (g := 0) (n := p101.length) (xs := p101) (ys := [13]) ((congrArg (asL _) (by kernel_rfl : ρof _ (.tmp 37) = (.r (.msl 304 1 0 (([13] : List UInt8).length))))).trans (as_whole eU8 (e := 5) (k := 1) (xs := [13]) (by kernel_rfl) rfl rfl)) rfl (by kernel_rfl) rfl (by kernel_rfl) rfl hz27) ?_
        refine zlRun (n := 1) (j := 4) rfl (by kernel_rfl) ?_
        refine zlEnd (by kernel_rfl) ?_
        refine zkSeq ?_
        exact f4_l1_j4_ok hd a1 a2 a3 hQ false z27 z20 p102 hS (by kernel_rfl)
  · replace hS := cond_f hc hS
    refine zrCondF (by kernel_rfl) ?_
    refine zrSkip ?_
    refine zkSeq ?_
    exact f4_l1_j4_ok hd a1 a2 a3 hQ p100 p101 z20 p102 hS (by kernel_rfl)
def f4_l1_j2_J (a1 : Bool) (a2 : List UInt8) (a3 : Bool) (p96 : Bool) (p97 : List UInt8) (p98 : Int) (p99 : Bool) : St := ⟨(up (up (up (up (up (up (fun _ => .un) 19 (.d (.bool p99))) 18 (.d (.int .i64 p98))) 17 (.d (.int .i64 (a2.length : Int)))) 8 (.r (.msl 72 0 0 p97.length))) 1 (.d (.str a2))) 0 (.d (.bool p96))), (up (hB fun _ => 0) 72 ⟨0, some (.own 5 1 (eU8.cells p97))⟩)⟩
noncomputable def f4_l1_j2 (a1 : Bool) (a2 : List UInt8) (a3 : Bool) (p96 : Bool) (p97 : List UInt8) (p98 : Int) (p99 : Bool) : Option ((Bool × (List UInt8) × Int) ⊕ ((Bool × (List UInt8)))) := (bif p99 then (f4_l1_j3 a1 a2 a3 p96 p97 p98) else (some (.inr (p96, p97))))
theorem f4_l1_j2_ok {d : Nat} (hd : 2 ≤ d) (a1 : Bool) (a2 : List UInt8) (a3 : Bool) {r : (Bool × (List UInt8) × Int) ⊕ ((Bool × (List UInt8)))} {Q : PX → St → Prop} (hQ : ∀ e st', finL (f4_l1_H a1 a2 a3) (f4_l1_X a1 a2 a3) r e st' → Q e st') (p96 : Bool) (p97 : List UInt8) (p98 : Int) (p99 : Bool) (hS : f4_l1_j2 a1 a2 a3 p96 p97 p98 p99 = some r) {st : St} (he : keepSt [0, 1, 8, 17, 18, 19] [(72, .id 72)] [] st = f4_l1_j2_J a1 a2 a3 p96 p97 p98 p99) : ZR (lev codes baseL (d - 1)) Q c4_4 [] st := by
  refine zrKeep he ?_
  unfold f4_l1_j2 at hS
  refine zrSeq ?_
  refine zrSplit 19 p99 (by kernel_rfl) (fun hc => ?_) (fun hc => ?_)
  · replace hS := cond_t hc hS
    refine zrCondT (by kernel_rfl) ?_
    refine zrSkip ?_
    refine zkSeq ?_
    exact f4_l1_j3_ok hd a1 a2 a3 hQ p96 p97 p98 hS (by kernel_rfl)
  · replace hS := cond_f hc hS
    refine zrCondF (by kernel_rfl) ?_
    refine zrKeep (J := f4_l1_e0_J a1 a2 a3 p96 p97) (by kernel_rfl) ?_
    refine zrExit ?_
    refine zkSeqX ?_
    refine zkNil ?_
    exact endQ hS hQ (finL_x (by intro h; cases h) (by show _ = _ ∧ _ = _; exact ⟨rfl, rfl⟩))
noncomputable def f4_l1 (a1 : Bool) (a2 : List UInt8) (a3 : Bool) (x : Bool × (List UInt8) × Int) : Option ((Bool × (List UInt8) × Int) ⊕ ((Bool × (List UInt8)))) := (bif (decide (x.2.2 < (a2.length : Int))) then (f4_l1_j2 a1 a2 a3 x.1 x.2.1 x.2.2 true) else (f4_l1_j2 a1 a2 a3 x.1 x.2.1 x.2.2 false))
theorem f4_l1_ok {d : Nat} (hd : 2 ≤ d) (a1 : Bool) (a2 : List UInt8) (a3 : Bool) {r : (Bool × (List UInt8) × Int) ⊕ ((Bool × (List UInt8)))} {Q : PX → St → Prop} (hQ : ∀ e st', finL (f4_l1_H a1 a2 a3) (f4_l1_X a1 a2 a3) r e st' → Q e st') {x : Bool × (List UInt8) × Int} (hS : f4_l1 a1 a2 a3 x = some r) {st : St} (he : f4_l1_H a1 a2 a3 x st) : ZR (lev codes baseL (d - 1)) Q c4_5 [] st := by
  refine zrKeep he ?_
  unfold f4_l1 at hS
  refine zrSeq ?_
  refine zrReg ?_
  refine zlBool (d := 19) (op := (.cmpI .lss (.tmp 18) (.tmp 17))) (g := none) (j := 1) (decide (x.2.2 < (a2.length : Int))) rfl (by kernel_rfl) (by kernel_rfl) (by kernel_rfl) (fun hc => ?_) (fun hc => ?_)
  · replace hS := cond_t hc hS
    refine zlEnd (by kernel_rfl) ?_
    refine zkSeq ?_
    exact f4_l1_j2_ok hd a1 a2 a3 hQ x.1 x.2.1 x.2.2 true hS (by kernel_rfl)
  · replace hS := cond_f hc hS
    refine zlEnd (by kernel_rfl) ?_
    refine zkSeq ?_
    exact f4_l1_j2_ok hd a1 a2 a3 hQ x.1 x.2.1 x.2.2 false hS (by kernel_rfl)
def f4_j0_J (a1 : Bool) (a2 : List UInt8) (a3 : Bool) : St := ⟨(up (up (fun _ => .un) 1 (.d (.str a2))) 0 (.d (.bool a1))), (hB fun _ => 0)⟩
noncomputable def f4_j0 (a1 : Bool) (a2 : List UInt8) (a3 : Bool) : Option (Bool × (List UInt8)) := ((loopO (f4_l1 a1 a2 a3) (a1, [], 0)).bind fun z28 => (some (z28.1, z28.2)))
theorem f4_j0_ok {d : Nat} (hd : 2 ≤ d) (a1 : Bool) (a2 : List UInt8) (a3 : Bool) {r : Bool × (List UInt8)} {Q : PX → St → Prop} (hQ : ∀ e st', f4_Q r e st' → Q e st')  (hS : f4_j0 a1 a2 a3 = some r) {st : St} (he : keepSt [0, 1] [] [] st = f4_j0_J a1 a2 a3) : ZR (lev codes baseL (d - 1)) Q c4_6 [] st := by
  refine zrKeep he ?_
  unfold f4_j0 at hS
  refine zrSeq ?_
  refine zrReg ?_
  refine zlRun (n := 1) (j := 1) rfl (by kernel_rfl) ?_
  refine zlEnd (by kernel_rfl) ?_
  refine zkSeq ?_
  refine zrSeq ?_
  refine zrSeq ?_
  refine zrReg ?_
  refine zlRun (n := 3) (j := 3) rfl (by kernel_rfl) ?_
  refine zlEnd (by kernel_rfl) ?_
  refine zkSeq ?_
  refine zrBlk ?_
  refine bindE hS (fun z28 hz28 hS => ?_)
  refine zrLoop (f4_l1_H a1 a2 a3) (f4_l1_X a1 a2 a3) (fun x st r Q h0 hS hQ => f4_l1_ok hd a1 a2 a3 hQ hS h0) (x := (a1, [], 0)) (z := z28) (by show keepSt _ _ _ _ = _; kernel_rfl) hz28 ?_
  intro e st' _ hX
  obtain ⟨rfl, rfl⟩ : _ ∧ _ := hX
  refine zkBlkX ?_
  refine zkSeq ?_
  refine zrSeq ?_
  refine zrRegD ?_
  refine zdRun (n := 2) (j := 2) (ts := [[], []]) (acc' := [[], []]) rfl (by kernel_rfl) (by kernel_rfl) (by kernel_rfl) ?_
  refine zdOp (d := some 48) (op := (.cvBS (.tmp 47))) (g := none) (v := (.d (.str z28.2))) (ups := []) (j := 3) (t1 := [(72, false)]) (acc' := [[], [], [(72, false)]]) (by kernel_rfl) (by kernel_rfl) rfl (by kernel_rfl) (by kernel_rfl) (ev_cvBS (s := z28.2) ((congrArg (asL _) (by kernel_rfl : ρof _ (.tmp 47) = (.r (.msl 72 0 0 z28.2.length)))).trans (as_whole eU8 (e := 5) (k := 1) (xs := z28.2) (by kernel_rfl) rfl rfl)) rfl) ?_
  refine zdRun (n := 2) (j := 5) (ts := [[], []]) (acc' := [[], [], [(72, false)], [], []]) rfl (by kernel_rfl) (by kernel_rfl) (by kernel_rfl) ?_
  refine zdEnd (by kernel_rfl) (by kernel_rfl) ?_
  refine zkSeq ?_
  refine zrRet ?_
  refine zkNil ?_
  exact endQ hS hQ (fRet ((congrArg (fun s => outR s 0 c4.res) (by kernel_rfl : finSt c4.fin _ = f4_fin z28.1 z28.2)).trans (f4_out z28.1 z28.2)))
noncomputable def f4 (a1 : Bool) (a2 : List UInt8) (a3 : Bool) : Option (Bool × (List UInt8)) := (bif a3 then ((f8 a1).bind fun z29 => ((cat? z29 a2).bind fun z30 => (some (false, z30)))) else (f4_j0 a1 a2 a3 ))
theorem f4_ok (d : Nat) (hd : 2 ≤ d) (a1 : Bool) (a2 : List UInt8) (a3 : Bool) (r : Bool × (List UInt8)) (hS : f4 a1 a2 a3 = some r) : lev codes baseL d 4 [(.d (.bool a1)), (.d (.str a2)), (.d (.bool a3))] [] = some ((.tup [(.d (.bool r.1)), (.d (.str r.2))]), []) := by
  refine lev_go codes4 rfl rfl (Nat.le_trans (Nat.le_of_ble_eq_true rfl) hd) fun Q hQ => ?_
  unfold f4 at hS
  show ZR _ Q c4_b [] _
  replace hQ : ∀ e st', f4_Q r e st' → Q e st' := hQ
  refine zrSeq ?_
  refine zrReg ?_
  refine zlRun (n := 2) (j := 2) rfl (by kernel_rfl) ?_
  refine zlEnd (by kernel_rfl) ?_
  refine zkSeq ?_
  refine zrSeq ?_
  refine zrSeq ?_
  refine zrReg ?_
  refine zlRun (n := 1) (j := 1) rfl (by kernel_rfl) ?_
  refine zlEnd (by kernel_rfl) ?_
  refine zkSeq ?_
  refine zrSplit 11 a3 (by kernel_rfl) (fun hc => ?_) (fun hc => ?_)
  · replace hS := cond_t hc hS
    refine zrCondT (by kernel_rfl) ?_
    refine zrSeq ?_
    refine zrReg ?_
    refine zlRun (n := 1) (j := 1) rfl (by kernel_rfl) ?_
    refine bindE hS (fun z29 hz29 hS => ?_)
    refine zlOp (d := some 13) (op := (.call 8 [(.tmp 12)])) (g := none) (v := (.d (.str z29))) (ups := []) (j := 2) rfl (by kernel_rfl) (by kernel_rfl) (ev_call (args := [(.d (.bool a1))]) (l := [(.d (.bool a1))]) (r := (.d (.str z29))) (by kernel_rfl) (by kernel_rfl) (f8_ok (d - 1) (dpt hd rfl) a1 z29 hz29) (by kernel_rfl) (by kernel_rfl) (by kernel_rfl)) ?_
    refine zlRun (n := 1) (j := 3) rfl (by kernel_rfl) ?_
    refine bindE hS (fun z30 hz30 hS => ?_)
    refine zlOp (d := some 15) (op := (.strO .add (.tmp 13) (.tmp 14))) (g := none) (v := (.d (.str z30))) (ups := []) (j := 4) rfl (by kernel_rfl) (by kernel_rfl) (ev_cat (a := z29) (c := a2) (by kernel_rfl) (by kernel_rfl) hz30) ?_
    refine zlRun (n := 2) (j := 6) rfl (by kernel_rfl) ?_
    refine zlEnd (by kernel_rfl) ?_
    refine zkSeq ?_
    refine zrRet ?_
    refine zkSeqR ?_
    refine zkNil ?_
    exact endQ hS hQ (fRet ((congrArg (fun s => outR s 0 c4.res) (by kernel_rfl : finSt c4.fin _ = f4_fin false z30)).trans (f4_out false z30)))
  · replace hS := cond_f hc hS
    refine zrCondF (by kernel_rfl) ?_
    refine zrSkip ?_
    refine zkSeq ?_
    exact f4_j0_ok hd a1 a2 a3 hQ  hS (by kernel_rfl)
/- farwriter/nvt.Out -/
def f10_fin (p44 : List UInt8) : St := ⟨(up (fun _ => .un) 4 (.d (.str p44))), (hB fun _ => 0)⟩
theorem f10_out (p44 : List UInt8) : outR (f10_fin p44) 0 c10.res = some ((.d (.str p44)), []) := by
  kernel_rfl
def f10_Q (r : (List UInt8)) (e : PX) (st : St) : Prop := DoneF c10 0 ((.d (.str r)), []) e st
def f10_l1_J (a1 : List UInt8) (a2 : Bool) (x : (List UInt8) × Int) : St := ⟨(up (up (up (up (fun _ => .un) 11 (.d (.int .i64 x.2))) 10 (.d (.int .i64 (a1.length : Int)))) 5 (.r (.msl 48 0 0 x.1.length))) 0 (.d (.str a1))), (up (hB fun _ => 0) 48 ⟨0, some (.own 5 1 (eU8.cells x.1))⟩)⟩
def f10_l1_H (a1 : List UInt8) (a2 : Bool) (x : (List UInt8) × Int) (st : St) : Prop := keepSt [0, 5, 10, 11] [(48, .id 48)] [] st = f10_l1_J a1 a2 x
def f10_l1_e0_J (a1 : List UInt8) (a2 : Bool) (p43 : List UInt8) : St := ⟨(up (fun _ => .un) 5 (.r (.msl 48 0 0 p43.length))), (up (hB fun _ => 0) 48 ⟨0, some (.own 5 1 (eU8.cells p43))⟩)⟩
def f10_l1_X (a1 : List UInt8) (a2 : Bool) (z : ((List UInt8))) (e : PX) (st : St) : Prop := e = .exit 0 ∧ st = f10_l1_e0_J a1 a2 z
def f10_l1_j3_J (a1 : List UInt8) (a2 : Bool) (p51 : List UInt8) (p52 : Int) : St := ⟨(up (up (up (up (fun _ => .un) 11 (.d (.int .i64 p52))) 10 (.d (.int .i64 (a1.length : Int)))) 5 (.r (.msl 48 0 0 p51.length))) 0 (.d (.str a1))), (up (hB fun _ => 0) 48 ⟨0, some (.own 5 1 (eU8.cells p51))⟩)⟩
noncomputable def f10_l1_j3 (a1 : List UInt8) (a2 : Bool) (p51 : List UInt8) (p52 : Int) : Option (((List UInt8) × Int) ⊕ (((List UInt8)))) := ((idx a1 p52).bind fun z16 => (bif (decide ((z16.toNat : Int) = 10)) then ((app? 1 p51 ([13, 10] : List UInt8)).bind fun z17 => (some (.inl (z17, (IntKind.i64.wrap (p52 + 1)))))) else (bif (decide ((z16.toNat : Int) = 13)) then ((app? 1 p51 ([13, 0] : List UInt8)).bind fun z18 => (some (.inl (z18, (IntKind.i64.wrap (p52 + 1)))))) else ((idx a1 p52).bind fun z19 => ((app? 1 p51 ([z19] : List UInt8)).bind fun z20 => (some (.inl (z20, (IntKind.i64.wrap (p52 + 1))))))))))
theorem f10_l1_j3_ok {d : Nat} (hd : 1 ≤ d) (a1 : List UInt8) (a2 : Bool) {r : ((List UInt8) × Int) ⊕ (((List UInt8)))} {Q : PX → St → Prop} (hQ : ∀ e st', finL (f10_l1_H a1 a2) (f10_l1_X a1 a2) r e st' → Q e st') (p51 : List UInt8) (p52 : Int) (hS : f10_l1_j3 a1 a2 p51 p52 = some r) {st : St} (he : keepSt [0, 5, 10, 11] [(48, .id 48)] [] st = f10_l1_j3_J a1 a2 p51 p52) : ZR (lev codes baseL (d - 1)) Q c10_1 [] st := by
  refine zrKeep he ?_
  unfold f10_l1_j3 at hS
  refine zrSeq ?_
  refine zrBlk ?_
  refine zrSeq ?_
  refine zrReg ?_
  refine zlRun (n := 2) (j := 2) rfl (by kernel_rfl) ?_
  refine zlEnd (by kernel_rfl) ?_
  refine zkSeq ?_
  refine zrSeq ?_
  refine zrReg ?_
  refine zlRun (n := 2) (j := 2) rfl (by kernel_rfl) ?_
  refine bindE hS (fun z16 hz16 hS => ?_)
  refine zlOp (d := some 16) (op := (.ixStr (.tmp 14) (.tmp 15))) (g := none) (v := (.d (.int .u8 (z16.toNat : Int)))) (ups := []) (j := 3) rfl (by kernel_rfl) (by kernel_rfl) (ev_ixStr (kk := .i64) (s := a1) (j := p52) (by kernel_rfl) (by kernel_rfl) hz16) ?_
  refine zlEnd (by kernel_rfl) ?_
  refine zkSeq ?_
  refine zrBlk ?_
  refine zrSeq ?_
  refine zrReg ?_
  refine zlBool (d := 24) (op := (.cmpI .eql (.tmp 16) (.const (.int .u8 10)))) (g := none) (j := 1) (decide ((z16.toNat : Int) = 10)) rfl (by kernel_rfl) (by kernel_rfl) (by kernel_rfl) (fun hc => ?_) (fun hc => ?_)
  · replace hS := cond_t hc hS
    refine zlRun (n := 1) (j := 2) rfl (by kernel_rfl) ?_
    refine zlEnd (by kernel_rfl) ?_
    refine zkSeq ?_
    refine zrCondT (by kernel_rfl) ?_
    refine zrReg ?_
    refine zlRun (n := 2) (j := 2) rfl (by kernel_rfl) ?_
    refine bindE hS (fun z17 hz17 hS => ?_)
    refine zlOp (d := some 27) (op := (.app 5 1 1 (.tmp 25) (.tmp 26))) (g := none) (v := (.r (.msl 48 1 0 z17.length))) (ups := [(48, ⟨1, some (.own 5 1 (eU8.cells z17))⟩)]) (j := 3) rfl (by kernel_rfl) (by kernel_rfl) (ev_app eU8 (b := 48) (g := 0) (n := p51.length) (xs := p51) (ys := [13, 10]) ((congrArg (asL _) (by kernel_rfl : ρof _ (.tmp 26) = (.r (.msl 216 1 0 (([13, 10] : List UInt8).length))))).trans (as_whole eU8 (e := 5) (k := 1) (xs := [13, 10]) (by kernel_rfl) rfl rfl)) rfl (by kernel_rfl) rfl (by kernel_rfl) rfl hz17) ?_
    refine zlRun (n := 1) (j := 4) rfl (by kernel_rfl) ?_
    refine zlEnd (by kernel_rfl) ?_
    refine zkBlk ?_
    refine zkBlk ?_
    refine zkSeq ?_
    refine zrReg ?_
    refine zlRun (n := 2) (j := 2) rfl (by kernel_rfl) ?_
    refine zlEnd (by kernel_rfl) ?_
    refine zkNil ?_
    exact endQ hS hQ (finL_n (by show keepSt _ _ _ _ = _; kernel_rfl))
  · replace hS := cond_f hc hS
    refine zlRun (n := 1) (j := 2) rfl (by kernel_rfl) ?_
    refine zlEnd (by kernel_rfl) ?_
    refine zkSeq ?_
    refine zrCondF (by kernel_rfl) ?_
    refine zrSeq ?_
    refine zrReg ?_
    refine zlBool (d := 29) (op := (.cmpI .eql (.tmp 16) (.const (.int .u8 13)))) (g := none) (j := 1) (decide ((z16.toNat : Int) = 13)) rfl (by kernel_rfl) (by kernel_rfl) (by kernel_rfl) (fun hc => ?_) (fun hc => ?_)
    · replace hS := cond_t hc hS
      refine zlRun (n := 1) (j := 2) rfl (by kernel_rfl) ?_
      refine zlEnd (by kernel_rfl) ?_
      refine zkSeq ?_
      refine zrCondT (by kernel_rfl) ?_
      refine zrReg ?_
      refine zlRun (n := 2) (j := 2) rfl (by kernel_rfl) ?_
      refine bindE hS (fun z18 hz18 hS => ?_)
      refine zlOp (d := some 32) (op := (.app 5 1 1 (.tmp 30) (.tmp 31))) (g := none) (v := (.r (.msl 48 1 0 z18.length))) (ups := [(48, ⟨1, some (.own 5 1 (eU8.cells z18))⟩)]) (j := 3) rfl (by kernel_rfl) (by kernel_rfl) (ev_app eU8 (b := 48) (g := 0) (n := p51.length) (xs := p51) (ys := [13, 0]) ((congrArg (asL _) (by kernel_rfl : ρof _ (.tmp 31) = (.r (.msl 256 1 0 (([13, 0] : List UInt8).length))))).trans (as_whole eU8 (e := 5) (k := 1) (xs := [13, 0]) (by kernel_rfl) rfl rfl)) rfl (by kernel_rfl) rfl (by kernel_rfl) rfl hz18) ?_
      refine zlRun (n := 1) (j := 4) rfl (by kernel_rfl) ?_
      refine zlEnd (by kernel_rfl) ?_
      refine zkBlk ?_
      refine zkBlk ?_
      refine zkSeq ?_
      refine zrReg ?_
      refine zlRun (n := 2) (j := 2) rfl (by kernel_rfl) ?_
      refine zlEnd (by kernel_rfl) ?_
      refine zkNil ?_
      exact endQ hS hQ (finL_n (by show keepSt _ _ _ _ = _; kernel_rfl))
    · replace hS := cond_f hc hS
      refine zlRun (n := 1) (j := 2) rfl (by kernel_rfl) ?_
      refine zlEnd (by kernel_rfl) ?_
      refine zkSeq ?_
      refine zrCondF (by kernel_rfl) ?_
      refine zrReg ?_
      refine zlRun (n := 3) (j := 3) rfl (by kernel_rfl) ?_
      refine bindE hS (fun z19 hz19 hS => ?_)
      refine zlOp (d := some 20) (op := (.ixStr (.tmp 18) (.tmp 19))) (g := none) (v := (.d (.int .u8 (z19.toNat : Int)))) (ups := []) (j := 4) rfl (by kernel_rfl) (by kernel_rfl) (ev_ixStr (kk := .i64) (s := a1) (j := p52) (by kernel_rfl) (by kernel_rfl) hz19) ?_
      refine zlRun (n := 1) (j := 5) rfl (by kernel_rfl) ?_
      refine bindE hS (fun z20 hz20 hS => ?_)
      refine zlOp (d := some 22) (op := (.app 5 1 1 (.tmp 17) (.tmp 21))) (g := none) (v := (.r (.msl 48 1 0 z20.length))) (ups := [(48, ⟨1, some (.own 5 1 (eU8.cells z20))⟩)]) (j := 6) rfl (by kernel_rfl) (by kernel_rfl) (ev_app eU8 (b := 48) (g := 0) (n := p51.length) (xs := p51) (ys := [z19]) ((congrArg (asL _) (by kernel_rfl : ρof _ (.tmp 21) = (.r (.msl 176 1 0 (([z19] : List UInt8).length))))).trans (as_whole eU8 (e := 5) (k := 1) (xs := [z19]) (by kernel_rfl) rfl rfl)) rfl (by kernel_rfl) rfl (by kernel_rfl) rfl hz20) ?_
      refine zlRun (n := 1) (j := 7) rfl (by kernel_rfl) ?_
      refine zlEnd (by kernel_rfl) ?_
      refine zkBlk ?_
      refine zkBlk ?_
      refine zkSeq ?_
      refine zrReg ?_
      refine zlRun (n := 2) (j := 2) rfl (by kernel_rfl) ?_
      refine zlEnd (by kernel_rfl) ?_
      refine zkNil ?_
      exact endQ hS hQ (finL_n (by show keepSt _ _ _ _ = _; kernel_rfl))
def f10_l1_j2_J (a1 : List UInt8) (a2 : Bool) (p48 : List UInt8) (p49 : Int) (p50 : Bool) : St := ⟨(up (up (up (up (up (fun _ => .un) 12 (.d (.bool p50))) 11 (.d (.int .i64 p49))) 10 (.d (.int .i64 (a1.length : Int)))) 5 (.r (.msl 48 0 0 p48.length))) 0 (.d (.str a1))), (up (hB fun _ => 0) 48 ⟨0, some (.own 5 1 (eU8.cells p48))⟩)⟩
noncomputable def f10_l1_j2 (a1 : List UInt8) (a2 : Bool) (p48 : List UInt8) (p49 : Int) (p50 : Bool) : Option (((List UInt8) × Int) ⊕ (((List UInt8)))) := (bif p50 then (f10_l1_j3 a1 a2 p48 p49) else (some (.inr p48)))
theorem f10_l1_j2_ok {d : Nat} (hd : 1 ≤ d) (a1 : List UInt8) (a2 : Bool) {r : ((List UInt8) × Int) ⊕ (((List UInt8)))} {Q : PX → St → Prop} (hQ : ∀ e st', finL (f10_l1_H a1 a2) (f10_l1_X a1 a2) r e st' → Q e st') (p48 : List UInt8) (p49 : Int) (p50 : Bool) (hS : f10_l1_j2 a1 a2 p48 p49 p50 = some r) {st : St} (he : keepSt [0, 5, 10, 11, 12] [(48, .id 48)] [] st = f10_l1_j2_J a1 a2 p48 p49 p50) : ZR (lev codes baseL (d - 1)) Q c10_2 [] st := by
  refine zrKeep he ?_
  unfold f10_l1_j2 at hS
  refine zrSeq ?_
  refine zrSplit 12 p50 (by kernel_rfl) (fun hc => ?_) (fun hc => ?_)
  · replace hS := cond_t hc hS
    refine zrCondT (by kernel_rfl) ?_
    refine zrSkip ?_
    refine zkSeq ?_
    exact f10_l1_j3_ok hd a1 a2 hQ p48 p49 hS (by kernel_rfl)
  · replace hS := cond_f hc hS
    refine zrCondF (by kernel_rfl) ?_
    refine zrKeep (J := f10_l1_e0_J a1 a2 p48) (by kernel_rfl) ?_
    refine zrExit ?_
    refine zkSeqX ?_
    refine zkNil ?_
    exact endQ hS hQ (finL_x (by intro h; cases h) (by show _ = _ ∧ _ = _; exact ⟨rfl, rfl⟩))
noncomputable def f10_l1 (a1 : List UInt8) (a2 : Bool) (x : (List UInt8) × Int) : Option (((List UInt8) × Int) ⊕ (((List UInt8)))) := (bif (decide (x.2 < (a1.length : Int))) then (f10_l1_j2 a1 a2 x.1 x.2 true) else (f10_l1_j2 a1 a2 x.1 x.2 false))
theorem f10_l1_ok {d : Nat} (hd : 1 ≤ d) (a1 : List UInt8) (a2 : Bool) {r : ((List UInt8) × Int) ⊕ (((List UInt8)))} {Q : PX → St → Prop} (hQ : ∀ e st', finL (f10_l1_H a1 a2) (f10_l1_X a1 a2) r e st' → Q e st') {x : (List UInt8) × Int} (hS : f10_l1 a1 a2 x = some r) {st : St} (he : f10_l1_H a1 a2 x st) : ZR (lev codes baseL (d - 1)) Q c10_3 [] st := by
  refine zrKeep he ?_
  unfold f10_l1 at hS
  refine zrSeq ?_
  refine zrReg ?_
  refine zlBool (d := 12) (op := (.cmpI .lss (.tmp 11) (.tmp 10))) (g := none) (j := 1) (decide (x.2 < (a1.length : Int))) rfl (by kernel_rfl) (by kernel_rfl) (by kernel_rfl) (fun hc => ?_) (fun hc => ?_)
  · replace hS := cond_t hc hS
    refine zlEnd (by kernel_rfl) ?_
    refine zkSeq ?_
    exact f10_l1_j2_ok hd a1 a2 hQ x.1 x.2 true hS (by kernel_rfl)
  · replace hS := cond_f hc hS
    refine zlEnd (by kernel_rfl) ?_
    refine zkSeq ?_
    exact f10_l1_j2_ok hd a1 a2 hQ x.1 x.2 false hS (by kernel_rfl)
def f10_j0_J (a1 : List UInt8) (a2 : Bool) : St := ⟨(up (fun _ => .un) 0 (.d (.str a1))), (hB fun _ => 0)⟩
noncomputable def f10_j0 (a1 : List UInt8) (a2 : Bool) : Option ((List UInt8)) := ((loopO (f10_l1 a1 a2) ([], 0)).bind fun z21 => (some z21))
theorem f10_j0_ok {d : Nat} (hd : 1 ≤ d) (a1 : List UInt8) (a2 : Bool) {r : (List UInt8)} {Q : PX → St → Prop} (hQ : ∀ e st', f10_Q r e st' → Q e st')  (hS : f10_j0 a1 a2 = some r) {st : St} (he : keepSt [0] [] [] st = f10_j0_J a1 a2) : ZR (lev codes baseL (d - 1)) Q c10_4 [] st := by
  refine zrKeep he ?_
  unfold f10_j0 at hS
  refine zrSeq ?_
  refine zrReg ?_
  refine zlRun (n := 1) (j := 1) rfl (by kernel_rfl) ?_
  refine zlEnd (by kernel_rfl) ?_
  refine zkSeq ?_
  refine zrSeq ?_
  refine zrSeq ?_
  refine zrReg ?_
  refine zlRun (n := 3) (j := 3) rfl (by kernel_rfl) ?_
  refine zlEnd (by kernel_rfl) ?_
  refine zkSeq ?_
  refine zrBlk ?_
  refine bindE hS (fun z21 hz21 hS => ?_)
  refine zrLoop (f10_l1_H a1 a2) (f10_l1_X a1 a2) (fun x st r Q h0 hS hQ => f10_l1_ok hd a1 a2 hQ hS h0) (x := ([], 0)) (z := z21) (by show keepSt _ _ _ _ = _; kernel_rfl) hz21 ?_
  intro e st' _ hX
  obtain ⟨rfl, rfl⟩ : _ ∧ _ := hX
  refine zkBlkX ?_
  refine zkSeq ?_
  refine zrSeq ?_
  refine zrReg ?_
  refine zlRun (n := 1) (j := 1) rfl (by kernel_rfl) ?_
  refine zlOp (d := some 35) (op := (.cvBS (.tmp 34))) (g := none) (v := (.d (.str z21))) (ups := []) (j := 2) rfl (by kernel_rfl) (by kernel_rfl) (ev_cvBS (s := z21) ((congrArg (asL _) (by kernel_rfl : ρof _ (.tmp 34) = (.r (.msl 48 0 0 z21.length)))).trans (as_whole eU8 (e := 5) (k := 1) (xs := z21) (by kernel_rfl) rfl rfl)) rfl) ?_
  refine zlRun (n := 1) (j := 3) rfl (by kernel_rfl) ?_
  refine zlEnd (by kernel_rfl) ?_
  refine zkSeq ?_
  refine zrRet ?_
  refine zkNil ?_
  exact endQ hS hQ (fRet ((congrArg (fun s => outR s 0 c10.res) (by kernel_rfl : finSt c10.fin _ = f10_fin z21)).trans (f10_out z21)))
noncomputable def f10 (a1 : List UInt8) (a2 : Bool) : Option ((List UInt8)) := (bif a2 then (some a1) else (f10_j0 a1 a2 ))
theorem f10_ok (d : Nat) (hd : 1 ≤ d) (a1 : List UInt8) (a2 : Bool) (r : (List UInt8)) (hS : f10 a1 a2 = some r) : lev codes baseL d 10 [(.d (.str a1)), (.d (.bool a2))] [] = some ((.d (.str r)), []) := by
  refine lev_go codes10 rfl rfl (Nat.le_trans (Nat.le_of_ble_eq_true rfl) hd) fun Q hQ => ?_
  unfold f10 at hS
  show ZR _ Q c10_b [] _
  replace hQ : ∀ e st', f10_Q r e st' → Q e st' := hQ
  refine zrSeq ?_
  refine zrReg ?_
  refine zlRun (n := 1) (j := 1) rfl (by kernel_rfl) ?_
  refine zlEnd (by kernel_rfl) ?_
  refine zkSeq ?_
  refine zrSeq ?_
  refine zrSeq ?_
  refine zrReg ?_
  refine zlRun (n := 1) (j := 1) rfl (by kernel_rfl) ?_
  refine zlEnd (by kernel_rfl) ?_
  refine zkSeq ?_
  refine zrSplit 7 a2 (by kernel_rfl) (fun hc => ?_) (fun hc => ?_)
  · replace hS := cond_t hc hS
    refine zrCondT (by kernel_rfl) ?_
    refine zrSeq ?_
    refine zrReg ?_
    refine zlRun (n := 2) (j := 2) rfl (by kernel_rfl) ?_
    refine zlEnd (by kernel_rfl) ?_
    refine zkSeq ?_
    refine zrRet ?_
    refine zkSeqR ?_
    refine zkNil ?_
    exact endQ hS hQ (fRet ((congrArg (fun s => outR s 0 c10.res) (by kernel_rfl : finSt c10.fin _ = f10_fin a1)).trans (f10_out a1)))
  · replace hS := cond_f hc hS
    refine zrCondF (by kernel_rfl) ?_
    refine zrSkip ?_
    refine zkSeq ?_
    exact f10_j0_ok hd a1 a2 hQ  hS (by kernel_rfl)
/- farwriter/farkeep.nvtLives -/
def f7_fin (p4 : Bool) : St := ⟨(up (fun _ => .un) 0 (.d (.bool p4))), (hB fun _ => 0)⟩
theorem f7_out (p4 : Bool) : outR (f7_fin p4) 0 c7.res = some ((.d (.bool p4)), []) := by
  kernel_rfl
def f7_Q (r : Bool) (e : PX) (st : St) : Prop := DoneF c7 0 ((.d (.bool r)), []) e st
noncomputable def f7  : Option (Bool) := ((f4 false [97, 13, 10, 98, 13, 0, 13] false).bind fun z3 => (bif z3.1 then (bif (decide (z3.2 = ([97, 10, 98, 13] : List UInt8))) then ((f10 [10, 13] false).bind fun z4 => (bif (decide (z4 = ([13, 10, 13, 0] : List UInt8))) then (some true) else (some false))) else (some false)) else (some false)))
theorem f7_ok (d : Nat) (hd : 3 ≤ d)  (r : Bool) (hS : f7 = some r) : lev codes baseL d 7 [] [] = some ((.d (.bool r)), []) := by
  refine lev_go codes7 rfl rfl (Nat.le_trans (Nat.le_of_ble_eq_true rfl) hd) fun Q hQ => ?_
  unfold f7 at hS
  show ZR _ Q c7_b [] _
  replace hQ : ∀ e st', f7_Q r e st' → Q e st' := hQ
  refine zrSeq ?_
  refine zrReg ?_
  refine zlRun (n := 1) (j := 1) rfl (by kernel_rfl) ?_
  refine zlEnd (by kernel_rfl) ?_
  refine zkSeq ?_
  refine zrSeq ?_
  refine zrReg ?_
  refine bindE hS (fun z3 hz3 hS => ?_)
  refine zlOp (d := some 4) (op := (.call 4 [(.const (.bool .false)), (.const (.string ⟨#[97, 13, 10, 98, 13, 0, 13]⟩)), (.const (.bool .false))])) (g := none) (v := (.tup [(.d (.bool z3.1)), (.d (.str z3.2))])) (ups := []) (j := 1) rfl (by kernel_rfl) (by kernel_rfl) (ev_call (args := [(.d (.bool false)), (.d (.str ([97, 13, 10, 98, 13, 0, 13]))), (.d (.bool false))]) (l := [(.d (.bool false)), (.d (.str ([97, 13, 10, 98, 13, 0, 13]))), (.d (.bool false))]) (r := (.tup [(.d (.bool z3.1)), (.d (.str z3.2))])) (by kernel_rfl) (by kernel_rfl) (f4_ok (d - 1) (dpt hd rfl) false [97, 13, 10, 98, 13, 0, 13] false z3 hz3) (by kernel_rfl) (by kernel_rfl) (by kernel_rfl)) ?_
  refine zlRun (n := 5) (j := 6) rfl (by kernel_rfl) ?_
  refine zlEnd (by kernel_rfl) ?_
  refine zkSeq ?_
  refine zrSeq ?_
  refine zrReg ?_
  refine zlRun (n := 2) (j := 2) rfl (by kernel_rfl) ?_
  refine zlSplit 8 z3.1 (by kernel_rfl) (fun hc => ?_) (fun hc => ?_)
  · replace hS := cond_t hc hS
    refine zlRun (n := 1) (j := 3) rfl (by kernel_rfl) ?_
    refine zlBool (d := 10) (op := (.strO .eql (.tmp 9) (.const (.string ⟨#[97, 10, 98, 13]⟩)))) (g := (some (8, true))) (j := 4) (decide (z3.2 = ([97, 10, 98, 13] : List UInt8))) rfl (by kernel_rfl) (by kernel_rfl) (by kernel_rfl) (fun hc => ?_) (fun hc => ?_)
    · replace hS := cond_t hc hS
      refine zlRun (n := 2) (j := 6) rfl (by kernel_rfl) ?_
      refine bindE hS (fun z4 hz4 hS => ?_)
      refine zlOp (d := some 13) (op := (.call 10 [(.const (.string ⟨#[10, 13]⟩)), (.const (.bool .false))])) (g := (some (12, true))) (v := (.d (.str z4))) (ups := []) (j := 7) rfl (by kernel_rfl) (by kernel_rfl) (ev_call (args := [(.d (.str ([10, 13]))), (.d (.bool false))]) (l := [(.d (.str ([10, 13]))), (.d (.bool false))]) (r := (.d (.str z4))) (by kernel_rfl) (by kernel_rfl) (f10_ok (d - 1) (dpt hd rfl) [10, 13] false z4 hz4) (by kernel_rfl) (by kernel_rfl) (by kernel_rfl)) ?_
      refine zlBool (d := 14) (op := (.strO .eql (.tmp 13) (.const (.string ⟨#[13, 10, 13, 0]⟩)))) (g := (some (12, true))) (j := 8) (decide (z4 = ([13, 10, 13, 0] : List UInt8))) rfl (by kernel_rfl) (by kernel_rfl) (by kernel_rfl) (fun hc => ?_) (fun hc => ?_)
      · replace hS := cond_t hc hS
        refine zlRun (n := 2) (j := 10) rfl (by kernel_rfl) ?_
        refine zlEnd (by kernel_rfl) ?_
        refine zkSeq ?_
        refine zrRet ?_
        refine zkNil ?_
        exact endQ hS hQ (fRet ((congrArg (fun s => outR s 0 c7.res) (by kernel_rfl : finSt c7.fin _ = f7_fin true)).trans (f7_out true)))
      · replace hS := cond_f hc hS
        refine zlRun (n := 2) (j := 10) rfl (by kernel_rfl) ?_
        refine zlEnd (by kernel_rfl) ?_
        refine zkSeq ?_
        refine zrRet ?_
        refine zkNil ?_
        exact endQ hS hQ (fRet ((congrArg (fun s => outR s 0 c7.res) (by kernel_rfl : finSt c7.fin _ = f7_fin false)).trans (f7_out false)))
    · replace hS := cond_f hc hS
      refine zlRun (n := 6) (j := 10) rfl (by kernel_rfl) ?_
      refine zlEnd (by kernel_rfl) ?_
      refine zkSeq ?_
      refine zrRet ?_
      refine zkNil ?_
      exact endQ hS hQ (fRet ((congrArg (fun s => outR s 0 c7.res) (by kernel_rfl : finSt c7.fin _ = f7_fin false)).trans (f7_out false)))
  · replace hS := cond_f hc hS
    refine zlRun (n := 8) (j := 10) rfl (by kernel_rfl) ?_
    refine zlEnd (by kernel_rfl) ?_
    refine zkSeq ?_
    refine zrRet ?_
    refine zkNil ?_
    exact endQ hS hQ (fRet ((congrArg (fun s => outR s 0 c7.res) (by kernel_rfl : finSt c7.fin _ = f7_fin false)).trans (f7_out false)))
/- strings.ReplaceAll -/
theorem libReplaceAll_ok (d : Nat) (hd : 0 ≤ d) (a1 : List UInt8) (a2 : List UInt8) (a3 : List UInt8) (r : List UInt8) (hS : libReplaceAll a1 a2 a3 = some r) : lev codes baseL d 6 [(.d (.str a1)), (.d (.str a2)), (.d (.str a3))] [] = some ((.d (.str r)), []) := lib_call (l := libs) rfl rfl (osssS_ hS) d
/- farwriter/farkeep.NvtTurn$1 -/
def f5_fin (p1 : List UInt8) : St := ⟨(up (fun _ => .un) 2 (.d (.str p1))), (hB fun _ => 0)⟩
theorem f5_out (p1 : List UInt8) : outR (f5_fin p1) 0 c5.res = some ((.d (.str p1)), []) := by
  kernel_rfl
def f5_Q (r : (List UInt8)) (e : PX) (st : St) : Prop := DoneF c5 0 ((.d (.str r)), []) e st
noncomputable def f5 (a1 : List UInt8) : Option ((List UInt8)) := ((libReplaceAll a1 [0] []).bind fun z3 => ((libReplaceAll z3 [13] []).bind fun z4 => (some z4)))
theorem f5_ok (d : Nat) (hd : 1 ≤ d) (a1 : List UInt8) (r : (List UInt8)) (hS : f5 a1 = some r) : lev codes baseL d 5 [(.d (.str a1))] [] = some ((.d (.str r)), []) := by
  refine lev_go codes5 rfl rfl (Nat.le_trans (Nat.le_of_ble_eq_true rfl) hd) fun Q hQ => ?_
  unfold f5 at hS
  show ZR _ Q c5_b [] _
  replace hQ : ∀ e st', f5_Q r e st' → Q e st' := hQ
  refine zrSeq ?_
  refine zrReg ?_
  refine zlRun (n := 1) (j := 1) rfl (by kernel_rfl) ?_
  refine zlEnd (by kernel_rfl) ?_
  refine zkSeq ?_
  refine zrSeq ?_
  refine zrReg ?_
  refine zlRun (n := 1) (j := 1) rfl (by kernel_rfl) ?_
  refine bindE hS (fun z3 hz3 hS => ?_)
  refine zlOp (d := some 4) (op := (.call 6 [(.tmp 3), (.const (.string ⟨#[0]⟩)), (.const (.string ⟨#[]⟩))])) (g := none) (v := (.d (.str z3))) (ups := []) (j := 2) rfl (by kernel_rfl) (by kernel_rfl) (ev_call (args := [(.d (.str a1)), (.d (.str ([0]))), (.d (.str ([])))]) (l := [(.d (.str a1)), (.d (.str ([0]))), (.d (.str ([])))]) (r := (.d (.str z3))) (by kernel_rfl) (by kernel_rfl) (libReplaceAll_ok (d - 1) (dpt hd rfl) a1 [0] [] z3 hz3) (by kernel_rfl) (by kernel_rfl) (by kernel_rfl)) ?_
  refine bindE hS (fun z4 hz4 hS => ?_)
  refine zlOp (d := some 5) (op := (.call 6 [(.tmp 4), (.const (.string ⟨#[13]⟩)), (.const (.string ⟨#[]⟩))])) (g := none) (v := (.d (.str z4))) (ups := []) (j := 3) rfl (by kernel_rfl) (by kernel_rfl) (ev_call (args := [(.d (.str z3)), (.d (.str ([13]))), (.d (.str ([])))]) (l := [(.d (.str z3)), (.d (.str ([13]))), (.d (.str ([])))]) (r := (.d (.str z4))) (by kernel_rfl) (by kernel_rfl) (libReplaceAll_ok (d - 1) (dpt hd rfl) z3 [13] [] z4 hz4) (by kernel_rfl) (by kernel_rfl) (by kernel_rfl)) ?_
  refine zlRun (n := 1) (j := 4) rfl (by kernel_rfl) ?_
  refine zlEnd (by kernel_rfl) ?_
  refine zkSeq ?_
  refine zrRet ?_
  refine zkNil ?_
  exact endQ hS hQ (fRet ((congrArg (fun s => outR s 0 c5.res) (by kernel_rfl : finSt c5.fin _ = f5_fin z4)).trans (f5_out z4)))
/- farwriter/farkeep.NvtTurn -/
def f3_fin (p5 : Bool) : St := ⟨(up (fun _ => .un) 4 (.d (.bool p5))), (hB fun _ => 0)⟩
theorem f3_out (p5 : Bool) : outR (f3_fin p5) 0 c3.res = some ((.d (.bool p5)), []) := by
  kernel_rfl
def f3_Q (r : Bool) (e : PX) (st : St) : Prop := DoneF c3 0 ((.d (.bool r)), []) e st
noncomputable def f3 (a1 : List UInt8) (a2 : List UInt8) : Option (Bool) := ((f4 false a1 false).bind fun z10 => ((f4 z10.1 a2 true).bind fun z11 => (f7.bind fun z12 => (bif z12 then (bif (!z11.1) then ((f8 z10.1).bind fun z13 => ((cat? z13 a2).bind fun z14 => (bif (decide (z11.2 = z14)) then ((cat? z10.2 z11.2).bind fun z15 => ((f5 z15).bind fun z16 => ((cat? a1 a2).bind fun z17 => ((f5 z17).bind fun z18 => (bif (decide (z16 = z18)) then (some true) else (some false)))))) else (some false)))) else (some false)) else (some false)))))
theorem f3_ok (d : Nat) (hd : 4 ≤ d) (a1 : List UInt8) (a2 : List UInt8) (r : Bool) (hS : f3 a1 a2 = some r) : lev codes baseL d 3 [(.d (.str a1)), (.d (.str a2))] [] = some ((.d (.bool r)), []) := by
  refine lev_go codes3 rfl rfl (Nat.le_trans (Nat.le_of_ble_eq_true rfl) hd) fun Q hQ => ?_
  unfold f3 at hS
  show ZR _ Q c3_b [] _
  replace hQ : ∀ e st', f3_Q r e st' → Q e st' := hQ
  refine zrSeq ?_
  refine zrReg ?_
  refine zlRun (n := 1) (j := 1) rfl (by kernel_rfl) ?_
  refine zlEnd (by kernel_rfl) ?_
  refine zkSeq ?_
  refine zrSeq ?_
  refine zrReg ?_
  refine zlRun (n := 1) (j := 1) rfl (by kernel_rfl) ?_
  refine bindE hS (fun z10 hz10 hS => ?_)
  refine zlOp (d := some 12) (op := (.call 4 [(.const (.bool .false)), (.tmp 11), (.const (.bool .false))])) (g := none) (v := (.tup [(.d (.bool z10.1)), (.d (.str z10.2))])) (ups := []) (j := 2) rfl (by kernel_rfl) (by kernel_rfl) (ev_call (args := [(.d (.bool false)), (.d (.str a1)), (.d (.bool false))]) (l := [(.d (.bool false)), (.d (.str a1)), (.d (.bool false))]) (r := (.tup [(.d (.bool z10.1)), (.d (.str z10.2))])) (by kernel_rfl) (by kernel_rfl) (f4_ok (d - 1) (dpt hd rfl) false a1 false z10 hz10) (by kernel_rfl) (by kernel_rfl) (by kernel_rfl)) ?_
  refine zlRun (n := 5) (j := 7) rfl (by kernel_rfl) ?_
  refine zlEnd (by kernel_rfl) ?_
  refine zkSeq ?_
  refine zrSeq ?_
  refine zrReg ?_
  refine zlRun (n := 2) (j := 2) rfl (by kernel_rfl) ?_
  refine bindE hS (fun z11 hz11 hS => ?_)
  refine zlOp (d := some 18) (op := (.call 4 [(.tmp 16), (.tmp 17), (.const (.bool .true))])) (g := none) (v := (.tup [(.d (.bool z11.1)), (.d (.str z11.2))])) (ups := []) (j := 3) rfl (by kernel_rfl) (by kernel_rfl) (ev_call (args := [(.d (.bool z10.1)), (.d (.str a2)), (.d (.bool true))]) (l := [(.d (.bool z10.1)), (.d (.str a2)), (.d (.bool true))]) (r := (.tup [(.d (.bool z11.1)), (.d (.str z11.2))])) (by kernel_rfl) (by kernel_rfl) (f4_ok (d - 1) (dpt hd rfl) z10.1 a2 true z11 hz11) (by kernel_rfl) (by kernel_rfl) (by kernel_rfl)) ?_
  refine zlRun (n := 5) (j := 8) rfl (by kernel_rfl) ?_
  refine zlEnd (by kernel_rfl) ?_
  refine zkSeq ?_
  refine zrSeq ?_
  refine zrReg ?_
  refine zlRun (n := 1) (j := 1) rfl (by kernel_rfl) ?_
  refine zlEnd (by kernel_rfl) ?_
  refine zkSeq ?_
  refine zrSeq ?_
  refine zrReg ?_
  refine bindE hS (fun z12 hz12 hS => ?_)
  refine zlOp (d := some 21) (op := (.call 7 [])) (g := none) (v := (.d (.bool z12))) (ups := []) (j := 1) rfl (by kernel_rfl) (by kernel_rfl) (ev_call (args := []) (l := []) (r := (.d (.bool z12))) (by kernel_rfl) (by kernel_rfl) (f7_ok (d - 1) (dpt hd rfl)  z12 hz12) (by kernel_rfl) (by kernel_rfl) (by kernel_rfl)) ?_
  refine zlRun (n := 1) (j := 2) rfl (by kernel_rfl) ?_
  refine zlSplit 22 z12 (by kernel_rfl) (fun hc => ?_) (fun hc => ?_)
  · replace hS := cond_t hc hS
    refine zlRun (n := 4) (j := 6) rfl (by kernel_rfl) ?_
    refine zlSplit 26 (!z11.1) (by kernel_rfl) (fun hc => ?_) (fun hc => ?_)
    · replace hS := cond_t hc hS
      refine zlRun (n := 2) (j := 8) rfl (by kernel_rfl) ?_
      refine bindE hS (fun z13 hz13 hS => ?_)
      refine zlOp (d := some 29) (op := (.call 8 [(.tmp 28)])) (g := (some (26, true))) (v := (.d (.str z13))) (ups := []) (j := 9) rfl (by kernel_rfl) (by kernel_rfl) (ev_call (args := [(.d (.bool z10.1))]) (l := [(.d (.bool z10.1))]) (r := (.d (.str z13))) (by kernel_rfl) (by kernel_rfl) (f8_ok (d - 1) (dpt hd rfl) z10.1 z13 hz13) (by kernel_rfl) (by kernel_rfl) (by kernel_rfl)) ?_
      refine zlRun (n := 1) (j := 10) rfl (by kernel_rfl) ?_
      refine bindE hS (fun z14 hz14 hS => ?_)
      refine zlOp (d := some 31) (op := (.strO .add (.tmp 29) (.tmp 30))) (g := (some (26, true))) (v := (.d (.str z14))) (ups := []) (j := 11) rfl (by kernel_rfl) (by kernel_rfl) (ev_cat (a := z13) (c := a2) (by kernel_rfl) (by kernel_rfl) hz14) ?_
      refine zlBool (d := 32) (op := (.strO .eql (.tmp 27) (.tmp 31))) (g := (some (26, true))) (j := 12) (decide (z11.2 = z14)) rfl (by kernel_rfl) (by kernel_rfl) (by kernel_rfl) (fun hc => ?_) (fun hc => ?_)
      · replace hS := cond_t hc hS
        refine zlRun (n := 5) (j := 17) rfl (by kernel_rfl) ?_
        refine bindE hS (fun z15 hz15 hS => ?_)
        refine zlOp (d := some 38) (op := (.strO .add (.tmp 36) (.tmp 37))) (g := (some (34, true))) (v := (.d (.str z15))) (ups := []) (j := 18) rfl (by kernel_rfl) (by kernel_rfl) (ev_cat (a := z10.2) (c := z11.2) (by kernel_rfl) (by kernel_rfl) hz15) ?_
        refine bindE hS (fun z16 hz16 hS => ?_)
        refine zlOp (d := some 39) (op := (.callv (.tmp 35) [(.tmp 38)])) (g := (some (34, true))) (v := (.d (.str z16))) (ups := []) (j := 19) rfl (by kernel_rfl) (by kernel_rfl) (ev_callv (f := 5) (cs := []) (by kernel_rfl) (args := [(.d (.str z15))]) (l := [(.d (.str z15))]) (r := (.d (.str z16))) (by kernel_rfl) (by kernel_rfl) (f5_ok (d - 1) (dpt hd rfl) z15 z16 hz16) (by kernel_rfl) (by kernel_rfl) (by kernel_rfl)) ?_
        refine zlRun (n := 3) (j := 22) rfl (by kernel_rfl) ?_
        refine bindE hS (fun z17 hz17 hS => ?_)
        refine zlOp (d := some 43) (op := (.strO .add (.tmp 41) (.tmp 42))) (g := (some (34, true))) (v := (.d (.str z17))) (ups := []) (j := 23) rfl (by kernel_rfl) (by kernel_rfl) (ev_cat (a := a1) (c := a2) (by kernel_rfl) (by kernel_rfl) hz17) ?_
        refine bindE hS (fun z18 hz18 hS => ?_)
        refine zlOp (d := some 44) (op := (.callv (.tmp 40) [(.tmp 43)])) (g := (some (34, true))) (v := (.d (.str z18))) (ups := []) (j := 24) rfl (by kernel_rfl) (by kernel_rfl) (ev_callv (f := 5) (cs := []) (by kernel_rfl) (args := [(.d (.str z17))]) (l := [(.d (.str z17))]) (r := (.d (.str z18))) (by kernel_rfl) (by kernel_rfl) (f5_ok (d - 1) (dpt hd rfl) z17 z18 hz18) (by kernel_rfl) (by kernel_rfl) (by kernel_rfl)) ?_
        refine zlBool (d := 45) (op := (.strO .eql (.tmp 39) (.tmp 44))) (g := (some (34, true))) (j := 25) (decide (z16 = z18)) rfl (by kernel_rfl) (by kernel_rfl) (by kernel_rfl) (fun hc => ?_) (fun hc => ?_)
        · replace hS := cond_t hc hS
          refine zlRun (n := 2) (j := 27) rfl (by kernel_rfl) ?_
          refine zlEnd (by kernel_rfl) ?_
          refine zkSeq ?_
          refine zrRet ?_
          refine zkNil ?_
          exact endQ hS hQ (fRet ((congrArg (fun s => outR s 0 c3.res) (by kernel_rfl : finSt c3.fin _ = f3_fin true)).trans (f3_out true)))
        · replace hS := cond_f hc hS
          refine zlRun (n := 2) (j := 27) rfl (by kernel_rfl) ?_
          refine zlEnd (by kernel_rfl) ?_
          refine zkSeq ?_
          refine zrRet ?_
          refine zkNil ?_
          exact endQ hS hQ (fRet ((congrArg (fun s => outR s 0 c3.res) (by kernel_rfl : finSt c3.fin _ = f3_fin false)).trans (f3_out false)))
      · replace hS := cond_f hc hS
        refine zlRun (n := 15) (j := 27) rfl (by kernel_rfl) ?_
        refine zlEnd (by kernel_rfl) ?_
        refine zkSeq ?_
        refine zrRet ?_
        refine zkNil ?_
        exact endQ hS hQ (fRet ((congrArg (fun s => outR s 0 c3.res) (by kernel_rfl : finSt c3.fin _ = f3_fin false)).trans (f3_out false)))
    · replace hS := cond_f hc hS
      refine zlRun (n := 21) (j := 27) rfl (by kernel_rfl) ?_
      refine zlEnd (by kernel_rfl) ?_
      refine zkSeq ?_
      refine zrRet ?_
      refine zkNil ?_
      exact endQ hS hQ (fRet ((congrArg (fun s => outR s 0 c3.res) (by kernel_rfl : finSt c3.fin _ = f3_fin false)).trans (f3_out false)))
  · replace hS := cond_f hc hS
    refine zlRun (n := 25) (j := 27) rfl (by kernel_rfl) ?_
    refine zlEnd (by kernel_rfl) ?_
    refine zkSeq ?_
    refine zrRet ?_
    refine zkNil ?_
    exact endQ hS hQ (fRet ((congrArg (fun s => outR s 0 c3.res) (by kernel_rfl : finSt c3.fin _ = f3_fin false)).trans (f3_out false)))
end Go.Proofs.YtbaadpkhkglelaaDoor.Pm
