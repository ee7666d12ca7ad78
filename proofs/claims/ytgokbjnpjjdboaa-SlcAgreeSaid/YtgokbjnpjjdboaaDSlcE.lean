/- Typed functions, and that the codes are these. Printed by dec.py. -/
import Derived.Test.YtgokbjnpjjdboaaDSlcD
namespace Go.Proofs.Ytgokbjnpjjdboaa.Pm
set_option maxRecDepth 1000000
set_option maxHeartbeats 20000000
set_option linter.unusedVariables false
/- farwriter/farkeep.SlcAgree -/
def f13_fin (p25444 : Bool) : St := ⟨(up (fun _ => .un) 4 (.d (.bool p25444))), (hB fun _ => 0)⟩
theorem f13_out (p25444 : Bool) : outR (f13_fin p25444) 0 c13.res = some ((.d (.bool p25444)), []) := by
  kernel_rfl
def f13_Q (r : Bool) (e : PX) (st : St) : Prop := DoneF c13 0 ((.d (.bool r)), []) e st
def f13_j1_J (a1 : GKeys) (a2 : GKeys) (p50888 : GKeys) (p50889 : Int) : St := ⟨(up (up (fun _ => .un) 7 (.d (.int .i64 p50889))) 5 (.r (.ptr 48 0 0))), (up (hB fun _ => 0) 48 ⟨0, some (.box ((eU8.row 19 p50888.Levels) ++ ((eU8.row 19 p50888.Chars) ++ [])))⟩)⟩
noncomputable def f13_j1 (a1 : GKeys) (a2 : GKeys) (p50888 : GKeys) (p50889 : Int) : Option (Bool) := (bif (decide (1 ≤ p50889)) then (bif (decide (p50889 ≤ 3)) then ((f28 p50888).bind fun z104 => (bif (decide (z104 = 0)) then (some true) else (some false))) else (some false)) else (some false))
theorem f13_j1_ok {base : Orc} {d : Nat} (hd : 4 ≤ d) (a1 : GKeys) (a2 : GKeys) {r : Bool} {Q : PX → St → Prop} (hQ : ∀ e st', f13_Q r e st' → Q e st') (p50888 : GKeys) (p50889 : Int) (hS : f13_j1 a1 a2 p50888 p50889 = some r) {st : St} (he : keepSt [5, 7] [(48, .id 48)] [] st = f13_j1_J a1 a2 p50888 p50889) : ZR (lev codes base (d - 1)) Q c13_1 [] st := by
  refine zrKeep he ?_
  unfold f13_j1 at hS
  refine zrSeq ?_
  refine zrReg ?_
  refine zlRun (n := 1) (j := 1) rfl (by kernel_rfl) ?_
  refine zlBool (d := 114) (op := (.cmpI .geq (.tmp 113) (.const (.int .i64 1)))) (g := none) (j := 2) (decide (1 ≤ p50889)) rfl (by kernel_rfl) (by kernel_rfl) (by kernel_rfl) (fun hc => ?_) (fun hc => ?_)
  · replace hS := cond_t hc hS
    refine zlRun (n := 2) (j := 4) rfl (by kernel_rfl) ?_
    refine zlBool (d := 117) (op := (.cmpI .leq (.tmp 116) (.const (.int .i64 3)))) (g := (some (115, true))) (j := 5) (decide (p50889 ≤ 3)) rfl (by kernel_rfl) (by kernel_rfl) (by kernel_rfl) (fun hc => ?_) (fun hc => ?_)
    · replace hS := cond_t hc hS
      refine zlRun (n := 3) (j := 8) rfl (by kernel_rfl) ?_
      refine bindE hS (fun z104 hz104 hS => ?_)
      refine zlOp (d := some 121) (op := (.call 28 [(.tmp 120)])) (g := (some (119, true))) (v := (.d (.int .i64 z104))) (ups := []) (j := 9) rfl (by kernel_rfl) (by kernel_rfl) (ev_call (args := [(.agg ((eU8.row 19 p50888.Levels) ++ ((eU8.row 19 p50888.Chars) ++ [])))]) (l := [(.agg ((eU8.row 19 p50888.Levels) ++ ((eU8.row 19 p50888.Chars) ++ [])))]) (r := (.d (.int .i64 z104))) (by kernel_rfl) (by kernel_rfl) (f28_ok base (d - 1) (dpt hd rfl) p50888 z104 hz104) (by kernel_rfl) (by kernel_rfl) (by kernel_rfl)) ?_
      refine zlBool (d := 122) (op := (.cmpI .eql (.tmp 121) (.const (.int .i64 0)))) (g := (some (119, true))) (j := 10) (decide (z104 = 0)) rfl (by kernel_rfl) (by kernel_rfl) (by kernel_rfl) (fun hc => ?_) (fun hc => ?_)
      · replace hS := cond_t hc hS
        refine zlRun (n := 2) (j := 12) rfl (by kernel_rfl) ?_
        refine zlEnd (by kernel_rfl) ?_
        refine zkSeq ?_
        refine zrRet ?_
        refine zkNil ?_
        exact endQ hS hQ (fRet ((congrArg (fun s => outR s 0 c13.res) (by kernel_rfl : finSt c13.fin _ = f13_fin true)).trans (f13_out true)))
      · replace hS := cond_f hc hS
        refine zlRun (n := 2) (j := 12) rfl (by kernel_rfl) ?_
        refine zlEnd (by kernel_rfl) ?_
        refine zkSeq ?_
        refine zrRet ?_
        refine zkNil ?_
        exact endQ hS hQ (fRet ((congrArg (fun s => outR s 0 c13.res) (by kernel_rfl : finSt c13.fin _ = f13_fin false)).trans (f13_out false)))
    · replace hS := cond_f hc hS
      refine zlRun (n := 7) (j := 12) rfl (by kernel_rfl) ?_
      refine zlEnd (by kernel_rfl) ?_
      refine zkSeq ?_
      refine zrRet ?_
      refine zkNil ?_
      exact endQ hS hQ (fRet ((congrArg (fun s => outR s 0 c13.res) (by kernel_rfl : finSt c13.fin _ = f13_fin false)).trans (f13_out false)))
  · replace hS := cond_f hc hS
    refine zlRun (n := 10) (j := 12) rfl (by kernel_rfl) ?_
    refine zlEnd (by kernel_rfl) ?_
    refine zkSeq ?_
    refine zrRet ?_
    refine zkNil ?_
    exact endQ hS hQ (fRet ((congrArg (fun s => outR s 0 c13.res) (by kernel_rfl : finSt c13.fin _ = f13_fin false)).trans (f13_out false)))
def f13_l2_J (a1 : GKeys) (a2 : GKeys) (x : GKeys × GKeys × Int × Int) : St := ⟨(up (up (up (up (up (up (fun _ => .un) 9 (.d (.int .i64 x.2.2.2))) 7 (.d (.int .i64 x.2.2.1))) 6 (.r (.ptr 56 0 0))) 5 (.r (.ptr 48 0 0))) 3 (.r (.ptr 32 0 0))) 2 (.r (.ptr 24 0 0))), (up (up (up (up (hB fun _ => 0) 56 ⟨0, some (.box ((eU8.row 19 x.2.1.Levels) ++ ((eU8.row 19 x.2.1.Chars) ++ [])))⟩) 48 ⟨0, some (.box ((eU8.row 19 x.1.Levels) ++ ((eU8.row 19 x.1.Chars) ++ [])))⟩) 32 ⟨0, some (.box ((eU8.row 19 a2.Levels) ++ ((eU8.row 19 a2.Chars) ++ [])))⟩) 24 ⟨0, some (.box ((eU8.row 19 a1.Levels) ++ ((eU8.row 19 a1.Chars) ++ [])))⟩)⟩
def f13_l2_H (a1 : GKeys) (a2 : GKeys) (x : GKeys × GKeys × Int × Int) (st : St) : Prop := keepSt [2, 3, 5, 6, 7, 9] [(24, .id 24), (32, .id 32), (48, .id 48), (56, .id 56)] [] st = f13_l2_J a1 a2 x
def f13_l2_e0_J (a1 : GKeys) (a2 : GKeys) (p50886 : GKeys) (p50887 : Int) : St := ⟨(up (up (fun _ => .un) 7 (.d (.int .i64 p50887))) 5 (.r (.ptr 48 0 0))), (up (hB fun _ => 0) 48 ⟨0, some (.box ((eU8.row 19 p50886.Levels) ++ ((eU8.row 19 p50886.Chars) ++ [])))⟩)⟩
def f13_l2_X (a1 : GKeys) (a2 : GKeys) (z : (GKeys × Int) ⊕ Bool) (e : PX) (st : St) : Prop := (match z with | .inl z => e = .exit 0 ∧ st = f13_l2_e0_J a1 a2 z.1 z.2 | .inr z => e = .ret ∧ finSt c13.fin st = f13_fin z)
def f13_l2_j3_J (a1 : GKeys) (a2 : GKeys) (p50895 : GKeys) (p50896 : GKeys) (p50897 : Int) (p50898 : Int) : St := ⟨(up (up (up (up (up (up (fun _ => .un) 9 (.d (.int .i64 p50898))) 7 (.d (.int .i64 p50897))) 6 (.r (.ptr 56 0 0))) 5 (.r (.ptr 48 0 0))) 3 (.r (.ptr 32 0 0))) 2 (.r (.ptr 24 0 0))), (up (up (up (up (hB fun _ => 0) 56 ⟨0, some (.box ((eU8.row 19 p50896.Levels) ++ ((eU8.row 19 p50896.Chars) ++ [])))⟩) 48 ⟨0, some (.box ((eU8.row 19 p50895.Levels) ++ ((eU8.row 19 p50895.Chars) ++ [])))⟩) 32 ⟨0, some (.box ((eU8.row 19 a2.Levels) ++ ((eU8.row 19 a2.Chars) ++ [])))⟩) 24 ⟨0, some (.box ((eU8.row 19 a1.Levels) ++ ((eU8.row 19 a1.Chars) ++ [])))⟩)⟩
noncomputable def f13_l2_j3 (a1 : GKeys) (a2 : GKeys) (p50895 : GKeys) (p50896 : GKeys) (p50897 : Int) (p50898 : Int) : Option ((GKeys × GKeys × Int × Int) ⊕ ((GKeys × Int) ⊕ Bool)) := ((inR p50898 19).bind fun m109 => ((inR p50898 19).bind fun m110 => (bif (!decide (((p50895.Levels m109).toNat : Int) = ((p50896.Levels m110).toNat : Int))) then (some (.inr (.inr false))) else ((inR p50898 19).bind fun m111 => ((inR p50898 19).bind fun m112 => (bif (!decide (((p50895.Chars m111).toNat : Int) = ((p50896.Chars m112).toNat : Int))) then (some (.inr (.inr false))) else ((inR p50898 19).bind fun m118 => (bif (decide (((a1.Levels m118).toNat : Int) = 1)) then ((inR p50898 19).bind fun m119 => (bif (!decide (((a2.Levels m119).toNat : Int) = 1)) then ((inR p50898 19).bind fun m120 => (bif (!decide (((p50895.Levels m120).toNat : Int) = 1)) then (some (.inr (.inr false))) else ((inR p50898 19).bind fun m121 => ((inR p50898 19).bind fun m122 => (bif (!decide (((p50895.Chars m121).toNat : Int) = ((a1.Chars m122).toNat : Int))) then (some (.inr (.inr false))) else ((inR p50898 19).bind fun m123 => (bif (decide (((a2.Levels m123).toNat : Int) = 1)) then ((inR p50898 19).bind fun m124 => (bif (decide (((a1.Levels m124).toNat : Int) = 2)) then ((inR p50898 19).bind fun m125 => (bif (!decide (((p50895.Levels m125).toNat : Int) = 1)) then (some (.inr (.inr false))) else ((inR p50898 19).bind fun m126 => ((inR p50898 19).bind fun m127 => (bif (!decide (((p50895.Chars m126).toNat : Int) = ((a2.Chars m127).toNat : Int))) then (some (.inr (.inr false))) else (some (.inl (p50895, p50896, p50897, (IntKind.i64.wrap (p50898 + 1)))))))))) else (some (.inl (p50895, p50896, p50897, (IntKind.i64.wrap (p50898 + 1))))))) else (some (.inl (p50895, p50896, p50897, (IntKind.i64.wrap (p50898 + 1)))))))))))) else ((inR p50898 19).bind fun m128 => (bif (decide (((a2.Levels m128).toNat : Int) = 1)) then ((inR p50898 19).bind fun m129 => (bif (decide (((a1.Levels m129).toNat : Int) = 2)) then ((inR p50898 19).bind fun m130 => (bif (!decide (((p50895.Levels m130).toNat : Int) = 1)) then (some (.inr (.inr false))) else ((inR p50898 19).bind fun m131 => ((inR p50898 19).bind fun m132 => (bif (!decide (((p50895.Chars m131).toNat : Int) = ((a2.Chars m132).toNat : Int))) then (some (.inr (.inr false))) else (some (.inl (p50895, p50896, p50897, (IntKind.i64.wrap (p50898 + 1)))))))))) else (some (.inl (p50895, p50896, p50897, (IntKind.i64.wrap (p50898 + 1))))))) else (some (.inl (p50895, p50896, p50897, (IntKind.i64.wrap (p50898 + 1))))))))) else ((inR p50898 19).bind fun m133 => (bif (decide (((a2.Levels m133).toNat : Int) = 1)) then ((inR p50898 19).bind fun m134 => (bif (decide (((a1.Levels m134).toNat : Int) = 2)) then ((inR p50898 19).bind fun m135 => (bif (!decide (((p50895.Levels m135).toNat : Int) = 1)) then (some (.inr (.inr false))) else ((inR p50898 19).bind fun m136 => ((inR p50898 19).bind fun m137 => (bif (!decide (((p50895.Chars m136).toNat : Int) = ((a2.Chars m137).toNat : Int))) then (some (.inr (.inr false))) else (some (.inl (p50895, p50896, p50897, (IntKind.i64.wrap (p50898 + 1)))))))))) else (some (.inl (p50895, p50896, p50897, (IntKind.i64.wrap (p50898 + 1))))))) else (some (.inl (p50895, p50896, p50897, (IntKind.i64.wrap (p50898 + 1)))))))))))))))
theorem f13_l2_j3_ok {base : Orc} {d : Nat} (hd : 4 ≤ d) (a1 : GKeys) (a2 : GKeys) {r : (GKeys × GKeys × Int × Int) ⊕ ((GKeys × Int) ⊕ Bool)} {Q : PX → St → Prop} (hQ : ∀ e st', finL (f13_l2_H a1 a2) (f13_l2_X a1 a2) r e st' → Q e st') (p50895 : GKeys) (p50896 : GKeys) (p50897 : Int) (p50898 : Int) (hS : f13_l2_j3 a1 a2 p50895 p50896 p50897 p50898 = some r) {st : St} (he : keepSt [2, 3, 5, 6, 7, 9] [(24, .id 24), (32, .id 32), (48, .id 48), (56, .id 56)] [] st = f13_l2_j3_J a1 a2 p50895 p50896 p50897 p50898) : ZR (lev codes base (d - 1)) Q c13_2 [] st := by
  refine zrKeep he ?_
  unfold f13_l2_j3 at hS
  refine zrSeq ?_
  refine zrBlk ?_
  refine zrSeq ?_
  refine zrSeq ?_
  refine zrRegD ?_
  refine zdRun (n := 2) (j := 2) (ts := [[], []]) (acc' := [[], []]) rfl (by kernel_rfl) (by kernel_rfl) (by kernel_rfl) ?_
  refine bindE hS (fun m109 hm109 hS => ?_)
  refine zdOp (d := some 35) (op := (.ixA 19 1 (.tmp 34) (.tmp 33))) (g := none) (v := (.r (.ptr 48 0 (0 + m109 * 1)))) (ups := []) (j := 3) (t1 := []) (acc' := [[], [], []]) (by kernel_rfl) (by kernel_rfl) rfl (by kernel_rfl) (by kernel_rfl) (ev_ixA (kk := .i64) (b := 48) (g := 0) (o := 0) (j := p50898) (by kernel_rfl) (by kernel_rfl) hm109) ?_
  refine zdOp (d := some 36) (op := (.load .false 1 (.tmp 35))) (g := none) (v := (.d (.int .u8 ((p50895.Levels m109).toNat : Int)))) (ups := []) (j := 4) (t1 := [(48, false)]) (acc' := [[], [], [], [(48, false)]]) (by kernel_rfl) (by kernel_rfl) rfl (by kernel_rfl) (by kernel_rfl) (ev_loadA eU8 (b := 48) (g := 0) (o := 0 + m109 * 1) (f := p50895.Levels) (nn := 19) (m := m109) (fo := 0) (pre := []) (post := ((eU8.row 19 p50895.Chars) ++ [])) (by kernel_rfl) (by kernel_rfl) (by kernel_rfl) (inR_lt hm109) (by kernel_rfl) (by kernel_rfl) (by kernel_rfl)) ?_
  refine zdRun (n := 2) (j := 6) (ts := [[], []]) (acc' := [[], [], [], [(48, false)], [], []]) rfl (by kernel_rfl) (by kernel_rfl) (by kernel_rfl) ?_
  refine bindE hS (fun m110 hm110 hS => ?_)
  refine zdOp (d := some 39) (op := (.ixA 19 1 (.tmp 38) (.tmp 37))) (g := none) (v := (.r (.ptr 56 0 (0 + m110 * 1)))) (ups := []) (j := 7) (t1 := []) (acc' := [[], [], [], [(48, false)], [], [], []]) (by kernel_rfl) (by kernel_rfl) rfl (by kernel_rfl) (by kernel_rfl) (ev_ixA (kk := .i64) (b := 56) (g := 0) (o := 0) (j := p50898) (by kernel_rfl) (by kernel_rfl) hm110) ?_
  refine zdOp (d := some 40) (op := (.load .false 1 (.tmp 39))) (g := none) (v := (.d (.int .u8 ((p50896.Levels m110).toNat : Int)))) (ups := []) (j := 8) (t1 := [(56, false)]) (acc' := [[], [], [], [(48, false)], [], [], [], [(56, false)]]) (by kernel_rfl) (by kernel_rfl) rfl (by kernel_rfl) (by kernel_rfl) (ev_loadA eU8 (b := 56) (g := 0) (o := 0 + m110 * 1) (f := p50896.Levels) (nn := 19) (m := m110) (fo := 0) (pre := []) (post := ((eU8.row 19 p50896.Chars) ++ [])) (by kernel_rfl) (by kernel_rfl) (by kernel_rfl) (inR_lt hm110) (by kernel_rfl) (by kernel_rfl) (by kernel_rfl)) ?_
  refine zdBool (d := 41) (op := (.cmpI .neq (.tmp 36) (.tmp 40))) (g := none) (j := 9) (t1 := []) (acc' := [[], [], [], [(48, false)], [], [], [], [(56, false)], []]) (!decide (((p50895.Levels m109).toNat : Int) = ((p50896.Levels m110).toNat : Int))) (by kernel_rfl) (by kernel_rfl) rfl (by kernel_rfl) (by kernel_rfl) (by kernel_rfl) (fun hc => ?_) (fun hc => ?_)
  · replace hS := cond_t hc hS
    refine zdRun (n := 11) (j := 20) (ts := [[], [], [], [], [], [], [], [], [], [], []]) (acc' := [[], [], [], [(48, false)], [], [], [], [(56, false)], [], [], [], [], [], [], [], [], [], [], [], []]) rfl (by kernel_rfl) (by kernel_rfl) (by kernel_rfl) ?_
    refine zdEnd (by kernel_rfl) (by kernel_rfl) ?_
    refine zkSeq ?_
    refine zrCondT (by kernel_rfl) ?_
    refine zrSeq ?_
    refine zrReg ?_
    refine zlRun (n := 1) (j := 1) rfl (by kernel_rfl) ?_
    refine zlEnd (by kernel_rfl) ?_
    refine zkSeq ?_
    refine zrRet ?_
    refine zkSeqR ?_
    refine zkBlkR ?_
    refine zkSeqR ?_
    refine zkNil ?_
    exact endQ hS hQ (finL_x (by intro h; cases h) (by show _ = _ ∧ _ = _; exact ⟨rfl, by kernel_rfl⟩))
  · replace hS := cond_f hc hS
    refine zdRun (n := 3) (j := 12) (ts := [[], [], []]) (acc' := [[], [], [], [(48, false)], [], [], [], [(56, false)], [], [], [], []]) rfl (by kernel_rfl) (by kernel_rfl) (by kernel_rfl) ?_
    refine bindE hS (fun m111 hm111 hS => ?_)
    refine zdOp (d := some 45) (op := (.ixA 19 1 (.tmp 44) (.tmp 43))) (g := (some (42, false))) (v := (.r (.ptr 48 0 (19 + m111 * 1)))) (ups := []) (j := 13) (t1 := []) (acc' := [[], [], [], [(48, false)], [], [], [], [(56, false)], [], [], [], [], []]) (by kernel_rfl) (by kernel_rfl) rfl (by kernel_rfl) (by kernel_rfl) (ev_ixA (kk := .i64) (b := 48) (g := 0) (o := 19) (j := p50898) (by kernel_rfl) (by kernel_rfl) hm111) ?_
    refine zdOp (d := some 46) (op := (.load .false 1 (.tmp 45))) (g := (some (42, false))) (v := (.d (.int .u8 ((p50895.Chars m111).toNat : Int)))) (ups := []) (j := 14) (t1 := [(48, false)]) (acc' := [[], [], [], [(48, false)], [], [], [], [(56, false)], [], [], [], [], [], [(48, false)]]) (by kernel_rfl) (by kernel_rfl) rfl (by kernel_rfl) (by kernel_rfl) (ev_loadA eU8 (b := 48) (g := 0) (o := 19 + m111 * 1) (f := p50895.Chars) (nn := 19) (m := m111) (fo := 0) (pre := ((eU8.row 19 p50895.Levels) ++ [])) (post := []) (by kernel_rfl) (by kernel_rfl) (by kernel_rfl) (inR_lt hm111) (by kernel_rfl) (by kernel_rfl) (by kernel_rfl)) ?_
    refine zdRun (n := 2) (j := 16) (ts := [[], []]) (acc' := [[], [], [], [(48, false)], [], [], [], [(56, false)], [], [], [], [], [], [(48, false)], [], []]) rfl (by kernel_rfl) (by kernel_rfl) (by kernel_rfl) ?_
    refine bindE hS (fun m112 hm112 hS => ?_)
    refine zdOp (d := some 49) (op := (.ixA 19 1 (.tmp 48) (.tmp 47))) (g := (some (42, false))) (v := (.r (.ptr 56 0 (19 + m112 * 1)))) (ups := []) (j := 17) (t1 := []) (acc' := [[], [], [], [(48, false)], [], [], [], [(56, false)], [], [], [], [], [], [(48, false)], [], [], []]) (by kernel_rfl) (by kernel_rfl) rfl (by kernel_rfl) (by kernel_rfl) (ev_ixA (kk := .i64) (b := 56) (g := 0) (o := 19) (j := p50898) (by kernel_rfl) (by kernel_rfl) hm112) ?_
    refine zdOp (d := some 50) (op := (.load .false 1 (.tmp 49))) (g := (some (42, false))) (v := (.d (.int .u8 ((p50896.Chars m112).toNat : Int)))) (ups := []) (j := 18) (t1 := [(56, false)]) (acc' := [[], [], [], [(48, false)], [], [], [], [(56, false)], [], [], [], [], [], [(48, false)], [], [], [], [(56, false)]]) (by kernel_rfl) (by kernel_rfl) rfl (by kernel_rfl) (by kernel_rfl) (ev_loadA eU8 (b := 56) (g := 0) (o := 19 + m112 * 1) (f := p50896.Chars) (nn := 19) (m := m112) (fo := 0) (pre := ((eU8.row 19 p50896.Levels) ++ [])) (post := []) (by kernel_rfl) (by kernel_rfl) (by kernel_rfl) (inR_lt hm112) (by kernel_rfl) (by kernel_rfl) (by kernel_rfl)) ?_
    refine zdBool (d := 51) (op := (.cmpI .neq (.tmp 46) (.tmp 50))) (g := (some (42, false))) (j := 19) (t1 := []) (acc' := [[], [], [], [(48, false)], [], [], [], [(56, false)], [], [], [], [], [], [(48, false)], [], [], [], [(56, false)], []]) (!decide (((p50895.Chars m111).toNat : Int) = ((p50896.Chars m112).toNat : Int))) (by kernel_rfl) (by kernel_rfl) rfl (by kernel_rfl) (by kernel_rfl) (by kernel_rfl) (fun hc => ?_) (fun hc => ?_)
    · replace hS := cond_t hc hS
      refine zdRun (n := 1) (j := 20) (ts := [[]]) (acc' := [[], [], [], [(48, false)], [], [], [], [(56, false)], [], [], [], [], [], [(48, false)], [], [], [], [(56, false)], [], []]) rfl (by kernel_rfl) (by kernel_rfl) (by kernel_rfl) ?_
      refine zdEnd (by kernel_rfl) (by kernel_rfl) ?_
      refine zkSeq ?_
      refine zrCondT (by kernel_rfl) ?_
      refine zrSeq ?_
      refine zrReg ?_
      refine zlRun (n := 1) (j := 1) rfl (by kernel_rfl) ?_
      refine zlEnd (by kernel_rfl) ?_
      refine zkSeq ?_
      refine zrRet ?_
      refine zkSeqR ?_
      refine zkBlkR ?_
      refine zkSeqR ?_
      refine zkNil ?_
      exact endQ hS hQ (finL_x (by intro h; cases h) (by show _ = _ ∧ _ = _; exact ⟨rfl, by kernel_rfl⟩))
    · replace hS := cond_f hc hS
      refine zdRun (n := 1) (j := 20) (ts := [[]]) (acc' := [[], [], [], [(48, false)], [], [], [], [(56, false)], [], [], [], [], [], [(48, false)], [], [], [], [(56, false)], [], []]) rfl (by kernel_rfl) (by kernel_rfl) (by kernel_rfl) ?_
      refine zdEnd (by kernel_rfl) (by kernel_rfl) ?_
      refine zkSeq ?_
      refine zrCondF (by kernel_rfl) ?_
      refine zrSkip ?_
      refine zkSeq ?_
      refine zrSeq ?_
      refine zrSeq ?_
      refine zrRegD ?_
      refine zdRun (n := 2) (j := 2) (ts := [[], []]) (acc' := [[], []]) rfl (by kernel_rfl) (by kernel_rfl) (by kernel_rfl) ?_
      refine bindE hS (fun m118 hm118 hS => ?_)
      refine zdOp (d := some 55) (op := (.ixA 19 1 (.tmp 54) (.tmp 53))) (g := none) (v := (.r (.ptr 24 0 (0 + m118 * 1)))) (ups := []) (j := 3) (t1 := []) (acc' := [[], [], []]) (by kernel_rfl) (by kernel_rfl) rfl (by kernel_rfl) (by kernel_rfl) (ev_ixA (kk := .i64) (b := 24) (g := 0) (o := 0) (j := p50898) (by kernel_rfl) (by kernel_rfl) hm118) ?_
      refine zdOp (d := some 56) (op := (.load .false 1 (.tmp 55))) (g := none) (v := (.d (.int .u8 ((a1.Levels m118).toNat : Int)))) (ups := []) (j := 4) (t1 := [(24, false)]) (acc' := [[], [], [], [(24, false)]]) (by kernel_rfl) (by kernel_rfl) rfl (by kernel_rfl) (by kernel_rfl) (ev_loadA eU8 (b := 24) (g := 0) (o := 0 + m118 * 1) (f := a1.Levels) (nn := 19) (m := m118) (fo := 0) (pre := []) (post := ((eU8.row 19 a1.Chars) ++ [])) (by kernel_rfl) (by kernel_rfl) (by kernel_rfl) (inR_lt hm118) (by kernel_rfl) (by kernel_rfl) (by kernel_rfl)) ?_
      refine zdBool (d := 57) (op := (.cmpI .eql (.tmp 56) (.const (.int .u8 1)))) (g := none) (j := 5) (t1 := []) (acc' := [[], [], [], [(24, false)], []]) (decide (((a1.Levels m118).toNat : Int) = 1)) (by kernel_rfl) (by kernel_rfl) rfl (by kernel_rfl) (by kernel_rfl) (by kernel_rfl) (fun hc => ?_) (fun hc => ?_)
      · replace hS := cond_t hc hS
        refine zdRun (n := 3) (j := 8) (ts := [[], [], []]) (acc' := [[], [], [], [(24, false)], [], [], [], []]) rfl (by kernel_rfl) (by kernel_rfl) (by kernel_rfl) ?_
        refine bindE hS (fun m119 hm119 hS => ?_)
        refine zdOp (d := some 61) (op := (.ixA 19 1 (.tmp 60) (.tmp 59))) (g := (some (58, true))) (v := (.r (.ptr 32 0 (0 + m119 * 1)))) (ups := []) (j := 9) (t1 := []) (acc' := [[], [], [], [(24, false)], [], [], [], [], []]) (by kernel_rfl) (by kernel_rfl) rfl (by kernel_rfl) (by kernel_rfl) (ev_ixA (kk := .i64) (b := 32) (g := 0) (o := 0) (j := p50898) (by kernel_rfl) (by kernel_rfl) hm119) ?_
        refine zdOp (d := some 62) (op := (.load .false 1 (.tmp 61))) (g := (some (58, true))) (v := (.d (.int .u8 ((a2.Levels m119).toNat : Int)))) (ups := []) (j := 10) (t1 := [(32, false)]) (acc' := [[], [], [], [(24, false)], [], [], [], [], [], [(32, false)]]) (by kernel_rfl) (by kernel_rfl) rfl (by kernel_rfl) (by kernel_rfl) (ev_loadA eU8 (b := 32) (g := 0) (o := 0 + m119 * 1) (f := a2.Levels) (nn := 19) (m := m119) (fo := 0) (pre := []) (post := ((eU8.row 19 a2.Chars) ++ [])) (by kernel_rfl) (by kernel_rfl) (by kernel_rfl) (inR_lt hm119) (by kernel_rfl) (by kernel_rfl) (by kernel_rfl)) ?_
        refine zdBool (d := 63) (op := (.cmpI .neq (.tmp 62) (.const (.int .u8 1)))) (g := (some (58, true))) (j := 11) (t1 := []) (acc' := [[], [], [], [(24, false)], [], [], [], [], [], [(32, false)], []]) (!decide (((a2.Levels m119).toNat : Int) = 1)) (by kernel_rfl) (by kernel_rfl) rfl (by kernel_rfl) (by kernel_rfl) (by kernel_rfl) (fun hc => ?_) (fun hc => ?_)
        · replace hS := cond_t hc hS
          refine zdRun (n := 4) (j := 15) (ts := [[], [], [], []]) (acc' := [[], [], [], [(24, false)], [], [], [], [], [], [(32, false)], [], [], [], [], []]) rfl (by kernel_rfl) (by kernel_rfl) (by kernel_rfl) ?_
          refine bindE hS (fun m120 hm120 hS => ?_)
          refine zdOp (d := some 68) (op := (.ixA 19 1 (.tmp 67) (.tmp 66))) (g := (some (65, true))) (v := (.r (.ptr 48 0 (0 + m120 * 1)))) (ups := []) (j := 16) (t1 := []) (acc' := [[], [], [], [(24, false)], [], [], [], [], [], [(32, false)], [], [], [], [], [], []]) (by kernel_rfl) (by kernel_rfl) rfl (by kernel_rfl) (by kernel_rfl) (ev_ixA (kk := .i64) (b := 48) (g := 0) (o := 0) (j := p50898) (by kernel_rfl) (by kernel_rfl) hm120) ?_
          refine zdOp (d := some 69) (op := (.load .false 1 (.tmp 68))) (g := (some (65, true))) (v := (.d (.int .u8 ((p50895.Levels m120).toNat : Int)))) (ups := []) (j := 17) (t1 := [(48, false)]) (acc' := [[], [], [], [(24, false)], [], [], [], [], [], [(32, false)], [], [], [], [], [], [], [(48, false)]]) (by kernel_rfl) (by kernel_rfl) rfl (by kernel_rfl) (by kernel_rfl) (ev_loadA eU8 (b := 48) (g := 0) (o := 0 + m120 * 1) (f := p50895.Levels) (nn := 19) (m := m120) (fo := 0) (pre := []) (post := ((eU8.row 19 p50895.Chars) ++ [])) (by kernel_rfl) (by kernel_rfl) (by kernel_rfl) (inR_lt hm120) (by kernel_rfl) (by kernel_rfl) (by kernel_rfl)) ?_
          refine zdBool (d := 70) (op := (.cmpI .neq (.tmp 69) (.const (.int .u8 1)))) (g := (some (65, true))) (j := 18) (t1 := []) (acc' := [[], [], [], [(24, false)], [], [], [], [], [], [(32, false)], [], [], [], [], [], [], [(48, false)], []]) (!decide (((p50895.Levels m120).toNat : Int) = 1)) (by kernel_rfl) (by kernel_rfl) rfl (by kernel_rfl) (by kernel_rfl) (by kernel_rfl) (fun hc => ?_) (fun hc => ?_)
          · replace hS := cond_t hc hS
            refine zdRun (n := 12) (j := 30) (ts := [[], [], [], [], [], [], [], [], [], [], [], []]) (acc' := [[], [], [], [(24, false)], [], [], [], [], [], [(32, false)], [], [], [], [], [], [], [(48, false)], [], [], [], [], [], [], [], [], [], [], [], [], []]) rfl (by kernel_rfl) (by kernel_rfl) (by kernel_rfl) ?_
            refine zdEnd (by kernel_rfl) (by kernel_rfl) ?_
            refine zkSeq ?_
            refine zrCondT (by kernel_rfl) ?_
            refine zrSeq ?_
            refine zrReg ?_
            refine zlRun (n := 1) (j := 1) rfl (by kernel_rfl) ?_
            refine zlEnd (by kernel_rfl) ?_
            refine zkSeq ?_
            refine zrRet ?_
            refine zkSeqR ?_
            refine zkBlkR ?_
            refine zkSeqR ?_
            refine zkNil ?_
            exact endQ hS hQ (finL_x (by intro h; cases h) (by show _ = _ ∧ _ = _; exact ⟨rfl, by kernel_rfl⟩))
          · replace hS := cond_f hc hS
            refine zdRun (n := 3) (j := 21) (ts := [[], [], []]) (acc' := [[], [], [], [(24, false)], [], [], [], [], [], [(32, false)], [], [], [], [], [], [], [(48, false)], [], [], [], []]) rfl (by kernel_rfl) (by kernel_rfl) (by kernel_rfl) ?_
            refine bindE hS (fun m121 hm121 hS => ?_)
            refine zdOp (d := some 74) (op := (.ixA 19 1 (.tmp 73) (.tmp 72))) (g := (some (71, false))) (v := (.r (.ptr 48 0 (19 + m121 * 1)))) (ups := []) (j := 22) (t1 := []) (acc' := [[], [], [], [(24, false)], [], [], [], [], [], [(32, false)], [], [], [], [], [], [], [(48, false)], [], [], [], [], []]) (by kernel_rfl) (by kernel_rfl) rfl (by kernel_rfl) (by kernel_rfl) (ev_ixA (kk := .i64) (b := 48) (g := 0) (o := 19) (j := p50898) (by kernel_rfl) (by kernel_rfl) hm121) ?_
            refine zdOp (d := some 75) (op := (.load .false 1 (.tmp 74))) (g := (some (71, false))) (v := (.d (.int .u8 ((p50895.Chars m121).toNat : Int)))) (ups := []) (j := 23) (t1 := [(48, false)]) (acc' := [[], [], [], [(24, false)], [], [], [], [], [], [(32, false)], [], [], [], [], [], [], [(48, false)], [], [], [], [], [], [(48, false)]]) (by kernel_rfl) (by kernel_rfl) rfl (by kernel_rfl) (by kernel_rfl) (ev_loadA eU8 (b := 48) (g := 0) (o := 19 + m121 * 1) (f := p50895.Chars) (nn := 19) (m := m121) (fo := 0) (pre := ((eU8.row 19 p50895.Levels) ++ [])) (post := []) (by kernel_rfl) (by kernel_rfl) (by kernel_rfl) (inR_lt hm121) (by kernel_rfl) (by kernel_rfl) (by kernel_rfl)) ?_
            refine zdRun (n := 2) (j := 25) (ts := [[], []]) (acc' := [[], [], [], [(24, false)], [], [], [], [], [], [(32, false)], [], [], [], [], [], [], [(48, false)], [], [], [], [], [], [(48, false)], [], []]) rfl (by kernel_rfl) (by kernel_rfl) (by kernel_rfl) ?_
            refine bindE hS (fun m122 hm122 hS => ?_)
            refine zdOp (d := some 78) (op := (.ixA 19 1 (.tmp 77) (.tmp 76))) (g := (some (71, false))) (v := (.r (.ptr 24 0 (19 + m122 * 1)))) (ups := []) (j := 26) (t1 := []) (acc' := [[], [], [], [(24, false)], [], [], [], [], [], [(32, false)], [], [], [], [], [], [], [(48, false)], [], [], [], [], [], [(48, false)], [], [], []]) (by kernel_rfl) (by kernel_rfl) rfl (by kernel_rfl) (by kernel_rfl) (ev_ixA (kk := .i64) (b := 24) (g := 0) (o := 19) (j := p50898) (by kernel_rfl) (by kernel_rfl) hm122) ?_
            refine zdOp (d := some 79) (op := (.load .false 1 (.tmp 78))) (g := (some (71, false))) (v := (.d (.int .u8 ((a1.Chars m122).toNat : Int)))) (ups := []) (j := 27) (t1 := [(24, false)]) (acc' := [[], [], [], [(24, false)], [], [], [], [], [], [(32, false)], [], [], [], [], [], [], [(48, false)], [], [], [], [], [], [(48, false)], [], [], [], [(24, false)]]) (by kernel_rfl) (by kernel_rfl) rfl (by kernel_rfl) (by kernel_rfl) (ev_loadA eU8 (b := 24) (g := 0) (o := 19 + m122 * 1) (f := a1.Chars) (nn := 19) (m := m122) (fo := 0) (pre := ((eU8.row 19 a1.Levels) ++ [])) (post := []) (by kernel_rfl) (by kernel_rfl) (by kernel_rfl) (inR_lt hm122) (by kernel_rfl) (by kernel_rfl) (by kernel_rfl)) ?_
            refine zdBool (d := 80) (op := (.cmpI .neq (.tmp 75) (.tmp 79))) (g := (some (71, false))) (j := 28) (t1 := []) (acc' := [[], [], [], [(24, false)], [], [], [], [], [], [(32, false)], [], [], [], [], [], [], [(48, false)], [], [], [], [], [], [(48, false)], [], [], [], [(24, false)], []]) (!decide (((p50895.Chars m121).toNat : Int) = ((a1.Chars m122).toNat : Int))) (by kernel_rfl) (by kernel_rfl) rfl (by kernel_rfl) (by kernel_rfl) (by kernel_rfl) (fun hc => ?_) (fun hc => ?_)
            · replace hS := cond_t hc hS
              refine zdRun (n := 2) (j := 30) (ts := [[], []]) (acc' := [[], [], [], [(24, false)], [], [], [], [], [], [(32, false)], [], [], [], [], [], [], [(48, false)], [], [], [], [], [], [(48, false)], [], [], [], [(24, false)], [], [], []]) rfl (by kernel_rfl) (by kernel_rfl) (by kernel_rfl) ?_
              refine zdEnd (by kernel_rfl) (by kernel_rfl) ?_
              refine zkSeq ?_
              refine zrCondT (by kernel_rfl) ?_
              refine zrSeq ?_
              refine zrReg ?_
              refine zlRun (n := 1) (j := 1) rfl (by kernel_rfl) ?_
              refine zlEnd (by kernel_rfl) ?_
              refine zkSeq ?_
              refine zrRet ?_
              refine zkSeqR ?_
              refine zkBlkR ?_
              refine zkSeqR ?_
              refine zkNil ?_
              exact endQ hS hQ (finL_x (by intro h; cases h) (by show _ = _ ∧ _ = _; exact ⟨rfl, by kernel_rfl⟩))
            · replace hS := cond_f hc hS
              refine zdRun (n := 2) (j := 30) (ts := [[], []]) (acc' := [[], [], [], [(24, false)], [], [], [], [], [], [(32, false)], [], [], [], [], [], [], [(48, false)], [], [], [], [], [], [(48, false)], [], [], [], [(24, false)], [], [], []]) rfl (by kernel_rfl) (by kernel_rfl) (by kernel_rfl) ?_
              refine zdEnd (by kernel_rfl) (by kernel_rfl) ?_
              refine zkSeq ?_
              refine zrCondF (by kernel_rfl) ?_
              refine zrSkip ?_
              refine zkSeq ?_
              refine zrSeq ?_
              refine zrRegD ?_
              refine zdRun (n := 2) (j := 2) (ts := [[], []]) (acc' := [[], []]) rfl (by kernel_rfl) (by kernel_rfl) (by kernel_rfl) ?_
              refine bindE hS (fun m123 hm123 hS => ?_)
              refine zdOp (d := some 85) (op := (.ixA 19 1 (.tmp 84) (.tmp 83))) (g := none) (v := (.r (.ptr 32 0 (0 + m123 * 1)))) (ups := []) (j := 3) (t1 := []) (acc' := [[], [], []]) (by kernel_rfl) (by kernel_rfl) rfl (by kernel_rfl) (by kernel_rfl) (ev_ixA (kk := .i64) (b := 32) (g := 0) (o := 0) (j := p50898) (by kernel_rfl) (by kernel_rfl) hm123) ?_
              refine zdOp (d := some 86) (op := (.load .false 1 (.tmp 85))) (g := none) (v := (.d (.int .u8 ((a2.Levels m123).toNat : Int)))) (ups := []) (j := 4) (t1 := [(32, false)]) (acc' := [[], [], [], [(32, false)]]) (by kernel_rfl) (by kernel_rfl) rfl (by kernel_rfl) (by kernel_rfl) (ev_loadA eU8 (b := 32) (g := 0) (o := 0 + m123 * 1) (f := a2.Levels) (nn := 19) (m := m123) (fo := 0) (pre := []) (post := ((eU8.row 19 a2.Chars) ++ [])) (by kernel_rfl) (by kernel_rfl) (by kernel_rfl) (inR_lt hm123) (by kernel_rfl) (by kernel_rfl) (by kernel_rfl)) ?_
              refine zdBool (d := 87) (op := (.cmpI .eql (.tmp 86) (.const (.int .u8 1)))) (g := none) (j := 5) (t1 := []) (acc' := [[], [], [], [(32, false)], []]) (decide (((a2.Levels m123).toNat : Int) = 1)) (by kernel_rfl) (by kernel_rfl) rfl (by kernel_rfl) (by kernel_rfl) (by kernel_rfl) (fun hc => ?_) (fun hc => ?_)
              · replace hS := cond_t hc hS
                refine zdRun (n := 3) (j := 8) (ts := [[], [], []]) (acc' := [[], [], [], [(32, false)], [], [], [], []]) rfl (by kernel_rfl) (by kernel_rfl) (by kernel_rfl) ?_
                refine bindE hS (fun m124 hm124 hS => ?_)
                refine zdOp (d := some 91) (op := (.ixA 19 1 (.tmp 90) (.tmp 89))) (g := (some (88, true))) (v := (.r (.ptr 24 0 (0 + m124 * 1)))) (ups := []) (j := 9) (t1 := []) (acc' := [[], [], [], [(32, false)], [], [], [], [], []]) (by kernel_rfl) (by kernel_rfl) rfl (by kernel_rfl) (by kernel_rfl) (ev_ixA (kk := .i64) (b := 24) (g := 0) (o := 0) (j := p50898) (by kernel_rfl) (by kernel_rfl) hm124) ?_
                refine zdOp (d := some 92) (op := (.load .false 1 (.tmp 91))) (g := (some (88, true))) (v := (.d (.int .u8 ((a1.Levels m124).toNat : Int)))) (ups := []) (j := 10) (t1 := [(24, false)]) (acc' := [[], [], [], [(32, false)], [], [], [], [], [], [(24, false)]]) (by kernel_rfl) (by kernel_rfl) rfl (by kernel_rfl) (by kernel_rfl) (ev_loadA eU8 (b := 24) (g := 0) (o := 0 + m124 * 1) (f := a1.Levels) (nn := 19) (m := m124) (fo := 0) (pre := []) (post := ((eU8.row 19 a1.Chars) ++ [])) (by kernel_rfl) (by kernel_rfl) (by kernel_rfl) (inR_lt hm124) (by kernel_rfl) (by kernel_rfl) (by kernel_rfl)) ?_
                refine zdBool (d := 93) (op := (.cmpI .eql (.tmp 92) (.const (.int .u8 2)))) (g := (some (88, true))) (j := 11) (t1 := []) (acc' := [[], [], [], [(32, false)], [], [], [], [], [], [(24, false)], []]) (decide (((a1.Levels m124).toNat : Int) = 2)) (by kernel_rfl) (by kernel_rfl) rfl (by kernel_rfl) (by kernel_rfl) (by kernel_rfl) (fun hc => ?_) (fun hc => ?_)
                · replace hS := cond_t hc hS
                  refine zdRun (n := 4) (j := 15) (ts := [[], [], [], []]) (acc' := [[], [], [], [(32, false)], [], [], [], [], [], [(24, false)], [], [], [], [], []]) rfl (by kernel_rfl) (by kernel_rfl) (by kernel_rfl) ?_
                  refine bindE hS (fun m125 hm125 hS => ?_)
                  refine zdOp (d := some 98) (op := (.ixA 19 1 (.tmp 97) (.tmp 96))) (g := (some (95, true))) (v := (.r (.ptr 48 0 (0 + m125 * 1)))) (ups := []) (j := 16) (t1 := []) (acc' := [[], [], [], [(32, false)], [], [], [], [], [], [(24, false)], [], [], [], [], [], []]) (by kernel_rfl) (by kernel_rfl) rfl (by kernel_rfl) (by kernel_rfl) (ev_ixA (kk := .i64) (b := 48) (g := 0) (o := 0) (j := p50898) (by kernel_rfl) (by kernel_rfl) hm125) ?_
                  refine zdOp (d := some 99) (op := (.load .false 1 (.tmp 98))) (g := (some (95, true))) (v := (.d (.int .u8 ((p50895.Levels m125).toNat : Int)))) (ups := []) (j := 17) (t1 := [(48, false)]) (acc' := [[], [], [], [(32, false)], [], [], [], [], [], [(24, false)], [], [], [], [], [], [], [(48, false)]]) (by kernel_rfl) (by kernel_rfl) rfl (by kernel_rfl) (by kernel_rfl) (ev_loadA eU8 (b := 48) (g := 0) (o := 0 + m125 * 1) (f := p50895.Levels) (nn := 19) (m := m125) (fo := 0) (pre := []) (post := ((eU8.row 19 p50895.Chars) ++ [])) (by kernel_rfl) (by kernel_rfl) (by kernel_rfl) (inR_lt hm125) (by kernel_rfl) (by kernel_rfl) (by kernel_rfl)) ?_
                  refine zdBool (d := 100) (op := (.cmpI .neq (.tmp 99) (.const (.int .u8 1)))) (g := (some (95, true))) (j := 18) (t1 := []) (acc' := [[], [], [], [(32, false)], [], [], [], [], [], [(24, false)], [], [], [], [], [], [], [(48, false)], []]) (!decide (((p50895.Levels m125).toNat : Int) = 1)) (by kernel_rfl) (by kernel_rfl) rfl (by kernel_rfl) (by kernel_rfl) (by kernel_rfl) (fun hc => ?_) (fun hc => ?_)
                  · replace hS := cond_t hc hS
                    refine zdRun (n := 12) (j := 30) (ts := [[], [], [], [], [], [], [], [], [], [], [], []]) (acc' := [[], [], [], [(32, false)], [], [], [], [], [], [(24, false)], [], [], [], [], [], [], [(48, false)], [], [], [], [], [], [], [], [], [], [], [], [], []]) rfl (by kernel_rfl) (by kernel_rfl) (by kernel_rfl) ?_
                    refine zdEnd (by kernel_rfl) (by kernel_rfl) ?_
                    refine zkSeq ?_
                    refine zrCondT (by kernel_rfl) ?_
                    refine zrSeq ?_
                    refine zrReg ?_
                    refine zlRun (n := 1) (j := 1) rfl (by kernel_rfl) ?_
                    refine zlEnd (by kernel_rfl) ?_
                    refine zkSeq ?_
                    refine zrRet ?_
                    refine zkBlkR ?_
                    refine zkSeqR ?_
                    refine zkNil ?_
                    exact endQ hS hQ (finL_x (by intro h; cases h) (by show _ = _ ∧ _ = _; exact ⟨rfl, by kernel_rfl⟩))
                  · replace hS := cond_f hc hS
                    refine zdRun (n := 3) (j := 21) (ts := [[], [], []]) (acc' := [[], [], [], [(32, false)], [], [], [], [], [], [(24, false)], [], [], [], [], [], [], [(48, false)], [], [], [], []]) rfl (by kernel_rfl) (by kernel_rfl) (by kernel_rfl) ?_
                    refine bindE hS (fun m126 hm126 hS => ?_)
                    refine zdOp (d := some 104) (op := (.ixA 19 1 (.tmp 103) (.tmp 102))) (g := (some (101, false))) (v := (.r (.ptr 48 0 (19 + m126 * 1)))) (ups := []) (j := 22) (t1 := []) (acc' := [[], [], [], [(32, false)], [], [], [], [], [], [(24, false)], [], [], [], [], [], [], [(48, false)], [], [], [], [], []]) (by kernel_rfl) (by kernel_rfl) rfl (by kernel_rfl) (by kernel_rfl) (ev_ixA (kk := .i64) (b := 48) (g := 0) (o := 19) (j := p50898) (by kernel_rfl) (by kernel_rfl) hm126) ?_
                    refine zdOp (d := some 105) (op := (.load .false 1 (.tmp 104))) (g := (some (101, false))) (v := (.d (.int .u8 ((p50895.Chars m126).toNat : Int)))) (ups := []) (j := 23) (t1 := [(48, false)]) (acc' := [[], [], [], [(32, false)], [], [], [], [], [], [(24, false)], [], [], [], [], [], [], [(48, false)], [], [], [], [], [], [(48, false)]]) (by kernel_rfl) (by kernel_rfl) rfl (by kernel_rfl) (by kernel_rfl) (ev_loadA eU8 (b := 48) (g := 0) (o := 19 + m126 * 1) (f := p50895.Chars) (nn := 19) (m := m126) (fo := 0) (pre := ((eU8.row 19 p50895.Levels) ++ [])) (post := []) (by kernel_rfl) (by kernel_rfl) (by kernel_rfl) (inR_lt hm126) (by kernel_rfl) (by kernel_rfl) (by kernel_rfl)) ?_
                    refine zdRun (n := 2) (j := 25) (ts := [[], []]) (acc' := [[], [], [], [(32, false)], [], [], [], [], [], [(24, false)], [], [], [], [], [], [], [(48, false)], [], [], [], [], [], [(48, false)], [], []]) rfl (by kernel_rfl) (by kernel_rfl) (by kernel_rfl) ?_
                    refine bindE hS (fun m127 hm127 hS => ?_)
                    refine zdOp (d := some 108) (op := (.ixA 19 1 (.tmp 107) (.tmp 106))) (g := (some (101, false))) (v := (.r (.ptr 32 0 (19 + m127 * 1)))) (ups := []) (j := 26) (t1 := []) (acc' := [[], [], [], [(32, false)], [], [], [], [], [], [(24, false)], [], [], [], [], [], [], [(48, false)], [], [], [], [], [], [(48, false)], [], [], []]) (by kernel_rfl) (by kernel_rfl) rfl (by kernel_rfl) (by kernel_rfl) (ev_ixA (kk := .i64) (b := 32) (g := 0) (o := 19) (j := p50898) (by kernel_rfl) (by kernel_rfl) hm127) ?_
                    refine zdOp (d := some 109) (op := (.load .false 1 (.tmp 108))) (g := (some (101, false))) (v := (.d (.int .u8 ((a2.Chars m127).toNat : Int)))) (ups := []) (j := 27) (t1 := [(32, false)]) (acc' := [[], [], [], [(32, false)], [], [], [], [], [], [(24, false)], [], [], [], [], [], [], [(48, false)], [], [], [], [], [], [(48, false)], [], [], [], [(32, false)]]) (by kernel_rfl) (by kernel_rfl) rfl (by kernel_rfl) (by kernel_rfl) (ev_loadA eU8 (b := 32) (g := 0) (o := 19 + m127 * 1) (f := a2.Chars) (nn := 19) (m := m127) (fo := 0) (pre := ((eU8.row 19 a2.Levels) ++ [])) (post := []) (by kernel_rfl) (by kernel_rfl) (by kernel_rfl) (inR_lt hm127) (by kernel_rfl) (by kernel_rfl) (by kernel_rfl)) ?_
                    refine zdBool (d := 110) (op := (.cmpI .neq (.tmp 105) (.tmp 109))) (g := (some (101, false))) (j := 28) (t1 := []) (acc' := [[], [], [], [(32, false)], [], [], [], [], [], [(24, false)], [], [], [], [], [], [], [(48, false)], [], [], [], [], [], [(48, false)], [], [], [], [(32, false)], []]) (!decide (((p50895.Chars m126).toNat : Int) = ((a2.Chars m127).toNat : Int))) (by kernel_rfl) (by kernel_rfl) rfl (by kernel_rfl) (by kernel_rfl) (by kernel_rfl) (fun hc => ?_) (fun hc => ?_)
                    · replace hS := cond_t hc hS
                      refine zdRun (n := 2) (j := 30) (ts := [[], []]) (acc' := [[], [], [], [(32, false)], [], [], [], [], [], [(24, false)], [], [], [], [], [], [], [(48, false)], [], [], [], [], [], [(48, false)], [], [], [], [(32, false)], [], [], []]) rfl (by kernel_rfl) (by kernel_rfl) (by kernel_rfl) ?_
                      refine zdEnd (by kernel_rfl) (by kernel_rfl) ?_
                      refine zkSeq ?_
                      refine zrCondT (by kernel_rfl) ?_
                      refine zrSeq ?_
                      refine zrReg ?_
                      refine zlRun (n := 1) (j := 1) rfl (by kernel_rfl) ?_
                      refine zlEnd (by kernel_rfl) ?_
                      refine zkSeq ?_
                      refine zrRet ?_
                      refine zkBlkR ?_
                      refine zkSeqR ?_
                      refine zkNil ?_
                      exact endQ hS hQ (finL_x (by intro h; cases h) (by show _ = _ ∧ _ = _; exact ⟨rfl, by kernel_rfl⟩))
                    · replace hS := cond_f hc hS
                      refine zdRun (n := 2) (j := 30) (ts := [[], []]) (acc' := [[], [], [], [(32, false)], [], [], [], [], [], [(24, false)], [], [], [], [], [], [], [(48, false)], [], [], [], [], [], [(48, false)], [], [], [], [(32, false)], [], [], []]) rfl (by kernel_rfl) (by kernel_rfl) (by kernel_rfl) ?_
                      refine zdEnd (by kernel_rfl) (by kernel_rfl) ?_
                      refine zkSeq ?_
                      refine zrCondF (by kernel_rfl) ?_
                      refine zrSkip ?_
                      refine zkBlk ?_
                      refine zkSeq ?_
                      refine zrReg ?_
                      refine zlRun (n := 3) (j := 3) rfl (by kernel_rfl) ?_
                      refine zlEnd (by kernel_rfl) ?_
                      refine zkNil ?_
                      exact endQ hS hQ (finL_n (by show keepSt _ _ _ _ = _; kernel_rfl))
                · replace hS := cond_f hc hS
                  refine zdRun (n := 19) (j := 30) (ts := [[], [], [], [], [], [], [], [], [], [], [], [], [], [], [], [], [], [], []]) (acc' := [[], [], [], [(32, false)], [], [], [], [], [], [(24, false)], [], [], [], [], [], [], [], [], [], [], [], [], [], [], [], [], [], [], [], []]) rfl (by kernel_rfl) (by kernel_rfl) (by kernel_rfl) ?_
                  refine zdEnd (by kernel_rfl) (by kernel_rfl) ?_
                  refine zkSeq ?_
                  refine zrCondF (by kernel_rfl) ?_
                  refine zrSkip ?_
                  refine zkBlk ?_
                  refine zkSeq ?_
                  refine zrReg ?_
                  refine zlRun (n := 3) (j := 3) rfl (by kernel_rfl) ?_
                  refine zlEnd (by kernel_rfl) ?_
                  refine zkNil ?_
                  exact endQ hS hQ (finL_n (by show keepSt _ _ _ _ = _; kernel_rfl))
              · replace hS := cond_f hc hS
                refine zdRun (n := 25) (j := 30) (ts := [[], [], [], [], [], [], [], [], [], [], [], [], [], [], [], [], [], [], [], [], [], [], [], [], []]) (acc' := [[], [], [], [(32, false)], [], [], [], [], [], [], [], [], [], [], [], [], [], [], [], [], [], [], [], [], [], [], [], [], [], []]) rfl (by kernel_rfl) (by kernel_rfl) (by kernel_rfl) ?_
                refine zdEnd (by kernel_rfl) (by kernel_rfl) ?_
                refine zkSeq ?_
                refine zrCondF (by kernel_rfl) ?_
                refine zrSkip ?_
                refine zkBlk ?_
                refine zkSeq ?_
                refine zrReg ?_
                refine zlRun (n := 3) (j := 3) rfl (by kernel_rfl) ?_
                refine zlEnd (by kernel_rfl) ?_
                refine zkNil ?_
                exact endQ hS hQ (finL_n (by show keepSt _ _ _ _ = _; kernel_rfl))
        · replace hS := cond_f hc hS
          refine zdRun (n := 19) (j := 30) (ts := [[], [], [], [], [], [], [], [], [], [], [], [], [], [], [], [], [], [], []]) (acc' := [[], [], [], [(24, false)], [], [], [], [], [], [(32, false)], [], [], [], [], [], [], [], [], [], [], [], [], [], [], [], [], [], [], [], []]) rfl (by kernel_rfl) (by kernel_rfl) (by kernel_rfl) ?_
          refine zdEnd (by kernel_rfl) (by kernel_rfl) ?_
          refine zkSeq ?_
          refine zrCondF (by kernel_rfl) ?_
          refine zrSkip ?_
          refine zkSeq ?_
          refine zrSeq ?_
          refine zrRegD ?_
          refine zdRun (n := 2) (j := 2) (ts := [[], []]) (acc' := [[], []]) rfl (by kernel_rfl) (by kernel_rfl) (by kernel_rfl) ?_
          refine bindE hS (fun m128 hm128 hS => ?_)
          refine zdOp (d := some 85) (op := (.ixA 19 1 (.tmp 84) (.tmp 83))) (g := none) (v := (.r (.ptr 32 0 (0 + m128 * 1)))) (ups := []) (j := 3) (t1 := []) (acc' := [[], [], []]) (by kernel_rfl) (by kernel_rfl) rfl (by kernel_rfl) (by kernel_rfl) (ev_ixA (kk := .i64) (b := 32) (g := 0) (o := 0) (j := p50898) (by kernel_rfl) (by kernel_rfl) hm128) ?_
          refine zdOp (d := some 86) (op := (.load .false 1 (.tmp 85))) (g := none) (v := (.d (.int .u8 ((a2.Levels m128).toNat : Int)))) (ups := []) (j := 4) (t1 := [(32, false)]) (acc' := [[], [], [], [(32, false)]]) (by kernel_rfl) (by kernel_rfl) rfl (by kernel_rfl) (by kernel_rfl) (ev_loadA eU8 (b := 32) (g := 0) (o := 0 + m128 * 1) (f := a2.Levels) (nn := 19) (m := m128) (fo := 0) (pre := []) (post := ((eU8.row 19 a2.Chars) ++ [])) (by kernel_rfl) (by kernel_rfl) (by kernel_rfl) (inR_lt hm128) (by kernel_rfl) (by kernel_rfl) (by kernel_rfl)) ?_
          refine zdBool (d := 87) (op := (.cmpI .eql (.tmp 86) (.const (.int .u8 1)))) (g := none) (j := 5) (t1 := []) (acc' := [[], [], [], [(32, false)], []]) (decide (((a2.Levels m128).toNat : Int) = 1)) (by kernel_rfl) (by kernel_rfl) rfl (by kernel_rfl) (by kernel_rfl) (by kernel_rfl) (fun hc => ?_) (fun hc => ?_)
          · replace hS := cond_t hc hS
            refine zdRun (n := 3) (j := 8) (ts := [[], [], []]) (acc' := [[], [], [], [(32, false)], [], [], [], []]) rfl (by kernel_rfl) (by kernel_rfl) (by kernel_rfl) ?_
            refine bindE hS (fun m129 hm129 hS => ?_)
            refine zdOp (d := some 91) (op := (.ixA 19 1 (.tmp 90) (.tmp 89))) (g := (some (88, true))) (v := (.r (.ptr 24 0 (0 + m129 * 1)))) (ups := []) (j := 9) (t1 := []) (acc' := [[], [], [], [(32, false)], [], [], [], [], []]) (by kernel_rfl) (by kernel_rfl) rfl (by kernel_rfl) (by kernel_rfl) (ev_ixA (kk := .i64) (b := 24) (g := 0) (o := 0) (j := p50898) (by kernel_rfl) (by kernel_rfl) hm129) ?_
            refine zdOp (d := some 92) (op := (.load .false 1 (.tmp 91))) (g := (some (88, true))) (v := (.d (.int .u8 ((a1.Levels m129).toNat : Int)))) (ups := []) (j := 10) (t1 := [(24, false)]) (acc' := [[], [], [], [(32, false)], [], [], [], [], [], [(24, false)]]) (by kernel_rfl) (by kernel_rfl) rfl (by kernel_rfl) (by kernel_rfl) (ev_loadA eU8 (b := 24) (g := 0) (o := 0 + m129 * 1) (f := a1.Levels) (nn := 19) (m := m129) (fo := 0) (pre := []) (post := ((eU8.row 19 a1.Chars) ++ [])) (by kernel_rfl) (by kernel_rfl) (by kernel_rfl) (inR_lt hm129) (by kernel_rfl) (by kernel_rfl) (by kernel_rfl)) ?_
            refine zdBool (d := 93) (op := (.cmpI .eql (.tmp 92) (.const (.int .u8 2)))) (g := (some (88, true))) (j := 11) (t1 := []) (acc' := [[], [], [], [(32, false)], [], [], [], [], [], [(24, false)], []]) (decide (((a1.Levels m129).toNat : Int) = 2)) (by kernel_rfl) (by kernel_rfl) rfl (by kernel_rfl) (by kernel_rfl) (by kernel_rfl) (fun hc => ?_) (fun hc => ?_)
            · replace hS := cond_t hc hS
              refine zdRun (n := 4) (j := 15) (ts := [[], [], [], []]) (acc' := [[], [], [], [(32, false)], [], [], [], [], [], [(24, false)], [], [], [], [], []]) rfl (by kernel_rfl) (by kernel_rfl) (by kernel_rfl) ?_
              refine bindE hS (fun m130 hm130 hS => ?_)
              refine zdOp (d := some 98) (op := (.ixA 19 1 (.tmp 97) (.tmp 96))) (g := (some (95, true))) (v := (.r (.ptr 48 0 (0 + m130 * 1)))) (ups := []) (j := 16) (t1 := []) (acc' := [[], [], [], [(32, false)], [], [], [], [], [], [(24, false)], [], [], [], [], [], []]) (by kernel_rfl) (by kernel_rfl) rfl (by kernel_rfl) (by kernel_rfl) (ev_ixA (kk := .i64) (b := 48) (g := 0) (o := 0) (j := p50898) (by kernel_rfl) (by kernel_rfl) hm130) ?_
              refine zdOp (d := some 99) (op := (.load .false 1 (.tmp 98))) (g := (some (95, true))) (v := (.d (.int .u8 ((p50895.Levels m130).toNat : Int)))) (ups := []) (j := 17) (t1 := [(48, false)]) (acc' := [[], [], [], [(32, false)], [], [], [], [], [], [(24, false)], [], [], [], [], [], [], [(48, false)]]) (by kernel_rfl) (by kernel_rfl) rfl (by kernel_rfl) (by kernel_rfl) (ev_loadA eU8 (b := 48) (g := 0) (o := 0 + m130 * 1) (f := p50895.Levels) (nn := 19) (m := m130) (fo := 0) (pre := []) (post := ((eU8.row 19 p50895.Chars) ++ [])) (by kernel_rfl) (by kernel_rfl) (by kernel_rfl) (inR_lt hm130) (by kernel_rfl) (by kernel_rfl) (by kernel_rfl)) ?_
              refine zdBool (d := 100) (op := (.cmpI .neq (.tmp 99) (.const (.int .u8 1)))) (g := (some (95, true))) (j := 18) (t1 := []) (acc' := [[], [], [], [(32, false)], [], [], [], [], [], [(24, false)], [], [], [], [], [], [], [(48, false)], []]) (!decide (((p50895.Levels m130).toNat : Int) = 1)) (by kernel_rfl) (by kernel_rfl) rfl (by kernel_rfl) (by kernel_rfl) (by kernel_rfl) (fun hc => ?_) (fun hc => ?_)
              · replace hS := cond_t hc hS
                refine zdRun (n := 12) (j := 30) (ts := [[], [], [], [], [], [], [], [], [], [], [], []]) (acc' := [[], [], [], [(32, false)], [], [], [], [], [], [(24, false)], [], [], [], [], [], [], [(48, false)], [], [], [], [], [], [], [], [], [], [], [], [], []]) rfl (by kernel_rfl) (by kernel_rfl) (by kernel_rfl) ?_
                refine zdEnd (by kernel_rfl) (by kernel_rfl) ?_
                refine zkSeq ?_
                refine zrCondT (by kernel_rfl) ?_
                refine zrSeq ?_
                refine zrReg ?_
                refine zlRun (n := 1) (j := 1) rfl (by kernel_rfl) ?_
                refine zlEnd (by kernel_rfl) ?_
                refine zkSeq ?_
                refine zrRet ?_
                refine zkBlkR ?_
                refine zkSeqR ?_
                refine zkNil ?_
                exact endQ hS hQ (finL_x (by intro h; cases h) (by show _ = _ ∧ _ = _; exact ⟨rfl, by kernel_rfl⟩))
              · replace hS := cond_f hc hS
                refine zdRun (n := 3) (j := 21) (ts := [[], [], []]) (acc' := [[], [], [], [(32, false)], [], [], [], [], [], [(24, false)], [], [], [], [], [], [], [(48, false)], [], [], [], []]) rfl (by kernel_rfl) (by kernel_rfl) (by kernel_rfl) ?_
                refine bindE hS (fun m131 hm131 hS => ?_)
                refine zdOp (d := some 104) (op := (.ixA 19 1 (.tmp 103) (.tmp 102))) (g := (some (101, false))) (v := (.r (.ptr 48 0 (19 + m131 * 1)))) (ups := []) (j := 22) (t1 := []) (acc' := [[], [], [], [(32, false)], [], [], [], [], [], [(24, false)], [], [], [], [], [], [], [(48, false)], [], [], [], [], []]) (by kernel_rfl) (by kernel_rfl) rfl (by kernel_rfl) (by kernel_rfl) (ev_ixA (kk := .i64) (b := 48) (g := 0) (o := 19) (j := p50898) (by kernel_rfl) (by kernel_rfl) hm131) ?_
                refine zdOp (d := some 105) (op := (.load .false 1 (.tmp 104))) (g := (some (101, false))) (v := (.d (.int .u8 ((p50895.Chars m131).toNat : Int)))) (ups := []) (j := 23) (t1 := [(48, false)]) (acc' := [[], [], [], [(32, false)], [], [], [], [], [], [(24, false)], [], [], [], [], [], [], [(48, false)], [], [], [], [], [], [(48, false)]]) (by kernel_rfl) (by kernel_rfl) rfl (by kernel_rfl) (by kernel_rfl) (ev_loadA eU8 (b := 48) (g := 0) (o := 19 + m131 * 1) (f := p50895.Chars) (nn := 19) (m := m131) (fo := 0) (pre := ((eU8.row 19 p50895.Levels) ++ [])) (post := []) (by kernel_rfl) (by kernel_rfl) (by kernel_rfl) (inR_lt hm131) (by kernel_rfl) (by kernel_rfl) (by kernel_rfl)) ?_
                refine zdRun (n := 2) (j := 25) (ts := [[], []]) (acc' := [[], [], [], [(32, false)], [], [], [], [], [], [(24, false)], [], [], [], [], [], [], [(48, false)], [], [], [], [], [], [(48, false)], [], []]) rfl (by kernel_rfl) (by kernel_rfl) (by kernel_rfl) ?_
                refine bindE hS (fun m132 hm132 hS => ?_)
                refine zdOp (d := some 108) (op := (.ixA 19 1 (.tmp 107) (.tmp 106))) (g := (some (101, false))) (v := (.r (.ptr 32 0 (19 + m132 * 1)))) (ups := []) (j := 26) (t1 := []) (acc' := [[], [], [], [(32, false)], [], [], [], [], [], [(24, false)], [], [], [], [], [], [], [(48, false)], [], [], [], [], [], [(48, false)], [], [], []]) (by kernel_rfl) (by kernel_rfl) rfl (by kernel_rfl) (by kernel_rfl) (ev_ixA (kk := .i64) (b := 32) (g := 0) (o := 19) (j := p50898) (by kernel_rfl) (by kernel_rfl) hm132) ?_
                refine zdOp (d := some 109) (op := (.load .false 1 (.tmp 108))) (g := (some (101, false))) (v := (.d (.int .u8 ((a2.Chars m132).toNat : Int)))) (ups := []) (j := 27) (t1 := [(32, false)]) (acc' := [[], [], [], [(32, false)], [], [], [], [], [], [(24, false)], [], [], [], [], [], [], [(48, false)], [], [], [], [], [], [(48, false)], [], [], [], [(32, false)]]) (by kernel_rfl) (by kernel_rfl) rfl (by kernel_rfl) (by kernel_rfl) (ev_loadA eU8 (b := 32) (g := 0) (o := 19 + m132 * 1) (f := a2.Chars) (nn := 19) (m := m132) (fo := 0) (pre := ((eU8.row 19 a2.Levels) ++ [])) (post := []) (by kernel_rfl) (by kernel_rfl) (by kernel_rfl) (inR_lt hm132) (by kernel_rfl) (by kernel_rfl) (by kernel_rfl)) ?_
                refine zdBool (d := 110) (op := (.cmpI .neq (.tmp 105) (.tmp 109))) (g := (some (101, false))) (j := 28) (t1 := []) (acc' := [[], [], [], [(32, false)], [], [], [], [], [], [(24, false)], [], [], [], [], [], [], [(48, false)], [], [], [], [], [], [(48, false)], [], [], [], [(32, false)], []]) (!decide (((p50895.Chars m131).toNat : Int) = ((a2.Chars m132).toNat : Int))) (by kernel_rfl) (by kernel_rfl) rfl (by kernel_rfl) (by kernel_rfl) (by kernel_rfl) (fun hc => ?_) (fun hc => ?_)
                · replace hS := cond_t hc hS
                  refine zdRun (n := 2) (j := 30) (ts := [[], []]) (acc' := [[], [], [], [(32, false)], [], [], [], [], [], [(24, false)], [], [], [], [], [], [], [(48, false)], [], [], [], [], [], [(48, false)], [], [], [], [(32, false)], [], [], []]) rfl (by kernel_rfl) (by kernel_rfl) (by kernel_rfl) ?_
                  refine zdEnd (by kernel_rfl) (by kernel_rfl) ?_
                  refine zkSeq ?_
                  refine zrCondT (by kernel_rfl) ?_
                  refine zrSeq ?_
                  refine zrReg ?_
                  refine zlRun (n := 1) (j := 1) rfl (by kernel_rfl) ?_
                  refine zlEnd (by kernel_rfl) ?_
                  refine zkSeq ?_
                  refine zrRet ?_
                  refine zkBlkR ?_
                  refine zkSeqR ?_
                  refine zkNil ?_
                  exact endQ hS hQ (finL_x (by intro h; cases h) (by show _ = _ ∧ _ = _; exact ⟨rfl, by kernel_rfl⟩))
                · replace hS := cond_f hc hS
                  refine zdRun (n := 2) (j := 30) (ts := [[], []]) (acc' := [[], [], [], [(32, false)], [], [], [], [], [], [(24, false)], [], [], [], [], [], [], [(48, false)], [], [], [], [], [], [(48, false)], [], [], [], [(32, false)], [], [], []]) rfl (by kernel_rfl) (by kernel_rfl) (by kernel_rfl) ?_
                  refine zdEnd (by kernel_rfl) (by kernel_rfl) ?_
                  refine zkSeq ?_
                  refine zrCondF (by kernel_rfl) ?_
                  refine zrSkip ?_
                  refine zkBlk ?_
                  refine zkSeq ?_
                  refine zrReg ?_
                  refine zlRun (n := 3) (j := 3) rfl (by kernel_rfl) ?_
                  refine zlEnd (by kernel_rfl) ?_
                  refine zkNil ?_
                  exact endQ hS hQ (finL_n (by show keepSt _ _ _ _ = _; kernel_rfl))
            · replace hS := cond_f hc hS
              refine zdRun (n := 19) (j := 30) (ts := [[], [], [], [], [], [], [], [], [], [], [], [], [], [], [], [], [], [], []]) (acc' := [[], [], [], [(32, false)], [], [], [], [], [], [(24, false)], [], [], [], [], [], [], [], [], [], [], [], [], [], [], [], [], [], [], [], []]) rfl (by kernel_rfl) (by kernel_rfl) (by kernel_rfl) ?_
              refine zdEnd (by kernel_rfl) (by kernel_rfl) ?_
              refine zkSeq ?_
              refine zrCondF (by kernel_rfl) ?_
              refine zrSkip ?_
              refine zkBlk ?_
              refine zkSeq ?_
              refine zrReg ?_
              refine zlRun (n := 3) (j := 3) rfl (by kernel_rfl) ?_
              refine zlEnd (by kernel_rfl) ?_
              refine zkNil ?_
              exact endQ hS hQ (finL_n (by show keepSt _ _ _ _ = _; kernel_rfl))
          · replace hS := cond_f hc hS
            refine zdRun (n := 25) (j := 30) (ts := [[], [], [], [], [], [], [], [], [], [], [], [], [], [], [], [], [], [], [], [], [], [], [], [], []]) (acc' := [[], [], [], [(32, false)], [], [], [], [], [], [], [], [], [], [], [], [], [], [], [], [], [], [], [], [], [], [], [], [], [], []]) rfl (by kernel_rfl) (by kernel_rfl) (by kernel_rfl) ?_
            refine zdEnd (by kernel_rfl) (by kernel_rfl) ?_
            refine zkSeq ?_
            refine zrCondF (by kernel_rfl) ?_
            refine zrSkip ?_
            refine zkBlk ?_
            refine zkSeq ?_
            refine zrReg ?_
            refine zlRun (n := 3) (j := 3) rfl (by kernel_rfl) ?_
            refine zlEnd (by kernel_rfl) ?_
            refine zkNil ?_
            exact endQ hS hQ (finL_n (by show keepSt _ _ _ _ = _; kernel_rfl))
      · replace hS := cond_f hc hS
        refine zdRun (n := 25) (j := 30) (ts := [[], [], [], [], [], [], [], [], [], [], [], [], [], [], [], [], [], [], [], [], [], [], [], [], []]) (acc' := [[], [], [], [(24, false)], [], [], [], [], [], [], [], [], [], [], [], [], [], [], [], [], [], [], [], [], [], [], [], [], [], []]) rfl (by kernel_rfl) (by kernel_rfl) (by kernel_rfl) ?_
        refine zdEnd (by kernel_rfl) (by kernel_rfl) ?_
        refine zkSeq ?_
        refine zrCondF (by kernel_rfl) ?_
        refine zrSkip ?_
        refine zkSeq ?_
        refine zrSeq ?_
        refine zrRegD ?_
        refine zdRun (n := 2) (j := 2) (ts := [[], []]) (acc' := [[], []]) rfl (by kernel_rfl) (by kernel_rfl) (by kernel_rfl) ?_
        refine bindE hS (fun m133 hm133 hS => ?_)
        refine zdOp (d := some 85) (op := (.ixA 19 1 (.tmp 84) (.tmp 83))) (g := none) (v := (.r (.ptr 32 0 (0 + m133 * 1)))) (ups := []) (j := 3) (t1 := []) (acc' := [[], [], []]) (by kernel_rfl) (by kernel_rfl) rfl (by kernel_rfl) (by kernel_rfl) (ev_ixA (kk := .i64) (b := 32) (g := 0) (o := 0) (j := p50898) (by kernel_rfl) (by kernel_rfl) hm133) ?_
        refine zdOp (d := some 86) (op := (.load .false 1 (.tmp 85))) (g := none) (v := (.d (.int .u8 ((a2.Levels m133).toNat : Int)))) (ups := []) (j := 4) (t1 := [(32, false)]) (acc' := [[], [], [], [(32, false)]]) (by kernel_rfl) (by kernel_rfl) rfl (by kernel_rfl) (by kernel_rfl) (ev_loadA eU8 (b := 32) (g := 0) (o := 0 + m133 * 1) (f := a2.Levels) (nn := 19) (m := m133) (fo := 0) (pre := []) (post := ((eU8.row 19 a2.Chars) ++ [])) (by kernel_rfl) (by kernel_rfl) (by kernel_rfl) (inR_lt hm133) (by kernel_rfl) (by kernel_rfl) (by kernel_rfl)) ?_
        refine zdBool (d := 87) (op := (.cmpI .eql (.tmp 86) (.const (.int .u8 1)))) (g := none) (j := 5) (t1 := []) (acc' := [[], [], [], [(32, false)], []]) (decide (((a2.Levels m133).toNat : Int) = 1)) (by kernel_rfl) (by kernel_rfl) rfl (by kernel_rfl) (by kernel_rfl) (by kernel_rfl) (fun hc => ?_) (fun hc => ?_)
        · replace hS := cond_t hc hS
          refine zdRun (n := 3) (j := 8) (ts := [[], [], []]) (acc' := [[], [], [], [(32, false)], [], [], [], []]) rfl (by kernel_rfl) (by kernel_rfl) (by kernel_rfl) ?_
          refine bindE hS (fun m134 hm134 hS => ?_)
          refine zdOp (d := some 91) (op := (.ixA 19 1 (.tmp 90) (.tmp 89))) (g := (some (88, true))) (v := (.r (.ptr 24 0 (0 + m134 * 1)))) (ups := []) (j := 9) (t1 := []) (acc' := [[], [], [], [(32, false)], [], [], [], [], []]) (by kernel_rfl) (by kernel_rfl) rfl (by kernel_rfl) (by kernel_rfl) (ev_ixA (kk := .i64) (b := 24) (g := 0) (o := 0) (j := p50898) (by kernel_rfl) (by kernel_rfl) hm134) ?_
          refine zdOp (d := some 92) (op := (.load .false 1 (.tmp 91))) (g := (some (88, true))) (v := (.d (.int .u8 ((a1.Levels m134).toNat : Int)))) (ups := []) (j := 10) (t1 := [(24, false)]) (acc' := [[], [], [], [(32, false)], [], [], [], [], [], [(24, false)]]) (by kernel_rfl) (by kernel_rfl) rfl (by kernel_rfl) (by kernel_rfl) (ev_loadA eU8 (b := 24) (g := 0) (o := 0 + m134 * 1) (f := a1.Levels) (nn := 19) (m := m134) (fo := 0) (pre := []) (post := ((eU8.row 19 a1.Chars) ++ [])) (by kernel_rfl) (by kernel_rfl) (by kernel_rfl) (inR_lt hm134) (by kernel_rfl) (by kernel_rfl) (by kernel_rfl)) ?_
          refine zdBool (d := 93) (op := (.cmpI .eql (.tmp 92) (.const (.int .u8 2)))) (g := (some (88, true))) (j := 11) (t1 := []) (acc' := [[], [], [], [(32, false)], [], [], [], [], [], [(24, false)], []]) (decide (((a1.Levels m134).toNat : Int) = 2)) (by kernel_rfl) (by kernel_rfl) rfl (by kernel_rfl) (by kernel_rfl) (by kernel_rfl) (fun hc => ?_) (fun hc => ?_)
          · replace hS := cond_t hc hS
            refine zdRun (n := 4) (j := 15) (ts := [[], [], [], []]) (acc' := [[], [], [], [(32, false)], [], [], [], [], [], [(24, false)], [], [], [], [], []]) rfl (by kernel_rfl) (by kernel_rfl) (by kernel_rfl) ?_
            refine bindE hS (fun m135 hm135 hS => ?_)
            refine zdOp (d := some 98) (op := (.ixA 19 1 (.tmp 97) (.tmp 96))) (g := (some (95, true))) (v := (.r (.ptr 48 0 (0 + m135 * 1)))) (ups := []) (j := 16) (t1 := []) (acc' := [[], [], [], [(32, false)], [], [], [], [], [], [(24, false)], [], [], [], [], [], []]) (by kernel_rfl) (by kernel_rfl) rfl (by kernel_rfl) (by kernel_rfl) (ev_ixA (kk := .i64) (b := 48) (g := 0) (o := 0) (j := p50898) (by kernel_rfl) (by kernel_rfl) hm135) ?_
            refine zdOp (d := some 99) (op := (.load .false 1 (.tmp 98))) (g := (some (95, true))) (v := (.d (.int .u8 ((p50895.Levels m135).toNat : Int)))) (ups := []) (j := 17) (t1 := [(48, false)]) (acc' := [[], [], [], [(32, false)], [], [], [], [], [], [(24, false)], [], [], [], [], [], [], [(48, false)]]) (by kernel_rfl) (by kernel_rfl) rfl (by kernel_rfl) (by kernel_rfl) (ev_loadA eU8 (b := 48) (g := 0) (o := 0 + m135 * 1) (f := p50895.Levels) (nn := 19) (m := m135) (fo := 0) (pre := []) (post := ((eU8.row 19 p50895.Chars) ++ [])) (by kernel_rfl) (by kernel_rfl) (by kernel_rfl) (inR_lt hm135) (by kernel_rfl) (by kernel_rfl) (by kernel_rfl)) ?_
            refine zdBool (d := 100) (op := (.cmpI .neq (.tmp 99) (.const (.int .u8 1)))) (g := (some (95, true))) (j := 18) (t1 := []) (acc' := [[], [], [], [(32, false)], [], [], [], [], [], [(24, false)], [], [], [], [], [], [], [(48, false)], []]) (!decide (((p50895.Levels m135).toNat : Int) = 1)) (by kernel_rfl) (by kernel_rfl) rfl (by kernel_rfl) (by kernel_rfl) (by kernel_rfl) (fun hc => ?_) (fun hc => ?_)
            · replace hS := cond_t hc hS
              refine zdRun (n := 12) (j := 30) (ts := [[], [], [], [], [], [], [], [], [], [], [], []]) (acc' := [[], [], [], [(32, false)], [], [], [], [], [], [(24, false)], [], [], [], [], [], [], [(48, false)], [], [], [], [], [], [], [], [], [], [], [], [], []]) rfl (by kernel_rfl) (by kernel_rfl) (by kernel_rfl) ?_
              refine zdEnd (by kernel_rfl) (by kernel_rfl) ?_
              refine zkSeq ?_
              refine zrCondT (by kernel_rfl) ?_
              refine zrSeq ?_
              refine zrReg ?_
              refine zlRun (n := 1) (j := 1) rfl (by kernel_rfl) ?_
              refine zlEnd (by kernel_rfl) ?_
              refine zkSeq ?_
              refine zrRet ?_
              refine zkBlkR ?_
              refine zkSeqR ?_
              refine zkNil ?_
              exact endQ hS hQ (finL_x (by intro h; cases h) (by show _ = _ ∧ _ = _; exact ⟨rfl, by kernel_rfl⟩))
            · replace hS := cond_f hc hS
              refine zdRun (n := 3) (j := 21) (ts := [[], [], []]) (acc' := [[], [], [], [(32, false)], [], [], [], [], [], [(24, false)], [], [], [], [], [], [], [(48, false)], [], [], [], []]) rfl (by kernel_rfl) (by kernel_rfl) (by kernel_rfl) ?_
              refine bindE hS (fun m136 hm136 hS => ?_)
              refine zdOp (d := some 104) (op := (.ixA 19 1 (.tmp 103) (.tmp 102))) (g := (some (101, false))) (v := (.r (.ptr 48 0 (19 + m136 * 1)))) (ups := []) (j := 22) (t1 := []) (acc' := [[], [], [], [(32, false)], [], [], [], [], [], [(24, false)], [], [], [], [], [], [], [(48, false)], [], [], [], [], []]) (by kernel_rfl) (by kernel_rfl) rfl (by kernel_rfl) (by kernel_rfl) (ev_ixA (kk := .i64) (b := 48) (g := 0) (o := 19) (j := p50898) (by kernel_rfl) (by kernel_rfl) hm136) ?_
              refine zdOp (d := some 105) (op := (.load .false 1 (.tmp 104))) (g := (some (101, false))) (v := (.d (.int .u8 ((p50895.Chars m136).toNat : Int)))) (ups := []) (j := 23) (t1 := [(48, false)]) (acc' := [[], [], [], [(32, false)], [], [], [], [], [], [(24, false)], [], [], [], [], [], [], [(48, false)], [], [], [], [], [], [(48, false)]]) (by kernel_rfl) (by kernel_rfl) rfl (by kernel_rfl) (by kernel_rfl) (ev_loadA eU8 (b := 48) (g := 0) (o := 19 + m136 * 1) (f := p50895.Chars) (nn := 19) (m := m136) (fo := 0) (pre := ((eU8.row 19 p50895.Levels) ++ [])) (post := []) (by kernel_rfl) (by kernel_rfl) (by kernel_rfl) (inR_lt hm136) (by kernel_rfl) (by kernel_rfl) (by kernel_rfl)) ?_
              refine zdRun (n := 2) (j := 25) (ts := [[], []]) (acc' := [[], [], [], [(32, false)], [], [], [], [], [], [(24, false)], [], [], [], [], [], [], [(48, false)], [], [], [], [], [], [(48, false)], [], []]) rfl (by kernel_rfl) (by kernel_rfl) (by kernel_rfl) ?_
              refine bindE hS (fun m137 hm137 hS => ?_)
              refine zdOp (d := some 108) (op := (.ixA 19 1 (.tmp 107) (.tmp 106))) (g := (some (101, false))) (v := (.r (.ptr 32 0 (19 + m137 * 1)))) (ups := []) (j := 26) (t1 := []) (acc' := [[], [], [], [(32, false)], [], [], [], [], [], [(24, false)], [], [], [], [], [], [], [(48, false)], [], [], [], [], [], [(48, false)], [], [], []]) (by kernel_rfl) (by kernel_rfl) rfl (by kernel_rfl) (by kernel_rfl) (ev_ixA (kk := .i64) (b := 32) (g := 0) (o := 19) (j := p50898) (by kernel_rfl) (by kernel_rfl) hm137) ?_
              refine zdOp (d := some 109) (op := (.load .false 1 (.tmp 108))) (g := (some (101, false))) (v := (.d (.int .u8 ((a2.Chars m137).toNat : Int)))) (ups := []) (j := 27) (t1 := [(32, false)]) (acc' := [[], [], [], [(32, false)], [], [], [], [], [], [(24, false)], [], [], [], [], [], [], [(48, false)], [], [], [], [], [], [(48, false)], [], [], [], [(32, false)]]) (by kernel_rfl) (by kernel_rfl) rfl (by kernel_rfl) (by kernel_rfl) (ev_loadA eU8 (b := 32) (g := 0) (o := 19 + m137 * 1) (f := a2.Chars) (nn := 19) (m := m137) (fo := 0) (pre := ((eU8.row 19 a2.Levels) ++ [])) (post := []) (by kernel_rfl) (by kernel_rfl) (by kernel_rfl) (inR_lt hm137) (by kernel_rfl) (by kernel_rfl) (by kernel_rfl)) ?_
              refine zdBool (d := 110) (op := (.cmpI .neq (.tmp 105) (.tmp 109))) (g := (some (101, false))) (j := 28) (t1 := []) (acc' := [[], [], [], [(32, false)], [], [], [], [], [], [(24, false)], [], [], [], [], [], [], [(48, false)], [], [], [], [], [], [(48, false)], [], [], [], [(32, false)], []]) (!decide (((p50895.Chars m136).toNat : Int) = ((a2.Chars m137).toNat : Int))) (by kernel_rfl) (by kernel_rfl) rfl (by kernel_rfl) (by kernel_rfl) (by kernel_rfl) (fun hc => ?_) (fun hc => ?_)
              · replace hS := cond_t hc hS
                refine zdRun (n := 2) (j := 30) (ts := [[], []]) (acc' := [[], [], [], [(32, false)], [], [], [], [], [], [(24, false)], [], [], [], [], [], [], [(48, false)], [], [], [], [], [], [(48, false)], [], [], [], [(32, false)], [], [], []]) rfl (by kernel_rfl) (by kernel_rfl) (by kernel_rfl) ?_
                refine zdEnd (by kernel_rfl) (by kernel_rfl) ?_
                refine zkSeq ?_
                refine zrCondT (by kernel_rfl) ?_
                refine zrSeq ?_
                refine zrReg ?_
                refine zlRun (n := 1) (j := 1) rfl (by kernel_rfl) ?_
                refine zlEnd (by kernel_rfl) ?_
                refine zkSeq ?_
                refine zrRet ?_
                refine zkBlkR ?_
                refine zkSeqR ?_
                refine zkNil ?_
                exact endQ hS hQ (finL_x (by intro h; cases h) (by show _ = _ ∧ _ = _; exact ⟨rfl, by kernel_rfl⟩))
              · replace hS := cond_f hc hS
                refine zdRun (n := 2) (j := 30) (ts := [[], []]) (acc' := [[], [], [], [(32, false)], [], [], [], [], [], [(24, false)], [], [], [], [], [], [], [(48, false)], [], [], [], [], [], [(48, false)], [], [], [], [(32, false)], [], [], []]) rfl (by kernel_rfl) (by kernel_rfl) (by kernel_rfl) ?_
                refine zdEnd (by kernel_rfl) (by kernel_rfl) ?_
                refine zkSeq ?_
                refine zrCondF (by kernel_rfl) ?_
                refine zrSkip ?_
                refine zkBlk ?_
                refine zkSeq ?_
                refine zrReg ?_
                refine zlRun (n := 3) (j := 3) rfl (by kernel_rfl) ?_
                refine zlEnd (by kernel_rfl) ?_
                refine zkNil ?_
                exact endQ hS hQ (finL_n (by show keepSt _ _ _ _ = _; kernel_rfl))
          · replace hS := cond_f hc hS
            refine zdRun (n := 19) (j := 30) (ts := [[], [], [], [], [], [], [], [], [], [], [], [], [], [], [], [], [], [], []]) (acc' := [[], [], [], [(32, false)], [], [], [], [], [], [(24, false)], [], [], [], [], [], [], [], [], [], [], [], [], [], [], [], [], [], [], [], []]) rfl (by kernel_rfl) (by kernel_rfl) (by kernel_rfl) ?_
            refine zdEnd (by kernel_rfl) (by kernel_rfl) ?_
            refine zkSeq ?_
            refine zrCondF (by kernel_rfl) ?_
            refine zrSkip ?_
            refine zkBlk ?_
            refine zkSeq ?_
            refine zrReg ?_
            refine zlRun (n := 3) (j := 3) rfl (by kernel_rfl) ?_
            refine zlEnd (by kernel_rfl) ?_
            refine zkNil ?_
            exact endQ hS hQ (finL_n (by show keepSt _ _ _ _ = _; kernel_rfl))
        · replace hS := cond_f hc hS
          refine zdRun (n := 25) (j := 30) (ts := [[], [], [], [], [], [], [], [], [], [], [], [], [], [], [], [], [], [], [], [], [], [], [], [], []]) (acc' := [[], [], [], [(32, false)], [], [], [], [], [], [], [], [], [], [], [], [], [], [], [], [], [], [], [], [], [], [], [], [], [], []]) rfl (by kernel_rfl) (by kernel_rfl) (by kernel_rfl) ?_
          refine zdEnd (by kernel_rfl) (by kernel_rfl) ?_
          refine zkSeq ?_
          refine zrCondF (by kernel_rfl) ?_
          refine zrSkip ?_
          refine zkBlk ?_
          refine zkSeq ?_
          refine zrReg ?_
          refine zlRun (n := 3) (j := 3) rfl (by kernel_rfl) ?_
          refine zlEnd (by kernel_rfl) ?_
          refine zkNil ?_
          exact endQ hS hQ (finL_n (by show keepSt _ _ _ _ = _; kernel_rfl))
noncomputable def f13_l2 (a1 : GKeys) (a2 : GKeys) (x : GKeys × GKeys × Int × Int) : Option ((GKeys × GKeys × Int × Int) ⊕ ((GKeys × Int) ⊕ Bool)) := (bif (decide (x.2.2.2 ≤ 18)) then (f13_l2_j3 a1 a2 x.1 x.2.1 x.2.2.1 x.2.2.2) else (some (.inr (.inl (x.1, x.2.2.1)))))
theorem f13_l2_ok {base : Orc} {d : Nat} (hd : 4 ≤ d) (a1 : GKeys) (a2 : GKeys) {r : (GKeys × GKeys × Int × Int) ⊕ ((GKeys × Int) ⊕ Bool)} {Q : PX → St → Prop} (hQ : ∀ e st', finL (f13_l2_H a1 a2) (f13_l2_X a1 a2) r e st' → Q e st') {x : GKeys × GKeys × Int × Int} (hS : f13_l2 a1 a2 x = some r) {st : St} (he : f13_l2_H a1 a2 x st) : ZR (lev codes base (d - 1)) Q c13_3 [] st := by
  refine zrKeep he ?_
  unfold f13_l2 at hS
  refine zrSeq ?_
  refine zrSeq ?_
  refine zrReg ?_
  refine zlRun (n := 1) (j := 1) rfl (by kernel_rfl) ?_
  refine zlBool (d := 30) (op := (.cmpI .leq (.tmp 29) (.const (.int .i64 18)))) (g := none) (j := 2) (decide (x.2.2.2 ≤ 18)) rfl (by kernel_rfl) (by kernel_rfl) (by kernel_rfl) (fun hc => ?_) (fun hc => ?_)
  · replace hS := cond_t hc hS
    refine zlEnd (by kernel_rfl) ?_
    refine zkSeq ?_
    refine zrCondT (by kernel_rfl) ?_
    refine zrSkip ?_
    refine zkSeq ?_
    exact f13_l2_j3_ok hd a1 a2 hQ x.1 x.2.1 x.2.2.1 x.2.2.2 hS (by kernel_rfl)
  · replace hS := cond_f hc hS
    refine zlEnd (by kernel_rfl) ?_
    refine zkSeq ?_
    refine zrCondF (by kernel_rfl) ?_
    refine zrKeep (J := f13_l2_e0_J a1 a2 x.1 x.2.2.1) (by kernel_rfl) ?_
    refine zrExit ?_
    refine zkSeqX ?_
    refine zkNil ?_
    exact endQ hS hQ (finL_x (by intro h; cases h) (by show _ = _ ∧ _ = _; exact ⟨rfl, rfl⟩))
def f13_j0_J (a1 : GKeys) (a2 : GKeys) (p25454 : GKeys) (p25455 : GKeys) (p25456 : Int) : St := ⟨(up (up (up (up (up (fun _ => .un) 7 (.d (.int .i64 p25456))) 6 (.r (.ptr 56 0 0))) 5 (.r (.ptr 48 0 0))) 3 (.r (.ptr 32 0 0))) 2 (.r (.ptr 24 0 0))), (up (up (up (up (hB fun _ => 0) 56 ⟨0, some (.box ((eU8.row 19 p25455.Levels) ++ ((eU8.row 19 p25455.Chars) ++ [])))⟩) 48 ⟨0, some (.box ((eU8.row 19 p25454.Levels) ++ ((eU8.row 19 p25454.Chars) ++ [])))⟩) 32 ⟨0, some (.box ((eU8.row 19 a2.Levels) ++ ((eU8.row 19 a2.Chars) ++ [])))⟩) 24 ⟨0, some (.box ((eU8.row 19 a1.Levels) ++ ((eU8.row 19 a1.Chars) ++ [])))⟩)⟩
noncomputable def f13_j0 (a1 : GKeys) (a2 : GKeys) (p25454 : GKeys) (p25455 : GKeys) (p25456 : Int) : Option (Bool) := ((loopO (f13_l2 a1 a2) (p25454, p25455, p25456, 1)).bind fun z138 => (Sum.elim (fun z139 => (f13_j1 a1 a2 z139.1 z139.2)) (fun z140 => (some z140)) z138))
theorem f13_j0_ok {base : Orc} {d : Nat} (hd : 4 ≤ d) (a1 : GKeys) (a2 : GKeys) {r : Bool} {Q : PX → St → Prop} (hQ : ∀ e st', f13_Q r e st' → Q e st') (p25454 : GKeys) (p25455 : GKeys) (p25456 : Int) (hS : f13_j0 a1 a2 p25454 p25455 p25456 = some r) {st : St} (he : keepSt [2, 3, 5, 6, 7] [(24, .id 24), (32, .id 32), (48, .id 48), (56, .id 56)] [] st = f13_j0_J a1 a2 p25454 p25455 p25456) : ZR (lev codes base (d - 1)) Q c13_4 [] st := by
  refine zrKeep he ?_
  unfold f13_j0 at hS
  refine zrSeq ?_
  refine zrSeq ?_
  refine zrReg ?_
  refine zlRun (n := 1) (j := 1) rfl (by kernel_rfl) ?_
  refine zlEnd (by kernel_rfl) ?_
  refine zkSeq ?_
  refine zrBlk ?_
  refine bindE hS (fun z138 hz138 hS => ?_)
  refine zrLoop (f13_l2_H a1 a2) (f13_l2_X a1 a2) (fun x st r Q h0 hS hQ => f13_l2_ok hd a1 a2 hQ hS h0) (x := (p25454, p25455, p25456, 1)) (z := z138) (by show keepSt _ _ _ _ = _; kernel_rfl) hz138 ?_
  rcases z138 with z139 | z140
  · replace hS := (show _ = _ from hS)
    simp only [Sum.elim_inl] at hS
    intro e st' _ hX
    obtain ⟨rfl, rfl⟩ : _ ∧ _ := hX
    refine zkBlkX ?_
    refine zkSeq ?_
    exact f13_j1_ok hd a1 a2 hQ z139.1 z139.2 hS (by kernel_rfl)
  · simp only [Sum.elim_inr] at hS
    intro e st' _ hX
    obtain ⟨rfl, hX⟩ : _ ∧ _ := hX
    refine zkBlkR ?_
    refine zkSeqR ?_
    refine zkNil ?_
    exact endQ hS hQ (fRet ((congrArg (fun s => outR s 0 c13.res) hX).trans (f13_out z140)))
def f13_j4_J (a1 : GKeys) (a2 : GKeys) (p50988 : Int) : St := ⟨(up (fun _ => .un) 7 (.d (.int .i64 p50988))), (hB fun _ => 0)⟩
noncomputable def f13_j4 (a1 : GKeys) (a2 : GKeys) (p50988 : Int) : Option (Bool) := (f27.bind fun z142 => (bif z142 then (bif (decide (p50988 = 0)) then (some true) else (some false)) else (some false)))
theorem f13_j4_ok {base : Orc} {d : Nat} (hd : 4 ≤ d) (a1 : GKeys) (a2 : GKeys) {r : Bool} {Q : PX → St → Prop} (hQ : ∀ e st', f13_Q r e st' → Q e st') (p50988 : Int) (hS : f13_j4 a1 a2 p50988 = some r) {st : St} (he : keepSt [7] [] [] st = f13_j4_J a1 a2 p50988) : ZR (lev codes base (d - 1)) Q c13_5 [.seq c13_4] st := by
  refine zrKeep he ?_
  unfold f13_j4 at hS
  refine zrSeq ?_
  refine zrReg ?_
  refine bindE hS (fun z142 hz142 hS => ?_)
  refine zlOp (d := some 24) (op := (.call 27 [])) (g := none) (v := (.d (.bool z142))) (ups := []) (j := 1) rfl (by kernel_rfl) (by kernel_rfl) (ev_call (args := []) (l := []) (r := (.d (.bool z142))) (by kernel_rfl) (by kernel_rfl) (f27_ok base (d - 1) (dpt hd rfl)  z142 hz142) (by kernel_rfl) (by kernel_rfl) (by kernel_rfl)) ?_
  refine zlRun (n := 1) (j := 2) rfl (by kernel_rfl) ?_
  refine zlSplit 25 z142 (by kernel_rfl) (fun hc => ?_) (fun hc => ?_)
  · replace hS := cond_t hc hS
    refine zlRun (n := 1) (j := 3) rfl (by kernel_rfl) ?_
    refine zlBool (d := 27) (op := (.cmpI .eql (.tmp 26) (.const (.int .i64 0)))) (g := (some (25, true))) (j := 4) (decide (p50988 = 0)) rfl (by kernel_rfl) (by kernel_rfl) (by kernel_rfl) (fun hc => ?_) (fun hc => ?_)
    · replace hS := cond_t hc hS
      refine zlRun (n := 2) (j := 6) rfl (by kernel_rfl) ?_
      refine zlEnd (by kernel_rfl) ?_
      refine zkSeq ?_
      refine zrRet ?_
      refine zkSeqR ?_
      refine zkNil ?_
      exact endQ hS hQ (fRet ((congrArg (fun s => outR s 0 c13.res) (by kernel_rfl : finSt c13.fin _ = f13_fin true)).trans (f13_out true)))
    · replace hS := cond_f hc hS
      refine zlRun (n := 2) (j := 6) rfl (by kernel_rfl) ?_
      refine zlEnd (by kernel_rfl) ?_
      refine zkSeq ?_
      refine zrRet ?_
      refine zkSeqR ?_
      refine zkNil ?_
      exact endQ hS hQ (fRet ((congrArg (fun s => outR s 0 c13.res) (by kernel_rfl : finSt c13.fin _ = f13_fin false)).trans (f13_out false)))
  · replace hS := cond_f hc hS
    refine zlRun (n := 4) (j := 6) rfl (by kernel_rfl) ?_
    refine zlEnd (by kernel_rfl) ?_
    refine zkSeq ?_
    refine zrRet ?_
    refine zkSeqR ?_
    refine zkNil ?_
    exact endQ hS hQ (fRet ((congrArg (fun s => outR s 0 c13.res) (by kernel_rfl : finSt c13.fin _ = f13_fin false)).trans (f13_out false)))
noncomputable def f13 (a1 : GKeys) (a2 : GKeys) : Option (Bool) := ((f29 a1 a2).bind fun z53 => (f27.bind fun z143 => (bif (!z143) then (f13_j4 a1 a2 z53.2.2.1) else (bif (!decide (z53.2.2.2 = 0)) then (f13_j4 a1 a2 z53.2.2.1) else (f13_j0 a1 a2 z53.1 z53.2.1 z53.2.2.1)))))
theorem f13_ok (base : Orc) (d : Nat) (hd : 4 ≤ d) (a1 : GKeys) (a2 : GKeys) (r : Bool) (hS : f13 a1 a2 = some r) : lev codes base d 13 [(.agg ((eU8.row 19 a1.Levels) ++ ((eU8.row 19 a1.Chars) ++ []))), (.agg ((eU8.row 19 a2.Levels) ++ ((eU8.row 19 a2.Chars) ++ [])))] [] = some ((.d (.bool r)), []) := by
  refine lev_go codes13 rfl rfl (Nat.le_trans (Nat.le_of_ble_eq_true rfl) hd) fun Q hQ => ?_
  unfold f13 at hS
  show ZR _ Q c13_b [] _
  replace hQ : ∀ e st', f13_Q r e st' → Q e st' := hQ
  refine zrSeq ?_
  refine zrReg ?_
  refine zlRun (n := 3) (j := 3) rfl (by kernel_rfl) ?_
  refine zlEnd (by kernel_rfl) ?_
  refine zkSeq ?_
  refine zrSeq ?_
  refine zrReg ?_
  refine zlRun (n := 2) (j := 2) rfl (by kernel_rfl) ?_
  refine bindE hS (fun z53 hz53 hS => ?_)
  refine zlOp (d := some 13) (op := (.call 29 [(.tmp 11), (.tmp 12)])) (g := none) (v := (.tup [(.agg ((eU8.row 19 z53.1.Levels) ++ ((eU8.row 19 z53.1.Chars) ++ []))), (.agg ((eU8.row 19 z53.2.1.Levels) ++ ((eU8.row 19 z53.2.1.Chars) ++ []))), (.d (.int .i64 z53.2.2.1)), (.d (.int .i64 z53.2.2.2))])) (ups := []) (j := 3) rfl (by kernel_rfl) (by kernel_rfl) (ev_call (args := [(.agg ((eU8.row 19 a1.Levels) ++ ((eU8.row 19 a1.Chars) ++ []))), (.agg ((eU8.row 19 a2.Levels) ++ ((eU8.row 19 a2.Chars) ++ [])))]) (l := [(.agg ((eU8.row 19 a1.Levels) ++ ((eU8.row 19 a1.Chars) ++ []))), (.agg ((eU8.row 19 a2.Levels) ++ ((eU8.row 19 a2.Chars) ++ [])))]) (r := (.tup [(.agg ((eU8.row 19 z53.1.Levels) ++ ((eU8.row 19 z53.1.Chars) ++ []))), (.agg ((eU8.row 19 z53.2.1.Levels) ++ ((eU8.row 19 z53.2.1.Chars) ++ []))), (.d (.int .i64 z53.2.2.1)), (.d (.int .i64 z53.2.2.2))])) (by kernel_rfl) (by kernel_rfl) (f29_ok base (d - 1) (dpt hd rfl) a1 a2 z53 hz53) (by kernel_rfl) (by kernel_rfl) (by kernel_rfl)) ?_
  refine zlRun (n := 11) (j := 14) rfl (by kernel_rfl) ?_
  refine zlEnd (by kernel_rfl) ?_
  refine zkSeq ?_
  refine zrSeq ?_
  refine zrSeq ?_
  refine zrReg ?_
  refine bindE hS (fun z143 hz143 hS => ?_)
  refine zlOp (d := some 18) (op := (.call 27 [])) (g := none) (v := (.d (.bool z143))) (ups := []) (j := 1) rfl (by kernel_rfl) (by kernel_rfl) (ev_call (args := []) (l := []) (r := (.d (.bool z143))) (by kernel_rfl) (by kernel_rfl) (f27_ok base (d - 1) (dpt hd rfl)  z143 hz143) (by kernel_rfl) (by kernel_rfl) (by kernel_rfl)) ?_
  refine zlRun (n := 2) (j := 3) rfl (by kernel_rfl) ?_
  refine zlSplit 20 (!z143) (by kernel_rfl) (fun hc => ?_) (fun hc => ?_)
  · replace hS := cond_t hc hS
    refine zlRun (n := 3) (j := 6) rfl (by kernel_rfl) ?_
    refine zlEnd (by kernel_rfl) ?_
    refine zkSeq ?_
    refine zrCondT (by kernel_rfl) ?_
    exact f13_j4_ok hd a1 a2 hQ z53.2.2.1 hS (by kernel_rfl)
  · replace hS := cond_f hc hS
    refine zlRun (n := 1) (j := 4) rfl (by kernel_rfl) ?_
    refine zlBool (d := 22) (op := (.cmpI .neq (.tmp 21) (.const (.int .i64 0)))) (g := (some (20, false))) (j := 5) (!decide (z53.2.2.2 = 0)) rfl (by kernel_rfl) (by kernel_rfl) (by kernel_rfl) (fun hc => ?_) (fun hc => ?_)
    · replace hS := cond_t hc hS
      refine zlRun (n := 1) (j := 6) rfl (by kernel_rfl) ?_
      refine zlEnd (by kernel_rfl) ?_
      refine zkSeq ?_
      refine zrCondT (by kernel_rfl) ?_
      exact f13_j4_ok hd a1 a2 hQ z53.2.2.1 hS (by kernel_rfl)
    · replace hS := cond_f hc hS
      refine zlRun (n := 1) (j := 6) rfl (by kernel_rfl) ?_
      refine zlEnd (by kernel_rfl) ?_
      refine zkSeq ?_
      refine zrCondF (by kernel_rfl) ?_
      refine zrSkip ?_
      refine zkSeq ?_
      exact f13_j0_ok hd a1 a2 hQ z53.1 z53.2.1 z53.2.2.1 hS (by kernel_rfl)
end Go.Proofs.Ytgokbjnpjjdboaa.Pm
