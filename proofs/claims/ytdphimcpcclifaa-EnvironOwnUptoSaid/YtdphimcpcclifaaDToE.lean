/- Typed functions, and that the codes are these. Printed by dec.py. -/
import Derived.Test.YtdphimcpcclifaaDToD
namespace Go.Proofs.Ytdphimcpcclifaa.Pm
set_option maxRecDepth 1000000
set_option maxHeartbeats 20000000
set_option linter.unusedVariables false
/- farwriter/farkeep.EnvironTold -/
def f4_fin (p135 : Bool) : St := ⟨(up (fun _ => .un) 4 (.d (.bool p135))), (hB fun _ => 0)⟩
theorem f4_out (p135 : Bool) : outR (f4_fin p135) 0 c4.res = some ((.d (.bool p135)), []) := by
  kernel_rfl
def f4_Q (r : Bool) (e : PX) (st : St) : Prop := DoneF c4 0 ((.d (.bool r)), []) e st
def f4_l5_J (a1 : List GVar) (a2 : List GVar) (x : (List GVar) × (List GVar) × Int × Int) : St := ⟨(up (up (up (up (up (fun _ => .un) 110 (.d (.int .i64 x.2.2.2))) 109 (.d (.int .i64 x.2.2.1))) 12 (.r (.msl 736 0 0 x.2.1.length))) 1 (.d (.sl x.1.length (e_GVar.cells x.1)))) 0 (.d (.sl a1.length (e_GVar.cells a1)))), (up (hB fun _ => 0) 736 ⟨0, some (.own 25 4 (e_GVar.cells x.2.1))⟩)⟩
def f4_l5_H (a1 : List GVar) (a2 : List GVar) (x : (List GVar) × (List GVar) × Int × Int) (st : St) : Prop := keepSt [0, 1, 12, 109, 110] [(736, .id 736)] [] st = f4_l5_J a1 a2 x
def f4_l5_e2_J (a1 : List GVar) (a2 : List GVar) (p247 : List GVar) (p248 : List GVar) : St := ⟨(up (up (fun _ => .un) 12 (.r (.msl 736 0 0 p248.length))) 1 (.d (.sl p247.length (e_GVar.cells p247)))), (up (hB fun _ => 0) 736 ⟨0, some (.own 25 4 (e_GVar.cells p248))⟩)⟩
def f4_l5_X (a1 : List GVar) (a2 : List GVar) (z : ((List GVar) × (List GVar)) ⊕ Bool) (e : PX) (st : St) : Prop := (match z with | .inl z => e = .exit 2 ∧ st = f4_l5_e2_J a1 a2 z.1 z.2 | .inr z => e = .ret ∧ finSt c4.fin st = f4_fin z)
def f4_l5_j7_J (a1 : List GVar) (a2 : List GVar) (p259 : List GVar) (p260 : List GVar) (p261 : Int) (p262 : Int) : St := ⟨(up (up (up (up (up (fun _ => .un) 110 (.d (.int .i64 p262))) 109 (.d (.int .i64 p261))) 12 (.r (.msl 736 0 0 p260.length))) 1 (.d (.sl p259.length (e_GVar.cells p259)))) 0 (.d (.sl a1.length (e_GVar.cells a1)))), (up (hB fun _ => 0) 736 ⟨0, some (.own 25 4 (e_GVar.cells p260))⟩)⟩
noncomputable def f4_l5_j7 (a1 : List GVar) (a2 : List GVar) (p259 : List GVar) (p260 : List GVar) (p261 : Int) (p262 : Int) : Option (((List GVar) × (List GVar) × Int × Int) ⊕ (((List GVar) × (List GVar)) ⊕ Bool)) := (bif (!decide ((p260.length : Int) = (p259.length : Int))) then (some (.inr (.inr false))) else ((inR p262 p260.length).bind fun m131 => ((p260[m131]?).bind fun z132 => ((idx p259 p262).bind fun z133 => (bif (!decide (z132.Name = z133.Name)) then (some (.inr (.inr false))) else ((inR p262 p260.length).bind fun m134 => ((p260[m134]?).bind fun z135 => ((idx p259 p262).bind fun z136 => (bif (!decide (z135.User = z136.User)) then (some (.inr (.inr false))) else ((inR p262 p260.length).bind fun m137 => ((p260[m137]?).bind fun z138 => ((idx p259 p262).bind fun z139 => (bif (!(decide (z138.Name = z139.Name) && (decide (z138.Value = z139.Value) && (decide (z138.User = z139.User) && (decide (z138.Set = z139.Set) && true))))) then ((inR p262 p260.length).bind fun m140 => ((p260[m140]?).bind fun z141 => ((f11 a1 z141).bind fun z142 => (bif (!z142) then (some (.inr (.inr false))) else (some (.inl (p259, p260, p261, (IntKind.i64.wrap (p262 + 1))))))))) else (some (.inl (p259, p260, p261, (IntKind.i64.wrap (p262 + 1))))))))))))))))))
theorem f4_l5_j7_ok {d : Nat} (hd : 6 ≤ d) (a1 : List GVar) (a2 : List GVar) {r : ((List GVar) × (List GVar) × Int × Int) ⊕ (((List GVar) × (List GVar)) ⊕ Bool)} {Q : PX → St → Prop} (hQ : ∀ e st', finL (f4_l5_H a1 a2) (f4_l5_X a1 a2) r e st' → Q e st') (p259 : List GVar) (p260 : List GVar) (p261 : Int) (p262 : Int) (hS : f4_l5_j7 a1 a2 p259 p260 p261 p262 = some r) {st : St} (he : keepSt [0, 1, 12, 109, 110] [(736, .id 736)] [] st = f4_l5_j7_J a1 a2 p259 p260 p261 p262) : ZR (lev codes baseL (d - 1)) Q c4_1 [] st := by
  refine zrKeep he ?_
  unfold f4_l5_j7 at hS
  refine zrSeq ?_
  refine zrBlk ?_
  refine zrSeq ?_
  refine zrReg ?_
  refine zlRun (n := 2) (j := 2) rfl (by kernel_rfl) ?_
  refine zlEnd (by kernel_rfl) ?_
  refine zkSeq ?_
  refine zrSeq ?_
  refine zrRegD ?_
  refine zdRun (n := 4) (j := 4) (ts := [[], [(736, false)], [], []]) (acc' := [[], [(736, false)], [], []]) rfl (by kernel_rfl) (by kernel_rfl) (by kernel_rfl) ?_
  refine zdBool (d := 117) (op := (.cmpI .neq (.tmp 114) (.tmp 116))) (g := none) (j := 5) (t1 := []) (acc' := [[], [(736, false)], [], [], []]) (!decide ((p260.length : Int) = (p259.length : Int))) (by kernel_rfl) (by kernel_rfl) rfl (by kernel_rfl) (by kernel_rfl) (by kernel_rfl) (fun hc => ?_) (fun hc => ?_)
  · replace hS := cond_t hc hS
    refine zdRun (n := 46) (j := 51) (ts := [[], [], [], [], [], [], [], [], [], [], [], [], [], [], [], [], [], [], [], [], [], [], [], [], [], [], [], [], [], [], [], [], [], [], [], [], [], [], [], [], [], [], [], [], [], []]) (acc' := [[], [(736, false)], [], [], [], [], [], [], [], [], [], [], [], [], [], [], [], [], [], [], [], [], [], [], [], [], [], [], [], [], [], [], [], [], [], [], [], [], [], [], [], [], [], [], [], [], [], [], [], [], []]) rfl (by kernel_rfl) (by kernel_rfl) (by kernel_rfl) ?_
    refine zdEnd (by kernel_rfl) (by kernel_rfl) ?_
    refine zkSeq ?_
    refine zrCondT (by kernel_rfl) ?_
    refine zrSeq ?_
    refine zrReg ?_
    refine zlRun (n := 1) (j := 1) rfl (by kernel_rfl) ?_
    refine zlEnd (by kernel_rfl) ?_
    refine zkSeq ?_
    refine zrRet ?_
    refine zkBlkR ?_
    refine zkSeqR ?_
    refine zkNil ?_
    exact endQ hS hQ (finL_x (by intro h; cases h) (by show _ = _ ∧ _ = _; exact ⟨rfl, by kernel_rfl⟩))
  · replace hS := cond_f hc hS
    refine zdRun (n := 3) (j := 8) (ts := [[], [], []]) (acc' := [[], [(736, false)], [], [], [], [], [], []]) rfl (by kernel_rfl) (by kernel_rfl) (by kernel_rfl) ?_
    refine bindE hS (fun m131 hm131 hS => ?_)
    refine zdOp (d := some 121) (op := (.ixS 25 4 (.tmp 119) (.tmp 120))) (g := (some (118, false))) (v := (.r (.ptr 736 0 ((0 + m131) * 4)))) (ups := []) (j := 9) (t1 := [(736, false)]) (acc' := [[], [(736, false)], [], [], [], [], [], [], [(736, false)]]) (by kernel_rfl) (by kernel_rfl) rfl (by kernel_rfl) (by kernel_rfl) (ev_ixM (kk := .i64) (b := 736) (g := 0) (l := 0) (n := p260.length) (j := p262) (cs := e_GVar.cells p260) (by kernel_rfl) (by kernel_rfl) (by kernel_rfl) hm131) ?_
    refine zdRun (n := 1) (j := 10) (ts := [[]]) (acc' := [[], [(736, false)], [], [], [], [], [], [], [(736, false)], []]) rfl (by kernel_rfl) (by kernel_rfl) (by kernel_rfl) ?_
    refine bindE hS (fun z132 hz132 hS => ?_)
    refine zdOp (d := some 123) (op := (.load .false 1 (.tmp 122))) (g := (some (118, false))) (v := (.d (.str z132.Name))) (ups := []) (j := 11) (t1 := [(736, false)]) (acc' := [[], [(736, false)], [], [], [], [], [], [], [(736, false)], [], [(736, false)]]) (by kernel_rfl) (by kernel_rfl) rfl (by kernel_rfl) (by kernel_rfl) (ev_loadM e_GVar (b := 736) (g := 0) (o := (0 + m131) * 4 + 0) (e := 25) (k := 4) (m := m131) (fo := 0) (xs := p260) (by kernel_rfl) (by kernel_rfl) (by rw [Nat.zero_add]; rfl) hz132 (by kernel_rfl) (by kernel_rfl) (by kernel_rfl)) ?_
    refine zdRun (n := 2) (j := 13) (ts := [[], []]) (acc' := [[], [(736, false)], [], [], [], [], [], [], [(736, false)], [], [(736, false)], [], []]) rfl (by kernel_rfl) (by kernel_rfl) (by kernel_rfl) ?_
    refine bindE hS (fun z133 hz133 hS => ?_)
    refine zdOp (d := some 126) (op := (.ixS 25 4 (.tmp 124) (.tmp 125))) (g := (some (118, false))) (v := (.rptr (e_GVar.enc z133 ++ (e_GVar.cells (p259.drop ((p262 : Int).toNat + 1)))))) (ups := []) (j := 14) (t1 := []) (acc' := [[], [(736, false)], [], [], [], [], [], [], [(736, false)], [], [(736, false)], [], [], []]) (by kernel_rfl) (by kernel_rfl) rfl (by kernel_rfl) (by kernel_rfl) (ev_ixS e_GVar (kk := .i64) (xs := p259) (j := p262) (by kernel_rfl) (by kernel_rfl) hz133 rfl (by intro h; cases h)) ?_
    refine zdRun (n := 2) (j := 16) (ts := [[], []]) (acc' := [[], [(736, false)], [], [], [], [], [], [], [(736, false)], [], [(736, false)], [], [], [], [], []]) rfl (by kernel_rfl) (by kernel_rfl) (by kernel_rfl) ?_
    refine zdBool (d := 129) (op := (.strO .neq (.tmp 123) (.tmp 128))) (g := (some (118, false))) (j := 17) (t1 := []) (acc' := [[], [(736, false)], [], [], [], [], [], [], [(736, false)], [], [(736, false)], [], [], [], [], [], []]) (!decide (z132.Name = z133.Name)) (by kernel_rfl) (by kernel_rfl) rfl (by kernel_rfl) (by kernel_rfl) (by kernel_rfl) (fun hc => ?_) (fun hc => ?_)
    · replace hS := cond_t hc hS
      refine zdRun (n := 34) (j := 51) (ts := [[], [], [], [], [], [], [], [], [], [], [], [], [], [], [], [], [], [], [], [], [], [], [], [], [], [], [], [], [], [], [], [], [], []]) (acc' := [[], [(736, false)], [], [], [], [], [], [], [(736, false)], [], [(736, false)], [], [], [], [], [], [], [], [], [], [], [], [], [], [], [], [], [], [], [], [], [], [], [], [], [], [], [], [], [], [], [], [], [], [], [], [], [], [], [], []]) rfl (by kernel_rfl) (by kernel_rfl) (by kernel_rfl) ?_
      refine zdEnd (by kernel_rfl) (by kernel_rfl) ?_
      refine zkSeq ?_
      refine zrCondT (by kernel_rfl) ?_
      refine zrSeq ?_
      refine zrReg ?_
      refine zlRun (n := 1) (j := 1) rfl (by kernel_rfl) ?_
      refine zlEnd (by kernel_rfl) ?_
      refine zkSeq ?_
      refine zrRet ?_
      refine zkBlkR ?_
      refine zkSeqR ?_
      refine zkNil ?_
      exact endQ hS hQ (finL_x (by intro h; cases h) (by show _ = _ ∧ _ = _; exact ⟨rfl, by kernel_rfl⟩))
    · replace hS := cond_f hc hS
      refine zdRun (n := 4) (j := 21) (ts := [[], [], [], []]) (acc' := [[], [(736, false)], [], [], [], [], [], [], [(736, false)], [], [(736, false)], [], [], [], [], [], [], [], [], [], []]) rfl (by kernel_rfl) (by kernel_rfl) (by kernel_rfl) ?_
      refine bindE hS (fun m134 hm134 hS => ?_)
      refine zdOp (d := some 134) (op := (.ixS 25 4 (.tmp 132) (.tmp 133))) (g := (some (131, false))) (v := (.r (.ptr 736 0 ((0 + m134) * 4)))) (ups := []) (j := 22) (t1 := [(736, false)]) (acc' := [[], [(736, false)], [], [], [], [], [], [], [(736, false)], [], [(736, false)], [], [], [], [], [], [], [], [], [], [], [(736, false)]]) (by kernel_rfl) (by kernel_rfl) rfl (by kernel_rfl) (by kernel_rfl) (ev_ixM (kk := .i64) (b := 736) (g := 0) (l := 0) (n := p260.length) (j := p262) (cs := e_GVar.cells p260) (by kernel_rfl) (by kernel_rfl) (by kernel_rfl) hm134) ?_
      refine zdRun (n := 1) (j := 23) (ts := [[]]) (acc' := [[], [(736, false)], [], [], [], [], [], [], [(736, false)], [], [(736, false)], [], [], [], [], [], [], [], [], [], [], [(736, false)], []]) rfl (by kernel_rfl) (by kernel_rfl) (by kernel_rfl) ?_
      refine bindE hS (fun z135 hz135 hS => ?_)
      refine zdOp (d := some 136) (op := (.load .false 1 (.tmp 135))) (g := (some (131, false))) (v := (.d (.bool z135.User))) (ups := []) (j := 24) (t1 := [(736, false)]) (acc' := [[], [(736, false)], [], [], [], [], [], [], [(736, false)], [], [(736, false)], [], [], [], [], [], [], [], [], [], [], [(736, false)], [], [(736, false)]]) (by kernel_rfl) (by kernel_rfl) rfl (by kernel_rfl) (by kernel_rfl) (ev_loadM e_GVar (b := 736) (g := 0) (o := (0 + m134) * 4 + 2) (e := 25) (k := 4) (m := m134) (fo := 2) (xs := p260) (by kernel_rfl) (by kernel_rfl) (by rw [Nat.zero_add]; rfl) hz135 (by kernel_rfl) (by kernel_rfl) (by kernel_rfl)) ?_
      refine zdRun (n := 2) (j := 26) (ts := [[], []]) (acc' := [[], [(736, false)], [], [], [], [], [], [], [(736, false)], [], [(736, false)], [], [], [], [], [], [], [], [], [], [], [(736, false)], [], [(736, false)], [], []]) rfl (by kernel_rfl) (by kernel_rfl) (by kernel_rfl) ?_
      refine bindE hS (fun z136 hz136 hS => ?_)
      refine zdOp (d := some 139) (op := (.ixS 25 4 (.tmp 137) (.tmp 138))) (g := (some (131, false))) (v := (.rptr (e_GVar.enc z136 ++ (e_GVar.cells (p259.drop ((p262 : Int).toNat + 1)))))) (ups := []) (j := 27) (t1 := []) (acc' := [[], [(736, false)], [], [], [], [], [], [], [(736, false)], [], [(736, false)], [], [], [], [], [], [], [], [], [], [], [(736, false)], [], [(736, false)], [], [], []]) (by kernel_rfl) (by kernel_rfl) rfl (by kernel_rfl) (by kernel_rfl) (ev_ixS e_GVar (kk := .i64) (xs := p259) (j := p262) (by kernel_rfl) (by kernel_rfl) hz136 rfl (by intro h; cases h)) ?_
      refine zdRun (n := 2) (j := 29) (ts := [[], []]) (acc' := [[], [(736, false)], [], [], [], [], [], [], [(736, false)], [], [(736, false)], [], [], [], [], [], [], [], [], [], [], [(736, false)], [], [(736, false)], [], [], [], [], []]) rfl (by kernel_rfl) (by kernel_rfl) (by kernel_rfl) ?_
      refine zdBool (d := 142) (op := (.eqB .true (.tmp 136) (.tmp 141))) (g := (some (131, false))) (j := 30) (t1 := []) (acc' := [[], [(736, false)], [], [], [], [], [], [], [(736, false)], [], [(736, false)], [], [], [], [], [], [], [], [], [], [], [(736, false)], [], [(736, false)], [], [], [], [], [], []]) (!decide (z135.User = z136.User)) (by kernel_rfl) (by kernel_rfl) rfl (by kernel_rfl) (by kernel_rfl) (by kernel_rfl) (fun hc => ?_) (fun hc => ?_)
      · replace hS := cond_t hc hS
        refine zdRun (n := 21) (j := 51) (ts := [[], [], [], [], [], [], [], [], [], [], [], [], [], [], [], [], [], [], [], [], []]) (acc' := [[], [(736, false)], [], [], [], [], [], [], [(736, false)], [], [(736, false)], [], [], [], [], [], [], [], [], [], [], [(736, false)], [], [(736, false)], [], [], [], [], [], [], [], [], [], [], [], [], [], [], [], [], [], [], [], [], [], [], [], [], [], [], []]) rfl (by kernel_rfl) (by kernel_rfl) (by kernel_rfl) ?_
        refine zdEnd (by kernel_rfl) (by kernel_rfl) ?_
        refine zkSeq ?_
        refine zrCondT (by kernel_rfl) ?_
        refine zrSeq ?_
        refine zrReg ?_
        refine zlRun (n := 1) (j := 1) rfl (by kernel_rfl) ?_
        refine zlEnd (by kernel_rfl) ?_
        refine zkSeq ?_
        refine zrRet ?_
        refine zkBlkR ?_
        refine zkSeqR ?_
        refine zkNil ?_
        exact endQ hS hQ (finL_x (by intro h; cases h) (by show _ = _ ∧ _ = _; exact ⟨rfl, by kernel_rfl⟩))
      · replace hS := cond_f hc hS
        refine zdRun (n := 4) (j := 34) (ts := [[], [], [], []]) (acc' := [[], [(736, false)], [], [], [], [], [], [], [(736, false)], [], [(736, false)], [], [], [], [], [], [], [], [], [], [], [(736, false)], [], [(736, false)], [], [], [], [], [], [], [], [], [], []]) rfl (by kernel_rfl) (by kernel_rfl) (by kernel_rfl) ?_
        refine bindE hS (fun m137 hm137 hS => ?_)
        refine zdOp (d := some 147) (op := (.ixS 25 4 (.tmp 145) (.tmp 146))) (g := (some (144, false))) (v := (.r (.ptr 736 0 ((0 + m137) * 4)))) (ups := []) (j := 35) (t1 := [(736, false)]) (acc' := [[], [(736, false)], [], [], [], [], [], [], [(736, false)], [], [(736, false)], [], [], [], [], [], [], [], [], [], [], [(736, false)], [], [(736, false)], [], [], [], [], [], [], [], [], [], [], [(736, false)]]) (by kernel_rfl) (by kernel_rfl) rfl (by kernel_rfl) (by kernel_rfl) (ev_ixM (kk := .i64) (b := 736) (g := 0) (l := 0) (n := p260.length) (j := p262) (cs := e_GVar.cells p260) (by kernel_rfl) (by kernel_rfl) (by kernel_rfl) hm137) ?_
        refine bindE hS (fun z138 hz138 hS => ?_)
        refine zdOp (d := some 148) (op := (.load .true 4 (.tmp 147))) (g := (some (144, false))) (v := (.agg ((.d (.str z138.Name)) :: ((.d (.str z138.Value)) :: ((.d (.bool z138.User)) :: ((.d (.bool z138.Set)) :: [])))))) (ups := []) (j := 36) (t1 := [(736, false)]) (acc' := [[], [(736, false)], [], [], [], [], [], [], [(736, false)], [], [(736, false)], [], [], [], [], [], [], [], [], [], [], [(736, false)], [], [(736, false)], [], [], [], [], [], [], [], [], [], [], [(736, false)], [(736, false)]]) (by kernel_rfl) (by kernel_rfl) rfl (by kernel_rfl) (by kernel_rfl) (ev_loadM e_GVar (b := 736) (g := 0) (o := (0 + m137) * 4) (e := 25) (k := 4) (m := m137) (fo := 0) (xs := p260) (by kernel_rfl) (by kernel_rfl) (by rw [Nat.zero_add]; rfl) hz138 (by kernel_rfl) (by kernel_rfl) (by kernel_rfl)) ?_
        refine zdRun (n := 2) (j := 38) (ts := [[], []]) (acc' := [[], [(736, false)], [], [], [], [], [], [], [(736, false)], [], [(736, false)], [], [], [], [], [], [], [], [], [], [], [(736, false)], [], [(736, false)], [], [], [], [], [], [], [], [], [], [], [(736, false)], [(736, false)], [], []]) rfl (by kernel_rfl) (by kernel_rfl) (by kernel_rfl) ?_
        refine bindE hS (fun z139 hz139 hS => ?_)
        refine zdOp (d := some 151) (op := (.ixS 25 4 (.tmp 149) (.tmp 150))) (g := (some (144, false))) (v := (.rptr (e_GVar.enc z139 ++ (e_GVar.cells (p259.drop ((p262 : Int).toNat + 1)))))) (ups := []) (j := 39) (t1 := []) (acc' := [[], [(736, false)], [], [], [], [], [], [], [(736, false)], [], [(736, false)], [], [], [], [], [], [], [], [], [], [], [(736, false)], [], [(736, false)], [], [], [], [], [], [], [], [], [], [], [(736, false)], [(736, false)], [], [], []]) (by kernel_rfl) (by kernel_rfl) rfl (by kernel_rfl) (by kernel_rfl) (ev_ixS e_GVar (kk := .i64) (xs := p259) (j := p262) (by kernel_rfl) (by kernel_rfl) hz139 rfl (by intro h; cases h)) ?_
        refine zdRun (n := 1) (j := 40) (ts := [[]]) (acc' := [[], [(736, false)], [], [], [], [], [], [], [(736, false)], [], [(736, false)], [], [], [], [], [], [], [], [], [], [], [(736, false)], [], [(736, false)], [], [], [], [], [], [], [], [], [], [], [(736, false)], [(736, false)], [], [], [], []]) rfl (by kernel_rfl) (by kernel_rfl) (by kernel_rfl) ?_
        refine zdBool (d := 153) (op := (.eqA .true [(2, .str), (2, .bool)] (.tmp 148) (.tmp 152))) (g := (some (144, false))) (j := 41) (t1 := []) (acc' := [[], [(736, false)], [], [], [], [], [], [], [(736, false)], [], [(736, false)], [], [], [], [], [], [], [], [], [], [], [(736, false)], [], [(736, false)], [], [], [], [], [], [], [], [], [], [], [(736, false)], [(736, false)], [], [], [], [], []]) (!(decide (z138.Name = z139.Name) && (decide (z138.Value = z139.Value) && (decide (z138.User = z139.User) && (decide (z138.Set = z139.Set) && true))))) (by kernel_rfl) (by kernel_rfl) rfl (by kernel_rfl) (by kernel_rfl) (by kernel_rfl) (fun hc => ?_) (fun hc => ?_)
        · replace hS := cond_t hc hS
          refine zdRun (n := 4) (j := 45) (ts := [[], [], [], []]) (acc' := [[], [(736, false)], [], [], [], [], [], [], [(736, false)], [], [(736, false)], [], [], [], [], [], [], [], [], [], [], [(736, false)], [], [(736, false)], [], [], [], [], [], [], [], [], [], [], [(736, false)], [(736, false)], [], [], [], [], [], [], [], [], []]) rfl (by kernel_rfl) (by kernel_rfl) (by kernel_rfl) ?_
          refine bindE hS (fun m140 hm140 hS => ?_)
          refine zdOp (d := some 158) (op := (.ixS 25 4 (.tmp 156) (.tmp 157))) (g := (some (154, true))) (v := (.r (.ptr 736 0 ((0 + m140) * 4)))) (ups := []) (j := 46) (t1 := [(736, false)]) (acc' := [[], [(736, false)], [], [], [], [], [], [], [(736, false)], [], [(736, false)], [], [], [], [], [], [], [], [], [], [], [(736, false)], [], [(736, false)], [], [], [], [], [], [], [], [], [], [], [(736, false)], [(736, false)], [], [], [], [], [], [], [], [], [], [(736, false)]]) (by kernel_rfl) (by kernel_rfl) rfl (by kernel_rfl) (by kernel_rfl) (ev_ixM (kk := .i64) (b := 736) (g := 0) (l := 0) (n := p260.length) (j := p262) (cs := e_GVar.cells p260) (by kernel_rfl) (by kernel_rfl) (by kernel_rfl) hm140) ?_
          refine bindE hS (fun z141 hz141 hS => ?_)
          refine zdOp (d := some 159) (op := (.load .true 4 (.tmp 158))) (g := (some (154, true))) (v := (.agg ((.d (.str z141.Name)) :: ((.d (.str z141.Value)) :: ((.d (.bool z141.User)) :: ((.d (.bool z141.Set)) :: [])))))) (ups := []) (j := 47) (t1 := [(736, false)]) (acc' := [[], [(736, false)], [], [], [], [], [], [], [(736, false)], [], [(736, false)], [], [], [], [], [], [], [], [], [], [], [(736, false)], [], [(736, false)], [], [], [], [], [], [], [], [], [], [], [(736, false)], [(736, false)], [], [], [], [], [], [], [], [], [], [(736, false)], [(736, false)]]) (by kernel_rfl) (by kernel_rfl) rfl (by kernel_rfl) (by kernel_rfl) (ev_loadM e_GVar (b := 736) (g := 0) (o := (0 + m140) * 4) (e := 25) (k := 4) (m := m140) (fo := 0) (xs := p260) (by kernel_rfl) (by kernel_rfl) (by rw [Nat.zero_add]; rfl) hz141 (by kernel_rfl) (by kernel_rfl) (by kernel_rfl)) ?_
          refine bindE hS (fun z142 hz142 hS => ?_)
          refine zdOp (d := some 160) (op := (.call 11 [(.tmp 155), (.tmp 159)])) (g := (some (154, true))) (j := 48) (t1 := [(1288, true), (1289, true), (1290, true), (1291, true), (1292, true), (1293, true), (1294, true), (1295, true)]) (acc' := [[], [(736, false)], [], [], [], [], [], [], [(736, false)], [], [(736, false)], [], [], [], [], [], [], [], [], [], [], [(736, false)], [], [(736, false)], [], [], [], [], [], [], [], [], [], [], [(736, false)], [(736, false)], [], [], [], [], [], [], [], [], [], [(736, false)], [(736, false)], [(1288, true), (1289, true), (1290, true), (1291, true), (1292, true), (1293, true), (1294, true), (1295, true)]]) (by kernel_rfl) (by kernel_rfl) rfl (by kernel_rfl) (by kernel_rfl) (ev_callA (by kernel_rfl) (f11_ok (d - 1) (dpt hd rfl) a1 z141 z142 hz142) (by kernel_rfl) (by kernel_rfl)) ?_
          refine zdRun (n := 3) (j := 51) (ts := [[], [], []]) (acc' := [[], [(736, false)], [], [], [], [], [], [], [(736, false)], [], [(736, false)], [], [], [], [], [], [], [], [], [], [], [(736, false)], [], [(736, false)], [], [], [], [], [], [], [], [], [], [], [(736, false)], [(736, false)], [], [], [], [], [], [], [], [], [], [(736, false)], [(736, false)], [(1288, true), (1289, true), (1290, true), (1291, true), (1292, true), (1293, true), (1294, true), (1295, true)], [], [], []]) rfl (by kernel_rfl) (by kernel_rfl) (by kernel_rfl) ?_
          refine zdEnd (by kernel_rfl) (by kernel_rfl) ?_
          refine zkSeq ?_
          refine zrSplit 163 (!z142) (by kernel_rfl) (fun hc => ?_) (fun hc => ?_)
          · replace hS := cond_t hc hS
            refine zrCondT (by kernel_rfl) ?_
            refine zrSeq ?_
            refine zrReg ?_
            refine zlRun (n := 1) (j := 1) rfl (by kernel_rfl) ?_
            refine zlEnd (by kernel_rfl) ?_
            refine zkSeq ?_
            refine zrRet ?_
            refine zkBlkR ?_
            refine zkSeqR ?_
            refine zkNil ?_
            exact endQ hS hQ (finL_x (by intro h; cases h) (by show _ = _ ∧ _ = _; exact ⟨rfl, by kernel_rfl⟩))
          · replace hS := cond_f hc hS
            refine zrCondF (by kernel_rfl) ?_
            refine zrSkip ?_
            refine zkBlk ?_
            refine zkSeq ?_
            refine zrReg ?_
            refine zlRun (n := 2) (j := 2) rfl (by kernel_rfl) ?_
            refine zlEnd (by kernel_rfl) ?_
            refine zkNil ?_
            exact endQ hS hQ (finL_n (by show keepSt _ _ _ _ = _; kernel_rfl))
        · replace hS := cond_f hc hS
          refine zdRun (n := 10) (j := 51) (ts := [[], [], [], [], [], [], [], [], [], []]) (acc' := [[], [(736, false)], [], [], [], [], [], [], [(736, false)], [], [(736, false)], [], [], [], [], [], [], [], [], [], [], [(736, false)], [], [(736, false)], [], [], [], [], [], [], [], [], [], [], [(736, false)], [(736, false)], [], [], [], [], [], [], [], [], [], [], [], [], [], [], []]) rfl (by kernel_rfl) (by kernel_rfl) (by kernel_rfl) ?_
          refine zdEnd (by kernel_rfl) (by kernel_rfl) ?_
          refine zkSeq ?_
          refine zrCondF (by kernel_rfl) ?_
          refine zrSkip ?_
          refine zkBlk ?_
          refine zkSeq ?_
          refine zrReg ?_
          refine zlRun (n := 2) (j := 2) rfl (by kernel_rfl) ?_
          refine zlEnd (by kernel_rfl) ?_
          refine zkNil ?_
          exact endQ hS hQ (finL_n (by show keepSt _ _ _ _ = _; kernel_rfl))
def f4_l5_j6_J (a1 : List GVar) (a2 : List GVar) (p254 : List GVar) (p255 : List GVar) (p256 : Int) (p257 : Int) (p258 : Bool) : St := ⟨(up (up (up (up (up (up (fun _ => .un) 111 (.d (.bool p258))) 110 (.d (.int .i64 p257))) 109 (.d (.int .i64 p256))) 12 (.r (.msl 736 0 0 p255.length))) 1 (.d (.sl p254.length (e_GVar.cells p254)))) 0 (.d (.sl a1.length (e_GVar.cells a1)))), (up (hB fun _ => 0) 736 ⟨0, some (.own 25 4 (e_GVar.cells p255))⟩)⟩
noncomputable def f4_l5_j6 (a1 : List GVar) (a2 : List GVar) (p254 : List GVar) (p255 : List GVar) (p256 : Int) (p257 : Int) (p258 : Bool) : Option (((List GVar) × (List GVar) × Int × Int) ⊕ (((List GVar) × (List GVar)) ⊕ Bool)) := (bif p258 then (f4_l5_j7 a1 a2 p254 p255 p256 p257) else (some (.inr (.inl (p254, p255)))))
theorem f4_l5_j6_ok {d : Nat} (hd : 6 ≤ d) (a1 : List GVar) (a2 : List GVar) {r : ((List GVar) × (List GVar) × Int × Int) ⊕ (((List GVar) × (List GVar)) ⊕ Bool)} {Q : PX → St → Prop} (hQ : ∀ e st', finL (f4_l5_H a1 a2) (f4_l5_X a1 a2) r e st' → Q e st') (p254 : List GVar) (p255 : List GVar) (p256 : Int) (p257 : Int) (p258 : Bool) (hS : f4_l5_j6 a1 a2 p254 p255 p256 p257 p258 = some r) {st : St} (he : keepSt [0, 1, 12, 109, 110, 111] [(736, .id 736)] [] st = f4_l5_j6_J a1 a2 p254 p255 p256 p257 p258) : ZR (lev codes baseL (d - 1)) Q c4_2 [] st := by
  refine zrKeep he ?_
  unfold f4_l5_j6 at hS
  refine zrSeq ?_
  refine zrSplit 111 p258 (by kernel_rfl) (fun hc => ?_) (fun hc => ?_)
  · replace hS := cond_t hc hS
    refine zrCondT (by kernel_rfl) ?_
    refine zrSkip ?_
    refine zkSeq ?_
    exact f4_l5_j7_ok hd a1 a2 hQ p254 p255 p256 p257 hS (by kernel_rfl)
  · replace hS := cond_f hc hS
    refine zrCondF (by kernel_rfl) ?_
    refine zrKeep (J := f4_l5_e2_J a1 a2 p254 p255) (by kernel_rfl) ?_
    refine zrExit ?_
    refine zkSeqX ?_
    refine zkNil ?_
    exact endQ hS hQ (finL_x (by intro h; cases h) (by show _ = _ ∧ _ = _; exact ⟨rfl, rfl⟩))
noncomputable def f4_l5 (a1 : List GVar) (a2 : List GVar) (x : (List GVar) × (List GVar) × Int × Int) : Option (((List GVar) × (List GVar) × Int × Int) ⊕ (((List GVar) × (List GVar)) ⊕ Bool)) := (bif (decide (x.2.2.2 < x.2.2.1)) then (f4_l5_j6 a1 a2 x.1 x.2.1 x.2.2.1 x.2.2.2 true) else (f4_l5_j6 a1 a2 x.1 x.2.1 x.2.2.1 x.2.2.2 false))
theorem f4_l5_ok {d : Nat} (hd : 6 ≤ d) (a1 : List GVar) (a2 : List GVar) {r : ((List GVar) × (List GVar) × Int × Int) ⊕ (((List GVar) × (List GVar)) ⊕ Bool)} {Q : PX → St → Prop} (hQ : ∀ e st', finL (f4_l5_H a1 a2) (f4_l5_X a1 a2) r e st' → Q e st') {x : (List GVar) × (List GVar) × Int × Int} (hS : f4_l5 a1 a2 x = some r) {st : St} (he : f4_l5_H a1 a2 x st) : ZR (lev codes baseL (d - 1)) Q c4_3 [] st := by
  refine zrKeep he ?_
  unfold f4_l5 at hS
  refine zrSeq ?_
  refine zrReg ?_
  refine zlBool (d := 111) (op := (.cmpI .lss (.tmp 110) (.tmp 109))) (g := none) (j := 1) (decide (x.2.2.2 < x.2.2.1)) rfl (by kernel_rfl) (by kernel_rfl) (by kernel_rfl) (fun hc => ?_) (fun hc => ?_)
  · replace hS := cond_t hc hS
    refine zlEnd (by kernel_rfl) ?_
    refine zkSeq ?_
    exact f4_l5_j6_ok hd a1 a2 hQ x.1 x.2.1 x.2.2.1 x.2.2.2 true hS (by kernel_rfl)
  · replace hS := cond_f hc hS
    refine zlEnd (by kernel_rfl) ?_
    refine zkSeq ?_
    exact f4_l5_j6_ok hd a1 a2 hQ x.1 x.2.1 x.2.2.1 x.2.2.2 false hS (by kernel_rfl)
def f4_j4_J (a1 : List GVar) (a2 : List GVar) (p170 : List GVar) (p171 : List GVar) : St := ⟨(up (up (up (fun _ => .un) 12 (.r (.msl 736 0 0 p171.length))) 1 (.d (.sl p170.length (e_GVar.cells p170)))) 0 (.d (.sl a1.length (e_GVar.cells a1)))), (up (hB fun _ => 0) 736 ⟨0, some (.own 25 4 (e_GVar.cells p171))⟩)⟩
noncomputable def f4_j4 (a1 : List GVar) (a2 : List GVar) (p170 : List GVar) (p171 : List GVar) : Option (Bool) := ((loopO (f4_l5 a1 a2) (p170, p171, (p171.length : Int), 0)).bind fun z143 => (Sum.elim (fun z144 => (bif (decide ((z144.2.length : Int) = (z144.1.length : Int))) then (some true) else (some false))) (fun z145 => (some z145)) z143))
theorem f4_j4_ok {d : Nat} (hd : 6 ≤ d) (a1 : List GVar) (a2 : List GVar) {r : Bool} {Q : PX → St → Prop} (hQ : ∀ e st', f4_Q r e st' → Q e st') (p170 : List GVar) (p171 : List GVar) (hS : f4_j4 a1 a2 p170 p171 = some r) {st : St} (he : keepSt [0, 1, 12] [(736, .id 736)] [] st = f4_j4_J a1 a2 p170 p171) : ZR (lev codes baseL (d - 1)) Q c4_4 [] st := by
  refine zrKeep he ?_
  unfold f4_j4 at hS
  refine zrSeq ?_
  refine zrSeq ?_
  refine zrReg ?_
  refine zlRun (n := 3) (j := 3) rfl (by kernel_rfl) ?_
  refine zlEnd (by kernel_rfl) ?_
  refine zkSeq ?_
  refine zrBlk ?_
  refine bindE hS (fun z143 hz143 hS => ?_)
  refine zrLoop (f4_l5_H a1 a2) (f4_l5_X a1 a2) (fun x st r Q h0 hS hQ => f4_l5_ok hd a1 a2 hQ hS h0) (x := (p170, p171, (p171.length : Int), 0)) (z := z143) (by show keepSt _ _ _ _ = _; kernel_rfl) hz143 ?_
  rcases z143 with z144 | z145
  · replace hS := (show _ = _ from hS)
    simp only [Sum.elim_inl] at hS
    intro e st' _ hX
    obtain ⟨rfl, rfl⟩ : _ ∧ _ := hX
    refine zkBlkX ?_
    refine zkSeq ?_
    refine zrSeq ?_
    refine zrReg ?_
    refine zlRun (n := 4) (j := 4) rfl (by kernel_rfl) ?_
    refine zlBool (d := 169) (op := (.cmpI .eql (.tmp 166) (.tmp 168))) (g := none) (j := 5) (decide ((z144.2.length : Int) = (z144.1.length : Int))) rfl (by kernel_rfl) (by kernel_rfl) (by kernel_rfl) (fun hc => ?_) (fun hc => ?_)
    · replace hS := cond_t hc hS
      refine zlRun (n := 1) (j := 6) rfl (by kernel_rfl) ?_
      refine zlEnd (by kernel_rfl) ?_
      refine zkSeq ?_
      refine zrRet ?_
      refine zkNil ?_
      exact endQ hS hQ (fRet (by kernel_rfl) ((congrArg (fun s => outR s 0 c4.res) (by kernel_rfl : finSt c4.fin _ = f4_fin true)).trans (f4_out true)))
    · replace hS := cond_f hc hS
      refine zlRun (n := 1) (j := 6) rfl (by kernel_rfl) ?_
      refine zlEnd (by kernel_rfl) ?_
      refine zkSeq ?_
      refine zrRet ?_
      refine zkNil ?_
      exact endQ hS hQ (fRet (by kernel_rfl) ((congrArg (fun s => outR s 0 c4.res) (by kernel_rfl : finSt c4.fin _ = f4_fin false)).trans (f4_out false)))
  · simp only [Sum.elim_inr] at hS
    intro e st' _ hX
    obtain ⟨rfl, hX⟩ : _ ∧ _ := hX
    refine zkBlkR ?_
    refine zkSeqR ?_
    refine zkNil ?_
    exact endQ hS hQ (fRet (by kernel_rfl) ((congrArg (fun s => outR s 0 c4.res) hX).trans (f4_out z145)))
def f4_j8_J (a1 : List GVar) (a2 : List GVar) (p265 : List GVar) (p266 : Int) : St := ⟨(up (up (up (fun _ => .un) 13 (.d (.int .i64 p266))) 12 (.r (.msl 736 0 0 p265.length))) 0 (.d (.sl a1.length (e_GVar.cells a1)))), (up (hB fun _ => 0) 736 ⟨0, some (.own 25 4 (e_GVar.cells p265))⟩)⟩
noncomputable def f4_j8 (a1 : List GVar) (a2 : List GVar) (p265 : List GVar) (p266 : Int) : Option (Bool) := (bif (decide (p266 = 0)) then ((f9 p265 a1).bind fun z146 => (some z146)) else (some false))
theorem f4_j8_ok {d : Nat} (hd : 6 ≤ d) (a1 : List GVar) (a2 : List GVar) {r : Bool} {Q : PX → St → Prop} (hQ : ∀ e st', f4_Q r e st' → Q e st') (p265 : List GVar) (p266 : Int) (hS : f4_j8 a1 a2 p265 p266 = some r) {st : St} (he : keepSt [0, 12, 13] [(736, .id 736)] [] st = f4_j8_J a1 a2 p265 p266) : ZR (lev codes baseL (d - 1)) Q c4_5 [.seq c4_4] st := by
  refine zrKeep he ?_
  unfold f4_j8 at hS
  refine zrSeq ?_
  refine zrReg ?_
  refine zlRun (n := 1) (j := 1) rfl (by kernel_rfl) ?_
  refine zlBool (d := 102) (op := (.cmpI .eql (.tmp 101) (.const (.int .i64 0)))) (g := none) (j := 2) (decide (p266 = 0)) rfl (by kernel_rfl) (by kernel_rfl) (by kernel_rfl) (fun hc => ?_) (fun hc => ?_)
  · replace hS := cond_t hc hS
    refine zlRun (n := 3) (j := 5) rfl (by kernel_rfl) ?_
    refine bindE hS (fun z146 hz146 hS => ?_)
    refine zlOp (d := some 106) (op := (.call 9 [(.tmp 104), (.tmp 105)])) (g := (some (103, true))) (j := 6) rfl (by kernel_rfl) (by kernel_rfl) (ev_callB (args := [(.r (.msl 736 0 0 p265.length)), (.d (.sl a1.length (e_GVar.cells a1)))]) (by kernel_rfl) (l_cons (l_own e_GVar (e := 25) (k := 4) (xs := p265) (by kernel_rfl) rfl rfl) (l_cons (by kernel_rfl) l_nil)) (f9_ok (d - 1) (dpt hd rfl) p265 a1 z146 hz146) (by kernel_rfl) (by kernel_rfl)) ?_
    refine zlRun (n := 2) (j := 8) rfl (by kernel_rfl) ?_
    refine zlEnd (by kernel_rfl) ?_
    refine zkSeq ?_
    refine zrRet ?_
    refine zkSeqR ?_
    refine zkNil ?_
    exact endQ hS hQ (fRet (by kernel_rfl) ((congrArg (fun s => outR s 0 c4.res) (by kernel_rfl : finSt c4.fin _ = f4_fin z146)).trans (f4_out z146)))
  · replace hS := cond_f hc hS
    refine zlRun (n := 6) (j := 8) rfl (by kernel_rfl) ?_
    refine zlEnd (by kernel_rfl) ?_
    refine zkSeq ?_
    refine zrRet ?_
    refine zkSeqR ?_
    refine zkNil ?_
    exact endQ hS hQ (fRet (by kernel_rfl) ((congrArg (fun s => outR s 0 c4.res) (by kernel_rfl : finSt c4.fin _ = f4_fin false)).trans (f4_out false)))
def f4_j3_J (a1 : List GVar) (a2 : List GVar) (p160 : List GVar) (p161 : List UInt8) : St := ⟨(up (up (up (fun _ => .un) 10 (.d (.str p161))) 1 (.d (.sl p160.length (e_GVar.cells p160)))) 0 (.d (.sl a1.length (e_GVar.cells a1)))), (hB fun _ => 0)⟩
noncomputable def f4_j3 (a1 : List GVar) (a2 : List GVar) (p160 : List GVar) (p161 : List UInt8) : Option (Bool) := ((sub? p161 1 (p161.length : Int)).bind fun z92 => ((f7 z92).bind fun z93 => (bif (!decide (z93.2 = 0)) then (f4_j8 a1 a2 z93.1 z93.2) else (bif (decide ((p160.length : Int) = 0)) then (f4_j8 a1 a2 z93.1 z93.2) else (f4_j4 a1 a2 p160 z93.1)))))
theorem f4_j3_ok {d : Nat} (hd : 6 ≤ d) (a1 : List GVar) (a2 : List GVar) {r : Bool} {Q : PX → St → Prop} (hQ : ∀ e st', f4_Q r e st' → Q e st') (p160 : List GVar) (p161 : List UInt8) (hS : f4_j3 a1 a2 p160 p161 = some r) {st : St} (he : keepSt [0, 1, 10] [] [] st = f4_j3_J a1 a2 p160 p161) : ZR (lev codes baseL (d - 1)) Q c4_6 [] st := by
  refine zrKeep he ?_
  unfold f4_j3 at hS
  refine zrSeq ?_
  refine zrReg ?_
  refine zlRun (n := 1) (j := 1) rfl (by kernel_rfl) ?_
  refine bindE hS (fun z92 hz92 hS => ?_)
  refine zlOp (d := some 90) (op := (.slStr (.tmp 89) (.some (.const (.int .i64 1))) .none)) (g := none) (v := (.d (.str z92))) (ups := []) (j := 2) rfl (by kernel_rfl) (by kernel_rfl) (ev_slStr (s := p161) (a := 1) (c := (p161.length : Int)) (by kernel_rfl) (bnd_s _ (kk := .i64) (j := 1) (by kernel_rfl)) (bnd_n _) hz92) ?_
  refine bindE hS (fun z93 hz93 hS => ?_)
  refine zlOp (d := some 91) (op := (.call 7 [(.tmp 90)])) (g := none) (j := 3) rfl (by kernel_rfl) (by kernel_rfl) (ev_callA (by kernel_rfl) (f7_ok (d - 1) (dpt hd rfl) z92 z93 hz93) (by kernel_rfl) (by kernel_rfl)) ?_
  refine zlRun (n := 5) (j := 8) rfl (by kernel_rfl) ?_
  refine zlEnd (by kernel_rfl) ?_
  refine zkSeq ?_
  refine zrSeq ?_
  refine zrSeq ?_
  refine zrReg ?_
  refine zlRun (n := 1) (j := 1) rfl (by kernel_rfl) ?_
  refine zlBool (d := 95) (op := (.cmpI .neq (.tmp 94) (.const (.int .i64 0)))) (g := none) (j := 2) (!decide (z93.2 = 0)) rfl (by kernel_rfl) (by kernel_rfl) (by kernel_rfl) (fun hc => ?_) (fun hc => ?_)
  · replace hS := cond_t hc hS
    refine zlRun (n := 5) (j := 7) rfl (by kernel_rfl) ?_
    refine zlEnd (by kernel_rfl) ?_
    refine zkSeq ?_
    refine zrCondT (by kernel_rfl) ?_
    exact f4_j8_ok hd a1 a2 hQ z93.1 z93.2 hS (by kernel_rfl)
  · replace hS := cond_f hc hS
    refine zlRun (n := 3) (j := 5) rfl (by kernel_rfl) ?_
    refine zlBool (d := 99) (op := (.cmpI .eql (.tmp 98) (.const (.int .i64 0)))) (g := (some (96, false))) (j := 6) (decide ((p160.length : Int) = 0)) rfl (by kernel_rfl) (by kernel_rfl) (by kernel_rfl) (fun hc => ?_) (fun hc => ?_)
    · replace hS := cond_t hc hS
      refine zlRun (n := 1) (j := 7) rfl (by kernel_rfl) ?_
      refine zlEnd (by kernel_rfl) ?_
      refine zkSeq ?_
      refine zrCondT (by kernel_rfl) ?_
      exact f4_j8_ok hd a1 a2 hQ z93.1 z93.2 hS (by kernel_rfl)
    · replace hS := cond_f hc hS
      refine zlRun (n := 1) (j := 7) rfl (by kernel_rfl) ?_
      refine zlEnd (by kernel_rfl) ?_
      refine zkSeq ?_
      refine zrCondF (by kernel_rfl) ?_
      refine zrSkip ?_
      refine zkSeq ?_
      exact f4_j4_ok hd a1 a2 hQ p160 z93.1 hS (by kernel_rfl)
def f4_j2_J (a1 : List GVar) (a2 : List GVar) (p155 : List GVar) (p156 : List UInt8) : St := ⟨(up (up (up (fun _ => .un) 10 (.d (.str p156))) 1 (.d (.sl p155.length (e_GVar.cells p155)))) 0 (.d (.sl a1.length (e_GVar.cells a1)))), (hB fun _ => 0)⟩
noncomputable def f4_j2 (a1 : List GVar) (a2 : List GVar) (p155 : List GVar) (p156 : List UInt8) : Option (Bool) := (bif (decide (4097 < (p156.length : Int))) then (some true) else (f4_j3 a1 a2 p155 p156))
theorem f4_j2_ok {d : Nat} (hd : 6 ≤ d) (a1 : List GVar) (a2 : List GVar) {r : Bool} {Q : PX → St → Prop} (hQ : ∀ e st', f4_Q r e st' → Q e st') (p155 : List GVar) (p156 : List UInt8) (hS : f4_j2 a1 a2 p155 p156 = some r) {st : St} (he : keepSt [0, 1, 10] [] [] st = f4_j2_J a1 a2 p155 p156) : ZR (lev codes baseL (d - 1)) Q c4_7 [] st := by
  refine zrKeep he ?_
  unfold f4_j2 at hS
  refine zrSeq ?_
  refine zrSeq ?_
  refine zrReg ?_
  refine zlRun (n := 2) (j := 2) rfl (by kernel_rfl) ?_
  refine zlBool (d := 87) (op := (.cmpI .gtr (.tmp 86) (.const (.int .i64 4097)))) (g := none) (j := 3) (decide (4097 < (p156.length : Int))) rfl (by kernel_rfl) (by kernel_rfl) (by kernel_rfl) (fun hc => ?_) (fun hc => ?_)
  · replace hS := cond_t hc hS
    refine zlEnd (by kernel_rfl) ?_
    refine zkSeq ?_
    refine zrCondT (by kernel_rfl) ?_
    refine zrSeq ?_
    refine zrReg ?_
    refine zlRun (n := 1) (j := 1) rfl (by kernel_rfl) ?_
    refine zlEnd (by kernel_rfl) ?_
    refine zkSeq ?_
    refine zrRet ?_
    refine zkSeqR ?_
    refine zkNil ?_
    exact endQ hS hQ (fRet (by kernel_rfl) ((congrArg (fun s => outR s 0 c4.res) (by kernel_rfl : finSt c4.fin _ = f4_fin true)).trans (f4_out true)))
  · replace hS := cond_f hc hS
    refine zlEnd (by kernel_rfl) ?_
    refine zkSeq ?_
    refine zrCondF (by kernel_rfl) ?_
    refine zrSkip ?_
    refine zkSeq ?_
    exact f4_j3_ok hd a1 a2 hQ p155 p156 hS (by kernel_rfl)
def f4_j1_J (a1 : List GVar) (a2 : List GVar) (p146 : List GVar) (p147 : List UInt8) : St := ⟨(up (up (up (fun _ => .un) 6 (.d (.str p147))) 1 (.d (.sl p146.length (e_GVar.cells p146)))) 0 (.d (.sl a1.length (e_GVar.cells a1)))), (hB fun _ => 0)⟩
noncomputable def f4_j1 (a1 : List GVar) (a2 : List GVar) (p146 : List GVar) (p147 : List UInt8) : Option (Bool) := ((cat? ([1] : List UInt8) p147).bind fun z89 => ((fAns a1 z89).bind fun z90 => (bif (!decide (z90.2 = 0)) then (some false) else (bif (decide (z90.1 = ([] : List UInt8))) then (some false) else ((idx z90.1 0).bind fun z147 => (bif (!decide ((z147.toNat : Int) = 0)) then (some false) else (f4_j2 a1 a2 p146 z90.1)))))))
theorem f4_j1_ok {d : Nat} (hd : 6 ≤ d) (a1 : List GVar) (a2 : List GVar) {r : Bool} {Q : PX → St → Prop} (hQ : ∀ e st', f4_Q r e st' → Q e st') (p146 : List GVar) (p147 : List UInt8) (hS : f4_j1 a1 a2 p146 p147 = some r) {st : St} (he : keepSt [0, 1, 6] [] [] st = f4_j1_J a1 a2 p146 p147) : ZR (lev codes baseL (d - 1)) Q c4_8 [] st := by
  refine zrKeep he ?_
  unfold f4_j1 at hS
  refine zrSeq ?_
  refine zrReg ?_
  refine zlRun (n := 2) (j := 2) rfl (by kernel_rfl) ?_
  refine bindE hS (fun z89 hz89 hS => ?_)
  refine zlOp (d := some 70) (op := (.strO .add (.const (.string ⟨#[1]⟩)) (.tmp 69))) (g := none) (v := (.d (.str z89))) (ups := []) (j := 3) rfl (by kernel_rfl) (by kernel_rfl) (ev_cat (a := [1]) (c := p147) (by kernel_rfl) (by kernel_rfl) hz89) ?_
  refine bindE hS (fun z90 hz90 hS => ?_)
  refine zlOp (d := some 71) (op := (.call 6 [(.tmp 68), (.tmp 70)])) (g := none) (j := 4) rfl (by kernel_rfl) (by kernel_rfl) (ev_callA (by kernel_rfl) (fAns_ok (d - 1) (dpt hd rfl) a1 z89 z90 hz90) (by kernel_rfl) (by kernel_rfl)) ?_
  refine zlRun (n := 5) (j := 9) rfl (by kernel_rfl) ?_
  refine zlEnd (by kernel_rfl) ?_
  refine zkSeq ?_
  refine zrSeq ?_
  refine zrSeq ?_
  refine zrReg ?_
  refine zlRun (n := 1) (j := 1) rfl (by kernel_rfl) ?_
  refine zlBool (d := 75) (op := (.cmpI .neq (.tmp 74) (.const (.int .i64 0)))) (g := none) (j := 2) (!decide (z90.2 = 0)) rfl (by kernel_rfl) (by kernel_rfl) (by kernel_rfl) (fun hc => ?_) (fun hc => ?_)
  · replace hS := cond_t hc hS
    refine zlRun (n := 9) (j := 11) rfl (by kernel_rfl) ?_
    refine zlEnd (by kernel_rfl) ?_
    refine zkSeq ?_
    refine zrCondT (by kernel_rfl) ?_
    refine zrSeq ?_
    refine zrReg ?_
    refine zlRun (n := 1) (j := 1) rfl (by kernel_rfl) ?_
    refine zlEnd (by kernel_rfl) ?_
    refine zkSeq ?_
    refine zrRet ?_
    refine zkSeqR ?_
    refine zkNil ?_
    exact endQ hS hQ (fRet (by kernel_rfl) ((congrArg (fun s => outR s 0 c4.res) (by kernel_rfl : finSt c4.fin _ = f4_fin false)).trans (f4_out false)))
  · replace hS := cond_f hc hS
    refine zlRun (n := 2) (j := 4) rfl (by kernel_rfl) ?_
    refine zlBool (d := 78) (op := (.strO .eql (.tmp 77) (.const (.string ⟨#[]⟩)))) (g := (some (76, false))) (j := 5) (decide (z90.1 = ([] : List UInt8))) rfl (by kernel_rfl) (by kernel_rfl) (by kernel_rfl) (fun hc => ?_) (fun hc => ?_)
    · replace hS := cond_t hc hS
      refine zlRun (n := 6) (j := 11) rfl (by kernel_rfl) ?_
      refine zlEnd (by kernel_rfl) ?_
      refine zkSeq ?_
      refine zrCondT (by kernel_rfl) ?_
      refine zrSeq ?_
      refine zrReg ?_
      refine zlRun (n := 1) (j := 1) rfl (by kernel_rfl) ?_
      refine zlEnd (by kernel_rfl) ?_
      refine zkSeq ?_
      refine zrRet ?_
      refine zkSeqR ?_
      refine zkNil ?_
      exact endQ hS hQ (fRet (by kernel_rfl) ((congrArg (fun s => outR s 0 c4.res) (by kernel_rfl : finSt c4.fin _ = f4_fin false)).trans (f4_out false)))
    · replace hS := cond_f hc hS
      refine zlRun (n := 3) (j := 8) rfl (by kernel_rfl) ?_
      refine bindE hS (fun z147 hz147 hS => ?_)
      refine zlOp (d := some 82) (op := (.ixStr (.tmp 81) (.const (.int .i64 0)))) (g := (some (80, false))) (v := (.d (.int .u8 (z147.toNat : Int)))) (ups := []) (j := 9) rfl (by kernel_rfl) (by kernel_rfl) (ev_ixStr (kk := .i64) (s := z90.1) (j := 0) (by kernel_rfl) (by kernel_rfl) hz147) ?_
      refine zlBool (d := 83) (op := (.cmpI .neq (.tmp 82) (.const (.int .u8 0)))) (g := (some (80, false))) (j := 10) (!decide ((z147.toNat : Int) = 0)) rfl (by kernel_rfl) (by kernel_rfl) (by kernel_rfl) (fun hc => ?_) (fun hc => ?_)
      · replace hS := cond_t hc hS
        refine zlRun (n := 1) (j := 11) rfl (by kernel_rfl) ?_
        refine zlEnd (by kernel_rfl) ?_
        refine zkSeq ?_
        refine zrCondT (by kernel_rfl) ?_
        refine zrSeq ?_
        refine zrReg ?_
        refine zlRun (n := 1) (j := 1) rfl (by kernel_rfl) ?_
        refine zlEnd (by kernel_rfl) ?_
        refine zkSeq ?_
        refine zrRet ?_
        refine zkSeqR ?_
        refine zkNil ?_
        exact endQ hS hQ (fRet (by kernel_rfl) ((congrArg (fun s => outR s 0 c4.res) (by kernel_rfl : finSt c4.fin _ = f4_fin false)).trans (f4_out false)))
      · replace hS := cond_f hc hS
        refine zlRun (n := 1) (j := 11) rfl (by kernel_rfl) ?_
        refine zlEnd (by kernel_rfl) ?_
        refine zkSeq ?_
        refine zrCondF (by kernel_rfl) ?_
        refine zrSkip ?_
        refine zkSeq ?_
        exact f4_j2_ok hd a1 a2 hQ p146 z90.1 hS (by kernel_rfl)
def f4_j0_J (a1 : List GVar) (a2 : List GVar) (p136 : List GVar) : St := ⟨(up (up (fun _ => .un) 1 (.d (.sl p136.length (e_GVar.cells p136)))) 0 (.d (.sl a1.length (e_GVar.cells a1)))), (hB fun _ => 0)⟩
noncomputable def f4_j0 (a1 : List GVar) (a2 : List GVar) (p136 : List GVar) : Option (Bool) := ((f10 p136).bind fun z83 => ((f10 a1).bind fun z84 => (f8.bind fun z148 => (bif (!z148) then (f8.bind fun z149 => (some z149)) else (bif (!decide (z83.2 = 0)) then (f8.bind fun z150 => (some z150)) else (bif (!decide (z84.2 = 0)) then (f8.bind fun z151 => (some z151)) else (bif (decide (4000 < (z83.1.length : Int))) then (f8.bind fun z152 => (some z152)) else (f4_j1 a1 a2 p136 z83.1))))))))
theorem f4_j0_ok {d : Nat} (hd : 6 ≤ d) (a1 : List GVar) (a2 : List GVar) {r : Bool} {Q : PX → St → Prop} (hQ : ∀ e st', f4_Q r e st' → Q e st') (p136 : List GVar) (hS : f4_j0 a1 a2 p136 = some r) {st : St} (he : keepSt [0, 1] [] [] st = f4_j0_J a1 a2 p136) : ZR (lev codes baseL (d - 1)) Q c4_9 [] st := by
  refine zrKeep he ?_
  unfold f4_j0 at hS
  refine zrSeq ?_
  refine zrReg ?_
  refine zlRun (n := 1) (j := 1) rfl (by kernel_rfl) ?_
  refine bindE hS (fun z83 hz83 hS => ?_)
  refine zlOp (d := some 43) (op := (.call 10 [(.tmp 42)])) (g := none) (j := 2) rfl (by kernel_rfl) (by kernel_rfl) (ev_callA (by kernel_rfl) (f10_ok (d - 1) (dpt hd rfl) p136 z83 hz83) (by kernel_rfl) (by kernel_rfl)) ?_
  refine zlRun (n := 5) (j := 7) rfl (by kernel_rfl) ?_
  refine zlEnd (by kernel_rfl) ?_
  refine zkSeq ?_
  refine zrSeq ?_
  refine zrReg ?_
  refine zlRun (n := 1) (j := 1) rfl (by kernel_rfl) ?_
  refine bindE hS (fun z84 hz84 hS => ?_)
  refine zlOp (d := some 48) (op := (.call 10 [(.tmp 47)])) (g := none) (j := 2) rfl (by kernel_rfl) (by kernel_rfl) (ev_callA (by kernel_rfl) (f10_ok (d - 1) (dpt hd rfl) a1 z84 hz84) (by kernel_rfl) (by kernel_rfl)) ?_
  refine zlRun (n := 5) (j := 7) rfl (by kernel_rfl) ?_
  refine zlEnd (by kernel_rfl) ?_
  refine zkSeq ?_
  refine zrSeq ?_
  refine zrSeq ?_
  refine zrReg ?_
  refine bindE hS (fun z148 hz148 hS => ?_)
  refine zlOp (d := some 51) (op := (.call 8 [])) (g := none) (j := 1) rfl (by kernel_rfl) (by kernel_rfl) (ev_callA (by kernel_rfl) (f8_ok (d - 1) (dpt hd rfl)  z148 hz148) (by kernel_rfl) (by kernel_rfl)) ?_
  refine zlRun (n := 2) (j := 3) rfl (by kernel_rfl) ?_
  refine zlSplit 53 (!z148) (by kernel_rfl) (fun hc => ?_) (fun hc => ?_)
  · replace hS := cond_t hc hS
    refine zlRun (n := 12) (j := 15) rfl (by kernel_rfl) ?_
    refine zlEnd (by kernel_rfl) ?_
    refine zkSeq ?_
    refine zrCondT (by kernel_rfl) ?_
    refine zrSeq ?_
    refine zrReg ?_
    refine bindE hS (fun z149 hz149 hS => ?_)
    refine zlOp (d := some 66) (op := (.call 8 [])) (g := none) (j := 1) rfl (by kernel_rfl) (by kernel_rfl) (ev_callA (by kernel_rfl) (f8_ok (d - 1) (dpt hd rfl)  z149 hz149) (by kernel_rfl) (by kernel_rfl)) ?_
    refine zlRun (n := 1) (j := 2) rfl (by kernel_rfl) ?_
    refine zlEnd (by kernel_rfl) ?_
    refine zkSeq ?_
    refine zrRet ?_
    refine zkSeqR ?_
    refine zkNil ?_
    exact endQ hS hQ (fRet (by kernel_rfl) ((congrArg (fun s => outR s 0 c4.res) (by kernel_rfl : finSt c4.fin _ = f4_fin z149)).trans (f4_out z149)))
  · replace hS := cond_f hc hS
    refine zlRun (n := 1) (j := 4) rfl (by kernel_rfl) ?_
    refine zlBool (d := 55) (op := (.cmpI .neq (.tmp 54) (.const (.int .i64 0)))) (g := (some (53, false))) (j := 5) (!decide (z83.2 = 0)) rfl (by kernel_rfl) (by kernel_rfl) (by kernel_rfl) (fun hc => ?_) (fun hc => ?_)
    · replace hS := cond_t hc hS
      refine zlRun (n := 10) (j := 15) rfl (by kernel_rfl) ?_
      refine zlEnd (by kernel_rfl) ?_
      refine zkSeq ?_
      refine zrCondT (by kernel_rfl) ?_
      refine zrSeq ?_
      refine zrReg ?_
      refine bindE hS (fun z150 hz150 hS => ?_)
      refine zlOp (d := some 66) (op := (.call 8 [])) (g := none) (j := 1) rfl (by kernel_rfl) (by kernel_rfl) (ev_callA (by kernel_rfl) (f8_ok (d - 1) (dpt hd rfl)  z150 hz150) (by kernel_rfl) (by kernel_rfl)) ?_
      refine zlRun (n := 1) (j := 2) rfl (by kernel_rfl) ?_
      refine zlEnd (by kernel_rfl) ?_
      refine zkSeq ?_
      refine zrRet ?_
      refine zkSeqR ?_
      refine zkNil ?_
      exact endQ hS hQ (fRet (by kernel_rfl) ((congrArg (fun s => outR s 0 c4.res) (by kernel_rfl : finSt c4.fin _ = f4_fin z150)).trans (f4_out z150)))
    · replace hS := cond_f hc hS
      refine zlRun (n := 3) (j := 8) rfl (by kernel_rfl) ?_
      refine zlBool (d := 59) (op := (.cmpI .neq (.tmp 58) (.const (.int .i64 0)))) (g := (some (57, false))) (j := 9) (!decide (z84.2 = 0)) rfl (by kernel_rfl) (by kernel_rfl) (by kernel_rfl) (fun hc => ?_) (fun hc => ?_)
      · replace hS := cond_t hc hS
        refine zlRun (n := 6) (j := 15) rfl (by kernel_rfl) ?_
        refine zlEnd (by kernel_rfl) ?_
        refine zkSeq ?_
        refine zrCondT (by kernel_rfl) ?_
        refine zrSeq ?_
        refine zrReg ?_
        refine bindE hS (fun z151 hz151 hS => ?_)
        refine zlOp (d := some 66) (op := (.call 8 [])) (g := none) (j := 1) rfl (by kernel_rfl) (by kernel_rfl) (ev_callA (by kernel_rfl) (f8_ok (d - 1) (dpt hd rfl)  z151 hz151) (by kernel_rfl) (by kernel_rfl)) ?_
        refine zlRun (n := 1) (j := 2) rfl (by kernel_rfl) ?_
        refine zlEnd (by kernel_rfl) ?_
        refine zkSeq ?_
        refine zrRet ?_
        refine zkSeqR ?_
        refine zkNil ?_
        exact endQ hS hQ (fRet (by kernel_rfl) ((congrArg (fun s => outR s 0 c4.res) (by kernel_rfl : finSt c4.fin _ = f4_fin z151)).trans (f4_out z151)))
      · replace hS := cond_f hc hS
        refine zlRun (n := 4) (j := 13) rfl (by kernel_rfl) ?_
        refine zlBool (d := 64) (op := (.cmpI .gtr (.tmp 63) (.const (.int .i64 4000)))) (g := (some (61, false))) (j := 14) (decide (4000 < (z83.1.length : Int))) rfl (by kernel_rfl) (by kernel_rfl) (by kernel_rfl) (fun hc => ?_) (fun hc => ?_)
        · replace hS := cond_t hc hS
          refine zlRun (n := 1) (j := 15) rfl (by kernel_rfl) ?_
          refine zlEnd (by kernel_rfl) ?_
          refine zkSeq ?_
          refine zrCondT (by kernel_rfl) ?_
          refine zrSeq ?_
          refine zrReg ?_
          refine bindE hS (fun z152 hz152 hS => ?_)
          refine zlOp (d := some 66) (op := (.call 8 [])) (g := none) (j := 1) rfl (by kernel_rfl) (by kernel_rfl) (ev_callA (by kernel_rfl) (f8_ok (d - 1) (dpt hd rfl)  z152 hz152) (by kernel_rfl) (by kernel_rfl)) ?_
          refine zlRun (n := 1) (j := 2) rfl (by kernel_rfl) ?_
          refine zlEnd (by kernel_rfl) ?_
          refine zkSeq ?_
          refine zrRet ?_
          refine zkSeqR ?_
          refine zkNil ?_
          exact endQ hS hQ (fRet (by kernel_rfl) ((congrArg (fun s => outR s 0 c4.res) (by kernel_rfl : finSt c4.fin _ = f4_fin z152)).trans (f4_out z152)))
        · replace hS := cond_f hc hS
          refine zlRun (n := 1) (j := 15) rfl (by kernel_rfl) ?_
          refine zlEnd (by kernel_rfl) ?_
          refine zkSeq ?_
          refine zrCondF (by kernel_rfl) ?_
          refine zrSkip ?_
          refine zkSeq ?_
          exact f4_j1_ok hd a1 a2 hQ p136 z83.1 hS (by kernel_rfl)
def f4_l9_J (a1 : List GVar) (a2 : List GVar) (x : (List GVar) × Int) : St := ⟨(up (up (up (up (fun _ => .un) 17 (.d (.int .i64 x.2))) 16 (.d (.int .i64 (a2.length : Int)))) 1 (.d (.sl x.1.length (e_GVar.cells x.1)))) 0 (.d (.sl a1.length (e_GVar.cells a1)))), (hB fun _ => 0)⟩
def f4_l9_H (a1 : List GVar) (a2 : List GVar) (x : (List GVar) × Int) (st : St) : Prop := keepSt [0, 1, 16, 17] [] [] st = f4_l9_J a1 a2 x
def f4_l9_e0_J (a1 : List GVar) (a2 : List GVar) (p29 : List GVar) : St := ⟨(up (up (fun _ => .un) 1 (.d (.sl p29.length (e_GVar.cells p29)))) 0 (.d (.sl a1.length (e_GVar.cells a1)))), (hB fun _ => 0)⟩
def f4_l9_X (a1 : List GVar) (a2 : List GVar) (z : ((List GVar))) (e : PX) (st : St) : Prop := e = .exit 0 ∧ st = f4_l9_e0_J a1 a2 z
def f4_l9_j12_J (a1 : List GVar) (a2 : List GVar) (p282 : List GVar) (p283 : Int) (p284 : Int) : St := ⟨(up (up (up (up (up (fun _ => .un) 17 (.d (.int .i64 p284))) 16 (.d (.int .i64 (a2.length : Int)))) 5 (.d (.int .i64 p283))) 1 (.r (.msl 176 0 0 p282.length))) 0 (.d (.sl a1.length (e_GVar.cells a1)))), (up (hB fun _ => 0) 176 ⟨0, some (.own 25 4 (e_GVar.cells p282))⟩)⟩
noncomputable def f4_l9_j12 (a1 : List GVar) (a2 : List GVar) (p282 : List GVar) (p283 : Int) (p284 : Int) : Option (((List GVar) × Int) ⊕ (((List GVar)))) := ((inR p283 p282.length).bind fun m159 => ((p282[m159]?).bind fun z160 => ((some (p282.set m159 (GVar.mk z160.Name ([]) z160.User z160.Set))).bind fun z161 => ((inR p283 z161.length).bind fun m162 => ((z161[m162]?).bind fun z163 => ((some (z161.set m162 (GVar.mk z163.Name z163.Value z163.User false))).bind fun z164 => (some (.inl (z164, (IntKind.i64.wrap (p284 + 1)))))))))))
theorem f4_l9_j12_ok {d : Nat} (hd : 6 ≤ d) (a1 : List GVar) (a2 : List GVar) {r : ((List GVar) × Int) ⊕ (((List GVar)))} {Q : PX → St → Prop} (hQ : ∀ e st', finL (f4_l9_H a1 a2) (f4_l9_X a1 a2) r e st' → Q e st') (p282 : List GVar) (p283 : Int) (p284 : Int) (hS : f4_l9_j12 a1 a2 p282 p283 p284 = some r) {st : St} (he : keepSt [0, 1, 5, 16, 17] [(176, .id 176)] [] st = f4_l9_j12_J a1 a2 p282 p283 p284) : ZR (lev codes baseL (d - 1)) Q c4_10 [.blk 1, .seq c4_11] st := by
  refine zrKeep he ?_
  unfold f4_l9_j12 at hS
  refine zrReg ?_
  refine zlRun (n := 4) (j := 4) rfl (by kernel_rfl) ?_
  refine bindE hS (fun m159 hm159 hS => ?_)
  refine zlOp (d := some 36) (op := (.ixS 25 4 (.tmp 32) (.tmp 33))) (g := none) (v := (.r (.ptr 176 0 ((0 + m159) * 4)))) (ups := []) (j := 5) rfl (by kernel_rfl) (by kernel_rfl) (ev_ixM (kk := .i64) (b := 176) (g := 0) (l := 0) (n := p282.length) (j := p283) (cs := e_GVar.cells p282) (by kernel_rfl) (by kernel_rfl) (by kernel_rfl) hm159) ?_
  refine zlRun (n := 1) (j := 6) rfl (by kernel_rfl) ?_
  refine bindE hS (fun z160 hz160 hS => ?_)
  refine bindE hS (fun z161 hz161 hS => ?_)
  refine zlOp (d := none) (op := (.store 1 (.tmp 37) (.const (.string ⟨#[]⟩)))) (g := none) (v := .un) (ups := [(176, ⟨0, some (.own 25 4 (e_GVar.cells (p282.set m159 (GVar.mk z160.Name ([]) z160.User z160.Set))))⟩)]) (j := 7) rfl (by kernel_rfl) (by kernel_rfl) (ev_storeM e_GVar (b := 176) (g := 0) (o := (0 + m159) * 4 + 1) (e := 25) (k := 4) (m := m159) (fo := 1) (xs := p282) (z := z160) (z' := (GVar.mk z160.Name ([]) z160.User z160.Set)) (by kernel_rfl) (new := ((.d (.str ([]))) :: [])) (ds := [.str ([])]) (by kernel_rfl) (by kernel_rfl) (by kernel_rfl) (by rw [Nat.zero_add]; rfl) hz160 (by kernel_rfl) (by kernel_rfl) (by kernel_rfl)) ?_
  have ez161 := Option.some.inj hz161
  have lz161 : p282.length = z161.length := by rw [← ez161, List.length_set]
  rw [ez161]
  try delta f4_l9_j12_J
  try rw [lz161]
  refine bindE hS (fun m162 hm162 hS => ?_)
  refine zlOp (d := some 38) (op := (.ixS 25 4 (.tmp 34) (.tmp 35))) (g := none) (v := (.r (.ptr 176 0 ((0 + m162) * 4)))) (ups := []) (j := 8) rfl (by kernel_rfl) (by kernel_rfl) (ev_ixM (kk := .i64) (b := 176) (g := 0) (l := 0) (n := z161.length) (j := p283) (cs := e_GVar.cells z161) (by kernel_rfl) (by kernel_rfl) (by kernel_rfl) hm162) ?_
  refine zlRun (n := 1) (j := 9) rfl (by kernel_rfl) ?_
  refine bindE hS (fun z163 hz163 hS => ?_)
  refine bindE hS (fun z164 hz164 hS => ?_)
  refine zlOp (d := none) (op := (.store 1 (.tmp 39) (.const (.bool .false)))) (g := none) (v := .un) (ups := [(176, ⟨0, some (.own 25 4 (e_GVar.cells (z161.set m162 (GVar.mk z163.Name z163.Value z163.User false))))⟩)]) (j := 10) rfl (by kernel_rfl) (by kernel_rfl) (ev_storeM e_GVar (b := 176) (g := 0) (o := (0 + m162) * 4 + 3) (e := 25) (k := 4) (m := m162) (fo := 3) (xs := z161) (z := z163) (z' := (GVar.mk z163.Name z163.Value z163.User false)) (by kernel_rfl) (new := ((.d (.bool false)) :: [])) (ds := [.bool false]) (by kernel_rfl) (by kernel_rfl) (by kernel_rfl) (by rw [Nat.zero_add]; rfl) hz163 (by kernel_rfl) (by kernel_rfl) (by kernel_rfl)) ?_
  have ez164 := Option.some.inj hz164
  have lz164 : z161.length = z164.length := by rw [← ez164, List.length_set]
  rw [ez164]
  try delta f4_l9_j12_J
  try rw [lz164]
  refine zlEnd (by kernel_rfl) ?_
  refine zkBlk ?_
  refine zkSeq ?_
  refine zrReg ?_
  refine zlRun (n := 2) (j := 2) rfl (by kernel_rfl) ?_
  refine zlEnd (by kernel_rfl) ?_
  refine zkNil ?_
  exact endQ hS hQ (finL_n (by show keepSt _ _ _ _ = _; exact (by kernel_rfl : _ = (⟨(up (up (up (up (fun _ => .un) 17 (.d (.int .i64 (IntKind.i64.wrap (p284 + 1))))) 16 (.d (.int .i64 (a2.length : Int)))) 1 (.d (.sl z164.length (((e_GVar.cells z164).drop (0 * e_GVar.k)).take (z164.length * e_GVar.k))))) 0 (.d (.sl a1.length (e_GVar.cells a1)))), (hB fun _ => 0)⟩ : St)).trans (by simp only [Enc.frz]; kernel_rfl)))
def f4_l9_j11_J (a1 : List GVar) (a2 : List GVar) (p273 : List GVar) (p274 : Int) : St := ⟨(up (up (up (up (fun _ => .un) 17 (.d (.int .i64 p274))) 16 (.d (.int .i64 (a2.length : Int)))) 1 (.d (.sl p273.length (e_GVar.cells p273)))) 0 (.d (.sl a1.length (e_GVar.cells a1)))), (hB fun _ => 0)⟩
noncomputable def f4_l9_j11 (a1 : List GVar) (a2 : List GVar) (p273 : List GVar) (p274 : Int) : Option (((List GVar) × Int) ⊕ (((List GVar)))) := ((f5 p273).bind fun z153 => ((inR p274 z153.length).bind fun m167 => ((z153[m167]?).bind fun z168 => (bif (decide (z168.Name = ([] : List UInt8))) then ((inR p274 z153.length).bind fun m169 => ((z153[m169]?).bind fun z170 => ((some (z153.set m169 (GVar.mk ([120]) z170.Value z170.User z170.Set))).bind fun z171 => (f4_l9_j12 a1 a2 z171 p274 p274)))) else (f4_l9_j12 a1 a2 z153 p274 p274)))))
theorem f4_l9_j11_ok {d : Nat} (hd : 6 ≤ d) (a1 : List GVar) (a2 : List GVar) {r : ((List GVar) × Int) ⊕ (((List GVar)))} {Q : PX → St → Prop} (hQ : ∀ e st', finL (f4_l9_H a1 a2) (f4_l9_X a1 a2) r e st' → Q e st') (p273 : List GVar) (p274 : Int) (hS : f4_l9_j11 a1 a2 p273 p274 = some r) {st : St} (he : keepSt [0, 1, 16, 17] [] [] st = f4_l9_j11_J a1 a2 p273 p274) : ZR (lev codes baseL (d - 1)) Q c4_12 [] st := by
  refine zrKeep he ?_
  unfold f4_l9_j11 at hS
  refine zrSeq ?_
  refine zrBlk ?_
  refine zrSeq ?_
  refine zrReg ?_
  refine zlRun (n := 2) (j := 2) rfl (by kernel_rfl) ?_
  refine zlEnd (by kernel_rfl) ?_
  refine zkSeq ?_
  refine zrSeq ?_
  refine zrReg ?_
  refine zlRun (n := 1) (j := 1) rfl (by kernel_rfl) ?_
  refine bindE hS (fun z153 hz153 hS => ?_)
  refine zlOp (d := some 21) (op := (.call 5 [(.tmp 20)])) (g := none) (j := 2) rfl (by kernel_rfl) (by kernel_rfl) (ev_callA (by kernel_rfl) (f5_ok (d - 1) (dpt hd rfl) p273 z153 hz153) (by kernel_rfl) (by kernel_rfl)) ?_
  refine zlRun (n := 1) (j := 3) rfl (by kernel_rfl) ?_
  refine zlEnd (by kernel_rfl) ?_
  refine zkSeq ?_
  refine zrSeq ?_
  refine zrSeq ?_
  refine zrReg ?_
  refine zlRun (n := 2) (j := 2) rfl (by kernel_rfl) ?_
  refine bindE hS (fun m167 hm167 hS => ?_)
  refine zlOp (d := some 24) (op := (.ixS 25 4 (.tmp 22) (.tmp 23))) (g := none) (v := (.r (.ptr 176 1 ((0 + m167) * 4)))) (ups := []) (j := 3) rfl (by kernel_rfl) (by kernel_rfl) (ev_ixM (kk := .i64) (b := 176) (g := 1) (l := 0) (n := z153.length) (j := p274) (cs := e_GVar.cells z153) (by kernel_rfl) (by kernel_rfl) (by kernel_rfl) hm167) ?_
  refine zlRun (n := 1) (j := 4) rfl (by kernel_rfl) ?_
  refine bindE hS (fun z168 hz168 hS => ?_)
  refine zlOp (d := some 26) (op := (.load .false 1 (.tmp 25))) (g := none) (v := (.d (.str z168.Name))) (ups := []) (j := 5) rfl (by kernel_rfl) (by kernel_rfl) (ev_loadM e_GVar (b := 176) (g := 1) (o := (0 + m167) * 4 + 0) (e := 25) (k := 4) (m := m167) (fo := 0) (xs := z153) (by kernel_rfl) (by kernel_rfl) (by rw [Nat.zero_add]; rfl) hz168 (by kernel_rfl) (by kernel_rfl) (by kernel_rfl)) ?_
  refine zlBool (d := 27) (op := (.strO .eql (.tmp 26) (.const (.string ⟨#[]⟩)))) (g := none) (j := 6) (decide (z168.Name = ([] : List UInt8))) rfl (by kernel_rfl) (by kernel_rfl) (by kernel_rfl) (fun hc => ?_) (fun hc => ?_)
  · replace hS := cond_t hc hS
    refine zlEnd (by kernel_rfl) ?_
    refine zkSeq ?_
    refine zrCondT (by kernel_rfl) ?_
    refine zrReg ?_
    refine zlRun (n := 2) (j := 2) rfl (by kernel_rfl) ?_
    refine bindE hS (fun m169 hm169 hS => ?_)
    refine zlOp (d := some 30) (op := (.ixS 25 4 (.tmp 28) (.tmp 29))) (g := none) (v := (.r (.ptr 176 1 ((0 + m169) * 4)))) (ups := []) (j := 3) rfl (by kernel_rfl) (by kernel_rfl) (ev_ixM (kk := .i64) (b := 176) (g := 1) (l := 0) (n := z153.length) (j := p274) (cs := e_GVar.cells z153) (by kernel_rfl) (by kernel_rfl) (by kernel_rfl) hm169) ?_
    refine zlRun (n := 1) (j := 4) rfl (by kernel_rfl) ?_
    refine bindE hS (fun z170 hz170 hS => ?_)
    refine bindE hS (fun z171 hz171 hS => ?_)
    refine zlOp (d := none) (op := (.store 1 (.tmp 31) (.const (.string ⟨#[120]⟩)))) (g := none) (v := .un) (ups := [(176, ⟨1, some (.own 25 4 (e_GVar.cells (z153.set m169 (GVar.mk ([120]) z170.Value z170.User z170.Set))))⟩)]) (j := 5) rfl (by kernel_rfl) (by kernel_rfl) (ev_storeM e_GVar (b := 176) (g := 1) (o := (0 + m169) * 4 + 0) (e := 25) (k := 4) (m := m169) (fo := 0) (xs := z153) (z := z170) (z' := (GVar.mk ([120]) z170.Value z170.User z170.Set)) (by kernel_rfl) (new := ((.d (.str ([120]))) :: [])) (ds := [.str ([120])]) (by kernel_rfl) (by kernel_rfl) (by kernel_rfl) (by rw [Nat.zero_add]; rfl) hz170 (by kernel_rfl) (by kernel_rfl) (by kernel_rfl)) ?_
    have ez171 := Option.some.inj hz171
    have lz171 : z153.length = z171.length := by rw [← ez171, List.length_set]
    rw [ez171]
    try delta f4_l9_j11_J
    try rw [lz171]
    refine zlEnd (by kernel_rfl) ?_
    refine zkSeq ?_
    exact f4_l9_j12_ok hd a1 a2 hQ z171 p274 p274 hS (by kernel_rfl)
  · replace hS := cond_f hc hS
    refine zlEnd (by kernel_rfl) ?_
    refine zkSeq ?_
    refine zrCondF (by kernel_rfl) ?_
    refine zrSkip ?_
    refine zkSeq ?_
    exact f4_l9_j12_ok hd a1 a2 hQ z153 p274 p274 hS (by kernel_rfl)
def f4_l9_j10_J (a1 : List GVar) (a2 : List GVar) (p270 : List GVar) (p271 : Int) (p272 : Bool) : St := ⟨(up (up (up (up (up (fun _ => .un) 18 (.d (.bool p272))) 17 (.d (.int .i64 p271))) 16 (.d (.int .i64 (a2.length : Int)))) 1 (.d (.sl p270.length (e_GVar.cells p270)))) 0 (.d (.sl a1.length (e_GVar.cells a1)))), (hB fun _ => 0)⟩
noncomputable def f4_l9_j10 (a1 : List GVar) (a2 : List GVar) (p270 : List GVar) (p271 : Int) (p272 : Bool) : Option (((List GVar) × Int) ⊕ (((List GVar)))) := (bif p272 then (f4_l9_j11 a1 a2 p270 p271) else (some (.inr p270)))
theorem f4_l9_j10_ok {d : Nat} (hd : 6 ≤ d) (a1 : List GVar) (a2 : List GVar) {r : ((List GVar) × Int) ⊕ (((List GVar)))} {Q : PX → St → Prop} (hQ : ∀ e st', finL (f4_l9_H a1 a2) (f4_l9_X a1 a2) r e st' → Q e st') (p270 : List GVar) (p271 : Int) (p272 : Bool) (hS : f4_l9_j10 a1 a2 p270 p271 p272 = some r) {st : St} (he : keepSt [0, 1, 16, 17, 18] [] [] st = f4_l9_j10_J a1 a2 p270 p271 p272) : ZR (lev codes baseL (d - 1)) Q c4_13 [] st := by
  refine zrKeep he ?_
  unfold f4_l9_j10 at hS
  refine zrSeq ?_
  refine zrSplit 18 p272 (by kernel_rfl) (fun hc => ?_) (fun hc => ?_)
  · replace hS := cond_t hc hS
    refine zrCondT (by kernel_rfl) ?_
    refine zrSkip ?_
    refine zkSeq ?_
    exact f4_l9_j11_ok hd a1 a2 hQ p270 p271 hS (by kernel_rfl)
  · replace hS := cond_f hc hS
    refine zrCondF (by kernel_rfl) ?_
    refine zrKeep (J := f4_l9_e0_J a1 a2 p270) (by kernel_rfl) ?_
    refine zrExit ?_
    refine zkSeqX ?_
    refine zkNil ?_
    exact endQ hS hQ (finL_x (by intro h; cases h) (by show _ = _ ∧ _ = _; exact ⟨rfl, rfl⟩))
noncomputable def f4_l9 (a1 : List GVar) (a2 : List GVar) (x : (List GVar) × Int) : Option (((List GVar) × Int) ⊕ (((List GVar)))) := (bif (decide (x.2 < (a2.length : Int))) then (f4_l9_j10 a1 a2 x.1 x.2 true) else (f4_l9_j10 a1 a2 x.1 x.2 false))
theorem f4_l9_ok {d : Nat} (hd : 6 ≤ d) (a1 : List GVar) (a2 : List GVar) {r : ((List GVar) × Int) ⊕ (((List GVar)))} {Q : PX → St → Prop} (hQ : ∀ e st', finL (f4_l9_H a1 a2) (f4_l9_X a1 a2) r e st' → Q e st') {x : (List GVar) × Int} (hS : f4_l9 a1 a2 x = some r) {st : St} (he : f4_l9_H a1 a2 x st) : ZR (lev codes baseL (d - 1)) Q c4_14 [] st := by
  refine zrKeep he ?_
  unfold f4_l9 at hS
  refine zrSeq ?_
  refine zrReg ?_
  refine zlBool (d := 18) (op := (.cmpI .lss (.tmp 17) (.tmp 16))) (g := none) (j := 1) (decide (x.2 < (a2.length : Int))) rfl (by kernel_rfl) (by kernel_rfl) (by kernel_rfl) (fun hc => ?_) (fun hc => ?_)
  · replace hS := cond_t hc hS
    refine zlEnd (by kernel_rfl) ?_
    refine zkSeq ?_
    exact f4_l9_j10_ok hd a1 a2 hQ x.1 x.2 true hS (by kernel_rfl)
  · replace hS := cond_f hc hS
    refine zlEnd (by kernel_rfl) ?_
    refine zkSeq ?_
    exact f4_l9_j10_ok hd a1 a2 hQ x.1 x.2 false hS (by kernel_rfl)
noncomputable def f4 (a1 : List GVar) (a2 : List GVar) : Option (Bool) := ((loopO (f4_l9 a1 a2) (a2, 0)).bind fun z172 => (f4_j0 a1 a2 z172))
theorem f4_ok (d : Nat) (hd : 6 ≤ d) (a1 : List GVar) (a2 : List GVar) (r : Bool) (hS : f4 a1 a2 = some r) : lev codes baseL d 4 [(.d (.sl a1.length (e_GVar.cells a1))), (.d (.sl a2.length (e_GVar.cells a2)))] [] = some ((.d (.bool r)), []) := by
  refine lev_go codes4 rfl rfl (Nat.le_trans (Nat.le_of_ble_eq_true rfl) hd) fun Q hQ => ?_
  unfold f4 at hS
  show ZR _ Q c4_b [] _
  replace hQ : ∀ e st', f4_Q r e st' → Q e st' := hQ
  refine zrSeq ?_
  refine zrReg ?_
  refine zlRun (n := 1) (j := 1) rfl (by kernel_rfl) ?_
  refine zlEnd (by kernel_rfl) ?_
  refine zkSeq ?_
  refine zrSeq ?_
  refine zrSeq ?_
  refine zrReg ?_
  refine zlRun (n := 3) (j := 3) rfl (by kernel_rfl) ?_
  refine zlEnd (by kernel_rfl) ?_
  refine zkSeq ?_
  refine zrBlk ?_
  refine bindE hS (fun z172 hz172 hS => ?_)
  refine zrLoop (f4_l9_H a1 a2) (f4_l9_X a1 a2) (fun x st r Q h0 hS hQ => f4_l9_ok hd a1 a2 hQ hS h0) (x := (a2, 0)) (z := z172) (by show keepSt _ _ _ _ = _; kernel_rfl) hz172 ?_
  intro e st' _ hX
  obtain ⟨rfl, rfl⟩ : _ ∧ _ := hX
  refine zkBlkX ?_
  refine zkSeq ?_
  exact f4_j0_ok hd a1 a2 hQ z172 hS (by kernel_rfl)
end Go.Proofs.Ytdphimcpcclifaa.Pm
