/- Typed functions, and that the codes are these. Printed by dec.py. -/
import Derived.Test.YthblnlmpfgfgcaaDoorDIbC
namespace Go.Proofs.YthblnlmpfgfgcaaDoor.Pm
set_option maxRecDepth 1000000
set_option maxHeartbeats 20000000
set_option linter.unusedVariables false
/- strings.ReplaceAll -/
theorem libReplaceAll_ok (d : Nat) (hd : 0 ≤ d) (a1 : List UInt8) (a2 : List UInt8) (a3 : List UInt8) (r : List UInt8) (hS : libReplaceAll a1 a2 a3 = some r) : lev codes baseL d 33 [(.d (.str a1)), (.d (.str a2)), (.d (.str a3))] [] = some ((.d (.str r)), []) := lib_callB (l := libs) rfl rfl rfl rfl rfl (osssS_ hS) d
/- farwriter/iac.Escape -/
def f21_fin (p1 : List UInt8) : St := ⟨(up (fun _ => .un) 2 (.d (.str p1))), (hB fun _ => 0)⟩
theorem f21_out (p1 : List UInt8) : outR (f21_fin p1) 0 c21.res = some ((.d (.str p1)), []) := by
  kernel_rfl
def f21_Q (r : (List UInt8)) (e : PX) (st : St) : Prop := DoneF c21 0 ((.d (.str r)), []) e st
noncomputable def f21 (a1 : List UInt8) : Option ((List UInt8)) := ((libReplaceAll a1 [255] [255, 255]).bind fun z2 => (some z2))
theorem f21_ok (d : Nat) (hd : 1 ≤ d) (a1 : List UInt8) (r : (List UInt8)) (hS : f21 a1 = some r) : lev codes baseL d 21 [(.d (.str a1))] [] = some ((.d (.str r)), []) := by
  refine lev_go codes21 rfl rfl (Nat.le_trans (Nat.le_of_ble_eq_true rfl) hd) fun Q hQ => ?_
  unfold f21 at hS
  show ZR _ Q c21_b [] _
  replace hQ : ∀ e st', f21_Q r e st' → Q e st' := hQ
  refine zrSeq ?_
  refine zrReg ?_
  refine zlRun (n := 1) (j := 1) rfl (by kernel_rfl) ?_
  refine zlEnd (by kernel_rfl) ?_
  refine zkSeq ?_
  refine zrSeq ?_
  refine zrReg ?_
  refine zlRun (n := 1) (j := 1) rfl (by kernel_rfl) ?_
  refine bindE hS (fun z2 hz2 hS => ?_)
  refine zlOp (d := some 4) (op := (.call 33 [(.tmp 3), (.const (.string ⟨#[255]⟩)), (.const (.string ⟨#[255, 255]⟩))])) (g := none) (j := 2) rfl (by kernel_rfl) (by kernel_rfl) (ev_callA (by kernel_rfl) (libReplaceAll_ok (d - 1) (dpt hd rfl) a1 [255] [255, 255] z2 hz2) (by kernel_rfl) (by kernel_rfl)) ?_
  refine zlRun (n := 1) (j := 3) rfl (by kernel_rfl) ?_
  refine zlEnd (by kernel_rfl) ?_
  refine zkSeq ?_
  refine zrRet ?_
  refine zkNil ?_
  exact endQ hS hQ (fRet (by kernel_rfl) ((congrArg (fun s => outR s 0 c21.res) (by kernel_rfl : finSt c21.fin _ = f21_fin z2)).trans (f21_out z2)))
/- farwriter/iac.Write -/
def f11_fin (p29 : List UInt8) (p30 : Int) : St := ⟨(up (up (fun _ => .un) 3 (.d (.int .i64 p30))) 2 (.d (.str p29))), (hB fun _ => 0)⟩
theorem f11_out (p29 : List UInt8) (p30 : Int) : outR (f11_fin p29 p30) 0 c11.res = some ((.tup [(.d (.str p29)), (.d (.int .i64 p30))]), []) := by
  kernel_rfl
def f11_Q (r : (List UInt8) × Int) (e : PX) (st : St) : Prop := DoneF c11 0 ((.tup [(.d (.str r.1)), (.d (.int .i64 r.2))]), []) e st
def f11_j5_J (a1 : GTok) : St := ⟨(up (fun _ => .un) 1 (.r (.ptr 16 0 0))), (up (hB fun _ => 0) 16 ⟨0, some (.box ((.d (.int .i64 a1.Kind)) :: ((.d (.int .i64 a1.Cmd)) :: ((.d (.int .i64 a1.Opt)) :: ((.d (.str a1.Data)) :: [])))))⟩)⟩
noncomputable def f11_j5 (a1 : GTok) : Option ((List UInt8) × Int) := ((f21 a1.Data).bind fun z5 => ((cat? ([255, 250, (u8 a1.Opt)] : List UInt8) z5).bind fun z6 => ((cat? z6 ([255, 240] : List UInt8)).bind fun z7 => (some (z7, 0)))))
theorem f11_j5_ok {d : Nat} (hd : 2 ≤ d) (a1 : GTok) {r : (List UInt8) × Int} {Q : PX → St → Prop} (hQ : ∀ e st', f11_Q r e st' → Q e st')  (hS : f11_j5 a1 = some r) {st : St} (he : keepSt [1] [(16, .id 16)] [] st = f11_j5_J a1) : ZR (lev codes baseL (d - 1)) Q c11_1 [.blk 0, .seq c11_2] st := by
  refine zrKeep he ?_
  unfold f11_j5 at hS
  refine zrSeq ?_
  refine zrRegD ?_
  refine zdRun (n := 2) (j := 2) (ts := [[], [(16, false)]]) (acc' := [[], [(16, false)]]) rfl (by kernel_rfl) (by kernel_rfl) (by kernel_rfl) ?_
  refine zdOp (d := some 107) (op := (.cvI .u8 (.tmp 106))) (g := none) (v := (.d (.int .u8 ((u8 a1.Opt).toNat : Int)))) (ups := []) (j := 3) (t1 := []) (acc' := [[], [(16, false)], []]) (by kernel_rfl) (by kernel_rfl) rfl (by kernel_rfl) (by kernel_rfl) (ev_cv (kk := .i64) (a := a1.Opt) (by kernel_rfl) (u8_wrap _)) ?_
  refine zdRun (n := 1) (j := 4) (ts := [[(872, true)]]) (acc' := [[], [(16, false)], [], [(872, true)]]) rfl (by kernel_rfl) (by kernel_rfl) (by kernel_rfl) ?_
  refine zdOp (d := some 109) (op := (.cvBS (.tmp 108))) (g := none) (v := (.d (.str ([255, 250, (u8 a1.Opt)] : List UInt8)))) (ups := []) (j := 5) (t1 := [(872, false)]) (acc' := [[], [(16, false)], [], [(872, true)], [(872, false)]]) (by kernel_rfl) (by kernel_rfl) rfl (by kernel_rfl) (by kernel_rfl) (ev_cvBS (s := [255, 250, (u8 a1.Opt)]) ((congrArg (asL _) (by kernel_rfl : ρof _ (.tmp 108) = (.r (.msl 872 1 0 (([255, 250, (u8 a1.Opt)] : List UInt8).length))))).trans (as_whole eU8 (e := 5) (k := 1) (xs := [255, 250, (u8 a1.Opt)]) (by kernel_rfl) rfl rfl)) rfl) ?_
  refine zdRun (n := 2) (j := 7) (ts := [[], [(16, false)]]) (acc' := [[], [(16, false)], [], [(872, true)], [(872, false)], [], [(16, false)]]) rfl (by kernel_rfl) (by kernel_rfl) (by kernel_rfl) ?_
  refine bindE hS (fun z5 hz5 hS => ?_)
  refine zdOp (d := some 112) (op := (.call 21 [(.tmp 111)])) (g := none) (j := 8) (t1 := [(904, true), (905, true), (906, true), (907, true), (908, true), (909, true), (910, true), (911, true)]) (acc' := [[], [(16, false)], [], [(872, true)], [(872, false)], [], [(16, false)], [(904, true), (905, true), (906, true), (907, true), (908, true), (909, true), (910, true), (911, true)]]) (by kernel_rfl) (by kernel_rfl) rfl (by kernel_rfl) (by kernel_rfl) (ev_callA (by kernel_rfl) (f21_ok (d - 1) (dpt hd rfl) a1.Data z5 hz5) (by kernel_rfl) (by kernel_rfl)) ?_
  refine bindE hS (fun z6 hz6 hS => ?_)
  refine zdOp (d := some 113) (op := (.strO .add (.tmp 109) (.tmp 112))) (g := none) (v := (.d (.str z6))) (ups := []) (j := 9) (t1 := []) (acc' := [[], [(16, false)], [], [(872, true)], [(872, false)], [], [(16, false)], [(904, true), (905, true), (906, true), (907, true), (908, true), (909, true), (910, true), (911, true)], []]) (by kernel_rfl) (by kernel_rfl) rfl (by kernel_rfl) (by kernel_rfl) (ev_cat (a := ([255, 250, (u8 a1.Opt)] : List UInt8)) (c := z5) (by kernel_rfl) (by kernel_rfl) hz6) ?_
  refine bindE hS (fun z7 hz7 hS => ?_)
  refine zdOp (d := some 114) (op := (.strO .add (.tmp 113) (.const (.string ⟨#[255, 240]⟩)))) (g := none) (v := (.d (.str z7))) (ups := []) (j := 10) (t1 := []) (acc' := [[], [(16, false)], [], [(872, true)], [(872, false)], [], [(16, false)], [(904, true), (905, true), (906, true), (907, true), (908, true), (909, true), (910, true), (911, true)], [], []]) (by kernel_rfl) (by kernel_rfl) rfl (by kernel_rfl) (by kernel_rfl) (ev_cat (a := z6) (c := [255, 240]) (by kernel_rfl) (by kernel_rfl) hz7) ?_
  refine zdRun (n := 2) (j := 12) (ts := [[], []]) (acc' := [[], [(16, false)], [], [(872, true)], [(872, false)], [], [(16, false)], [(904, true), (905, true), (906, true), (907, true), (908, true), (909, true), (910, true), (911, true)], [], [], [], []]) rfl (by kernel_rfl) (by kernel_rfl) (by kernel_rfl) ?_
  refine zdEnd (by kernel_rfl) (by kernel_rfl) ?_
  refine zkSeq ?_
  refine zrRet ?_
  refine zkBlkR ?_
  refine zkSeqR ?_
  refine zkNil ?_
  exact endQ hS hQ (fRet (by kernel_rfl) ((congrArg (fun s => outR s 0 c11.res) (by kernel_rfl : finSt c11.fin _ = f11_fin z7 0)).trans (f11_out z7 0)))
def f11_j4_J (a1 : GTok) (p47 : Bool) : St := ⟨(up (up (fun _ => .un) 89 (.d (.bool p47))) 1 (.r (.ptr 16 0 0))), (up (hB fun _ => 0) 16 ⟨0, some (.box ((.d (.int .i64 a1.Kind)) :: ((.d (.int .i64 a1.Cmd)) :: ((.d (.int .i64 a1.Opt)) :: ((.d (.str a1.Data)) :: [])))))⟩)⟩
noncomputable def f11_j4 (a1 : GTok) (p47 : Bool) : Option ((List UInt8) × Int) := (bif p47 then (bif (decide (4096 < (a1.Data.length : Int))) then (some ([], 2)) else (f11_j5 a1 )) else (some ([], 1)))
theorem f11_j4_ok {d : Nat} (hd : 2 ≤ d) (a1 : GTok) {r : (List UInt8) × Int} {Q : PX → St → Prop} (hQ : ∀ e st', f11_Q r e st' → Q e st') (p47 : Bool) (hS : f11_j4 a1 p47 = some r) {st : St} (he : keepSt [1, 89] [(16, .id 16)] [] st = f11_j4_J a1 p47) : ZR (lev codes baseL (d - 1)) Q c11_3 [.blk 0, .seq c11_2] st := by
  refine zrKeep he ?_
  unfold f11_j4 at hS
  refine zrSplit 89 p47 (by kernel_rfl) (fun hc => ?_) (fun hc => ?_)
  · replace hS := cond_t hc hS
    refine zrCondT (by kernel_rfl) ?_
    refine zrSeq ?_
    refine zrSeq ?_
    refine zrReg ?_
    refine zlRun (n := 3) (j := 3) rfl (by kernel_rfl) ?_
    refine zlBool (d := 104) (op := (.cmpI .gtr (.tmp 103) (.const (.int .i64 4096)))) (g := none) (j := 4) (decide (4096 < (a1.Data.length : Int))) rfl (by kernel_rfl) (by kernel_rfl) (by kernel_rfl) (fun hc => ?_) (fun hc => ?_)
    · replace hS := cond_t hc hS
      refine zlEnd (by kernel_rfl) ?_
      refine zkSeq ?_
      refine zrCondT (by kernel_rfl) ?_
      refine zrSeq ?_
      refine zrReg ?_
      refine zlRun (n := 2) (j := 2) rfl (by kernel_rfl) ?_
      refine zlEnd (by kernel_rfl) ?_
      refine zkSeq ?_
      refine zrRet ?_
      refine zkSeqR ?_
      refine zkBlkR ?_
      refine zkSeqR ?_
      refine zkNil ?_
      exact endQ hS hQ (fRet (by kernel_rfl) ((congrArg (fun s => outR s 0 c11.res) (by kernel_rfl : finSt c11.fin _ = f11_fin [] 2)).trans (f11_out [] 2)))
    · replace hS := cond_f hc hS
      refine zlEnd (by kernel_rfl) ?_
      refine zkSeq ?_
      refine zrCondF (by kernel_rfl) ?_
      refine zrSkip ?_
      refine zkSeq ?_
      exact f11_j5_ok hd a1 hQ  hS (by kernel_rfl)
  · replace hS := cond_f hc hS
    refine zrCondF (by kernel_rfl) ?_
    refine zrSkip ?_
    refine zkBlk ?_
    refine zkSeq ?_
    refine zrSeq ?_
    refine zrReg ?_
    refine zlRun (n := 2) (j := 2) rfl (by kernel_rfl) ?_
    refine zlEnd (by kernel_rfl) ?_
    refine zkSeq ?_
    refine zrRet ?_
    refine zkNil ?_
    exact endQ hS hQ (fRet (by kernel_rfl) ((congrArg (fun s => outR s 0 c11.res) (by kernel_rfl : finSt c11.fin _ = f11_fin [] 1)).trans (f11_out [] 1)))
def f11_j3_J (a1 : GTok) (p44 : Bool) : St := ⟨(up (up (fun _ => .un) 5 (.d (.bool p44))) 1 (.r (.ptr 16 0 0))), (up (hB fun _ => 0) 16 ⟨0, some (.box ((.d (.int .i64 a1.Kind)) :: ((.d (.int .i64 a1.Cmd)) :: ((.d (.int .i64 a1.Opt)) :: ((.d (.str a1.Data)) :: [])))))⟩)⟩
noncomputable def f11_j3 (a1 : GTok) (p44 : Bool) : Option ((List UInt8) × Int) := (bif (decide (a1.Kind = 4)) then (bif (decide (a1.Cmd = 0)) then (f11_j4 a1 p44) else (f11_j4 a1 false)) else (f11_j4 a1 false))
theorem f11_j3_ok {d : Nat} (hd : 2 ≤ d) (a1 : GTok) {r : (List UInt8) × Int} {Q : PX → St → Prop} (hQ : ∀ e st', f11_Q r e st' → Q e st') (p44 : Bool) (hS : f11_j3 a1 p44 = some r) {st : St} (he : keepSt [1, 5] [(16, .id 16)] [] st = f11_j3_J a1 p44) : ZR (lev codes baseL (d - 1)) Q c11_4 [.blk 0, .seq c11_2] st := by
  refine zrKeep he ?_
  unfold f11_j3 at hS
  refine zrSeq ?_
  refine zrReg ?_
  refine zlRun (n := 2) (j := 2) rfl (by kernel_rfl) ?_
  refine zlBool (d := 92) (op := (.cmpI .eql (.tmp 91) (.const (.int .i64 4)))) (g := none) (j := 3) (decide (a1.Kind = 4)) rfl (by kernel_rfl) (by kernel_rfl) (by kernel_rfl) (fun hc => ?_) (fun hc => ?_)
  · replace hS := cond_t hc hS
    refine zlRun (n := 3) (j := 6) rfl (by kernel_rfl) ?_
    refine zlBool (d := 96) (op := (.cmpI .eql (.tmp 95) (.const (.int .i64 0)))) (g := (some (93, true))) (j := 7) (decide (a1.Cmd = 0)) rfl (by kernel_rfl) (by kernel_rfl) (by kernel_rfl) (fun hc => ?_) (fun hc => ?_)
    · replace hS := cond_t hc hS
      refine zlRun (n := 5) (j := 12) rfl (by kernel_rfl) ?_
      refine zlEnd (by kernel_rfl) ?_
      refine zkSeq ?_
      exact f11_j4_ok hd a1 hQ p44 hS (by kernel_rfl)
    · replace hS := cond_f hc hS
      refine zlRun (n := 5) (j := 12) rfl (by kernel_rfl) ?_
      refine zlEnd (by kernel_rfl) ?_
      refine zkSeq ?_
      exact f11_j4_ok hd a1 hQ false hS (by kernel_rfl)
  · replace hS := cond_f hc hS
    refine zlRun (n := 9) (j := 12) rfl (by kernel_rfl) ?_
    refine zlEnd (by kernel_rfl) ?_
    refine zkSeq ?_
    exact f11_j4_ok hd a1 hQ false hS (by kernel_rfl)
def f11_j2_J (a1 : GTok) (p39 : Bool) : St := ⟨(up (up (fun _ => .un) 5 (.d (.bool p39))) 1 (.r (.ptr 16 0 0))), (up (hB fun _ => 0) 16 ⟨0, some (.box ((.d (.int .i64 a1.Kind)) :: ((.d (.int .i64 a1.Cmd)) :: ((.d (.int .i64 a1.Opt)) :: ((.d (.str a1.Data)) :: [])))))⟩)⟩
noncomputable def f11_j2 (a1 : GTok) (p39 : Bool) : Option ((List UInt8) × Int) := (bif (decide (a1.Kind = 3)) then (bif (decide (251 ≤ a1.Cmd)) then (bif (decide (a1.Cmd ≤ 254)) then (bif p39 then (bif (decide (a1.Data = ([] : List UInt8))) then (some (([255, (u8 a1.Cmd), (u8 a1.Opt)] : List UInt8), 0)) else (f11_j3 a1 p39)) else (f11_j3 a1 p39)) else (f11_j3 a1 p39)) else (f11_j3 a1 p39)) else (f11_j3 a1 p39))
theorem f11_j2_ok {d : Nat} (hd : 2 ≤ d) (a1 : GTok) {r : (List UInt8) × Int} {Q : PX → St → Prop} (hQ : ∀ e st', f11_Q r e st' → Q e st') (p39 : Bool) (hS : f11_j2 a1 p39 = some r) {st : St} (he : keepSt [1, 5] [(16, .id 16)] [] st = f11_j2_J a1 p39) : ZR (lev codes baseL (d - 1)) Q c11_5 [.blk 0, .seq c11_2] st := by
  refine zrKeep he ?_
  unfold f11_j2 at hS
  refine zrSeq ?_
  refine zrReg ?_
  refine zlRun (n := 2) (j := 2) rfl (by kernel_rfl) ?_
  refine zlBool (d := 62) (op := (.cmpI .eql (.tmp 61) (.const (.int .i64 3)))) (g := none) (j := 3) (decide (a1.Kind = 3)) rfl (by kernel_rfl) (by kernel_rfl) (by kernel_rfl) (fun hc => ?_) (fun hc => ?_)
  · replace hS := cond_t hc hS
    refine zlRun (n := 3) (j := 6) rfl (by kernel_rfl) ?_
    refine zlBool (d := 66) (op := (.cmpI .geq (.tmp 65) (.const (.int .i64 251)))) (g := (some (63, true))) (j := 7) (decide (251 ≤ a1.Cmd)) rfl (by kernel_rfl) (by kernel_rfl) (by kernel_rfl) (fun hc => ?_) (fun hc => ?_)
    · replace hS := cond_t hc hS
      refine zlRun (n := 4) (j := 11) rfl (by kernel_rfl) ?_
      refine zlBool (d := 71) (op := (.cmpI .leq (.tmp 70) (.const (.int .i64 254)))) (g := (some (68, true))) (j := 12) (decide (a1.Cmd ≤ 254)) rfl (by kernel_rfl) (by kernel_rfl) (by kernel_rfl) (fun hc => ?_) (fun hc => ?_)
      · replace hS := cond_t hc hS
        refine zlRun (n := 5) (j := 17) rfl (by kernel_rfl) ?_
        refine zlSplit 76 p39 (by kernel_rfl) (fun hc => ?_) (fun hc => ?_)
        · replace hS := cond_t hc hS
          refine zlRun (n := 2) (j := 19) rfl (by kernel_rfl) ?_
          refine zlBool (d := 79) (op := (.strO .eql (.tmp 78) (.const (.string ⟨#[]⟩)))) (g := (some (76, true))) (j := 20) (decide (a1.Data = ([] : List UInt8))) rfl (by kernel_rfl) (by kernel_rfl) (by kernel_rfl) (fun hc => ?_) (fun hc => ?_)
          · replace hS := cond_t hc hS
            refine zlRun (n := 2) (j := 22) rfl (by kernel_rfl) ?_
            refine zlEnd (by kernel_rfl) ?_
            refine zkSeq ?_
            refine zrCondT (by kernel_rfl) ?_
            refine zrSeq ?_
            refine zrReg ?_
            refine zlRun (n := 2) (j := 2) rfl (by kernel_rfl) ?_
            refine zlOp (d := some 83) (op := (.cvI .u8 (.tmp 82))) (g := none) (v := (.d (.int .u8 ((u8 a1.Cmd).toNat : Int)))) (ups := []) (j := 3) rfl (by kernel_rfl) (by kernel_rfl) (ev_cv (kk := .i64) (a := a1.Cmd) (by kernel_rfl) (u8_wrap _)) ?_
            refine zlRun (n := 2) (j := 5) rfl (by kernel_rfl) ?_
            refine zlOp (d := some 86) (op := (.cvI .u8 (.tmp 85))) (g := none) (v := (.d (.int .u8 ((u8 a1.Opt).toNat : Int)))) (ups := []) (j := 6) rfl (by kernel_rfl) (by kernel_rfl) (ev_cv (kk := .i64) (a := a1.Opt) (by kernel_rfl) (u8_wrap _)) ?_
            refine zlRun (n := 1) (j := 7) rfl (by kernel_rfl) ?_
            refine zlOp (d := some 88) (op := (.cvBS (.tmp 87))) (g := none) (v := (.d (.str ([255, (u8 a1.Cmd), (u8 a1.Opt)] : List UInt8)))) (ups := []) (j := 8) rfl (by kernel_rfl) (by kernel_rfl) (ev_cvBS (s := [255, (u8 a1.Cmd), (u8 a1.Opt)]) ((congrArg (asL _) (by kernel_rfl : ρof _ (.tmp 87) = (.r (.msl 704 1 0 (([255, (u8 a1.Cmd), (u8 a1.Opt)] : List UInt8).length))))).trans (as_whole eU8 (e := 5) (k := 1) (xs := [255, (u8 a1.Cmd), (u8 a1.Opt)]) (by kernel_rfl) rfl rfl)) rfl) ?_
            refine zlRun (n := 2) (j := 10) rfl (by kernel_rfl) ?_
            refine zlEnd (by kernel_rfl) ?_
            refine zkSeq ?_
            refine zrRet ?_
            refine zkBlkR ?_
            refine zkSeqR ?_
            refine zkNil ?_
            exact endQ hS hQ (fRet (by kernel_rfl) ((congrArg (fun s => outR s 0 c11.res) (by kernel_rfl : finSt c11.fin _ = f11_fin ([255, (u8 a1.Cmd), (u8 a1.Opt)] : List UInt8) 0)).trans (f11_out ([255, (u8 a1.Cmd), (u8 a1.Opt)] : List UInt8) 0)))
          · replace hS := cond_f hc hS
            refine zlRun (n := 2) (j := 22) rfl (by kernel_rfl) ?_
            refine zlEnd (by kernel_rfl) ?_
            refine zkSeq ?_
            refine zrCondF (by kernel_rfl) ?_
            exact f11_j3_ok hd a1 hQ p39 hS (by kernel_rfl)
        · replace hS := cond_f hc hS
          refine zlRun (n := 5) (j := 22) rfl (by kernel_rfl) ?_
          refine zlEnd (by kernel_rfl) ?_
          refine zkSeq ?_
          refine zrCondF (by kernel_rfl) ?_
          exact f11_j3_ok hd a1 hQ p39 hS (by kernel_rfl)
      · replace hS := cond_f hc hS
        refine zlRun (n := 10) (j := 22) rfl (by kernel_rfl) ?_
        refine zlEnd (by kernel_rfl) ?_
        refine zkSeq ?_
        refine zrCondF (by kernel_rfl) ?_
        exact f11_j3_ok hd a1 hQ p39 hS (by kernel_rfl)
    · replace hS := cond_f hc hS
      refine zlRun (n := 15) (j := 22) rfl (by kernel_rfl) ?_
      refine zlEnd (by kernel_rfl) ?_
      refine zkSeq ?_
      refine zrCondF (by kernel_rfl) ?_
      exact f11_j3_ok hd a1 hQ p39 hS (by kernel_rfl)
  · replace hS := cond_f hc hS
    refine zlRun (n := 19) (j := 22) rfl (by kernel_rfl) ?_
    refine zlEnd (by kernel_rfl) ?_
    refine zkSeq ?_
    refine zrCondF (by kernel_rfl) ?_
    exact f11_j3_ok hd a1 hQ p39 hS (by kernel_rfl)
def f11_j1_J (a1 : GTok) (p36 : Bool) : St := ⟨(up (up (up (fun _ => .un) 5 (.d (.bool p36))) 4 (.r (.ptr 40 0 0))) 1 (.r (.ptr 16 0 0))), (up (up (hB fun _ => 0) 40 ⟨0, some (.box ((.d (.int .i64 a1.Kind)) :: ((.d (.int .i64 0)) :: ((.d (.int .i64 0)) :: ((.d (.str ([]))) :: [])))))⟩) 16 ⟨0, some (.box ((.d (.int .i64 a1.Kind)) :: ((.d (.int .i64 a1.Cmd)) :: ((.d (.int .i64 a1.Opt)) :: ((.d (.str a1.Data)) :: [])))))⟩)⟩
noncomputable def f11_j1 (a1 : GTok) (p36 : Bool) : Option ((List UInt8) × Int) := (bif (decide (a1.Kind = 2)) then (bif (decide (240 ≤ a1.Cmd)) then (bif (decide (a1.Cmd ≤ 249)) then (bif (decide (a1.Kind = a1.Kind) && (decide (a1.Cmd = a1.Cmd) && (decide (a1.Opt = 0) && (decide (a1.Data = ([] : List UInt8)) && true)))) then (some (([255, (u8 a1.Cmd)] : List UInt8), 0)) else (some ([], 1))) else (f11_j2 a1 p36)) else (f11_j2 a1 p36)) else (f11_j2 a1 p36))
theorem f11_j1_ok {d : Nat} (hd : 2 ≤ d) (a1 : GTok) {r : (List UInt8) × Int} {Q : PX → St → Prop} (hQ : ∀ e st', f11_Q r e st' → Q e st') (p36 : Bool) (hS : f11_j1 a1 p36 = some r) {st : St} (he : keepSt [1, 4, 5] [(16, .id 16), (40, .id 40)] [] st = f11_j1_J a1 p36) : ZR (lev codes baseL (d - 1)) Q c11_6 [.blk 0, .seq c11_2] st := by
  refine zrKeep he ?_
  unfold f11_j1 at hS
  refine zrSeq ?_
  refine zrReg ?_
  refine zlRun (n := 2) (j := 2) rfl (by kernel_rfl) ?_
  refine zlBool (d := 37) (op := (.cmpI .eql (.tmp 36) (.const (.int .i64 2)))) (g := none) (j := 3) (decide (a1.Kind = 2)) rfl (by kernel_rfl) (by kernel_rfl) (by kernel_rfl) (fun hc => ?_) (fun hc => ?_)
  · replace hS := cond_t hc hS
    refine zlRun (n := 3) (j := 6) rfl (by kernel_rfl) ?_
    refine zlBool (d := 41) (op := (.cmpI .geq (.tmp 40) (.const (.int .i64 240)))) (g := (some (38, true))) (j := 7) (decide (240 ≤ a1.Cmd)) rfl (by kernel_rfl) (by kernel_rfl) (by kernel_rfl) (fun hc => ?_) (fun hc => ?_)
    · replace hS := cond_t hc hS
      refine zlRun (n := 4) (j := 11) rfl (by kernel_rfl) ?_
      refine zlBool (d := 46) (op := (.cmpI .leq (.tmp 45) (.const (.int .i64 249)))) (g := (some (43, true))) (j := 12) (decide (a1.Cmd ≤ 249)) rfl (by kernel_rfl) (by kernel_rfl) (by kernel_rfl) (fun hc => ?_) (fun hc => ?_)
      · replace hS := cond_t hc hS
        refine zlRun (n := 2) (j := 14) rfl (by kernel_rfl) ?_
        refine zlEnd (by kernel_rfl) ?_
        refine zkSeq ?_
        refine zrCondT (by kernel_rfl) ?_
        refine zrSeq ?_
        refine zrReg ?_
        refine zlRun (n := 4) (j := 4) rfl (by kernel_rfl) ?_
        refine zlEnd (by kernel_rfl) ?_
        refine zkSeq ?_
        refine zrSeq ?_
        refine zrReg ?_
        refine zlRun (n := 2) (j := 2) rfl (by kernel_rfl) ?_
        refine zlBool (d := 53) (op := (.eqA .false [(3, .int), (1, .str)] (.tmp 51) (.tmp 52))) (g := none) (j := 3) (decide (a1.Kind = a1.Kind) && (decide (a1.Cmd = a1.Cmd) && (decide (a1.Opt = 0) && (decide (a1.Data = ([] : List UInt8)) && true)))) rfl (by kernel_rfl) (by kernel_rfl) (by kernel_rfl) (fun hc => ?_) (fun hc => ?_)
        · replace hS := cond_t hc hS
          refine zlEnd (by kernel_rfl) ?_
          refine zkSeq ?_
          refine zrCondT (by kernel_rfl) ?_
          refine zrSeq ?_
          refine zrReg ?_
          refine zlRun (n := 2) (j := 2) rfl (by kernel_rfl) ?_
          refine zlOp (d := some 56) (op := (.cvI .u8 (.tmp 55))) (g := none) (v := (.d (.int .u8 ((u8 a1.Cmd).toNat : Int)))) (ups := []) (j := 3) rfl (by kernel_rfl) (by kernel_rfl) (ev_cv (kk := .i64) (a := a1.Cmd) (by kernel_rfl) (u8_wrap _)) ?_
          refine zlRun (n := 1) (j := 4) rfl (by kernel_rfl) ?_
          refine zlOp (d := some 58) (op := (.cvBS (.tmp 57))) (g := none) (v := (.d (.str ([255, (u8 a1.Cmd)] : List UInt8)))) (ups := []) (j := 5) rfl (by kernel_rfl) (by kernel_rfl) (ev_cvBS (s := [255, (u8 a1.Cmd)]) ((congrArg (asL _) (by kernel_rfl : ρof _ (.tmp 57) = (.r (.msl 464 1 0 (([255, (u8 a1.Cmd)] : List UInt8).length))))).trans (as_whole eU8 (e := 5) (k := 1) (xs := [255, (u8 a1.Cmd)]) (by kernel_rfl) rfl rfl)) rfl) ?_
          refine zlRun (n := 2) (j := 7) rfl (by kernel_rfl) ?_
          refine zlEnd (by kernel_rfl) ?_
          refine zkSeq ?_
          refine zrRet ?_
          refine zkBlkR ?_
          refine zkSeqR ?_
          refine zkNil ?_
          exact endQ hS hQ (fRet (by kernel_rfl) ((congrArg (fun s => outR s 0 c11.res) (by kernel_rfl : finSt c11.fin _ = f11_fin ([255, (u8 a1.Cmd)] : List UInt8) 0)).trans (f11_out ([255, (u8 a1.Cmd)] : List UInt8) 0)))
        · replace hS := cond_f hc hS
          refine zlEnd (by kernel_rfl) ?_
          refine zkSeq ?_
          refine zrCondF (by kernel_rfl) ?_
          refine zrSkip ?_
          refine zkBlk ?_
          refine zkSeq ?_
          refine zrSeq ?_
          refine zrReg ?_
          refine zlRun (n := 2) (j := 2) rfl (by kernel_rfl) ?_
          refine zlEnd (by kernel_rfl) ?_
          refine zkSeq ?_
          refine zrRet ?_
          refine zkNil ?_
          exact endQ hS hQ (fRet (by kernel_rfl) ((congrArg (fun s => outR s 0 c11.res) (by kernel_rfl : finSt c11.fin _ = f11_fin [] 1)).trans (f11_out [] 1)))
      · replace hS := cond_f hc hS
        refine zlRun (n := 2) (j := 14) rfl (by kernel_rfl) ?_
        refine zlEnd (by kernel_rfl) ?_
        refine zkSeq ?_
        refine zrCondF (by kernel_rfl) ?_
        exact f11_j2_ok hd a1 hQ p36 hS (by kernel_rfl)
    · replace hS := cond_f hc hS
      refine zlRun (n := 7) (j := 14) rfl (by kernel_rfl) ?_
      refine zlEnd (by kernel_rfl) ?_
      refine zkSeq ?_
      refine zrCondF (by kernel_rfl) ?_
      exact f11_j2_ok hd a1 hQ p36 hS (by kernel_rfl)
  · replace hS := cond_f hc hS
    refine zlRun (n := 11) (j := 14) rfl (by kernel_rfl) ?_
    refine zlEnd (by kernel_rfl) ?_
    refine zkSeq ?_
    refine zrCondF (by kernel_rfl) ?_
    exact f11_j2_ok hd a1 hQ p36 hS (by kernel_rfl)
def f11_j0_J (a1 : GTok) (p33 : Bool) : St := ⟨(up (up (up (fun _ => .un) 5 (.d (.bool p33))) 4 (.r (.ptr 40 0 0))) 1 (.r (.ptr 16 0 0))), (up (up (hB fun _ => 0) 40 ⟨0, some (.box ((.d (.int .i64 a1.Kind)) :: ((.d (.int .i64 0)) :: ((.d (.int .i64 0)) :: ((.d (.str ([]))) :: [])))))⟩) 16 ⟨0, some (.box ((.d (.int .i64 a1.Kind)) :: ((.d (.int .i64 a1.Cmd)) :: ((.d (.int .i64 a1.Opt)) :: ((.d (.str a1.Data)) :: [])))))⟩)⟩
noncomputable def f11_j0 (a1 : GTok) (p33 : Bool) : Option ((List UInt8) × Int) := (bif (decide (a1.Kind = 1)) then (bif (decide (a1.Cmd = 0)) then (bif (decide (a1.Opt = 0)) then ((f21 a1.Data).bind fun z8 => (some (z8, 0))) else (f11_j1 a1 p33)) else (f11_j1 a1 p33)) else (f11_j1 a1 p33))
theorem f11_j0_ok {d : Nat} (hd : 2 ≤ d) (a1 : GTok) {r : (List UInt8) × Int} {Q : PX → St → Prop} (hQ : ∀ e st', f11_Q r e st' → Q e st') (p33 : Bool) (hS : f11_j0 a1 p33 = some r) {st : St} (he : keepSt [1, 4, 5] [(16, .id 16), (40, .id 40)] [] st = f11_j0_J a1 p33) : ZR (lev codes baseL (d - 1)) Q c11_7 [] st := by
  refine zrKeep he ?_
  unfold f11_j0 at hS
  refine zrSeq ?_
  refine zrBlk ?_
  refine zrSeq ?_
  refine zrReg ?_
  refine zlRun (n := 2) (j := 2) rfl (by kernel_rfl) ?_
  refine zlBool (d := 20) (op := (.cmpI .eql (.tmp 19) (.const (.int .i64 1)))) (g := none) (j := 3) (decide (a1.Kind = 1)) rfl (by kernel_rfl) (by kernel_rfl) (by kernel_rfl) (fun hc => ?_) (fun hc => ?_)
  · replace hS := cond_t hc hS
    refine zlRun (n := 3) (j := 6) rfl (by kernel_rfl) ?_
    refine zlBool (d := 24) (op := (.cmpI .eql (.tmp 23) (.const (.int .i64 0)))) (g := (some (21, true))) (j := 7) (decide (a1.Cmd = 0)) rfl (by kernel_rfl) (by kernel_rfl) (by kernel_rfl) (fun hc => ?_) (fun hc => ?_)
    · replace hS := cond_t hc hS
      refine zlRun (n := 4) (j := 11) rfl (by kernel_rfl) ?_
      refine zlBool (d := 29) (op := (.cmpI .eql (.tmp 28) (.const (.int .i64 0)))) (g := (some (26, true))) (j := 12) (decide (a1.Opt = 0)) rfl (by kernel_rfl) (by kernel_rfl) (by kernel_rfl) (fun hc => ?_) (fun hc => ?_)
      · replace hS := cond_t hc hS
        refine zlRun (n := 2) (j := 14) rfl (by kernel_rfl) ?_
        refine zlEnd (by kernel_rfl) ?_
        refine zkSeq ?_
        refine zrCondT (by kernel_rfl) ?_
        refine zrSeq ?_
        refine zrReg ?_
        refine zlRun (n := 2) (j := 2) rfl (by kernel_rfl) ?_
        refine bindE hS (fun z8 hz8 hS => ?_)
        refine zlOp (d := some 33) (op := (.call 21 [(.tmp 32)])) (g := none) (j := 3) rfl (by kernel_rfl) (by kernel_rfl) (ev_callA (by kernel_rfl) (f21_ok (d - 1) (dpt hd rfl) a1.Data z8 hz8) (by kernel_rfl) (by kernel_rfl)) ?_
        refine zlRun (n := 2) (j := 5) rfl (by kernel_rfl) ?_
        refine zlEnd (by kernel_rfl) ?_
        refine zkSeq ?_
        refine zrRet ?_
        refine zkBlkR ?_
        refine zkSeqR ?_
        refine zkNil ?_
        exact endQ hS hQ (fRet (by kernel_rfl) ((congrArg (fun s => outR s 0 c11.res) (by kernel_rfl : finSt c11.fin _ = f11_fin z8 0)).trans (f11_out z8 0)))
      · replace hS := cond_f hc hS
        refine zlRun (n := 2) (j := 14) rfl (by kernel_rfl) ?_
        refine zlEnd (by kernel_rfl) ?_
        refine zkSeq ?_
        refine zrCondF (by kernel_rfl) ?_
        exact f11_j1_ok hd a1 hQ p33 hS (by kernel_rfl)
    · replace hS := cond_f hc hS
      refine zlRun (n := 7) (j := 14) rfl (by kernel_rfl) ?_
      refine zlEnd (by kernel_rfl) ?_
      refine zkSeq ?_
      refine zrCondF (by kernel_rfl) ?_
      exact f11_j1_ok hd a1 hQ p33 hS (by kernel_rfl)
  · replace hS := cond_f hc hS
    refine zlRun (n := 11) (j := 14) rfl (by kernel_rfl) ?_
    refine zlEnd (by kernel_rfl) ?_
    refine zkSeq ?_
    refine zrCondF (by kernel_rfl) ?_
    exact f11_j1_ok hd a1 hQ p33 hS (by kernel_rfl)
noncomputable def f11 (a1 : GTok) : Option ((List UInt8) × Int) := (bif (decide (0 ≤ a1.Opt)) then (bif (decide (a1.Opt ≤ 255)) then (f11_j0 a1 true) else (f11_j0 a1 false)) else (f11_j0 a1 false))
theorem f11_ok (d : Nat) (hd : 2 ≤ d) (a1 : GTok) (r : (List UInt8) × Int) (hS : f11 a1 = some r) : lev codes baseL d 11 [(.agg ((.d (.int .i64 a1.Kind)) :: ((.d (.int .i64 a1.Cmd)) :: ((.d (.int .i64 a1.Opt)) :: ((.d (.str a1.Data)) :: [])))))] [] = some ((.tup [(.d (.str r.1)), (.d (.int .i64 r.2))]), []) := by
  refine lev_go codes11 rfl rfl (Nat.le_trans (Nat.le_of_ble_eq_true rfl) hd) fun Q hQ => ?_
  unfold f11 at hS
  show ZR _ Q c11_b [] _
  replace hQ : ∀ e st', f11_Q r e st' → Q e st' := hQ
  refine zrSeq ?_
  refine zrReg ?_
  refine zlRun (n := 3) (j := 3) rfl (by kernel_rfl) ?_
  refine zlEnd (by kernel_rfl) ?_
  refine zkSeq ?_
  refine zrSeq ?_
  refine zrReg ?_
  refine zlRun (n := 5) (j := 5) rfl (by kernel_rfl) ?_
  refine zlEnd (by kernel_rfl) ?_
  refine zkSeq ?_
  refine zrSeq ?_
  refine zrReg ?_
  refine zlRun (n := 2) (j := 2) rfl (by kernel_rfl) ?_
  refine zlBool (d := 11) (op := (.cmpI .geq (.tmp 10) (.const (.int .i64 0)))) (g := none) (j := 3) (decide (0 ≤ a1.Opt)) rfl (by kernel_rfl) (by kernel_rfl) (by kernel_rfl) (fun hc => ?_) (fun hc => ?_)
  · replace hS := cond_t hc hS
    refine zlRun (n := 3) (j := 6) rfl (by kernel_rfl) ?_
    refine zlBool (d := 15) (op := (.cmpI .leq (.tmp 14) (.const (.int .i64 255)))) (g := (some (12, true))) (j := 7) (decide (a1.Opt ≤ 255)) rfl (by kernel_rfl) (by kernel_rfl) (by kernel_rfl) (fun hc => ?_) (fun hc => ?_)
    · replace hS := cond_t hc hS
      refine zlRun (n := 2) (j := 9) rfl (by kernel_rfl) ?_
      refine zlEnd (by kernel_rfl) ?_
      refine zkSeq ?_
      exact f11_j0_ok hd a1 hQ true hS (by kernel_rfl)
    · replace hS := cond_f hc hS
      refine zlRun (n := 2) (j := 9) rfl (by kernel_rfl) ?_
      refine zlEnd (by kernel_rfl) ?_
      refine zkSeq ?_
      exact f11_j0_ok hd a1 hQ false hS (by kernel_rfl)
  · replace hS := cond_f hc hS
    refine zlRun (n := 6) (j := 9) rfl (by kernel_rfl) ?_
    refine zlEnd (by kernel_rfl) ?_
    refine zkSeq ?_
    exact f11_j0_ok hd a1 hQ false hS (by kernel_rfl)
/- (*strings.Builder).WriteString -/
theorem libBW_ok (d : Nat) (hd : 0 ≤ d) (a1 a2 r : List UInt8) (hS : blw? a1 a2 = some r) : lev codes baseL d 7 [.r (.ptr 0 0 0), .d (.str a2)] [.box (blC 37 (.r (.msl 1 0 0 a1.length))), .own 5 1 (eU8.cells a1)] = some (.tup [.d (.int .i64 a2.length), .d (.err false)], [.box (blC 37 (.r (.msl 1 0 0 r.length))), .own 5 1 (eU8.cells r)]) := blW_call rfl hS d
theorem libBS_ok (d : Nat) (hd : 0 ≤ d) (a1 : List UInt8) : lev codes baseL d 9 [.r (.ptr 0 0 0)] [.box (blC 37 (.r (.msl 1 0 0 a1.length))), .own 5 1 (eU8.cells a1)] = some (.d (.str a1), [.box (blC 37 .un), .own 5 1 []]) := blS_call rfl rfl a1 d
/- farwriter/iac.Check -/
def f22_fin (p30 : Int) : St := ⟨(up (fun _ => .un) 2 (.d (.int .i64 p30))), (hB fun _ => 0)⟩
theorem f22_out (p30 : Int) : outR (f22_fin p30) 0 c22.res = some ((.d (.int .i64 p30)), []) := by
  kernel_rfl
def f22_Q (r : Int) (e : PX) (st : St) : Prop := DoneF c22 0 ((.d (.int .i64 r)), []) e st
def f22_j2_J (a1 : GWire) (p54 : Bool) (p55 : Bool) : St := ⟨(up (up (up (fun _ => .un) 4 (.d (.bool p55))) 3 (.d (.bool p54))) 1 (.r (.ptr 16 0 0))), (up (hB fun _ => 0) 16 ⟨0, some (.box ((.d (.int .i64 a1.Mode)) :: ((.d (.int .i64 a1.Cmd)) :: ((.d (.int .i64 a1.Opt)) :: ((.d (.str a1.Buf)) :: ((.d (.bool a1.Over)) :: []))))))⟩)⟩
noncomputable def f22_j2 (a1 : GWire) (p54 : Bool) (p55 : Bool) : Option (Int) := (bif p54 then (bif p55 then (bif (decide (0 ≤ a1.Opt)) then (bif (decide (a1.Opt ≤ 255)) then (bif (decide ((a1.Buf.length : Int) ≤ 4096)) then (bif (!a1.Over) then (some 0) else (bif (decide (a1.Buf = ([] : List UInt8))) then (some 0) else (some 4))) else (some 4)) else (some 4)) else (some 4)) else (some 4)) else (bif p55 then (bif (decide (a1.Opt = 0)) then (bif (decide (a1.Buf = ([] : List UInt8))) then (bif (!(!a1.Over)) then (some 4) else (some 0)) else (some 4)) else (some 4)) else (some 4)))
theorem f22_j2_ok {d : Nat} (hd : 1 ≤ d) (a1 : GWire) {r : Int} {Q : PX → St → Prop} (hQ : ∀ e st', f22_Q r e st' → Q e st') (p54 : Bool) (p55 : Bool) (hS : f22_j2 a1 p54 p55 = some r) {st : St} (he : keepSt [1, 3, 4] [(16, .id 16)] [] st = f22_j2_J a1 p54 p55) : ZR (lev codes baseL (d - 1)) Q c22_1 [] st := by
  refine zrKeep he ?_
  unfold f22_j2 at hS
  refine zrSeq ?_
  refine zrSeq ?_
  refine zrReg ?_
  refine zlRun (n := 1) (j := 1) rfl (by kernel_rfl) ?_
  refine zlEnd (by kernel_rfl) ?_
  refine zkSeq ?_
  refine zrSplit 41 p54 (by kernel_rfl) (fun hc => ?_) (fun hc => ?_)
  · replace hS := cond_t hc hS
    refine zrCondT (by kernel_rfl) ?_
    refine zrReg ?_
    refine zlRun (n := 2) (j := 2) rfl (by kernel_rfl) ?_
    refine zlSplit 43 p55 (by kernel_rfl) (fun hc => ?_) (fun hc => ?_)
    · replace hS := cond_t hc hS
      refine zlRun (n := 2) (j := 4) rfl (by kernel_rfl) ?_
      refine zlBool (d := 46) (op := (.cmpI .geq (.tmp 45) (.const (.int .i64 0)))) (g := (some (43, true))) (j := 5) (decide (0 ≤ a1.Opt)) rfl (by kernel_rfl) (by kernel_rfl) (by kernel_rfl) (fun hc => ?_) (fun hc => ?_)
      · replace hS := cond_t hc hS
        refine zlRun (n := 4) (j := 9) rfl (by kernel_rfl) ?_
        refine zlBool (d := 51) (op := (.cmpI .leq (.tmp 50) (.const (.int .i64 255)))) (g := (some (48, true))) (j := 10) (decide (a1.Opt ≤ 255)) rfl (by kernel_rfl) (by kernel_rfl) (by kernel_rfl) (fun hc => ?_) (fun hc => ?_)
        · replace hS := cond_t hc hS
          refine zlRun (n := 5) (j := 15) rfl (by kernel_rfl) ?_
          refine zlBool (d := 57) (op := (.cmpI .leq (.tmp 56) (.const (.int .i64 4096)))) (g := (some (53, true))) (j := 16) (decide ((a1.Buf.length : Int) ≤ 4096)) rfl (by kernel_rfl) (by kernel_rfl) (by kernel_rfl) (fun hc => ?_) (fun hc => ?_)
          · replace hS := cond_t hc hS
            refine zlRun (n := 6) (j := 22) rfl (by kernel_rfl) ?_
            refine zlSplit 63 (!a1.Over) (by kernel_rfl) (fun hc => ?_) (fun hc => ?_)
            · replace hS := cond_t hc hS
              refine zlRun (n := 6) (j := 28) rfl (by kernel_rfl) ?_
              refine zlEnd (by kernel_rfl) ?_
              refine zkSeq ?_
              refine zrSeq ?_
              refine zrSeq ?_
              refine zrReg ?_
              refine zlRun (n := 2) (j := 2) rfl (by kernel_rfl) ?_
              refine zlEnd (by kernel_rfl) ?_
              refine zkSeq ?_
              refine zrCondF (by kernel_rfl) ?_
              refine zrSkip ?_
              refine zkSeq ?_
              refine zrSeq ?_
              refine zrReg ?_
              refine zlRun (n := 1) (j := 1) rfl (by kernel_rfl) ?_
              refine zlEnd (by kernel_rfl) ?_
              refine zkSeq ?_
              refine zrRet ?_
              refine zkNil ?_
              exact endQ hS hQ (fRet (by kernel_rfl) ((congrArg (fun s => outR s 0 c22.res) (by kernel_rfl : finSt c22.fin _ = f22_fin 0)).trans (f22_out 0)))
            · replace hS := cond_f hc hS
              refine zlRun (n := 2) (j := 24) rfl (by kernel_rfl) ?_
              refine zlBool (d := 66) (op := (.strO .eql (.tmp 65) (.const (.string ⟨#[]⟩)))) (g := (some (63, false))) (j := 25) (decide (a1.Buf = ([] : List UInt8))) rfl (by kernel_rfl) (by kernel_rfl) (by kernel_rfl) (fun hc => ?_) (fun hc => ?_)
              · replace hS := cond_t hc hS
                refine zlRun (n := 3) (j := 28) rfl (by kernel_rfl) ?_
                refine zlEnd (by kernel_rfl) ?_
                refine zkSeq ?_
                refine zrSeq ?_
                refine zrSeq ?_
                refine zrReg ?_
                refine zlRun (n := 2) (j := 2) rfl (by kernel_rfl) ?_
                refine zlEnd (by kernel_rfl) ?_
                refine zkSeq ?_
                refine zrCondF (by kernel_rfl) ?_
                refine zrSkip ?_
                refine zkSeq ?_
                refine zrSeq ?_
                refine zrReg ?_
                refine zlRun (n := 1) (j := 1) rfl (by kernel_rfl) ?_
                refine zlEnd (by kernel_rfl) ?_
                refine zkSeq ?_
                refine zrRet ?_
                refine zkNil ?_
                exact endQ hS hQ (fRet (by kernel_rfl) ((congrArg (fun s => outR s 0 c22.res) (by kernel_rfl : finSt c22.fin _ = f22_fin 0)).trans (f22_out 0)))
              · replace hS := cond_f hc hS
                refine zlRun (n := 3) (j := 28) rfl (by kernel_rfl) ?_
                refine zlEnd (by kernel_rfl) ?_
                refine zkSeq ?_
                refine zrSeq ?_
                refine zrSeq ?_
                refine zrReg ?_
                refine zlRun (n := 2) (j := 2) rfl (by kernel_rfl) ?_
                refine zlEnd (by kernel_rfl) ?_
                refine zkSeq ?_
                refine zrCondT (by kernel_rfl) ?_
                refine zrSeq ?_
                refine zrReg ?_
                refine zlRun (n := 1) (j := 1) rfl (by kernel_rfl) ?_
                refine zlEnd (by kernel_rfl) ?_
                refine zkSeq ?_
                refine zrRet ?_
                refine zkSeqR ?_
                refine zkNil ?_
                exact endQ hS hQ (fRet (by kernel_rfl) ((congrArg (fun s => outR s 0 c22.res) (by kernel_rfl : finSt c22.fin _ = f22_fin 4)).trans (f22_out 4)))
          · replace hS := cond_f hc hS
            refine zlRun (n := 12) (j := 28) rfl (by kernel_rfl) ?_
            refine zlEnd (by kernel_rfl) ?_
            refine zkSeq ?_
            refine zrSeq ?_
            refine zrSeq ?_
            refine zrReg ?_
            refine zlRun (n := 2) (j := 2) rfl (by kernel_rfl) ?_
            refine zlEnd (by kernel_rfl) ?_
            refine zkSeq ?_
            refine zrCondT (by kernel_rfl) ?_
            refine zrSeq ?_
            refine zrReg ?_
            refine zlRun (n := 1) (j := 1) rfl (by kernel_rfl) ?_
            refine zlEnd (by kernel_rfl) ?_
            refine zkSeq ?_
            refine zrRet ?_
            refine zkSeqR ?_
            refine zkNil ?_
            exact endQ hS hQ (fRet (by kernel_rfl) ((congrArg (fun s => outR s 0 c22.res) (by kernel_rfl : finSt c22.fin _ = f22_fin 4)).trans (f22_out 4)))
        · replace hS := cond_f hc hS
          refine zlRun (n := 18) (j := 28) rfl (by kernel_rfl) ?_
          refine zlEnd (by kernel_rfl) ?_
          refine zkSeq ?_
          refine zrSeq ?_
          refine zrSeq ?_
          refine zrReg ?_
          refine zlRun (n := 2) (j := 2) rfl (by kernel_rfl) ?_
          refine zlEnd (by kernel_rfl) ?_
          refine zkSeq ?_
          refine zrCondT (by kernel_rfl) ?_
          refine zrSeq ?_
          refine zrReg ?_
          refine zlRun (n := 1) (j := 1) rfl (by kernel_rfl) ?_
          refine zlEnd (by kernel_rfl) ?_
          refine zkSeq ?_
          refine zrRet ?_
          refine zkSeqR ?_
          refine zkNil ?_
          exact endQ hS hQ (fRet (by kernel_rfl) ((congrArg (fun s => outR s 0 c22.res) (by kernel_rfl : finSt c22.fin _ = f22_fin 4)).trans (f22_out 4)))
      · replace hS := cond_f hc hS
        refine zlRun (n := 23) (j := 28) rfl (by kernel_rfl) ?_
        refine zlEnd (by kernel_rfl) ?_
        refine zkSeq ?_
        refine zrSeq ?_
        refine zrSeq ?_
        refine zrReg ?_
        refine zlRun (n := 2) (j := 2) rfl (by kernel_rfl) ?_
        refine zlEnd (by kernel_rfl) ?_
        refine zkSeq ?_
        refine zrCondT (by kernel_rfl) ?_
        refine zrSeq ?_
        refine zrReg ?_
        refine zlRun (n := 1) (j := 1) rfl (by kernel_rfl) ?_
        refine zlEnd (by kernel_rfl) ?_
        refine zkSeq ?_
        refine zrRet ?_
        refine zkSeqR ?_
        refine zkNil ?_
        exact endQ hS hQ (fRet (by kernel_rfl) ((congrArg (fun s => outR s 0 c22.res) (by kernel_rfl : finSt c22.fin _ = f22_fin 4)).trans (f22_out 4)))
    · replace hS := cond_f hc hS
      refine zlRun (n := 26) (j := 28) rfl (by kernel_rfl) ?_
      refine zlEnd (by kernel_rfl) ?_
      refine zkSeq ?_
      refine zrSeq ?_
      refine zrSeq ?_
      refine zrReg ?_
      refine zlRun (n := 2) (j := 2) rfl (by kernel_rfl) ?_
      refine zlEnd (by kernel_rfl) ?_
      refine zkSeq ?_
      refine zrCondT (by kernel_rfl) ?_
      refine zrSeq ?_
      refine zrReg ?_
      refine zlRun (n := 1) (j := 1) rfl (by kernel_rfl) ?_
      refine zlEnd (by kernel_rfl) ?_
      refine zkSeq ?_
      refine zrRet ?_
      refine zkSeqR ?_
      refine zkNil ?_
      exact endQ hS hQ (fRet (by kernel_rfl) ((congrArg (fun s => outR s 0 c22.res) (by kernel_rfl : finSt c22.fin _ = f22_fin 4)).trans (f22_out 4)))
  · replace hS := cond_f hc hS
    refine zrCondF (by kernel_rfl) ?_
    refine zrReg ?_
    refine zlRun (n := 2) (j := 2) rfl (by kernel_rfl) ?_
    refine zlSplit 70 p55 (by kernel_rfl) (fun hc => ?_) (fun hc => ?_)
    · replace hS := cond_t hc hS
      refine zlRun (n := 2) (j := 4) rfl (by kernel_rfl) ?_
      refine zlBool (d := 73) (op := (.cmpI .eql (.tmp 72) (.const (.int .i64 0)))) (g := (some (70, true))) (j := 5) (decide (a1.Opt = 0)) rfl (by kernel_rfl) (by kernel_rfl) (by kernel_rfl) (fun hc => ?_) (fun hc => ?_)
      · replace hS := cond_t hc hS
        refine zlRun (n := 4) (j := 9) rfl (by kernel_rfl) ?_
        refine zlBool (d := 78) (op := (.strO .eql (.tmp 77) (.const (.string ⟨#[]⟩)))) (g := (some (75, true))) (j := 10) (decide (a1.Buf = ([] : List UInt8))) rfl (by kernel_rfl) (by kernel_rfl) (by kernel_rfl) (fun hc => ?_) (fun hc => ?_)
        · replace hS := cond_t hc hS
          refine zlRun (n := 7) (j := 17) rfl (by kernel_rfl) ?_
          refine zlEnd (by kernel_rfl) ?_
          refine zkSeq ?_
          refine zrSeq ?_
          refine zrSeq ?_
          refine zrReg ?_
          refine zlRun (n := 2) (j := 2) rfl (by kernel_rfl) ?_
          refine zlEnd (by kernel_rfl) ?_
          refine zkSeq ?_
          refine zrSplit 86 (!(!a1.Over)) (by kernel_rfl) (fun hc => ?_) (fun hc => ?_)
          · replace hS := cond_t hc hS
            refine zrCondT (by kernel_rfl) ?_
            refine zrSeq ?_
            refine zrReg ?_
            refine zlRun (n := 1) (j := 1) rfl (by kernel_rfl) ?_
            refine zlEnd (by kernel_rfl) ?_
            refine zkSeq ?_
            refine zrRet ?_
            refine zkSeqR ?_
            refine zkNil ?_
            exact endQ hS hQ (fRet (by kernel_rfl) ((congrArg (fun s => outR s 0 c22.res) (by kernel_rfl : finSt c22.fin _ = f22_fin 4)).trans (f22_out 4)))
          · replace hS := cond_f hc hS
            refine zrCondF (by kernel_rfl) ?_
            refine zrSkip ?_
            refine zkSeq ?_
            refine zrSeq ?_
            refine zrReg ?_
            refine zlRun (n := 1) (j := 1) rfl (by kernel_rfl) ?_
            refine zlEnd (by kernel_rfl) ?_
            refine zkSeq ?_
            refine zrRet ?_
            refine zkNil ?_
            exact endQ hS hQ (fRet (by kernel_rfl) ((congrArg (fun s => outR s 0 c22.res) (by kernel_rfl : finSt c22.fin _ = f22_fin 0)).trans (f22_out 0)))
        · replace hS := cond_f hc hS
          refine zlRun (n := 7) (j := 17) rfl (by kernel_rfl) ?_
          refine zlEnd (by kernel_rfl) ?_
          refine zkSeq ?_
          refine zrSeq ?_
          refine zrSeq ?_
          refine zrReg ?_
          refine zlRun (n := 2) (j := 2) rfl (by kernel_rfl) ?_
          refine zlEnd (by kernel_rfl) ?_
          refine zkSeq ?_
          refine zrCondT (by kernel_rfl) ?_
          refine zrSeq ?_
          refine zrReg ?_
          refine zlRun (n := 1) (j := 1) rfl (by kernel_rfl) ?_
          refine zlEnd (by kernel_rfl) ?_
          refine zkSeq ?_
          refine zrRet ?_
          refine zkSeqR ?_
          refine zkNil ?_
          exact endQ hS hQ (fRet (by kernel_rfl) ((congrArg (fun s => outR s 0 c22.res) (by kernel_rfl : finSt c22.fin _ = f22_fin 4)).trans (f22_out 4)))
      · replace hS := cond_f hc hS
        refine zlRun (n := 12) (j := 17) rfl (by kernel_rfl) ?_
        refine zlEnd (by kernel_rfl) ?_
        refine zkSeq ?_
        refine zrSeq ?_
        refine zrSeq ?_
        refine zrReg ?_
        refine zlRun (n := 2) (j := 2) rfl (by kernel_rfl) ?_
        refine zlEnd (by kernel_rfl) ?_
        refine zkSeq ?_
        refine zrCondT (by kernel_rfl) ?_
        refine zrSeq ?_
        refine zrReg ?_
        refine zlRun (n := 1) (j := 1) rfl (by kernel_rfl) ?_
        refine zlEnd (by kernel_rfl) ?_
        refine zkSeq ?_
        refine zrRet ?_
        refine zkSeqR ?_
        refine zkNil ?_
        exact endQ hS hQ (fRet (by kernel_rfl) ((congrArg (fun s => outR s 0 c22.res) (by kernel_rfl : finSt c22.fin _ = f22_fin 4)).trans (f22_out 4)))
    · replace hS := cond_f hc hS
      refine zlRun (n := 15) (j := 17) rfl (by kernel_rfl) ?_
      refine zlEnd (by kernel_rfl) ?_
      refine zkSeq ?_
      refine zrSeq ?_
      refine zrSeq ?_
      refine zrReg ?_
      refine zlRun (n := 2) (j := 2) rfl (by kernel_rfl) ?_
      refine zlEnd (by kernel_rfl) ?_
      refine zkSeq ?_
      refine zrCondT (by kernel_rfl) ?_
      refine zrSeq ?_
      refine zrReg ?_
      refine zlRun (n := 1) (j := 1) rfl (by kernel_rfl) ?_
      refine zlEnd (by kernel_rfl) ?_
      refine zkSeq ?_
      refine zrRet ?_
      refine zkSeqR ?_
      refine zkNil ?_
      exact endQ hS hQ (fRet (by kernel_rfl) ((congrArg (fun s => outR s 0 c22.res) (by kernel_rfl : finSt c22.fin _ = f22_fin 4)).trans (f22_out 4)))
def f22_j1_J (a1 : GWire) (p37 : Bool) (p38 : Bool) : St := ⟨(up (up (up (fun _ => .un) 4 (.d (.bool p38))) 3 (.d (.bool p37))) 1 (.r (.ptr 16 0 0))), (up (hB fun _ => 0) 16 ⟨0, some (.box ((.d (.int .i64 a1.Mode)) :: ((.d (.int .i64 a1.Cmd)) :: ((.d (.int .i64 a1.Opt)) :: ((.d (.str a1.Buf)) :: ((.d (.bool a1.Over)) :: []))))))⟩)⟩
noncomputable def f22_j1 (a1 : GWire) (p37 : Bool) (p38 : Bool) : Option (Int) := (bif (decide (a1.Mode = 2)) then (bif p38 then (bif (decide (251 ≤ a1.Cmd)) then (bif (decide (a1.Cmd ≤ 254)) then (f22_j2 a1 p37 true) else (f22_j2 a1 p37 false)) else (f22_j2 a1 p37 false)) else (f22_j2 a1 p37 false)) else (bif p38 then (bif (decide (a1.Cmd = 0)) then (f22_j2 a1 p37 true) else (f22_j2 a1 p37 false)) else (f22_j2 a1 p37 false)))
theorem f22_j1_ok {d : Nat} (hd : 1 ≤ d) (a1 : GWire) {r : Int} {Q : PX → St → Prop} (hQ : ∀ e st', f22_Q r e st' → Q e st') (p37 : Bool) (p38 : Bool) (hS : f22_j1 a1 p37 p38 = some r) {st : St} (he : keepSt [1, 3, 4] [(16, .id 16)] [] st = f22_j1_J a1 p37 p38) : ZR (lev codes baseL (d - 1)) Q c22_2 [] st := by
  refine zrKeep he ?_
  unfold f22_j1 at hS
  refine zrSeq ?_
  refine zrSeq ?_
  refine zrReg ?_
  refine zlRun (n := 2) (j := 2) rfl (by kernel_rfl) ?_
  refine zlBool (d := 23) (op := (.cmpI .eql (.tmp 22) (.const (.int .i64 2)))) (g := none) (j := 3) (decide (a1.Mode = 2)) rfl (by kernel_rfl) (by kernel_rfl) (by kernel_rfl) (fun hc => ?_) (fun hc => ?_)
  · replace hS := cond_t hc hS
    refine zlEnd (by kernel_rfl) ?_
    refine zkSeq ?_
    refine zrCondT (by kernel_rfl) ?_
    refine zrReg ?_
    refine zlRun (n := 2) (j := 2) rfl (by kernel_rfl) ?_
    refine zlSplit 25 p38 (by kernel_rfl) (fun hc => ?_) (fun hc => ?_)
    · replace hS := cond_t hc hS
      refine zlRun (n := 2) (j := 4) rfl (by kernel_rfl) ?_
      refine zlBool (d := 28) (op := (.cmpI .geq (.tmp 27) (.const (.int .i64 251)))) (g := (some (25, true))) (j := 5) (decide (251 ≤ a1.Cmd)) rfl (by kernel_rfl) (by kernel_rfl) (by kernel_rfl) (fun hc => ?_) (fun hc => ?_)
      · replace hS := cond_t hc hS
        refine zlRun (n := 4) (j := 9) rfl (by kernel_rfl) ?_
        refine zlBool (d := 33) (op := (.cmpI .leq (.tmp 32) (.const (.int .i64 254)))) (g := (some (30, true))) (j := 10) (decide (a1.Cmd ≤ 254)) rfl (by kernel_rfl) (by kernel_rfl) (by kernel_rfl) (fun hc => ?_) (fun hc => ?_)
        · replace hS := cond_t hc hS
          refine zlRun (n := 2) (j := 12) rfl (by kernel_rfl) ?_
          refine zlEnd (by kernel_rfl) ?_
          refine zkSeq ?_
          exact f22_j2_ok hd a1 hQ p37 true hS (by kernel_rfl)
        · replace hS := cond_f hc hS
          refine zlRun (n := 2) (j := 12) rfl (by kernel_rfl) ?_
          refine zlEnd (by kernel_rfl) ?_
          refine zkSeq ?_
          exact f22_j2_ok hd a1 hQ p37 false hS (by kernel_rfl)
      · replace hS := cond_f hc hS
        refine zlRun (n := 7) (j := 12) rfl (by kernel_rfl) ?_
        refine zlEnd (by kernel_rfl) ?_
        refine zkSeq ?_
        exact f22_j2_ok hd a1 hQ p37 false hS (by kernel_rfl)
    · replace hS := cond_f hc hS
      refine zlRun (n := 10) (j := 12) rfl (by kernel_rfl) ?_
      refine zlEnd (by kernel_rfl) ?_
      refine zkSeq ?_
      exact f22_j2_ok hd a1 hQ p37 false hS (by kernel_rfl)
  · replace hS := cond_f hc hS
    refine zlEnd (by kernel_rfl) ?_
    refine zkSeq ?_
    refine zrCondF (by kernel_rfl) ?_
    refine zrReg ?_
    refine zlRun (n := 2) (j := 2) rfl (by kernel_rfl) ?_
    refine zlSplit 36 p38 (by kernel_rfl) (fun hc => ?_) (fun hc => ?_)
    · replace hS := cond_t hc hS
      refine zlRun (n := 2) (j := 4) rfl (by kernel_rfl) ?_
      refine zlBool (d := 39) (op := (.cmpI .eql (.tmp 38) (.const (.int .i64 0)))) (g := (some (36, true))) (j := 5) (decide (a1.Cmd = 0)) rfl (by kernel_rfl) (by kernel_rfl) (by kernel_rfl) (fun hc => ?_) (fun hc => ?_)
      · replace hS := cond_t hc hS
        refine zlRun (n := 2) (j := 7) rfl (by kernel_rfl) ?_
        refine zlEnd (by kernel_rfl) ?_
        refine zkSeq ?_
        exact f22_j2_ok hd a1 hQ p37 true hS (by kernel_rfl)
      · replace hS := cond_f hc hS
        refine zlRun (n := 2) (j := 7) rfl (by kernel_rfl) ?_
        refine zlEnd (by kernel_rfl) ?_
        refine zkSeq ?_
        exact f22_j2_ok hd a1 hQ p37 false hS (by kernel_rfl)
    · replace hS := cond_f hc hS
      refine zlRun (n := 5) (j := 7) rfl (by kernel_rfl) ?_
      refine zlEnd (by kernel_rfl) ?_
      refine zkSeq ?_
      exact f22_j2_ok hd a1 hQ p37 false hS (by kernel_rfl)
def f22_j0_J (a1 : GWire) (p32 : Bool) : St := ⟨(up (up (fun _ => .un) 3 (.d (.bool p32))) 1 (.r (.ptr 16 0 0))), (up (hB fun _ => 0) 16 ⟨0, some (.box ((.d (.int .i64 a1.Mode)) :: ((.d (.int .i64 a1.Cmd)) :: ((.d (.int .i64 a1.Opt)) :: ((.d (.str a1.Buf)) :: ((.d (.bool a1.Over)) :: []))))))⟩)⟩
noncomputable def f22_j0 (a1 : GWire) (p32 : Bool) : Option (Int) := (bif (decide (0 ≤ a1.Mode)) then (bif (decide (a1.Mode ≤ 5)) then (f22_j1 a1 p32 true) else (f22_j1 a1 p32 false)) else (f22_j1 a1 p32 false))
theorem f22_j0_ok {d : Nat} (hd : 1 ≤ d) (a1 : GWire) {r : Int} {Q : PX → St → Prop} (hQ : ∀ e st', f22_Q r e st' → Q e st') (p32 : Bool) (hS : f22_j0 a1 p32 = some r) {st : St} (he : keepSt [1, 3] [(16, .id 16)] [] st = f22_j0_J a1 p32) : ZR (lev codes baseL (d - 1)) Q c22_3 [] st := by
  refine zrKeep he ?_
  unfold f22_j0 at hS
  refine zrSeq ?_
  refine zrReg ?_
  refine zlRun (n := 2) (j := 2) rfl (by kernel_rfl) ?_
  refine zlBool (d := 15) (op := (.cmpI .geq (.tmp 14) (.const (.int .i64 0)))) (g := none) (j := 3) (decide (0 ≤ a1.Mode)) rfl (by kernel_rfl) (by kernel_rfl) (by kernel_rfl) (fun hc => ?_) (fun hc => ?_)
  · replace hS := cond_t hc hS
    refine zlRun (n := 3) (j := 6) rfl (by kernel_rfl) ?_
    refine zlBool (d := 19) (op := (.cmpI .leq (.tmp 18) (.const (.int .i64 5)))) (g := (some (16, true))) (j := 7) (decide (a1.Mode ≤ 5)) rfl (by kernel_rfl) (by kernel_rfl) (by kernel_rfl) (fun hc => ?_) (fun hc => ?_)
    · replace hS := cond_t hc hS
      refine zlRun (n := 2) (j := 9) rfl (by kernel_rfl) ?_
      refine zlEnd (by kernel_rfl) ?_
      refine zkSeq ?_
      exact f22_j1_ok hd a1 hQ p32 true hS (by kernel_rfl)
    · replace hS := cond_f hc hS
      refine zlRun (n := 2) (j := 9) rfl (by kernel_rfl) ?_
      refine zlEnd (by kernel_rfl) ?_
      refine zkSeq ?_
      exact f22_j1_ok hd a1 hQ p32 false hS (by kernel_rfl)
  · replace hS := cond_f hc hS
    refine zlRun (n := 6) (j := 9) rfl (by kernel_rfl) ?_
    refine zlEnd (by kernel_rfl) ?_
    refine zkSeq ?_
    exact f22_j1_ok hd a1 hQ p32 false hS (by kernel_rfl)
noncomputable def f22 (a1 : GWire) : Option (Int) := (bif (decide (a1.Mode = 4)) then (f22_j0 a1 true) else (bif (decide (a1.Mode = 5)) then (f22_j0 a1 true) else (f22_j0 a1 false)))
theorem f22_ok (d : Nat) (hd : 1 ≤ d) (a1 : GWire) (r : Int) (hS : f22 a1 = some r) : lev codes baseL d 22 [(.agg ((.d (.int .i64 a1.Mode)) :: ((.d (.int .i64 a1.Cmd)) :: ((.d (.int .i64 a1.Opt)) :: ((.d (.str a1.Buf)) :: ((.d (.bool a1.Over)) :: []))))))] [] = some ((.d (.int .i64 r)), []) := by
  refine lev_go codes22 rfl rfl (Nat.le_trans (Nat.le_of_ble_eq_true rfl) hd) fun Q hQ => ?_
  unfold f22 at hS
  show ZR _ Q c22_b [] _
  replace hQ : ∀ e st', f22_Q r e st' → Q e st' := hQ
  refine zrSeq ?_
  refine zrReg ?_
  refine zlRun (n := 2) (j := 2) rfl (by kernel_rfl) ?_
  refine zlEnd (by kernel_rfl) ?_
  refine zkSeq ?_
  refine zrSeq ?_
  refine zrReg ?_
  refine zlRun (n := 2) (j := 2) rfl (by kernel_rfl) ?_
  refine zlBool (d := 7) (op := (.cmpI .eql (.tmp 6) (.const (.int .i64 4)))) (g := none) (j := 3) (decide (a1.Mode = 4)) rfl (by kernel_rfl) (by kernel_rfl) (by kernel_rfl) (fun hc => ?_) (fun hc => ?_)
  · replace hS := cond_t hc hS
    refine zlRun (n := 6) (j := 9) rfl (by kernel_rfl) ?_
    refine zlEnd (by kernel_rfl) ?_
    refine zkSeq ?_
    exact f22_j0_ok hd a1 hQ true hS (by kernel_rfl)
  · replace hS := cond_f hc hS
    refine zlRun (n := 3) (j := 6) rfl (by kernel_rfl) ?_
    refine zlBool (d := 11) (op := (.cmpI .eql (.tmp 10) (.const (.int .i64 5)))) (g := (some (8, false))) (j := 7) (decide (a1.Mode = 5)) rfl (by kernel_rfl) (by kernel_rfl) (by kernel_rfl) (fun hc => ?_) (fun hc => ?_)
    · replace hS := cond_t hc hS
      refine zlRun (n := 2) (j := 9) rfl (by kernel_rfl) ?_
      refine zlEnd (by kernel_rfl) ?_
      refine zkSeq ?_
      exact f22_j0_ok hd a1 hQ true hS (by kernel_rfl)
    · replace hS := cond_f hc hS
      refine zlRun (n := 2) (j := 9) rfl (by kernel_rfl) ?_
      refine zlEnd (by kernel_rfl) ?_
      refine zkSeq ?_
      exact f22_j0_ok hd a1 hQ false hS (by kernel_rfl)
/- (*farwriter/iac.receiver).flush -/
def f24_fin (p2 : Int) (p3 : Int) (p4 : Int) (p5 : List UInt8) (p6 : Bool) (p7 : List UInt8) (p8 : List UInt8) (p9 : List GTok) : St := ⟨(up (up (up (fun _ => .un) 1000003 .un) 1000002 .un) 1000001 .un), (up (up (up (up (hB fun _ => 0) 3 ⟨1, some (.own 50 4 (e_GTok.cells p9))⟩) 2 ⟨1, some (.own 5 1 (eU8.cells p8))⟩) 1 ⟨1, some (.own 5 1 (eU8.cells p7))⟩) 0 ⟨0, some (.box (bx_Greceiver (Greceiver.mk (GWire.mk p2 p3 p4 p5 p6) ([]) ([]) ([])) (.r (.msl 1 1 0 p7.length)) (.r (.msl 2 1 0 p8.length)) (.r (.msl 3 1 0 p9.length))))⟩)⟩
theorem f24_out (p2 : Int) (p3 : Int) (p4 : Int) (p5 : List UInt8) (p6 : Bool) (p7 : List UInt8) (p8 : List UInt8) (p9 : List GTok) : outR (f24_fin p2 p3 p4 p5 p6 p7 p8 p9) 4 c24.res = some ((.tup []), [(.box (bx_Greceiver (Greceiver.mk (GWire.mk p2 p3 p4 p5 p6) ([]) ([]) ([])) (.r (.msl 1 0 0 p7.length)) (.r (.msl 2 0 0 p8.length)) (.r (.msl 3 0 0 p9.length)))), (.own 5 1 (eU8.cells p7)), (.own 5 1 (eU8.cells p8)), (.own 50 4 (e_GTok.cells p9))]) := by
  kernel_rfl
def f24_Q (r : Int × Int × Int × (List UInt8) × Bool × (List UInt8) × (List UInt8) × (List GTok)) (e : PX) (st : St) : Prop := DoneF c24 4 ((.tup []), [(.box (bx_Greceiver (Greceiver.mk (GWire.mk r.1 r.2.1 r.2.2.1 r.2.2.2.1 r.2.2.2.2.1) ([]) ([]) ([])) (.r (.msl 1 0 0 r.2.2.2.2.2.1.length)) (.r (.msl 2 0 0 r.2.2.2.2.2.2.1.length)) (.r (.msl 3 0 0 r.2.2.2.2.2.2.2.length)))), (.own 5 1 (eU8.cells r.2.2.2.2.2.1)), (.own 5 1 (eU8.cells r.2.2.2.2.2.2.1)), (.own 50 4 (e_GTok.cells r.2.2.2.2.2.2.2))]) e st
noncomputable def f24 (a1 : Int) (a2 : Int) (a3 : Int) (a4 : List UInt8) (a5 : Bool) (a6 : List UInt8) (a7 : List UInt8) (a8 : List GTok) : Option (Int × Int × Int × (List UInt8) × Bool × (List UInt8) × (List UInt8) × (List GTok)) := (bif (decide (0 < (a7.length : Int))) then ((app? 40 a8 ([(GTok.mk 1 0 0 a7)] : List GTok)).bind fun z2 => (some (a1, a2, a3, a4, a5, a6, [], z2))) else (some (a1, a2, a3, a4, a5, a6, a7, a8)))
theorem f24_ok (d : Nat) (hd : 1 ≤ d) (a1 : Int) (a2 : Int) (a3 : Int) (a4 : List UInt8) (a5 : Bool) (a6 : List UInt8) (a7 : List UInt8) (a8 : List GTok) (r : Int × Int × Int × (List UInt8) × Bool × (List UInt8) × (List UInt8) × (List GTok)) (hS : f24 a1 a2 a3 a4 a5 a6 a7 a8 = some r) : lev codes baseL d 24 [(.r (.ptr 0 0 0))] [(.box (bx_Greceiver (Greceiver.mk (GWire.mk a1 a2 a3 a4 a5) ([]) ([]) ([])) (.r (.msl 1 0 0 a6.length)) (.r (.msl 2 0 0 a7.length)) (.r (.msl 3 0 0 a8.length)))), (.own 5 1 (eU8.cells a6)), (.own 5 1 (eU8.cells a7)), (.own 50 4 (e_GTok.cells a8))] = some ((.tup []), [(.box (bx_Greceiver (Greceiver.mk (GWire.mk r.1 r.2.1 r.2.2.1 r.2.2.2.1 r.2.2.2.2.1) ([]) ([]) ([])) (.r (.msl 1 0 0 r.2.2.2.2.2.1.length)) (.r (.msl 2 0 0 r.2.2.2.2.2.2.1.length)) (.r (.msl 3 0 0 r.2.2.2.2.2.2.2.length)))), (.own 5 1 (eU8.cells r.2.2.2.2.2.1)), (.own 5 1 (eU8.cells r.2.2.2.2.2.2.1)), (.own 50 4 (e_GTok.cells r.2.2.2.2.2.2.2))]) := by
  refine lev_go codes24 rfl rfl (Nat.le_trans (Nat.le_of_ble_eq_true rfl) hd) fun Q hQ => ?_
  unfold f24 at hS
  show ZR _ Q c24_b [] _
  replace hQ : ∀ e st', f24_Q r e st' → Q e st' := hQ
  refine zrSeq ?_
  refine zrReg ?_
  refine zlRun (n := 5) (j := 5) rfl (by kernel_rfl) ?_
  refine zlBool (d := 7) (op := (.cmpI .gtr (.tmp 6) (.const (.int .i64 0)))) (g := none) (j := 6) (decide (0 < (a7.length : Int))) rfl (by kernel_rfl) (by kernel_rfl) (by kernel_rfl) (fun hc => ?_) (fun hc => ?_)
  · replace hS := cond_t hc hS
    refine zlEnd (by kernel_rfl) ?_
    refine zkSeq ?_
    refine zrCondT (by kernel_rfl) ?_
    refine zrSeq ?_
    refine zrRegD ?_
    refine zdRun (n := 9) (j := 9) (ts := [[], [], [], [], [(0, false)], [], [], [], [(0, false)]]) (acc' := [[], [], [], [], [(0, false)], [], [], [], [(0, false)]]) rfl (by kernel_rfl) (by kernel_rfl) (by kernel_rfl) ?_
    refine zdOp (d := some 17) (op := (.cvBS (.tmp 16))) (g := none) (v := (.d (.str a7))) (ups := []) (j := 10) (t1 := [(2, false)]) (acc' := [[], [], [], [], [(0, false)], [], [], [], [(0, false)], [(2, false)]]) (by kernel_rfl) (by kernel_rfl) rfl (by kernel_rfl) (by kernel_rfl) (ev_cvBS (s := a7) ((congrArg (asL _) (by kernel_rfl : ρof _ (.tmp 16) = (.r (.msl 2 0 0 a7.length)))).trans (as_whole eU8 (e := 5) (k := 1) (xs := a7) (by kernel_rfl) rfl rfl)) rfl) ?_
    refine zdRun (n := 2) (j := 12) (ts := [[], [(160, true)]]) (acc' := [[], [], [], [], [(0, false)], [], [], [], [(0, false)], [(2, false)], [], [(160, true)]]) rfl (by kernel_rfl) (by kernel_rfl) (by kernel_rfl) ?_
    refine bindE hS (fun z2 hz2 hS => ?_)
    refine zdOp (d := some 20) (op := (.app 50 4 40 (.tmp 12) (.tmp 19))) (g := none) (v := (.r (.msl 3 1 0 z2.length))) (ups := [(3, ⟨1, some (.own 50 4 (e_GTok.cells z2))⟩)]) (j := 13) (t1 := [(168, true), (3, true), (160, false)]) (acc' := [[], [], [], [], [(0, false)], [], [], [], [(0, false)], [(2, false)], [], [(160, true)], [(168, true), (3, true), (160, false)]]) (by kernel_rfl) (by kernel_rfl) rfl (by kernel_rfl) (by kernel_rfl) (ev_app e_GTok (b := 3) (g := 0) (n := a8.length) (xs := a8) (ys := [(GTok.mk 1 0 0 a7)]) ((congrArg (asL _) (by kernel_rfl : ρof _ (.tmp 19) = (.r (.msl 160 1 0 (([(GTok.mk 1 0 0 a7)] : List GTok).length))))).trans (as_whole e_GTok (e := 50) (k := 4) (xs := [(GTok.mk 1 0 0 a7)]) (by kernel_rfl) rfl rfl)) rfl (by kernel_rfl) rfl (by kernel_rfl) rfl hz2) ?_
    refine zdRun (n := 3) (j := 16) (ts := [[], [], [(0, true)]]) (acc' := [[], [], [], [], [(0, false)], [], [], [], [(0, false)], [(2, false)], [], [(160, true)], [(168, true), (3, true), (160, false)], [], [], [(0, true)]]) rfl (by kernel_rfl) (by kernel_rfl) (by kernel_rfl) ?_
    refine zdEnd (by kernel_rfl) (by kernel_rfl) ?_
    refine zkSeq ?_
    refine zrReg ?_
    refine zlRun (n := 4) (j := 4) rfl (by kernel_rfl) ?_
    refine zlEnd (by kernel_rfl) ?_
    refine zkNil ?_
    exact endQ hS hQ (fNorm (by kernel_rfl) ((congrArg (fun s => outR s 4 c24.res) (by kernel_rfl : finSt c24.fin _ = f24_fin a1 a2 a3 a4 a5 a6 [] z2)).trans (f24_out a1 a2 a3 a4 a5 a6 [] z2)))
  · replace hS := cond_f hc hS
    refine zlEnd (by kernel_rfl) ?_
    refine zkSeq ?_
    refine zrCondF (by kernel_rfl) ?_
    refine zrSkip ?_
    refine zkNil ?_
    exact endQ hS hQ (fNorm (by kernel_rfl) ((congrArg (fun s => outR s 4 c24.res) (by kernel_rfl : finSt c24.fin _ = f24_fin a1 a2 a3 a4 a5 a6 a7 a8)).trans (f24_out a1 a2 a3 a4 a5 a6 a7 a8)))
/- (*farwriter/iac.receiver).token -/
def f35_fin (p1 : Int) (p2 : Int) (p3 : Int) (p4 : List UInt8) (p5 : Bool) (p6 : List UInt8) (p7 : List UInt8) (p8 : List GTok) : St := ⟨(up (up (up (fun _ => .un) 1000003 .un) 1000002 .un) 1000001 .un), (up (up (up (up (hB fun _ => 0) 3 ⟨1, some (.own 50 4 (e_GTok.cells p8))⟩) 2 ⟨1, some (.own 5 1 (eU8.cells p7))⟩) 1 ⟨1, some (.own 5 1 (eU8.cells p6))⟩) 0 ⟨0, some (.box (bx_Greceiver (Greceiver.mk (GWire.mk p1 p2 p3 p4 p5) ([]) ([]) ([])) (.r (.msl 1 1 0 p6.length)) (.r (.msl 2 1 0 p7.length)) (.r (.msl 3 1 0 p8.length))))⟩)⟩
theorem f35_out (p1 : Int) (p2 : Int) (p3 : Int) (p4 : List UInt8) (p5 : Bool) (p6 : List UInt8) (p7 : List UInt8) (p8 : List GTok) : outR (f35_fin p1 p2 p3 p4 p5 p6 p7 p8) 4 c35.res = some ((.tup []), [(.box (bx_Greceiver (Greceiver.mk (GWire.mk p1 p2 p3 p4 p5) ([]) ([]) ([])) (.r (.msl 1 0 0 p6.length)) (.r (.msl 2 0 0 p7.length)) (.r (.msl 3 0 0 p8.length)))), (.own 5 1 (eU8.cells p6)), (.own 5 1 (eU8.cells p7)), (.own 50 4 (e_GTok.cells p8))]) := by
  kernel_rfl
def f35_Q (r : Int × Int × Int × (List UInt8) × Bool × (List UInt8) × (List UInt8) × (List GTok)) (e : PX) (st : St) : Prop := DoneF c35 4 ((.tup []), [(.box (bx_Greceiver (Greceiver.mk (GWire.mk r.1 r.2.1 r.2.2.1 r.2.2.2.1 r.2.2.2.2.1) ([]) ([]) ([])) (.r (.msl 1 0 0 r.2.2.2.2.2.1.length)) (.r (.msl 2 0 0 r.2.2.2.2.2.2.1.length)) (.r (.msl 3 0 0 r.2.2.2.2.2.2.2.length)))), (.own 5 1 (eU8.cells r.2.2.2.2.2.1)), (.own 5 1 (eU8.cells r.2.2.2.2.2.2.1)), (.own 50 4 (e_GTok.cells r.2.2.2.2.2.2.2))]) e st
noncomputable def f35 (a1 : GTok) (a2 : Int) (a3 : Int) (a4 : Int) (a5 : List UInt8) (a6 : Bool) (a7 : List UInt8) (a8 : List UInt8) (a9 : List GTok) : Option (Int × Int × Int × (List UInt8) × Bool × (List UInt8) × (List UInt8) × (List GTok)) := ((f24 a2 a3 a4 a5 a6 a7 a8 a9).bind fun z3 => ((app? 40 z3.2.2.2.2.2.2.2 ([a1] : List GTok)).bind fun z4 => (some (z3.1, z3.2.1, z3.2.2.1, z3.2.2.2.1, z3.2.2.2.2.1, z3.2.2.2.2.2.1, z3.2.2.2.2.2.2.1, z4))))
theorem f35_ok (d : Nat) (hd : 2 ≤ d) (a1 : GTok) (a2 : Int) (a3 : Int) (a4 : Int) (a5 : List UInt8) (a6 : Bool) (a7 : List UInt8) (a8 : List UInt8) (a9 : List GTok) (r : Int × Int × Int × (List UInt8) × Bool × (List UInt8) × (List UInt8) × (List GTok)) (hS : f35 a1 a2 a3 a4 a5 a6 a7 a8 a9 = some r) : lev codes baseL d 35 [(.r (.ptr 0 0 0)), (.agg ((.d (.int .i64 a1.Kind)) :: ((.d (.int .i64 a1.Cmd)) :: ((.d (.int .i64 a1.Opt)) :: ((.d (.str a1.Data)) :: [])))))] [(.box (bx_Greceiver (Greceiver.mk (GWire.mk a2 a3 a4 a5 a6) ([]) ([]) ([])) (.r (.msl 1 0 0 a7.length)) (.r (.msl 2 0 0 a8.length)) (.r (.msl 3 0 0 a9.length)))), (.own 5 1 (eU8.cells a7)), (.own 5 1 (eU8.cells a8)), (.own 50 4 (e_GTok.cells a9))] = some ((.tup []), [(.box (bx_Greceiver (Greceiver.mk (GWire.mk r.1 r.2.1 r.2.2.1 r.2.2.2.1 r.2.2.2.2.1) ([]) ([]) ([])) (.r (.msl 1 0 0 r.2.2.2.2.2.1.length)) (.r (.msl 2 0 0 r.2.2.2.2.2.2.1.length)) (.r (.msl 3 0 0 r.2.2.2.2.2.2.2.length)))), (.own 5 1 (eU8.cells r.2.2.2.2.2.1)), (.own 5 1 (eU8.cells r.2.2.2.2.2.2.1)), (.own 50 4 (e_GTok.cells r.2.2.2.2.2.2.2))]) := by
  refine lev_go codes35 rfl rfl (Nat.le_trans (Nat.le_of_ble_eq_true rfl) hd) fun Q hQ => ?_
  unfold f35 at hS
  show ZR _ Q c35_b [] _
  replace hQ : ∀ e st', f35_Q r e st' → Q e st' := hQ
  refine zrSeq ?_
  refine zrReg ?_
  refine zlRun (n := 1) (j := 1) rfl (by kernel_rfl) ?_
  refine zlEnd (by kernel_rfl) ?_
  refine zkSeq ?_
  refine zrSeq ?_
  refine zrReg ?_
  refine zlRun (n := 1) (j := 1) rfl (by kernel_rfl) ?_
  refine bindE hS (fun z3 hz3 hS => ?_)
  refine zlOp (d := some 5) (op := (.callr 24 [(.tmp 4)])) (g := none) (j := 2) rfl (by kernel_rfl) (by kernel_rfl) (ev_callrA (ids := [0, 1, 2, 3]) (by kernel_rfl) (by kernel_rfl) (by kernel_rfl) (f24_ok (d - 1) (dpt hd rfl) a2 a3 a4 a5 a6 a7 a8 a9 z3 hz3) (by kernel_rfl)) ?_
  refine zlEnd (by kernel_rfl) ?_
  refine zkSeq ?_
  refine zrRegD ?_
  refine zdRun (n := 7) (j := 7) (ts := [[], [], [], [], [(0, false)], [(32, false)], [(104, true)]]) (acc' := [[], [], [], [], [(0, false)], [(32, false)], [(104, true)]]) rfl (by kernel_rfl) (by kernel_rfl) (by kernel_rfl) ?_
  refine bindE hS (fun z4 hz4 hS => ?_)
  refine zdOp (d := some 13) (op := (.app 50 4 40 (.tmp 10) (.tmp 12))) (g := none) (v := (.r (.msl 3 2 0 z4.length))) (ups := [(3, ⟨2, some (.own 50 4 (e_GTok.cells z4))⟩)]) (j := 8) (t1 := [(112, true), (3, true), (104, false)]) (acc' := [[], [], [], [], [(0, false)], [(32, false)], [(104, true)], [(112, true), (3, true), (104, false)]]) (by kernel_rfl) (by kernel_rfl) rfl (by kernel_rfl) (by kernel_rfl) (ev_app e_GTok (b := 3) (g := 1) (n := z3.2.2.2.2.2.2.2.length) (xs := z3.2.2.2.2.2.2.2) (ys := [a1]) ((congrArg (asL _) (by kernel_rfl : ρof _ (.tmp 12) = (.r (.msl 104 1 0 (([a1] : List GTok).length))))).trans (as_whole e_GTok (e := 50) (k := 4) (xs := [a1]) (by kernel_rfl) rfl rfl)) rfl (by kernel_rfl) rfl (by kernel_rfl) rfl hz4) ?_
  refine zdRun (n := 3) (j := 11) (ts := [[], [], [(0, true)]]) (acc' := [[], [], [], [], [(0, false)], [(32, false)], [(104, true)], [(112, true), (3, true), (104, false)], [], [], [(0, true)]]) rfl (by kernel_rfl) (by kernel_rfl) (by kernel_rfl) ?_
  refine zdEnd (by kernel_rfl) (by kernel_rfl) ?_
  refine zkNil ?_
  exact endQ hS hQ (fNorm (by kernel_rfl) ((congrArg (fun s => outR s 4 c35.res) (by kernel_rfl : finSt c35.fin _ = f35_fin z3.1 z3.2.1 z3.2.2.1 z3.2.2.2.1 z3.2.2.2.2.1 z3.2.2.2.2.2.1 z3.2.2.2.2.2.2.1 z4)).trans (f35_out z3.1 z3.2.1 z3.2.2.1 z3.2.2.2.1 z3.2.2.2.2.1 z3.2.2.2.2.2.1 z3.2.2.2.2.2.2.1 z4)))
/- (*farwriter/iac.receiver).command -/
def f34_fin (p5 : Int) (p6 : Int) (p7 : Int) (p8 : List UInt8) (p9 : Bool) (p10 : List UInt8) (p11 : List UInt8) (p12 : List GTok) : St := ⟨(up (up (up (fun _ => .un) 1000003 .un) 1000002 .un) 1000001 .un), (up (up (up (up (hB fun _ => 0) 3 ⟨1, some (.own 50 4 (e_GTok.cells p12))⟩) 2 ⟨1, some (.own 5 1 (eU8.cells p11))⟩) 1 ⟨1, some (.own 5 1 (eU8.cells p10))⟩) 0 ⟨0, some (.box (bx_Greceiver (Greceiver.mk (GWire.mk p5 p6 p7 p8 p9) ([]) ([]) ([])) (.r (.msl 1 1 0 p10.length)) (.r (.msl 2 1 0 p11.length)) (.r (.msl 3 1 0 p12.length))))⟩)⟩
theorem f34_out (p5 : Int) (p6 : Int) (p7 : Int) (p8 : List UInt8) (p9 : Bool) (p10 : List UInt8) (p11 : List UInt8) (p12 : List GTok) : outR (f34_fin p5 p6 p7 p8 p9 p10 p11 p12) 4 c34.res = some ((.tup []), [(.box (bx_Greceiver (Greceiver.mk (GWire.mk p5 p6 p7 p8 p9) ([]) ([]) ([])) (.r (.msl 1 0 0 p10.length)) (.r (.msl 2 0 0 p11.length)) (.r (.msl 3 0 0 p12.length)))), (.own 5 1 (eU8.cells p10)), (.own 5 1 (eU8.cells p11)), (.own 50 4 (e_GTok.cells p12))]) := by
  kernel_rfl
def f34_Q (r : Int × Int × Int × (List UInt8) × Bool × (List UInt8) × (List UInt8) × (List GTok)) (e : PX) (st : St) : Prop := DoneF c34 4 ((.tup []), [(.box (bx_Greceiver (Greceiver.mk (GWire.mk r.1 r.2.1 r.2.2.1 r.2.2.2.1 r.2.2.2.2.1) ([]) ([]) ([])) (.r (.msl 1 0 0 r.2.2.2.2.2.1.length)) (.r (.msl 2 0 0 r.2.2.2.2.2.2.1.length)) (.r (.msl 3 0 0 r.2.2.2.2.2.2.2.length)))), (.own 5 1 (eU8.cells r.2.2.2.2.2.1)), (.own 5 1 (eU8.cells r.2.2.2.2.2.2.1)), (.own 50 4 (e_GTok.cells r.2.2.2.2.2.2.2))]) e st
noncomputable def f34 (a1 : UInt8) (a2 : Int) (a3 : Int) (a4 : Int) (a5 : List UInt8) (a6 : Bool) (a7 : List UInt8) (a8 : List UInt8) (a9 : List GTok) : Option (Int × Int × Int × (List UInt8) × Bool × (List UInt8) × (List UInt8) × (List GTok)) := (bif (decide ((a1.toNat : Int) = 255)) then ((app? 1 a8 ([a1] : List UInt8)).bind fun z4 => (some (0, a3, a4, a5, a6, a7, z4, a9))) else (bif (decide (251 ≤ (a1.toNat : Int))) then (some (2, (a1.toNat : Int), a4, a5, a6, a7, a8, a9)) else (bif (decide ((a1.toNat : Int) = 250)) then (some (3, a3, a4, a5, a6, a7, a8, a9)) else (bif (decide (240 ≤ (a1.toNat : Int))) then ((f35 (GTok.mk 2 (a1.toNat : Int) 0 ([])) 0 a3 a4 a5 a6 a7 a8 a9).bind fun z5 => (some (z5.1, z5.2.1, z5.2.2.1, z5.2.2.2.1, z5.2.2.2.2.1, z5.2.2.2.2.2.1, z5.2.2.2.2.2.2.1, z5.2.2.2.2.2.2.2))) else ((f35 (GTok.mk 5 (a1.toNat : Int) 0 ([])) 0 a3 a4 a5 a6 a7 a8 a9).bind fun z6 => (some (z6.1, z6.2.1, z6.2.2.1, z6.2.2.2.1, z6.2.2.2.2.1, z6.2.2.2.2.2.1, z6.2.2.2.2.2.2.1, z6.2.2.2.2.2.2.2)))))))
theorem f34_ok (d : Nat) (hd : 3 ≤ d) (a1 : UInt8) (a2 : Int) (a3 : Int) (a4 : Int) (a5 : List UInt8) (a6 : Bool) (a7 : List UInt8) (a8 : List UInt8) (a9 : List GTok) (r : Int × Int × Int × (List UInt8) × Bool × (List UInt8) × (List UInt8) × (List GTok)) (hS : f34 a1 a2 a3 a4 a5 a6 a7 a8 a9 = some r) : lev codes baseL d 34 [(.r (.ptr 0 0 0)), (.d (.int .u8 (a1.toNat : Int)))] [(.box (bx_Greceiver (Greceiver.mk (GWire.mk a2 a3 a4 a5 a6) ([]) ([]) ([])) (.r (.msl 1 0 0 a7.length)) (.r (.msl 2 0 0 a8.length)) (.r (.msl 3 0 0 a9.length)))), (.own 5 1 (eU8.cells a7)), (.own 5 1 (eU8.cells a8)), (.own 50 4 (e_GTok.cells a9))] = some ((.tup []), [(.box (bx_Greceiver (Greceiver.mk (GWire.mk r.1 r.2.1 r.2.2.1 r.2.2.2.1 r.2.2.2.2.1) ([]) ([]) ([])) (.r (.msl 1 0 0 r.2.2.2.2.2.1.length)) (.r (.msl 2 0 0 r.2.2.2.2.2.2.1.length)) (.r (.msl 3 0 0 r.2.2.2.2.2.2.2.length)))), (.own 5 1 (eU8.cells r.2.2.2.2.2.1)), (.own 5 1 (eU8.cells r.2.2.2.2.2.2.1)), (.own 50 4 (e_GTok.cells r.2.2.2.2.2.2.2))]) := by
  refine lev_go codes34 rfl rfl (Nat.le_trans (Nat.le_of_ble_eq_true rfl) hd) fun Q hQ => ?_
  unfold f34 at hS
  show ZR _ Q c34_b [] _
  replace hQ : ∀ e st', f34_Q r e st' → Q e st' := hQ
  refine zrSeq ?_
  refine zrReg ?_
  refine zlRun (n := 5) (j := 5) rfl (by kernel_rfl) ?_
  refine zlEnd (by kernel_rfl) ?_
  refine zkSeq ?_
  refine zrBlk ?_
  refine zrSeq ?_
  refine zrReg ?_
  refine zlRun (n := 1) (j := 1) rfl (by kernel_rfl) ?_
  refine zlBool (d := 15) (op := (.cmpI .eql (.tmp 14) (.const (.int .u8 255)))) (g := none) (j := 2) (decide ((a1.toNat : Int) = 255)) rfl (by kernel_rfl) (by kernel_rfl) (by kernel_rfl) (fun hc => ?_) (fun hc => ?_)
  · replace hS := cond_t hc hS
    refine zlRun (n := 1) (j := 3) rfl (by kernel_rfl) ?_
    refine zlEnd (by kernel_rfl) ?_
    refine zkSeq ?_
    refine zrCondT (by kernel_rfl) ?_
    refine zrReg ?_
    refine zlRun (n := 7) (j := 7) rfl (by kernel_rfl) ?_
    refine bindE hS (fun z4 hz4 hS => ?_)
    refine zlOp (d := some 23) (op := (.app 5 1 1 (.tmp 20) (.tmp 22))) (g := none) (v := (.r (.msl 2 1 0 z4.length))) (ups := [(2, ⟨1, some (.own 5 1 (eU8.cells z4))⟩)]) (j := 8) rfl (by kernel_rfl) (by kernel_rfl) (ev_app eU8 (b := 2) (g := 0) (n := a8.length) (xs := a8) (ys := [a1]) ((congrArg (asL _) (by kernel_rfl : ρof _ (.tmp 22) = (.r (.msl 184 1 0 (([a1] : List UInt8).length))))).trans (as_whole eU8 (e := 5) (k := 1) (xs := [a1]) (by kernel_rfl) rfl rfl)) rfl (by kernel_rfl) rfl (by kernel_rfl) rfl hz4) ?_
    refine zlRun (n := 3) (j := 11) rfl (by kernel_rfl) ?_
    refine zlEnd (by kernel_rfl) ?_
    refine zkBlk ?_
    refine zkNil ?_
    exact endQ hS hQ (fNorm (by kernel_rfl) ((congrArg (fun s => outR s 4 c34.res) (by kernel_rfl : finSt c34.fin _ = f34_fin 0 a3 a4 a5 a6 a7 z4 a9)).trans (f34_out 0 a3 a4 a5 a6 a7 z4 a9)))
  · replace hS := cond_f hc hS
    refine zlRun (n := 1) (j := 3) rfl (by kernel_rfl) ?_
    refine zlEnd (by kernel_rfl) ?_
    refine zkSeq ?_
    refine zrCondF (by kernel_rfl) ?_
    refine zrSeq ?_
    refine zrReg ?_
    refine zlRun (n := 1) (j := 1) rfl (by kernel_rfl) ?_
    refine zlBool (d := 28) (op := (.cmpI .geq (.tmp 27) (.const (.int .u8 251)))) (g := none) (j := 2) (decide (251 ≤ (a1.toNat : Int))) rfl (by kernel_rfl) (by kernel_rfl) (by kernel_rfl) (fun hc => ?_) (fun hc => ?_)
    · replace hS := cond_t hc hS
      refine zlRun (n := 1) (j := 3) rfl (by kernel_rfl) ?_
      refine zlEnd (by kernel_rfl) ?_
      refine zkSeq ?_
      refine zrCondT (by kernel_rfl) ?_
      refine zrReg ?_
      refine zlRun (n := 3) (j := 3) rfl (by kernel_rfl) ?_
      refine zlOp (d := some 32) (op := (.cvI .i64 (.tmp 31))) (g := none) (v := (.d (.int .i64 (a1.toNat : Int)))) (ups := []) (j := 4) rfl (by kernel_rfl) (by kernel_rfl) (ev_cv (kk := .u8) (a := (a1.toNat : Int)) (by kernel_rfl) (cv_i64 _)) ?_
      refine zlRun (n := 8) (j := 12) rfl (by kernel_rfl) ?_
      refine zlEnd (by kernel_rfl) ?_
      refine zkBlk ?_
      refine zkNil ?_
      exact endQ hS hQ (fNorm (by kernel_rfl) ((congrArg (fun s => outR s 4 c34.res) (by kernel_rfl : finSt c34.fin _ = f34_fin 2 (a1.toNat : Int) a4 a5 a6 a7 a8 a9)).trans (f34_out 2 (a1.toNat : Int) a4 a5 a6 a7 a8 a9)))
    · replace hS := cond_f hc hS
      refine zlRun (n := 1) (j := 3) rfl (by kernel_rfl) ?_
      refine zlEnd (by kernel_rfl) ?_
      refine zkSeq ?_
      refine zrCondF (by kernel_rfl) ?_
      refine zrSeq ?_
      refine zrReg ?_
      refine zlRun (n := 1) (j := 1) rfl (by kernel_rfl) ?_
      refine zlBool (d := 41) (op := (.cmpI .eql (.tmp 40) (.const (.int .u8 250)))) (g := none) (j := 2) (decide ((a1.toNat : Int) = 250)) rfl (by kernel_rfl) (by kernel_rfl) (by kernel_rfl) (fun hc => ?_) (fun hc => ?_)
      · replace hS := cond_t hc hS
        refine zlRun (n := 1) (j := 3) rfl (by kernel_rfl) ?_
        refine zlEnd (by kernel_rfl) ?_
        refine zkSeq ?_
        refine zrCondT (by kernel_rfl) ?_
        refine zrReg ?_
        refine zlRun (n := 5) (j := 5) rfl (by kernel_rfl) ?_
        refine zlEnd (by kernel_rfl) ?_
        refine zkBlk ?_
        refine zkNil ?_
        exact endQ hS hQ (fNorm (by kernel_rfl) ((congrArg (fun s => outR s 4 c34.res) (by kernel_rfl : finSt c34.fin _ = f34_fin 3 a3 a4 a5 a6 a7 a8 a9)).trans (f34_out 3 a3 a4 a5 a6 a7 a8 a9)))
      · replace hS := cond_f hc hS
        refine zlRun (n := 1) (j := 3) rfl (by kernel_rfl) ?_
        refine zlEnd (by kernel_rfl) ?_
        refine zkSeq ?_
        refine zrCondF (by kernel_rfl) ?_
        refine zrSeq ?_
        refine zrReg ?_
        refine zlRun (n := 1) (j := 1) rfl (by kernel_rfl) ?_
        refine zlBool (d := 48) (op := (.cmpI .geq (.tmp 47) (.const (.int .u8 240)))) (g := none) (j := 2) (decide (240 ≤ (a1.toNat : Int))) rfl (by kernel_rfl) (by kernel_rfl) (by kernel_rfl) (fun hc => ?_) (fun hc => ?_)
        · replace hS := cond_t hc hS
          refine zlRun (n := 1) (j := 3) rfl (by kernel_rfl) ?_
          refine zlEnd (by kernel_rfl) ?_
          refine zkSeq ?_
          refine zrCondT (by kernel_rfl) ?_
          refine zrReg ?_
          refine zlRun (n := 2) (j := 2) rfl (by kernel_rfl) ?_
          refine zlOp (d := some 51) (op := (.cvI .i64 (.tmp 50))) (g := none) (v := (.d (.int .i64 (a1.toNat : Int)))) (ups := []) (j := 3) rfl (by kernel_rfl) (by kernel_rfl) (ev_cv (kk := .u8) (a := (a1.toNat : Int)) (by kernel_rfl) (cv_i64 _)) ?_
          refine zlRun (n := 1) (j := 4) rfl (by kernel_rfl) ?_
          refine bindE hS (fun z5 hz5 hS => ?_)
          refine zlOp (d := some 53) (op := (.callr 35 [(.tmp 49), (.tmp 52)])) (g := none) (j := 5) rfl (by kernel_rfl) (by kernel_rfl) (ev_callrA (ids := [0, 1, 2, 3]) (by kernel_rfl) (by kernel_rfl) (by kernel_rfl) (f35_ok (d - 1) (dpt hd rfl) (GTok.mk 2 (a1.toNat : Int) 0 ([])) 0 a3 a4 a5 a6 a7 a8 a9 z5 hz5) (by kernel_rfl)) ?_
          refine zlEnd (by kernel_rfl) ?_
          refine zkBlk ?_
          refine zkNil ?_
          exact endQ hS hQ (fNorm (by kernel_rfl) ((congrArg (fun s => outR s 4 c34.res) (by kernel_rfl : finSt c34.fin _ = f34_fin z5.1 z5.2.1 z5.2.2.1 z5.2.2.2.1 z5.2.2.2.2.1 z5.2.2.2.2.2.1 z5.2.2.2.2.2.2.1 z5.2.2.2.2.2.2.2)).trans (f34_out z5.1 z5.2.1 z5.2.2.1 z5.2.2.2.1 z5.2.2.2.2.1 z5.2.2.2.2.2.1 z5.2.2.2.2.2.2.1 z5.2.2.2.2.2.2.2)))
        · replace hS := cond_f hc hS
          refine zlRun (n := 1) (j := 3) rfl (by kernel_rfl) ?_
          refine zlEnd (by kernel_rfl) ?_
          refine zkSeq ?_
          refine zrCondF (by kernel_rfl) ?_
          refine zrReg ?_
          refine zlRun (n := 2) (j := 2) rfl (by kernel_rfl) ?_
          refine zlOp (d := some 10) (op := (.cvI .i64 (.tmp 9))) (g := none) (v := (.d (.int .i64 (a1.toNat : Int)))) (ups := []) (j := 3) rfl (by kernel_rfl) (by kernel_rfl) (ev_cv (kk := .u8) (a := (a1.toNat : Int)) (by kernel_rfl) (cv_i64 _)) ?_
          refine zlRun (n := 1) (j := 4) rfl (by kernel_rfl) ?_
          refine bindE hS (fun z6 hz6 hS => ?_)
          refine zlOp (d := some 12) (op := (.callr 35 [(.tmp 8), (.tmp 11)])) (g := none) (j := 5) rfl (by kernel_rfl) (by kernel_rfl) (ev_callrA (ids := [0, 1, 2, 3]) (by kernel_rfl) (by kernel_rfl) (by kernel_rfl) (f35_ok (d - 1) (dpt hd rfl) (GTok.mk 5 (a1.toNat : Int) 0 ([])) 0 a3 a4 a5 a6 a7 a8 a9 z6 hz6) (by kernel_rfl)) ?_
          refine zlEnd (by kernel_rfl) ?_
          refine zkBlk ?_
          refine zkNil ?_
          exact endQ hS hQ (fNorm (by kernel_rfl) ((congrArg (fun s => outR s 4 c34.res) (by kernel_rfl : finSt c34.fin _ = f34_fin z6.1 z6.2.1 z6.2.2.1 z6.2.2.2.1 z6.2.2.2.2.1 z6.2.2.2.2.2.1 z6.2.2.2.2.2.2.1 z6.2.2.2.2.2.2.2)).trans (f34_out z6.1 z6.2.1 z6.2.2.1 z6.2.2.2.1 z6.2.2.2.2.1 z6.2.2.2.2.2.1 z6.2.2.2.2.2.2.1 z6.2.2.2.2.2.2.2)))
/- (*farwriter/iac.receiver).sub -/
def f36_fin (p4 : Int) (p5 : Int) (p6 : Int) (p7 : List UInt8) (p8 : Bool) (p9 : List UInt8) (p10 : List UInt8) (p11 : List GTok) : St := ⟨(up (up (up (fun _ => .un) 1000003 .un) 1000002 .un) 1000001 .un), (up (up (up (up (hB fun _ => 0) 3 ⟨1, some (.own 50 4 (e_GTok.cells p11))⟩) 2 ⟨1, some (.own 5 1 (eU8.cells p10))⟩) 1 ⟨1, some (.own 5 1 (eU8.cells p9))⟩) 0 ⟨0, some (.box (bx_Greceiver (Greceiver.mk (GWire.mk p4 p5 p6 p7 p8) ([]) ([]) ([])) (.r (.msl 1 1 0 p9.length)) (.r (.msl 2 1 0 p10.length)) (.r (.msl 3 1 0 p11.length))))⟩)⟩
theorem f36_out (p4 : Int) (p5 : Int) (p6 : Int) (p7 : List UInt8) (p8 : Bool) (p9 : List UInt8) (p10 : List UInt8) (p11 : List GTok) : outR (f36_fin p4 p5 p6 p7 p8 p9 p10 p11) 4 c36.res = some ((.tup []), [(.box (bx_Greceiver (Greceiver.mk (GWire.mk p4 p5 p6 p7 p8) ([]) ([]) ([])) (.r (.msl 1 0 0 p9.length)) (.r (.msl 2 0 0 p10.length)) (.r (.msl 3 0 0 p11.length)))), (.own 5 1 (eU8.cells p9)), (.own 5 1 (eU8.cells p10)), (.own 50 4 (e_GTok.cells p11))]) := by
  kernel_rfl
def f36_Q (r : Int × Int × Int × (List UInt8) × Bool × (List UInt8) × (List UInt8) × (List GTok)) (e : PX) (st : St) : Prop := DoneF c36 4 ((.tup []), [(.box (bx_Greceiver (Greceiver.mk (GWire.mk r.1 r.2.1 r.2.2.1 r.2.2.2.1 r.2.2.2.2.1) ([]) ([]) ([])) (.r (.msl 1 0 0 r.2.2.2.2.2.1.length)) (.r (.msl 2 0 0 r.2.2.2.2.2.2.1.length)) (.r (.msl 3 0 0 r.2.2.2.2.2.2.2.length)))), (.own 5 1 (eU8.cells r.2.2.2.2.2.1)), (.own 5 1 (eU8.cells r.2.2.2.2.2.2.1)), (.own 50 4 (e_GTok.cells r.2.2.2.2.2.2.2))]) e st
def f36_j0_J (a1 : UInt8) (a2 : Int) (a3 : Int) (a4 : Int) (a5 : List UInt8) (a6 : Bool) (a7 : List UInt8) (a8 : List UInt8) (a9 : List GTok) (p15 : Bool) (p16 : List UInt8) : St := ⟨(up (up (up (up (up (fun _ => .un) 1000003 .un) 1000002 .un) 1000001 .un) 1 (.d (.int .u8 (a1.toNat : Int)))) 0 (.r (.ptr 0 0 0))), (up (up (up (up (hB fun _ => 0) 3 ⟨1, some (.own 50 4 (e_GTok.cells a9))⟩) 2 ⟨1, some (.own 5 1 (eU8.cells a8))⟩) 1 ⟨1, some (.own 5 1 (eU8.cells p16))⟩) 0 ⟨0, some (.box (bx_Greceiver (Greceiver.mk (GWire.mk a2 a3 a4 a5 p15) ([]) ([]) ([])) (.r (.msl 1 1 0 p16.length)) (.r (.msl 2 1 0 a8.length)) (.r (.msl 3 1 0 a9.length))))⟩)⟩
noncomputable def f36_j0 (a1 : UInt8) (a2 : Int) (a3 : Int) (a4 : Int) (a5 : List UInt8) (a6 : Bool) (a7 : List UInt8) (a8 : List UInt8) (a9 : List GTok) (p15 : Bool) (p16 : List UInt8) : Option (Int × Int × Int × (List UInt8) × Bool × (List UInt8) × (List UInt8) × (List GTok)) := (bif (!p15) then ((app? 1 p16 ([a1] : List UInt8)).bind fun z2 => (some (a2, a3, a4, a5, p15, z2, a8, a9))) else (some (a2, a3, a4, a5, p15, p16, a8, a9)))
theorem f36_j0_ok {d : Nat} (hd : 1 ≤ d) (a1 : UInt8) (a2 : Int) (a3 : Int) (a4 : Int) (a5 : List UInt8) (a6 : Bool) (a7 : List UInt8) (a8 : List UInt8) (a9 : List GTok) {r : Int × Int × Int × (List UInt8) × Bool × (List UInt8) × (List UInt8) × (List GTok)} {Q : PX → St → Prop} (hQ : ∀ e st', f36_Q r e st' → Q e st') (p15 : Bool) (p16 : List UInt8) (hS : f36_j0 a1 a2 a3 a4 a5 a6 a7 a8 a9 p15 p16 = some r) {st : St} (he : keepSt [0, 1, 1000001, 1000002, 1000003] [(0, .id 0), (1, .id 1), (2, .id 2), (3, .id 3)] [.cell 0 5 1 5 1] st = f36_j0_J a1 a2 a3 a4 a5 a6 a7 a8 a9 p15 p16) : ZR (lev codes baseL (d - 1)) Q c36_1 [] st := by
  refine zrKeep he ?_
  unfold f36_j0 at hS
  refine zrSeq ?_
  refine zrReg ?_
  refine zlRun (n := 6) (j := 6) rfl (by kernel_rfl) ?_
  refine zlEnd (by kernel_rfl) ?_
  refine zkSeq ?_
  refine zrSplit 22 (!p15) (by kernel_rfl) (fun hc => ?_) (fun hc => ?_)
  · replace hS := cond_t hc hS
    refine zrCondT (by kernel_rfl) ?_
    refine zrReg ?_
    refine zlRun (n := 7) (j := 7) rfl (by kernel_rfl) ?_
    refine bindE hS (fun z2 hz2 hS => ?_)
    refine zlOp (d := some 30) (op := (.app 5 1 1 (.tmp 27) (.tmp 29))) (g := none) (v := (.r (.msl 1 2 0 z2.length))) (ups := [(1, ⟨2, some (.own 5 1 (eU8.cells z2))⟩)]) (j := 8) rfl (by kernel_rfl) (by kernel_rfl) (ev_app eU8 (b := 1) (g := 1) (n := p16.length) (xs := p16) (ys := [a1]) ((congrArg (asL _) (by kernel_rfl : ρof _ (.tmp 29) = (.r (.msl 240 1 0 (([a1] : List UInt8).length))))).trans (as_whole eU8 (e := 5) (k := 1) (xs := [a1]) (by kernel_rfl) rfl rfl)) rfl (by kernel_rfl) rfl (by kernel_rfl) rfl hz2) ?_
    refine zlRun (n := 3) (j := 11) rfl (by kernel_rfl) ?_
    refine zlEnd (by kernel_rfl) ?_
    refine zkNil ?_
    exact endQ hS hQ (fNorm (by kernel_rfl) ((congrArg (fun s => outR s 4 c36.res) (by kernel_rfl : finSt c36.fin _ = f36_fin a2 a3 a4 a5 p15 z2 a8 a9)).trans (f36_out a2 a3 a4 a5 p15 z2 a8 a9)))
  · replace hS := cond_f hc hS
    refine zrCondF (by kernel_rfl) ?_
    refine zrSkip ?_
    refine zkNil ?_
    exact endQ hS hQ (fNorm (by kernel_rfl) ((congrArg (fun s => outR s 4 c36.res) (by kernel_rfl : finSt c36.fin _ = f36_fin a2 a3 a4 a5 p15 p16 a8 a9)).trans (f36_out a2 a3 a4 a5 p15 p16 a8 a9)))
noncomputable def f36 (a1 : UInt8) (a2 : Int) (a3 : Int) (a4 : Int) (a5 : List UInt8) (a6 : Bool) (a7 : List UInt8) (a8 : List UInt8) (a9 : List GTok) : Option (Int × Int × Int × (List UInt8) × Bool × (List UInt8) × (List UInt8) × (List GTok)) := (bif (decide ((a7.length : Int) = 4096)) then (f36_j0 a1 a2 a3 a4 a5 a6 a7 a8 a9 true []) else (f36_j0 a1 a2 a3 a4 a5 a6 a7 a8 a9 a6 a7))
theorem f36_ok (d : Nat) (hd : 1 ≤ d) (a1 : UInt8) (a2 : Int) (a3 : Int) (a4 : Int) (a5 : List UInt8) (a6 : Bool) (a7 : List UInt8) (a8 : List UInt8) (a9 : List GTok) (r : Int × Int × Int × (List UInt8) × Bool × (List UInt8) × (List UInt8) × (List GTok)) (hS : f36 a1 a2 a3 a4 a5 a6 a7 a8 a9 = some r) : lev codes baseL d 36 [(.r (.ptr 0 0 0)), (.d (.int .u8 (a1.toNat : Int)))] [(.box (bx_Greceiver (Greceiver.mk (GWire.mk a2 a3 a4 a5 a6) ([]) ([]) ([])) (.r (.msl 1 0 0 a7.length)) (.r (.msl 2 0 0 a8.length)) (.r (.msl 3 0 0 a9.length)))), (.own 5 1 (eU8.cells a7)), (.own 5 1 (eU8.cells a8)), (.own 50 4 (e_GTok.cells a9))] = some ((.tup []), [(.box (bx_Greceiver (Greceiver.mk (GWire.mk r.1 r.2.1 r.2.2.1 r.2.2.2.1 r.2.2.2.2.1) ([]) ([]) ([])) (.r (.msl 1 0 0 r.2.2.2.2.2.1.length)) (.r (.msl 2 0 0 r.2.2.2.2.2.2.1.length)) (.r (.msl 3 0 0 r.2.2.2.2.2.2.2.length)))), (.own 5 1 (eU8.cells r.2.2.2.2.2.1)), (.own 5 1 (eU8.cells r.2.2.2.2.2.2.1)), (.own 50 4 (e_GTok.cells r.2.2.2.2.2.2.2))]) := by
  refine lev_go codes36 rfl rfl (Nat.le_trans (Nat.le_of_ble_eq_true rfl) hd) fun Q hQ => ?_
  unfold f36 at hS
  show ZR _ Q c36_b [] _
  replace hQ : ∀ e st', f36_Q r e st' → Q e st' := hQ
  refine zrSeq ?_
  refine zrSeq ?_
  refine zrReg ?_
  refine zlRun (n := 5) (j := 5) rfl (by kernel_rfl) ?_
  refine zlBool (d := 9) (op := (.cmpI .eql (.tmp 8) (.const (.int .i64 4096)))) (g := none) (j := 6) (decide ((a7.length : Int) = 4096)) rfl (by kernel_rfl) (by kernel_rfl) (by kernel_rfl) (fun hc => ?_) (fun hc => ?_)
  · replace hS := cond_t hc hS
    refine zlEnd (by kernel_rfl) ?_
    refine zkSeq ?_
    refine zrCondT (by kernel_rfl) ?_
    refine zrReg ?_
    refine zlRun (n := 9) (j := 9) rfl (by kernel_rfl) ?_
    refine zlEnd (by kernel_rfl) ?_
    refine zkSeq ?_
    exact f36_j0_ok hd a1 a2 a3 a4 a5 a6 a7 a8 a9 hQ true [] hS (by kernel_rfl)
  · replace hS := cond_f hc hS
    refine zlEnd (by kernel_rfl) ?_
    refine zkSeq ?_
    refine zrCondF (by kernel_rfl) ?_
    refine zrSkip ?_
    refine zkSeq ?_
    exact f36_j0_ok hd a1 a2 a3 a4 a5 a6 a7 a8 a9 hQ a6 a7 hS (by kernel_rfl)
/- (*farwriter/iac.receiver).end -/
def f37_fin (p19 : List UInt8) (p20 : List GTok) (p21 : List UInt8) : St := ⟨(up (up (up (fun _ => .un) 1000003 .un) 1000002 .un) 1000001 .un), (up (up (up (up (hB fun _ => 0) 1 ⟨1, some (.own 5 1 (eU8.cells p21))⟩) 3 ⟨1, some (.own 50 4 (e_GTok.cells p20))⟩) 2 ⟨1, some (.own 5 1 (eU8.cells p19))⟩) 0 ⟨0, some (.box (bx_Greceiver (Greceiver.mk (GWire.mk 0 0 0 ([]) false) ([]) ([]) ([])) .nil (.r (.msl 2 1 0 p19.length)) (.r (.msl 3 1 0 p20.length))))⟩)⟩
theorem f37_out (p19 : List UInt8) (p20 : List GTok) (p21 : List UInt8) : outR (f37_fin p19 p20 p21) 4 c37.res = some ((.tup []), [(.box (bx_Greceiver (Greceiver.mk (GWire.mk 0 0 0 ([]) false) ([]) ([]) ([])) .nil (.r (.msl 2 0 0 p19.length)) (.r (.msl 3 0 0 p20.length)))), (.own 5 1 (eU8.cells p21)), (.own 5 1 (eU8.cells p19)), (.own 50 4 (e_GTok.cells p20))]) := by
  kernel_rfl
def f37_Q (r : (List UInt8) × (List GTok) × (List UInt8)) (e : PX) (st : St) : Prop := DoneF c37 4 ((.tup []), [(.box (bx_Greceiver (Greceiver.mk (GWire.mk 0 0 0 ([]) false) ([]) ([]) ([])) .nil (.r (.msl 2 0 0 r.1.length)) (.r (.msl 3 0 0 r.2.1.length)))), (.own 5 1 (eU8.cells r.2.2)), (.own 5 1 (eU8.cells r.1)), (.own 50 4 (e_GTok.cells r.2.1))]) e st
def f37_j0_J (a1 : UInt8) (a2 : Int) (a3 : Int) (a4 : Int) (a5 : List UInt8) (a6 : Bool) (a7 : List UInt8) (a8 : List UInt8) (a9 : List GTok) (p40 : Int) (p41 : Int) (p42 : Int) (p43 : List UInt8) (p44 : Bool) (p45 : List UInt8) (p46 : List UInt8) (p47 : List GTok) : St := ⟨(up (up (up (up (fun _ => .un) 1000003 .un) 1000002 .un) 1000001 .un) 0 (.r (.ptr 0 0 0))), (up (up (up (up (hB fun _ => 0) 3 ⟨1, some (.own 50 4 (e_GTok.cells p47))⟩) 2 ⟨1, some (.own 5 1 (eU8.cells p46))⟩) 1 ⟨1, some (.own 5 1 (eU8.cells p45))⟩) 0 ⟨0, some (.box (bx_Greceiver (Greceiver.mk (GWire.mk p40 p41 p42 p43 p44) ([]) ([]) ([])) (.r (.msl 1 1 0 p45.length)) (.r (.msl 2 1 0 p46.length)) (.r (.msl 3 1 0 p47.length))))⟩)⟩
noncomputable def f37_j0 (a1 : UInt8) (a2 : Int) (a3 : Int) (a4 : Int) (a5 : List UInt8) (a6 : Bool) (a7 : List UInt8) (a8 : List UInt8) (a9 : List GTok) (p40 : Int) (p41 : Int) (p42 : Int) (p43 : List UInt8) (p44 : Bool) (p45 : List UInt8) (p46 : List UInt8) (p47 : List GTok) : Option ((List UInt8) × (List GTok) × (List UInt8)) := (some (p46, p47, p45))
theorem f37_j0_ok {d : Nat} (hd : 3 ≤ d) (a1 : UInt8) (a2 : Int) (a3 : Int) (a4 : Int) (a5 : List UInt8) (a6 : Bool) (a7 : List UInt8) (a8 : List UInt8) (a9 : List GTok) {r : (List UInt8) × (List GTok) × (List UInt8)} {Q : PX → St → Prop} (hQ : ∀ e st', f37_Q r e st' → Q e st') (p40 : Int) (p41 : Int) (p42 : Int) (p43 : List UInt8) (p44 : Bool) (p45 : List UInt8) (p46 : List UInt8) (p47 : List GTok) (hS : f37_j0 a1 a2 a3 a4 a5 a6 a7 a8 a9 p40 p41 p42 p43 p44 p45 p46 p47 = some r) {st : St} (he : keepSt [0, 1000001, 1000002, 1000003] [(0, .id 0), (1, .id 1), (2, .id 2), (3, .id 3)] [] st = f37_j0_J a1 a2 a3 a4 a5 a6 a7 a8 a9 p40 p41 p42 p43 p44 p45 p46 p47) : ZR (lev codes baseL (d - 1)) Q c37_1 [] st := by
  refine zrKeep he ?_
  unfold f37_j0 at hS
  refine zrReg ?_
  refine zlRun (n := 9) (j := 9) rfl (by kernel_rfl) ?_
  refine zlEnd (by kernel_rfl) ?_
  refine zkNil ?_
  exact endQ hS hQ (fNorm (by kernel_rfl) ((congrArg (fun s => outR s 4 c37.res) (by kernel_rfl : finSt c37.fin _ = f37_fin p46 p47 p45)).trans (f37_out p46 p47 p45)))
noncomputable def f37 (a1 : UInt8) (a2 : Int) (a3 : Int) (a4 : Int) (a5 : List UInt8) (a6 : Bool) (a7 : List UInt8) (a8 : List UInt8) (a9 : List GTok) : Option ((List UInt8) × (List GTok) × (List UInt8)) := (bif (decide ((a1.toNat : Int) = 240)) then (bif a6 then ((f35 (GTok.mk 5 250 a4 ([])) a2 a3 a4 a5 a6 a7 a8 a9).bind fun z7 => (f37_j0 a1 a2 a3 a4 a5 a6 a7 a8 a9 z7.1 z7.2.1 z7.2.2.1 z7.2.2.2.1 z7.2.2.2.2.1 z7.2.2.2.2.2.1 z7.2.2.2.2.2.2.1 z7.2.2.2.2.2.2.2)) else (bif (decide ((a1.toNat : Int) = 240)) then ((f35 (GTok.mk 4 0 a4 a7) a2 a3 a4 a5 a6 a7 a8 a9).bind fun z8 => (f37_j0 a1 a2 a3 a4 a5 a6 a7 a8 a9 z8.1 z8.2.1 z8.2.2.1 z8.2.2.2.1 z8.2.2.2.2.1 z8.2.2.2.2.2.1 z8.2.2.2.2.2.2.1 z8.2.2.2.2.2.2.2)) else ((f35 (GTok.mk 5 (a1.toNat : Int) a4 ([])) a2 a3 a4 a5 a6 a7 a8 a9).bind fun z9 => (f37_j0 a1 a2 a3 a4 a5 a6 a7 a8 a9 z9.1 z9.2.1 z9.2.2.1 z9.2.2.2.1 z9.2.2.2.2.1 z9.2.2.2.2.2.1 z9.2.2.2.2.2.2.1 z9.2.2.2.2.2.2.2)))) else (bif (decide ((a1.toNat : Int) = 240)) then ((f35 (GTok.mk 4 0 a4 a7) a2 a3 a4 a5 a6 a7 a8 a9).bind fun z10 => (f37_j0 a1 a2 a3 a4 a5 a6 a7 a8 a9 z10.1 z10.2.1 z10.2.2.1 z10.2.2.2.1 z10.2.2.2.2.1 z10.2.2.2.2.2.1 z10.2.2.2.2.2.2.1 z10.2.2.2.2.2.2.2)) else ((f35 (GTok.mk 5 (a1.toNat : Int) a4 ([])) a2 a3 a4 a5 a6 a7 a8 a9).bind fun z11 => (f37_j0 a1 a2 a3 a4 a5 a6 a7 a8 a9 z11.1 z11.2.1 z11.2.2.1 z11.2.2.2.1 z11.2.2.2.2.1 z11.2.2.2.2.2.1 z11.2.2.2.2.2.2.1 z11.2.2.2.2.2.2.2))))
theorem f37_ok (d : Nat) (hd : 3 ≤ d) (a1 : UInt8) (a2 : Int) (a3 : Int) (a4 : Int) (a5 : List UInt8) (a6 : Bool) (a7 : List UInt8) (a8 : List UInt8) (a9 : List GTok) (r : (List UInt8) × (List GTok) × (List UInt8)) (hS : f37 a1 a2 a3 a4 a5 a6 a7 a8 a9 = some r) : lev codes baseL d 37 [(.r (.ptr 0 0 0)), (.d (.int .u8 (a1.toNat : Int)))] [(.box (bx_Greceiver (Greceiver.mk (GWire.mk a2 a3 a4 a5 a6) ([]) ([]) ([])) (.r (.msl 1 0 0 a7.length)) (.r (.msl 2 0 0 a8.length)) (.r (.msl 3 0 0 a9.length)))), (.own 5 1 (eU8.cells a7)), (.own 5 1 (eU8.cells a8)), (.own 50 4 (e_GTok.cells a9))] = some ((.tup []), [(.box (bx_Greceiver (Greceiver.mk (GWire.mk 0 0 0 ([]) false) ([]) ([]) ([])) .nil (.r (.msl 2 0 0 r.1.length)) (.r (.msl 3 0 0 r.2.1.length)))), (.own 5 1 (eU8.cells r.2.2)), (.own 5 1 (eU8.cells r.1)), (.own 50 4 (e_GTok.cells r.2.1))]) := by
  refine lev_go codes37 rfl rfl (Nat.le_trans (Nat.le_of_ble_eq_true rfl) hd) fun Q hQ => ?_
  unfold f37 at hS
  show ZR _ Q c37_b [] _
  replace hQ : ∀ e st', f37_Q r e st' → Q e st' := hQ
  refine zrSeq ?_
  refine zrBlk ?_
  refine zrSeq ?_
  refine zrReg ?_
  refine zlRun (n := 1) (j := 1) rfl (by kernel_rfl) ?_
  refine zlBool (d := 16) (op := (.cmpI .eql (.tmp 15) (.const (.int .u8 240)))) (g := none) (j := 2) (decide ((a1.toNat : Int) = 240)) rfl (by kernel_rfl) (by kernel_rfl) (by kernel_rfl) (fun hc => ?_) (fun hc => ?_)
  · replace hS := cond_t hc hS
    refine zlRun (n := 8) (j := 10) rfl (by kernel_rfl) ?_
    refine zlEnd (by kernel_rfl) ?_
    refine zkSeq ?_
    refine zrSplit 14 a6 (by kernel_rfl) (fun hc => ?_) (fun hc => ?_)
    · replace hS := cond_t hc hS
      refine zrCondT (by kernel_rfl) ?_
      refine zrReg ?_
      refine zlRun (n := 7) (j := 7) rfl (by kernel_rfl) ?_
      refine bindE hS (fun z7 hz7 hS => ?_)
      refine zlOp (d := some 31) (op := (.callr 35 [(.tmp 24), (.tmp 30)])) (g := none) (j := 8) rfl (by kernel_rfl) (by kernel_rfl) (ev_callrA (ids := [0, 1, 2, 3]) (by kernel_rfl) (by kernel_rfl) (by kernel_rfl) (f35_ok (d - 1) (dpt hd rfl) (GTok.mk 5 250 a4 ([])) a2 a3 a4 a5 a6 a7 a8 a9 z7 hz7) (by kernel_rfl)) ?_
      refine zlEnd (by kernel_rfl) ?_
      refine zkBlk ?_
      refine zkSeq ?_
      exact f37_j0_ok hd a1 a2 a3 a4 a5 a6 a7 a8 a9 hQ z7.1 z7.2.1 z7.2.2.1 z7.2.2.2.1 z7.2.2.2.2.1 z7.2.2.2.2.2.1 z7.2.2.2.2.2.2.1 z7.2.2.2.2.2.2.2 hS (by kernel_rfl)
    · replace hS := cond_f hc hS
      refine zrCondF (by kernel_rfl) ?_
      refine zrSeq ?_
      refine zrReg ?_
      refine zlRun (n := 1) (j := 1) rfl (by kernel_rfl) ?_
      refine zlBool (d := 34) (op := (.cmpI .eql (.tmp 33) (.const (.int .u8 240)))) (g := none) (j := 2) (decide ((a1.toNat : Int) = 240)) rfl (by kernel_rfl) (by kernel_rfl) (by kernel_rfl) (fun hc => ?_) (fun hc => ?_)
      · replace hS := cond_t hc hS
        refine zlRun (n := 1) (j := 3) rfl (by kernel_rfl) ?_
        refine zlEnd (by kernel_rfl) ?_
        refine zkSeq ?_
        refine zrCondT (by kernel_rfl) ?_
        refine zrRegD ?_
        refine zdRun (n := 10) (j := 10) (ts := [[], [], [], [], [], [(0, false)], [], [], [], [(0, false)]]) (acc' := [[], [], [], [], [], [(0, false)], [], [], [], [(0, false)]]) rfl (by kernel_rfl) (by kernel_rfl) (by kernel_rfl) ?_
        refine zdOp (d := some 45) (op := (.cvBS (.tmp 44))) (g := none) (v := (.d (.str a7))) (ups := []) (j := 11) (t1 := [(1, false)]) (acc' := [[], [], [], [], [], [(0, false)], [], [], [], [(0, false)], [(1, false)]]) (by kernel_rfl) (by kernel_rfl) rfl (by kernel_rfl) (by kernel_rfl) (ev_cvBS (s := a7) ((congrArg (asL _) (by kernel_rfl : ρof _ (.tmp 44) = (.r (.msl 1 0 0 a7.length)))).trans (as_whole eU8 (e := 5) (k := 1) (xs := a7) (by kernel_rfl) rfl rfl)) rfl) ?_
        refine zdRun (n := 1) (j := 12) (ts := [[]]) (acc' := [[], [], [], [], [], [(0, false)], [], [], [], [(0, false)], [(1, false)], []]) rfl (by kernel_rfl) (by kernel_rfl) (by kernel_rfl) ?_
        refine bindE hS (fun z8 hz8 hS => ?_)
        refine zdOp (d := some 47) (op := (.callr 35 [(.tmp 35), (.tmp 46)])) (g := none) (j := 13) (t1 := [(0, true), (1, true), (2, true), (3, true), (0, false), (384, true), (385, true), (386, true), (387, true), (388, true), (389, true), (390, true), (391, true)]) (acc' := [[], [], [], [], [], [(0, false)], [], [], [], [(0, false)], [(1, false)], [], [(0, true), (1, true), (2, true), (3, true), (0, false), (384, true), (385, true), (386, true), (387, true), (388, true), (389, true), (390, true), (391, true)]]) (by kernel_rfl) (by kernel_rfl) rfl (by kernel_rfl) (by kernel_rfl) (ev_callrA (ids := [0, 1, 2, 3]) (by kernel_rfl) (by kernel_rfl) (by kernel_rfl) (f35_ok (d - 1) (dpt hd rfl) (GTok.mk 4 0 a4 a7) a2 a3 a4 a5 a6 a7 a8 a9 z8 hz8) (by kernel_rfl)) ?_
        refine zdEnd (by kernel_rfl) (by kernel_rfl) ?_
        refine zkBlk ?_
        refine zkSeq ?_
        exact f37_j0_ok hd a1 a2 a3 a4 a5 a6 a7 a8 a9 hQ z8.1 z8.2.1 z8.2.2.1 z8.2.2.2.1 z8.2.2.2.2.1 z8.2.2.2.2.2.1 z8.2.2.2.2.2.2.1 z8.2.2.2.2.2.2.2 hS (by kernel_rfl)
      · replace hS := cond_f hc hS
        refine zlRun (n := 1) (j := 3) rfl (by kernel_rfl) ?_
        refine zlEnd (by kernel_rfl) ?_
        refine zkSeq ?_
        refine zrCondF (by kernel_rfl) ?_
        refine zrReg ?_
        refine zlRun (n := 2) (j := 2) rfl (by kernel_rfl) ?_
        refine zlOp (d := some 6) (op := (.cvI .i64 (.tmp 5))) (g := none) (v := (.d (.int .i64 (a1.toNat : Int)))) (ups := []) (j := 3) rfl (by kernel_rfl) (by kernel_rfl) (ev_cv (kk := .u8) (a := (a1.toNat : Int)) (by kernel_rfl) (cv_i64 _)) ?_
        refine zlRun (n := 6) (j := 9) rfl (by kernel_rfl) ?_
        refine bindE hS (fun z9 hz9 hS => ?_)
        refine zlOp (d := some 13) (op := (.callr 35 [(.tmp 4), (.tmp 12)])) (g := none) (j := 10) rfl (by kernel_rfl) (by kernel_rfl) (ev_callrA (ids := [0, 1, 2, 3]) (by kernel_rfl) (by kernel_rfl) (by kernel_rfl) (f35_ok (d - 1) (dpt hd rfl) (GTok.mk 5 (a1.toNat : Int) a4 ([])) a2 a3 a4 a5 a6 a7 a8 a9 z9 hz9) (by kernel_rfl)) ?_
        refine zlEnd (by kernel_rfl) ?_
        refine zkBlk ?_
        refine zkSeq ?_
        exact f37_j0_ok hd a1 a2 a3 a4 a5 a6 a7 a8 a9 hQ z9.1 z9.2.1 z9.2.2.1 z9.2.2.2.1 z9.2.2.2.2.1 z9.2.2.2.2.2.1 z9.2.2.2.2.2.2.1 z9.2.2.2.2.2.2.2 hS (by kernel_rfl)
  · replace hS := cond_f hc hS
    refine zlRun (n := 8) (j := 10) rfl (by kernel_rfl) ?_
    refine zlEnd (by kernel_rfl) ?_
    refine zkSeq ?_
    refine zrCondF (by kernel_rfl) ?_
    refine zrSeq ?_
    refine zrReg ?_
    refine zlRun (n := 1) (j := 1) rfl (by kernel_rfl) ?_
    refine zlBool (d := 34) (op := (.cmpI .eql (.tmp 33) (.const (.int .u8 240)))) (g := none) (j := 2) (decide ((a1.toNat : Int) = 240)) rfl (by kernel_rfl) (by kernel_rfl) (by kernel_rfl) (fun hc => ?_) (fun hc => ?_)
    · replace hS := cond_t hc hS
      refine zlRun (n := 1) (j := 3) rfl (by kernel_rfl) ?_
      refine zlEnd (by kernel_rfl) ?_
      refine zkSeq ?_
      refine zrCondT (by kernel_rfl) ?_
      refine zrRegD ?_
      refine zdRun (n := 10) (j := 10) (ts := [[], [], [], [], [], [(0, false)], [], [], [], [(0, false)]]) (acc' := [[], [], [], [], [], [(0, false)], [], [], [], [(0, false)]]) rfl (by kernel_rfl) (by kernel_rfl) (by kernel_rfl) ?_
      refine zdOp (d := some 45) (op := (.cvBS (.tmp 44))) (g := none) (v := (.d (.str a7))) (ups := []) (j := 11) (t1 := [(1, false)]) (acc' := [[], [], [], [], [], [(0, false)], [], [], [], [(0, false)], [(1, false)]]) (by kernel_rfl) (by kernel_rfl) rfl (by kernel_rfl) (by kernel_rfl) (ev_cvBS (s := a7) ((congrArg (asL _) (by kernel_rfl : ρof _ (.tmp 44) = (.r (.msl 1 0 0 a7.length)))).trans (as_whole eU8 (e := 5) (k := 1) (xs := a7) (by kernel_rfl) rfl rfl)) rfl) ?_
      refine zdRun (n := 1) (j := 12) (ts := [[]]) (acc' := [[], [], [], [], [], [(0, false)], [], [], [], [(0, false)], [(1, false)], []]) rfl (by kernel_rfl) (by kernel_rfl) (by kernel_rfl) ?_
      refine bindE hS (fun z10 hz10 hS => ?_)
      refine zdOp (d := some 47) (op := (.callr 35 [(.tmp 35), (.tmp 46)])) (g := none) (j := 13) (t1 := [(0, true), (1, true), (2, true), (3, true), (0, false), (384, true), (385, true), (386, true), (387, true), (388, true), (389, true), (390, true), (391, true)]) (acc' := [[], [], [], [], [], [(0, false)], [], [], [], [(0, false)], [(1, false)], [], [(0, true), (1, true), (2, true), (3, true), (0, false), (384, true), (385, true), (386, true), (387, true), (388, true), (389, true), (390, true), (391, true)]]) (by kernel_rfl) (by kernel_rfl) rfl (by kernel_rfl) (by kernel_rfl) (ev_callrA (ids := [0, 1, 2, 3]) (by kernel_rfl) (by kernel_rfl) (by kernel_rfl) (f35_ok (d - 1) (dpt hd rfl) (GTok.mk 4 0 a4 a7) a2 a3 a4 a5 a6 a7 a8 a9 z10 hz10) (by kernel_rfl)) ?_
      refine zdEnd (by kernel_rfl) (by kernel_rfl) ?_
      refine zkBlk ?_
      refine zkSeq ?_
      exact f37_j0_ok hd a1 a2 a3 a4 a5 a6 a7 a8 a9 hQ z10.1 z10.2.1 z10.2.2.1 z10.2.2.2.1 z10.2.2.2.2.1 z10.2.2.2.2.2.1 z10.2.2.2.2.2.2.1 z10.2.2.2.2.2.2.2 hS (by kernel_rfl)
    · replace hS := cond_f hc hS
      refine zlRun (n := 1) (j := 3) rfl (by kernel_rfl) ?_
      refine zlEnd (by kernel_rfl) ?_
      refine zkSeq ?_
      refine zrCondF (by kernel_rfl) ?_
      refine zrReg ?_
      refine zlRun (n := 2) (j := 2) rfl (by kernel_rfl) ?_
      refine zlOp (d := some 6) (op := (.cvI .i64 (.tmp 5))) (g := none) (v := (.d (.int .i64 (a1.toNat : Int)))) (ups := []) (j := 3) rfl (by kernel_rfl) (by kernel_rfl) (ev_cv (kk := .u8) (a := (a1.toNat : Int)) (by kernel_rfl) (cv_i64 _)) ?_
      refine zlRun (n := 6) (j := 9) rfl (by kernel_rfl) ?_
      refine bindE hS (fun z11 hz11 hS => ?_)
      refine zlOp (d := some 13) (op := (.callr 35 [(.tmp 4), (.tmp 12)])) (g := none) (j := 10) rfl (by kernel_rfl) (by kernel_rfl) (ev_callrA (ids := [0, 1, 2, 3]) (by kernel_rfl) (by kernel_rfl) (by kernel_rfl) (f35_ok (d - 1) (dpt hd rfl) (GTok.mk 5 (a1.toNat : Int) a4 ([])) a2 a3 a4 a5 a6 a7 a8 a9 z11 hz11) (by kernel_rfl)) ?_
      refine zlEnd (by kernel_rfl) ?_
      refine zkBlk ?_
      refine zkSeq ?_
      exact f37_j0_ok hd a1 a2 a3 a4 a5 a6 a7 a8 a9 hQ z11.1 z11.2.1 z11.2.2.1 z11.2.2.2.1 z11.2.2.2.2.1 z11.2.2.2.2.2.1 z11.2.2.2.2.2.2.1 z11.2.2.2.2.2.2.2 hS (by kernel_rfl)
/- (*farwriter/iac.receiver).take -/
def f23_fin (p9 : Int) (p10 : Int) (p11 : Int) (p12 : List UInt8) (p13 : Bool) (p14 : List UInt8) (p15 : List UInt8) (p16 : List GTok) : St := ⟨(up (up (up (fun _ => .un) 1000003 .un) 1000002 .un) 1000001 .un), (up (up (up (up (hB fun _ => 0) 3 ⟨1, some (.own 50 4 (e_GTok.cells p16))⟩) 2 ⟨1, some (.own 5 1 (eU8.cells p15))⟩) 1 ⟨1, some (.own 5 1 (eU8.cells p14))⟩) 0 ⟨0, some (.box (bx_Greceiver (Greceiver.mk (GWire.mk p9 p10 p11 p12 p13) ([]) ([]) ([])) (.r (.msl 1 1 0 p14.length)) (.r (.msl 2 1 0 p15.length)) (.r (.msl 3 1 0 p16.length))))⟩)⟩
theorem f23_out (p9 : Int) (p10 : Int) (p11 : Int) (p12 : List UInt8) (p13 : Bool) (p14 : List UInt8) (p15 : List UInt8) (p16 : List GTok) : outR (f23_fin p9 p10 p11 p12 p13 p14 p15 p16) 4 c23.res = some ((.tup []), [(.box (bx_Greceiver (Greceiver.mk (GWire.mk p9 p10 p11 p12 p13) ([]) ([]) ([])) (.r (.msl 1 0 0 p14.length)) (.r (.msl 2 0 0 p15.length)) (.r (.msl 3 0 0 p16.length)))), (.own 5 1 (eU8.cells p14)), (.own 5 1 (eU8.cells p15)), (.own 50 4 (e_GTok.cells p16))]) := by
  kernel_rfl
def f23_Q (r : Int × Int × Int × (List UInt8) × Bool × (List UInt8) × (List UInt8) × (List GTok)) (e : PX) (st : St) : Prop := DoneF c23 4 ((.tup []), [(.box (bx_Greceiver (Greceiver.mk (GWire.mk r.1 r.2.1 r.2.2.1 r.2.2.2.1 r.2.2.2.2.1) ([]) ([]) ([])) (.r (.msl 1 0 0 r.2.2.2.2.2.1.length)) (.r (.msl 2 0 0 r.2.2.2.2.2.2.1.length)) (.r (.msl 3 0 0 r.2.2.2.2.2.2.2.length)))), (.own 5 1 (eU8.cells r.2.2.2.2.2.1)), (.own 5 1 (eU8.cells r.2.2.2.2.2.2.1)), (.own 50 4 (e_GTok.cells r.2.2.2.2.2.2.2))]) e st
noncomputable def f23 (a1 : UInt8) (a2 : Int) (a3 : Int) (a4 : Int) (a5 : List UInt8) (a6 : Bool) (a7 : List UInt8) (a8 : List UInt8) (a9 : List GTok) : Option (Int × Int × Int × (List UInt8) × Bool × (List UInt8) × (List UInt8) × (List GTok)) := (bif (decide (a2 = 0)) then (bif (decide ((a1.toNat : Int) = 255)) then (some (1, a3, a4, a5, a6, a7, a8, a9)) else ((app? 1 a8 ([a1] : List UInt8)).bind fun z7 => (some (a2, a3, a4, a5, a6, a7, z7, a9)))) else (bif (decide (a2 = 1)) then ((f34 a1 a2 a3 a4 a5 a6 a7 a8 a9).bind fun z8 => (some (z8.1, z8.2.1, z8.2.2.1, z8.2.2.2.1, z8.2.2.2.2.1, z8.2.2.2.2.2.1, z8.2.2.2.2.2.2.1, z8.2.2.2.2.2.2.2))) else (bif (decide (a2 = 2)) then ((f35 (GTok.mk 3 a3 (a1.toNat : Int) ([])) a2 a3 a4 a5 a6 a7 a8 a9).bind fun z9 => (some (0, 0, z9.2.2.1, z9.2.2.2.1, z9.2.2.2.2.1, z9.2.2.2.2.2.1, z9.2.2.2.2.2.2.1, z9.2.2.2.2.2.2.2))) else (bif (decide (a2 = 3)) then (some (4, a3, (a1.toNat : Int), a5, a6, a7, a8, a9)) else (bif (decide (a2 = 4)) then (bif (decide ((a1.toNat : Int) = 255)) then (some (5, a3, a4, a5, a6, a7, a8, a9)) else ((f36 a1 a2 a3 a4 a5 a6 a7 a8 a9).bind fun z10 => (some (z10.1, z10.2.1, z10.2.2.1, z10.2.2.2.1, z10.2.2.2.2.1, z10.2.2.2.2.2.1, z10.2.2.2.2.2.2.1, z10.2.2.2.2.2.2.2)))) else (bif (decide ((a1.toNat : Int) = 255)) then ((f36 a1 4 a3 a4 a5 a6 a7 a8 a9).bind fun z11 => (some (z11.1, z11.2.1, z11.2.2.1, z11.2.2.2.1, z11.2.2.2.2.1, z11.2.2.2.2.2.1, z11.2.2.2.2.2.2.1, z11.2.2.2.2.2.2.2))) else ((f37 a1 a2 a3 a4 a5 a6 a7 a8 a9).bind fun z12 => (some (0, 0, 0, [], false, [], z12.1, z12.2.1)))))))))
theorem f23_ok (d : Nat) (hd : 4 ≤ d) (a1 : UInt8) (a2 : Int) (a3 : Int) (a4 : Int) (a5 : List UInt8) (a6 : Bool) (a7 : List UInt8) (a8 : List UInt8) (a9 : List GTok) (r : Int × Int × Int × (List UInt8) × Bool × (List UInt8) × (List UInt8) × (List GTok)) (hS : f23 a1 a2 a3 a4 a5 a6 a7 a8 a9 = some r) : lev codes baseL d 23 [(.r (.ptr 0 0 0)), (.d (.int .u8 (a1.toNat : Int)))] [(.box (bx_Greceiver (Greceiver.mk (GWire.mk a2 a3 a4 a5 a6) ([]) ([]) ([])) (.r (.msl 1 0 0 a7.length)) (.r (.msl 2 0 0 a8.length)) (.r (.msl 3 0 0 a9.length)))), (.own 5 1 (eU8.cells a7)), (.own 5 1 (eU8.cells a8)), (.own 50 4 (e_GTok.cells a9))] = some ((.tup []), [(.box (bx_Greceiver (Greceiver.mk (GWire.mk r.1 r.2.1 r.2.2.1 r.2.2.2.1 r.2.2.2.2.1) ([]) ([]) ([])) (.r (.msl 1 0 0 r.2.2.2.2.2.1.length)) (.r (.msl 2 0 0 r.2.2.2.2.2.2.1.length)) (.r (.msl 3 0 0 r.2.2.2.2.2.2.2.length)))), (.own 5 1 (eU8.cells r.2.2.2.2.2.1)), (.own 5 1 (eU8.cells r.2.2.2.2.2.2.1)), (.own 50 4 (e_GTok.cells r.2.2.2.2.2.2.2))]) := by
  refine lev_go codes23 rfl rfl (Nat.le_trans (Nat.le_of_ble_eq_true rfl) hd) fun Q hQ => ?_
  unfold f23 at hS
  show ZR _ Q c23_b [] _
  replace hQ : ∀ e st', f23_Q r e st' → Q e st' := hQ
  refine zrSeq ?_
  refine zrReg ?_
  refine zlRun (n := 5) (j := 5) rfl (by kernel_rfl) ?_
  refine zlEnd (by kernel_rfl) ?_
  refine zkSeq ?_
  refine zrBlk ?_
  refine zrSeq ?_
  refine zrReg ?_
  refine zlBool (d := 22) (op := (.cmpI .eql (.tmp 8) (.const (.int .i64 0)))) (g := none) (j := 1) (decide (a2 = 0)) rfl (by kernel_rfl) (by kernel_rfl) (by kernel_rfl) (fun hc => ?_) (fun hc => ?_)
  · replace hS := cond_t hc hS
    refine zlRun (n := 1) (j := 2) rfl (by kernel_rfl) ?_
    refine zlEnd (by kernel_rfl) ?_
    refine zkSeq ?_
    refine zrCondT (by kernel_rfl) ?_
    refine zrSeq ?_
    refine zrReg ?_
    refine zlRun (n := 1) (j := 1) rfl (by kernel_rfl) ?_
    refine zlBool (d := 24) (op := (.cmpI .eql (.tmp 23) (.const (.int .u8 255)))) (g := none) (j := 2) (decide ((a1.toNat : Int) = 255)) rfl (by kernel_rfl) (by kernel_rfl) (by kernel_rfl) (fun hc => ?_) (fun hc => ?_)
    · replace hS := cond_t hc hS
      refine zlEnd (by kernel_rfl) ?_
      refine zkSeq ?_
      refine zrCondT (by kernel_rfl) ?_
      refine zrReg ?_
      refine zlRun (n := 5) (j := 5) rfl (by kernel_rfl) ?_
      refine zlEnd (by kernel_rfl) ?_
      refine zkBlk ?_
      refine zkNil ?_
      exact endQ hS hQ (fNorm (by kernel_rfl) ((congrArg (fun s => outR s 4 c23.res) (by kernel_rfl : finSt c23.fin _ = f23_fin 1 a3 a4 a5 a6 a7 a8 a9)).trans (f23_out 1 a3 a4 a5 a6 a7 a8 a9)))
    · replace hS := cond_f hc hS
      refine zlEnd (by kernel_rfl) ?_
      refine zkSeq ?_
      refine zrCondF (by kernel_rfl) ?_
      refine zrReg ?_
      refine zlRun (n := 7) (j := 7) rfl (by kernel_rfl) ?_
      refine bindE hS (fun z7 hz7 hS => ?_)
      refine zlOp (d := some 36) (op := (.app 5 1 1 (.tmp 33) (.tmp 35))) (g := none) (v := (.r (.msl 2 1 0 z7.length))) (ups := [(2, ⟨1, some (.own 5 1 (eU8.cells z7))⟩)]) (j := 8) rfl (by kernel_rfl) (by kernel_rfl) (ev_app eU8 (b := 2) (g := 0) (n := a8.length) (xs := a8) (ys := [a1]) ((congrArg (asL _) (by kernel_rfl : ρof _ (.tmp 35) = (.r (.msl 288 1 0 (([a1] : List UInt8).length))))).trans (as_whole eU8 (e := 5) (k := 1) (xs := [a1]) (by kernel_rfl) rfl rfl)) rfl (by kernel_rfl) rfl (by kernel_rfl) rfl hz7) ?_
      refine zlRun (n := 3) (j := 11) rfl (by kernel_rfl) ?_
      refine zlEnd (by kernel_rfl) ?_
      refine zkBlk ?_
      refine zkNil ?_
      exact endQ hS hQ (fNorm (by kernel_rfl) ((congrArg (fun s => outR s 4 c23.res) (by kernel_rfl : finSt c23.fin _ = f23_fin a2 a3 a4 a5 a6 a7 z7 a9)).trans (f23_out a2 a3 a4 a5 a6 a7 z7 a9)))
  · replace hS := cond_f hc hS
    refine zlRun (n := 1) (j := 2) rfl (by kernel_rfl) ?_
    refine zlEnd (by kernel_rfl) ?_
    refine zkSeq ?_
    refine zrCondF (by kernel_rfl) ?_
    refine zrSeq ?_
    refine zrReg ?_
    refine zlBool (d := 40) (op := (.cmpI .eql (.tmp 8) (.const (.int .i64 1)))) (g := none) (j := 1) (decide (a2 = 1)) rfl (by kernel_rfl) (by kernel_rfl) (by kernel_rfl) (fun hc => ?_) (fun hc => ?_)
    · replace hS := cond_t hc hS
      refine zlRun (n := 1) (j := 2) rfl (by kernel_rfl) ?_
      refine zlEnd (by kernel_rfl) ?_
      refine zkSeq ?_
      refine zrCondT (by kernel_rfl) ?_
      refine zrReg ?_
      refine zlRun (n := 2) (j := 2) rfl (by kernel_rfl) ?_
      refine bindE hS (fun z8 hz8 hS => ?_)
      refine zlOp (d := some 43) (op := (.callr 34 [(.tmp 41), (.tmp 42)])) (g := none) (j := 3) rfl (by kernel_rfl) (by kernel_rfl) (ev_callrA (ids := [0, 1, 2, 3]) (by kernel_rfl) (by kernel_rfl) (by kernel_rfl) (f34_ok (d - 1) (dpt hd rfl) a1 a2 a3 a4 a5 a6 a7 a8 a9 z8 hz8) (by kernel_rfl)) ?_
      refine zlEnd (by kernel_rfl) ?_
      refine zkBlk ?_
      refine zkNil ?_
      exact endQ hS hQ (fNorm (by kernel_rfl) ((congrArg (fun s => outR s 4 c23.res) (by kernel_rfl : finSt c23.fin _ = f23_fin z8.1 z8.2.1 z8.2.2.1 z8.2.2.2.1 z8.2.2.2.2.1 z8.2.2.2.2.2.1 z8.2.2.2.2.2.2.1 z8.2.2.2.2.2.2.2)).trans (f23_out z8.1 z8.2.1 z8.2.2.1 z8.2.2.2.1 z8.2.2.2.2.1 z8.2.2.2.2.2.1 z8.2.2.2.2.2.2.1 z8.2.2.2.2.2.2.2)))
    · replace hS := cond_f hc hS
      refine zlRun (n := 1) (j := 2) rfl (by kernel_rfl) ?_
      refine zlEnd (by kernel_rfl) ?_
      refine zkSeq ?_
      refine zrCondF (by kernel_rfl) ?_
      refine zrSeq ?_
      refine zrReg ?_
      refine zlBool (d := 45) (op := (.cmpI .eql (.tmp 8) (.const (.int .i64 2)))) (g := none) (j := 1) (decide (a2 = 2)) rfl (by kernel_rfl) (by kernel_rfl) (by kernel_rfl) (fun hc => ?_) (fun hc => ?_)
      · replace hS := cond_t hc hS
        refine zlRun (n := 1) (j := 2) rfl (by kernel_rfl) ?_
        refine zlEnd (by kernel_rfl) ?_
        refine zkSeq ?_
        refine zrCondT (by kernel_rfl) ?_
        refine zrSeq ?_
        refine zrReg ?_
        refine zlRun (n := 7) (j := 7) rfl (by kernel_rfl) ?_
        refine zlOp (d := some 53) (op := (.cvI .i64 (.tmp 52))) (g := none) (v := (.d (.int .i64 (a1.toNat : Int)))) (ups := []) (j := 8) rfl (by kernel_rfl) (by kernel_rfl) (ev_cv (kk := .u8) (a := (a1.toNat : Int)) (by kernel_rfl) (cv_i64 _)) ?_
        refine zlRun (n := 1) (j := 9) rfl (by kernel_rfl) ?_
        refine bindE hS (fun z9 hz9 hS => ?_)
        refine zlOp (d := some 55) (op := (.callr 35 [(.tmp 46), (.tmp 54)])) (g := none) (j := 10) rfl (by kernel_rfl) (by kernel_rfl) (ev_callrA (ids := [0, 1, 2, 3]) (by kernel_rfl) (by kernel_rfl) (by kernel_rfl) (f35_ok (d - 1) (dpt hd rfl) (GTok.mk 3 a3 (a1.toNat : Int) ([])) a2 a3 a4 a5 a6 a7 a8 a9 z9 hz9) (by kernel_rfl)) ?_
        refine zlEnd (by kernel_rfl) ?_
        refine zkSeq ?_
        refine zrReg ?_
        refine zlRun (n := 10) (j := 10) rfl (by kernel_rfl) ?_
        refine zlEnd (by kernel_rfl) ?_
        refine zkBlk ?_
        refine zkNil ?_
        exact endQ hS hQ (fNorm (by kernel_rfl) ((congrArg (fun s => outR s 4 c23.res) (by kernel_rfl : finSt c23.fin _ = f23_fin 0 0 z9.2.2.1 z9.2.2.2.1 z9.2.2.2.2.1 z9.2.2.2.2.2.1 z9.2.2.2.2.2.2.1 z9.2.2.2.2.2.2.2)).trans (f23_out 0 0 z9.2.2.1 z9.2.2.2.1 z9.2.2.2.2.1 z9.2.2.2.2.2.1 z9.2.2.2.2.2.2.1 z9.2.2.2.2.2.2.2)))
      · replace hS := cond_f hc hS
        refine zlRun (n := 1) (j := 2) rfl (by kernel_rfl) ?_
        refine zlEnd (by kernel_rfl) ?_
        refine zkSeq ?_
        refine zrCondF (by kernel_rfl) ?_
        refine zrSeq ?_
        refine zrReg ?_
        refine zlBool (d := 65) (op := (.cmpI .eql (.tmp 8) (.const (.int .i64 3)))) (g := none) (j := 1) (decide (a2 = 3)) rfl (by kernel_rfl) (by kernel_rfl) (by kernel_rfl) (fun hc => ?_) (fun hc => ?_)
        · replace hS := cond_t hc hS
          refine zlRun (n := 1) (j := 2) rfl (by kernel_rfl) ?_
          refine zlEnd (by kernel_rfl) ?_
          refine zkSeq ?_
          refine zrCondT (by kernel_rfl) ?_
          refine zrReg ?_
          refine zlRun (n := 3) (j := 3) rfl (by kernel_rfl) ?_
          refine zlOp (d := some 69) (op := (.cvI .i64 (.tmp 68))) (g := none) (v := (.d (.int .i64 (a1.toNat : Int)))) (ups := []) (j := 4) rfl (by kernel_rfl) (by kernel_rfl) (ev_cv (kk := .u8) (a := (a1.toNat : Int)) (by kernel_rfl) (cv_i64 _)) ?_
          refine zlRun (n := 8) (j := 12) rfl (by kernel_rfl) ?_
          refine zlEnd (by kernel_rfl) ?_
          refine zkBlk ?_
          refine zkNil ?_
          exact endQ hS hQ (fNorm (by kernel_rfl) ((congrArg (fun s => outR s 4 c23.res) (by kernel_rfl : finSt c23.fin _ = f23_fin 4 a3 (a1.toNat : Int) a5 a6 a7 a8 a9)).trans (f23_out 4 a3 (a1.toNat : Int) a5 a6 a7 a8 a9)))
        · replace hS := cond_f hc hS
          refine zlRun (n := 1) (j := 2) rfl (by kernel_rfl) ?_
          refine zlEnd (by kernel_rfl) ?_
          refine zkSeq ?_
          refine zrCondF (by kernel_rfl) ?_
          refine zrSeq ?_
          refine zrReg ?_
          refine zlBool (d := 77) (op := (.cmpI .eql (.tmp 8) (.const (.int .i64 4)))) (g := none) (j := 1) (decide (a2 = 4)) rfl (by kernel_rfl) (by kernel_rfl) (by kernel_rfl) (fun hc => ?_) (fun hc => ?_)
          · replace hS := cond_t hc hS
            refine zlRun (n := 1) (j := 2) rfl (by kernel_rfl) ?_
            refine zlEnd (by kernel_rfl) ?_
            refine zkSeq ?_
            refine zrCondT (by kernel_rfl) ?_
            refine zrSeq ?_
            refine zrReg ?_
            refine zlRun (n := 1) (j := 1) rfl (by kernel_rfl) ?_
            refine zlBool (d := 79) (op := (.cmpI .eql (.tmp 78) (.const (.int .u8 255)))) (g := none) (j := 2) (decide ((a1.toNat : Int) = 255)) rfl (by kernel_rfl) (by kernel_rfl) (by kernel_rfl) (fun hc => ?_) (fun hc => ?_)
            · replace hS := cond_t hc hS
              refine zlEnd (by kernel_rfl) ?_
              refine zkSeq ?_
              refine zrCondT (by kernel_rfl) ?_
              refine zrReg ?_
              refine zlRun (n := 5) (j := 5) rfl (by kernel_rfl) ?_
              refine zlEnd (by kernel_rfl) ?_
              refine zkBlk ?_
              refine zkNil ?_
              exact endQ hS hQ (fNorm (by kernel_rfl) ((congrArg (fun s => outR s 4 c23.res) (by kernel_rfl : finSt c23.fin _ = f23_fin 5 a3 a4 a5 a6 a7 a8 a9)).trans (f23_out 5 a3 a4 a5 a6 a7 a8 a9)))
            · replace hS := cond_f hc hS
              refine zlEnd (by kernel_rfl) ?_
              refine zkSeq ?_
              refine zrCondF (by kernel_rfl) ?_
              refine zrReg ?_
              refine zlRun (n := 2) (j := 2) rfl (by kernel_rfl) ?_
              refine bindE hS (fun z10 hz10 hS => ?_)
              refine zlOp (d := some 86) (op := (.callr 36 [(.tmp 84), (.tmp 85)])) (g := none) (j := 3) rfl (by kernel_rfl) (by kernel_rfl) (ev_callrA (ids := [0, 1, 2, 3]) (by kernel_rfl) (by kernel_rfl) (by kernel_rfl) (f36_ok (d - 1) (dpt hd rfl) a1 a2 a3 a4 a5 a6 a7 a8 a9 z10 hz10) (by kernel_rfl)) ?_
              refine zlEnd (by kernel_rfl) ?_
              refine zkBlk ?_
              refine zkNil ?_
              exact endQ hS hQ (fNorm (by kernel_rfl) ((congrArg (fun s => outR s 4 c23.res) (by kernel_rfl : finSt c23.fin _ = f23_fin z10.1 z10.2.1 z10.2.2.1 z10.2.2.2.1 z10.2.2.2.2.1 z10.2.2.2.2.2.1 z10.2.2.2.2.2.2.1 z10.2.2.2.2.2.2.2)).trans (f23_out z10.1 z10.2.1 z10.2.2.1 z10.2.2.2.1 z10.2.2.2.2.1 z10.2.2.2.2.2.1 z10.2.2.2.2.2.2.1 z10.2.2.2.2.2.2.2)))
          · replace hS := cond_f hc hS
            refine zlRun (n := 1) (j := 2) rfl (by kernel_rfl) ?_
            refine zlEnd (by kernel_rfl) ?_
            refine zkSeq ?_
            refine zrCondF (by kernel_rfl) ?_
            refine zrSeq ?_
            refine zrReg ?_
            refine zlRun (n := 1) (j := 1) rfl (by kernel_rfl) ?_
            refine zlBool (d := 10) (op := (.cmpI .eql (.tmp 9) (.const (.int .u8 255)))) (g := none) (j := 2) (decide ((a1.toNat : Int) = 255)) rfl (by kernel_rfl) (by kernel_rfl) (by kernel_rfl) (fun hc => ?_) (fun hc => ?_)
            · replace hS := cond_t hc hS
              refine zlEnd (by kernel_rfl) ?_
              refine zkSeq ?_
              refine zrCondT (by kernel_rfl) ?_
              refine zrSeq ?_
              refine zrReg ?_
              refine zlRun (n := 5) (j := 5) rfl (by kernel_rfl) ?_
              refine zlEnd (by kernel_rfl) ?_
              refine zkSeq ?_
              refine zrReg ?_
              refine zlRun (n := 2) (j := 2) rfl (by kernel_rfl) ?_
              refine bindE hS (fun z11 hz11 hS => ?_)
              refine zlOp (d := some 17) (op := (.callr 36 [(.tmp 15), (.tmp 16)])) (g := none) (j := 3) rfl (by kernel_rfl) (by kernel_rfl) (ev_callrA (ids := [0, 1, 2, 3]) (by kernel_rfl) (by kernel_rfl) (by kernel_rfl) (f36_ok (d - 1) (dpt hd rfl) a1 4 a3 a4 a5 a6 a7 a8 a9 z11 hz11) (by kernel_rfl)) ?_
              refine zlEnd (by kernel_rfl) ?_
              refine zkBlk ?_
              refine zkNil ?_
              exact endQ hS hQ (fNorm (by kernel_rfl) ((congrArg (fun s => outR s 4 c23.res) (by kernel_rfl : finSt c23.fin _ = f23_fin z11.1 z11.2.1 z11.2.2.1 z11.2.2.2.1 z11.2.2.2.2.1 z11.2.2.2.2.2.1 z11.2.2.2.2.2.2.1 z11.2.2.2.2.2.2.2)).trans (f23_out z11.1 z11.2.1 z11.2.2.1 z11.2.2.2.1 z11.2.2.2.2.1 z11.2.2.2.2.2.1 z11.2.2.2.2.2.2.1 z11.2.2.2.2.2.2.2)))
            · replace hS := cond_f hc hS
              refine zlEnd (by kernel_rfl) ?_
              refine zkSeq ?_
              refine zrCondF (by kernel_rfl) ?_
              refine zrReg ?_
              refine zlRun (n := 2) (j := 2) rfl (by kernel_rfl) ?_
              refine bindE hS (fun z12 hz12 hS => ?_)
              refine zlOp (d := some 20) (op := (.callr 37 [(.tmp 18), (.tmp 19)])) (g := none) (j := 3) rfl (by kernel_rfl) (by kernel_rfl) (ev_callrA (ids := [0, 1, 2, 3]) (by kernel_rfl) (by kernel_rfl) (by kernel_rfl) (f37_ok (d - 1) (dpt hd rfl) a1 a2 a3 a4 a5 a6 a7 a8 a9 z12 hz12) (by kernel_rfl)) ?_
              refine zlEnd (by kernel_rfl) ?_
              refine zkBlk ?_
              refine zkNil ?_
              exact endQ hS hQ (fNorm (by kernel_rfl) ((congrArg (fun s => outR s 4 c23.res) (by kernel_rfl : finSt c23.fin _ = f23_fin 0 0 0 [] false [] z12.1 z12.2.1)).trans (f23_out 0 0 0 [] false [] z12.1 z12.2.1)))
/- farwriter/iac.Feed -/
def f12_fin (p54 : GWire) (p55 : List GTok) (p56 : Int) : St := ⟨(up (up (up (fun _ => .un) 6 (.d (.int .i64 p56))) 5 (.r (.msl 451 0 0 p55.length))) 4 (.r (.ptr 40 0 0))), (up (up (hB fun _ => 0) 451 ⟨0, some (.own 50 4 (e_GTok.cells p55))⟩) 40 ⟨0, some (.box ((.d (.int .i64 p54.Mode)) :: ((.d (.int .i64 p54.Cmd)) :: ((.d (.int .i64 p54.Opt)) :: ((.d (.str p54.Buf)) :: ((.d (.bool p54.Over)) :: []))))))⟩)⟩
theorem f12_out (p54 : GWire) (p55 : List GTok) (p56 : Int) : outR (f12_fin p54 p55 p56) 0 c12.res = some ((.tup [(.agg ((.d (.int .i64 p54.Mode)) :: ((.d (.int .i64 p54.Cmd)) :: ((.d (.int .i64 p54.Opt)) :: ((.d (.str p54.Buf)) :: ((.d (.bool p54.Over)) :: [])))))), (.r (.own 0 50 4 p55.length (e_GTok.cells p55))), (.d (.int .i64 p56))]), []) := by
  exact out_of (ids := []) (ids' := [451]) (l := [(.agg ((.d (.int .i64 p54.Mode)) :: ((.d (.int .i64 p54.Cmd)) :: ((.d (.int .i64 p54.Opt)) :: ((.d (.str p54.Buf)) :: ((.d (.bool p54.Over)) :: [])))))), (.r (.msl 451 0 0 p55.length)), (.d (.int .i64 p56))]) (by kernel_rfl) (by kernel_rfl) (o_tup (o_cons rfl (o_cons (o_own e_GTok (e := 50) (k := 4) (xs := p55) (by kernel_rfl) rfl rfl rfl rfl) (o_cons rfl o_nil))))
def f12_Q (r : GWire × (List GTok) × Int) (e : PX) (st : St) : Prop := DoneF c12 0 ((.tup [(.agg ((.d (.int .i64 r.1.Mode)) :: ((.d (.int .i64 r.1.Cmd)) :: ((.d (.int .i64 r.1.Opt)) :: ((.d (.str r.1.Buf)) :: ((.d (.bool r.1.Over)) :: [])))))), (.r (.own 0 50 4 r.2.1.length (e_GTok.cells r.2.1))), (.d (.int .i64 r.2.2))]), []) e st
def f12_j1_J (a1 : GWire) (a2 : List UInt8) (p59 : Int) (p60 : Int) (p61 : Int) (p62 : List UInt8) (p63 : Bool) (p64 : List UInt8) (p65 : List UInt8) (p66 : List GTok) : St := ⟨(up (up (fun _ => .un) 8 (.r (.ptr 176 0 0))) 4 (.r (.ptr 40 0 0))), (up (up (up (up (up (hB fun _ => 0) 450 ⟨0, some (.own 50 4 (e_GTok.cells p66))⟩) 449 ⟨0, some (.own 5 1 (eU8.cells p65))⟩) 160 ⟨0, some (.own 5 1 (eU8.cells p64))⟩) 176 ⟨0, some (.box (bx_Greceiver (Greceiver.mk (GWire.mk p59 p60 p61 p62 p63) ([]) ([]) ([])) (.r (.msl 160 0 0 p64.length)) (.r (.msl 449 0 0 p65.length)) (.r (.msl 450 0 0 p66.length))))⟩) 40 ⟨0, some (.box ((.d (.int .i64 0)) :: ((.d (.int .i64 0)) :: ((.d (.int .i64 0)) :: ((.d (.str ([]))) :: ((.d (.bool false)) :: []))))))⟩)⟩
noncomputable def f12_j1 (a1 : GWire) (a2 : List UInt8) (p59 : Int) (p60 : Int) (p61 : Int) (p62 : List UInt8) (p63 : Bool) (p64 : List UInt8) (p65 : List UInt8) (p66 : List GTok) : Option (GWire × (List GTok) × Int) := ((f24 p59 p60 p61 p62 p63 p64 p65 p66).bind fun z12 => (some ((GWire.mk z12.1 z12.2.1 z12.2.2.1 z12.2.2.2.2.2.1 z12.2.2.2.2.1), z12.2.2.2.2.2.2.2, 0)))
theorem f12_j1_ok {d : Nat} (hd : 5 ≤ d) (a1 : GWire) (a2 : List UInt8) {r : GWire × (List GTok) × Int} {Q : PX → St → Prop} (hQ : ∀ e st', f12_Q r e st' → Q e st') (p59 : Int) (p60 : Int) (p61 : Int) (p62 : List UInt8) (p63 : Bool) (p64 : List UInt8) (p65 : List UInt8) (p66 : List GTok) (hS : f12_j1 a1 a2 p59 p60 p61 p62 p63 p64 p65 p66 = some r) {st : St} (he : keepSt [4, 8] [(40, .id 40), (176, .id 176), (160, .id 160), (449, .id 449), (450, .id 450)] [] st = f12_j1_J a1 a2 p59 p60 p61 p62 p63 p64 p65 p66) : ZR (lev codes baseL (d - 1)) Q c12_1 [] st := by
  refine zrKeep he ?_
  unfold f12_j1 at hS
  refine zrSeq ?_
  refine zrReg ?_
  refine zlRun (n := 1) (j := 1) rfl (by kernel_rfl) ?_
  refine bindE hS (fun z12 hz12 hS => ?_)
  refine zlOp (d := some 34) (op := (.callr 24 [(.tmp 33)])) (g := none) (j := 2) rfl (by kernel_rfl) (by kernel_rfl) (ev_callrA (ids := [176, 160, 449, 450]) (by kernel_rfl) (by kernel_rfl) (by kernel_rfl) (f24_ok (d - 1) (dpt hd rfl) p59 p60 p61 p62 p63 p64 p65 p66 z12 hz12) (by kernel_rfl)) ?_
  refine zlEnd (by kernel_rfl) ?_
  refine zkSeq ?_
  refine zrSeq ?_
  refine zrReg ?_
  refine zlRun (n := 5) (j := 5) rfl (by kernel_rfl) ?_
  refine zlOp (d := some 40) (op := (.cvBS (.tmp 39))) (g := none) (v := (.d (.str z12.2.2.2.2.2.1))) (ups := []) (j := 6) rfl (by kernel_rfl) (by kernel_rfl) (ev_cvBS (s := z12.2.2.2.2.2.1) ((congrArg (asL _) (by kernel_rfl : ρof _ (.tmp 39) = (.r (.msl 160 1 0 z12.2.2.2.2.2.1.length)))).trans (as_whole eU8 (e := 5) (k := 1) (xs := z12.2.2.2.2.2.1) (by kernel_rfl) rfl rfl)) rfl) ?_
  refine zlRun (n := 4) (j := 10) rfl (by kernel_rfl) ?_
  refine zlEnd (by kernel_rfl) ?_
  refine zkSeq ?_
  refine zrSeq ?_
  refine zrRegD ?_
  refine zdRun (n := 11) (j := 11) (ts := [[], [], [], [(176, false)], [], [], [], [(176, false)], [(40, true)], [], []]) (acc' := [[], [], [], [(176, false)], [], [], [], [(176, false)], [(40, true)], [], []]) rfl (by kernel_rfl) (by kernel_rfl) (by kernel_rfl) ?_
  refine zdEnd (by kernel_rfl) (by kernel_rfl) ?_
  refine zkSeq ?_
  refine zrRet ?_
  refine zkNil ?_
  exact endQ hS hQ (fRet (by kernel_rfl) ((congrArg (fun s => outR s 0 c12.res) (by kernel_rfl : finSt c12.fin _ = f12_fin (GWire.mk z12.1 z12.2.1 z12.2.2.1 z12.2.2.2.2.2.1 z12.2.2.2.2.1) z12.2.2.2.2.2.2.2 0)).trans (f12_out (GWire.mk z12.1 z12.2.1 z12.2.2.1 z12.2.2.2.2.2.1 z12.2.2.2.2.1) z12.2.2.2.2.2.2.2 0)))
def f12_l2_J (a1 : GWire) (a2 : List UInt8) (x : Int × Int × Int × (List UInt8) × Bool × (List UInt8) × (List UInt8) × (List GTok) × Int) : St := ⟨(up (up (up (up (up (fun _ => .un) 24 (.d (.int .i64 x.2.2.2.2.2.2.2.2))) 23 (.d (.int .i64 (a2.length : Int)))) 8 (.r (.ptr 176 0 0))) 4 (.r (.ptr 40 0 0))) 1 (.d (.str a2))), (up (up (up (up (up (hB fun _ => 0) 450 ⟨0, some (.own 50 4 (e_GTok.cells x.2.2.2.2.2.2.2.1))⟩) 449 ⟨0, some (.own 5 1 (eU8.cells x.2.2.2.2.2.2.1))⟩) 160 ⟨0, some (.own 5 1 (eU8.cells x.2.2.2.2.2.1))⟩) 176 ⟨0, some (.box (bx_Greceiver (Greceiver.mk (GWire.mk x.1 x.2.1 x.2.2.1 x.2.2.2.1 x.2.2.2.2.1) ([]) ([]) ([])) (.r (.msl 160 0 0 x.2.2.2.2.2.1.length)) (.r (.msl 449 0 0 x.2.2.2.2.2.2.1.length)) (.r (.msl 450 0 0 x.2.2.2.2.2.2.2.1.length))))⟩) 40 ⟨0, some (.box ((.d (.int .i64 0)) :: ((.d (.int .i64 0)) :: ((.d (.int .i64 0)) :: ((.d (.str ([]))) :: ((.d (.bool false)) :: []))))))⟩)⟩
def f12_l2_H (a1 : GWire) (a2 : List UInt8) (x : Int × Int × Int × (List UInt8) × Bool × (List UInt8) × (List UInt8) × (List GTok) × Int) (st : St) : Prop := keepSt [1, 4, 8, 23, 24] [(40, .id 40), (176, .id 176), (160, .id 160), (449, (.cell 176 6)), (450, (.cell 176 7))] [.cell 176 6 449 5 1, .cell 176 7 450 50 4] st = f12_l2_J a1 a2 x
def f12_l2_e0_J (a1 : GWire) (a2 : List UInt8) (p46 : Int) (p47 : Int) (p48 : Int) (p49 : List UInt8) (p50 : Bool) (p51 : List UInt8) (p52 : List UInt8) (p53 : List GTok) : St := ⟨(up (up (fun _ => .un) 8 (.r (.ptr 176 0 0))) 4 (.r (.ptr 40 0 0))), (up (up (up (up (up (hB fun _ => 0) 450 ⟨0, some (.own 50 4 (e_GTok.cells p53))⟩) 449 ⟨0, some (.own 5 1 (eU8.cells p52))⟩) 160 ⟨0, some (.own 5 1 (eU8.cells p51))⟩) 176 ⟨0, some (.box (bx_Greceiver (Greceiver.mk (GWire.mk p46 p47 p48 p49 p50) ([]) ([]) ([])) (.r (.msl 160 0 0 p51.length)) (.r (.msl 449 0 0 p52.length)) (.r (.msl 450 0 0 p53.length))))⟩) 40 ⟨0, some (.box ((.d (.int .i64 0)) :: ((.d (.int .i64 0)) :: ((.d (.int .i64 0)) :: ((.d (.str ([]))) :: ((.d (.bool false)) :: []))))))⟩)⟩
def f12_l2_X (a1 : GWire) (a2 : List UInt8) (z : (Int × Int × Int × (List UInt8) × Bool × (List UInt8) × (List UInt8) × (List GTok))) (e : PX) (st : St) : Prop := e = .exit 0 ∧ st = f12_l2_e0_J a1 a2 z.1 z.2.1 z.2.2.1 z.2.2.2.1 z.2.2.2.2.1 z.2.2.2.2.2.1 z.2.2.2.2.2.2.1 z.2.2.2.2.2.2.2
def f12_l2_j4_J (a1 : GWire) (a2 : List UInt8) (p87 : Int) (p88 : Int) (p89 : Int) (p90 : List UInt8) (p91 : Bool) (p92 : List UInt8) (p93 : List UInt8) (p94 : List GTok) (p95 : Int) : St := ⟨(up (up (up (up (up (fun _ => .un) 24 (.d (.int .i64 p95))) 23 (.d (.int .i64 (a2.length : Int)))) 8 (.r (.ptr 176 0 0))) 4 (.r (.ptr 40 0 0))) 1 (.d (.str a2))), (up (up (up (up (up (hB fun _ => 0) 450 ⟨0, some (.own 50 4 (e_GTok.cells p94))⟩) 449 ⟨0, some (.own 5 1 (eU8.cells p93))⟩) 160 ⟨0, some (.own 5 1 (eU8.cells p92))⟩) 176 ⟨0, some (.box (bx_Greceiver (Greceiver.mk (GWire.mk p87 p88 p89 p90 p91) ([]) ([]) ([])) (.r (.msl 160 0 0 p92.length)) (.r (.msl 449 0 0 p93.length)) (.r (.msl 450 0 0 p94.length))))⟩) 40 ⟨0, some (.box ((.d (.int .i64 0)) :: ((.d (.int .i64 0)) :: ((.d (.int .i64 0)) :: ((.d (.str ([]))) :: ((.d (.bool false)) :: []))))))⟩)⟩
noncomputable def f12_l2_j4 (a1 : GWire) (a2 : List UInt8) (p87 : Int) (p88 : Int) (p89 : Int) (p90 : List UInt8) (p91 : Bool) (p92 : List UInt8) (p93 : List UInt8) (p94 : List GTok) (p95 : Int) : Option ((Int × Int × Int × (List UInt8) × Bool × (List UInt8) × (List UInt8) × (List GTok) × Int) ⊕ ((Int × Int × Int × (List UInt8) × Bool × (List UInt8) × (List UInt8) × (List GTok)))) := ((idx a2 p95).bind fun z13 => ((f23 z13 p87 p88 p89 p90 p91 p92 p93 p94).bind fun z14 => (some (.inl (z14.1, z14.2.1, z14.2.2.1, z14.2.2.2.1, z14.2.2.2.2.1, z14.2.2.2.2.2.1, z14.2.2.2.2.2.2.1, z14.2.2.2.2.2.2.2, (IntKind.i64.wrap (p95 + 1)))))))
theorem f12_l2_j4_ok {d : Nat} (hd : 5 ≤ d) (a1 : GWire) (a2 : List UInt8) {r : (Int × Int × Int × (List UInt8) × Bool × (List UInt8) × (List UInt8) × (List GTok) × Int) ⊕ ((Int × Int × Int × (List UInt8) × Bool × (List UInt8) × (List UInt8) × (List GTok)))} {Q : PX → St → Prop} (hQ : ∀ e st', finL (f12_l2_H a1 a2) (f12_l2_X a1 a2) r e st' → Q e st') (p87 : Int) (p88 : Int) (p89 : Int) (p90 : List UInt8) (p91 : Bool) (p92 : List UInt8) (p93 : List UInt8) (p94 : List GTok) (p95 : Int) (hS : f12_l2_j4 a1 a2 p87 p88 p89 p90 p91 p92 p93 p94 p95 = some r) {st : St} (he : keepSt [1, 4, 8, 23, 24] [(40, .id 40), (176, .id 176), (160, .id 160), (449, .id 449), (450, .id 450)] [] st = f12_l2_j4_J a1 a2 p87 p88 p89 p90 p91 p92 p93 p94 p95) : ZR (lev codes baseL (d - 1)) Q c12_2 [] st := by
  refine zrKeep he ?_
  unfold f12_l2_j4 at hS
  refine zrSeq ?_
  refine zrBlk ?_
  refine zrSeq ?_
  refine zrReg ?_
  refine zlRun (n := 2) (j := 2) rfl (by kernel_rfl) ?_
  refine zlEnd (by kernel_rfl) ?_
  refine zkSeq ?_
  refine zrReg ?_
  refine zlRun (n := 3) (j := 3) rfl (by kernel_rfl) ?_
  refine bindE hS (fun z13 hz13 hS => ?_)
  refine zlOp (d := some 30) (op := (.ixStr (.tmp 28) (.tmp 29))) (g := none) (v := (.d (.int .u8 (z13.toNat : Int)))) (ups := []) (j := 4) rfl (by kernel_rfl) (by kernel_rfl) (ev_ixStr (kk := .i64) (s := a2) (j := p95) (by kernel_rfl) (by kernel_rfl) hz13) ?_
  refine bindE hS (fun z14 hz14 hS => ?_)
  refine zlOp (d := some 31) (op := (.callr 23 [(.tmp 27), (.tmp 30)])) (g := none) (j := 5) rfl (by kernel_rfl) (by kernel_rfl) (ev_callrA (ids := [176, 160, 449, 450]) (by kernel_rfl) (by kernel_rfl) (by kernel_rfl) (f23_ok (d - 1) (dpt hd rfl) z13 p87 p88 p89 p90 p91 p92 p93 p94 z14 hz14) (by kernel_rfl)) ?_
  refine zlEnd (by kernel_rfl) ?_
  refine zkBlk ?_
  refine zkSeq ?_
  refine zrReg ?_
  refine zlRun (n := 2) (j := 2) rfl (by kernel_rfl) ?_
  refine zlEnd (by kernel_rfl) ?_
  refine zkNil ?_
  exact endQ hS hQ (finL_n (by show keepSt _ _ _ _ = _; kernel_rfl))
def f12_l2_j3_J (a1 : GWire) (a2 : List UInt8) (p77 : Int) (p78 : Int) (p79 : Int) (p80 : List UInt8) (p81 : Bool) (p82 : List UInt8) (p83 : List UInt8) (p84 : List GTok) (p85 : Int) (p86 : Bool) : St := ⟨(up (up (up (up (up (up (fun _ => .un) 25 (.d (.bool p86))) 24 (.d (.int .i64 p85))) 23 (.d (.int .i64 (a2.length : Int)))) 8 (.r (.ptr 176 0 0))) 4 (.r (.ptr 40 0 0))) 1 (.d (.str a2))), (up (up (up (up (up (hB fun _ => 0) 450 ⟨0, some (.own 50 4 (e_GTok.cells p84))⟩) 449 ⟨0, some (.own 5 1 (eU8.cells p83))⟩) 160 ⟨0, some (.own 5 1 (eU8.cells p82))⟩) 176 ⟨0, some (.box (bx_Greceiver (Greceiver.mk (GWire.mk p77 p78 p79 p80 p81) ([]) ([]) ([])) (.r (.msl 160 0 0 p82.length)) (.r (.msl 449 0 0 p83.length)) (.r (.msl 450 0 0 p84.length))))⟩) 40 ⟨0, some (.box ((.d (.int .i64 0)) :: ((.d (.int .i64 0)) :: ((.d (.int .i64 0)) :: ((.d (.str ([]))) :: ((.d (.bool false)) :: []))))))⟩)⟩
noncomputable def f12_l2_j3 (a1 : GWire) (a2 : List UInt8) (p77 : Int) (p78 : Int) (p79 : Int) (p80 : List UInt8) (p81 : Bool) (p82 : List UInt8) (p83 : List UInt8) (p84 : List GTok) (p85 : Int) (p86 : Bool) : Option ((Int × Int × Int × (List UInt8) × Bool × (List UInt8) × (List UInt8) × (List GTok) × Int) ⊕ ((Int × Int × Int × (List UInt8) × Bool × (List UInt8) × (List UInt8) × (List GTok)))) := (bif p86 then (f12_l2_j4 a1 a2 p77 p78 p79 p80 p81 p82 p83 p84 p85) else (some (.inr (p77, p78, p79, p80, p81, p82, p83, p84))))
theorem f12_l2_j3_ok {d : Nat} (hd : 5 ≤ d) (a1 : GWire) (a2 : List UInt8) {r : (Int × Int × Int × (List UInt8) × Bool × (List UInt8) × (List UInt8) × (List GTok) × Int) ⊕ ((Int × Int × Int × (List UInt8) × Bool × (List UInt8) × (List UInt8) × (List GTok)))} {Q : PX → St → Prop} (hQ : ∀ e st', finL (f12_l2_H a1 a2) (f12_l2_X a1 a2) r e st' → Q e st') (p77 : Int) (p78 : Int) (p79 : Int) (p80 : List UInt8) (p81 : Bool) (p82 : List UInt8) (p83 : List UInt8) (p84 : List GTok) (p85 : Int) (p86 : Bool) (hS : f12_l2_j3 a1 a2 p77 p78 p79 p80 p81 p82 p83 p84 p85 p86 = some r) {st : St} (he : keepSt [1, 4, 8, 23, 24, 25] [(40, .id 40), (176, .id 176), (160, .id 160), (449, .id 449), (450, .id 450)] [] st = f12_l2_j3_J a1 a2 p77 p78 p79 p80 p81 p82 p83 p84 p85 p86) : ZR (lev codes baseL (d - 1)) Q c12_3 [] st := by
  refine zrKeep he ?_
  unfold f12_l2_j3 at hS
  refine zrSeq ?_
  refine zrSplit 25 p86 (by kernel_rfl) (fun hc => ?_) (fun hc => ?_)
  · replace hS := cond_t hc hS
    refine zrCondT (by kernel_rfl) ?_
    refine zrSkip ?_
    refine zkSeq ?_
    exact f12_l2_j4_ok hd a1 a2 hQ p77 p78 p79 p80 p81 p82 p83 p84 p85 hS (by kernel_rfl)
  · replace hS := cond_f hc hS
    refine zrCondF (by kernel_rfl) ?_
    refine zrKeep (J := f12_l2_e0_J a1 a2 p77 p78 p79 p80 p81 p82 p83 p84) (by kernel_rfl) ?_
    refine zrExit ?_
    refine zkSeqX ?_
    refine zkNil ?_
    exact endQ hS hQ (finL_x (by intro h; cases h) (by show _ = _ ∧ _ = _; exact ⟨rfl, rfl⟩))
noncomputable def f12_l2 (a1 : GWire) (a2 : List UInt8) (x : Int × Int × Int × (List UInt8) × Bool × (List UInt8) × (List UInt8) × (List GTok) × Int) : Option ((Int × Int × Int × (List UInt8) × Bool × (List UInt8) × (List UInt8) × (List GTok) × Int) ⊕ ((Int × Int × Int × (List UInt8) × Bool × (List UInt8) × (List UInt8) × (List GTok)))) := (bif (decide (x.2.2.2.2.2.2.2.2 < (a2.length : Int))) then (f12_l2_j3 a1 a2 x.1 x.2.1 x.2.2.1 x.2.2.2.1 x.2.2.2.2.1 x.2.2.2.2.2.1 x.2.2.2.2.2.2.1 x.2.2.2.2.2.2.2.1 x.2.2.2.2.2.2.2.2 true) else (f12_l2_j3 a1 a2 x.1 x.2.1 x.2.2.1 x.2.2.2.1 x.2.2.2.2.1 x.2.2.2.2.2.1 x.2.2.2.2.2.2.1 x.2.2.2.2.2.2.2.1 x.2.2.2.2.2.2.2.2 false))
theorem f12_l2_ok {d : Nat} (hd : 5 ≤ d) (a1 : GWire) (a2 : List UInt8) {r : (Int × Int × Int × (List UInt8) × Bool × (List UInt8) × (List UInt8) × (List GTok) × Int) ⊕ ((Int × Int × Int × (List UInt8) × Bool × (List UInt8) × (List UInt8) × (List GTok)))} {Q : PX → St → Prop} (hQ : ∀ e st', finL (f12_l2_H a1 a2) (f12_l2_X a1 a2) r e st' → Q e st') {x : Int × Int × Int × (List UInt8) × Bool × (List UInt8) × (List UInt8) × (List GTok) × Int} (hS : f12_l2 a1 a2 x = some r) {st : St} (he : f12_l2_H a1 a2 x st) : ZR (lev codes baseL (d - 1)) Q c12_4 [] st := by
  refine zrKeep he ?_
  unfold f12_l2 at hS
  refine zrSeq ?_
  refine zrReg ?_
  refine zlBool (d := 25) (op := (.cmpI .lss (.tmp 24) (.tmp 23))) (g := none) (j := 1) (decide (x.2.2.2.2.2.2.2.2 < (a2.length : Int))) rfl (by kernel_rfl) (by kernel_rfl) (by kernel_rfl) (fun hc => ?_) (fun hc => ?_)
  · replace hS := cond_t hc hS
    refine zlEnd (by kernel_rfl) ?_
    refine zkSeq ?_
    exact f12_l2_j3_ok hd a1 a2 hQ x.1 x.2.1 x.2.2.1 x.2.2.2.1 x.2.2.2.2.1 x.2.2.2.2.2.1 x.2.2.2.2.2.2.1 x.2.2.2.2.2.2.2.1 x.2.2.2.2.2.2.2.2 true hS (by kernel_rfl)
  · replace hS := cond_f hc hS
    refine zlEnd (by kernel_rfl) ?_
    refine zkSeq ?_
    exact f12_l2_j3_ok hd a1 a2 hQ x.1 x.2.1 x.2.2.1 x.2.2.2.1 x.2.2.2.2.1 x.2.2.2.2.2.1 x.2.2.2.2.2.2.1 x.2.2.2.2.2.2.2.1 x.2.2.2.2.2.2.2.2 false hS (by kernel_rfl)
def f12_j0_J (a1 : GWire) (a2 : List UInt8) : St := ⟨(up (up (up (fun _ => .un) 4 (.r (.ptr 40 0 0))) 2 (.r (.ptr 24 0 0))) 1 (.d (.str a2))), (up (up (hB fun _ => 0) 40 ⟨0, some (.box ((.d (.int .i64 0)) :: ((.d (.int .i64 0)) :: ((.d (.int .i64 0)) :: ((.d (.str ([]))) :: ((.d (.bool false)) :: []))))))⟩) 24 ⟨0, some (.box ((.d (.int .i64 a1.Mode)) :: ((.d (.int .i64 a1.Cmd)) :: ((.d (.int .i64 a1.Opt)) :: ((.d (.str a1.Buf)) :: ((.d (.bool a1.Over)) :: []))))))⟩)⟩
noncomputable def f12_j0 (a1 : GWire) (a2 : List UInt8) : Option (GWire × (List GTok) × Int) := ((chk (decide (a1.Buf.length ≤ 140737488355328))).bind fun z11 => ((loopO (f12_l2 a1 a2) (a1.Mode, a1.Cmd, a1.Opt, a1.Buf, a1.Over, a1.Buf, [], [], 0)).bind fun z15 => (f12_j1 a1 a2 z15.1 z15.2.1 z15.2.2.1 z15.2.2.2.1 z15.2.2.2.2.1 z15.2.2.2.2.2.1 z15.2.2.2.2.2.2.1 z15.2.2.2.2.2.2.2)))
theorem f12_j0_ok {d : Nat} (hd : 5 ≤ d) (a1 : GWire) (a2 : List UInt8) {r : GWire × (List GTok) × Int} {Q : PX → St → Prop} (hQ : ∀ e st', f12_Q r e st' → Q e st')  (hS : f12_j0 a1 a2 = some r) {st : St} (he : keepSt [1, 2, 4] [(24, .id 24), (40, .id 40)] [] st = f12_j0_J a1 a2) : ZR (lev codes baseL (d - 1)) Q c12_5 [] st := by
  refine zrKeep he ?_
  unfold f12_j0 at hS
  refine zrSeq ?_
  refine zrReg ?_
  refine zlRun (n := 3) (j := 3) rfl (by kernel_rfl) ?_
  refine bindE hS (fun z11 hz11 hS => ?_)
  refine zlOp (d := some 19) (op := (.cvSO 5 (.tmp 18))) (g := none) (v := (.r (.msl 160 1 0 a1.Buf.length))) (ups := [(160, ⟨1, some (.own 5 1 (eU8.cells a1.Buf))⟩)]) (j := 4) rfl (by kernel_rfl) (by kernel_rfl) (ev_cvSO (s := a1.Buf) (by kernel_rfl) hz11) ?_
  refine zlRun (n := 3) (j := 7) rfl (by kernel_rfl) ?_
  refine zlEnd (by kernel_rfl) ?_
  refine zkSeq ?_
  refine zrSeq ?_
  refine zrSeq ?_
  refine zrReg ?_
  refine zlRun (n := 3) (j := 3) rfl (by kernel_rfl) ?_
  refine zlEnd (by kernel_rfl) ?_
  refine zkSeq ?_
  refine zrBlk ?_
  refine bindE hS (fun z15 hz15 hS => ?_)
  refine zrLoop (f12_l2_H a1 a2) (f12_l2_X a1 a2) (fun x st r Q h0 hS hQ => f12_l2_ok hd a1 a2 hQ hS h0) (x := (a1.Mode, a1.Cmd, a1.Opt, a1.Buf, a1.Over, a1.Buf, [], [], 0)) (z := z15) (by show keepSt _ _ _ _ = _; kernel_rfl) hz15 ?_
  intro e st' _ hX
  obtain ⟨rfl, rfl⟩ : _ ∧ _ := hX
  refine zkBlkX ?_
  refine zkSeq ?_
  exact f12_j1_ok hd a1 a2 hQ z15.1 z15.2.1 z15.2.2.1 z15.2.2.2.1 z15.2.2.2.2.1 z15.2.2.2.2.2.1 z15.2.2.2.2.2.2.1 z15.2.2.2.2.2.2.2 hS (by kernel_rfl)
noncomputable def f12 (a1 : GWire) (a2 : List UInt8) : Option (GWire × (List GTok) × Int) := ((f22 a1).bind fun z16 => (bif (!decide (z16 = 0)) then (some (a1, [], z16)) else (f12_j0 a1 a2 )))
theorem f12_ok (d : Nat) (hd : 5 ≤ d) (a1 : GWire) (a2 : List UInt8) (r : GWire × (List GTok) × Int) (hS : f12 a1 a2 = some r) : lev codes baseL d 12 [(.agg ((.d (.int .i64 a1.Mode)) :: ((.d (.int .i64 a1.Cmd)) :: ((.d (.int .i64 a1.Opt)) :: ((.d (.str a1.Buf)) :: ((.d (.bool a1.Over)) :: [])))))), (.d (.str a2))] [] = some ((.tup [(.agg ((.d (.int .i64 r.1.Mode)) :: ((.d (.int .i64 r.1.Cmd)) :: ((.d (.int .i64 r.1.Opt)) :: ((.d (.str r.1.Buf)) :: ((.d (.bool r.1.Over)) :: [])))))), (.r (.own 0 50 4 r.2.1.length (e_GTok.cells r.2.1))), (.d (.int .i64 r.2.2))]), []) := by
  refine lev_go codes12 rfl rfl (Nat.le_trans (Nat.le_of_ble_eq_true rfl) hd) fun Q hQ => ?_
  unfold f12 at hS
  show ZR _ Q c12_b [] _
  replace hQ : ∀ e st', f12_Q r e st' → Q e st' := hQ
  refine zrSeq ?_
  refine zrReg ?_
  refine zlRun (n := 4) (j := 4) rfl (by kernel_rfl) ?_
  refine zlEnd (by kernel_rfl) ?_
  refine zkSeq ?_
  refine zrSeq ?_
  refine zrSeq ?_
  refine zrReg ?_
  refine zlRun (n := 1) (j := 1) rfl (by kernel_rfl) ?_
  refine bindE hS (fun z16 hz16 hS => ?_)
  refine zlOp (d := some 11) (op := (.call 22 [(.tmp 10)])) (g := none) (j := 2) rfl (by kernel_rfl) (by kernel_rfl) (ev_callA (by kernel_rfl) (f22_ok (d - 1) (dpt hd rfl) a1 z16 hz16) (by kernel_rfl) (by kernel_rfl)) ?_
  refine zlRun (n := 1) (j := 3) rfl (by kernel_rfl) ?_
  refine zlEnd (by kernel_rfl) ?_
  refine zkSeq ?_
  refine zrSeq ?_
  refine zrReg ?_
  refine zlRun (n := 1) (j := 1) rfl (by kernel_rfl) ?_
  refine zlBool (d := 13) (op := (.cmpI .neq (.tmp 12) (.const (.int .i64 0)))) (g := none) (j := 2) (!decide (z16 = 0)) rfl (by kernel_rfl) (by kernel_rfl) (by kernel_rfl) (fun hc => ?_) (fun hc => ?_)
  · replace hS := cond_t hc hS
    refine zlEnd (by kernel_rfl) ?_
    refine zkSeq ?_
    refine zrCondT (by kernel_rfl) ?_
    refine zrSeq ?_
    refine zrReg ?_
    refine zlRun (n := 5) (j := 5) rfl (by kernel_rfl) ?_
    refine zlEnd (by kernel_rfl) ?_
    refine zkSeq ?_
    refine zrRet ?_
    refine zkSeqR ?_
    refine zkNil ?_
    exact endQ hS hQ (fRet (by kernel_rfl) ((congrArg (fun s => outR s 0 c12.res) (by kernel_rfl : finSt c12.fin _ = f12_fin a1 [] z16)).trans (f12_out a1 [] z16)))
  · replace hS := cond_f hc hS
    refine zlEnd (by kernel_rfl) ?_
    refine zkSeq ?_
    refine zrCondF (by kernel_rfl) ?_
    refine zrSkip ?_
    refine zkSeq ?_
    exact f12_j0_ok hd a1 a2 hQ  hS (by kernel_rfl)
/- slices.Equal[[]farwriter/api.Tok,farwriter/api.Tok] -/
def f14_fin (p14 : Bool) : St := ⟨(up (fun _ => .un) 4 (.d (.bool p14))), (hB fun _ => 0)⟩
theorem f14_out (p14 : Bool) : outR (f14_fin p14) 0 c14.res = some ((.d (.bool p14)), []) := by
  kernel_rfl
def f14_Q (r : Bool) (e : PX) (st : St) : Prop := DoneF c14 0 ((.d (.bool r)), []) e st
def f14_l1_J (a1 : List GTok) (a2 : List GTok) (x : Int) : St := ⟨(up (up (up (up (fun _ => .un) 13 (.d (.int .i64 x))) 12 (.d (.int .i64 (a1.length : Int)))) 1 (.d (.sl a2.length (e_GTok.cells a2)))) 0 (.d (.sl a1.length (e_GTok.cells a1)))), (hB fun _ => 0)⟩
def f14_l1_H (a1 : List GTok) (a2 : List GTok) (x : Int) (st : St) : Prop := keepSt [0, 1, 12, 13] [] [] st = f14_l1_J a1 a2 x
def f14_l1_e0_J (a1 : List GTok) (a2 : List GTok) : St := ⟨(fun _ => .un), (hB fun _ => 0)⟩
def f14_l1_X (a1 : List GTok) (a2 : List GTok) (z : Unit ⊕ Bool) (e : PX) (st : St) : Prop := (match z with | .inl z => e = .exit 0 ∧ st = f14_l1_e0_J a1 a2 | .inr z => e = .ret ∧ finSt c14.fin st = f14_fin z)
def f14_l1_j3_J (a1 : List GTok) (a2 : List GTok) (p20 : Int) : St := ⟨(up (up (up (up (fun _ => .un) 13 (.d (.int .i64 p20))) 12 (.d (.int .i64 (a1.length : Int)))) 1 (.d (.sl a2.length (e_GTok.cells a2)))) 0 (.d (.sl a1.length (e_GTok.cells a1)))), (hB fun _ => 0)⟩
noncomputable def f14_l1_j3 (a1 : List GTok) (a2 : List GTok) (p20 : Int) : Option (Int ⊕ (Unit ⊕ Bool)) := ((idx a1 p20).bind fun z7 => ((idx a2 p20).bind fun z8 => (bif (!(decide (z7.Kind = z8.Kind) && (decide (z7.Cmd = z8.Cmd) && (decide (z7.Opt = z8.Opt) && (decide (z7.Data = z8.Data) && true))))) then (some (.inr (.inr false))) else (some (.inl (IntKind.i64.wrap (p20 + 1)))))))
theorem f14_l1_j3_ok {d : Nat} (hd : 1 ≤ d) (a1 : List GTok) (a2 : List GTok) {r : Int ⊕ (Unit ⊕ Bool)} {Q : PX → St → Prop} (hQ : ∀ e st', finL (f14_l1_H a1 a2) (f14_l1_X a1 a2) r e st' → Q e st') (p20 : Int) (hS : f14_l1_j3 a1 a2 p20 = some r) {st : St} (he : keepSt [0, 1, 12, 13] [] [] st = f14_l1_j3_J a1 a2 p20) : ZR (lev codes baseL (d - 1)) Q c14_1 [] st := by
  refine zrKeep he ?_
  unfold f14_l1_j3 at hS
  refine zrSeq ?_
  refine zrBlk ?_
  refine zrSeq ?_
  refine zrReg ?_
  refine zlRun (n := 2) (j := 2) rfl (by kernel_rfl) ?_
  refine zlEnd (by kernel_rfl) ?_
  refine zkSeq ?_
  refine zrSeq ?_
  refine zrRegD ?_
  refine zdRun (n := 2) (j := 2) (ts := [[], []]) (acc' := [[], []]) rfl (by kernel_rfl) (by kernel_rfl) (by kernel_rfl) ?_
  refine bindE hS (fun z7 hz7 hS => ?_)
  refine zdOp (d := some 18) (op := (.ixS 50 4 (.tmp 16) (.tmp 17))) (g := none) (v := (.rptr (e_GTok.enc z7 ++ (e_GTok.cells (a1.drop ((p20 : Int).toNat + 1)))))) (ups := []) (j := 3) (t1 := []) (acc' := [[], [], []]) (by kernel_rfl) (by kernel_rfl) rfl (by kernel_rfl) (by kernel_rfl) (ev_ixS e_GTok (kk := .i64) (xs := a1) (j := p20) (by kernel_rfl) (by kernel_rfl) hz7 rfl (by intro h; cases h)) ?_
  refine zdRun (n := 3) (j := 6) (ts := [[], [], []]) (acc' := [[], [], [], [], [], []]) rfl (by kernel_rfl) (by kernel_rfl) (by kernel_rfl) ?_
  refine bindE hS (fun z8 hz8 hS => ?_)
  refine zdOp (d := some 22) (op := (.ixS 50 4 (.tmp 20) (.tmp 21))) (g := none) (v := (.rptr (e_GTok.enc z8 ++ (e_GTok.cells (a2.drop ((p20 : Int).toNat + 1)))))) (ups := []) (j := 7) (t1 := []) (acc' := [[], [], [], [], [], [], []]) (by kernel_rfl) (by kernel_rfl) rfl (by kernel_rfl) (by kernel_rfl) (ev_ixS e_GTok (kk := .i64) (xs := a2) (j := p20) (by kernel_rfl) (by kernel_rfl) hz8 rfl (by intro h; cases h)) ?_
  refine zdRun (n := 1) (j := 8) (ts := [[]]) (acc' := [[], [], [], [], [], [], [], []]) rfl (by kernel_rfl) (by kernel_rfl) (by kernel_rfl) ?_
  refine zdBool (d := 24) (op := (.eqA .true [(3, .int), (1, .str)] (.tmp 19) (.tmp 23))) (g := none) (j := 9) (t1 := []) (acc' := [[], [], [], [], [], [], [], [], []]) (!(decide (z7.Kind = z8.Kind) && (decide (z7.Cmd = z8.Cmd) && (decide (z7.Opt = z8.Opt) && (decide (z7.Data = z8.Data) && true))))) (by kernel_rfl) (by kernel_rfl) rfl (by kernel_rfl) (by kernel_rfl) (by kernel_rfl) (fun hc => ?_) (fun hc => ?_)
  · replace hS := cond_t hc hS
    refine zdEnd (by kernel_rfl) (by kernel_rfl) ?_
    refine zkSeq ?_
    refine zrCondT (by kernel_rfl) ?_
    refine zrSeq ?_
    refine zrReg ?_
    refine zlRun (n := 1) (j := 1) rfl (by kernel_rfl) ?_
    refine zlEnd (by kernel_rfl) ?_
    refine zkSeq ?_
    refine zrRet ?_
    refine zkBlkR ?_
    refine zkSeqR ?_
    refine zkNil ?_
    exact endQ hS hQ (finL_x (by intro h; cases h) (by show _ = _ ∧ _ = _; exact ⟨rfl, by kernel_rfl⟩))
  · replace hS := cond_f hc hS
    refine zdEnd (by kernel_rfl) (by kernel_rfl) ?_
    refine zkSeq ?_
    refine zrCondF (by kernel_rfl) ?_
    refine zrSkip ?_
    refine zkBlk ?_
    refine zkSeq ?_
    refine zrReg ?_
    refine zlRun (n := 2) (j := 2) rfl (by kernel_rfl) ?_
    refine zlEnd (by kernel_rfl) ?_
    refine zkNil ?_
    exact endQ hS hQ (finL_n (by show keepSt _ _ _ _ = _; kernel_rfl))
def f14_l1_j2_J (a1 : List GTok) (a2 : List GTok) (p18 : Int) (p19 : Bool) : St := ⟨(up (up (up (up (up (fun _ => .un) 14 (.d (.bool p19))) 13 (.d (.int .i64 p18))) 12 (.d (.int .i64 (a1.length : Int)))) 1 (.d (.sl a2.length (e_GTok.cells a2)))) 0 (.d (.sl a1.length (e_GTok.cells a1)))), (hB fun _ => 0)⟩
noncomputable def f14_l1_j2 (a1 : List GTok) (a2 : List GTok) (p18 : Int) (p19 : Bool) : Option (Int ⊕ (Unit ⊕ Bool)) := (bif p19 then (f14_l1_j3 a1 a2 p18) else (some (.inr (.inl ()))))
theorem f14_l1_j2_ok {d : Nat} (hd : 1 ≤ d) (a1 : List GTok) (a2 : List GTok) {r : Int ⊕ (Unit ⊕ Bool)} {Q : PX → St → Prop} (hQ : ∀ e st', finL (f14_l1_H a1 a2) (f14_l1_X a1 a2) r e st' → Q e st') (p18 : Int) (p19 : Bool) (hS : f14_l1_j2 a1 a2 p18 p19 = some r) {st : St} (he : keepSt [0, 1, 12, 13, 14] [] [] st = f14_l1_j2_J a1 a2 p18 p19) : ZR (lev codes baseL (d - 1)) Q c14_2 [] st := by
  refine zrKeep he ?_
  unfold f14_l1_j2 at hS
  refine zrSeq ?_
  refine zrSplit 14 p19 (by kernel_rfl) (fun hc => ?_) (fun hc => ?_)
  · replace hS := cond_t hc hS
    refine zrCondT (by kernel_rfl) ?_
    refine zrSkip ?_
    refine zkSeq ?_
    exact f14_l1_j3_ok hd a1 a2 hQ p18 hS (by kernel_rfl)
  · replace hS := cond_f hc hS
    refine zrCondF (by kernel_rfl) ?_
    refine zrKeep (J := f14_l1_e0_J a1 a2) (by kernel_rfl) ?_
    refine zrExit ?_
    refine zkSeqX ?_
    refine zkNil ?_
    exact endQ hS hQ (finL_x (by intro h; cases h) (by show _ = _ ∧ _ = _; exact ⟨rfl, rfl⟩))
noncomputable def f14_l1 (a1 : List GTok) (a2 : List GTok) (x : Int) : Option (Int ⊕ (Unit ⊕ Bool)) := (bif (decide (x < (a1.length : Int))) then (f14_l1_j2 a1 a2 x true) else (f14_l1_j2 a1 a2 x false))
theorem f14_l1_ok {d : Nat} (hd : 1 ≤ d) (a1 : List GTok) (a2 : List GTok) {r : Int ⊕ (Unit ⊕ Bool)} {Q : PX → St → Prop} (hQ : ∀ e st', finL (f14_l1_H a1 a2) (f14_l1_X a1 a2) r e st' → Q e st') {x : Int} (hS : f14_l1 a1 a2 x = some r) {st : St} (he : f14_l1_H a1 a2 x st) : ZR (lev codes baseL (d - 1)) Q c14_3 [] st := by
  refine zrKeep he ?_
  unfold f14_l1 at hS
  refine zrSeq ?_
  refine zrReg ?_
  refine zlBool (d := 14) (op := (.cmpI .lss (.tmp 13) (.tmp 12))) (g := none) (j := 1) (decide (x < (a1.length : Int))) rfl (by kernel_rfl) (by kernel_rfl) (by kernel_rfl) (fun hc => ?_) (fun hc => ?_)
  · replace hS := cond_t hc hS
    refine zlEnd (by kernel_rfl) ?_
    refine zkSeq ?_
    exact f14_l1_j2_ok hd a1 a2 hQ x true hS (by kernel_rfl)
  · replace hS := cond_f hc hS
    refine zlEnd (by kernel_rfl) ?_
    refine zkSeq ?_
    exact f14_l1_j2_ok hd a1 a2 hQ x false hS (by kernel_rfl)
def f14_j0_J (a1 : List GTok) (a2 : List GTok) : St := ⟨(up (up (fun _ => .un) 1 (.d (.sl a2.length (e_GTok.cells a2)))) 0 (.d (.sl a1.length (e_GTok.cells a1)))), (hB fun _ => 0)⟩
noncomputable def f14_j0 (a1 : List GTok) (a2 : List GTok) : Option (Bool) := ((loopO (f14_l1 a1 a2) 0).bind fun z9 => (Sum.elim (fun z10 => (some true)) (fun z11 => (some z11)) z9))
theorem f14_j0_ok {d : Nat} (hd : 1 ≤ d) (a1 : List GTok) (a2 : List GTok) {r : Bool} {Q : PX → St → Prop} (hQ : ∀ e st', f14_Q r e st' → Q e st')  (hS : f14_j0 a1 a2 = some r) {st : St} (he : keepSt [0, 1] [] [] st = f14_j0_J a1 a2) : ZR (lev codes baseL (d - 1)) Q c14_4 [] st := by
  refine zrKeep he ?_
  unfold f14_j0 at hS
  refine zrSeq ?_
  refine zrSeq ?_
  refine zrReg ?_
  refine zlRun (n := 3) (j := 3) rfl (by kernel_rfl) ?_
  refine zlEnd (by kernel_rfl) ?_
  refine zkSeq ?_
  refine zrBlk ?_
  refine bindE hS (fun z9 hz9 hS => ?_)
  refine zrLoop (f14_l1_H a1 a2) (f14_l1_X a1 a2) (fun x st r Q h0 hS hQ => f14_l1_ok hd a1 a2 hQ hS h0) (x := 0) (z := z9) (by show keepSt _ _ _ _ = _; kernel_rfl) hz9 ?_
  rcases z9 with z10 | z11
  · replace hS := (show _ = _ from hS)
    simp only [Sum.elim_inl] at hS
    intro e st' _ hX
    obtain ⟨rfl, rfl⟩ : _ ∧ _ := hX
    refine zkBlkX ?_
    refine zkSeq ?_
    refine zrSeq ?_
    refine zrReg ?_
    refine zlRun (n := 1) (j := 1) rfl (by kernel_rfl) ?_
    refine zlEnd (by kernel_rfl) ?_
    refine zkSeq ?_
    refine zrRet ?_
    refine zkNil ?_
    exact endQ hS hQ (fRet (by kernel_rfl) ((congrArg (fun s => outR s 0 c14.res) (by kernel_rfl : finSt c14.fin _ = f14_fin true)).trans (f14_out true)))
  · simp only [Sum.elim_inr] at hS
    intro e st' _ hX
    obtain ⟨rfl, hX⟩ : _ ∧ _ := hX
    refine zkBlkR ?_
    refine zkSeqR ?_
    refine zkNil ?_
    exact endQ hS hQ (fRet (by kernel_rfl) ((congrArg (fun s => outR s 0 c14.res) hX).trans (f14_out z11)))
noncomputable def f14 (a1 : List GTok) (a2 : List GTok) : Option (Bool) := (bif (!decide ((a1.length : Int) = (a2.length : Int))) then (some false) else (f14_j0 a1 a2 ))
theorem f14_ok (d : Nat) (hd : 1 ≤ d) (a1 : List GTok) (a2 : List GTok) (r : Bool) (hS : f14 a1 a2 = some r) : lev codes baseL d 14 [(.d (.sl a1.length (e_GTok.cells a1))), (.d (.sl a2.length (e_GTok.cells a2)))] [] = some ((.d (.bool r)), []) := by
  refine lev_go codes14 rfl rfl (Nat.le_trans (Nat.le_of_ble_eq_true rfl) hd) fun Q hQ => ?_
  unfold f14 at hS
  show ZR _ Q c14_b [] _
  replace hQ : ∀ e st', f14_Q r e st' → Q e st' := hQ
  refine zrSeq ?_
  refine zrReg ?_
  refine zlRun (n := 1) (j := 1) rfl (by kernel_rfl) ?_
  refine zlEnd (by kernel_rfl) ?_
  refine zkSeq ?_
  refine zrSeq ?_
  refine zrSeq ?_
  refine zrReg ?_
  refine zlRun (n := 4) (j := 4) rfl (by kernel_rfl) ?_
  refine zlBool (d := 10) (op := (.cmpI .neq (.tmp 7) (.tmp 9))) (g := none) (j := 5) (!decide ((a1.length : Int) = (a2.length : Int))) rfl (by kernel_rfl) (by kernel_rfl) (by kernel_rfl) (fun hc => ?_) (fun hc => ?_)
  · replace hS := cond_t hc hS
    refine zlEnd (by kernel_rfl) ?_
    refine zkSeq ?_
    refine zrCondT (by kernel_rfl) ?_
    refine zrSeq ?_
    refine zrReg ?_
    refine zlRun (n := 1) (j := 1) rfl (by kernel_rfl) ?_
    refine zlEnd (by kernel_rfl) ?_
    refine zkSeq ?_
    refine zrRet ?_
    refine zkSeqR ?_
    refine zkNil ?_
    exact endQ hS hQ (fRet (by kernel_rfl) ((congrArg (fun s => outR s 0 c14.res) (by kernel_rfl : finSt c14.fin _ = f14_fin false)).trans (f14_out false)))
  · replace hS := cond_f hc hS
    refine zlEnd (by kernel_rfl) ?_
    refine zkSeq ?_
    refine zrCondF (by kernel_rfl) ?_
    refine zrSkip ?_
    refine zkSeq ?_
    exact f14_j0_ok hd a1 a2 hQ  hS (by kernel_rfl)
/- farwriter/farkeep.iacLives -/
def f13_fin (p5 : Bool) : St := ⟨(up (fun _ => .un) 0 (.d (.bool p5))), (hB fun _ => 0)⟩
theorem f13_out (p5 : Bool) : outR (f13_fin p5) 0 c13.res = some ((.d (.bool p5)), []) := by
  kernel_rfl
def f13_Q (r : Bool) (e : PX) (st : St) : Prop := DoneF c13 0 ((.d (.bool r)), []) e st
noncomputable def f13  : Option (Bool) := ((f12 (GWire.mk 0 0 0 ([]) false) [97, 255, 255, 98, 255, 251, 1, 255]).bind fun z4 => (bif (decide (z4.2.2 = 0)) then (bif (decide (z4.1.Mode = 1) && (decide (z4.1.Cmd = 0) && (decide (z4.1.Opt = 0) && (decide (z4.1.Buf = ([] : List UInt8)) && (decide (z4.1.Over = false) && true))))) then ((f14 z4.2.1 [(GTok.mk 1 0 0 ([97, 255, 98])), (GTok.mk 3 251 1 ([]))]).bind fun z5 => (bif z5 then ((f21 [255]).bind fun z6 => (bif (decide (z6 = ([255, 255] : List UInt8))) then (some true) else (some false))) else (some false))) else (some false)) else (some false)))
theorem f13_ok (d : Nat) (hd : 6 ≤ d)  (r : Bool) (hS : f13 = some r) : lev codes baseL d 13 [] [] = some ((.d (.bool r)), []) := by
  refine lev_go codes13 rfl rfl (Nat.le_trans (Nat.le_of_ble_eq_true rfl) hd) fun Q hQ => ?_
  unfold f13 at hS
  show ZR _ Q c13_b [] _
  replace hQ : ∀ e st', f13_Q r e st' → Q e st' := hQ
  refine zrSeq ?_
  refine zrReg ?_
  refine zlRun (n := 1) (j := 1) rfl (by kernel_rfl) ?_
  refine zlEnd (by kernel_rfl) ?_
  refine zkSeq ?_
  refine zrSeq ?_
  refine zrReg ?_
  refine zlRun (n := 1) (j := 1) rfl (by kernel_rfl) ?_
  refine bindE hS (fun z4 hz4 hS => ?_)
  refine zlOp (d := some 6) (op := (.call 12 [(.tmp 5), (.const (.string ⟨#[97, 255, 255, 98, 255, 251, 1, 255]⟩))])) (g := none) (j := 2) rfl (by kernel_rfl) (by kernel_rfl) (ev_callA (by kernel_rfl) (f12_ok (d - 1) (dpt hd rfl) (GWire.mk 0 0 0 ([]) false) [97, 255, 255, 98, 255, 251, 1, 255] z4 hz4) (by kernel_rfl) (by kernel_rfl)) ?_
  refine zlRun (n := 8) (j := 10) rfl (by kernel_rfl) ?_
  refine zlEnd (by kernel_rfl) ?_
  refine zkSeq ?_
  refine zrSeq ?_
  refine zrReg ?_
  refine zlRun (n := 1) (j := 1) rfl (by kernel_rfl) ?_
  refine zlBool (d := 11) (op := (.cmpI .eql (.tmp 10) (.const (.int .i64 0)))) (g := none) (j := 2) (decide (z4.2.2 = 0)) rfl (by kernel_rfl) (by kernel_rfl) (by kernel_rfl) (fun hc => ?_) (fun hc => ?_)
  · replace hS := cond_t hc hS
    refine zlRun (n := 3) (j := 5) rfl (by kernel_rfl) ?_
    refine zlBool (d := 15) (op := (.eqA .false [(3, .int), (1, .str), (1, .bool)] (.tmp 13) (.tmp 14))) (g := (some (12, true))) (j := 6) (decide (z4.1.Mode = 1) && (decide (z4.1.Cmd = 0) && (decide (z4.1.Opt = 0) && (decide (z4.1.Buf = ([] : List UInt8)) && (decide (z4.1.Over = false) && true))))) rfl (by kernel_rfl) (by kernel_rfl) (by kernel_rfl) (fun hc => ?_) (fun hc => ?_)
    · replace hS := cond_t hc hS
      refine zlRun (n := 6) (j := 12) rfl (by kernel_rfl) ?_
      refine bindE hS (fun z5 hz5 hS => ?_)
      refine zlOp (d := some 22) (op := (.call 14 [(.tmp 18), (.tmp 21)])) (g := (some (17, true))) (j := 13) rfl (by kernel_rfl) (by kernel_rfl) (ev_callB (args := [(.r (.msl 56 1 0 z4.2.1.length)), (.r (.msl 176 1 0 (([(GTok.mk 1 0 0 ([97, 255, 98])), (GTok.mk 3 251 1 ([]))] : List GTok).length)))]) (by kernel_rfl) (l_cons (l_own e_GTok (e := 50) (k := 4) (xs := z4.2.1) (by kernel_rfl) rfl rfl) (l_cons (l_own e_GTok (e := 50) (k := 4) (xs := [(GTok.mk 1 0 0 ([97, 255, 98])), (GTok.mk 3 251 1 ([]))]) (by kernel_rfl) rfl rfl) l_nil)) (f14_ok (d - 1) (dpt hd rfl) z4.2.1 [(GTok.mk 1 0 0 ([97, 255, 98])), (GTok.mk 3 251 1 ([]))] z5 hz5) (by kernel_rfl) (by kernel_rfl)) ?_
      refine zlRun (n := 2) (j := 15) rfl (by kernel_rfl) ?_
      refine zlSplit 24 z5 (by kernel_rfl) (fun hc => ?_) (fun hc => ?_)
      · replace hS := cond_t hc hS
        refine bindE hS (fun z6 hz6 hS => ?_)
        refine zlOp (d := some 25) (op := (.call 21 [(.const (.string ⟨#[255]⟩))])) (g := (some (24, true))) (j := 16) rfl (by kernel_rfl) (by kernel_rfl) (ev_callA (by kernel_rfl) (f21_ok (d - 1) (dpt hd rfl) [255] z6 hz6) (by kernel_rfl) (by kernel_rfl)) ?_
        refine zlBool (d := 26) (op := (.strO .eql (.tmp 25) (.const (.string ⟨#[255, 255]⟩)))) (g := (some (24, true))) (j := 17) (decide (z6 = ([255, 255] : List UInt8))) rfl (by kernel_rfl) (by kernel_rfl) (by kernel_rfl) (fun hc => ?_) (fun hc => ?_)
        · replace hS := cond_t hc hS
          refine zlRun (n := 2) (j := 19) rfl (by kernel_rfl) ?_
          refine zlEnd (by kernel_rfl) ?_
          refine zkSeq ?_
          refine zrRet ?_
          refine zkNil ?_
          exact endQ hS hQ (fRet (by kernel_rfl) ((congrArg (fun s => outR s 0 c13.res) (by kernel_rfl : finSt c13.fin _ = f13_fin true)).trans (f13_out true)))
        · replace hS := cond_f hc hS
          refine zlRun (n := 2) (j := 19) rfl (by kernel_rfl) ?_
          refine zlEnd (by kernel_rfl) ?_
          refine zkSeq ?_
          refine zrRet ?_
          refine zkNil ?_
          exact endQ hS hQ (fRet (by kernel_rfl) ((congrArg (fun s => outR s 0 c13.res) (by kernel_rfl : finSt c13.fin _ = f13_fin false)).trans (f13_out false)))
      · replace hS := cond_f hc hS
        refine zlRun (n := 4) (j := 19) rfl (by kernel_rfl) ?_
        refine zlEnd (by kernel_rfl) ?_
        refine zkSeq ?_
        refine zrRet ?_
        refine zkNil ?_
        exact endQ hS hQ (fRet (by kernel_rfl) ((congrArg (fun s => outR s 0 c13.res) (by kernel_rfl : finSt c13.fin _ = f13_fin false)).trans (f13_out false)))
    · replace hS := cond_f hc hS
      refine zlRun (n := 13) (j := 19) rfl (by kernel_rfl) ?_
      refine zlEnd (by kernel_rfl) ?_
      refine zkSeq ?_
      refine zrRet ?_
      refine zkNil ?_
      exact endQ hS hQ (fRet (by kernel_rfl) ((congrArg (fun s => outR s 0 c13.res) (by kernel_rfl : finSt c13.fin _ = f13_fin false)).trans (f13_out false)))
  · replace hS := cond_f hc hS
    refine zlRun (n := 17) (j := 19) rfl (by kernel_rfl) ?_
    refine zlEnd (by kernel_rfl) ?_
    refine zkSeq ?_
    refine zrRet ?_
    refine zkNil ?_
    exact endQ hS hQ (fRet (by kernel_rfl) ((congrArg (fun s => outR s 0 c13.res) (by kernel_rfl : finSt c13.fin _ = f13_fin false)).trans (f13_out false)))
/- farwriter/iac.Merge -/
def f15_fin (p62 : List GTok) : St := ⟨(up (fun _ => .un) 2 (.r (.msl 32 0 0 p62.length))), (up (hB fun _ => 0) 32 ⟨0, some (.own 50 4 (e_GTok.cells p62))⟩)⟩
theorem f15_out (p62 : List GTok) : outR (f15_fin p62) 0 c15.res = some ((.r (.own 0 50 4 p62.length (e_GTok.cells p62))), []) := by
  exact out_of (ids := []) (ids' := [32]) (l := [(.r (.msl 32 0 0 p62.length))]) (by kernel_rfl) (by kernel_rfl) (o_own e_GTok (e := 50) (k := 4) (xs := p62) (by kernel_rfl) rfl rfl rfl rfl)
def f15_Q (r : (List GTok)) (e : PX) (st : St) : Prop := DoneF c15 0 ((.r (.own 0 50 4 r.length (e_GTok.cells r))), []) e st
def f15_l0_J (a1 : List GTok) (x : (List GTok) × Bool × Int) : St := ⟨(up (up (up (up (up (fun _ => .un) 9 (.d (.int .i64 x.2.2))) 8 (.d (.int .i64 (a1.length : Int)))) 7 (.d (.sl a1.length (e_GTok.cells a1)))) 4 (.d (.bool x.2.1))) 3 (.r (.msl 32 0 0 x.1.length))), (up (hB fun _ => 0) 32 ⟨0, some (.own 50 4 (e_GTok.cells x.1))⟩)⟩
def f15_l0_H (a1 : List GTok) (x : (List GTok) × Bool × Int) (st : St) : Prop := keepSt [3, 4, 7, 8, 9] [(32, .id 32)] [] st = f15_l0_J a1 x
def f15_l0_e0_J (a1 : List GTok) (p61 : List GTok) : St := ⟨(up (fun _ => .un) 3 (.r (.msl 32 0 0 p61.length))), (up (hB fun _ => 0) 32 ⟨0, some (.own 50 4 (e_GTok.cells p61))⟩)⟩
def f15_l0_X (a1 : List GTok) (z : ((List GTok))) (e : PX) (st : St) : Prop := e = .exit 0 ∧ st = f15_l0_e0_J a1 z
def f15_l0_j2_J (a1 : List GTok) (p71 : List GTok) (p72 : Bool) (p73 : Int) : St := ⟨(up (up (up (up (up (fun _ => .un) 9 (.d (.int .i64 p73))) 8 (.d (.int .i64 (a1.length : Int)))) 7 (.d (.sl a1.length (e_GTok.cells a1)))) 4 (.d (.bool p72))) 3 (.r (.msl 32 0 0 p71.length))), (up (hB fun _ => 0) 32 ⟨0, some (.own 50 4 (e_GTok.cells p71))⟩)⟩
noncomputable def f15_l0_j2 (a1 : List GTok) (p71 : List GTok) (p72 : Bool) (p73 : Int) : Option (((List GTok) × Bool × Int) ⊕ (((List GTok)))) := ((idx a1 p73).bind fun z22 => (bif (!decide (z22.Kind = 1)) then ((app? 40 p71 ([z22] : List GTok)).bind fun z23 => (some (.inl (z23, false, (IntKind.i64.wrap (p73 + 1)))))) else (bif (decide (z22.Data = ([] : List UInt8))) then (some (.inl (p71, p72, (IntKind.i64.wrap (p73 + 1))))) else (bif p72 then ((inR (IntKind.i64.wrap ((p71.length : Int) - 1)) p71.length).bind fun m24 => ((p71[m24]?).bind fun z25 => ((cat? z25.Data z22.Data).bind fun z26 => ((inR (IntKind.i64.wrap ((p71.length : Int) - 1)) p71.length).bind fun m27 => ((p71[m27]?).bind fun z28 => ((some (p71.set m27 (GTok.mk z28.Kind z28.Cmd z28.Opt z26))).bind fun z29 => (some (.inl (z29, p72, (IntKind.i64.wrap (p73 + 1))))))))))) else ((app? 40 p71 ([z22] : List GTok)).bind fun z30 => (some (.inl (z30, true, (IntKind.i64.wrap (p73 + 1))))))))))
theorem f15_l0_j2_ok {d : Nat} (hd : 1 ≤ d) (a1 : List GTok) {r : ((List GTok) × Bool × Int) ⊕ (((List GTok)))} {Q : PX → St → Prop} (hQ : ∀ e st', finL (f15_l0_H a1) (f15_l0_X a1) r e st' → Q e st') (p71 : List GTok) (p72 : Bool) (p73 : Int) (hS : f15_l0_j2 a1 p71 p72 p73 = some r) {st : St} (he : keepSt [3, 4, 7, 8, 9] [(32, .id 32)] [] st = f15_l0_j2_J a1 p71 p72 p73) : ZR (lev codes baseL (d - 1)) Q c15_1 [] st := by
  refine zrKeep he ?_
  unfold f15_l0_j2 at hS
  refine zrSeq ?_
  refine zrBlk ?_
  refine zrSeq ?_
  refine zrReg ?_
  refine bindE hS (fun z22 hz22 hS => ?_)
  refine zlOp (d := some 11) (op := (.ixS 50 4 (.tmp 7) (.tmp 9))) (g := none) (v := (.rptr (e_GTok.enc z22 ++ (e_GTok.cells (a1.drop ((p73 : Int).toNat + 1)))))) (ups := []) (j := 1) rfl (by kernel_rfl) (by kernel_rfl) (ev_ixS e_GTok (kk := .i64) (xs := a1) (j := p73) (by kernel_rfl) (by kernel_rfl) hz22 rfl (by intro h; cases h)) ?_
  refine zlRun (n := 3) (j := 4) rfl (by kernel_rfl) ?_
  refine zlEnd (by kernel_rfl) ?_
  refine zkSeq ?_
  refine zrBlk ?_
  refine zrSeq ?_
  refine zrReg ?_
  refine zlRun (n := 2) (j := 2) rfl (by kernel_rfl) ?_
  refine zlBool (d := 20) (op := (.cmpI .neq (.tmp 19) (.const (.int .i64 1)))) (g := none) (j := 3) (!decide (z22.Kind = 1)) rfl (by kernel_rfl) (by kernel_rfl) (by kernel_rfl) (fun hc => ?_) (fun hc => ?_)
  · replace hS := cond_t hc hS
    refine zlRun (n := 1) (j := 4) rfl (by kernel_rfl) ?_
    refine zlEnd (by kernel_rfl) ?_
    refine zkSeq ?_
    refine zrCondT (by kernel_rfl) ?_
    refine zrReg ?_
    refine zlRun (n := 3) (j := 3) rfl (by kernel_rfl) ?_
    refine bindE hS (fun z23 hz23 hS => ?_)
    refine zlOp (d := some 24) (op := (.app 50 4 40 (.tmp 21) (.tmp 23))) (g := none) (v := (.r (.msl 32 1 0 z23.length))) (ups := [(32, ⟨1, some (.own 50 4 (e_GTok.cells z23))⟩)]) (j := 4) rfl (by kernel_rfl) (by kernel_rfl) (ev_app e_GTok (b := 32) (g := 0) (n := p71.length) (xs := p71) (ys := [z22]) ((congrArg (asL _) (by kernel_rfl : ρof _ (.tmp 23) = (.r (.msl 192 1 0 (([z22] : List GTok).length))))).trans (as_whole e_GTok (e := 50) (k := 4) (xs := [z22]) (by kernel_rfl) rfl rfl)) rfl (by kernel_rfl) rfl (by kernel_rfl) rfl hz23) ?_
    refine zlRun (n := 2) (j := 6) rfl (by kernel_rfl) ?_
    refine zlEnd (by kernel_rfl) ?_
    refine zkBlk ?_
    refine zkBlk ?_
    refine zkSeq ?_
    refine zrReg ?_
    refine zlRun (n := 2) (j := 2) rfl (by kernel_rfl) ?_
    refine zlEnd (by kernel_rfl) ?_
    refine zkNil ?_
    exact endQ hS hQ (finL_n (by show keepSt _ _ _ _ = _; kernel_rfl))
  · replace hS := cond_f hc hS
    refine zlRun (n := 1) (j := 4) rfl (by kernel_rfl) ?_
    refine zlEnd (by kernel_rfl) ?_
    refine zkSeq ?_
    refine zrCondF (by kernel_rfl) ?_
    refine zrSeq ?_
    refine zrReg ?_
    refine zlRun (n := 2) (j := 2) rfl (by kernel_rfl) ?_
    refine zlBool (d := 28) (op := (.strO .eql (.tmp 27) (.const (.string ⟨#[]⟩)))) (g := none) (j := 3) (decide (z22.Data = ([] : List UInt8))) rfl (by kernel_rfl) (by kernel_rfl) (by kernel_rfl) (fun hc => ?_) (fun hc => ?_)
    · replace hS := cond_t hc hS
      refine zlRun (n := 1) (j := 4) rfl (by kernel_rfl) ?_
      refine zlEnd (by kernel_rfl) ?_
      refine zkSeq ?_
      refine zrCondT (by kernel_rfl) ?_
      refine zrSkip ?_
      refine zkBlk ?_
      refine zkBlk ?_
      refine zkSeq ?_
      refine zrReg ?_
      refine zlRun (n := 2) (j := 2) rfl (by kernel_rfl) ?_
      refine zlEnd (by kernel_rfl) ?_
      refine zkNil ?_
      exact endQ hS hQ (finL_n (by show keepSt _ _ _ _ = _; kernel_rfl))
    · replace hS := cond_f hc hS
      refine zlRun (n := 1) (j := 4) rfl (by kernel_rfl) ?_
      refine zlEnd (by kernel_rfl) ?_
      refine zkSeq ?_
      refine zrCondF (by kernel_rfl) ?_
      refine zrSeq ?_
      refine zrReg ?_
      refine zlRun (n := 2) (j := 2) rfl (by kernel_rfl) ?_
      refine zlEnd (by kernel_rfl) ?_
      refine zkSeq ?_
      refine zrSplit 29 p72 (by kernel_rfl) (fun hc => ?_) (fun hc => ?_)
      · replace hS := cond_t hc hS
        refine zrCondT (by kernel_rfl) ?_
        refine zrRegD ?_
        refine zdRun (n := 4) (j := 4) (ts := [[], [], [(32, false)], []]) (acc' := [[], [], [(32, false)], []]) rfl (by kernel_rfl) (by kernel_rfl) (by kernel_rfl) ?_
        refine bindE hS (fun m24 hm24 hS => ?_)
        refine zdOp (d := some 35) (op := (.ixS 50 4 (.tmp 31) (.tmp 34))) (g := none) (v := (.r (.ptr 32 0 ((0 + m24) * 4)))) (ups := []) (j := 5) (t1 := [(32, false)]) (acc' := [[], [], [(32, false)], [], [(32, false)]]) (by kernel_rfl) (by kernel_rfl) rfl (by kernel_rfl) (by kernel_rfl) (ev_ixM (kk := .i64) (b := 32) (g := 0) (l := 0) (n := p71.length) (j := (IntKind.i64.wrap ((p71.length : Int) - 1))) (cs := e_GTok.cells p71) (by kernel_rfl) (by kernel_rfl) (by kernel_rfl) hm24) ?_
        refine zdRun (n := 1) (j := 6) (ts := [[]]) (acc' := [[], [], [(32, false)], [], [(32, false)], []]) rfl (by kernel_rfl) (by kernel_rfl) (by kernel_rfl) ?_
        refine bindE hS (fun z25 hz25 hS => ?_)
        refine zdOp (d := some 37) (op := (.load .false 1 (.tmp 36))) (g := none) (v := (.d (.str z25.Data))) (ups := []) (j := 7) (t1 := [(32, false)]) (acc' := [[], [], [(32, false)], [], [(32, false)], [], [(32, false)]]) (by kernel_rfl) (by kernel_rfl) rfl (by kernel_rfl) (by kernel_rfl) (ev_loadM e_GTok (b := 32) (g := 0) (o := (0 + m24) * 4 + 3) (e := 50) (k := 4) (m := m24) (fo := 3) (xs := p71) (by kernel_rfl) (by kernel_rfl) (by rw [Nat.zero_add]; rfl) hz25 (by kernel_rfl) (by kernel_rfl) (by kernel_rfl)) ?_
        refine zdRun (n := 2) (j := 9) (ts := [[], [(56, false)]]) (acc' := [[], [], [(32, false)], [], [(32, false)], [], [(32, false)], [], [(56, false)]]) rfl (by kernel_rfl) (by kernel_rfl) (by kernel_rfl) ?_
        refine bindE hS (fun z26 hz26 hS => ?_)
        refine zdOp (d := some 40) (op := (.strO .add (.tmp 37) (.tmp 39))) (g := none) (v := (.d (.str z26))) (ups := []) (j := 10) (t1 := []) (acc' := [[], [], [(32, false)], [], [(32, false)], [], [(32, false)], [], [(56, false)], []]) (by kernel_rfl) (by kernel_rfl) rfl (by kernel_rfl) (by kernel_rfl) (ev_cat (a := z25.Data) (c := z22.Data) (by kernel_rfl) (by kernel_rfl) hz26) ?_
        refine bindE hS (fun m27 hm27 hS => ?_)
        refine zdOp (d := some 41) (op := (.ixS 50 4 (.tmp 31) (.tmp 34))) (g := none) (v := (.r (.ptr 32 0 ((0 + m27) * 4)))) (ups := []) (j := 11) (t1 := [(32, false)]) (acc' := [[], [], [(32, false)], [], [(32, false)], [], [(32, false)], [], [(56, false)], [], [(32, false)]]) (by kernel_rfl) (by kernel_rfl) rfl (by kernel_rfl) (by kernel_rfl) (ev_ixM (kk := .i64) (b := 32) (g := 0) (l := 0) (n := p71.length) (j := (IntKind.i64.wrap ((p71.length : Int) - 1))) (cs := e_GTok.cells p71) (by kernel_rfl) (by kernel_rfl) (by kernel_rfl) hm27) ?_
        refine zdRun (n := 1) (j := 12) (ts := [[]]) (acc' := [[], [], [(32, false)], [], [(32, false)], [], [(32, false)], [], [(56, false)], [], [(32, false)], []]) rfl (by kernel_rfl) (by kernel_rfl) (by kernel_rfl) ?_
        refine bindE hS (fun z28 hz28 hS => ?_)
        refine bindE hS (fun z29 hz29 hS => ?_)
        refine zdOp (d := none) (op := (.store 1 (.tmp 42) (.tmp 40))) (g := none) (v := .un) (ups := [(32, ⟨0, some (.own 50 4 (e_GTok.cells (p71.set m27 (GTok.mk z28.Kind z28.Cmd z28.Opt z26))))⟩)]) (j := 13) (t1 := [(32, true)]) (acc' := [[], [], [(32, false)], [], [(32, false)], [], [(32, false)], [], [(56, false)], [], [(32, false)], [], [(32, true)]]) (by kernel_rfl) (by kernel_rfl) rfl (by kernel_rfl) (by kernel_rfl) (ev_storeM e_GTok (b := 32) (g := 0) (o := (0 + m27) * 4 + 3) (e := 50) (k := 4) (m := m27) (fo := 3) (xs := p71) (z := z28) (z' := (GTok.mk z28.Kind z28.Cmd z28.Opt z26)) (by kernel_rfl) (new := ((.d (.str z26)) :: [])) (ds := [.str z26]) (by kernel_rfl) (by kernel_rfl) (by kernel_rfl) (by rw [Nat.zero_add]; rfl) hz28 (by kernel_rfl) (by kernel_rfl) (by kernel_rfl)) ?_
        have ez29 := Option.some.inj hz29
        have lz29 : p71.length = z29.length := by rw [← ez29, List.length_set]
        rw [ez29]
        try delta f15_l0_j2_J
        try rw [lz29]
        refine zdEnd (by kernel_rfl) (by kernel_rfl) ?_
        refine zkBlk ?_
        refine zkBlk ?_
        refine zkSeq ?_
        refine zrReg ?_
        refine zlRun (n := 2) (j := 2) rfl (by kernel_rfl) ?_
        refine zlEnd (by kernel_rfl) ?_
        refine zkNil ?_
        exact endQ hS hQ (finL_n (by show keepSt _ _ _ _ = _; kernel_rfl))
      · replace hS := cond_f hc hS
        refine zrCondF (by kernel_rfl) ?_
        refine zrReg ?_
        refine zlRun (n := 3) (j := 3) rfl (by kernel_rfl) ?_
        refine bindE hS (fun z30 hz30 hS => ?_)
        refine zlOp (d := some 16) (op := (.app 50 4 40 (.tmp 13) (.tmp 15))) (g := none) (v := (.r (.msl 32 1 0 z30.length))) (ups := [(32, ⟨1, some (.own 50 4 (e_GTok.cells z30))⟩)]) (j := 4) rfl (by kernel_rfl) (by kernel_rfl) (ev_app e_GTok (b := 32) (g := 0) (n := p71.length) (xs := p71) (ys := [z22]) ((congrArg (asL _) (by kernel_rfl : ρof _ (.tmp 15) = (.r (.msl 128 1 0 (([z22] : List GTok).length))))).trans (as_whole e_GTok (e := 50) (k := 4) (xs := [z22]) (by kernel_rfl) rfl rfl)) rfl (by kernel_rfl) rfl (by kernel_rfl) rfl hz30) ?_
        refine zlRun (n := 2) (j := 6) rfl (by kernel_rfl) ?_
        refine zlEnd (by kernel_rfl) ?_
        refine zkBlk ?_
        refine zkBlk ?_
        refine zkSeq ?_
        refine zrReg ?_
        refine zlRun (n := 2) (j := 2) rfl (by kernel_rfl) ?_
        refine zlEnd (by kernel_rfl) ?_
        refine zkNil ?_
        exact endQ hS hQ (finL_n (by show keepSt _ _ _ _ = _; kernel_rfl))
def f15_l0_j1_J (a1 : List GTok) (p67 : List GTok) (p68 : Bool) (p69 : Int) (p70 : Bool) : St := ⟨(up (up (up (up (up (up (fun _ => .un) 10 (.d (.bool p70))) 9 (.d (.int .i64 p69))) 8 (.d (.int .i64 (a1.length : Int)))) 7 (.d (.sl a1.length (e_GTok.cells a1)))) 4 (.d (.bool p68))) 3 (.r (.msl 32 0 0 p67.length))), (up (hB fun _ => 0) 32 ⟨0, some (.own 50 4 (e_GTok.cells p67))⟩)⟩
noncomputable def f15_l0_j1 (a1 : List GTok) (p67 : List GTok) (p68 : Bool) (p69 : Int) (p70 : Bool) : Option (((List GTok) × Bool × Int) ⊕ (((List GTok)))) := (bif p70 then (f15_l0_j2 a1 p67 p68 p69) else (some (.inr p67)))
theorem f15_l0_j1_ok {d : Nat} (hd : 1 ≤ d) (a1 : List GTok) {r : ((List GTok) × Bool × Int) ⊕ (((List GTok)))} {Q : PX → St → Prop} (hQ : ∀ e st', finL (f15_l0_H a1) (f15_l0_X a1) r e st' → Q e st') (p67 : List GTok) (p68 : Bool) (p69 : Int) (p70 : Bool) (hS : f15_l0_j1 a1 p67 p68 p69 p70 = some r) {st : St} (he : keepSt [3, 4, 7, 8, 9, 10] [(32, .id 32)] [] st = f15_l0_j1_J a1 p67 p68 p69 p70) : ZR (lev codes baseL (d - 1)) Q c15_2 [] st := by
  refine zrKeep he ?_
  unfold f15_l0_j1 at hS
  refine zrSeq ?_
  refine zrSplit 10 p70 (by kernel_rfl) (fun hc => ?_) (fun hc => ?_)
  · replace hS := cond_t hc hS
    refine zrCondT (by kernel_rfl) ?_
    refine zrSkip ?_
    refine zkSeq ?_
    exact f15_l0_j2_ok hd a1 hQ p67 p68 p69 hS (by kernel_rfl)
  · replace hS := cond_f hc hS
    refine zrCondF (by kernel_rfl) ?_
    refine zrKeep (J := f15_l0_e0_J a1 p67) (by kernel_rfl) ?_
    refine zrExit ?_
    refine zkSeqX ?_
    refine zkNil ?_
    exact endQ hS hQ (finL_x (by intro h; cases h) (by show _ = _ ∧ _ = _; exact ⟨rfl, rfl⟩))
noncomputable def f15_l0 (a1 : List GTok) (x : (List GTok) × Bool × Int) : Option (((List GTok) × Bool × Int) ⊕ (((List GTok)))) := (bif (decide (x.2.2 < (a1.length : Int))) then (f15_l0_j1 a1 x.1 x.2.1 x.2.2 true) else (f15_l0_j1 a1 x.1 x.2.1 x.2.2 false))
theorem f15_l0_ok {d : Nat} (hd : 1 ≤ d) (a1 : List GTok) {r : ((List GTok) × Bool × Int) ⊕ (((List GTok)))} {Q : PX → St → Prop} (hQ : ∀ e st', finL (f15_l0_H a1) (f15_l0_X a1) r e st' → Q e st') {x : (List GTok) × Bool × Int} (hS : f15_l0 a1 x = some r) {st : St} (he : f15_l0_H a1 x st) : ZR (lev codes baseL (d - 1)) Q c15_3 [] st := by
  refine zrKeep he ?_
  unfold f15_l0 at hS
  refine zrSeq ?_
  refine zrReg ?_
  refine zlBool (d := 10) (op := (.cmpI .lss (.tmp 9) (.tmp 8))) (g := none) (j := 1) (decide (x.2.2 < (a1.length : Int))) rfl (by kernel_rfl) (by kernel_rfl) (by kernel_rfl) (fun hc => ?_) (fun hc => ?_)
  · replace hS := cond_t hc hS
    refine zlEnd (by kernel_rfl) ?_
    refine zkSeq ?_
    exact f15_l0_j1_ok hd a1 hQ x.1 x.2.1 x.2.2 true hS (by kernel_rfl)
  · replace hS := cond_f hc hS
    refine zlEnd (by kernel_rfl) ?_
    refine zkSeq ?_
    exact f15_l0_j1_ok hd a1 hQ x.1 x.2.1 x.2.2 false hS (by kernel_rfl)
noncomputable def f15 (a1 : List GTok) : Option ((List GTok)) := ((loopO (f15_l0 a1) ([], false, 0)).bind fun z31 => (some z31))
theorem f15_ok (d : Nat) (hd : 1 ≤ d) (a1 : List GTok) (r : (List GTok)) (hS : f15 a1 = some r) : lev codes baseL d 15 [(.d (.sl a1.length (e_GTok.cells a1)))] [] = some ((.r (.own 0 50 4 r.length (e_GTok.cells r))), []) := by
  refine lev_go codes15 rfl rfl (Nat.le_trans (Nat.le_of_ble_eq_true rfl) hd) fun Q hQ => ?_
  unfold f15 at hS
  show ZR _ Q c15_b [] _
  replace hQ : ∀ e st', f15_Q r e st' → Q e st' := hQ
  refine zrSeq ?_
  refine zrReg ?_
  refine zlRun (n := 1) (j := 1) rfl (by kernel_rfl) ?_
  refine zlEnd (by kernel_rfl) ?_
  refine zkSeq ?_
  refine zrSeq ?_
  refine zrReg ?_
  refine zlRun (n := 1) (j := 1) rfl (by kernel_rfl) ?_
  refine zlEnd (by kernel_rfl) ?_
  refine zkSeq ?_
  refine zrSeq ?_
  refine zrReg ?_
  refine zlRun (n := 1) (j := 1) rfl (by kernel_rfl) ?_
  refine zlEnd (by kernel_rfl) ?_
  refine zkSeq ?_
  refine zrSeq ?_
  refine zrSeq ?_
  refine zrReg ?_
  refine zlRun (n := 3) (j := 3) rfl (by kernel_rfl) ?_
  refine zlEnd (by kernel_rfl) ?_
  refine zkSeq ?_
  refine zrBlk ?_
  refine bindE hS (fun z31 hz31 hS => ?_)
  refine zrLoop (f15_l0_H a1) (f15_l0_X a1) (fun x st r Q h0 hS hQ => f15_l0_ok hd a1 hQ hS h0) (x := ([], false, 0)) (z := z31) (by show keepSt _ _ _ _ = _; kernel_rfl) hz31 ?_
  intro e st' _ hX
  obtain ⟨rfl, rfl⟩ : _ ∧ _ := hX
  refine zkBlkX ?_
  refine zkSeq ?_
  refine zrSeq ?_
  refine zrReg ?_
  refine zlRun (n := 2) (j := 2) rfl (by kernel_rfl) ?_
  refine zlEnd (by kernel_rfl) ?_
  refine zkSeq ?_
  refine zrRet ?_
  refine zkNil ?_
  exact endQ hS hQ (fRet (by kernel_rfl) ((congrArg (fun s => outR s 0 c15.res) (by kernel_rfl : finSt c15.fin _ = f15_fin z31)).trans (f15_out z31)))
end Go.Proofs.YthblnlmpfgfgcaaDoor.Pm
