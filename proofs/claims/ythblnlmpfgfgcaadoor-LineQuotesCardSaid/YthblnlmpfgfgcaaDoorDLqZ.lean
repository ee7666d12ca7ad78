/- The laws out of their typed functions. Printed by dec.py. -/
import Derived.Test.YthblnlmpfgfgcaaDoorPb
import Derived.Test.YthblnlmpfgfgcaaDoorDLqD
import Derived.Test.YthblnlmpfgfgcaaDoorDLqL
namespace Go.Proofs.YthblnlmpfgfgcaaDoor.Pm
set_option maxRecDepth 1000000
set_option maxHeartbeats 20000000
set_option linter.unusedVariables false
open Go.Proofs.YthblnlmpfgfgcaaDoor.Args
open Go.ChangeShapes Go.WideShapes Go.ChangeAt Go.RowKit
def e_GKeys : Enc GKeys := (eCat (ePre GKeys.Levels (eArr 19 eU8)) (eCat (ePre GKeys.Chars (eArr 19 eU8)) eNil))
def V24 (m : Option Nat) (x : GKeys) : Prop := (∀ i, i < 19 → True) ∧ (∀ i, i < 19 → True)
theorem opn24 : Opn Go.Proofs.Tryd.prog 24 e_GKeys V24 := ⟨fun m w cs h => by
  obtain ⟨hl, hf⟩ := h.struct rfl
  obtain ⟨x0, v0, r0⟩ := (opn_arr (P := Go.Proofs.Tryd.prog) (t := 22) (e := 5) rfl (opn_u8 (P := Go.Proofs.Tryd.prog) (t := 5) rfl rfl) rfl).field hf 0 _ rfl rfl
  obtain ⟨x1, v1, r1⟩ := (opn_arr (P := Go.Proofs.Tryd.prog) (t := 22) (e := 5) rfl (opn_u8 (P := Go.Proofs.Tryd.prog) (t := 5) rfl rfl) rfl).field hf 1 _ rfl rfl
  refine ⟨⟨x0, x1⟩, ⟨v0, v1⟩, ?_⟩
  have hz : RepCs w [] (cs.drop 38) := List.drop_eq_nil_of_le (Nat.le_of_eq (hl.trans rfl))
  exact (List.drop_zero (l := cs)) ▸ ((parts2 (o := 0) r0 (parts2 (o := 19) r1 hz)) : RepCs w _ (cs.drop 0)), rfl⟩
def e_GMask : Enc GMask := (eCat (ePre GMask.Bits (eArr 4 (eInt .u64))) eNil)
def V28 (m : Option Nat) (x : GMask) : Prop := (∀ i, i < 4 → (Lit.int .u64 (x.Bits i)).wf = true)
theorem opn28 : Opn Go.Proofs.Tryd.prog 28 e_GMask V28 := ⟨fun m w cs h => by
  obtain ⟨hl, hf⟩ := h.struct rfl
  obtain ⟨x0, v0, r0⟩ := (opn_arr (P := Go.Proofs.Tryd.prog) (t := 26) (e := 25) rfl (opn_int (P := Go.Proofs.Tryd.prog) (t := 25) (k := .u64) rfl rfl) rfl).field hf 0 _ rfl rfl
  refine ⟨⟨x0⟩, v0, ?_⟩
  have hz : RepCs w [] (cs.drop 4) := List.drop_eq_nil_of_le (Nat.le_of_eq (hl.trans rfl))
  exact (List.drop_zero (l := cs)) ▸ ((parts2 (o := 0) r0 hz) : RepCs w _ (cs.drop 0)), rfl⟩
/-- LineQuotes out of its typed function. -/
theorem LineQuotes_calls (m : Option Nat) (H : ∀ (a1 : GKeys) (a2 : GMask) (a3 : List UInt8), V24 m a1 → V28 m a2 → (a3.length ≤ maxLen ∧ FitN m a3.length 1) → f3 a1 a2 a3 = some true)
    (v0 : Value) (v1 : Value) (v2 : Value) (w : World) (h0 : Arg m Go.Proofs.Tryd.prog w 24 v0) (h1 : Arg m Go.Proofs.Tryd.prog w 28 v1) (h2 : Arg m Go.Proofs.Tryd.prog w 9 v2) : Calls Go.Proofs.Tryd.prog 3 #[v0, v1, v2] w fun e w' => e = .returned (.bool true) ∧ Below w.heap.size w w' := by
  obtain ⟨c0, rfl, g0⟩ := h0.agg (.inl ⟨_, rfl⟩)
  obtain ⟨x0, y0, r0⟩ := opn24.op m w _ g0
  obtain ⟨c1, rfl, g1⟩ := h1.agg (.inl ⟨_, rfl⟩)
  obtain ⟨x1, y1, r1⟩ := opn28.op m w _ g1
  obtain ⟨x2, y2, r2⟩ := (opn_str (P := Go.Proofs.Tryd.prog) (t := 9) rfl rfl).op m w _ h2.1
  obtain ⟨n2, rfl, _⟩ := h2.string rfl
  obtain ⟨u2, _, e2, r2, q2⟩ := r2
  cases q2; cases e2
  exact law_calls (baseL_snd _ _) codes_ok (f3_ok 6 (Nat.le_refl _) x0 x1 x2 true (H x0 x1 x2 y0 y1 y2)) ⟨_, _, rfl, ⟨_, rfl, by have q := r0.repL (R := fun _ _ => False); simp only [e_GKeys, e_GMask, eCat, ePre, eNil, List.map_append, eArr_map, List.map_cons, List.map_nil, List.append_nil, List.cons_append, List.nil_append] at q; exact Eq.mp (by kernel_rfl) q⟩, ⟨_, _, rfl, ⟨_, rfl, by have q := r1.repL (R := fun _ _ => False); simp only [e_GKeys, e_GMask, eCat, ePre, eNil, List.map_append, eArr_map, List.map_cons, List.map_nil, List.append_nil, List.cons_append, List.nil_append] at q; exact Eq.mp (by kernel_rfl) q⟩, ⟨_, _, rfl, r2, rfl⟩⟩⟩
end Go.Proofs.YthblnlmpfgfgcaaDoor.Pm
