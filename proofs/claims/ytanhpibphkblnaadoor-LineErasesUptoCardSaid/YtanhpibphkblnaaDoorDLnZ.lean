/- The laws out of their typed functions. Printed by dec.py. -/
import Derived.Test.YtanhpibphkblnaaDoorPb
import Derived.Test.YtanhpibphkblnaaDoorDLnE
import Derived.Test.YtanhpibphkblnaaDoorDLnL
namespace Go.Proofs.YtanhpibphkblnaaDoor.Pm
set_option maxRecDepth 1000000
set_option maxHeartbeats 20000000
set_option linter.unusedVariables false
open Go.Proofs.YtanhpibphkblnaaDoor.Args
open Go.ChangeShapes Go.WideShapes Go.ChangeAt Go.RowKit
def V46 (m : Option Nat) (x : GEditor) : Prop := (x.Buf.length ≤ maxLen ∧ FitN m x.Buf.length 1) ∧ True
theorem opn46 : Opn Go.Proofs.Tryd.prog 46 e_GEditor V46 := ⟨fun m w cs h => by
  obtain ⟨hl, hf⟩ := h.struct rfl
  obtain ⟨x0, v0, r0⟩ := (opn_str (P := Go.Proofs.Tryd.prog) (t := 9) rfl rfl).field hf 0 _ rfl rfl
  obtain ⟨x1, v1, r1⟩ := (opn_bool (P := Go.Proofs.Tryd.prog) (t := 4) rfl rfl).field hf 1 _ rfl rfl
  refine ⟨⟨x0, x1⟩, ⟨v0, v1⟩, ?_⟩
  have hz : RepCs w [] (cs.drop 2) := List.drop_eq_nil_of_le (Nat.le_of_eq (hl.trans rfl))
  exact (List.drop_zero (l := cs)) ▸ ((parts2 (o := 0) r0 (parts2 (o := 1) r1 hz)) : RepCs w _ (cs.drop 0)), rfl⟩
def e_GKeys : Enc GKeys := (eCat (ePre GKeys.Levels (eArr 19 eU8)) (eCat (ePre GKeys.Chars (eArr 19 eU8)) eNil))
def V49 (m : Option Nat) (x : GKeys) : Prop := (∀ i, i < 19 → True) ∧ (∀ i, i < 19 → True)
theorem opn49 : Opn Go.Proofs.Tryd.prog 49 e_GKeys V49 := ⟨fun m w cs h => by
  obtain ⟨hl, hf⟩ := h.struct rfl
  obtain ⟨x0, v0, r0⟩ := (opn_arr (P := Go.Proofs.Tryd.prog) (t := 47) (e := 5) rfl (opn_u8 (P := Go.Proofs.Tryd.prog) (t := 5) rfl rfl) rfl).field hf 0 _ rfl rfl
  obtain ⟨x1, v1, r1⟩ := (opn_arr (P := Go.Proofs.Tryd.prog) (t := 47) (e := 5) rfl (opn_u8 (P := Go.Proofs.Tryd.prog) (t := 5) rfl rfl) rfl).field hf 1 _ rfl rfl
  refine ⟨⟨x0, x1⟩, ⟨v0, v1⟩, ?_⟩
  have hz : RepCs w [] (cs.drop 38) := List.drop_eq_nil_of_le (Nat.le_of_eq (hl.trans rfl))
  exact (List.drop_zero (l := cs)) ▸ ((parts2 (o := 0) r0 (parts2 (o := 19) r1 hz)) : RepCs w _ (cs.drop 0)), rfl⟩
def e_GMask : Enc GMask := (eCat (ePre GMask.Bits (eArr 4 (eInt .u64))) eNil)
def V25 (m : Option Nat) (x : GMask) : Prop := (∀ i, i < 4 → (Lit.int .u64 (x.Bits i)).wf = true)
theorem opn25 : Opn Go.Proofs.Tryd.prog 25 e_GMask V25 := ⟨fun m w cs h => by
  obtain ⟨hl, hf⟩ := h.struct rfl
  obtain ⟨x0, v0, r0⟩ := (opn_arr (P := Go.Proofs.Tryd.prog) (t := 23) (e := 22) rfl (opn_int (P := Go.Proofs.Tryd.prog) (t := 22) (k := .u64) rfl rfl) rfl).field hf 0 _ rfl rfl
  refine ⟨⟨x0⟩, v0, ?_⟩
  have hz : RepCs w [] (cs.drop 4) := List.drop_eq_nil_of_le (Nat.le_of_eq (hl.trans rfl))
  exact (List.drop_zero (l := cs)) ▸ ((parts2 (o := 0) r0 hz) : RepCs w _ (cs.drop 0)), rfl⟩
/-- LineCuts out of its typed function. -/
theorem LineCuts_calls (m : Option Nat) (H : ∀ (a1 : GEditor) (a2 : GKeys) (a3 : GMask) (a4 : List UInt8) (a5 : List UInt8), V46 m a1 → V49 m a2 → V25 m a3 → (a4.length ≤ maxLen ∧ FitN m a4.length 1) → (a5.length ≤ maxLen ∧ FitN m a5.length 1) → f7 a1 a2 a3 a4 a5 = some true)
    (v0 : Value) (v1 : Value) (v2 : Value) (v3 : Value) (v4 : Value) (w : World) (h0 : Arg m Go.Proofs.Tryd.prog w 46 v0) (h1 : Arg m Go.Proofs.Tryd.prog w 49 v1) (h2 : Arg m Go.Proofs.Tryd.prog w 25 v2) (h3 : Arg m Go.Proofs.Tryd.prog w 9 v3) (h4 : Arg m Go.Proofs.Tryd.prog w 9 v4) : Calls Go.Proofs.Tryd.prog 7 #[v0, v1, v2, v3, v4] w fun e w' => e = .returned (.bool true) ∧ Below w.heap.size w w' := by
  obtain ⟨c0, rfl, g0⟩ := h0.agg (.inl ⟨_, rfl⟩)
  obtain ⟨x0, y0, r0⟩ := opn46.op m w _ g0
  obtain ⟨c1, rfl, g1⟩ := h1.agg (.inl ⟨_, rfl⟩)
  obtain ⟨x1, y1, r1⟩ := opn49.op m w _ g1
  obtain ⟨c2, rfl, g2⟩ := h2.agg (.inl ⟨_, rfl⟩)
  obtain ⟨x2, y2, r2⟩ := opn25.op m w _ g2
  obtain ⟨x3, y3, r3⟩ := (opn_str (P := Go.Proofs.Tryd.prog) (t := 9) rfl rfl).op m w _ h3.1
  obtain ⟨n3, rfl, _⟩ := h3.string rfl
  obtain ⟨u3, _, e3, r3, q3⟩ := r3
  cases q3; cases e3
  obtain ⟨x4, y4, r4⟩ := (opn_str (P := Go.Proofs.Tryd.prog) (t := 9) rfl rfl).op m w _ h4.1
  obtain ⟨n4, rfl, _⟩ := h4.string rfl
  obtain ⟨u4, _, e4, r4, q4⟩ := r4
  cases q4; cases e4
  exact law_calls (baseL_snd _ _) codes_ok (f7_ok 6 (Nat.le_refl _) x0 x1 x2 x3 x4 true (H x0 x1 x2 x3 x4 y0 y1 y2 y3 y4)) ⟨_, _, rfl, arg_agg r0, ⟨_, _, rfl, ⟨_, rfl, by have q := r1.repL (R := fun _ _ => False); simpa only [e_GKeys, e_GMask, eCat, ePre, eNil, List.map_append, eArr_map, List.map_cons, List.map_nil, List.append_nil, List.cons_append, List.nil_append] using q⟩, ⟨_, _, rfl, ⟨_, rfl, by have q := r2.repL (R := fun _ _ => False); simpa only [e_GKeys, e_GMask, eCat, ePre, eNil, List.map_append, eArr_map, List.map_cons, List.map_nil, List.append_nil, List.cons_append, List.nil_append] using q⟩, ⟨_, _, rfl, r3, ⟨_, _, rfl, r4, rfl⟩⟩⟩⟩⟩
/-- LineErases out of its typed function. -/
theorem LineErases_calls (m : Option Nat) (H : ∀ (a1 : GEditor) (a2 : List UInt8) (a3 : Bool), V46 m a1 → (a2.length ≤ maxLen ∧ FitN m a2.length 1) → True → f8 a1 a2 a3 = some true)
    (v0 : Value) (v1 : Value) (v2 : Value) (w : World) (h0 : Arg m Go.Proofs.Tryd.prog w 46 v0) (h1 : Arg m Go.Proofs.Tryd.prog w 9 v1) (h2 : Arg m Go.Proofs.Tryd.prog w 4 v2) : Calls Go.Proofs.Tryd.prog 8 #[v0, v1, v2] w fun e w' => e = .returned (.bool true) ∧ Below w.heap.size w w' := by
  obtain ⟨c0, rfl, g0⟩ := h0.agg (.inl ⟨_, rfl⟩)
  obtain ⟨x0, y0, r0⟩ := opn46.op m w _ g0
  obtain ⟨x1, y1, r1⟩ := (opn_str (P := Go.Proofs.Tryd.prog) (t := 9) rfl rfl).op m w _ h1.1
  obtain ⟨n1, rfl, _⟩ := h1.string rfl
  obtain ⟨u1, _, e1, r1, q1⟩ := r1
  cases q1; cases e1
  obtain ⟨x2, y2, r2⟩ := (opn_bool (P := Go.Proofs.Tryd.prog) (t := 4) rfl rfl).op m w _ h2.1
  obtain ⟨n2, rfl⟩ := h2.bool rfl
  obtain ⟨u2, _, e2, r2, q2⟩ := r2
  cases q2; cases e2
  exact law_calls (baseL_snd _ _) codes_ok (f8_ok 6 (Nat.le_refl _) x0 x1 x2 true (H x0 x1 x2 y0 y1 y2)) ⟨_, _, rfl, arg_agg r0, ⟨_, _, rfl, r1, ⟨_, _, rfl, r2, rfl⟩⟩⟩
end Go.Proofs.YtanhpibphkblnaaDoor.Pm
