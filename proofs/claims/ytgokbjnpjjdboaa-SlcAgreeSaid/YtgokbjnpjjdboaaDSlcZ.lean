/- The laws out of their typed functions. Printed by dec.py. -/
import Derived.Test.YtgokbjnpjjdboaaPb
import Derived.Test.YtgokbjnpjjdboaaDSlcE
namespace Go.Proofs.Ytgokbjnpjjdboaa.Pm
set_option maxRecDepth 1000000
set_option maxHeartbeats 20000000
set_option linter.unusedVariables false
open Go.Proofs.Ytgokbjnpjjdboaa.Args
open Go.ChangeShapes Go.WideShapes Go.ChangeAt Go.RowKit
def e_GKeys : Enc GKeys := (eCat (ePre GKeys.Levels (eArr 19 eU8)) (eCat (ePre GKeys.Chars (eArr 19 eU8)) eNil))
def V52 (m : Option Nat) (x : GKeys) : Prop := (∀ i, i < 19 → True) ∧ (∀ i, i < 19 → True)
theorem opn52 : Opn Go.Proofs.Try.prog 52 e_GKeys V52 := ⟨fun m w cs h => by
  obtain ⟨hl, hf⟩ := h.struct rfl
  obtain ⟨x0, v0, r0⟩ := (opn_arr (P := Go.Proofs.Try.prog) (t := 50) (e := 5) rfl (opn_u8 (P := Go.Proofs.Try.prog) (t := 5) rfl rfl) rfl).field hf 0 _ rfl rfl
  obtain ⟨x1, v1, r1⟩ := (opn_arr (P := Go.Proofs.Try.prog) (t := 50) (e := 5) rfl (opn_u8 (P := Go.Proofs.Try.prog) (t := 5) rfl rfl) rfl).field hf 1 _ rfl rfl
  refine ⟨⟨x0, x1⟩, ⟨v0, v1⟩, ?_⟩
  have hz : RepCs w [] (cs.drop 38) := List.drop_eq_nil_of_le (Nat.le_of_eq (hl.trans rfl))
  exact (List.drop_zero (l := cs)) ▸ ((parts2 (o := 0) r0 (parts2 (o := 19) r1 hz)) : RepCs w _ (cs.drop 0)), rfl⟩
/-- SlcAgree out of its typed function. -/
theorem SlcAgree_calls (m : Option Nat) (H : ∀ (a1 : GKeys) (a2 : GKeys), V52 m a1 → V52 m a2 → f13 a1 a2 = some true)
    (v0 : Value) (v1 : Value) (w : World) (h0 : Arg m Go.Proofs.Try.prog w 52 v0) (h1 : Arg m Go.Proofs.Try.prog w 52 v1) : Calls Go.Proofs.Try.prog 13 #[v0, v1] w fun e w' => e = .returned (.bool true) ∧ Below w.heap.size w w' := by
  obtain ⟨c0, rfl, g0⟩ := h0.agg (.inl ⟨_, rfl⟩)
  obtain ⟨x0, y0, r0⟩ := opn52.op m w _ g0
  obtain ⟨c1, rfl, g1⟩ := h1.agg (.inl ⟨_, rfl⟩)
  obtain ⟨x1, y1, r1⟩ := opn52.op m w _ g1
  exact law_calls (base0_snd _) codes_ok (f13_ok base0 4 (Nat.le_refl _) x0 x1 true (H x0 x1 y0 y1)) ⟨_, _, rfl, ⟨_, rfl, by have q := r0.repL (R := fun _ _ => False); simpa only [e_GKeys, eCat, ePre, eNil, List.map_append, eArr_map, List.map_cons, List.map_nil, List.append_nil, List.cons_append, List.nil_append] using q⟩, ⟨_, _, rfl, ⟨_, rfl, by have q := r1.repL (R := fun _ _ => False); simpa only [e_GKeys, eCat, ePre, eNil, List.map_append, eArr_map, List.map_cons, List.map_nil, List.append_nil, List.cons_append, List.nil_append] using q⟩, rfl⟩⟩
end Go.Proofs.Ytgokbjnpjjdboaa.Pm
