/- The laws out of their typed functions. Printed by dec.py. -/
import Derived.Test.YtjbealoilhjadaaDoorPb
import Derived.Test.YtjbealoilhjadaaDoorDLsD
import Derived.Test.YtjbealoilhjadaaDoorDLsL
namespace Go.Proofs.YtjbealoilhjadaaDoor.Pm
set_option maxRecDepth 1000000
set_option maxHeartbeats 20000000
set_option linter.unusedVariables false
open Go.Proofs.YtjbealoilhjadaaDoor.Args
open Go.ChangeShapes Go.WideShapes Go.ChangeAt Go.RowKit
def e_GKeys : Enc GKeys := (eCat (ePre GKeys.Levels (eArr 19 eU8)) (eCat (ePre GKeys.Chars (eArr 19 eU8)) eNil))
def V24 (m : Option Nat) (x : GKeys) : Prop := (∀ i, i < 19 → True) ∧ (∀ i, i < 19 → True)
theorem opn24 : Opn Go.Proofs.Tryd.prog 24 e_GKeys V24 := ⟨fun m w cs h => by
  obtain ⟨hl, hf⟩ := h.struct rfl
  obtain ⟨x0, v0, r0⟩ := (opn_arr (P := Go.Proofs.Tryd.prog) (t := 22) (e := 5) rfl (opn_u8 (P := Go.Proofs.Tryd.prog) (t := 5) rfl rfl) rfl).field hf 0 _ rfl rfl
  obtain ⟨x1, v1, r1⟩ := (opn_arr (P := Go.Proofs.Tryd.prog) (t := 22) (e := 5) rfl (opn_u8 (P := Go.Proofs.Tryd.prog) (t := 5) rfl rfl) rfl).field hf 1 _ rfl rfl
  refine ⟨⟨x0, x1⟩, ⟨v0, v1⟩, ?_⟩
  have hz : RepCs w [] (cs.drop 38) := List.drop_eq_nil_of_le (Nat.le_of_eq (hl.trans rfl))
  exact (List.drop_zero (l := cs)) ▸ ((parts2 (o := 0) r0 (parts2 (o := 19) r1 hz)) : RepCs w _ (cs.drop 0)), rfl⟩
/-- LineShows out of its typed function. -/
theorem LineShows_calls (m : Option Nat) (H : ∀ (a1 : GKeys) (a2 : List UInt8), V24 m a1 → (a2.length ≤ maxLen ∧ FitN m a2.length 1) → f3 a1 a2 = some true)
    (v0 : Value) (v1 : Value) (w : World) (h0 : Arg m Go.Proofs.Tryd.prog w 24 v0) (h1 : Arg m Go.Proofs.Tryd.prog w 9 v1) : Calls Go.Proofs.Tryd.prog 3 #[v0, v1] w fun e w' => e = .returned (.bool true) ∧ Below w.heap.size w w' := by
  obtain ⟨c0, rfl, g0⟩ := h0.agg (.inl ⟨_, rfl⟩)
  obtain ⟨x0, y0, r0⟩ := opn24.op m w _ g0
  obtain ⟨x1, y1, r1⟩ := (opn_str (P := Go.Proofs.Tryd.prog) (t := 9) rfl rfl).op m w _ h1.1
  obtain ⟨n1, rfl, _⟩ := h1.string rfl
  obtain ⟨u1, _, e1, r1, q1⟩ := r1
  cases q1; cases e1
  exact law_calls (baseL_snd _ _) codes_ok (f3_ok 6 (Nat.le_refl _) x0 x1 true (H x0 x1 y0 y1)) ⟨_, _, rfl, ⟨_, rfl, by have q := r0.repL (R := fun _ _ => False); simp only [e_GKeys, eCat, ePre, eNil, List.map_append, eArr_map, List.map_cons, List.map_nil, List.append_nil, List.cons_append, List.nil_append] at q; exact Eq.mp (by kernel_rfl) q⟩, ⟨_, _, rfl, r1, rfl⟩⟩
end Go.Proofs.YtjbealoilhjadaaDoor.Pm
