/- The laws out of their typed functions. Printed by dec.py. -/
import Derived.Test.YtddnpgmmlfbhfaaPb
import Derived.Test.YtddnpgmmlfbhfaaDQE
namespace Go.Proofs.Ytddnpgmmlfbhfaa.Pm
set_option maxRecDepth 1000000
set_option maxHeartbeats 20000000
set_option linter.unusedVariables false
open Go.Proofs.Ytddnpgmmlfbhfaa.Args
open Go.ChangeShapes Go.WideShapes Go.ChangeAt Go.RowKit
def e_GNeg : Enc GNeg := (eCat (ePre GNeg.Us (eArr 256 eU8)) (eCat (ePre GNeg.Him (eArr 256 eU8)) (eCat (ePre GNeg.UsOk (eArr 4 (eInt .u64))) (eCat (ePre GNeg.HimOk (eArr 4 (eInt .u64))) eNil))))
def V35 (m : Option Nat) (x : GNeg) : Prop := (∀ i, i < 256 → True) ∧ (∀ i, i < 256 → True) ∧ (∀ i, i < 4 → (Lit.int .u64 (x.UsOk i)).wf = true) ∧ (∀ i, i < 4 → (Lit.int .u64 (x.HimOk i)).wf = true)
theorem opn35 : Opn Go.Proofs.Try.prog 35 e_GNeg V35 := ⟨fun m w cs h => by
  obtain ⟨hl, hf⟩ := h.struct rfl
  obtain ⟨x0, v0, r0⟩ := (opn_arr (P := Go.Proofs.Try.prog) (t := 31) (e := 5) rfl (opn_u8 (P := Go.Proofs.Try.prog) (t := 5) rfl rfl) rfl).field hf 0 _ rfl rfl
  obtain ⟨x1, v1, r1⟩ := (opn_arr (P := Go.Proofs.Try.prog) (t := 31) (e := 5) rfl (opn_u8 (P := Go.Proofs.Try.prog) (t := 5) rfl rfl) rfl).field hf 1 _ rfl rfl
  obtain ⟨x2, v2, r2⟩ := (opn_arr (P := Go.Proofs.Try.prog) (t := 33) (e := 32) rfl (opn_int (P := Go.Proofs.Try.prog) (t := 32) (k := .u64) rfl rfl) rfl).field hf 2 _ rfl rfl
  obtain ⟨x3, v3, r3⟩ := (opn_arr (P := Go.Proofs.Try.prog) (t := 33) (e := 32) rfl (opn_int (P := Go.Proofs.Try.prog) (t := 32) (k := .u64) rfl rfl) rfl).field hf 3 _ rfl rfl
  refine ⟨⟨x0, x1, x2, x3⟩, ⟨v0, v1, v2, v3⟩, ?_⟩
  have hz : RepCs w [] (cs.drop 520) := List.drop_eq_nil_of_le (Nat.le_of_eq (hl.trans rfl))
  exact (List.drop_zero (l := cs)) ▸ ((parts2 (o := 0) r0 (parts2 (o := 256) r1 (parts2 (o := 512) r2 (parts2 (o := 516) r3 hz)))) : RepCs w _ (cs.drop 0)), rfl⟩
def V37 (m : Option Nat) (x : GTok) : Prop := (Lit.int .i64 x.Kind).wf = true ∧ (Lit.int .i64 x.Cmd).wf = true ∧ (Lit.int .i64 x.Opt).wf = true ∧ (x.Data.length ≤ maxLen ∧ FitN m x.Data.length 1)
theorem opn37 : Opn Go.Proofs.Try.prog 37 e_GTok V37 := ⟨fun m w cs h => by
  obtain ⟨hl, hf⟩ := h.struct rfl
  obtain ⟨x0, v0, r0⟩ := (opn_int (P := Go.Proofs.Try.prog) (t := 3) (k := .i64) rfl rfl).field hf 0 _ rfl rfl
  obtain ⟨x1, v1, r1⟩ := (opn_int (P := Go.Proofs.Try.prog) (t := 3) (k := .i64) rfl rfl).field hf 1 _ rfl rfl
  obtain ⟨x2, v2, r2⟩ := (opn_int (P := Go.Proofs.Try.prog) (t := 3) (k := .i64) rfl rfl).field hf 2 _ rfl rfl
  obtain ⟨x3, v3, r3⟩ := (opn_str (P := Go.Proofs.Try.prog) (t := 9) rfl rfl).field hf 3 _ rfl rfl
  refine ⟨⟨x0, x1, x2, x3⟩, ⟨v0, v1, v2, v3⟩, ?_⟩
  have hz : RepCs w [] (cs.drop 4) := List.drop_eq_nil_of_le (Nat.le_of_eq (hl.trans rfl))
  exact (List.drop_zero (l := cs)) ▸ ((parts2 (o := 0) r0 (parts2 (o := 1) r1 (parts2 (o := 2) r2 (parts2 (o := 3) r3 hz)))) : RepCs w _ (cs.drop 0)), rfl⟩
/-- QnegAlone out of its typed function. -/
theorem QnegAlone_calls (m : Option Nat) (H : ∀ (a1 : GNeg) (a2 : GTok) (a3 : Bool) (a4 : Int) (a5 : Bool), V35 m a1 → V37 m a2 → True → (Lit.int .i64 a4).wf = true → True → f7 a1 a2 a3 a4 a5 = some true)
    (v0 : Value) (v1 : Value) (v2 : Value) (v3 : Value) (v4 : Value) (w : World) (h0 : Arg m Go.Proofs.Try.prog w 35 v0) (h1 : Arg m Go.Proofs.Try.prog w 37 v1) (h2 : Arg m Go.Proofs.Try.prog w 4 v2) (h3 : Arg m Go.Proofs.Try.prog w 3 v3) (h4 : Arg m Go.Proofs.Try.prog w 4 v4) : Calls Go.Proofs.Try.prog 7 #[v0, v1, v2, v3, v4] w fun e w' => e = .returned (.bool true) ∧ Below w.heap.size w w' := by
  obtain ⟨c0, rfl, g0⟩ := h0.agg (.inl ⟨_, rfl⟩)
  obtain ⟨x0, y0, r0⟩ := opn35.op m w _ g0
  obtain ⟨c1, rfl, g1⟩ := h1.agg (.inl ⟨_, rfl⟩)
  obtain ⟨x1, y1, r1⟩ := opn37.op m w _ g1
  obtain ⟨x2, y2, r2⟩ := (opn_bool (P := Go.Proofs.Try.prog) (t := 4) rfl rfl).op m w _ h2.1
  obtain ⟨n2, rfl⟩ := h2.bool rfl
  obtain ⟨u2, _, e2, r2, q2⟩ := r2
  cases q2; cases e2
  obtain ⟨x3, y3, r3⟩ := (opn_int (P := Go.Proofs.Try.prog) (t := 3) (k := .i64) rfl rfl).op m w _ h3.1
  obtain ⟨n3, rfl, _⟩ := h3.int rfl
  obtain ⟨u3, _, e3, r3, q3⟩ := r3
  cases q3; cases e3
  obtain ⟨x4, y4, r4⟩ := (opn_bool (P := Go.Proofs.Try.prog) (t := 4) rfl rfl).op m w _ h4.1
  obtain ⟨n4, rfl⟩ := h4.bool rfl
  obtain ⟨u4, _, e4, r4, q4⟩ := r4
  cases q4; cases e4
  exact law_calls (base0_snd _) codes_ok (f7_ok base0 5 (Nat.le_refl _) x0 x1 x2 x3 x4 true (H x0 x1 x2 x3 x4 y0 y1 y2 y3 y4)) ⟨_, _, rfl, ⟨_, rfl, by have q := r0.repL (R := fun _ _ => False); simpa only [e_GNeg, eCat, ePre, eNil, List.map_append, eArr_map, List.map_cons, List.map_nil, List.append_nil, List.cons_append, List.nil_append] using q⟩, ⟨_, _, rfl, arg_agg r1, ⟨_, _, rfl, r2, ⟨_, _, rfl, r3, ⟨_, _, rfl, r4, rfl⟩⟩⟩⟩⟩
end Go.Proofs.Ytddnpgmmlfbhfaa.Pm
