/- The laws out of their typed functions. Printed by dec.py. -/
import Derived.Test.YtobkkblijfhpoaaGreatDoorPb
import Derived.Test.YtobkkblijfhpoaaGreatDoorDTwI
import Derived.Test.YtobkkblijfhpoaaGreatDoorDTwL
namespace Go.Proofs.YtobkkblijfhpoaaGreatDoor.Pm
set_option maxRecDepth 1000000
set_option maxHeartbeats 20000000
set_option linter.unusedVariables false
set_option linter.unusedSimpArgs false
open Go.Proofs.YtobkkblijfhpoaaGreatDoor.Args
open Go.ChangeShapes Go.WideShapes Go.ChangeAt Go.RowKit
def e_GEnds : Enc GEnds := (eCat (ePre GEnds.UsOk (eArr 4 (eInt .u64))) (eCat (ePre GEnds.HimOk (eArr 4 (eInt .u64))) eNil))
def V25 (m : Option Nat) (x : GEnds) : Prop := (∀ i, i < 4 → (Lit.int .u64 (x.UsOk i)).wf = true) ∧ (∀ i, i < 4 → (Lit.int .u64 (x.HimOk i)).wf = true)
theorem opn25 : Opn Go.Proofs.Tryz.prog 25 e_GEnds V25 := ⟨fun m w cs h => by
 obtain ⟨hl, hf⟩ := h.struct rfl
 obtain ⟨x0, v0, r0⟩ := (opn_arr (P := Go.Proofs.Tryz.prog) (t := 23) (e := 22) rfl (opn_int (P := Go.Proofs.Tryz.prog) (t := 22) (k := .u64) rfl rfl) rfl).field hf 0 _ rfl rfl
 obtain ⟨x1, v1, r1⟩ := (opn_arr (P := Go.Proofs.Tryz.prog) (t := 23) (e := 22) rfl (opn_int (P := Go.Proofs.Tryz.prog) (t := 22) (k := .u64) rfl rfl) rfl).field hf 1 _ rfl rfl
 refine ⟨⟨x0, x1⟩, ⟨v0, v1⟩, ?_⟩
 have hz : RepCs w [] (cs.drop 8) := List.drop_eq_nil_of_le (Nat.le_of_eq (hl.trans rfl))
 exact (List.drop_zero (l := cs)) ▸ ((parts2 (o := 0) r0 (parts2 (o := 4) r1 hz)) : RepCs w _ (cs.drop 0)), rfl⟩
def V69 (m : Option Nat) (x : GKey) : Prop := (Lit.int .i64 x.Name).wf = true ∧ (Lit.int .i64 x.Rune).wf = true ∧ (Lit.int .i64 x.Mods).wf = true
theorem opn69 : Opn Go.Proofs.Tryz.prog 69 e_GKey V69 := ⟨fun m w cs h => by
 obtain ⟨hl, hf⟩ := h.struct rfl
 obtain ⟨x0, v0, r0⟩ := (opn_int (P := Go.Proofs.Tryz.prog) (t := 3) (k := .i64) rfl rfl).field hf 0 _ rfl rfl
 obtain ⟨x1, v1, r1⟩ := (opn_int (P := Go.Proofs.Tryz.prog) (t := 3) (k := .i64) rfl rfl).field hf 1 _ rfl rfl
 obtain ⟨x2, v2, r2⟩ := (opn_int (P := Go.Proofs.Tryz.prog) (t := 3) (k := .i64) rfl rfl).field hf 2 _ rfl rfl
 refine ⟨⟨x0, x1, x2⟩, ⟨v0, v1, v2⟩, ?_⟩
 have hz : RepCs w [] (cs.drop 3) := List.drop_eq_nil_of_le (Nat.le_of_eq (hl.trans rfl))
 exact (List.drop_zero (l := cs)) ▸ ((parts2 (o := 0) r0 (parts2 (o := 1) r1 (parts2 (o := 2) r2 hz))) : RepCs w _ (cs.drop 0)), rfl⟩
def V71 (m : Option Nat) (x : GMouse) : Prop := (Lit.int .i64 x.Button).wf = true ∧ (Lit.int .i64 x.Col).wf = true ∧ (Lit.int .i64 x.Row).wf = true ∧ (Lit.int .i64 x.Mods).wf = true ∧ True
theorem opn71 : Opn Go.Proofs.Tryz.prog 71 e_GMouse V71 := ⟨fun m w cs h => by
 obtain ⟨hl, hf⟩ := h.struct rfl
 obtain ⟨x0, v0, r0⟩ := (opn_int (P := Go.Proofs.Tryz.prog) (t := 3) (k := .i64) rfl rfl).field hf 0 _ rfl rfl
 obtain ⟨x1, v1, r1⟩ := (opn_int (P := Go.Proofs.Tryz.prog) (t := 3) (k := .i64) rfl rfl).field hf 1 _ rfl rfl
 obtain ⟨x2, v2, r2⟩ := (opn_int (P := Go.Proofs.Tryz.prog) (t := 3) (k := .i64) rfl rfl).field hf 2 _ rfl rfl
 obtain ⟨x3, v3, r3⟩ := (opn_int (P := Go.Proofs.Tryz.prog) (t := 3) (k := .i64) rfl rfl).field hf 3 _ rfl rfl
 obtain ⟨x4, v4, r4⟩ := (opn_bool (P := Go.Proofs.Tryz.prog) (t := 4) rfl rfl).field hf 4 _ rfl rfl
 refine ⟨⟨x0, x1, x2, x3, x4⟩, ⟨v0, v1, v2, v3, v4⟩, ?_⟩
 have hz : RepCs w [] (cs.drop 5) := List.drop_eq_nil_of_le (Nat.le_of_eq (hl.trans rfl))
 exact (List.drop_zero (l := cs)) ▸ ((parts2 (o := 0) r0 (parts2 (o := 1) r1 (parts2 (o := 2) r2 (parts2 (o := 3) r3 (parts2 (o := 4) r4 hz))))) : RepCs w _ (cs.drop 0)), rfl⟩
def V73 (m : Option Nat) (x : GEvent) : Prop := (Lit.int .i64 x.Kind).wf = true ∧ (x.Data.length ≤ maxLen ∧ FitN m x.Data.length 1) ∧ V69 m x.Key ∧ V71 m x.Mouse ∧ (FitN m x.Runes.length (Go.Proofs.Tryz.prog.bytesOf 3) ∧ ∀ y ∈ x.Runes, (Lit.int .i64 y).wf = true) ∧ (Lit.int .i64 x.Wide).wf = true ∧ (Lit.int .i64 x.High).wf = true ∧ True ∧ (Lit.int .i64 x.Opt).wf = true ∧ True
theorem opn73 : Opn Go.Proofs.Tryz.prog 73 e_GEvent V73 := ⟨fun m w cs h => by
 obtain ⟨hl, hf⟩ := h.struct rfl
 obtain ⟨x0, v0, r0⟩ := (opn_int (P := Go.Proofs.Tryz.prog) (t := 3) (k := .i64) rfl rfl).field hf 0 _ rfl rfl
 obtain ⟨x1, v1, r1⟩ := (opn_str (P := Go.Proofs.Tryz.prog) (t := 9) rfl rfl).field hf 1 _ rfl rfl
 obtain ⟨x2, v2, r2⟩ := opn69.field hf 2 _ rfl rfl
 obtain ⟨x3, v3, r3⟩ := opn71.field hf 3 _ rfl rfl
 obtain ⟨x4, v4, r4⟩ := (opn_sl (P := Go.Proofs.Tryz.prog) (t := 27) (e := 3) rfl rfl (opn_int (P := Go.Proofs.Tryz.prog) (t := 3) (k := .i64) rfl rfl) (Nat.le_of_ble_eq_true rfl)).field hf 4 _ rfl rfl
 obtain ⟨x5, v5, r5⟩ := (opn_int (P := Go.Proofs.Tryz.prog) (t := 3) (k := .i64) rfl rfl).field hf 5 _ rfl rfl
 obtain ⟨x6, v6, r6⟩ := (opn_int (P := Go.Proofs.Tryz.prog) (t := 3) (k := .i64) rfl rfl).field hf 6 _ rfl rfl
 obtain ⟨x7, v7, r7⟩ := (opn_bool (P := Go.Proofs.Tryz.prog) (t := 4) rfl rfl).field hf 7 _ rfl rfl
 obtain ⟨x8, v8, r8⟩ := (opn_int (P := Go.Proofs.Tryz.prog) (t := 3) (k := .i64) rfl rfl).field hf 8 _ rfl rfl
 obtain ⟨x9, v9, r9⟩ := (opn_bool (P := Go.Proofs.Tryz.prog) (t := 4) rfl rfl).field hf 9 _ rfl rfl
 refine ⟨⟨x0, x1, x2, x3, x4, x5, x6, x7, x8, x9⟩, ⟨v0, v1, v2, v3, v4, v5, v6, v7, v8, v9⟩, ?_⟩
 have hz : RepCs w [] (cs.drop 16) := List.drop_eq_nil_of_le (Nat.le_of_eq (hl.trans rfl))
 exact (List.drop_zero (l := cs)) ▸ ((parts2 (o := 0) r0 (parts2 (o := 1) r1 (parts2 (o := 2) r2 (parts2 (o := 5) r3 (parts2 (o := 10) r4 (parts2 (o := 11) r5 (parts2 (o := 12) r6 (parts2 (o := 13) r7 (parts2 (o := 14) r8 (parts2 (o := 15) r9 hz)))))))))) : RepCs w _ (cs.drop 0)), rfl⟩
theorem TopTwo_calls (m : Option Nat) (H : ∀ (a1 : GEnds) (a2 : GEnds) (a3 : List GEvent) (a4 : List Int), V25 m a1 → V25 m a2 → (FitN m a3.length (Go.Proofs.Tryz.prog.bytesOf 73) ∧ ∀ x ∈ a3, V73 m x) → (FitN m a4.length (Go.Proofs.Tryz.prog.bytesOf 3) ∧ ∀ x ∈ a4, (Lit.int .i64 x).wf = true) → f3 a1 a2 a3 a4 = some true)
  (v0 : Value) (v1 : Value) (v2 : Value) (v3 : Value) (w : World) (h0 : Arg m Go.Proofs.Tryz.prog w 25 v0) (h1 : Arg m Go.Proofs.Tryz.prog w 25 v1) (h2 : Arg m Go.Proofs.Tryz.prog w 26 v2) (h3 : Arg m Go.Proofs.Tryz.prog w 27 v3) (hm : ∃ m, w.cell? ⟨0, 0, none⟩ = some (.int .i64 m)) : Calls Go.Proofs.Tryz.prog 3 #[v0, v1, v2, v3] w fun e w' => e = .returned (.bool true) ∧ Below w.heap.size w w' := by
 obtain ⟨c0, rfl, g0⟩ := h0.agg (.inl ⟨_, rfl⟩)
 obtain ⟨x0, y0, r0⟩ := opn25.op m w _ g0
 obtain ⟨c1, rfl, g1⟩ := h1.agg (.inl ⟨_, rfl⟩)
 obtain ⟨x1, y1, r1⟩ := opn25.op m w _ g1
 obtain ⟨v2', rfl, g2, _⟩ := h2.slice rfl
 obtain ⟨x2, y2, r2⟩ := (opn_sl (P := Go.Proofs.Tryz.prog) (t := 26) (e := 73) rfl rfl opn73 (Nat.le_of_ble_eq_true rfl)).op m w _ g2
 obtain ⟨u2, _, e2, r2, q2⟩ := r2
 cases q2; cases e2
 obtain ⟨v3', rfl, g3, _⟩ := h3.slice rfl
 obtain ⟨x3, y3, r3⟩ := (opn_sl (P := Go.Proofs.Tryz.prog) (t := 27) (e := 3) rfl rfl (opn_int (P := Go.Proofs.Tryz.prog) (t := 3) (k := .i64) rfl rfl) (Nat.le_of_ble_eq_true rfl)).op m w _ g3
 obtain ⟨u3, _, e3, r3, q3⟩ := r3
 cases q3; cases e3
 exact law_calls (baseL_snd _ _ (fun _ _ _ h => by cases h) hm) codes_ok (f3_ok 12 (Nat.le_refl _) x0 x1 x2 x3 true (H x0 x1 x2 x3 y0 y1 y2 y3)) ⟨_, _, rfl, ⟨_, rfl, by have q := r0.repL (R := fun _ _ => False); simp only [e_GEnds, eCat, ePre, eNil, List.map_append, eArr_map, List.map_cons, List.map_nil, List.append_nil, List.cons_append, List.nil_append] at q; exact Eq.mp (by kernel_rfl) q⟩, ⟨_, _, rfl, ⟨_, rfl, by have q := r1.repL (R := fun _ _ => False); simp only [e_GEnds, eCat, ePre, eNil, List.map_append, eArr_map, List.map_cons, List.map_nil, List.append_nil, List.cons_append, List.nil_append] at q; exact Eq.mp (by kernel_rfl) q⟩, ⟨_, _, rfl, r2, ⟨_, _, rfl, r3, rfl⟩⟩⟩⟩
end Go.Proofs.YtobkkblijfhpoaaGreatDoor.Pm
