/- The laws out of their typed functions. Printed by dec.py. -/
import Derived.Test.YtbokpgemkkebnaaGreatDoorPb
import Derived.Test.YtbokpgemkkebnaaGreatDoorDWyI
import Derived.Test.YtbokpgemkkebnaaGreatDoorDWyL
namespace Go.Proofs.YtbokpgemkkebnaaGreatDoor.Pm
set_option maxRecDepth 1000000
set_option maxHeartbeats 20000000
set_option linter.unusedVariables false
open Go.Proofs.YtbokpgemkkebnaaGreatDoor.Args
open Go.ChangeShapes Go.WideShapes Go.ChangeAt Go.RowKit
def V26 (m : Option Nat) (x : GPen) : Prop := (Lit.int .i64 x.Flags).wf = true ∧ (Lit.int .i64 x.Fore).wf = true ∧ (Lit.int .i64 x.Back).wf = true
theorem opn26 : Opn Go.Proofs.Tryz.prog 26 e_GPen V26 := ⟨fun m w cs h => by
 obtain ⟨hl, hf⟩ := h.struct rfl
 obtain ⟨x0, v0, r0⟩ := (opn_int (P := Go.Proofs.Tryz.prog) (t := 3) (k := .i64) rfl rfl).field hf 0 _ rfl rfl
 obtain ⟨x1, v1, r1⟩ := (opn_int (P := Go.Proofs.Tryz.prog) (t := 3) (k := .i64) rfl rfl).field hf 1 _ rfl rfl
 obtain ⟨x2, v2, r2⟩ := (opn_int (P := Go.Proofs.Tryz.prog) (t := 3) (k := .i64) rfl rfl).field hf 2 _ rfl rfl
 refine ⟨⟨x0, x1, x2⟩, ⟨v0, v1, v2⟩, ?_⟩
 have hz : RepCs w [] (cs.drop 3) := List.drop_eq_nil_of_le (Nat.le_of_eq (hl.trans rfl))
 exact (List.drop_zero (l := cs)) ▸ ((parts2 (o := 0) r0 (parts2 (o := 1) r1 (parts2 (o := 2) r2 hz))) : RepCs w _ (cs.drop 0)), rfl⟩
def V49 (m : Option Nat) (x : GCell) : Prop := (Lit.int .i64 x.Rune).wf = true ∧ V26 m x.Pen
theorem opn49 : Opn Go.Proofs.Tryz.prog 49 e_GCell V49 := ⟨fun m w cs h => by
 obtain ⟨hl, hf⟩ := h.struct rfl
 obtain ⟨x0, v0, r0⟩ := (opn_int (P := Go.Proofs.Tryz.prog) (t := 3) (k := .i64) rfl rfl).field hf 0 _ rfl rfl
 obtain ⟨x1, v1, r1⟩ := opn26.field hf 1 _ rfl rfl
 refine ⟨⟨x0, x1⟩, ⟨v0, v1⟩, ?_⟩
 have hz : RepCs w [] (cs.drop 4) := List.drop_eq_nil_of_le (Nat.le_of_eq (hl.trans rfl))
 exact (List.drop_zero (l := cs)) ▸ ((parts2 (o := 0) r0 (parts2 (o := 1) r1 hz)) : RepCs w _ (cs.drop 0)), rfl⟩
def V24 (m : Option Nat) (x : GGrid) : Prop := (Lit.int .i64 x.Wide).wf = true ∧ (Lit.int .i64 x.High).wf = true ∧ (FitN m x.Cells.length (Go.Proofs.Tryz.prog.bytesOf 49) ∧ ∀ y ∈ x.Cells, V49 m y)
theorem opn24 : Opn Go.Proofs.Tryz.prog 24 e_GGrid V24 := ⟨fun m w cs h => by
 obtain ⟨hl, hf⟩ := h.struct rfl
 obtain ⟨x0, v0, r0⟩ := (opn_int (P := Go.Proofs.Tryz.prog) (t := 3) (k := .i64) rfl rfl).field hf 0 _ rfl rfl
 obtain ⟨x1, v1, r1⟩ := (opn_int (P := Go.Proofs.Tryz.prog) (t := 3) (k := .i64) rfl rfl).field hf 1 _ rfl rfl
 obtain ⟨x2, v2, r2⟩ := (opn_sl (P := Go.Proofs.Tryz.prog) (t := 22) (e := 49) rfl rfl opn49 (Nat.le_of_ble_eq_true rfl)).field hf 2 _ rfl rfl
 refine ⟨⟨x0, x1, x2⟩, ⟨v0, v1, v2⟩, ?_⟩
 have hz : RepCs w [] (cs.drop 3) := List.drop_eq_nil_of_le (Nat.le_of_eq (hl.trans rfl))
 exact (List.drop_zero (l := cs)) ▸ ((parts2 (o := 0) r0 (parts2 (o := 1) r1 (parts2 (o := 2) r2 hz))) : RepCs w _ (cs.drop 0)), rfl⟩
def e_GStops : Enc GStops := (eCat (ePre GStops.Bits (eArr 4 (eInt .u64))) eNil)
def V30 (m : Option Nat) (x : GStops) : Prop := (∀ i, i < 4 → (Lit.int .u64 (x.Bits i)).wf = true)
theorem opn30 : Opn Go.Proofs.Tryz.prog 30 e_GStops V30 := ⟨fun m w cs h => by
 obtain ⟨hl, hf⟩ := h.struct rfl
 obtain ⟨x0, v0, r0⟩ := (opn_arr (P := Go.Proofs.Tryz.prog) (t := 28) (e := 27) rfl (opn_int (P := Go.Proofs.Tryz.prog) (t := 27) (k := .u64) rfl rfl) rfl).field hf 0 _ rfl rfl
 refine ⟨⟨x0⟩, v0, ?_⟩
 have hz : RepCs w [] (cs.drop 4) := List.drop_eq_nil_of_le (Nat.le_of_eq (hl.trans rfl))
 exact (List.drop_zero (l := cs)) ▸ ((parts2 (o := 0) r0 hz) : RepCs w _ (cs.drop 0)), rfl⟩
def V33 (m : Option Nat) (x : GSaved) : Prop := (Lit.int .i64 x.Row).wf = true ∧ (Lit.int .i64 x.Col).wf = true ∧ V26 m x.Pen ∧ True ∧ ((Lit.int .i64 x.Pages.1).wf = true ∧ (Lit.int .i64 x.Pages.2).wf = true) ∧ (Lit.int .i64 x.Shift).wf = true
theorem opn33 : Opn Go.Proofs.Tryz.prog 33 e_GSaved V33 := ⟨fun m w cs h => by
 obtain ⟨hl, hf⟩ := h.struct rfl
 obtain ⟨x0, v0, r0⟩ := (opn_int (P := Go.Proofs.Tryz.prog) (t := 3) (k := .i64) rfl rfl).field hf 0 _ rfl rfl
 obtain ⟨x1, v1, r1⟩ := (opn_int (P := Go.Proofs.Tryz.prog) (t := 3) (k := .i64) rfl rfl).field hf 1 _ rfl rfl
 obtain ⟨x2, v2, r2⟩ := opn26.field hf 2 _ rfl rfl
 obtain ⟨x3, v3, r3⟩ := (opn_bool (P := Go.Proofs.Tryz.prog) (t := 4) rfl rfl).field hf 3 _ rfl rfl
 obtain ⟨x4, v4, r4⟩ := (opn_two (P := Go.Proofs.Tryz.prog) (t := 31) (e := 3) rfl (opn_int (P := Go.Proofs.Tryz.prog) (t := 3) (k := .i64) rfl rfl) rfl : Opn Go.Proofs.Tryz.prog 31 e_A31 _).field hf 4 _ rfl rfl
 obtain ⟨x5, v5, r5⟩ := (opn_int (P := Go.Proofs.Tryz.prog) (t := 3) (k := .i64) rfl rfl).field hf 5 _ rfl rfl
 refine ⟨⟨x0, x1, x2, x3, x4, x5⟩, ⟨v0, v1, v2, v3, v4, v5⟩, ?_⟩
 have hz : RepCs w [] (cs.drop 9) := List.drop_eq_nil_of_le (Nat.le_of_eq (hl.trans rfl))
 exact (List.drop_zero (l := cs)) ▸ ((parts2 (o := 0) r0 (parts2 (o := 1) r1 (parts2 (o := 2) r2 (parts2 (o := 5) r3 (parts2 (o := 6) r4 (parts2 (o := 8) r5 hz)))))) : RepCs w _ (cs.drop 0)), rfl⟩
def V95 (m : Option Nat) (x : GLine) : Prop := (FitN m x.Cells.length (Go.Proofs.Tryz.prog.bytesOf 49) ∧ ∀ y ∈ x.Cells, V49 m y)
theorem opn95 : Opn Go.Proofs.Tryz.prog 95 e_GLine V95 := ⟨fun m w cs h => by
 obtain ⟨hl, hf⟩ := h.struct rfl
 obtain ⟨x0, v0, r0⟩ := (opn_sl (P := Go.Proofs.Tryz.prog) (t := 22) (e := 49) rfl rfl opn49 (Nat.le_of_ble_eq_true rfl)).field hf 0 _ rfl rfl
 refine ⟨⟨x0⟩, v0, ?_⟩
 have hz : RepCs w [] (cs.drop 1) := List.drop_eq_nil_of_le (Nat.le_of_eq (hl.trans rfl))
 exact (List.drop_zero (l := cs)) ▸ ((parts2 (o := 0) r0 hz) : RepCs w _ (cs.drop 0)), rfl⟩
def e_GScreen : Enc GScreen := (eCat (ePre GScreen.Grid e_GGrid) (eCat (ePre GScreen.Row (eInt .i64)) (eCat (ePre GScreen.Col (eInt .i64)) (eCat (ePre GScreen.Late eBool) (eCat (ePre GScreen.Top (eInt .i64)) (eCat (ePre GScreen.Bottom (eInt .i64)) (eCat (ePre GScreen.Pen e_GPen) (eCat (ePre GScreen.Modes (eInt .i64)) (eCat (ePre GScreen.Stops e_GStops) (eCat (ePre GScreen.Pages e_A31) (eCat (ePre GScreen.Shift (eInt .i64)) (eCat (ePre GScreen.Saved e_GSaved) (eCat (ePre GScreen.Other e_GGrid) (eCat (ePre GScreen.Title eStr) (eCat (ePre GScreen.Past (eSl e_GLine)) eNil)))))))))))))))
def V36 (m : Option Nat) (x : GScreen) : Prop := V24 m x.Grid ∧ (Lit.int .i64 x.Row).wf = true ∧ (Lit.int .i64 x.Col).wf = true ∧ True ∧ (Lit.int .i64 x.Top).wf = true ∧ (Lit.int .i64 x.Bottom).wf = true ∧ V26 m x.Pen ∧ (Lit.int .i64 x.Modes).wf = true ∧ V30 m x.Stops ∧ ((Lit.int .i64 x.Pages.1).wf = true ∧ (Lit.int .i64 x.Pages.2).wf = true) ∧ (Lit.int .i64 x.Shift).wf = true ∧ V33 m x.Saved ∧ V24 m x.Other ∧ (x.Title.length ≤ maxLen ∧ FitN m x.Title.length 1) ∧ (FitN m x.Past.length (Go.Proofs.Tryz.prog.bytesOf 95) ∧ ∀ y ∈ x.Past, V95 m y)
theorem opn36 : Opn Go.Proofs.Tryz.prog 36 e_GScreen V36 := ⟨fun m w cs h => by
 obtain ⟨hl, hf⟩ := h.struct rfl
 obtain ⟨x0, v0, r0⟩ := opn24.field hf 0 _ rfl rfl
 obtain ⟨x1, v1, r1⟩ := (opn_int (P := Go.Proofs.Tryz.prog) (t := 3) (k := .i64) rfl rfl).field hf 1 _ rfl rfl
 obtain ⟨x2, v2, r2⟩ := (opn_int (P := Go.Proofs.Tryz.prog) (t := 3) (k := .i64) rfl rfl).field hf 2 _ rfl rfl
 obtain ⟨x3, v3, r3⟩ := (opn_bool (P := Go.Proofs.Tryz.prog) (t := 4) rfl rfl).field hf 3 _ rfl rfl
 obtain ⟨x4, v4, r4⟩ := (opn_int (P := Go.Proofs.Tryz.prog) (t := 3) (k := .i64) rfl rfl).field hf 4 _ rfl rfl
 obtain ⟨x5, v5, r5⟩ := (opn_int (P := Go.Proofs.Tryz.prog) (t := 3) (k := .i64) rfl rfl).field hf 5 _ rfl rfl
 obtain ⟨x6, v6, r6⟩ := opn26.field hf 6 _ rfl rfl
 obtain ⟨x7, v7, r7⟩ := (opn_int (P := Go.Proofs.Tryz.prog) (t := 3) (k := .i64) rfl rfl).field hf 7 _ rfl rfl
 obtain ⟨x8, v8, r8⟩ := opn30.field hf 8 _ rfl rfl
 obtain ⟨x9, v9, r9⟩ := (opn_two (P := Go.Proofs.Tryz.prog) (t := 31) (e := 3) rfl (opn_int (P := Go.Proofs.Tryz.prog) (t := 3) (k := .i64) rfl rfl) rfl : Opn Go.Proofs.Tryz.prog 31 e_A31 _).field hf 9 _ rfl rfl
 obtain ⟨x10, v10, r10⟩ := (opn_int (P := Go.Proofs.Tryz.prog) (t := 3) (k := .i64) rfl rfl).field hf 10 _ rfl rfl
 obtain ⟨x11, v11, r11⟩ := opn33.field hf 11 _ rfl rfl
 obtain ⟨x12, v12, r12⟩ := opn24.field hf 12 _ rfl rfl
 obtain ⟨x13, v13, r13⟩ := (opn_str (P := Go.Proofs.Tryz.prog) (t := 9) rfl rfl).field hf 13 _ rfl rfl
 obtain ⟨x14, v14, r14⟩ := (opn_sl (P := Go.Proofs.Tryz.prog) (t := 34) (e := 95) rfl rfl opn95 (Nat.le_of_ble_eq_true rfl)).field hf 14 _ rfl rfl
 refine ⟨⟨x0, x1, x2, x3, x4, x5, x6, x7, x8, x9, x10, x11, x12, x13, x14⟩, ⟨v0, v1, v2, v3, v4, v5, v6, v7, v8, v9, v10, v11, v12, v13, v14⟩, ?_⟩
 have hz : RepCs w [] (cs.drop 33) := List.drop_eq_nil_of_le (Nat.le_of_eq (hl.trans rfl))
 exact (List.drop_zero (l := cs)) ▸ ((parts2 (o := 0) r0 (parts2 (o := 3) r1 (parts2 (o := 4) r2 (parts2 (o := 5) r3 (parts2 (o := 6) r4 (parts2 (o := 7) r5 (parts2 (o := 8) r6 (parts2 (o := 11) r7 (parts2 (o := 12) r8 (parts2 (o := 16) r9 (parts2 (o := 18) r10 (parts2 (o := 19) r11 (parts2 (o := 28) r12 (parts2 (o := 31) r13 (parts2 (o := 32) r14 hz))))))))))))))) : RepCs w _ (cs.drop 0)), rfl⟩
theorem DrawWay_calls (m : Option Nat) (H : ∀ (a1 : GScreen) (a2 : GScreen) (a3 : GScreen), V36 m a1 → V36 m a2 → V36 m a3 → f4 a1 a2 a3 = some true)
  (v0 : Value) (v1 : Value) (v2 : Value) (w : World) (h0 : Arg m Go.Proofs.Tryz.prog w 36 v0) (h1 : Arg m Go.Proofs.Tryz.prog w 36 v1) (h2 : Arg m Go.Proofs.Tryz.prog w 36 v2) (hm : ∃ m, w.cell? ⟨2, 0, none⟩ = some (.int .i64 m)) (ht : Lib.TabIs Go.Proofs.Tryz.prog w "internal/strconv.uint64pow10" .u64 Lib.pow10Tab) : Calls Go.Proofs.Tryz.prog 4 #[v0, v1, v2] w fun e w' => e = .returned (.bool true) ∧ Below w.heap.size w w' := by
 obtain ⟨c0, rfl, g0⟩ := h0.agg (.inl ⟨_, rfl⟩)
 obtain ⟨x0, y0, r0⟩ := opn36.op m w _ g0
 obtain ⟨c1, rfl, g1⟩ := h1.agg (.inl ⟨_, rfl⟩)
 obtain ⟨x1, y1, r1⟩ := opn36.op m w _ g1
 obtain ⟨c2, rfl, g2⟩ := h2.agg (.inl ⟨_, rfl⟩)
 obtain ⟨x2, y2, r2⟩ := opn36.op m w _ g2
 exact law_calls (baseL_snd _ _ (fun _ _ _ h => by cases h) hm ht) codes_ok (f4_ok 11 (Nat.le_refl _) x0 x1 x2 true (H x0 x1 x2 y0 y1 y2)) ⟨_, _, rfl, ⟨_, rfl, by have q := r0.repL (R := fun _ _ => False); simp only [e_GStops, e_GScreen, eCat, ePre, eNil, List.map_append, eArr_map, List.map_cons, List.map_nil, List.append_nil, List.cons_append, List.nil_append] at q; exact Eq.mp (by kernel_rfl) q⟩, ⟨_, _, rfl, ⟨_, rfl, by have q := r1.repL (R := fun _ _ => False); simp only [e_GStops, e_GScreen, eCat, ePre, eNil, List.map_append, eArr_map, List.map_cons, List.map_nil, List.append_nil, List.cons_append, List.nil_append] at q; exact Eq.mp (by kernel_rfl) q⟩, ⟨_, _, rfl, ⟨_, rfl, by have q := r2.repL (R := fun _ _ => False); simp only [e_GStops, e_GScreen, eCat, ePre, eNil, List.map_append, eArr_map, List.map_cons, List.map_nil, List.append_nil, List.cons_append, List.nil_append] at q; exact Eq.mp (by kernel_rfl) q⟩, rfl⟩⟩⟩
end Go.Proofs.YtbokpgemkkebnaaGreatDoor.Pm
