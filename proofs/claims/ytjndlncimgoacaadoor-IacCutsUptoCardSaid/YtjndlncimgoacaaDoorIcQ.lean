/- Iac: whatever came, a token that is written behind the marks is read as it was. -/
import Derived.Test.YtjndlncimgoacaaDoorIcP
namespace Go.Proofs.YtjndlncimgoacaaDoor.Pm
open Go.Proofs.YtjndlncimgoacaaDoor.Args
open Go.ChangeShapes Go.WideShapes Go.ChangeAt Go.RowKit
set_option linter.unusedVariables false
set_option linter.unusedSimpArgs false
set_option maxRecDepth 100000
/-- 'Option.bind_some', not by unfolding: the kernel must not look into 'cat?'. -/
theorem bs {α β : Type} (x : α) (f : α → Option β) : (some x).bind f = f x := by
  have h : ∀ o : Option α, o = some x → o.bind f = f x := fun o ho => by subst ho; rfl
  exact h _ rfl
theorem cf {α : Type} (x y : α) : (bif false then x else y) = y := by
  have h : ∀ b, b = false → (bif b then x else y) = y := fun b hb => by subst hb; rfl
  exact h _ rfl
theorem ct {α : Type} (x y : α) : (bif true then x else y) = x := by
  have h : ∀ b, b = true → (bif b then x else y) = x := fun b hb => by subst hb; rfl
  exact h _ rfl
/-- A right wire. -/
def okWire (w : GWire) : Prop := (0 ≤ w.Mode ∧ w.Mode ≤ 5) ∧ (w.Mode ≠ 2 → w.Cmd = 0) ∧ w.Buf.length ≤ 4096 ∧ (¬ (w.Mode = 4 ∨ w.Mode = 5) → w.Opt = 0 ∧ w.Buf = [] ∧ w.Over = false)
theorem j2_tt (w : GWire) : ∃ e, f15_j2 w true true = some e ∧ (e = 0 → w.Buf.length ≤ 4096) := by
  unfold f15_j2
  simp only [cond_true]
  by_cases o1 : 0 ≤ w.Opt
  · rw [decide_eq_true o1]
    by_cases o2 : w.Opt ≤ 255
    · rw [decide_eq_true o2]
      by_cases h : w.Buf.length ≤ 4096
      · rw [decide_eq_true (show (w.Buf.length : Int) ≤ 4096 by omega)]
        cases w.Over with
        | false => exact ⟨0, rfl, fun _ => h⟩
        | true =>
          by_cases hb : w.Buf = []
          · rw [decide_eq_true hb]; exact ⟨0, rfl, fun _ => h⟩
          · rw [decide_eq_false hb]; exact ⟨4, rfl, fun e => by cases e⟩
      · rw [decide_eq_false (show ¬ (w.Buf.length : Int) ≤ 4096 by omega)]; exact ⟨4, rfl, fun e => by cases e⟩
    · rw [decide_eq_false o2]; exact ⟨4, rfl, fun e => by cases e⟩
  · rw [decide_eq_false o1]; exact ⟨4, rfl, fun e => by cases e⟩
theorem j2_ft (w : GWire) : ∃ e, f15_j2 w false true = some e ∧ (e = 0 → w.Opt = 0 ∧ w.Buf = [] ∧ w.Over = false) := by
  unfold f15_j2
  simp only [cond_true, cond_false]
  by_cases o1 : w.Opt = 0
  · rw [decide_eq_true o1]
    by_cases hb : w.Buf = []
    · rw [decide_eq_true hb]
      cases ho : w.Over with
      | false => exact ⟨0, rfl, fun _ => ⟨o1, hb, rfl⟩⟩
      | true => exact ⟨4, rfl, fun e => by cases e⟩
    · rw [decide_eq_false hb]; exact ⟨4, rfl, fun e => by cases e⟩
  · rw [decide_eq_false o1]; exact ⟨4, rfl, fun e => by cases e⟩
theorem j2_spec (w : GWire) (sub ok : Bool) : ∃ e, f15_j2 w sub ok = some e ∧ (e = 0 → ok = true ∧ w.Buf.length ≤ 4096 ∧ (sub = false → w.Opt = 0 ∧ w.Buf = [] ∧ w.Over = false)) := by
  cases ok with
  | false => cases sub <;> exact ⟨4, rfl, fun h => by cases h⟩
  | true =>
    cases sub with
    | true =>
      obtain ⟨e, h1, h2⟩ := j2_tt w
      exact ⟨e, h1, fun h => ⟨rfl, h2 h, fun h => by cases h⟩⟩
    | false =>
      obtain ⟨e, h1, h2⟩ := j2_ft w
      exact ⟨e, h1, fun h => ⟨rfl, by rw [(h2 h).2.1]; decide, fun _ => h2 h⟩⟩
theorem j1_spec (w : GWire) (sub m : Bool) : ∃ e, f15_j1 w sub m = some e ∧ (e = 0 → m = true ∧ (w.Mode ≠ 2 → w.Cmd = 0) ∧ w.Buf.length ≤ 4096 ∧ (sub = false → w.Opt = 0 ∧ w.Buf = [] ∧ w.Over = false)) := by
  obtain ⟨e1, h1, g1⟩ := j2_spec w sub true
  obtain ⟨e2, h2, g2⟩ := j2_spec w sub false
  unfold f15_j1
  rw [h1, h2]
  cases m with
  | false =>
    simp only [cond_false, Bool.cond_decide]
    split <;> exact ⟨e2, rfl, fun h => by have := (g2 h).1; cases this⟩
  | true =>
  simp only [cond_true, Bool.cond_decide]
  repeat' split
  all_goals first
    | exact ⟨e2, rfl, fun h => by have := (g2 h).1; cases this⟩
    | exact ⟨e1, rfl, fun h => ⟨by first | rfl | trivial, fun hm => by first | assumption | (exfalso; omega), (g1 h).2⟩⟩
theorem j0_spec (w : GWire) (sub : Bool) : ∃ e, f15_j0 w sub = some e ∧ (e = 0 → (0 ≤ w.Mode ∧ w.Mode ≤ 5) ∧ (w.Mode ≠ 2 → w.Cmd = 0) ∧ w.Buf.length ≤ 4096 ∧ (sub = false → w.Opt = 0 ∧ w.Buf = [] ∧ w.Over = false)) := by
  obtain ⟨e1, h1, g1⟩ := j1_spec w sub true
  obtain ⟨e2, h2, g2⟩ := j1_spec w sub false
  unfold f15_j0
  rw [h1, h2]
  simp only [Bool.cond_decide]
  repeat' split
  all_goals first
    | exact ⟨e1, rfl, fun h => ⟨by omega, (g1 h).2⟩⟩
    | exact ⟨e2, rfl, fun h => by have := (g2 h).1; cases this⟩
theorem f15_spec (w : GWire) : ∃ e, f15 w = some e ∧ (e = 0 → okWire w) := by
  obtain ⟨e1, h1, g1⟩ := j0_spec w true
  obtain ⟨e2, h2, g2⟩ := j0_spec w false
  unfold f15
  rw [h1, h2]
  simp only [Bool.cond_decide]
  repeat' split
  · exact ⟨e1, rfl, fun h => ⟨(g1 h).1, (g1 h).2.1, (g1 h).2.2.1, fun hn => by omega⟩⟩
  · exact ⟨e1, rfl, fun h => ⟨(g1 h).1, (g1 h).2.1, (g1 h).2.2.1, fun hn => by omega⟩⟩
  · exact ⟨e2, rfl, fun h => ⟨(g2 h).1, (g2 h).2.1, (g2 h).2.2.1, fun _ => (g2 h).2.2.2 rfl⟩⟩
/-- What holds at every byte. -/
def Inv (s : RS) : Prop := (0 ≤ s.mode ∧ s.mode ≤ 5) ∧ (s.mode ≠ 2 → s.cmd = 0) ∧ (¬ (s.mode = 4 ∨ s.mode = 5) → s.opt = 0 ∧ s.buf = [] ∧ s.over = false)
theorem sub_inv (c : UInt8) (s : RS) (h4 : s.mode = 4) (hc : s.cmd = 0) : Inv (subS c s) ∧ (subS c s).mode = 4 ∧ (subS c s).cmd = 0 := by
  unfold subS
  split
  · exact ⟨⟨by show 0 ≤ s.mode ∧ s.mode ≤ 5; omega, fun _ => hc, fun hn => absurd (.inl h4) hn⟩, h4, hc⟩
  · split
    · exact ⟨⟨by omega, fun _ => hc, fun hn => absurd (.inl h4) hn⟩, h4, hc⟩
    · exact ⟨⟨by show 0 ≤ s.mode ∧ s.mode ≤ 5; omega, fun _ => hc, fun hn => absurd (.inl h4) hn⟩, h4, hc⟩
theorem step_inv (s : RS) (c : UInt8) (h : Inv s) : Inv (stepS s c) := by
  obtain ⟨h1, h2, h3⟩ := h
  unfold stepS
  split
  · rename_i m
    have h3 := h3 (by omega); have h2 := h2 (by omega)
    split
    · exact ⟨by show (0 : Int) ≤ 1 ∧ (1 : Int) ≤ 5; omega, fun _ => h2, fun _ => h3⟩
    · exact ⟨h1, fun _ => h2, fun _ => h3⟩
  split
  · rename_i m0 m
    have h3 := h3 (by omega); have h2 := h2 (by omega)
    unfold cmdS
    repeat' split
    · exact ⟨by show (0 : Int) ≤ 0 ∧ (0 : Int) ≤ 5; omega, fun _ => h2, fun _ => h3⟩
    · exact ⟨by show (0 : Int) ≤ 2 ∧ (2 : Int) ≤ 5; omega, fun hn => absurd rfl hn, fun _ => h3⟩
    · exact ⟨by show (0 : Int) ≤ 3 ∧ (3 : Int) ≤ 5; omega, fun _ => h2, fun _ => h3⟩
    · exact ⟨by show (0 : Int) ≤ 0 ∧ (0 : Int) ≤ 5; omega, fun _ => h2, fun _ => h3⟩
    · exact ⟨by show (0 : Int) ≤ 0 ∧ (0 : Int) ≤ 5; omega, fun _ => h2, fun _ => h3⟩
  split
  · rename_i m0 m1 m
    have h3 := h3 (by omega)
    exact ⟨by show (0 : Int) ≤ 0 ∧ (0 : Int) ≤ 5; omega, fun _ => rfl, fun _ => h3⟩
  split
  · rename_i m0 m1 m2 m
    have h2 := h2 (by omega)
    exact ⟨by show (0 : Int) ≤ 4 ∧ (4 : Int) ≤ 5; omega, fun _ => h2, fun hn => absurd (.inl rfl) hn⟩
  split
  · rename_i m0 m1 m2 m3 m
    have h2 := h2 (by omega)
    split
    · exact ⟨by show (0 : Int) ≤ 5 ∧ (5 : Int) ≤ 5; omega, fun _ => h2, fun hn => absurd (.inr rfl) hn⟩
    · exact (sub_inv c s m h2).1
  · rename_i m0 m1 m2 m3 m4
    have h2 := h2 (by omega)
    split
    · exact (sub_inv c (setMode s 4) rfl h2).1
    · exact ⟨by show (0 : Int) ≤ 0 ∧ (0 : Int) ≤ 5; omega, fun _ => rfl, fun _ => ⟨rfl, rfl, rfl⟩⟩
theorem fold_inv : ∀ (x : List UInt8) (s : RS), Inv s → Inv (x.foldl stepS s)
  | [], s, h => h
  | c :: x, s, h => fold_inv x _ (step_inv s c h)
/-- Data is read; and nothing waits. -/
def Cl (s : RS) : Prop := s.mode = 0 ∧ s.cmd = 0 ∧ s.opt = 0 ∧ s.buf = [] ∧ s.over = false
def Qu (s : RS) : Prop := Cl s ∧ s.data = []
theorem flush_nil (s : RS) : (flushS s).data = [] := by
  unfold flushS
  split
  · rfl
  · exact List.eq_nil_of_length_eq_zero (by omega)
theorem s0_255 (s : RS) (h : s.mode = 0) : stepS s 255 = setMode s 1 := by unfold stepS; rw [if_pos h, if_pos (by decide)]
theorem s0_x (s : RS) (c : UInt8) (h : s.mode = 0) (hc : ¬ c.toNat = 255) : stepS s c = addData s c := by unfold stepS; rw [if_pos h, if_neg hc]
theorem s1_ (s : RS) (c : UInt8) (h : s.mode = 1) : stepS s c = cmdS c s := by unfold stepS; rw [if_neg (by omega), if_pos h]
theorem s4_255 (s : RS) (h : s.mode = 4) : stepS s 255 = setMode s 5 := by
  unfold stepS; rw [if_neg (by omega), if_neg (by omega), if_neg (by omega), if_neg (by omega), if_pos h, if_pos (by decide)]
theorem s4_x (s : RS) (c : UInt8) (h : s.mode = 4) (hc : ¬ c.toNat = 255) : stepS s c = subS c s := by
  unfold stepS; rw [if_neg (by omega), if_neg (by omega), if_neg (by omega), if_neg (by omega), if_pos h, if_neg hc]
theorem s5_255 (s : RS) (h : s.mode = 5) : stepS s 255 = subS 255 (setMode s 4) := by
  unfold stepS; rw [if_neg (by omega), if_neg (by omega), if_neg (by omega), if_neg (by omega), if_neg (by omega), if_pos (by decide)]
theorem s5_x (s : RS) (c : UInt8) (h : s.mode = 5) (hc : ¬ c.toNat = 255) : stepS s c = endS c s := by
  unfold stepS; rw [if_neg (by omega), if_neg (by omega), if_neg (by omega), if_neg (by omega), if_neg (by omega), if_neg hc]
theorem s2_ (s : RS) (c : UInt8) (h : s.mode = 2) : stepS s c = ⟨0, 0, s.opt, s.wb, s.over, s.buf, (tokS ⟨3, s.cmd, (c.toNat : Int), []⟩ s).data, (tokS ⟨3, s.cmd, (c.toNat : Int), []⟩ s).l⟩ := by
  unfold stepS; rw [if_neg (by omega), if_neg (by omega), if_pos h]
theorem s3_ (s : RS) (c : UInt8) (h : s.mode = 3) : stepS s c = ⟨4, s.cmd, (c.toNat : Int), s.wb, s.over, s.buf, s.data, s.l⟩ := by
  unfold stepS; rw [if_neg (by omega), if_neg (by omega), if_neg (by omega), if_pos h]
theorem cmd_tok (s : RS) (c : UInt8) (h : 240 ≤ c.toNat ∧ c.toNat ≤ 249) : cmdS c s = tokS ⟨2, (c.toNat : Int), 0, []⟩ (setMode s 0) := by
  unfold cmdS; rw [if_neg (by omega), if_neg (by omega), if_neg (by omega), if_pos h.1]
/-- A command of two bytes. -/
theorem two (s : RS) (c : UInt8) (h : Cl s) (hc : 240 ≤ c.toNat ∧ c.toNat ≤ 249) : Qu ([255, c].foldl stepS s) ∧ ([255, c].foldl stepS s).l = (flushS s).l ++ [⟨2, (c.toNat : Int), 0, []⟩] := by
  obtain ⟨h1, h2, h3, h4, h5⟩ := h
  simp only [List.foldl_cons, List.foldl_nil]
  rw [s0_255 s h1, s1_ _ c rfl, cmd_tok _ c hc]
  have e : flushS (setMode (setMode s 1) 0) = ⟨0, (flushS s).cmd, (flushS s).opt, (flushS s).wb, (flushS s).over, (flushS s).buf, (flushS s).data, (flushS s).l⟩ := by
    unfold flushS setMode; split <;> rfl
  refine ⟨⟨⟨rfl, h2, h3, h4, h5⟩, ?_⟩, ?_⟩
  · show (flushS _).data = []; exact flush_nil _
  · show (flushS _).l ++ _ = _; rw [e]
theorem marks (s : RS) (h : Inv s) : Qu ([255, 240, 255, 240, 255, 241].foldl stepS s) := by
  have t240 : 240 ≤ (240 : UInt8).toNat ∧ (240 : UInt8).toNat ≤ 249 := by decide
  have t241 : 240 ≤ (241 : UInt8).toNat ∧ (241 : UInt8).toNat ≤ 249 := by decide
  have cut : ∀ (a b : List UInt8) (s : RS), (a ++ b).foldl stepS s = b.foldl stepS (a.foldl stepS s) := fun a b s => List.foldl_append
  have end1 : ∀ s, Cl s → Qu ([255, 241].foldl stepS s) := fun s hs => (two s 241 hs t241).1
  have end2 : ∀ s, Cl s → Qu ([255, 240, 255, 241].foldl stepS s) := fun s hs => by
    have := cut [255, 240] [255, 241] s
    rw [show ([255, 240, 255, 241] : List UInt8) = [255, 240] ++ [255, 241] from rfl, this]
    exact end1 _ (two s 240 hs t240).1.1
  have end2' : ∀ s, Cl s → Qu ([240, 255, 240, 255, 241].foldl stepS s) := fun s hs => by
    have e : stepS s 240 = addData s 240 := s0_x s 240 hs.1 (by decide)
    show Qu ([255, 240, 255, 241].foldl stepS (stepS s 240))
    rw [e]; exact end2 _ hs
  have four : ∀ s, s.mode = 4 → s.cmd = 0 → Qu ([240, 255, 240, 255, 241].foldl stepS s) := fun s h4 hc => by
    have e : stepS s 240 = subS 240 s := s4_x s 240 h4 (by decide)
    obtain ⟨_, g1, g2⟩ := sub_inv 240 s h4 hc
    show Qu ([240, 255, 241].foldl stepS (stepS (stepS s 240) 255))
    rw [e, s4_255 _ g1]
    show Qu ([255, 241].foldl stepS (stepS (setMode (subS 240 s) 5) 240))
    rw [s5_x _ 240 rfl (by decide)]
    exact end1 _ ⟨rfl, rfl, rfl, rfl, rfl⟩
  obtain ⟨h1, h2, h3⟩ := h
  have hm : s.mode = 0 ∨ s.mode = 1 ∨ s.mode = 2 ∨ s.mode = 3 ∨ s.mode = 4 ∨ s.mode = 5 := by omega
  rcases hm with m | m | m | m | m | m
  · obtain ⟨a, b, c⟩ := h3 (by omega)
    have hs : Cl s := ⟨m, h2 (by omega), a, b, c⟩
    rw [show ([255, 240, 255, 240, 255, 241] : List UInt8) = [255, 240] ++ [255, 240, 255, 241] from rfl, cut]
    exact end2 _ (two s 240 hs t240).1.1
  · obtain ⟨a, b, c⟩ := h3 (by omega)
    have e : stepS s 255 = addData (setMode s 0) 255 := by rw [s1_ s 255 m]; unfold cmdS; rw [if_pos (by decide)]
    show Qu ([240, 255, 240, 255, 241].foldl stepS (stepS s 255))
    rw [e]; exact end2' _ ⟨rfl, h2 (by omega), a, b, c⟩
  · obtain ⟨a, b, c⟩ := h3 (by omega)
    show Qu ([240, 255, 240, 255, 241].foldl stepS (stepS s 255))
    rw [s2_ s 255 m]; exact end2' _ ⟨rfl, rfl, a, b, c⟩
  · show Qu ([240, 255, 240, 255, 241].foldl stepS (stepS s 255))
    rw [s3_ s 255 m]; exact four _ rfl (h2 (by omega))
  · show Qu ([240, 255, 240, 255, 241].foldl stepS (stepS s 255))
    rw [s4_255 s m]
    show Qu ([255, 240, 255, 241].foldl stepS (stepS (setMode s 5) 240))
    rw [s5_x _ 240 rfl (by decide)]
    exact end2 _ ⟨rfl, rfl, rfl, rfl, rfl⟩
  · show Qu ([240, 255, 240, 255, 241].foldl stepS (stepS s 255))
    rw [s5_255 s m]
    obtain ⟨_, g1, g2⟩ := sub_inv 255 (setMode s 4) rfl (h2 (by omega))
    exact four _ g1 g2
theorem u8n (n : Int) (h : 0 ≤ n ∧ n ≤ 255) : ((u8 n).toNat : Int) = n := by have := u8_u8 n; omega
/-- Words of an option. -/
theorem sub_fold : ∀ (x : List UInt8) (s : RS), s.mode = 4 → s.over = false → s.buf.length + x.length ≤ 4096 → (esc x).foldl stepS s = ⟨4, s.cmd, s.opt, s.wb, false, s.buf ++ x, s.data, s.l⟩
  | [], s, h, ho, hl => by
    obtain ⟨a, b, c, d, e, f, g, i⟩ := s
    simp only at h ho
    subst h; subst ho
    simp [esc]
  | b :: x, s, h, ho, hl => by
    rw [List.length_cons] at hl
    rw [esc_cons, List.foldl_append]
    have hb : (es1 b).foldl stepS s = ⟨4, s.cmd, s.opt, s.wb, false, s.buf ++ [b], s.data, s.l⟩ := by
      unfold es1
      by_cases h5 : b = 255
      · subst h5
        rw [if_pos rfl]
        simp only [List.foldl_cons, List.foldl_nil]
        rw [s4_255 s h, s5_255 _ rfl]
        unfold subS setMode
        simp only [ho]
        rw [if_neg (by omega)]; rfl
      · have hn : ¬ b.toNat = 255 := fun e => h5 (UInt8.toNat.inj e)
        rw [if_neg h5]
        simp only [List.foldl_cons, List.foldl_nil]
        rw [s4_x s b h hn]
        unfold subS
        rw [if_neg (by omega), ho, h]; rfl
    rw [hb, sub_fold x _ rfl rfl (by simp; omega)]
    simp
/-- A token that may be written, and its bytes. -/
def Tw (t : GTok) (u : List UInt8) : Prop :=
  (t.Kind = 1 ∧ t.Cmd = 0 ∧ t.Opt = 0 ∧ u = esc t.Data) ∨
  ((t.Kind = 2 ∧ 240 ≤ t.Cmd ∧ t.Cmd ≤ 249 ∧ t.Opt = 0 ∧ t.Data = []) ∧ u = [255, u8 t.Cmd]) ∨
  ((t.Kind = 3 ∧ 251 ≤ t.Cmd ∧ t.Cmd ≤ 254 ∧ 0 ≤ t.Opt ∧ t.Opt ≤ 255 ∧ t.Data = []) ∧ u = [255, u8 t.Cmd, u8 t.Opt]) ∨
  ((t.Kind = 4 ∧ t.Cmd = 0 ∧ 0 ≤ t.Opt ∧ t.Opt ≤ 255 ∧ t.Data.length ≤ 4096) ∧ u = [255, 250, u8 t.Opt] ++ esc t.Data ++ [255, 240])
theorem cat_ok (xs ys : List UInt8) (h : xs.length + ys.length ≤ 1000000000) : cat? xs ys = some (xs ++ ys) := by
  unfold cat?
  rw [if_pos (by show ((xs.length + ys.length : Nat) : Int) ≤ 9223372036854775807; omega)]
theorem cat3 (p q r : List UInt8) (hp : p.length ≤ 10) (hq : q.length ≤ 100000) (hr : r.length ≤ 10) : ((cat? p q).bind fun z6 => ((cat? z6 r).bind fun z7 => (some (z7, (0 : Int))))) = some (p ++ q ++ r, 0) := by
  rw [cat_ok p q (by omega)]
  simp only [bs]
  rw [cat_ok (p ++ q) r (by rw [List.length_append]; omega)]
  rfl
theorem j5_ok (t : GTok) (h : t.Data.length ≤ 4096) : f14_j5 t = some ([255, 250, u8 t.Opt] ++ esc t.Data ++ [255, 240], 0) := by
  have hl := esc_len t.Data
  have e : f14_j5 t = ((f9 t.Data).bind fun z5 => ((cat? ([255, 250, (u8 t.Opt)] : List UInt8) z5).bind fun z6 => ((cat? z6 ([255, 240] : List UInt8)).bind fun z7 => (some (z7, (0 : Int)))))) := rfl
  rw [e, f9_eq _ (by omega), bs]
  exact cat3 [255, 250, u8 t.Opt] (esc t.Data) [255, 240] (Nat.le_of_ble_eq_true rfl) (by omega) (Nat.le_of_ble_eq_true rfl)
theorem j4_spec (t : GTok) (p : Bool) (h : p = true → t.Kind = 4 ∧ t.Cmd = 0 ∧ 0 ≤ t.Opt ∧ t.Opt ≤ 255) : ∃ u e, f14_j4 t p = some (u, e) ∧ (e = 0 → Tw t u) := by
  unfold f14_j4
  cases p with
  | false => exact ⟨_, _, rfl, fun h => by cases h⟩
  | true =>
    obtain ⟨h1, h2, h3, h4⟩ := h rfl
    simp only [cond_true, Bool.cond_decide]
    split
    · exact ⟨_, _, rfl, fun h => by cases h⟩
    · rename_i hl
      rw [j5_ok t (by omega)]
      exact ⟨_, _, rfl, fun _ => .inr (.inr (.inr ⟨⟨h1, h2, h3, h4, by omega⟩, rfl⟩))⟩
theorem j3_spec (t : GTok) (p : Bool) (h : p = true → 0 ≤ t.Opt ∧ t.Opt ≤ 255) : ∃ u e, f14_j3 t p = some (u, e) ∧ (e = 0 → Tw t u) := by
  unfold f14_j3
  simp only [Bool.cond_decide]
  split
  · split
    · exact j4_spec t p fun hp => ⟨by assumption, by assumption, (h hp).1, (h hp).2⟩
    · exact j4_spec t false fun hp => by cases hp
  · exact j4_spec t false fun hp => by cases hp
theorem j2w_spec (t : GTok) (p : Bool) (h : p = true → 0 ≤ t.Opt ∧ t.Opt ≤ 255) : ∃ u e, f14_j2 t p = some (u, e) ∧ (e = 0 → Tw t u) := by
  have j3 := j3_spec t p h
  unfold f14_j2
  cases p with
  | false =>
    simp only [Bool.cond_decide, cond_false]
    repeat' split
    all_goals exact j3
  | true =>
    obtain ⟨h1, h2⟩ := h rfl
    simp only [Bool.cond_decide, cond_true]
    repeat' split
    all_goals first
      | exact j3
      | exact ⟨_, _, rfl, fun _ => .inr (.inr (.inl ⟨⟨by assumption, by assumption, by assumption, h1, h2, by assumption⟩, rfl⟩))⟩
theorem j1w_spec (t : GTok) (p : Bool) (h : p = true → 0 ≤ t.Opt ∧ t.Opt ≤ 255) : ∃ u e, f14_j1 t p = some (u, e) ∧ (e = 0 → Tw t u) := by
  have j2 := j2w_spec t p h
  unfold f14_j1
  by_cases k : t.Kind = 2
  · rw [decide_eq_true k]
    simp only [cond_true]
    by_cases c1 : 240 ≤ t.Cmd
    · rw [decide_eq_true c1]
      simp only [cond_true]
      by_cases c2 : t.Cmd ≤ 249
      · rw [decide_eq_true c2]
        simp only [cond_true]
        by_cases o : t.Opt = 0
        · by_cases d : t.Data = []
          · rw [decide_eq_true o, decide_eq_true d]
            simp only [decide_true, Bool.and_self, cond_true]
            exact ⟨_, _, rfl, fun _ => .inr (.inl ⟨⟨k, c1, c2, o, d⟩, rfl⟩)⟩
          · rw [decide_eq_true o, decide_eq_false d]
            exact ⟨[], 1, by simp, fun h => by cases h⟩
        · rw [decide_eq_false o]
          exact ⟨[], 1, by simp, fun h => by cases h⟩
      · rw [decide_eq_false c2]; exact j2
    · rw [decide_eq_false c1]; exact j2
  · rw [decide_eq_false k]; exact j2
theorem j0w_spec (t : GTok) (p : Bool) (h : p = true → 0 ≤ t.Opt ∧ t.Opt ≤ 255) (hl : t.Data.length ≤ 10000000) : ∃ u e, f14_j0 t p = some (u, e) ∧ (e = 0 → Tw t u) := by
  have j1 := j1w_spec t p h
  unfold f14_j0
  rw [f9_eq _ hl]
  simp only [Bool.cond_decide]
  repeat' split
  all_goals first
    | exact j1
    | exact ⟨_, _, rfl, fun _ => .inl ⟨by assumption, by assumption, by assumption, rfl⟩⟩
theorem f14_spec (t : GTok) (hl : t.Data.length ≤ 10000000) : ∃ u e, f14 t = some (u, e) ∧ (e = 0 → Tw t u) := by
  unfold f14
  simp only [Bool.cond_decide]
  repeat' split
  · exact j0w_spec t true (fun _ => ⟨by assumption, by assumption⟩) hl
  · exact j0w_spec t false (fun h => by cases h) hl
  · exact j0w_spec t false (fun h => by cases h) hl
/-- A token is read. -/
theorem read_tok (t : GTok) (u : List UInt8) (ht : Tw t u) (s : RS) (hs : Qu s) (hu : u ≠ []) : wireS (flushS (u.foldl stepS s)) = zW ∧ ∃ p, (flushS (u.foldl stepS s)).l = p ++ [t] := by
  obtain ⟨⟨h1, h2, h3, h4, h5⟩, h6⟩ := hs
  have zw : ∀ s : RS, Cl s → wireS (flushS s) = zW := by
    rintro ⟨a, b, c, d, e, f, g, i⟩ ⟨q1, q2, q3, q4, q5⟩
    simp only at q1 q2 q3 q4 q5
    subst q1; subst q2; subst q3; subst q4; subst q5
    unfold flushS
    split <;> rfl
  have nf : ∀ s : RS, s.data = [] → flushS s = s := fun s h => by unfold flushS; rw [h, if_neg (by simp)]
  have hcl : Cl s := ⟨h1, h2, h3, h4, h5⟩
  rcases ht with ⟨k, c, o, rfl⟩ | ⟨⟨k, c1, c2, o, d⟩, rfl⟩ | ⟨⟨k, c1, c2, o1, o2, d⟩, rfl⟩ | ⟨⟨k, c, o1, o2, hl⟩, rfl⟩
  · rw [esc_fold _ s h1]
    have hd : t.Data ≠ [] := fun e => hu (by rw [e]; rfl)
    refine ⟨zw _ hcl, s.l, ?_⟩
    have : 0 < t.Data.length := List.length_pos_iff.2 hd
    unfold flushS dat
    rw [h6]
    simp only [List.nil_append]
    rw [if_pos this]
    obtain ⟨a, b, c', d⟩ := t
    simp only at k c o ⊢
    subst k; subst c; subst o; rfl
  · have hc := u8n t.Cmd (by omega)
    obtain ⟨⟨q1, q2⟩, q3⟩ := two s (u8 t.Cmd) hcl (by omega)
    refine ⟨zw _ q1, (flushS s).l, ?_⟩
    rw [nf _ q2, q3, hc]
    obtain ⟨a, b, c', d'⟩ := t
    simp only at k o d ⊢
    subst k; subst o; subst d; rfl
  · have hc := u8n t.Cmd (by omega)
    have ho := u8n t.Opt (by omega)
    have e : ([255, u8 t.Cmd, u8 t.Opt] : List UInt8).foldl stepS s = ⟨0, 0, s.opt, s.wb, s.over, s.buf, [], (flushS s).l ++ [⟨3, t.Cmd, t.Opt, []⟩]⟩ := by
      simp only [List.foldl_cons, List.foldl_nil]
      rw [s0_255 s h1, s1_ (setMode s 1) (u8 t.Cmd) rfl]
      have e2 : cmdS (u8 t.Cmd) (setMode s 1) = ⟨2, ((u8 t.Cmd).toNat : Int), s.opt, s.wb, s.over, s.buf, s.data, s.l⟩ := by
        unfold cmdS
        rw [if_neg (by omega), if_pos (by omega)]; rfl
      rw [e2, s2_ _ _ rfl]
      simp only [hc, ho, setMode, tokS]
      rw [nf _ h6, nf _ (by exact h6)]
      simp only [h6]
    rw [e]
    refine ⟨zw _ ⟨rfl, rfl, h3, h4, h5⟩, (flushS s).l, ?_⟩
    rw [nf _ rfl]
    obtain ⟨a, b, c', d'⟩ := t
    simp only at k d ⊢
    subst k; subst d; rfl
  · have ho := u8n t.Opt (by omega)
    have e : ([255, 250, u8 t.Opt] ++ esc t.Data ++ [255, 240] : List UInt8).foldl stepS s = ⟨0, 0, 0, [], false, [], [], s.l ++ [⟨4, 0, t.Opt, t.Data⟩]⟩ := by
      rw [List.foldl_append, List.foldl_append]
      have e1 : ([255, 250, u8 t.Opt] : List UInt8).foldl stepS s = ⟨4, s.cmd, t.Opt, s.wb, s.over, s.buf, s.data, s.l⟩ := by
        simp only [List.foldl_cons, List.foldl_nil]
        rw [s0_255 s h1, s1_ (setMode s 1) 250 rfl]
        have e2 : cmdS 250 (setMode s 1) = setMode (setMode s 1) 3 := by
          unfold cmdS
          rw [if_neg (by decide), if_neg (by decide), if_pos (by decide)]
        rw [e2, s3_ _ _ rfl, ho]; rfl
      rw [e1, sub_fold t.Data ⟨4, s.cmd, t.Opt, s.wb, s.over, s.buf, s.data, s.l⟩ rfl h5 (by show s.buf.length + _ ≤ _; rw [h4]; simpa using hl)]
      simp only [List.foldl_cons, List.foldl_nil]
      rw [s4_255 _ rfl, s5_x _ 240 rfl (by decide)]
      unfold endS endT
      rw [if_pos (by decide)]
      simp only [setMode, tokS, h4, List.nil_append, Bool.false_eq_true, if_false]
      rw [nf _ (by exact h6)]
      simp only [h6]
    rw [e]
    refine ⟨zw _ ⟨rfl, rfl, rfl, rfl, rfl⟩, s.l, ?_⟩
    rw [nf _ rfl]
    obtain ⟨a, b, c', d'⟩ := t
    simp only at k c ⊢
    subst k; subst c; rfl
theorem fold_small : ∀ (x : List UInt8) (s : RS) (n : Nat), small s n → s.buf.length ≤ 4096 → n + x.length ≤ 100000000 → small (x.foldl stepS s) (n + x.length)
  | [], s, n, h, hb, hn => h
  | c :: x, s, n, h, hb, hn => by
    simp only [List.length_cons] at hn
    obtain ⟨_, q, r⟩ := step_ok c s n h hb (by omega)
    have := fold_small x (stepS s c) (n + 1) q r (by omega)
    rw [show n + (c :: x).length = n + 1 + x.length by simp; omega]
    exact this
theorem fold_few (w : GWire) (x : List UInt8) (hb : w.Buf.length ≤ 4096) (hx : x.length ≤ 10000000) : (flushS (x.foldl stepS (initS w))).l.length ≤ 30000000 := by
  have sm := fold_small x (initS w) 0 ⟨by simp [initS], by simp [initS], by show w.Buf.length ≤ _; omega⟩ hb (by omega)
  obtain ⟨_, _, h, _⟩ := flush_small _ _ sm (by omega)
  have := sm.2.1
  omega
theorem iacAgain (w : GWire) (s : List UInt8) (t : GTok) (hs : s.length ≤ 1048576) (ht : t.Data.length ≤ 1048576) : f5 w s t = some true := by
  obtain ⟨u, e, h1, h2⟩ := f14_spec t (by omega)
  obtain ⟨e', h3, h4⟩ := f15_spec w
  unfold f5
  rw [h1, lives, h3]
  simp only [bs, Bool.not_true, cf]
  by_cases he : e = 0
  · rw [decide_eq_true he]
    simp only [Bool.not_true, cf]
    by_cases hw : e' = 0
    · rw [decide_eq_true hw]
      simp only [Bool.not_true, cf]
      have ok := h4 hw
      subst hw
      have tw := h2 he
      have hul : u.length ≤ 3000000 := by
        have hl := esc_len t.Data
        rcases tw with ⟨_, _, _, rfl⟩ | ⟨_, rfl⟩ | ⟨_, rfl⟩ | ⟨_, rfl⟩
        · omega
        · rw [List.length_cons, List.length_cons, List.length_nil]; omega
        · rw [List.length_cons, List.length_cons, List.length_cons, List.length_nil]; omega
        · rw [List.length_append, List.length_append, List.length_cons, List.length_cons, List.length_cons, List.length_nil, List.length_cons, List.length_cons, List.length_nil]; omega
      have c1 := cat_ok s [255, 240, 255, 240, 255, 241] (by simp only [List.length_cons, List.length_nil]; omega)
      have c2 := cat_ok (s ++ [255, 240, 255, 240, 255, 241]) u (by rw [List.length_append]; simp only [List.length_cons, List.length_nil]; omega)
      unfold f5_j0
      rw [c1]
      simp only [bs]
      rw [c2]
      simp only [bs]
      rw [feed_ok w _ h3 ok.2.2.1 (by rw [List.length_append, List.length_append]; simp only [List.length_cons, List.length_nil]; omega)]
      simp only [bs, decide_true, Bool.not_true, cf]
      have hL := fold_few w (s ++ [255, 240, 255, 240, 255, 241] ++ u) ok.2.2.1 (by rw [List.length_append, List.length_append]; simp only [List.length_cons, List.length_nil]; omega)
      rw [List.foldl_append, List.foldl_append] at hL ⊢
      have iv : Inv (s.foldl stepS (initS w)) := fold_inv s _ ⟨ok.1, ok.2.1, ok.2.2.2⟩
      have qu := marks _ iv
      generalize ([255, 240, 255, 240, 255, 241] : List UInt8).foldl stepS (s.foldl stepS (initS w)) = q at *
      by_cases hu : u = []
      · subst hu
        have hz : wireS (flushS q) = zW := by
          obtain ⟨⟨q1, q2, q3, q4, q5⟩, q6⟩ := qu
          unfold flushS wireS
          rw [q6, if_neg (by simp), q1, q2, q3, q4, q5]; rfl
        simp only [List.foldl_nil, hz]
        simp only [zW, decide_true, Bool.and_self, Bool.not_true, cf]
        unfold f5_j1
        rw [decide_eq_true rfl]; rfl
      · obtain ⟨z1, p, z2⟩ := read_tok t u tw q qu hu
        simp only [z1, z2]
        simp only [zW, decide_true, Bool.and_self, Bool.not_true, cf]
        unfold f5_j1
        rw [decide_eq_false hu]
        simp only [cf]
        unfold f5_j2
        have hlen : (p ++ [t]).length = p.length + 1 := by simp
        rw [decide_eq_true (show 0 < ((p ++ [t]).length : Int) by omega)]
        have hpl : ((p ++ [t]).length : Int) - 1 = (p.length : Int) := by omega
        rw [z2, hlen] at hL
        rw [i64w _ (by omega), hpl]
        have hin : inR (p.length : Int) (p ++ [t]).length = some p.length := by unfold inR; rw [if_pos (by omega)]; simp
        rw [hin]
        have hg : (p ++ [t])[p.length]? = some t := by simp
        simp only [ct, bs, hg, decide_true, Bool.and_self]
    · rw [decide_eq_false hw]; rfl
  · rw [decide_eq_false he]; rfl
theorem IacAgain_walk (v0 v1 v2 : Value) (w : World) (h0 : Arg (some 1048576) Go.Proofs.Tryd.prog w 23 v0) (h1 : Arg (some 1048576) Go.Proofs.Tryd.prog w 9 v1) (h2 : Arg (some 1048576) Go.Proofs.Tryd.prog w 31 v2) (hsh : w.ShapedOpen Go.Proofs.Tryd.prog) : Calls Go.Proofs.Tryd.prog 5 #[v0, v1, v2] w fun e w' => e = .returned (.bool true) ∧ Below w.heap.size w w' :=
  IacAgain_calls (some 1048576) (fun a s t ha hs ht => iacAgain a s t (by have := hs.2; unfold FitN at this; omega) (by have := ht.2.2.2.2; unfold FitN at this; omega)) v0 v1 v2 w h0 h1 h2 (maxcell hsh)
end Go.Proofs.YtjndlncimgoacaaDoor.Pm
