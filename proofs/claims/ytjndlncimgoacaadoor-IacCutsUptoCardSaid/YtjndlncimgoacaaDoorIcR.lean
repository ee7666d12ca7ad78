/- Iac: the wire that is left is right; what is told stands as Merge would have it. -/
import Derived.Test.YtjndlncimgoacaaDoorIcQ
namespace Go.Proofs.YtjndlncimgoacaaDoor.Pm
open Go.Proofs.YtjndlncimgoacaaDoor.Args
open Go.ChangeShapes Go.WideShapes Go.ChangeAt Go.RowKit
set_option linter.unusedVariables false
set_option linter.unusedSimpArgs false
set_option maxRecDepth 100000
/-- A right wire, all of it. -/
def subOk (w : GWire) : Prop := (0 ≤ w.Opt ∧ w.Opt ≤ 255) ∧ w.Buf.length ≤ 4096 ∧ (w.Over = true → w.Buf = [])
def noSub (w : GWire) : Prop := w.Opt = 0 ∧ w.Buf = [] ∧ w.Over = false
def okW2 (w : GWire) : Prop := (0 ≤ w.Mode ∧ w.Mode ≤ 5) ∧ (w.Mode = 2 → 251 ≤ w.Cmd ∧ w.Cmd ≤ 254) ∧ (w.Mode ≠ 2 → w.Cmd = 0) ∧ (w.Mode = 4 ∨ w.Mode = 5 → subOk w) ∧ (¬ (w.Mode = 4 ∨ w.Mode = 5) → noSub w)
theorem k2_f (w : GWire) (sub : Bool) : f15_j2 w sub false = some 4 := by cases sub <;> rfl
theorem k2_tt (w : GWire) : (subOk w ∧ f15_j2 w true true = some 0) ∨ (¬ subOk w ∧ f15_j2 w true true = some 4) := by
  unfold f15_j2 subOk
  simp only [cond_true]
  by_cases o1 : 0 ≤ w.Opt
  · rw [decide_eq_true o1]
    by_cases o2 : w.Opt ≤ 255
    · rw [decide_eq_true o2]
      by_cases h : w.Buf.length ≤ 4096
      · rw [decide_eq_true (show (w.Buf.length : Int) ≤ 4096 by omega)]
        cases w.Over with
        | false => exact .inl ⟨⟨⟨o1, o2⟩, h, fun e => by cases e⟩, rfl⟩
        | true =>
          by_cases hb : w.Buf = []
          · rw [decide_eq_true hb]; exact .inl ⟨⟨⟨o1, o2⟩, h, fun _ => hb⟩, rfl⟩
          · rw [decide_eq_false hb]; exact .inr ⟨fun e => hb (e.2.2 rfl), rfl⟩
      · rw [decide_eq_false (show ¬ (w.Buf.length : Int) ≤ 4096 by omega)]; exact .inr ⟨fun e => h e.2.1, rfl⟩
    · rw [decide_eq_false o2]; exact .inr ⟨fun e => o2 e.1.2, rfl⟩
  · rw [decide_eq_false o1]; exact .inr ⟨fun e => o1 e.1.1, rfl⟩
theorem k2_ft (w : GWire) : (noSub w ∧ f15_j2 w false true = some 0) ∨ (¬ noSub w ∧ f15_j2 w false true = some 4) := by
  unfold f15_j2 noSub
  simp only [cond_true, cond_false]
  by_cases o1 : w.Opt = 0
  · rw [decide_eq_true o1]
    by_cases hb : w.Buf = []
    · rw [decide_eq_true hb]
      cases ho : w.Over with
      | false => exact .inl ⟨⟨o1, hb, rfl⟩, rfl⟩
      | true => exact .inr ⟨(fun e => by have := e.2.2; cases this), rfl⟩
    · rw [decide_eq_false hb]; exact .inr ⟨fun e => hb e.2.1, rfl⟩
  · rw [decide_eq_false o1]; exact .inr ⟨fun e => o1 e.1, rfl⟩
def cmdOk (w : GWire) : Prop := (w.Mode = 2 → 251 ≤ w.Cmd ∧ w.Cmd ≤ 254) ∧ (w.Mode ≠ 2 → w.Cmd = 0)
theorem k1_ (w : GWire) (sub : Bool) (m : Bool) : ((m = true ∧ cmdOk w) ∧ f15_j1 w sub m = f15_j2 w sub true) ∨ (¬ (m = true ∧ cmdOk w) ∧ f15_j1 w sub m = some 4) := by
  unfold f15_j1 cmdOk
  rw [k2_f]
  by_cases h2 : w.Mode = 2
  · rw [decide_eq_true h2]
    simp only [cond_true]
    cases m with
    | false => exact .inr ⟨(fun h => by cases h.1), rfl⟩
    | true =>
      simp only [cond_true]
      by_cases c1 : 251 ≤ w.Cmd
      · rw [decide_eq_true c1]
        by_cases c2 : w.Cmd ≤ 254
        · rw [decide_eq_true c2]; exact .inl ⟨⟨by first | rfl | trivial, fun _ => ⟨c1, c2⟩, fun h => absurd h2 h⟩, rfl⟩
        · rw [decide_eq_false c2]; exact .inr ⟨fun h => c2 (h.2.1 h2).2, rfl⟩
      · rw [decide_eq_false c1]; exact .inr ⟨fun h => c1 (h.2.1 h2).1, rfl⟩
  · rw [decide_eq_false h2]
    simp only [cond_false]
    cases m with
    | false => exact .inr ⟨(fun h => by cases h.1), rfl⟩
    | true =>
      simp only [cond_true]
      by_cases c1 : w.Cmd = 0
      · rw [decide_eq_true c1]; exact .inl ⟨⟨by first | rfl | trivial, fun h => absurd h h2, fun _ => c1⟩, rfl⟩
      · rw [decide_eq_false c1]; exact .inr ⟨fun h => c1 (h.2.2 h2), rfl⟩
theorem k0_ (w : GWire) (sub : Bool) : (((0 ≤ w.Mode ∧ w.Mode ≤ 5) ∧ cmdOk w) ∧ f15_j0 w sub = f15_j2 w sub true) ∨ (¬ ((0 ≤ w.Mode ∧ w.Mode ≤ 5) ∧ cmdOk w) ∧ f15_j0 w sub = some 4) := by
  have bad : ∀ h : ¬ (0 ≤ w.Mode ∧ w.Mode ≤ 5), f15_j1 w sub false = some 4 := fun _ => by
    rcases k1_ w sub false with ⟨h, _⟩ | ⟨_, e⟩
    · cases h.1
    · exact e
  unfold f15_j0
  by_cases m1 : 0 ≤ w.Mode
  · rw [decide_eq_true m1]
    by_cases m2 : w.Mode ≤ 5
    · rw [decide_eq_true m2]
      simp only [cond_true]
      rcases k1_ w sub true with ⟨h, e⟩ | ⟨h, e⟩
      · exact .inl ⟨⟨⟨m1, m2⟩, h.2⟩, e⟩
      · exact .inr ⟨fun hh => h ⟨rfl, hh.2⟩, e⟩
    · rw [decide_eq_false m2]; exact .inr ⟨fun h => m2 h.1.2, bad fun h => m2 h.2⟩
  · rw [decide_eq_false m1]; exact .inr ⟨fun h => m1 h.1.1, bad fun h => m1 h.1⟩
theorem f15_iff (w : GWire) : (okW2 w ∧ f15 w = some 0) ∨ (¬ okW2 w ∧ f15 w = some 4) := by
  unfold f15
  by_cases h45 : w.Mode = 4 ∨ w.Mode = 5
  · have e : (bif (decide (w.Mode = 4)) then (f15_j0 w true) else (bif (decide (w.Mode = 5)) then (f15_j0 w true) else (f15_j0 w false))) = f15_j0 w true := by
      rcases h45 with h | h
      · rw [decide_eq_true h]; rfl
      · rw [decide_eq_true h]; cases decide (w.Mode = 4) <;> rfl
    rw [e]
    rcases k0_ w true with ⟨h, e⟩ | ⟨h, e⟩
    · rw [e]
      rcases k2_tt w with ⟨g, e2⟩ | ⟨g, e2⟩
      · exact .inl ⟨⟨h.1, h.2.1, h.2.2, fun _ => g, fun hn => absurd h45 hn⟩, e2⟩
      · exact .inr ⟨fun hh => g (hh.2.2.2.1 h45), e2⟩
    · exact .inr ⟨fun hh => h ⟨hh.1, hh.2.1, hh.2.2.1⟩, e⟩
  · have e : (bif (decide (w.Mode = 4)) then (f15_j0 w true) else (bif (decide (w.Mode = 5)) then (f15_j0 w true) else (f15_j0 w false))) = f15_j0 w false := by
      rw [decide_eq_false (fun h => h45 (.inl h)), decide_eq_false (fun h => h45 (.inr h))]; rfl
    rw [e]
    rcases k0_ w false with ⟨h, e⟩ | ⟨h, e⟩
    · rw [e]
      rcases k2_ft w with ⟨g, e2⟩ | ⟨g, e2⟩
      · exact .inl ⟨⟨h.1, h.2.1, h.2.2, fun hh => absurd hh h45, fun _ => g⟩, e2⟩
      · exact .inr ⟨fun hh => g (hh.2.2.2.2 h45), e2⟩
    · exact .inr ⟨fun hh => h ⟨hh.1, hh.2.1, hh.2.2.1⟩, e⟩
theorem f22_eq (a b c : Int) : f22 a b c = some (decide (b ≤ a ∧ a ≤ c)) := by
  unfold f22
  by_cases h1 : b ≤ a
  · by_cases h2 : a ≤ c
    · rw [decide_eq_true h1, decide_eq_true h2, decide_eq_true (p := b ≤ a ∧ a ≤ c) ⟨h1, h2⟩]; rfl
    · rw [decide_eq_true h1, decide_eq_false h2, decide_eq_false (p := b ≤ a ∧ a ≤ c) (fun h => h2 h.2)]; rfl
  · rw [decide_eq_false h1, decide_eq_false (p := b ≤ a ∧ a ≤ c) (fun h => h1 h.1)]; rfl
theorem wire_right (w : GWire) (h : okW2 w) : f11 w = some 0 := by
  obtain ⟨h1, h2, h3, h4, h5⟩ := h
  unfold f11
  rw [f22_eq, f22_eq, f22_eq, decide_eq_true h1]
  simp only [Option.bind_some]
  by_cases m2 : w.Mode = 2
  · obtain ⟨g1, g2, g3⟩ := h5 (by omega)
    rw [decide_eq_true m2, decide_eq_true (h2 m2), decide_eq_true g1, decide_eq_true g2, decide_eq_true g3]; rfl
  · have hc := h3 m2
    rw [decide_eq_false m2, decide_eq_true hc]
    simp only [cond_false]
    by_cases m4 : w.Mode < 4
    · obtain ⟨g1, g2, g3⟩ := h5 (by omega)
      rw [decide_eq_true m4, decide_eq_true g1, decide_eq_true g2, decide_eq_true g3]; rfl
    · obtain ⟨⟨g0, g1⟩, g2, g3⟩ := h4 (by omega)
      rw [decide_eq_false m4, decide_eq_true (p := 0 ≤ w.Opt ∧ w.Opt ≤ 255) ⟨g0, g1⟩, decide_eq_true (show (w.Buf.length : Int) ≤ 4096 by omega)]
      simp only [cond_false, cond_true]
      cases ho : w.Over with
      | false => rfl
      | true =>
        rw [decide_eq_true (g3 ho)]; rfl
/-- The wire stays right. -/
def Iv (s : RS) : Prop := okW2 (wireS s)
theorem sub_iv (c : UInt8) (s : RS) (h4 : s.mode = 4) (hc : s.cmd = 0) (hs : subOk (wireS s)) : Iv (subS c s) := by
  obtain ⟨h1, h2, h3⟩ := hs
  have mk : ∀ w : GWire, w.Mode = 4 → w.Cmd = 0 → subOk w → okW2 w := fun w a b d => ⟨by omega, (fun h => by omega), fun _ => b, fun _ => d, fun h => absurd (.inl a) h⟩
  unfold Iv subS
  split
  · exact mk _ h4 hc ⟨h1, by show ([] : List UInt8).length ≤ 4096; decide, fun _ => rfl⟩
  · split
    · exact mk _ h4 hc ⟨h1, h2, h3⟩
    · rename_i hn ho
      refine mk _ h4 hc ⟨h1, ?_, fun h => absurd h (by simpa [wireS] using ho)⟩
      show (s.buf ++ [c]).length ≤ 4096
      have : s.buf.length ≤ 4096 := h2
      simp; omega
theorem step_iv (s : RS) (c : UInt8) (h : Iv s) : Iv (stepS s c) := by
  have hcl := c.toNat_lt
  obtain ⟨h1, h2, h3, h4, h5⟩ := h
  simp only [wireS] at h1 h2 h3 h4 h5
  have mk : ∀ w : GWire, (0 ≤ w.Mode ∧ w.Mode ≤ 3) → (w.Mode = 2 → 251 ≤ w.Cmd ∧ w.Cmd ≤ 254) → (w.Mode ≠ 2 → w.Cmd = 0) → noSub w → okW2 w := fun w a b d e => ⟨by omega, b, d, fun h => by omega, fun _ => e⟩
  unfold stepS
  split
  · rename_i m
    have h5 := h5 (by omega); have h3 := h3 (by omega)
    split
    · exact mk _ (by show (0 : Int) ≤ 1 ∧ (1 : Int) ≤ 3; omega) (fun hh => by cases hh) (fun _ => h3) h5
    · exact mk _ (by show 0 ≤ s.mode ∧ s.mode ≤ 3; omega) (fun hh => by have : s.mode = 2 := hh; omega) (fun _ => h3) h5
  split
  · rename_i m0 m
    have h5 := h5 (by omega); have h3 := h3 (by omega)
    unfold cmdS
    split
    · exact mk _ (by show (0 : Int) ≤ 0 ∧ (0 : Int) ≤ 3; omega) (fun hh => by cases hh) (fun _ => h3) h5
    split
    · rename_i hx hy
      exact mk _ (by show (0 : Int) ≤ 2 ∧ (2 : Int) ≤ 3; omega) (fun _ => by show 251 ≤ (c.toNat : Int) ∧ (c.toNat : Int) ≤ 254; omega) (fun hh => absurd rfl hh) h5
    split
    · exact mk _ (by show (0 : Int) ≤ 3 ∧ (3 : Int) ≤ 3; omega) (fun hh => by cases hh) (fun _ => h3) h5
    split
    · exact mk _ (by show (0 : Int) ≤ 0 ∧ (0 : Int) ≤ 3; omega) (fun hh => by cases hh) (fun _ => h3) h5
    · exact mk _ (by show (0 : Int) ≤ 0 ∧ (0 : Int) ≤ 3; omega) (fun hh => by cases hh) (fun _ => h3) h5
  split
  · rename_i m0 m1 m
    have h5 := h5 (by omega)
    exact mk _ (by show (0 : Int) ≤ 0 ∧ (0 : Int) ≤ 3; omega) (fun hh => by cases hh) (fun _ => rfl) h5
  split
  · rename_i m0 m1 m2 m
    have h3 := h3 (by omega)
    obtain ⟨g1, g2, g3⟩ := h5 (by omega)
    simp only at g1 g2 g3
    refine ⟨by show (0 : Int) ≤ 4 ∧ (4 : Int) ≤ 5; omega, (fun hh => by cases hh), fun _ => h3, fun _ => ⟨by show 0 ≤ (c.toNat : Int) ∧ (c.toNat : Int) ≤ 255; omega, ?_, fun _ => g2⟩, fun hh => absurd (.inl rfl) hh⟩
    show s.buf.length ≤ 4096
    rw [g2]; decide
  split
  · rename_i m0 m1 m2 m3 m
    have h3 := h3 (by omega); have h4 := h4 (.inl m)
    split
    · exact ⟨by show (0 : Int) ≤ 5 ∧ (5 : Int) ≤ 5; omega, (fun hh => by cases hh), fun _ => h3, fun _ => h4, fun hh => absurd (.inr rfl) hh⟩
    · exact sub_iv c s m h3 h4
  · rename_i m0 m1 m2 m3 m4
    have h3 := h3 (by omega); have h4 := h4 (by omega)
    split
    · exact sub_iv c (setMode s 4) rfl h3 h4
    · exact mk _ (by show (0 : Int) ≤ 0 ∧ (0 : Int) ≤ 3; omega) (fun hh => by cases hh) (fun _ => rfl) ⟨rfl, rfl, rfl⟩
theorem fold_iv : ∀ (x : List UInt8) (s : RS), Iv s → Iv (x.foldl stepS s)
  | [], s, h => h
  | c :: x, s, h => fold_iv x _ (step_iv s c h)
theorem wire_flush (s : RS) : wireS (flushS s) = wireS s := by unfold flushS; split <;> rfl
/-- Tokens as they are told: no data beside data, none empty. -/
def Can : Bool → List GTok → Prop
  | _, [] => True
  | op, t :: q => if t.Kind = 1 then (t.Data ≠ [] ∧ op = false ∧ t.Cmd = 0 ∧ t.Opt = 0) ∧ Can true q else t.Data.length ≤ 4096 ∧ Can false q
def opE : Bool → List GTok → Bool
  | op, [] => op
  | _, t :: q => opE (decide (t.Kind = 1)) q
theorem can_app : ∀ (a b : List GTok) (op : Bool), Can op (a ++ b) ↔ Can op a ∧ Can (opE op a) b
  | [], b, op => ⟨fun h => ⟨trivial, h⟩, fun h => h.2⟩
  | t :: a, b, op => by
    simp only [List.cons_append, Can, opE]
    by_cases h : t.Kind = 1
    · rw [if_pos h, if_pos h, can_app a b true, decide_eq_true h]; exact ⟨fun x => ⟨⟨x.1, x.2.1⟩, x.2.2⟩, fun x => ⟨x.1.1, x.1.2, x.2⟩⟩
    · rw [if_neg h, if_neg h, can_app a b false, decide_eq_false h]; exact ⟨fun x => ⟨⟨x.1, x.2.1⟩, x.2.2⟩, fun x => ⟨x.1.1, x.1.2, x.2⟩⟩
theorem opE_app : ∀ (a b : List GTok) (op : Bool), opE op (a ++ b) = opE (opE op a) b
  | [], b, op => rfl
  | t :: a, b, op => by simp only [List.cons_append, opE]; exact opE_app a b _
/-- What has been told so far ends with a token that is no data. -/
def Tl (s : RS) : Prop := Can false s.l ∧ opE false s.l = false
theorem tok_tl (t : GTok) (s : RS) (h : Tl s) (hk : t.Kind ≠ 1) (hd : t.Data.length ≤ 4096) : Can false (tokS t s).l ∧ opE false (tokS t s).l = false := by
  obtain ⟨h1, h2⟩ := h
  have last : ∀ l : List GTok, Can false l → Can false (l ++ [t]) ∧ opE false (l ++ [t]) = false := fun l hl => by
    refine ⟨(can_app l [t] false).2 ⟨hl, ?_⟩, ?_⟩
    · unfold Can; rw [if_neg hk]; exact ⟨hd, trivial⟩
    · rw [opE_app]; simp [opE, hk]
  refine last _ ?_
  unfold flushS
  split
  · rename_i hp
    refine (can_app s.l _ false).2 ⟨h1, ?_⟩
    rw [h2]
    unfold Can
    rw [if_pos rfl]
    exact ⟨⟨fun e => by simp only at e; rw [e] at hp; simp at hp, rfl, rfl, rfl⟩, trivial⟩
  · exact h1
theorem step_tl (s : RS) (c : UInt8) (h : Tl s) (hb : s.buf.length ≤ 4096) : Tl (stepS s c) := by
  have e4 : ∀ t : GTok, t.Kind ≠ 1 → t.Data.length ≤ 4096 → Can false (tokS t s).l ∧ opE false (tokS t s).l = false := fun t a b => tok_tl t s h a b
  have e5 : ∀ t : GTok, t.Kind ≠ 1 → t.Data.length ≤ 4096 → Can false (tokS t (setMode s 0)).l ∧ opE false (tokS t (setMode s 0)).l = false := fun t a b => tok_tl t (setMode s 0) h a b
  unfold stepS
  split
  · split <;> exact h
  split
  · unfold cmdS
    split
    · exact h
    split
    · exact h
    split
    · exact h
    split
    · exact e5 _ (show ¬ (2 : Int) = 1 by decide) (Nat.zero_le _)
    · exact e5 _ (show ¬ (5 : Int) = 1 by decide) (Nat.zero_le _)
  split
  · exact e4 _ (show ¬ (3 : Int) = 1 by decide) (Nat.zero_le _)
  split
  · exact h
  split
  · split
    · exact h
    · unfold subS; split
      · exact h
      · split <;> exact h
  · split
    · unfold subS; split
      · exact h
      · split <;> exact h
    · have : Can false (tokS (endT c s) s).l ∧ opE false (tokS (endT c s) s).l = false := by
        unfold endT
        split
        · split
          · exact e4 _ (show ¬ (5 : Int) = 1 by decide) (Nat.zero_le _)
          · exact e4 _ (show ¬ (4 : Int) = 1 by decide) hb
        · exact e4 _ (show ¬ (5 : Int) = 1 by decide) (Nat.zero_le _)
      exact this
theorem fold_tl : ∀ (x : List UInt8) (s : RS) (n : Nat), small s n → s.buf.length ≤ 4096 → n + x.length ≤ 100000000 → Tl s → Tl (x.foldl stepS s)
  | [], s, n, _, _, _, h => h
  | c :: x, s, n, hs, hb, hn, h => by
    simp only [List.length_cons] at hn
    obtain ⟨_, q, r⟩ := step_ok c s n hs hb (by omega)
    exact fold_tl x _ (n + 1) q r (by omega) (step_tl s c h hb)
theorem flush_can (s : RS) (h : Tl s) : Can false (flushS s).l := by
  obtain ⟨h1, h2⟩ := h
  unfold flushS
  split
  · rename_i hp
    refine (can_app s.l _ false).2 ⟨h1, ?_⟩
    rw [h2]
    unfold Can
    rw [if_pos rfl]
    exact ⟨⟨fun e => by simp only at e; rw [e] at hp; simp at hp, rfl, rfl, rfl⟩, trivial⟩
  · exact h1
/-- Merge over tokens as they are told. -/
theorem merge_step (pre : List GTok) (t : GTok) (q out : List GTok) (op : Bool) (hp : pre.length < 1000000000) (ho : out.length ≤ 1000000000) (h : Can op (t :: q)) :
    f13_l0 (pre ++ t :: q) (out, op, (pre.length : Int)) = some (.inl (out ++ [t], decide (t.Kind = 1), ((pre ++ [t]).length : Int))) := by
  unfold f13_l0 f13_l0_j1 f13_l0_j2
  simp only [lt_mid, cond_true, idx_mid, Option.bind_some]
  unfold Can at h
  by_cases hk : t.Kind = 1
  · rw [if_pos hk] at h
    obtain ⟨⟨h1, h2, _⟩, _⟩ := h
    subst h2
    rw [decide_eq_true hk, decide_eq_false h1]
    simp only [Bool.not_true, cond_false]
    rw [app_ok 40 _ _ (by simp; omega), wrap_nx pre t hp]; rfl
  · rw [decide_eq_false hk]
    simp only [Bool.not_false, cond_true]
    rw [app_ok 40 _ _ (by simp; omega), wrap_nx pre t hp]; rfl
theorem merge_run : ∀ (l suf pre out : List GTok) (op : Bool) (r : List GTok), pre.length + l.length ≤ 100000000 → out.length + l.length ≤ 100000000 → Can op l →
    loopO (f13_l0 (pre ++ l ++ suf)) (out ++ l, opE op l, ((pre ++ l).length : Int)) = some r → loopO (f13_l0 (pre ++ l ++ suf)) (out, op, (pre.length : Int)) = some r
  | [], suf, pre, out, op, r, hp, ho, hc, h => by simpa [opE] using h
  | t :: q, suf, pre, out, op, r, hp, ho, hc, h => by
    simp only [List.length_cons] at hp ho
    have e1 : pre ++ t :: q ++ suf = (pre ++ [t]) ++ q ++ suf := by simp
    have e2 : pre ++ t :: q ++ suf = pre ++ t :: (q ++ suf) := by simp
    have hcq : Can (decide (t.Kind = 1)) q := by
      unfold Can at hc
      by_cases hk : t.Kind = 1
      · rw [if_pos hk] at hc; rw [decide_eq_true hk]; exact hc.2
      · rw [if_neg hk] at hc; rw [decide_eq_false hk]; exact hc.2
    have hst : f13_l0 (pre ++ t :: q ++ suf) (out, op, (pre.length : Int)) = some (.inl (out ++ [t], decide (t.Kind = 1), ((pre ++ [t]).length : Int))) := by
      have key : Can op [t] := by
        unfold Can at hc ⊢
        by_cases hk : t.Kind = 1
        · rw [if_pos hk] at hc ⊢; exact ⟨hc.1, trivial⟩
        · rw [if_neg hk] at hc ⊢; exact ⟨hc.1, trivial⟩
      have g : ∀ q', f13_l0 (pre ++ t :: q') (out, op, (pre.length : Int)) = some (.inl (out ++ [t], decide (t.Kind = 1), ((pre ++ [t]).length : Int))) := fun q' => by
        unfold f13_l0 f13_l0_j1 f13_l0_j2
        simp only [lt_mid, cond_true, idx_mid, Option.bind_some]
        unfold Can at key
        by_cases hk : t.Kind = 1
        · rw [if_pos hk] at key
          obtain ⟨⟨h1, h2, _⟩, _⟩ := key
          subst h2
          rw [decide_eq_true hk, decide_eq_false h1]
          simp only [Bool.not_true, cond_false]
          rw [app_ok 40 _ _ (by simp; omega), wrap_nx pre t (by omega)]; rfl
        · rw [decide_eq_false hk]
          simp only [Bool.not_false, cond_true]
          rw [app_ok 40 _ _ (by simp; omega), wrap_nx pre t (by omega)]; rfl
      rw [e2]; exact g _
    refine loopO_next hst ?_
    rw [e1] at h ⊢
    refine merge_run q suf (pre ++ [t]) (out ++ [t]) (decide (t.Kind = 1)) r (by simp; omega) (by simp; omega) hcq ?_
    rw [show pre ++ [t] ++ q = pre ++ t :: q by simp, show out ++ [t] ++ q = out ++ t :: q by simp]
    rw [show pre ++ [t] ++ q = pre ++ t :: q by simp] at h
    exact h
theorem merge_done (l out : List GTok) (op : Bool) : loopO (f13_l0 l) (out, op, (l.length : Int)) = some out := loopO_done (by
  unfold f13_l0 f13_l0_j1
  rw [show decide ((out, op, (l.length : Int)).2.2 < (l.length : Int)) = false from decide_eq_false (by show ¬ (l.length : Int) < (l.length : Int); omega)]
  rfl)
theorem merge_same (l : List GTok) (h : Can false l) (hl : l.length ≤ 100000000) : f13 l = some l := by
  unfold f13
  have := merge_run l [] [] [] false l (by simpa using hl) (by simpa using hl) h (by
    simp only [List.nil_append, List.append_nil]
    exact merge_done l l _)
  simp only [List.nil_append, List.append_nil, List.length_nil] at this
  rw [show (([], false, 0) : List GTok × Bool × Int) = ([], false, ((0 : Nat) : Int)) from rfl, this]; rfl
theorem can_get : ∀ (l : List GTok) (op : Bool), Can op l → ∀ i (hi : i < l.length), (l[i].Kind ≠ 1 → l[i].Data.length ≤ 4096) ∧ (l[i].Kind = 1 → l[i].Data ≠ [] ∧ (i = 0 → op = false) ∧ ∀ hp : 0 < i, l[i - 1].Kind ≠ 1)
  | t :: q, op, h, 0, hi => by
    unfold Can at h
    simp only [List.getElem_cons_zero]
    by_cases hk : t.Kind = 1
    · rw [if_pos hk] at h
      exact ⟨fun hn => absurd hk hn, fun _ => ⟨h.1.1, fun _ => h.1.2.1, fun hp => absurd hp (by omega)⟩⟩
    · rw [if_neg hk] at h
      exact ⟨fun _ => h.1, fun hh => absurd hh hk⟩
  | t :: q, op, h, i + 1, hi => by
    have hq : Can (decide (t.Kind = 1)) q := by
      unfold Can at h
      by_cases hk : t.Kind = 1
      · rw [if_pos hk] at h; rw [decide_eq_true hk]; exact h.2
      · rw [if_neg hk] at h; rw [decide_eq_false hk]; exact h.2
    obtain ⟨g1, g2⟩ := can_get q _ hq i (by simpa using hi)
    simp only [List.getElem_cons_succ]
    refine ⟨g1, fun hk => ⟨(g2 hk).1, fun e => by omega, fun _ => ?_⟩⟩
    cases i with
    | zero => have := (g2 hk).2.1 rfl; simpa using of_decide_eq_false this
    | succ i => exact (g2 hk).2.2 (by omega)
theorem inR_nat (i n : Nat) (h : i < n) : inR (i : Int) n = some i := by unfold inR; rw [if_pos (by omega)]; simp
theorem right_loop (a : GWire) (b : List UInt8) (w : GWire) (l : List GTok) (h : Can false l) (hl : l.length ≤ 100000000) : loopO (f4_l2 a b) (w, l, (l.length : Int), 0) = some (.inl (w, l)) := by
  obtain ⟨r, h1, h2⟩ := loopO_ind (body := f4_l2 a b) (fun n x => ∃ i : Nat, x = (w, l, (l.length : Int), (i : Int)) ∧ i ≤ l.length ∧ n = l.length - i) (fun r => r = .inl (w, l)) (by
    rintro n x ⟨i, rfl, hi, rfl⟩
    unfold f4_l2 f4_l2_j3 f4_l2_j4
    by_cases hlt : i < l.length
    · rw [decide_eq_true (p := (w, l, (l.length : Int), (i : Int)).2.2.2 < (w, l, (l.length : Int), (i : Int)).2.2.1) (by show (i : Int) < (l.length : Int); omega)]
      obtain ⟨g1, g2⟩ := can_get l false h i hlt
      have hg : l[i]? = some l[i] := List.getElem?_eq_getElem hlt
      simp only [cond_true, inR_nat i _ hlt, hg, Option.bind_some]
      rw [i64w ((i : Int) + 1) (by omega)]
      left
      refine ⟨(w, l, (l.length : Int), ((i + 1 : Nat) : Int)), l.length - (i + 1), ?_, by omega, i + 1, rfl, by omega, rfl⟩
      by_cases hk : l[i].Kind = 1
      · obtain ⟨d1, d2, d3⟩ := g2 hk
        rw [decide_eq_true hk, decide_eq_false d1]
        have inner : (bif decide (0 < (i : Int)) then (inR (IntKind.i64.wrap ((i : Int) - 1)) l.length).bind fun m => (l[m]?).bind fun z => (bif decide (z.Kind = 1) then (some (.inr (.inr false)) : Option ((GWire × (List GTok) × Int × Int) ⊕ ((GWire × (List GTok)) ⊕ Bool))) else some (.inl (w, l, (l.length : Int), (i : Int) + 1))) else some (.inl (w, l, (l.length : Int), (i : Int) + 1))) = some (.inl (w, l, (l.length : Int), ((i + 1 : Nat) : Int))) := by
          by_cases hp : 0 < i
          · have hlt' : i - 1 < l.length := by omega
            have hg' : l[i - 1]? = some l[i - 1] := List.getElem?_eq_getElem hlt'
            rw [decide_eq_true (show 0 < (i : Int) by omega), i64w ((i : Int) - 1) (by omega), show (i : Int) - 1 = ((i - 1 : Nat) : Int) by omega, inR_nat _ _ hlt']
            simp only [cond_true, Option.bind_some, hg']
            rw [decide_eq_false (d3 hp)]; rfl
          · rw [decide_eq_false (show ¬ 0 < (i : Int) by omega)]; rfl
        cases decide (4096 < (l[i].Data.length : Int)) <;> simp only [cond_true, cond_false, Bool.not_true] <;> exact inner
      · have hn := g1 hk
        rw [decide_eq_false hk, decide_eq_false (show ¬ 4096 < (l[i].Data.length : Int) by omega)]
        rfl
    · rw [decide_eq_false (p := (w, l, (l.length : Int), (i : Int)).2.2.2 < (w, l, (l.length : Int), (i : Int)).2.2.1) (by show ¬ (i : Int) < (l.length : Int); omega)]
      exact .inr ⟨_, rfl, rfl⟩) (n := l.length) (x := (w, l, (l.length : Int), 0)) ⟨0, rfl, by omega, rfl⟩
  rw [h1, h2]
theorem f12_big (l : List GTok) (h : l.length ≤ 100000000) : f12 l l = some true := by
  have lp : ∀ (suf pre : List GTok), pre ++ suf = l → loopO (f12_l1 l l) (pre.length : Int) = some (.inl ()) := by
    intro suf
    induction suf with
    | nil =>
      intro pre e
      refine loopO_done ?_
      subst e
      unfold f12_l1 f12_l1_j2
      simp only [lt_end, cond_false]
    | cons x t ih =>
      intro pre e
      have hx : l = pre ++ x :: t := e.symm
      refine loopO_next ?_ (ih (pre ++ [x]) (by simp [hx]))
      have hp : pre.length < 1000000000 := by rw [hx] at h; simp at h; omega
      rw [hx]
      unfold f12_l1 f12_l1_j2 f12_l1_j3
      simp only [lt_mid, cond_true, idx_mid, Option.bind_some, decide_true, Bool.and_self, Bool.not_true, cond_false]
      rw [wrap_nx pre x hp]
  unfold f12
  rw [decide_eq_true rfl]
  simp only [Bool.not_true, cond_false]
  unfold f12_j0
  have := lp l [] rfl
  rw [show ((0 : Int)) = (([] : List GTok).length : Int) from rfl, this]; rfl
theorem init_ok (w : GWire) (hb : w.Buf.length ≤ 4096) : small (initS w) 0 := ⟨by simp [initS], by simp [initS], by show w.Buf.length ≤ _; omega⟩
theorem buf_ok (w : GWire) (h : okW2 w) : w.Buf.length ≤ 4096 := by
  by_cases h45 : w.Mode = 4 ∨ w.Mode = 5
  · exact (h.2.2.2.1 h45).2.1
  · rw [(h.2.2.2.2 h45).2.1]; decide
theorem iacRight (w : GWire) (s : List UInt8) (hs : s.length ≤ 1048576) : f4 w s = some true := by
  rcases f15_iff w with ⟨hw, e⟩ | ⟨hw, e⟩
  · have hb := buf_ok w hw
    have sm := init_ok w hb
    unfold f4
    rw [feed_ok w s e hb (by omega), lives]
    simp only [Option.bind_some, Bool.not_true, cond_false, decide_true]
    have tl := fold_tl s (initS w) 0 sm hb (by omega) ⟨trivial, rfl⟩
    have iv := fold_iv s (initS w) hw
    have fw := fold_few w s hb (by omega)
    have cn := flush_can _ tl
    rw [wire_flush]
    unfold f4_j0
    rw [right_loop _ _ _ _ cn (by omega)]
    simp only [Option.bind_some, Sum.elim_inl]
    unfold f4_j1
    rw [wire_right _ iv, merge_same _ cn (by omega)]
    simp only [Option.bind_some, decide_true, cond_true]
    rw [f12_big _ (by omega)]; rfl
  · unfold f4
    have : f8 w s = some (w, [], 4) := by
      unfold f8
      rw [e]; rfl
    rw [this, lives]; rfl
theorem IacRight_walk (v0 v1 : Value) (w : World) (h0 : Arg (some 1048576) Go.Proofs.Tryd.prog w 23 v0) (h1 : Arg (some 1048576) Go.Proofs.Tryd.prog w 9 v1) (hsh : w.ShapedOpen Go.Proofs.Tryd.prog) : Calls Go.Proofs.Tryd.prog 4 #[v0, v1] w fun e w' => e = .returned (.bool true) ∧ Below w.heap.size w w' :=
  IacRight_calls (some 1048576) (fun a s ha hs => iacRight a s (by have := hs.2; unfold FitN at this; omega)) v0 v1 w h0 h1 (maxcell hsh)
end Go.Proofs.YtjndlncimgoacaaDoor.Pm
