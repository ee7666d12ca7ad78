/- clip: what Rows, text and Text compute. -/
import Derived.Test.YtioikkmmjljedaaGreatDoorClG
namespace Go.Proofs.YtioikkmmjljedaaGreatDoor.Pm
open Go.Proofs.YtioikkmmjljedaaGreatDoor.Args
open Go.ChangeShapes Go.WideShapes Go.ChangeAt Go.RowKit
set_option linter.unusedVariables false
set_option linter.unusedSimpArgs false
set_option maxRecDepth 100000
/-- A row that begins with no half. -/
structure Gd (r : List GCell) : Prop where
  pos : 1 ≤ r.length
  le : r.length ≤ 160
  fst : (cx r 0).Rune ≠ 0
def gridR (g : GGrid) : List (List GCell) := (List.range g.High.toNat).map fun j => (g.Cells.drop (j * g.Wide.toNat)).take g.Wide.toNat
def rowsS (s : GScreen) : List (List GCell) := s.Past.map (fun x => x.Cells) ++ gridR s.Grid
theorem first_ok (W H : Nat) (c : List GCell) (n : Nat) (hW : 1 ≤ W) (hn : n < H) (hr : Rt W H c) : (cx c (n * W)).Rune ≠ 0 := by
  have h := hr n hn 0 (by omega)
  unfold okB at h
  rw [Bool.and_eq_true, Bool.and_eq_true, Bool.not_eq_true'] at h
  have h2 := (notlone _ _ _).1 h.2.2
  intro h0
  exact (h2.1 (by show (cx c (n * W + 0)).Rune = 0; rw [Nat.add_zero]; exact h0)).1 rfl
theorem rows_good (s : GScreen) (f : SF s) : libCollect s = some (rowsS s) ∧ (∀ r ∈ rowsS s, Gd r) ∧ 1 ≤ (rowsS s).length ∧ (rowsS s).length ≤ 100 := by
  obtain ⟨W, H, hW1, hW2, hH1, hH2, hg, hc, hr⟩ := gcode0 s.Grid f.g
  have hwi : s.Grid.Wide = W := by rw [hg]
  have hhi : s.Grid.High = H := by rw [hg]
  have hpast : ∀ x ∈ s.Past, Gd x.Cells := by
    intro x hx
    obtain ⟨i, hi, rfl⟩ := List.getElem_of_mem hx
    have hp := f.past.1 i hi
    unfold pastP at hp
    have hp := of_decide_eq_true hp
    rw [List.getD_eq_getElem?_getD, List.getElem?_eq_getElem hi, Option.getD_some] at hp
    obtain ⟨W2, H2, a1, a2, a3, a4, a5, a6, a7⟩ := gcode0 _ hp
    have e1 : (s.Past[i].Cells.length : Int) = W2 := congrArg GGrid.Wide a5
    have e2 : (1 : Int) = H2 := congrArg GGrid.High a5
    have h0 := first_ok W2 H2 _ 0 a1 (by omega) a7
    rw [Nat.zero_mul] at h0
    exact ⟨by omega, by omega, h0⟩
  have hgrid : ∀ r ∈ gridR s.Grid, Gd r := by
    intro r hr'
    unfold gridR at hr'
    obtain ⟨j, hj, rfl⟩ := List.mem_map.1 hr'
    rw [hhi, Int.toNat_natCast, List.mem_range] at hj
    rw [hwi, Int.toNat_natCast]
    have hm : (j + 1) * W ≤ W * H := by rw [Nat.mul_comm W H]; exact Nat.mul_le_mul_right W hj
    rw [Nat.add_mul, Nat.one_mul] at hm
    have hl : ((s.Grid.Cells.drop (j * W)).take W).length = W := by rw [List.length_take, List.length_drop, hc]; omega
    refine ⟨by omega, by omega, ?_⟩
    have h0 := first_ok W H _ j hW1 hj hr
    have e : cx ((s.Grid.Cells.drop (j * W)).take W) 0 = cx s.Grid.Cells (j * W) := by
      unfold cx
      rw [List.getD_eq_getElem?_getD, List.getD_eq_getElem?_getD, List.getElem?_take, if_pos (by omega), List.getElem?_drop, Nat.add_zero]
    rw [e]; exact h0
  have hlen : (rowsS s).length = s.Past.length + H := by
    unfold rowsS gridR
    rw [List.length_append, List.length_map, List.length_map, List.length_range, hhi, Int.toNat_natCast]
  refine ⟨?_, ?_, by omega, by have := f.past.2; omega⟩
  · unfold libCollect clT
    have hp2 := f.past.2
    rw [if_pos ⟨⟨by omega, by omega, by omega, by omega⟩, by rw [hwi, hhi, Int.toNat_natCast, Int.toNat_natCast, hc]; exact Nat.le_refl _, by omega, fun x hx => by have := (hpast x hx).le; show x.Cells.length ≤ _; omega⟩]
    rfl
  · intro r hr'
    unfold rowsS at hr'
    rcases List.mem_append.1 hr' with h | h
    · obtain ⟨x, hx, rfl⟩ := List.mem_map.1 h
      exact hpast x hx
    · exact hgrid r h
theorem rows_spec (s : GScreen) (hl : s.Past.length ≤ 1048576) : f10 s = some ([], 4) ∨ (f10 s = some (rowsS s, 0) ∧ (∀ r ∈ rowsS s, Gd r) ∧ 1 ≤ (rowsS s).length ∧ (rowsS s).length ≤ 100) := by
  unfold f10
  rcases scr_check s hl with h | ⟨h, f⟩
  · left
    rw [h, bs]; rfl
  · right
    obtain ⟨h1, h2⟩ := rows_good s f
    rw [h, bs, h1]
    refine ⟨?_, h2⟩
    rw [dt rfl, Bool.not_true, cf, bs]
/-- Without blanks at the end. -/
def strip (l : List Int) : List Int := (l.reverse.dropWhile fun x => decide (x = 32)).reverse
theorem strip_nil : strip [] = [] := rfl
theorem strip_32 (l : List Int) : strip (l ++ [32]) = strip l := by
  unfold strip
  rw [List.reverse_append]; simp [List.dropWhile_cons]
theorem strip_x (l : List Int) (c : Int) (h : c ≠ 32) : strip (l ++ [c]) = l ++ [c] := by
  unfold strip
  rw [List.reverse_append]; simp [List.dropWhile_cons, h]
theorem strip_len (l : List Int) : (strip l).length ≤ l.length := by
  unfold strip
  rw [List.length_reverse]
  have := (List.dropWhile_sublist (l := l.reverse) (fun x => decide (x = 32))).length_le
  rw [List.length_reverse] at this; exact this
def runes (l : List GCell) : List Int := (l.filter fun c => !decide (c.Rune = 0)).map fun c => c.Rune
theorem runes_app (a b : List GCell) : runes (a ++ b) = runes a ++ runes b := by unfold runes; rw [List.filter_append, List.map_append]
theorem runes_len (l : List GCell) : (runes l).length ≤ l.length := by unfold runes; rw [List.length_map]; exact List.length_filter_le _ _
theorem strip_loop (r : List GCell) (a b : Int) : ∀ (n : Nat) (x : List Int), x.length = n → n ≤ 1000000 → loopO (f13_l4 r a b) x = some (strip x)
  | 0, x, h, _ => by
    rw [List.eq_nil_of_length_eq_zero h]
    refine loopO_done ?_
    unfold f13_l4
    rw [df (by simp), cf]; rfl
  | n + 1, x, h, hn => by
    obtain ⟨y, c, rfl⟩ : ∃ y c, x = y ++ [c] := ⟨x.dropLast, x.getLast (by intro e; rw [e] at h; cases h), (List.dropLast_concat_getLast _).symm⟩
    have hy : y.length = n := by simp at h; exact h
    have hw : IntKind.i64.wrap (((y ++ [c]).length : Int) - 1) = (y.length : Int) := by rw [i64w _ (by simp; omega)]; simp
    have hg : (y ++ [c])[y.length]? = some c := by simp
    by_cases hc : c = 32
    · subst hc
      rw [strip_32]
      refine loopO_next ?_ (strip_loop r a b n y hy (by omega))
      unfold f13_l4
      rw [dt (by simp), ct, hw, inR_nat _ _ (by simp), bs, hg, bs, dt rfl, ct]
      have : sub? (y ++ [32]) 0 (y.length : Int) = some y := by unfold sub?; rw [if_pos (by simp; omega)]; simp
      rw [this, bs]
    · rw [strip_x y c hc]
      refine loopO_done ?_
      unfold f13_l4
      rw [dt (by simp), ct, hw, inR_nat _ _ (by simp), bs, hg, bs, df hc, cf]
theorem rune_loop (r : List GCell) (a b : Int) (l : List GCell) (hl : l.length ≤ 1000) : ∀ (suf pre : List GCell), l = pre ++ suf → loopO (f13_l5 r a b) (runes pre, l, (l.length : Int), (pre.length : Int)) = some (runes l)
  | [], pre, e => loopO_done (by
      subst e
      unfold f13_l5 f13_l5_j6
      simp only [lt_end, cond_false]
      simp)
  | c :: suf, pre, e => by
    have hp : pre.length < 1000 := by rw [e] at hl; simp at hl; omega
    have hlt : decide ((pre.length : Int) < (l.length : Int)) = true := by rw [e]; exact lt_mid pre c suf
    have hx : idx l (pre.length : Int) = some c := by rw [e]; exact idx_mid pre c suf
    refine loopO_next ?_ (rune_loop r a b l hl suf (pre ++ [c]) (by simp [e]))
    unfold f13_l5 f13_l5_j6 f13_l5_j7
    simp only [hlt, cond_true]
    rw [hx, bs, wrap_nx pre c (by omega), runes_app]
    have hrl := runes_len pre
    by_cases h0 : c.Rune = 0
    · rw [dt h0, Bool.not_true, cf]
      have : runes [c] = [] := by unfold runes; simp [h0]
      rw [this, List.append_nil]
    · rw [df h0, Bool.not_false, ct, app_ok 8 _ _ (by simp; omega), bs]
      have : runes [c] = [c.Rune] := by unfold runes; simp [h0]
      rw [this]
/-- The text of a row's cells. -/
def textS (r : List GCell) (fr tt : Nat) : List Int :=
  if min tt r.length ≤ min fr r.length then [] else
    strip (runes ((r.take (if min tt r.length < r.length ∧ (cx r (min tt r.length)).Rune = 0 then min tt r.length + 1 else min tt r.length)).drop (if (cx r (min fr r.length)).Rune = 0 then min fr r.length - 1 else min fr r.length)))
theorem textS_len (r : List GCell) (a b : Nat) : (textS r a b).length ≤ r.length := by
  unfold textS
  split
  · simp
  · refine Nat.le_trans (strip_len _) (Nat.le_trans (runes_len _) ?_)
    rw [List.length_drop, List.length_take]; omega
theorem min_i (a b : Nat) : (if (b : Int) < (a : Int) then (b : Int) else (a : Int)) = ((min a b : Nat) : Int) := by split <;> omega
theorem text_ok (r : List GCell) (h : Gd r) (a b : Nat) : f13 r a b = some (textS r a b) := by
  have hl := h.le
  have hp := h.pos
  unfold f13 textS
  rw [min_i, min_i]
  by_cases h1 : min b r.length ≤ min a r.length
  · rw [dt (by omega), ct, if_pos h1]
  rw [df (by omega), cf, if_neg h1]
  have ha : min a r.length < r.length := by omega
  have hend : ∀ (x y : Nat), x ≤ y → y ≤ r.length → f13_j2 r (a : Int) (b : Int) (x : Int) (y : Int) = some (strip (runes ((r.take y).drop x))) := by
    intro x y hxy hy
    unfold f13_j2
    have hs : sub? r (x : Int) (y : Int) = some ((r.take y).drop x) := by unfold sub?; rw [if_pos (by omega)]; simp
    rw [hs, bs]
    have hlen : ((r.take y).drop x).length ≤ 160 := by rw [List.length_drop, List.length_take]; omega
    have hr := rune_loop r a b ((r.take y).drop x) (by omega) ((r.take y).drop x) [] rfl
    have hr : loopO (f13_l5 r (a : Int) (b : Int)) ([], (r.take y).drop x, (((r.take y).drop x).length : Int), 0) = some (runes ((r.take y).drop x)) := hr
    rw [hr, bs]
    unfold f13_j3
    have hrl := runes_len ((r.take y).drop x)
    rw [strip_loop r a b _ _ rfl (by omega), bs]
  have hj1 : ∀ x : Nat, x < min b r.length → f13_j1 r (a : Int) (b : Int) (x : Int) = some (strip (runes ((r.take (if min b r.length < r.length ∧ (cx r (min b r.length)).Rune = 0 then min b r.length + 1 else min b r.length)).drop x))) := by
    intro x hx
    unfold f13_j1
    rw [min_i]
    by_cases hb : min b r.length < r.length
    · rw [dt (by omega), ct, cx_idx r _ hb, bs]
      by_cases h0 : (cx r (min b r.length)).Rune = 0
      · rw [dt h0, ct, if_pos ⟨hb, h0⟩]
        have : IntKind.i64.wrap (((min b r.length : Nat) : Int) + 1) = ((min b r.length + 1 : Nat) : Int) := by rw [i64w _ (by omega)]; rfl
        rw [this, hend x _ (by omega) (by omega)]
      · rw [df h0, cf, if_neg (fun h => h0 h.2), hend x _ (by omega) (by omega)]
    · rw [df (by omega), cf, if_neg (fun h => hb h.1), hend x _ (by omega) (by omega)]
  unfold f13_j0
  rw [min_i, cx_idx r _ ha, bs]
  by_cases h0 : (cx r (min a r.length)).Rune = 0
  · have hne : min a r.length ≠ 0 := fun e => h.fst (by rw [e] at h0; exact h0)
    rw [dt h0, ct, if_pos h0]
    have : IntKind.i64.wrap (((min a r.length : Nat) : Int) - 1) = ((min a r.length - 1 : Nat) : Int) := by rw [i64w _ (by omega)]; omega
    rw [this, hj1 _ (by omega)]
  · rw [df h0, cf, if_neg h0, hj1 _ (by omega)]
end Go.Proofs.YtioikkmmjljedaaGreatDoor.Pm
