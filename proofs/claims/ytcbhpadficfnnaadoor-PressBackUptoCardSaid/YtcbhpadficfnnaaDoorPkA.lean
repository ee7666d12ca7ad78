/- PressBack: what a mouse sends, and how it is read. -/
import Derived.Test.YtcbhpadficfnnaaDoorDPkZ
import Derived.Test.YtcbhpadficfnnaaDoorBas
import Derived.Test.YtcbhpadficfnnaaDoorPkG
import Derived.Lib.ItoaLen
namespace Go.Proofs.YtcbhpadficfnnaaDoor.Pm
open Go.Proofs.YtcbhpadficfnnaaDoor.Args
open Go.ChangeShapes Go.WideShapes Go.ChangeAt Go.RowKit
set_option linter.unusedVariables false
set_option linter.unusedSimpArgs false
set_option maxRecDepth 100000
theorem dt {p : Prop} [Decidable p] (h : p) : decide p = true := decide_eq_true h
theorem df {p : Prop} [Decidable p] (h : ¬ p) : decide p = false := decide_eq_false h
theorem bct {α : Type} {b : Bool} {x y : α} (h : b = true) : (bif b then x else y) = x := by rw [h, ct]
theorem bcf {α : Type} {b : Bool} {x y : α} (h : b = false) : (bif b then x else y) = y := by rw [h, cf]
structure MOk (m : GMouse) : Prop where
  b : ((m.Button = 64 ∨ m.Button = 65) ∧ m.Up = false) ∨ (0 ≤ m.Button ∧ m.Button ≤ 2)
  c : 0 ≤ m.Col ∧ m.Col ≤ 1000
  r : 0 ≤ m.Row ∧ m.Row ≤ 1000
  m : 0 ≤ m.Mods ∧ m.Mods ≤ 7
def endB (m : GMouse) : UInt8 := if m.Up = true then 109 else 77
def mstr (m : GMouse) : List UInt8 := [27, 91, 60] ++ Lib.itoa (m.Button + 4 * m.Mods) ++ [59] ++ Lib.itoa (m.Col + 1) ++ [59] ++ Lib.itoa (m.Row + 1) ++ [endB m]
theorem itoaL (n : Int) (h : -9223372036854775808 ≤ n ∧ n ≤ 9223372036854775807) : libItoaL n = some (Lib.itoa n) ∧ (Lib.itoa n).length ≤ 21 :=
  ⟨by unfold libItoaL; rw [if_pos h], Lib.itoa_length_le n h.1 h.2⟩
theorem send_ok (m : GMouse) (h : MOk m) : f4_j2 m 1536 true = some (mstr m, 0) := by
  have hb : 0 ≤ m.Button ∧ m.Button ≤ 65 := by have := h.b; omega
  have hc := h.c
  have hr := h.r
  have hm := h.m
  obtain ⟨e1, l1⟩ := itoaL (m.Button + 4 * m.Mods) (by omega)
  obtain ⟨e2, l2⟩ := itoaL (m.Col + 1) (by omega)
  obtain ⟨e3, l3⟩ := itoaL (m.Row + 1) (by omega)
  have j5 : ∀ e : UInt8, f4_j5 m 1536 (m.Button + 4 * m.Mods) [e] = some ([27, 91, 60] ++ Lib.itoa (m.Button + 4 * m.Mods) ++ [59] ++ Lib.itoa (m.Col + 1) ++ [59] ++ Lib.itoa (m.Row + 1) ++ [e], 0) := fun e => by
    unfold f4_j5
    rw [e1, bs, cat_ok _ _ (by simp; omega), bs, cat_ok _ _ (by simp; omega), bs, i64w (m.Col + 1) (by omega), e2, bs, cat_ok _ _ (by simp; omega), bs, cat_ok _ _ (by simp; omega), bs, i64w (m.Row + 1) (by omega), e3, bs, cat_ok _ _ (by simp; omega), bs, cat_ok _ _ (by simp; omega), bs]
  have j3 : f4_j3 m 1536 true m.Button = some (mstr m, 0) := by
    unfold f4_j3 f4_j4
    rw [Bool.not_true, cf, i64w (4 * m.Mods) (by omega), i64w (m.Button + 4 * m.Mods) (by omega)]
    unfold mstr endB
    cases hu : m.Up with
    | true => rw [ct, j5]; rfl
    | false => rw [cf, j5]; rfl
  unfold f4_j2
  rw [Bool.not_true, cf]
  cases m.Up with
  | true => rw [ct]; exact j3
  | false => rw [cf]; exact j3
theorem mouse_ok (m : GMouse) : (f4 m 1536 = some ([], 1) ∧ ¬ MOk m) ∨ (MOk m ∧ f4 m 1536 = some (mstr m, 0)) := by
  have j6t : f4_j6 m 1536 true true = some ([], 1) := by unfold f4_j6; rw [ct]
  have j6f : MOk m → f4_j6 m 1536 true false = some (mstr m, 0) := fun h => by
    unfold f4_j6
    rw [cf, bcf (show decide ((bitI .and .i64 1536 512) = 0) = false by decide), Bool.not_true, cf]
    exact send_ok m h
  have j0 : ∀ p, f4_j0 m 1536 p = f4_j1 m 1536 p true := fun p => by
    unfold f4_j0
    rw [bct (show (!decide ((bitI .and .i64 1536 1024) = 0)) = true by decide)]
  -- behind the button
  have rest : ∀ p : Bool, (p = true ↔ (m.Button = 64 ∨ m.Button = 65)) → (p = true ∨ (0 ≤ m.Button ∧ m.Button ≤ 2)) →
      ((bif (decide (m.Col < 0)) then (f4_j6 m 1536 true true) else (bif (decide (1000 < m.Col)) then (f4_j6 m 1536 true true) else (bif (decide (m.Row < 0)) then (f4_j6 m 1536 true true) else (bif (decide (1000 < m.Row)) then (f4_j6 m 1536 true true) else (bif (decide (m.Mods < 0)) then (f4_j6 m 1536 true true) else (bif (decide (7 < m.Mods)) then (f4_j6 m 1536 true true) else (bif m.Up then (f4_j6 m 1536 true p) else (f4_j6 m 1536 true false)))))))) = some ([], 1) ∧ ¬ MOk m) ∨ (MOk m ∧ (bif (decide (m.Col < 0)) then (f4_j6 m 1536 true true) else (bif (decide (1000 < m.Col)) then (f4_j6 m 1536 true true) else (bif (decide (m.Row < 0)) then (f4_j6 m 1536 true true) else (bif (decide (1000 < m.Row)) then (f4_j6 m 1536 true true) else (bif (decide (m.Mods < 0)) then (f4_j6 m 1536 true true) else (bif (decide (7 < m.Mods)) then (f4_j6 m 1536 true true) else (bif m.Up then (f4_j6 m 1536 true p) else (f4_j6 m 1536 true false)))))))) = some (mstr m, 0)) := fun p hp hb => by
    by_cases c1 : m.Col < 0
    · rw [bct (dt c1)]; exact .inl ⟨j6t, fun h => by have := h.c; omega⟩
    rw [bcf (df c1)]
    by_cases c2 : 1000 < m.Col
    · rw [bct (dt c2)]; exact .inl ⟨j6t, fun h => by have := h.c; omega⟩
    rw [bcf (df c2)]
    by_cases c3 : m.Row < 0
    · rw [bct (dt c3)]; exact .inl ⟨j6t, fun h => by have := h.r; omega⟩
    rw [bcf (df c3)]
    by_cases c4 : 1000 < m.Row
    · rw [bct (dt c4)]; exact .inl ⟨j6t, fun h => by have := h.r; omega⟩
    rw [bcf (df c4)]
    by_cases c5 : m.Mods < 0
    · rw [bct (dt c5)]; exact .inl ⟨j6t, fun h => by have := h.m; omega⟩
    rw [bcf (df c5)]
    by_cases c6 : 7 < m.Mods
    · rw [bct (dt c6)]; exact .inl ⟨j6t, fun h => by have := h.m; omega⟩
    rw [bcf (df c6)]
    have mk : (m.Up = true → p = false) → MOk m := fun q => by
      refine ⟨?_, by omega, by omega, by omega⟩
      cases hpp : p with
      | true =>
        refine .inl ⟨hp.1 hpp, ?_⟩
        cases hu : m.Up with
        | false => rfl
        | true => have := q hu; rw [hpp] at this; cases this
      | false => exact .inr (hb.resolve_left (by rw [hpp]; decide))
    cases hu : m.Up with
    | false =>
      have := mk (fun q => by rw [hu] at q; cases q)
      rw [cf]
      exact .inr ⟨this, j6f this⟩
    | true =>
      rw [ct]
      cases hpp : p with
      | true =>
        refine .inl ⟨j6t, fun h => ?_⟩
        have := h.b
        rw [hu] at this
        have h2 := hp.1 hpp
        rcases this with ⟨_, q⟩ | q
        · cases q
        · omega
      | false =>
        have := mk (fun _ => hpp)
        exact .inr ⟨this, j6f this⟩
  unfold f4
  by_cases b1 : m.Button = 64
  · rw [bct (dt b1), j0]
    unfold f4_j1
    rw [Bool.not_true, cf]
    exact rest true ⟨fun _ => .inl b1, fun _ => rfl⟩ (.inl rfl)
  rw [bcf (df b1)]
  by_cases b2 : m.Button = 65
  · rw [bct (dt b2), j0]
    unfold f4_j1
    rw [Bool.not_true, cf]
    exact rest true ⟨fun _ => .inr b2, fun _ => rfl⟩ (.inl rfl)
  rw [bcf (df b2), j0]
  unfold f4_j1
  rw [Bool.not_false, ct]
  by_cases b3 : m.Button < 0
  · rw [bct (dt b3)]; exact .inl ⟨j6t, fun h => by have := h.b; omega⟩
  rw [bcf (df b3)]
  by_cases b4 : 2 < m.Button
  · rw [bct (dt b4)]; exact .inl ⟨j6t, fun h => by have := h.b; omega⟩
  rw [bcf (df b4)]
  exact rest false ⟨fun h => (by cases h), fun h => absurd h (by omega)⟩ (.inr (by omega))
/-- What is read, whatever comes. -/
theorem tp_ok (s : List UInt8) (hl : s.length ≤ 1000000000) : ∃ t, f9 s [27, 91, 60] = some t ∧ t.length ≤ s.length := by
  unfold f9 f16 f32
  by_cases h : ((([27, 91, 60] : List UInt8).length : Int)) ≤ (s.length : Int)
  · have h3 : 3 ≤ s.length := by simp at h; omega
    rw [bct (dt h)]
    have e1 : sub? s 0 ((([27, 91, 60] : List UInt8).length : Int)) = some ((s.take 3).drop 0) := sub_nat s 0 3 (by omega) h3
    have e2 : sub? s ((([27, 91, 60] : List UInt8).length : Int)) (s.length : Int) = some ((s.take s.length).drop 3) := sub_nat s 3 s.length h3 (Nat.le_refl _)
    rw [e1, bs]
    cases decide (List.drop 0 (List.take 3 s) = [27, 91, 60]) with
    | true => rw [ct, bs, ct, e2, bs, bs]; exact ⟨_, rfl, by simp⟩
    | false => rw [cf, bs, cf, bs]; exact ⟨_, rfl, Nat.le_refl _⟩
  · rw [bcf (df h), bs, cf, bs]; exact ⟨_, rfl, Nat.le_refl _⟩
def Z0 : GMouse := ⟨0, 0, 0, 0, false⟩
theorem atoi_tot (s : List UInt8) (h : s.length ≤ 1000000000) : ∃ z, libAtoi s = some z := by
  unfold libAtoi
  rw [if_pos (by omega)]
  cases Lib.atoiAll s <;> exact ⟨_, rfl⟩
theorem suf_tot (s : List UInt8) (h : s.length ≤ 1000000000) : libHasSuffix s [109] = some (Lib.hasSuffix s [109]) := by
  unfold libHasSuffix
  rw [if_pos (by omega)]
def Rd (s : List UInt8) (o : Option (GMouse × Int)) : Prop := o = some (Z0, 4) ∨ ∃ m, o = some (m, 0) ∧ MOk m ∧ mstr m = s
theorem fin_ok (s : List UInt8) (p : Nat → Int) (hl : s.length ≤ 1000000000) : Rd s (f5_j1 s p) := by
  unfold f5_j1
  rw [suf_tot s hl, bs]
  generalize GMouse.mk (bitI .andNot .i64 (p 0) 28) (IntKind.i64.wrap ((p 1) - 1)) (IntKind.i64.wrap ((p 2) - 1)) (bitI .and .i64 (Int.fdiv (p 0) (2 ^ 2)) 7) (Lib.hasSuffix s [109]) = m
  rcases mouse_ok m with ⟨h, _⟩ | ⟨h, e⟩
  · rw [h, bs, bct (by rfl)]; exact .inl rfl
  · rw [e, bs, bcf (by rfl)]
    try dsimp only []
    by_cases q : mstr m = s
    · rw [dt q, Bool.not_true, cf]; exact .inr ⟨m, rfl, h, q⟩
    · rw [df q, Bool.not_false, ct]; exact .inl rfl
theorem read_tot (s : List UInt8) (hl : s.length ≤ 100000000) : Rd s (f5 s) := by
  unfold f5
  have e1 : ∃ t, libTrimRightS s [109, 77] = some t ∧ t.length ≤ s.length := by
    unfold libTrimRightS
    rw [if_pos ⟨by omega, by simp, by decide⟩]
    refine ⟨_, rfl, ?_⟩
    unfold Lib.trimRightS
    rw [List.length_reverse]
    have := (List.dropWhile_sublist (fun x => ([109, 77] : List UInt8).contains x) (l := s.reverse)).length_le
    rwa [List.length_reverse] at this
  obtain ⟨t, ht, tl⟩ := e1
  obtain ⟨u, hu, ul⟩ := tp_ok t (by omega)
  rw [ht, bs, hu, bs, split_ok u 59 (by omega), bs]
  by_cases h3 : ((splitC 59 u).length : Int) = 3
  case neg => rw [df h3, Bool.not_false, ct]; exact .inl rfl
  rw [dt h3, Bool.not_true, cf]
  have hp : ∀ w ∈ splitC 59 u, w.length ≤ 1000000000 := fun w hw => by have := (splitC_part 59 u w hw).1; omega
  generalize splitC 59 u = ps at h3 hp
  unfold f5_j0
  obtain ⟨r, hr, hq⟩ := loopO_ind (body := f5_l2 s) (fun k (x : (Nat → Int) × List (List UInt8) × Int × Int) => ∃ i : Nat, x.2.2.2 = (i : Int) ∧ i ≤ 3 ∧ k = 3 - i ∧ x.2.1 = ps ∧ x.2.2.1 = (ps.length : Int)) (fun r => (∃ p, r = .inl p) ∨ r = .inr (Z0, 4)) (by
    rintro k ⟨p, ps', n, _⟩ ⟨i, rfl, hi, rfl, h1, h2⟩
    try dsimp only [] at h1 h2
    subst h1; subst h2
    unfold f5_l2
    try dsimp only []
    by_cases hlt : i < 3
    · rw [bct (dt (by omega))]
      unfold f5_l2_j3 f5_l2_j4
      have hx : idx ps' (i : Int) = some (ps'[i]'(by omega)) := by unfold idx; rw [if_pos (by omega)]; simp
      obtain ⟨z, hz⟩ := atoi_tot (ps'[i]'(by omega)) (hp _ (List.getElem_mem _))
      have hi3 : inR (i : Int) 3 = some i := by unfold inR; rw [if_pos (by omega)]; simp
      rw [ct, hx, bs, hz, bs, hi3, bs]
      cases z.2 with
      | true => right; rw [ct]; exact ⟨_, rfl, .inr rfl⟩
      | false =>
        left; rw [cf]
        have hw : IntKind.i64.wrap ((i : Int) + 1) = ((i + 1 : Nat) : Int) := by rw [i64w _ (by omega)]; omega
        exact ⟨_, 3 - (i + 1), rfl, by omega, i + 1, hw, by omega, rfl, rfl, rfl⟩
    · right
      rw [bcf (df (by omega))]
      unfold f5_l2_j3
      rw [cf]
      exact ⟨_, rfl, .inl ⟨_, rfl⟩⟩) (n := 3) (x := ((fun _ => 0), ps, (ps.length : Int), 0)) ⟨0, rfl, by omega, by omega, rfl, rfl⟩
  rw [hr, bs]
  rcases hq with ⟨p, rfl⟩ | rfl
  · rw [Sum.elim_inl]; exact fin_ok s p (by omega)
  · rw [Sum.elim_inr]; exact .inl rfl
end Go.Proofs.YtcbhpadficfnnaaDoor.Pm
