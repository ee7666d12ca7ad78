/- scr_check gcode0 notlone loop_to loop_scan idx_nat inR_nat cells_le SF rowL_len rowF: what the typed functions compute, and the laws. -/
import Derived.Test.YtioikkmmjljedaaGreatDoorDCwZ
import Derived.Test.YtioikkmmjljedaaGreatDoorBa0
namespace Go.Proofs.YtioikkmmjljedaaGreatDoor.Pm
open Go.Proofs.YtioikkmmjljedaaGreatDoor.Args
open Go.ChangeShapes Go.WideShapes Go.ChangeAt Go.RowKit
set_option linter.unusedVariables false
set_option linter.unusedSimpArgs false
set_option maxRecDepth 100000
theorem inR_nat (i n : Nat) (h : i < n) : inR (i : Int) n = some i := by unfold inR; rw [if_pos (by omega)]; simp
theorem loop_to {σ ρ : Type} {body : σ → Option (σ ⊕ ρ)} (f : Nat → σ) (r : ρ) (n : Nat) (hn : body (f n) = some (.inr r)) : ∀ k, k ≤ n → (∀ i, k ≤ i → i < n → body (f i) = some (.inl (f (i + 1)))) → loopO body (f k) = some r := by
  intro k hk h
  induction hd : n - k generalizing k with
  | zero =>
    have : k = n := by omega
    subst this; exact loopO_done hn
  | succ d ih => exact loopO_next (h k (by omega) (by omega)) (ih (k + 1) (by omega) (fun i h1 h2 => h i (by omega) h2) (by omega))
theorem first_bad (P : Nat → Bool) : ∀ n, (∀ i, i < n → P i = true) ∨ ∃ k, k < n ∧ P k = false ∧ ∀ i, i < k → P i = true
  | 0 => .inl fun i h => absurd h (by omega)
  | n + 1 => by
    rcases first_bad P n with h | ⟨k, h1, h2, h3⟩
    · cases hp : P n with
      | true => exact .inl fun i hi => by rcases Nat.lt_succ_iff_lt_or_eq.1 hi with h' | rfl; exact h i h'; exact hp
      | false => exact .inr ⟨n, by omega, hp, h⟩
    · exact .inr ⟨k, by omega, h2, h3⟩
theorem loop_scan {σ ρ : Type} {body : σ → Option (σ ⊕ ρ)} (f : Nat → σ) (r0 r1 : ρ) (n : Nat) (P : Nat → Bool) (h1 : ∀ i, i < n → P i = true → body (f i) = some (.inl (f (i + 1)))) (h2 : ∀ i, i < n → P i = false → body (f i) = some (.inr r1))
    (h0 : body (f n) = some (.inr r0)) : loopO body (f 0) = some (if ∀ i, i < n → P i = true then r0 else r1) := by
  rcases first_bad P n with h | ⟨k, hk, hb, hg⟩
  · rw [if_pos h]; exact loop_to f r0 n h0 0 (by omega) fun i _ hi => h1 i hi (h i hi)
  · rw [if_neg (fun h => by rw [h k hk] at hb; cases hb)]
    exact loop_to f r1 k (h2 k hk hb) 0 (by omega) fun i _ hi => h1 i (by omega) (hg i hi)
theorem wr1 (i : Nat) (h : i < 1000000000) : IntKind.i64.wrap ((i : Int) + 1) = ((i + 1 : Nat) : Int) := by rw [i64w _ (by omega)]; omega
theorem dt {p : Prop} [Decidable p] (h : p) : decide p = true := decide_eq_true h
theorem df {p : Prop} [Decidable p] (h : ¬ p) : decide p = false := decide_eq_false h
theorem bct {α : Type} {b : Bool} {x y : α} (h : b = true) : (bif b then x else y) = x := by rw [h, ct]
theorem bcf {α : Type} {b : Bool} {x y : α} (h : b = false) : (bif b then x else y) = y := by rw [h, cf]
theorem idx_nat {α : Type} (l : List α) (i : Nat) (z : α) (h : i < l.length) : idx l (i : Int) = some (l.getD i z) := by
  unfold idx; rw [if_pos (by omega)]; simp [h]
/-- Widths. -/
def hit (a : Int) (x : Int × Int) : Bool := decide (x.1 ≤ a) && decide (a ≤ x.2)
theorem in_ok (a : Int) (l : List (Int × Int)) (hl : l.length ≤ 1000) : f72 a l = some (l.any (hit a)) := by
  unfold f72
  have h := loop_scan (body := f72_l0 a l) (fun i => (i : Int)) (.inl ()) (.inr true) l.length (fun i => !(hit a (l.getD i (0, 0)))) ?_ ?_ ?_
  · rw [show ((0 : Nat) : Int) = 0 from rfl] at h
    rw [h, bs]
    by_cases hp : ∀ i, i < l.length → (!(hit a (l.getD i (0, 0)))) = true
    · rw [if_pos hp]
      show some false = _
      have : l.any (hit a) = false := by
        rw [List.any_eq_false]
        intro x hx
        obtain ⟨i, hi, rfl⟩ := List.getElem_of_mem hx
        have := hp i hi
        simp [hi] at this
        simp [this]
      rw [this]
    · rw [if_neg hp]
      show some true = _
      have : l.any (hit a) = true := by
        rw [List.any_eq_true]
        rcases first_bad (fun i => !(hit a (l.getD i (0, 0)))) l.length with h | ⟨k, hk, hb, _⟩
        · exact absurd h hp
        · refine ⟨l[k], List.getElem_mem hk, ?_⟩
          simp [hk] at hb
          exact hb
      rw [this]
  · intro i hi hp
    unfold f72_l0 f72_l0_j1 f72_l0_j2
    simp only [hit, Bool.not_eq_true', Bool.and_eq_false_imp, decide_eq_true_eq, decide_eq_false_iff_not] at hp
    rw [bct (dt (by omega)), ct, idx_nat l i (0, 0) hi, bs]
    by_cases h1 : (l.getD i (0, 0)).1 ≤ a
    · rw [bct (dt h1), bcf (df (hp h1)), wr1 i (by omega)]
    · rw [bcf (df h1), wr1 i (by omega)]
  · intro i hi hp
    unfold f72_l0 f72_l0_j1 f72_l0_j2
    simp only [hit, Bool.not_eq_false', Bool.and_eq_true, decide_eq_true_eq] at hp
    rw [bct (dt (by omega)), ct, idx_nat l i (0, 0) hi, bs, bct (dt hp.1), bct (dt hp.2)]
  · unfold f72_l0 f72_l0_j1
    rw [bcf (df (by omega)), cf]
def noneL : List (Int × Int) := [(0, 31), (127, 159), (768, 879), (8203, 8207), (55296, 57343), (65024, 65039)]
def twoL : List (Int × Int) := [(4352, 4447), (11904, 12350), (12353, 19903), (19968, 42191), (44032, 55203), (63744, 64255), (65072, 65135), (65280, 65376), (65504, 65510), (127744, 128591), (129280, 129535), (131072, 262141)]
def wd (a : Int) : Int := if a < 0 ∨ 1114111 < a ∨ noneL.any (hit a) = true then 0 else if twoL.any (hit a) = true then 2 else 1
theorem width_ok (a : Int) : f45 a = some (wd a) := by
  unfold f45 f45_j0 wd
  rw [in_ok a _ (by decide), in_ok a _ (by decide)]
  simp only [bs]
  rw [show ([(0, 31), (127, 159), (768, 879), (8203, 8207), (55296, 57343), (65024, 65039)] : List (Int × Int)) = noneL from rfl,
    show ([(4352, 4447), (11904, 12350), (12353, 19903), (19968, 42191), (44032, 55203), (63744, 64255), (65072, 65135), (65280, 65376), (65504, 65510), (127744, 128591), (129280, 129535), (131072, 262141)] : List (Int × Int)) = twoL from rfl]
  by_cases h1 : a < 0
  · rw [bct (dt h1), ct, if_pos (.inl h1)]
  · rw [bcf (df h1)]
    by_cases h2 : 1114111 < a
    · rw [bct (dt h2), ct, if_pos (.inr (.inl h2))]
    · rw [bcf (df h2)]
      cases h3 : noneL.any (hit a) with
      | true => rw [ct, if_pos (.inr (.inr rfl))]
      | false =>
        rw [cf, if_neg (by simp [h1, h2])]
        cases h4 : twoL.any (hit a) with
        | true => rw [ct, if_pos rfl]
        | false => rw [cf, if_neg (by simp)]
theorem wd0 : wd 0 = 0 := by decide
/-- Pens. -/
def colB (n : Int) : Bool := (decide (0 ≤ n) && decide (n ≤ 256)) || (decide (16777216 ≤ n) && decide (n < 33554432))
def pcB (p : GPen) : Bool := (decide (0 ≤ p.Flags) && decide (p.Flags ≤ 255)) && (colB p.Fore && colB p.Back)
def pcI (p : GPen) : Int := if pcB p = true then 0 else 4
theorem col_ok (n : Int) : f47 n = some (colB n) := by
  unfold f47 colB
  cases decide (0 ≤ n) <;> cases decide (n ≤ 256) <;> cases decide (16777216 ≤ n) <;> cases decide (n < 33554432) <;> rfl
theorem pen_ok (p : GPen) : f28 p = some (pcI p) := by
  unfold f28 pcI pcB
  rw [col_ok, col_ok]
  simp only [bs]
  by_cases h1 : p.Flags < 0
  · rw [bct (dt h1), df (p := 0 ≤ p.Flags) (by omega)]; rfl
  · rw [bcf (df h1), dt (p := 0 ≤ p.Flags) (by omega)]
    by_cases h2 : 255 < p.Flags
    · rw [bct (dt h2), df (p := p.Flags ≤ 255) (by omega)]; rfl
    · rw [bcf (df h2), dt (p := p.Flags ≤ 255) (by omega)]
      cases colB p.Fore <;> cases colB p.Back <;> rfl
def P0 : GPen := ⟨0, 0, 0⟩
def Z0 : GCell := ⟨0, P0⟩
abbrev cx (l : List GCell) (i : Nat) : GCell := l.getD i Z0
def peq (p q : GPen) : Bool := decide (p.Flags = q.Flags) && (decide (p.Fore = q.Fore) && (decide (p.Back = q.Back) && true))
/-- The rest of a wide character. -/
def tlF (f : Nat → GCell) (W k : Nat) : Bool := decide (k < W) && (decide ((f k).Rune = 0) && peq (f k).Pen (f (k - 1)).Pen)
def loneF (f : Nat → GCell) (W i : Nat) : Bool :=
  if (f i).Rune = 0 then (decide (i = 0) || (!decide (wd (f (i - 1)).Rune = 2) || !tlF f W i)) else (decide (wd (f i).Rune = 2) && !tlF f W (i + 1))
theorem cx_idx (l : List GCell) (i : Nat) (h : i < l.length) : idx l (i : Int) = some (cx l i) := idx_nat l i Z0 h
theorem wrm (k : Nat) (h1 : 1 ≤ k) (h : k < 1000000000) : IntKind.i64.wrap ((k : Int) - 1) = ((k - 1 : Nat) : Int) := by rw [i64w _ (by omega)]; omega
theorem tail_ok (l : List GCell) (k : Nat) (h1 : 1 ≤ k) (hk : k ≤ l.length) (hl : l.length ≤ 1000000) (r : List PD) : f73 (k : Int) l r = some (tlF (cx l) l.length k) := by
  unfold f73 tlF
  by_cases h : k < l.length
  · rw [bct (dt (by omega)), dt h, Bool.true_and, cx_idx l k h, bs]
    by_cases h0 : (cx l k).Rune = 0
    · rw [bct (dt h0), dt h0, Bool.true_and, bs, wrm k h1 (by omega), cx_idx l (k - 1) (by omega), bs]
      show (bif peq (cx l k).Pen (cx l (k - 1)).Pen then some true else some false) = _
      cases peq (cx l k).Pen (cx l (k - 1)).Pen <;> rfl
    · rw [bcf (df h0), df h0, Bool.false_and]
  · rw [bcf (df (by omega)), df h, Bool.false_and]
theorem lone_ok (l : List GCell) (i : Nat) (h : i < l.length) (hl : l.length ≤ 1000000) : f46 l (i : Int) = some (loneF (cx l) l.length i) := by
  unfold f46 f46_j0 loneF
  rw [cx_idx l i h, bs]
  by_cases h0 : (cx l i).Rune = 0
  · rw [bct (dt h0), if_pos h0]
    by_cases hi : i = 0
    · rw [bct (dt (by omega)), dt hi, Bool.true_or]
    · rw [bcf (df (by omega)), df hi, Bool.false_or, wrm i (by omega) (by omega), cx_idx l (i - 1) (by omega), bs, width_ok, bs, tail_ok l i (by omega) (by omega) hl, bs]
      cases decide (wd (cx l (i - 1)).Rune = 2) <;> rfl
  · rw [bcf (df h0), if_neg h0, bs, width_ok, bs, wr1 i (by omega), tail_ok l (i + 1) (by omega) (by omega) hl, bs]
    cases decide (wd (cx l i).Rune = 2) <;> rfl
theorem loneF_congr (f g : Nat → GCell) (W i : Nat) (hi : i < W) (h : ∀ k, k < W → f k = g k) : loneF f W i = loneF g W i := by
  unfold loneF tlF
  rw [h i hi, h (i - 1) (by omega), show i + 1 - 1 = i from rfl, h i hi]
  by_cases h1 : i + 1 < W
  · rw [h (i + 1) h1]
  · rw [df h1]; rfl
def okB (f : Nat → GCell) (W i : Nat) : Bool := pcB (f i).Pen && ((decide ((f i).Rune = 0) || !decide (wd (f i).Rune = 0)) && !loneF f W i)
/-- Row n of cells. -/
def rowF (W : Nat) (c : List GCell) (n : Nat) : Nat → GCell := fun i => cx c (n * W + i)
def Rt (W H : Nat) (c : List GCell) : Prop := ∀ n, n < H → (∀ i, i < W → okB (rowF W c n) W i = true)
instance (W H : Nat) (c : List GCell) : Decidable (Rt W H c) := by unfold Rt; infer_instance
def rowL (W : Nat) (c : List GCell) (n : Nat) : List GCell := (c.take ((n + 1) * W)).drop (n * W)
theorem mul_le (n H W : Nat) (h : n < H) : (n + 1) * W ≤ W * H := by rw [Nat.mul_comm W H]; exact Nat.mul_le_mul_right W h
theorem rowL_len (W H : Nat) (c : List GCell) (n : Nat) (hc : c.length = W * H) (hn : n < H) : (rowL W c n).length = W := by
  have := mul_le n H W hn
  unfold rowL
  rw [List.length_drop, List.length_take, Nat.min_eq_left (by omega), Nat.succ_mul]; omega
theorem rowL_cx (W H : Nat) (c : List GCell) (n i : Nat) (hc : c.length = W * H) (hn : n < H) (hi : i < W) : cx (rowL W c n) i = rowF W c n i := by
  have := mul_le n H W hn
  unfold rowL rowF cx
  rw [List.getD_eq_getElem?_getD, List.getD_eq_getElem?_getD, List.getElem?_drop, List.getElem?_take, if_pos (by rw [Nat.succ_mul]; omega)]
theorem size_le (W H : Nat) (hW : W ≤ 160) (hH : H ≤ 60) : W * H ≤ 9600 := by
  have := Nat.mul_le_mul hW hH; omega
theorem wrW (W H n : Nat) (hW : W ≤ 160) (hH : H ≤ 60) (hn : n ≤ H) : IntKind.i64.wrap ((n : Int) * (W : Int)) = ((n * W : Nat) : Int) := by
  have h1 := Nat.mul_le_mul hn hW
  have h2 : n * W ≤ 9600 := by omega
  rw [show (n : Int) * (W : Int) = ((n * W : Nat) : Int) from (Int.natCast_mul n W).symm, i64w _ (by omega)]
theorem wrW2 (W H : Nat) (hW : W ≤ 160) (hH : H ≤ 60) : IntKind.i64.wrap ((W : Int) * (H : Int)) = ((W * H : Nat) : Int) := by
  have h2 := size_le W H hW hH
  rw [show (W : Int) * (H : Int) = ((W * H : Nat) : Int) from (Int.natCast_mul W H).symm, i64w _ (by omega)]
theorem sub_nat {α : Type} (xs : List α) (a b : Nat) (h1 : a ≤ b) (h2 : b ≤ xs.length) : sub? xs (a : Int) (b : Int) = some ((xs.take b).drop a) := by
  unfold sub?
  rw [if_pos (by omega)]; simp
theorem row_ok (W H : Nat) (c : List GCell) (n : Nat) (hc : c.length = W * H) (hn : n < H) (hW : W ≤ 160) (hH : H ≤ 60) : f44 ⟨W, H, c⟩ (n : Int) = some (rowL W c n) := by
  have := mul_le n H W hn
  unfold f44
  dsimp only []
  rw [wr1 n (by omega), wrW W H n hW hH (by omega), wrW W H (n + 1) hW hH (by omega), sub_nat _ _ _ (Nat.mul_le_mul_right W (by omega)) (by omega), bs]
  rfl
/-- The error of a grid. -/
def gcode (g : GGrid) : Int :=
  if 1 ≤ g.Wide ∧ g.Wide ≤ 160 ∧ 1 ≤ g.High ∧ g.High ≤ 60 then (if (g.Cells.length : Int) = g.Wide * g.High then (if Rt g.Wide.toNat g.High.toNat g.Cells then 0 else 4) else 4) else 1
theorem size_ok (w h : Int) : f34 w h = some (if 1 ≤ w ∧ w ≤ 160 ∧ 1 ≤ h ∧ h ≤ 60 then 0 else 1) := by
  unfold f34
  by_cases h1 : w < 1
  · rw [bct (dt h1), if_neg (by omega)]
  rw [bcf (df h1)]
  by_cases h2 : 160 < w
  · rw [bct (dt h2), if_neg (by omega)]
  rw [bcf (df h2)]
  by_cases h3 : h < 1
  · rw [bct (dt h3), if_neg (by omega)]
  rw [bcf (df h3)]
  by_cases h4 : 60 < h
  · rw [bct (dt h4), if_neg (by omega)]
  rw [bcf (df h4), if_pos (by omega)]
theorem pcI0 (p : GPen) : decide (pcI p = 0) = pcB p := by unfold pcI; cases pcB p <;> rfl
theorem all_sum {ρ : Type} (P : Prop) [Decidable P] (a b : ρ) (c : Prop) [Decidable c] (h : P ↔ c) : (if P then a else b) = if c then a else b := by
  by_cases hp : P
  · rw [if_pos hp, if_pos (h.1 hp)]
  · rw [if_neg hp, if_neg (fun q => hp (h.2 q))]
/-- A row's check. -/
theorem rowchk_ok (a1 : GGrid) (W H : Nat) (c : List GCell) (n : Nat) (z : Int) (hc : c.length = W * H) (hn : n < H) (hW : W ≤ 160) (hH : H ≤ 60) :
    loopO (f26_l2_l5 a1) (rowL W c n, z, rowL W c n, ((rowL W c n).length : Int), 0) = some (if ∀ i, i < W → okB (rowF W c n) W i = true then .inl z else .inr 4) := by
  have hl := rowL_len W H c n hc hn
  have hx : ∀ k, k < W → cx (rowL W c n) k = rowF W c n k := fun k hk => rowL_cx W H c n k hc hn hk
  generalize rowL W c n = l at hl hx ⊢
  have h := loop_scan (body := f26_l2_l5 a1) (fun i => (l, z, l, (l.length : Int), (i : Int))) (.inl z) (.inr 4) W (fun i => okB (rowF W c n) W i) ?_ ?_ ?_
  · exact h
  · intro i hi hp
    have hil : i < l.length := by omega
    unfold okB at hp
    simp only [Bool.and_eq_true, Bool.or_eq_true, decide_eq_true_eq, Bool.not_eq_true'] at hp
    obtain ⟨h1, h2, h3⟩ := hp
    rw [← hx i hi] at h1 h2
    rw [← loneF_congr (cx l) _ W i hi hx] at h3
    unfold f26_l2_l5 f26_l2_l5_j6 f26_l2_l5_j7
    dsimp only []
    rw [bct (dt (by omega)), ct, cx_idx l i hil, bs, pen_ok, bs, pcI0, h1, Bool.not_true, cf, width_ok, bs, lone_ok l i hil (by omega), hl, h3]
    simp only [bs, cf]
    rw [wr1 i (by omega)]
    rcases h2 with h2 | h2
    · rw [dt h2]; rfl
    · rw [h2]
      cases decide ((cx l i).Rune = 0) <;> rfl
  · intro i hi hp
    have hil : i < l.length := by omega
    unfold okB at hp
    rw [← hx i hi, ← loneF_congr (cx l) _ W i hi hx] at hp
    unfold f26_l2_l5 f26_l2_l5_j6 f26_l2_l5_j7
    dsimp only []
    rw [bct (dt (by omega)), ct, cx_idx l i hil, bs, pen_ok, bs, pcI0, width_ok, bs, lone_ok l i hil (by omega), hl]
    simp only [bs]
    cases h1 : pcB (cx l i).Pen with
    | false => rfl
    | true =>
      rw [h1, Bool.true_and] at hp
      rw [Bool.not_true, cf]
      cases h2 : decide ((cx l i).Rune = 0) with
      | true =>
        rw [h2, Bool.true_or, Bool.true_and] at hp
        have h3 : loneF (cx l) W i = true := by simpa using hp
        rw [h3]; rfl
      | false =>
        rw [h2, Bool.false_or] at hp
        rw [Bool.not_false, ct]
        cases h3 : decide (wd (cx l i).Rune = 0) with
        | true => rfl
        | false =>
          rw [h3, Bool.not_false, Bool.true_and] at hp
          have h3 : loneF (cx l) W i = true := by simpa using hp
          rw [h3]; rfl
  · unfold f26_l2_l5 f26_l2_l5_j6
    dsimp only []
    rw [bcf (df (by omega)), cf]
theorem Rt_iff (W H : Nat) (c : List GCell) : (∀ n, n < H → decide (∀ i, i < W → okB (rowF W c n) W i = true) = true) ↔ Rt W H c := by
  unfold Rt
  constructor
  · intro h n hn; exact of_decide_eq_true (h n hn)
  · intro h n hn; exact dt (h n hn)
theorem chk_loop (W H : Nat) (c : List GCell) (hc : c.length = W * H) (hW : W ≤ 160) (hH : H ≤ 60) :
    loopO (f26_l2 ⟨W, H, c⟩) 0 = some (if Rt W H c then .inl () else .inr 4) := by
  have h := loop_scan (body := f26_l2 ⟨W, H, c⟩) (fun i => (i : Int)) (.inl ()) (.inr 4) H (fun n => decide (∀ i, i < W → okB (rowF W c n) W i = true)) ?_ ?_ ?_
  · rw [all_sum _ _ _ _ (Rt_iff W H c)] at h; exact h
  · intro n hn hp
    unfold f26_l2 f26_l2_j3 f26_l2_j4
    rw [bct (dt (by show (n : Int) < (H : Int); omega)), ct, row_ok W H c n hc hn hW hH, bs, rowchk_ok _ W H c n n hc hn hW hH, bs, if_pos (of_decide_eq_true hp)]
    simp only [Sum.elim_inl]
    rw [wr1 n (by omega)]
  · intro n hn hp
    unfold f26_l2 f26_l2_j3 f26_l2_j4
    rw [bct (dt (by show (n : Int) < (H : Int); omega)), ct, row_ok W H c n hc hn hW hH, bs, rowchk_ok _ W H c n n hc hn hW hH, bs, if_neg (of_decide_eq_false hp)]
    rfl
  · unfold f26_l2 f26_l2_j3
    rw [bcf (df (by show ¬ (H : Int) < (H : Int); omega)), cf]
theorem check_ok (g : GGrid) : f26 g = some (gcode g) := by
  obtain ⟨w, h, c⟩ := g
  unfold f26 f26_j0 f26_j1 gcode
  rw [size_ok, bs]
  dsimp only []
  by_cases hs : 1 ≤ w ∧ w ≤ 160 ∧ 1 ≤ h ∧ h ≤ 60
  · rw [if_pos hs, if_pos hs, bcf (by rfl)]
    obtain ⟨W, rfl⟩ := Int.eq_ofNat_of_zero_le (show 0 ≤ w by omega)
    obtain ⟨H, rfl⟩ := Int.eq_ofNat_of_zero_le (show 0 ≤ h by omega)
    rw [wrW2 W H (by omega) (by omega)]
    by_cases hc : c.length = W * H
    · rw [if_pos (by rw [hc]; exact Int.natCast_mul W H), bcf (by rw [dt (by omega)]; rfl), chk_loop W H c hc (by omega) (by omega), bs, Int.toNat_natCast, Int.toNat_natCast]
      by_cases hr : Rt W H c
      · rw [if_pos hr, if_pos hr]; rfl
      · rw [if_neg hr, if_neg hr]; rfl
    · rw [if_neg (by rw [← Int.natCast_mul]; omega), bct (by rw [df (by omega)]; rfl)]
  · rw [if_neg hs, if_neg hs, bct (by rfl)]
theorem gcode0 (g : GGrid) (h : gcode g = 0) : ∃ W H : Nat, 1 ≤ W ∧ W ≤ 160 ∧ 1 ≤ H ∧ H ≤ 60 ∧ g = ⟨W, H, g.Cells⟩ ∧ g.Cells.length = W * H ∧ Rt W H g.Cells := by
  obtain ⟨w, hh, c⟩ := g
  unfold gcode at h
  dsimp only [] at h
  split at h
  · rename_i hs
    split at h
    · rename_i hc
      split at h
      · rename_i hr
        obtain ⟨W, rfl⟩ := Int.eq_ofNat_of_zero_le (show 0 ≤ w by omega)
        obtain ⟨H, rfl⟩ := Int.eq_ofNat_of_zero_le (show 0 ≤ hh by omega)
        rw [Int.toNat_natCast, Int.toNat_natCast] at hr
        rw [← Int.natCast_mul] at hc
        exact ⟨W, H, by omega, by omega, by omega, by omega, rfl, by dsimp only []; omega, hr⟩
      · exact absurd h (by decide)
    · exact absurd h (by decide)
  · exact absurd h (by decide)
/-- A half that is no half. -/
theorem notlone (f : Nat → GCell) (W i : Nat) : loneF f W i = false ↔ ((f i).Rune = 0 → i ≠ 0 ∧ wd (f (i - 1)).Rune = 2 ∧ tlF f W i = true) ∧ (wd (f i).Rune = 2 → tlF f W (i + 1) = true) := by
  unfold loneF
  by_cases h0 : (f i).Rune = 0
  · rw [if_pos h0, h0, wd0]
    simp
  · rw [if_neg h0]
    simp [h0]
theorem within_ok (a lo hi : Int) : f27 a lo hi = some (decide (lo ≤ a) && decide (a ≤ hi)) := by
  unfold f27
  cases decide (lo ≤ a) <;> cases decide (a ≤ hi) <;> rfl
theorem known_ok (a : Int) : f29 a = some (decide (1 ≤ a) && decide (a ≤ 4)) := by
  unfold f29
  cases decide (1 ≤ a) <;> cases decide (a ≤ 4) <;> rfl
def lineG (x : GLine) : GGrid := ⟨(x.Cells.length : Int), 1, x.Cells⟩
def L0 : GLine := ⟨[]⟩
def pastP (l : List GLine) (i : Nat) : Bool := decide (gcode (lineG (l.getD i L0)) = 0)
theorem past_ok (l : List GLine) (hl : l.length ≤ 1048576) : f30 l = some (decide ((∀ i, i < l.length → pastP l i = true) ∧ l.length ≤ 40)) := by
  unfold f30
  have h := loop_scan (body := f30_l0 l) (fun i => (i : Int)) (.inl ()) (.inr false) l.length (pastP l) ?_ ?_ ?_
  · rw [show ((0 : Nat) : Int) = 0 from rfl] at h
    rw [h, bs]
    by_cases hp : ∀ i, i < l.length → pastP l i = true
    · rw [if_pos hp, Sum.elim_inl]
      by_cases h4 : l.length ≤ 40
      · rw [bct (dt (by omega)), dt ⟨hp, h4⟩]
      · rw [bcf (df (by omega)), df (fun q => h4 q.2)]
    · rw [if_neg hp, Sum.elim_inr, df (fun q => hp q.1)]
  · intro i hi hp
    unfold f30_l0 f30_l0_j1 f30_l0_j2
    rw [bct (dt (by omega)), ct, idx_nat l i L0 hi, bs, check_ok, bs, wr1 i (by omega)]
    have : gcode (lineG (l.getD i L0)) = 0 := of_decide_eq_true hp
    show (bif !decide (gcode (lineG (l.getD i L0)) = 0) then _ else _) = _
    rw [dt this, Bool.not_true, cf]
  · intro i hi hp
    unfold f30_l0 f30_l0_j1 f30_l0_j2
    rw [bct (dt (by omega)), ct, idx_nat l i L0 hi, bs, check_ok, bs]
    have : ¬ gcode (lineG (l.getD i L0)) = 0 := of_decide_eq_false hp
    show (bif !decide (gcode (lineG (l.getD i L0)) = 0) then _ else _) = _
    rw [df this, Bool.not_false, ct]
  · unfold f30_l0 f30_l0_j1
    rw [bcf (df (by omega)), cf]
structure SF (s : GScreen) : Prop where
  g : gcode s.Grid = 0
  o : gcode s.Other = 0
  w : s.Grid.Wide = s.Other.Wide
  h : s.Grid.High = s.Other.High
  row : 0 ≤ s.Row ∧ s.Row ≤ s.Grid.High - 1
  col : 0 ≤ s.Col ∧ s.Col ≤ s.Grid.Wide - 1
  pen : pcB s.Pen = true
  spen : pcB s.Saved.Pen = true
  modes : 0 ≤ s.Modes ∧ s.Modes ≤ 2047
  pg1 : 1 ≤ s.Pages.1 ∧ s.Pages.1 ≤ 4
  sp1 : 1 ≤ s.Saved.Pages.1 ∧ s.Saved.Pages.1 ≤ 4
  pg2 : 1 ≤ s.Pages.2 ∧ s.Pages.2 ≤ 4
  sp2 : 1 ≤ s.Saved.Pages.2 ∧ s.Saved.Pages.2 ≤ 4
  sh : 0 ≤ s.Shift ∧ s.Shift ≤ 1
  ssh : 0 ≤ s.Saved.Shift ∧ s.Saved.Shift ≤ 1
  srow : 0 ≤ s.Saved.Row ∧ s.Saved.Row ≤ 59
  scol : 0 ≤ s.Saved.Col ∧ s.Saved.Col ≤ 159
  title : s.Title.length ≤ 256
  past : (∀ i, i < s.Past.length → pastP s.Past i = true) ∧ s.Past.length ≤ 40
theorem bc (b : Bool) : b = true ∨ b = false := by cases b <;> simp
theorem two_dec {p q : Prop} [Decidable p] [Decidable q] (h : (decide p && decide q) = true) : p ∧ q := by simpa using h
theorem pen0 (p : GPen) : decide (pcI p = 0) = pcB p := pcI0 p
theorem scr_check (s : GScreen) (hl : s.Past.length ≤ 1048576) : f17 s = some 4 ∨ (f17 s = some 0 ∧ SF s) := by
  unfold f17
  rw [check_ok, bs]
  by_cases g : gcode s.Grid = 0
  case neg => left; rw [bcf (df g)]; rfl
  rw [bct (dt g), check_ok, bs]
  by_cases o : gcode s.Other = 0
  case neg => left; rw [bcf (df o)]; rfl
  rw [bct (dt o)]
  by_cases w : s.Grid.Wide = s.Other.Wide
  case neg => left; rw [bcf (df w)]; rfl
  rw [bct (dt w)]
  by_cases h : s.Grid.High = s.Other.High
  case neg => left; rw [bcf (df h)]; rfl
  rw [bct (dt h)]
  obtain ⟨W, H, w1, w2, h1, h2, e, hc, hR⟩ := gcode0 s.Grid g
  have eW : s.Grid.Wide = (W : Int) := by rw [e]
  have eH : s.Grid.High = (H : Int) := by rw [e]
  unfold f17_j0
  rw [ct, within_ok, bs, i64w (s.Grid.High - 1) (by omega), i64w (s.Grid.Wide - 1) (by omega)]
  rcases bc (decide (0 ≤ s.Row) && decide (s.Row ≤ s.Grid.High - 1)) with row | row
  case inr => left; rw [bcf row]; rfl
  rw [bct row, within_ok, bs]
  rcases bc (decide (0 ≤ s.Col) && decide (s.Col ≤ s.Grid.Wide - 1)) with col | col
  case inr => left; rw [bcf col]; rfl
  rw [bct col]
  have late : ∀ P : Option Int → Prop, P (f17_j1 s true) → P (some 4) → P (bif (!s.Late) then (f17_j1 s true) else (bif (decide (s.Col = s.Grid.Wide - 1)) then (f17_j1 s true) else (f17_j1 s false))) := fun P p1 p2 => by
    cases s.Late with
    | false => exact p1
    | true =>
      show P (bif decide _ then _ else _)
      cases decide (s.Col = s.Grid.Wide - 1)
      · exact p2
      · exact p1
  refine late (fun x => x = some 4 ∨ (x = some 0 ∧ SF s)) ?_ (.inl rfl)
  unfold f17_j1
  rw [ct, within_ok, bs]
  rcases bc (decide (0 ≤ s.Top) && decide (s.Top ≤ IntKind.i64.wrap (s.Bottom - 1))) with top | top
  case inr => left; rw [bcf top]; rfl
  rw [bct top]
  rcases bc (decide (s.Bottom ≤ s.Grid.High)) with bot | bot
  case inr => left; rw [bcf bot]; rfl
  rw [bct bot]
  unfold f17_j2
  rw [ct, pen_ok, bs, pen0]
  rcases bc (pcB s.Pen) with pen | pen
  case inr => left; rw [bcf pen]; rfl
  rw [bct pen, pen_ok, bs, pen0]
  rcases bc (pcB s.Saved.Pen) with spen | spen
  case inr => left; rw [bcf spen]; rfl
  rw [bct spen, within_ok, bs]
  unfold f17_j3 f17_j7
  rcases bc (decide (0 ≤ s.Modes) && decide (s.Modes ≤ 2047)) with modes | modes
  case inr => left; rw [bcf modes]; rfl
  rw [bct modes, known_ok, bs]
  rcases bc (decide (1 ≤ s.Pages.1) && decide (s.Pages.1 ≤ 4)) with pg1 | pg1
  case inr => left; rw [bcf pg1]; rfl
  rw [bct pg1, known_ok, bs]
  unfold f17_j8
  rcases bc (decide (1 ≤ s.Saved.Pages.1) && decide (s.Saved.Pages.1 ≤ 4)) with sp1 | sp1
  case inr => left; rw [bcf sp1]; rfl
  rw [bct sp1, known_ok, bs]
  rcases bc (decide (1 ≤ s.Pages.2) && decide (s.Pages.2 ≤ 4)) with pg2 | pg2
  case inr => left; rw [bcf pg2]; rfl
  rw [bct pg2, known_ok, bs]
  unfold f17_j4
  rcases bc (decide (1 ≤ s.Saved.Pages.2) && decide (s.Saved.Pages.2 ≤ 4)) with sp2 | sp2
  case inr => left; rw [bcf sp2]; rfl
  rw [bct sp2, within_ok, bs]
  rcases bc (decide (0 ≤ s.Shift) && decide (s.Shift ≤ 1)) with sh | sh
  case inr => left; rw [bcf sh]; rfl
  rw [bct sh, within_ok, bs]
  unfold f17_j5
  rcases bc (decide (0 ≤ s.Saved.Shift) && decide (s.Saved.Shift ≤ 1)) with ssh | ssh
  case inr => left; rw [bcf ssh]; rfl
  rw [bct ssh, within_ok, bs]
  rcases bc (decide (0 ≤ s.Saved.Row) && decide (s.Saved.Row ≤ 59)) with srow | srow
  case inr => left; rw [bcf srow]; rfl
  rw [bct srow, within_ok, bs]
  unfold f17_j6
  rcases bc (decide (0 ≤ s.Saved.Col) && decide (s.Saved.Col ≤ 159)) with scol | scol
  case inr => left; rw [bcf scol]
  rw [bct scol]
  rcases bc (decide ((s.Title.length : Int) ≤ 256)) with title | title
  case inr => left; rw [bcf title]
  rw [bct title, past_ok s.Past hl, bs]
  by_cases past : (∀ i, i < s.Past.length → pastP s.Past i = true) ∧ s.Past.length ≤ 40
  case neg => left; rw [df past]; rfl
  right
  rw [dt past]
  have := of_decide_eq_true title
  exact ⟨rfl, ⟨g, o, w, h, two_dec row, two_dec col, pen, spen, two_dec modes, two_dec pg1, two_dec sp1, two_dec pg2, two_dec sp2, two_dec sh, two_dec ssh, two_dec srow, two_dec scol, by omega, past⟩⟩
theorem cells_le (g : GGrid) (h : gcode g = 0) : g.Cells.length ≤ 9600 := by
  obtain ⟨W, H, w1, w2, h1, h2, e, hc, hR⟩ := gcode0 g h
  have := size_le W H w2 h2
  omega
end Go.Proofs.YtioikkmmjljedaaGreatDoor.Pm
