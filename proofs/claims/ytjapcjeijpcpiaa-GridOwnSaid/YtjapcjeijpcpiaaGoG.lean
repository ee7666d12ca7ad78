/- lives put_ok fill_ok shift_ok scroll_ok sizeop_ok same_grid: what the typed functions compute, and the laws. -/
import Derived.Test.YtjapcjeijpcpiaaDGoZ
import Derived.Test.YtjapcjeijpcpiaaBa0
namespace Go.Proofs.Ytjapcjeijpcpiaa.Pm
open Go.Proofs.Ytjapcjeijpcpiaa.Args
open Go.ChangeShapes Go.WideShapes Go.ChangeAt Go.RowKit
set_option linter.unusedVariables false
set_option linter.unusedSimpArgs false
set_option maxRecDepth 100000
theorem inR_nat (i n : Nat) (h : i < n) : inR (i : Int) n = some i := by unfold inR; rw [if_pos (by omega)]; simp
theorem loop_to {σ ρ : Type} {body : σ → Option (σ ⊕ ρ)} (f : Nat → σ) (r : ρ) (n : Nat) (hn : body (f n) = some (.inr r)) : ∀ k, k ≤ n → (∀ i, k ≤ i → i < n → body (f i) = some (.inl (f (i + 1)))) → loopO body (f k) = some r := by
  intro k hk h
  induction hd : n - k generalizing k with
  | zero =>
    have : k = n := by omega
    subst this; exact loopO_done hn
  | succ d ih => exact loopO_next (h k (by omega) (by omega)) (ih (k + 1) (by omega) (fun i h1 h2 => h i (by omega) h2) (by omega))
theorem first_bad (P : Nat → Bool) : ∀ n, (∀ i, i < n → P i = true) ∨ ∃ k, k < n ∧ P k = false ∧ ∀ i, i < k → P i = true
  | 0 => .inl fun i h => absurd h (by omega)
  | n + 1 => by
    rcases first_bad P n with h | ⟨k, h1, h2, h3⟩
    · cases hp : P n with
      | true => exact .inl fun i hi => by rcases Nat.lt_succ_iff_lt_or_eq.1 hi with h' | rfl; exact h i h'; exact hp
      | false => exact .inr ⟨n, by omega, hp, h⟩
    · exact .inr ⟨k, by omega, h2, h3⟩
theorem loop_scan {σ ρ : Type} {body : σ → Option (σ ⊕ ρ)} (f : Nat → σ) (r0 r1 : ρ) (n : Nat) (P : Nat → Bool) (h1 : ∀ i, i < n → P i = true → body (f i) = some (.inl (f (i + 1)))) (h2 : ∀ i, i < n → P i = false → body (f i) = some (.inr r1))
    (h0 : body (f n) = some (.inr r0)) : loopO body (f 0) = some (if ∀ i, i < n → P i = true then r0 else r1) := by
  rcases first_bad P n with h | ⟨k, hk, hb, hg⟩
  · rw [if_pos h]; exact loop_to f r0 n h0 0 (by omega) fun i _ hi => h1 i hi (h i hi)
  · rw [if_neg (fun h => by rw [h k hk] at hb; cases hb)]
    exact loop_to f r1 k (h2 k hk hb) 0 (by omega) fun i _ hi => h1 i (by omega) (hg i hi)
theorem wr1 (i : Nat) (h : i < 1000000000) : IntKind.i64.wrap ((i : Int) + 1) = ((i + 1 : Nat) : Int) := by rw [i64w _ (by omega)]; omega
theorem dt {p : Prop} [Decidable p] (h : p) : decide p = true := decide_eq_true h
theorem df {p : Prop} [Decidable p] (h : ¬ p) : decide p = false := decide_eq_false h
theorem bct {α : Type} {b : Bool} {x y : α} (h : b = true) : (bif b then x else y) = x := by rw [h, ct]
theorem bcf {α : Type} {b : Bool} {x y : α} (h : b = false) : (bif b then x else y) = y := by rw [h, cf]
theorem idx_nat {α : Type} (l : List α) (i : Nat) (z : α) (h : i < l.length) : idx l (i : Int) = some (l.getD i z) := by
  unfold idx; rw [if_pos (by omega)]; simp [h]
/-- Widths. -/
def hit (a : Int) (x : Int × Int) : Bool := decide (x.1 ≤ a) && decide (a ≤ x.2)
theorem in_ok (a : Int) (l : List (Int × Int)) (hl : l.length ≤ 1000) : f33 a l = some (l.any (hit a)) := by
  unfold f33
  have h := loop_scan (body := f33_l0 a l) (fun i => (i : Int)) (.inl ()) (.inr true) l.length (fun i => !(hit a (l.getD i (0, 0)))) ?_ ?_ ?_
  · rw [show ((0 : Nat) : Int) = 0 from rfl] at h
    rw [h, bs]
    by_cases hp : ∀ i, i < l.length → (!(hit a (l.getD i (0, 0)))) = true
    · rw [if_pos hp]
      show some false = _
      have : l.any (hit a) = false := by
        rw [List.any_eq_false]
        intro x hx
        obtain ⟨i, hi, rfl⟩ := List.getElem_of_mem hx
        have := hp i hi
        simp [hi] at this
        simp [this]
      rw [this]
    · rw [if_neg hp]
      show some true = _
      have : l.any (hit a) = true := by
        rw [List.any_eq_true]
        rcases first_bad (fun i => !(hit a (l.getD i (0, 0)))) l.length with h | ⟨k, hk, hb, _⟩
        · exact absurd h hp
        · refine ⟨l[k], List.getElem_mem hk, ?_⟩
          simp [hk] at hb
          exact hb
      rw [this]
  · intro i hi hp
    unfold f33_l0 f33_l0_j1 f33_l0_j2
    simp only [hit, Bool.not_eq_true', Bool.and_eq_false_imp, decide_eq_true_eq, decide_eq_false_iff_not] at hp
    rw [bct (dt (by omega)), ct, idx_nat l i (0, 0) hi, bs]
    by_cases h1 : (l.getD i (0, 0)).1 ≤ a
    · rw [bct (dt h1), bcf (df (hp h1)), wr1 i (by omega)]
    · rw [bcf (df h1), wr1 i (by omega)]
  · intro i hi hp
    unfold f33_l0 f33_l0_j1 f33_l0_j2
    simp only [hit, Bool.not_eq_false', Bool.and_eq_true, decide_eq_true_eq] at hp
    rw [bct (dt (by omega)), ct, idx_nat l i (0, 0) hi, bs, bct (dt hp.1), bct (dt hp.2)]
  · unfold f33_l0 f33_l0_j1
    rw [bcf (df (by omega)), cf]
def noneL : List (Int × Int) := [(0, 31), (127, 159), (768, 879), (8203, 8207), (55296, 57343), (65024, 65039)]
def twoL : List (Int × Int) := [(4352, 4447), (11904, 12350), (12353, 19903), (19968, 42191), (44032, 55203), (63744, 64255), (65072, 65135), (65280, 65376), (65504, 65510), (127744, 128591), (129280, 129535), (131072, 262141)]
def wd (a : Int) : Int := if a < 0 ∨ 1114111 < a ∨ noneL.any (hit a) = true then 0 else if twoL.any (hit a) = true then 2 else 1
theorem width_ok (a : Int) : f20 a = some (wd a) := by
  unfold f20 f20_j0 wd
  rw [in_ok a _ (by decide), in_ok a _ (by decide)]
  simp only [bs]
  rw [show ([(0, 31), (127, 159), (768, 879), (8203, 8207), (55296, 57343), (65024, 65039)] : List (Int × Int)) = noneL from rfl,
    show ([(4352, 4447), (11904, 12350), (12353, 19903), (19968, 42191), (44032, 55203), (63744, 64255), (65072, 65135), (65280, 65376), (65504, 65510), (127744, 128591), (129280, 129535), (131072, 262141)] : List (Int × Int)) = twoL from rfl]
  by_cases h1 : a < 0
  · rw [bct (dt h1), ct, if_pos (.inl h1)]
  · rw [bcf (df h1)]
    by_cases h2 : 1114111 < a
    · rw [bct (dt h2), ct, if_pos (.inr (.inl h2))]
    · rw [bcf (df h2)]
      cases h3 : noneL.any (hit a) with
      | true => rw [ct, if_pos (.inr (.inr rfl))]
      | false =>
        rw [cf, if_neg (by simp [h1, h2])]
        cases h4 : twoL.any (hit a) with
        | true => rw [ct, if_pos rfl]
        | false => rw [cf, if_neg (by simp)]
theorem wd_cases (a : Int) : wd a = 0 ∨ wd a = 1 ∨ wd a = 2 := by
  unfold wd; split
  · exact .inl rfl
  · split
    · exact .inr (.inr rfl)
    · exact .inr (.inl rfl)
/-- Pens. -/
def colB (n : Int) : Bool := (decide (0 ≤ n) && decide (n ≤ 256)) || (decide (16777216 ≤ n) && decide (n < 33554432))
def pcB (p : GPen) : Bool := (decide (0 ≤ p.Flags) && decide (p.Flags ≤ 255)) && (colB p.Fore && colB p.Back)
def pcI (p : GPen) : Int := if pcB p = true then 0 else 4
theorem col_ok (n : Int) : f32 n = some (colB n) := by
  unfold f32 colB
  cases decide (0 ≤ n) <;> cases decide (n ≤ 256) <;> cases decide (16777216 ≤ n) <;> cases decide (n < 33554432) <;> rfl
theorem pen_ok (p : GPen) : f19 p = some (pcI p) := by
  unfold f19 pcI pcB
  rw [col_ok, col_ok]
  simp only [bs]
  by_cases h1 : p.Flags < 0
  · rw [bct (dt h1), df (p := 0 ≤ p.Flags) (by omega)]; rfl
  · rw [bcf (df h1), dt (p := 0 ≤ p.Flags) (by omega)]
    by_cases h2 : 255 < p.Flags
    · rw [bct (dt h2), df (p := p.Flags ≤ 255) (by omega)]; rfl
    · rw [bcf (df h2), dt (p := p.Flags ≤ 255) (by omega)]
      cases colB p.Fore <;> cases colB p.Back <;> rfl
def P0 : GPen := ⟨0, 0, 0⟩
def Z0 : GCell := ⟨0, P0⟩
abbrev cx (l : List GCell) (i : Nat) : GCell := l.getD i Z0
def blank (p : GPen) : GCell := ⟨32, p⟩
def peq (p q : GPen) : Bool := decide (p.Flags = q.Flags) && (decide (p.Fore = q.Fore) && (decide (p.Back = q.Back) && true))
/-- The rest of a wide character. -/
def tlF (f : Nat → GCell) (W k : Nat) : Bool := decide (k < W) && (decide ((f k).Rune = 0) && peq (f k).Pen (f (k - 1)).Pen)
def loneF (f : Nat → GCell) (W i : Nat) : Bool :=
  if (f i).Rune = 0 then (decide (i = 0) || (!decide (wd (f (i - 1)).Rune = 2) || !tlF f W i)) else (decide (wd (f i).Rune = 2) && !tlF f W (i + 1))
theorem cx_idx (l : List GCell) (i : Nat) (h : i < l.length) : idx l (i : Int) = some (cx l i) := idx_nat l i Z0 h
theorem wrm (k : Nat) (h1 : 1 ≤ k) (h : k < 1000000000) : IntKind.i64.wrap ((k : Int) - 1) = ((k - 1 : Nat) : Int) := by rw [i64w _ (by omega)]; omega
theorem tail_ok (l : List GCell) (k : Nat) (h1 : 1 ≤ k) (hk : k ≤ l.length) (hl : l.length ≤ 1000000) (r : List PD) : f34 (k : Int) l r = some (tlF (cx l) l.length k) := by
  unfold f34 tlF
  by_cases h : k < l.length
  · rw [bct (dt (by omega)), dt h, Bool.true_and, cx_idx l k h, bs]
    by_cases h0 : (cx l k).Rune = 0
    · rw [bct (dt h0), dt h0, Bool.true_and, bs, wrm k h1 (by omega), cx_idx l (k - 1) (by omega), bs]
      show (bif peq (cx l k).Pen (cx l (k - 1)).Pen then some true else some false) = _
      cases peq (cx l k).Pen (cx l (k - 1)).Pen <;> rfl
    · rw [bcf (df h0), df h0, Bool.false_and]
  · rw [bcf (df (by omega)), df h, Bool.false_and]
theorem lone_ok (l : List GCell) (i : Nat) (h : i < l.length) (hl : l.length ≤ 1000000) : f21 l (i : Int) = some (loneF (cx l) l.length i) := by
  unfold f21 f21_j0 loneF
  rw [cx_idx l i h, bs]
  by_cases h0 : (cx l i).Rune = 0
  · rw [bct (dt h0), if_pos h0]
    by_cases hi : i = 0
    · rw [bct (dt (by omega)), dt hi, Bool.true_or]
    · rw [bcf (df (by omega)), df hi, Bool.false_or, wrm i (by omega) (by omega), cx_idx l (i - 1) (by omega), bs, width_ok, bs, tail_ok l i (by omega) (by omega) hl, bs]
      cases decide (wd (cx l (i - 1)).Rune = 2) <;> rfl
  · rw [bcf (df h0), if_neg h0, bs, width_ok, bs, wr1 i (by omega), tail_ok l (i + 1) (by omega) (by omega) hl, bs]
    cases decide (wd (cx l i).Rune = 2) <;> rfl
theorem loneF_congr (f g : Nat → GCell) (W i : Nat) (hi : i < W) (h : ∀ k, k < W → f k = g k) : loneF f W i = loneF g W i := by
  unfold loneF tlF
  rw [h i hi, h (i - 1) (by omega), show i + 1 - 1 = i from rfl, h i hi]
  by_cases h1 : i + 1 < W
  · rw [h (i + 1) h1]
  · rw [df h1]; rfl
def okB (f : Nat → GCell) (W i : Nat) : Bool := pcB (f i).Pen && ((decide ((f i).Rune = 0) || !decide (wd (f i).Rune = 0)) && !loneF f W i)
/-- Row n of cells. -/
def rowF (W : Nat) (c : List GCell) (n : Nat) : Nat → GCell := fun i => cx c (n * W + i)
def Rt (W H : Nat) (c : List GCell) : Prop := ∀ n, n < H → (∀ i, i < W → okB (rowF W c n) W i = true)
instance (W H : Nat) (c : List GCell) : Decidable (Rt W H c) := by unfold Rt; infer_instance
def rowL (W : Nat) (c : List GCell) (n : Nat) : List GCell := (c.take ((n + 1) * W)).drop (n * W)
theorem mul_le (n H W : Nat) (h : n < H) : (n + 1) * W ≤ W * H := by rw [Nat.mul_comm W H]; exact Nat.mul_le_mul_right W h
theorem rowL_len (W H : Nat) (c : List GCell) (n : Nat) (hc : c.length = W * H) (hn : n < H) : (rowL W c n).length = W := by
  have := mul_le n H W hn
  unfold rowL
  rw [List.length_drop, List.length_take, Nat.min_eq_left (by omega), Nat.succ_mul]; omega
theorem rowL_cx (W H : Nat) (c : List GCell) (n i : Nat) (hc : c.length = W * H) (hn : n < H) (hi : i < W) : cx (rowL W c n) i = rowF W c n i := by
  have := mul_le n H W hn
  unfold rowL rowF cx
  rw [List.getD_eq_getElem?_getD, List.getD_eq_getElem?_getD, List.getElem?_drop, List.getElem?_take, if_pos (by rw [Nat.succ_mul]; omega)]
theorem size_le (W H : Nat) (hW : W ≤ 160) (hH : H ≤ 60) : W * H ≤ 9600 := by
  have := Nat.mul_le_mul hW hH; omega
theorem wrW (W H n : Nat) (hW : W ≤ 160) (hH : H ≤ 60) (hn : n ≤ H) : IntKind.i64.wrap ((n : Int) * (W : Int)) = ((n * W : Nat) : Int) := by
  have h1 := Nat.mul_le_mul hn hW
  have h2 : n * W ≤ 9600 := by omega
  rw [show (n : Int) * (W : Int) = ((n * W : Nat) : Int) from (Int.natCast_mul n W).symm, i64w _ (by omega)]
theorem wrW2 (W H : Nat) (hW : W ≤ 160) (hH : H ≤ 60) : IntKind.i64.wrap ((W : Int) * (H : Int)) = ((W * H : Nat) : Int) := by
  have h2 := size_le W H hW hH
  rw [show (W : Int) * (H : Int) = ((W * H : Nat) : Int) from (Int.natCast_mul W H).symm, i64w _ (by omega)]
theorem sub_nat {α : Type} (xs : List α) (a b : Nat) (h1 : a ≤ b) (h2 : b ≤ xs.length) : sub? xs (a : Int) (b : Int) = some ((xs.take b).drop a) := by
  unfold sub?
  rw [if_pos (by omega)]; simp
theorem row_ok (W H : Nat) (c : List GCell) (n : Nat) (hc : c.length = W * H) (hn : n < H) (hW : W ≤ 160) (hH : H ≤ 60) : f18 ⟨W, H, c⟩ (n : Int) = some (rowL W c n) := by
  have := mul_le n H W hn
  unfold f18
  dsimp only []
  rw [wr1 n (by omega), wrW W H n hW hH (by omega), wrW W H (n + 1) hW hH (by omega), sub_nat _ _ _ (Nat.mul_le_mul_right W (by omega)) (by omega), bs]
  rfl
/-- The error of a grid. -/
def gcode (g : GGrid) : Int :=
  if 1 ≤ g.Wide ∧ g.Wide ≤ 160 ∧ 1 ≤ g.High ∧ g.High ≤ 60 then (if (g.Cells.length : Int) = g.Wide * g.High then (if Rt g.Wide.toNat g.High.toNat g.Cells then 0 else 4) else 4) else 1
theorem size_ok (w h : Int) : f17 w h = some (if 1 ≤ w ∧ w ≤ 160 ∧ 1 ≤ h ∧ h ≤ 60 then 0 else 1) := by
  unfold f17
  by_cases h1 : w < 1
  · rw [bct (dt h1), if_neg (by omega)]
  rw [bcf (df h1)]
  by_cases h2 : 160 < w
  · rw [bct (dt h2), if_neg (by omega)]
  rw [bcf (df h2)]
  by_cases h3 : h < 1
  · rw [bct (dt h3), if_neg (by omega)]
  rw [bcf (df h3)]
  by_cases h4 : 60 < h
  · rw [bct (dt h4), if_neg (by omega)]
  rw [bcf (df h4), if_pos (by omega)]
theorem pcI0 (p : GPen) : decide (pcI p = 0) = pcB p := by unfold pcI; cases pcB p <;> rfl
theorem all_sum {ρ : Type} (P : Prop) [Decidable P] (a b : ρ) (c : Prop) [Decidable c] (h : P ↔ c) : (if P then a else b) = if c then a else b := by
  by_cases hp : P
  · rw [if_pos hp, if_pos (h.1 hp)]
  · rw [if_neg hp, if_neg (fun q => hp (h.2 q))]
/-- A row's check. -/
theorem rowchk_ok (a1 : GGrid) (W H : Nat) (c : List GCell) (n : Nat) (z : Int) (hc : c.length = W * H) (hn : n < H) (hW : W ≤ 160) (hH : H ≤ 60) :
    loopO (f6_l2_l5 a1) (rowL W c n, z, rowL W c n, ((rowL W c n).length : Int), 0) = some (if ∀ i, i < W → okB (rowF W c n) W i = true then .inl z else .inr 4) := by
  have hl := rowL_len W H c n hc hn
  have hx : ∀ k, k < W → cx (rowL W c n) k = rowF W c n k := fun k hk => rowL_cx W H c n k hc hn hk
  generalize rowL W c n = l at hl hx ⊢
  have h := loop_scan (body := f6_l2_l5 a1) (fun i => (l, z, l, (l.length : Int), (i : Int))) (.inl z) (.inr 4) W (fun i => okB (rowF W c n) W i) ?_ ?_ ?_
  · exact h
  · intro i hi hp
    have hil : i < l.length := by omega
    unfold okB at hp
    simp only [Bool.and_eq_true, Bool.or_eq_true, decide_eq_true_eq, Bool.not_eq_true'] at hp
    obtain ⟨h1, h2, h3⟩ := hp
    rw [← hx i hi] at h1 h2
    rw [← loneF_congr (cx l) _ W i hi hx] at h3
    unfold f6_l2_l5 f6_l2_l5_j6 f6_l2_l5_j7
    dsimp only []
    rw [bct (dt (by omega)), ct, cx_idx l i hil, bs, pen_ok, bs, pcI0, h1, Bool.not_true, cf, width_ok, bs, lone_ok l i hil (by omega), hl, h3]
    simp only [bs, cf]
    rw [wr1 i (by omega)]
    rcases h2 with h2 | h2
    · rw [dt h2]; rfl
    · rw [h2]
      cases decide ((cx l i).Rune = 0) <;> rfl
  · intro i hi hp
    have hil : i < l.length := by omega
    unfold okB at hp
    rw [← hx i hi, ← loneF_congr (cx l) _ W i hi hx] at hp
    unfold f6_l2_l5 f6_l2_l5_j6 f6_l2_l5_j7
    dsimp only []
    rw [bct (dt (by omega)), ct, cx_idx l i hil, bs, pen_ok, bs, pcI0, width_ok, bs, lone_ok l i hil (by omega), hl]
    simp only [bs]
    cases h1 : pcB (cx l i).Pen with
    | false => rfl
    | true =>
      rw [h1, Bool.true_and] at hp
      rw [Bool.not_true, cf]
      cases h2 : decide ((cx l i).Rune = 0) with
      | true =>
        rw [h2, Bool.true_or, Bool.true_and] at hp
        have h3 : loneF (cx l) W i = true := by simpa using hp
        rw [h3]; rfl
      | false =>
        rw [h2, Bool.false_or] at hp
        rw [Bool.not_false, ct]
        cases h3 : decide (wd (cx l i).Rune = 0) with
        | true => rfl
        | false =>
          rw [h3, Bool.not_false, Bool.true_and] at hp
          have h3 : loneF (cx l) W i = true := by simpa using hp
          rw [h3]; rfl
  · unfold f6_l2_l5 f6_l2_l5_j6
    dsimp only []
    rw [bcf (df (by omega)), cf]
theorem Rt_iff (W H : Nat) (c : List GCell) : (∀ n, n < H → decide (∀ i, i < W → okB (rowF W c n) W i = true) = true) ↔ Rt W H c := by
  unfold Rt
  constructor
  · intro h n hn; exact of_decide_eq_true (h n hn)
  · intro h n hn; exact dt (h n hn)
theorem chk_loop (W H : Nat) (c : List GCell) (hc : c.length = W * H) (hW : W ≤ 160) (hH : H ≤ 60) :
    loopO (f6_l2 ⟨W, H, c⟩) 0 = some (if Rt W H c then .inl () else .inr 4) := by
  have h := loop_scan (body := f6_l2 ⟨W, H, c⟩) (fun i => (i : Int)) (.inl ()) (.inr 4) H (fun n => decide (∀ i, i < W → okB (rowF W c n) W i = true)) ?_ ?_ ?_
  · rw [all_sum _ _ _ _ (Rt_iff W H c)] at h; exact h
  · intro n hn hp
    unfold f6_l2 f6_l2_j3 f6_l2_j4
    rw [bct (dt (by show (n : Int) < (H : Int); omega)), ct, row_ok W H c n hc hn hW hH, bs, rowchk_ok _ W H c n n hc hn hW hH, bs, if_pos (of_decide_eq_true hp)]
    simp only [Sum.elim_inl]
    rw [wr1 n (by omega)]
  · intro n hn hp
    unfold f6_l2 f6_l2_j3 f6_l2_j4
    rw [bct (dt (by show (n : Int) < (H : Int); omega)), ct, row_ok W H c n hc hn hW hH, bs, rowchk_ok _ W H c n n hc hn hW hH, bs, if_neg (of_decide_eq_false hp)]
    rfl
  · unfold f6_l2 f6_l2_j3
    rw [bcf (df (by show ¬ (H : Int) < (H : Int); omega)), cf]
theorem check_ok (g : GGrid) : f6 g = some (gcode g) := by
  obtain ⟨w, h, c⟩ := g
  unfold f6 f6_j0 f6_j1 gcode
  rw [size_ok, bs]
  dsimp only []
  by_cases hs : 1 ≤ w ∧ w ≤ 160 ∧ 1 ≤ h ∧ h ≤ 60
  · rw [if_pos hs, if_pos hs, bcf (by rfl)]
    obtain ⟨W, rfl⟩ := Int.eq_ofNat_of_zero_le (show 0 ≤ w by omega)
    obtain ⟨H, rfl⟩ := Int.eq_ofNat_of_zero_le (show 0 ≤ h by omega)
    rw [wrW2 W H (by omega) (by omega)]
    by_cases hc : c.length = W * H
    · rw [if_pos (by rw [hc]; exact Int.natCast_mul W H), bcf (by rw [dt (by omega)]; rfl), chk_loop W H c hc (by omega) (by omega), bs, Int.toNat_natCast, Int.toNat_natCast]
      by_cases hr : Rt W H c
      · rw [if_pos hr, if_pos hr]; rfl
      · rw [if_neg hr, if_neg hr]; rfl
    · rw [if_neg (by rw [← Int.natCast_mul]; omega), bct (by rw [df (by omega)]; rfl)]
  · rw [if_neg hs, if_neg hs, bct (by rfl)]
theorem app_row {α : Type} (b : Nat) (xs ys : List α) (h : (xs.length + ys.length) * b ≤ 1000000000) : app? b xs ys = some (xs ++ ys) := app_ok b xs ys (by omega)
theorem cloneR (l : List GCell) (hl : l.length ≤ 100000) : f10 l = some l := by
  unfold f10; rw [app_row 32 [] l (by simp; omega), bs]; rfl
def mkL (n : Nat) (f : Nat → GCell) : List GCell := (List.range n).map f
theorem mkL_len (n : Nat) (f : Nat → GCell) : (mkL n f).length = n := by unfold mkL; simp
theorem mkL_get (n : Nat) (f : Nat → GCell) (i : Nat) (h : i < n) : (mkL n f)[i]? = some (f i) := by unfold mkL; simp [h]
theorem mkL_cx (n : Nat) (f : Nat → GCell) (i : Nat) (h : i < n) : cx (mkL n f) i = f i := by unfold cx; rw [List.getD_eq_getElem?_getD, mkL_get n f i h]; rfl
theorem cx_get (l : List GCell) (i : Nat) (h : i < l.length) : l[i]? = some (cx l i) := by unfold cx; simp [h]
theorem cx_ext (l m : List GCell) (h : l.length = m.length) (hx : ∀ i, i < l.length → cx l i = cx m i) : l = m := by
  refine List.ext_getElem? fun i => ?_
  by_cases hi : i < l.length
  · rw [cx_get l i hi, cx_get m i (by omega), hx i hi]
  · rw [List.getElem?_eq_none (by omega), List.getElem?_eq_none (by omega)]
theorem mkL_congr {n : Nat} {f g : Nat → GCell} (h : ∀ i, i < n → f i = g i) : mkL n f = mkL n g := by
  unfold mkL
  exact List.map_congr_left fun i hi => h i (List.mem_range.1 hi)
theorem mkL_self (l : List GCell) (f : Nat → GCell) (h : ∀ i, i < l.length → f i = cx l i) : mkL l.length f = l :=
  cx_ext _ _ (mkL_len _ _) fun i hi => by rw [mkL_len] at hi; rw [mkL_cx _ _ _ hi, h i hi]
theorem mkL_set (n : Nat) (f : Nat → GCell) (k : Nat) (x : GCell) : (mkL n f).set k x = mkL n (fun j => if j = k then x else f j) := by
  refine List.ext_getElem? fun i => ?_
  by_cases hi : i < n
  · rw [mkL_get n _ i hi, List.getElem?_set, mkL_len, mkL_get n f i hi]
    by_cases h : k = i
    · subst h; rw [if_pos rfl, if_pos hi, if_pos rfl]
    · rw [if_neg h, if_neg (fun q => h q.symm)]
  · rw [List.getElem?_eq_none (by rw [List.length_set, mkL_len]; omega), List.getElem?_eq_none (by rw [mkL_len]; omega)]
theorem mkL_app (n : Nat) (f : Nat → GCell) : mkL n f ++ [f n] = mkL (n + 1) f := by unfold mkL; rw [List.range_succ, List.map_append]; rfl
theorem mkL_cpy (n : Nat) (f : Nat → GCell) (o m : Nat) (ys : List GCell) (h : o + m ≤ n) :
    cpyL (mkL n f) o m ys = mkL n (fun j => if o ≤ j ∧ j < o + min ys.length m then cx ys (j - o) else f j) := by
  refine List.ext_getElem? fun i => ?_
  unfold cpyL
  by_cases hi : i < n
  · rw [mkL_get n _ i hi]
    by_cases h1 : i < o
    · rw [if_neg (by omega), List.append_assoc, List.getElem?_append_left (by rw [List.length_take, mkL_len]; omega), List.getElem?_take, if_pos h1, mkL_get n f i hi]
    · rw [List.append_assoc, List.getElem?_append_right (by rw [List.length_take, mkL_len]; omega), List.length_take, mkL_len, Nat.min_eq_left (show o ≤ n by omega)]
      by_cases h2 : i < o + min ys.length m
      · rw [if_pos ⟨by omega, h2⟩, List.getElem?_append_left (by rw [List.length_take]; omega), List.getElem?_take, if_pos (by omega), cx_get ys (i - o) (by omega)]
      · rw [if_neg (by omega), List.getElem?_append_right (by rw [List.length_take]; omega), List.length_take, List.getElem?_drop, show o + min ys.length m + (i - o - min (min ys.length m) ys.length) = i by omega, mkL_get n f i hi]
  · rw [List.getElem?_eq_none (by rw [List.length_append, List.length_append, List.length_take, List.length_take, List.length_drop, mkL_len]; omega), List.getElem?_eq_none (by rw [mkL_len]; omega)]
theorem part_nat (c : List GCell) (o m : Nat) (h : o + m ≤ c.length) : part? c o m = some (mkL m (fun i => cx c (o + i))) := by
  unfold part?
  rw [if_pos h]
  refine congrArg some (cx_ext _ _ (by rw [mkL_len, List.length_take, List.length_drop]; omega) fun i hi => ?_)
  rw [List.length_take, List.length_drop] at hi
  rw [mkL_cx _ _ _ (by omega)]
  unfold cx
  rw [List.getD_eq_getElem?_getD, List.getD_eq_getElem?_getD, List.getElem?_take, if_pos (by omega), List.getElem?_drop]
/-- Repair. -/
def repF (f : Nat → GCell) (W i : Nat) : GCell := if loneF f W i = true then blank (f i).Pen else f i
def repL (c : List GCell) (o W : Nat) : List GCell := mkL c.length (fun j => if o ≤ j ∧ j < o + W then repF (fun i => cx c (o + i)) W (j - o) else cx c j)
theorem repL_len (c : List GCell) (o W : Nat) : (repL c o W).length = c.length := mkL_len _ _
theorem rep_ok (c : List GCell) (o W : Nat) (h : o + W ≤ c.length) (hl : c.length ≤ 100000) : f29 o W c = some (repL c o W) := by
  unfold f29
  rw [part_nat c o W h, bs, cloneR _ (by rw [mkL_len]; omega), bs]
  have hlp := loop_to (body := f29_l0 o W c) (fun i => (mkL c.length (fun j => if o ≤ j ∧ j < o + i then repF (fun i => cx c (o + i)) W (j - o) else cx c j), mkL W (fun i => cx c (o + i)), (i : Int))) (repL c o W) W ?_ 0 (by omega) ?_
  · try dsimp only [] at hlp
    rw [mkL_self c _ (fun j hj => if_neg (by omega))] at hlp
    rw [show ((0 : Nat) : Int) = 0 from rfl] at hlp
    rw [hlp, bs]
  · unfold f29_l0 f29_l0_j1
    try dsimp only []
    rw [bcf (df (by omega)), cf]
    rfl
  · intro i _ hi
    unfold f29_l0 f29_l0_j1 f29_l0_j2
    try dsimp only []
    rw [bct (dt (by omega)), ct, lone_ok _ i (by rw [mkL_len]; exact hi) (by rw [mkL_len]; omega), bs, mkL_len, loneF_congr (cx (mkL W fun i => cx c (o + i))) (fun i => cx c (o + i)) W i hi (fun k hk => mkL_cx W _ k hk), wr1 i (by omega)]
    cases hlone : loneF (fun i => cx c (o + i)) W i with
    | true =>
      rw [ct, inR_nat i W hi, bs, mkL_get W _ i hi, bs, show f36 (cx c (o + i)).Pen = some (blank (cx c (o + i)).Pen) from rfl, bs, bs, mkL_get _ _ _ (by omega), bs, bs, mkL_set]
      refine congrArg some (congrArg Sum.inl (Prod.ext (mkL_congr fun j hj => ?_) rfl))
      try dsimp only []
      by_cases hj1 : j = o + i
      · subst hj1
        rw [if_pos rfl, if_pos (by omega), Nat.add_sub_cancel_left]
        unfold repF
        rw [if_pos hlone]
      · rw [if_neg hj1]
        by_cases hj2 : o ≤ j ∧ j < o + i
        · rw [if_pos hj2, if_pos (by omega)]
        · rw [if_neg hj2, if_neg (by omega)]
    | false =>
      rw [cf]
      refine congrArg some (congrArg Sum.inl (Prod.ext (mkL_congr fun j hj => ?_) rfl))
      by_cases hj2 : o ≤ j ∧ j < o + i
      · rw [if_pos hj2, if_pos (by omega)]
      · rw [if_neg hj2]
        by_cases hj1 : j = o + i
        · subst hj1
          rw [if_pos (by omega), Nat.add_sub_cancel_left]
          unfold repF
          rw [if_neg (by rw [hlone]; intro q; cases q)]
        · rw [if_neg (by omega)]
theorem chk_len (a b : Nat) (h : a = b) : chk (decide (a = b)) = some () := chk_ok (dt h)
theorem rowv_ok (W H n : Nat) (c : List GCell) (hc : c.length = W * H) (hn : n < H) (hW : W ≤ 160) (hH : H ≤ 60) : f18v1 (W : Int) (H : Int) (n : Int) c = some (c, n * W, W) := by
  have := mul_le n H W hn
  have hm := Nat.mul_le_mul_right W (show n ≤ n + 1 by omega)
  unfold f18v1
  rw [wr1 n (by omega), wrW W H n hW hH (by omega), wrW W H (n + 1) hW hH (by omega), chk_ok, bs]
  · simp only [Int.toNat_natCast]
    rw [Nat.succ_mul, Nat.add_sub_cancel_left]
  · rw [dt (by omega), dt (by omega), dt (by omega)]; rfl
/-- A character put. -/
def putC (c : List GCell) (o col : Nat) (r : Int) (p : GPen) : List GCell := mkL c.length (fun j => if j = o + (col + 1) ∧ wd r = 2 then ⟨0, p⟩ else if j = o + col then ⟨r, p⟩ else cx c j)
theorem putin_ok (W H n col : Nat) (r : Int) (p : GPen) (c : List GCell) (hc : c.length = W * H) (hn : n < H) (hW : W ≤ 160) (hH : H ≤ 60) (hr : 0 < wd r) (hcol : (col : Int) + wd r ≤ W) :
    f23 (W : Int) (H : Int) (n : Int) (col : Int) r p c = some (repL (putC c (n * W) col r p) (n * W) W) := by
  have h9 := size_le W H hW hH
  have hm := mul_le n H W hn
  rw [Nat.succ_mul] at hm
  have hs : ∀ k x, c.set k x = mkL c.length (fun j => if j = k then x else cx c j) := fun k x => by
    conv => lhs; rw [← mkL_self c (cx c) (fun _ _ => rfl)]
    exact mkL_set _ _ _ _
  unfold f23
  rw [rowv_ok W H n c hc hn hW hH, bs, chk_len _ _ rfl, bs, inR_nat col W (by omega), bs, cx_get c _ (by show n * W + col < _; omega), bs, bs, width_ok, bs]
  try dsimp only []
  by_cases h2 : wd r = 2
  · rw [bct (dt h2), wr1 col (by omega), inR_nat (col + 1) W (by omega), bs, hs, mkL_get _ _ _ (by omega), bs, bs, mkL_set]
    have e : mkL c.length (fun j => if j = n * W + (col + 1) then (⟨0, p⟩ : GCell) else if j = n * W + col then ⟨r, p⟩ else cx c j) = putC c (n * W) col r p := mkL_congr fun j hj => by
      by_cases hj : j = n * W + (col + 1)
      · rw [if_pos hj, if_pos ⟨hj, h2⟩]
      · rw [if_neg hj, if_neg (show ¬ (j = n * W + (col + 1) ∧ wd r = 2) from fun q => hj q.1)]
    rw [e, rep_ok _ _ _ (by unfold putC; rw [mkL_len]; omega) (by unfold putC; rw [mkL_len]; omega), bs, chk_len _ _ (repL_len _ _ _), bs]
  · rw [bcf (df h2), hs]
    have e : mkL c.length (fun j => if j = n * W + col then (⟨r, p⟩ : GCell) else cx c j) = putC c (n * W) col r p := mkL_congr fun j hj => by
      rw [if_neg (show ¬ (j = n * W + (col + 1) ∧ wd r = 2) from fun q => h2 q.2)]
    rw [e, rep_ok _ _ _ (by unfold putC; rw [mkL_len]; omega) (by unfold putC; rw [mkL_len]; omega), bs, chk_len _ _ (repL_len _ _ _), bs]
/-- Cells made blank. -/
def fillC (c : List GCell) (o a b : Nat) (p : GPen) : List GCell := mkL c.length (fun j => if o + a ≤ j ∧ j < o + b then blank p else cx c j)
theorem fillin_ok (W H n a b : Nat) (p : GPen) (c : List GCell) (hc : c.length = W * H) (hn : n < H) (hW : W ≤ 160) (hH : H ≤ 60) (hab : a ≤ b) (hb : b ≤ W) :
    f25 (W : Int) (H : Int) (n : Int) (a : Int) (b : Int) p c = some (repL (fillC c (n * W) a b p) (n * W) W) := by
  have h9 := size_le W H hW hH
  have hm := mul_le n H W hn
  rw [Nat.succ_mul] at hm
  unfold f25
  rw [rowv_ok W H n c hc hn hW hH, bs, chk_len _ _ rfl, bs]
  try dsimp only []
  have hlp := loop_to (body := f25_l0 W H n a b p c) (fun i => (mkL c.length (fun j => if n * W + a ≤ j ∧ j < n * W + i then blank p else cx c j), n * W, W, (i : Int))) (fillC c (n * W) a b p, n * W, W) b ?_ a hab ?_
  · try dsimp only [] at hlp
    rw [mkL_self c _ (fun j hj => if_neg (by omega))] at hlp
    rw [hlp, bs]
    try dsimp only []
    rw [rep_ok _ _ _ (by unfold fillC; rw [mkL_len]; omega) (by unfold fillC; rw [mkL_len]; omega), bs, chk_len _ _ (repL_len _ _ _), bs]
  · unfold f25_l0
    try dsimp only []
    rw [bcf (df (by omega))]
    rfl
  · intro i hi1 hi
    unfold f25_l0 f25_l0_j1
    try dsimp only []
    rw [bct (dt (by omega)), show f36 p = some (blank p) from rfl, bs, inR_nat i W (by omega), bs, mkL_get _ _ _ (by omega), bs, bs, mkL_set, wr1 i (by omega)]
    refine congrArg some (congrArg Sum.inl (Prod.ext (mkL_congr fun j hj => ?_) rfl))
    try dsimp only []
    by_cases hj1 : j = n * W + i
    · subst hj1
      rw [if_pos rfl, if_pos (by omega)]
    · rw [if_neg hj1]
      by_cases hj2 : n * W + a ≤ j ∧ j < n * W + i
      · rw [if_pos hj2, if_pos (by omega)]
      · rw [if_neg hj2, if_neg (by omega)]
/-- Cells moved. -/
def mvF (f : Nat → GCell) (m : Nat) (by_ : Int) (p : GPen) (i : Nat) : GCell := if 0 ≤ (i : Int) - by_ ∧ (i : Int) - by_ < m then f ((i : Int) - by_).toNat else blank p
theorem move_ok (l : List GCell) (b : Int) (p : GPen) (rs : List PD) (hl : l.length ≤ 100000) (hb : -100000 ≤ b ∧ b ≤ 100000) : f37 l b p rs = some (mkL l.length (mvF (cx l) l.length b p)) := by
  unfold f37
  have hlp := loop_to (body := f37_l0 l b p rs) (fun i => (mkL i (mvF (cx l) l.length b p), (i : Int))) (mkL l.length (mvF (cx l) l.length b p)) l.length ?_ 0 (by omega) ?_
  · rw [show f37_l0 l b p rs = f37_l0 l b p rs from rfl]
    have hlp' : loopO (f37_l0 l b p rs) ([], 0) = some (mkL l.length (mvF (cx l) l.length b p)) := hlp
    rw [hlp', bs]
  · unfold f37_l0 f37_l0_j1
    try dsimp only []
    rw [bcf (df (by omega)), cf]
  · intro i _ hi
    unfold f37_l0 f37_l0_j1 f37_l0_j2 f37_l0_j3
    try dsimp only []
    rw [bct (dt (by omega)), ct, i64w ((i : Int) - b) (by omega), wr1 i (by omega)]
    by_cases h1 : 0 ≤ (i : Int) - b
    · rw [bct (dt h1)]
      by_cases h2 : (i : Int) - b < l.length
      · rw [bct (dt h2)]
        have hx : idx l ((i : Int) - b) = some (cx l ((i : Int) - b).toNat) := by
          have := cx_idx l ((i : Int) - b).toNat (by omega)
          rw [Int.toNat_of_nonneg h1] at this; exact this
        have e : mvF (cx l) l.length b p i = cx l ((i : Int) - b).toNat := by unfold mvF; rw [if_pos ⟨h1, h2⟩]
        rw [hx, bs, app_row 32 _ _ (by rw [mkL_len]; simp; omega), bs, ← mkL_app, e]
      · have e : mvF (cx l) l.length b p i = blank p := by unfold mvF; rw [if_neg (fun q => h2 q.2)]
        rw [bcf (df h2)]
        show ((f38 p rs).bind _) = _
        rw [show f38 p rs = some (blank p) from rfl, bs, app_row 32 _ _ (by rw [mkL_len]; simp; omega), bs, ← mkL_app, e]
    · have e : mvF (cx l) l.length b p i = blank p := by unfold mvF; rw [if_neg (fun q => h1 q.1)]
      rw [bcf (df h1)]
      show ((f38 p rs).bind _) = _
      rw [show f38 p rs = some (blank p) from rfl, bs, app_row 32 _ _ (by rw [mkL_len]; simp; omega), bs, ← mkL_app, e]
def shiftC (c : List GCell) (o a b : Nat) (k : Int) (p : GPen) : List GCell := mkL c.length (fun j => if o + a ≤ j ∧ j < o + b then mvF (fun i => cx c (o + a + i)) (b - a) k p (j - (o + a)) else cx c j)
theorem mvF_congr {f g : Nat → GCell} {m : Nat} {b : Int} {p : GPen} {i : Nat} (h : ∀ k, k < m → f k = g k) : mvF f m b p i = mvF g m b p i := by
  unfold mvF
  by_cases hc : 0 ≤ (i : Int) - b ∧ (i : Int) - b < m
  · rw [if_pos hc, if_pos hc, h _ (by omega)]
  · rw [if_neg hc, if_neg hc]
theorem shiftin_ok (W H n a b : Nat) (k : Int) (p : GPen) (c : List GCell) (hc : c.length = W * H) (hn : n < H) (hW : W ≤ 160) (hH : H ≤ 60) (hab : a ≤ b) (hb : b ≤ W) (hk : -100000 ≤ k ∧ k ≤ 100000) :
    f27 (W : Int) (H : Int) (n : Int) (a : Int) (b : Int) k p c = some (repL (shiftC c (n * W) a b k p) (n * W) W) := by
  have h9 := size_le W H hW hH
  have hm := mul_le n H W hn
  rw [Nat.succ_mul] at hm
  have hck : (decide ((0 : Int) ≤ (a : Int)) && decide ((a : Int) ≤ (b : Int)) && decide ((b : Int) ≤ (W : Int))) = true := by
    rw [dt (by omega), dt (by omega), dt (by omega)]; rfl
  unfold f27
  rw [rowv_ok W H n c hc hn hW hH, bs, chk_len _ _ rfl, bs]
  try dsimp only []
  rw [chk_ok hck, bs, bs, Int.toNat_natCast, Int.toNat_natCast, part_nat c _ _ (by omega), bs, move_ok _ k p _ (by rw [mkL_len]; omega) hk, bs, chk_ok (dt (by omega)), bs, bs, mkL_len]
  have e : cpyL c (n * W + a) (b - a) (mkL (b - a) (mvF (cx (mkL (b - a) fun i => cx c (n * W + a + i))) (b - a) k p)) = shiftC c (n * W) a b k p := by
    conv => lhs; arg 1; rw [← mkL_self c (cx c) (fun _ _ => rfl)]
    rw [mkL_cpy _ _ _ _ _ (by omega), mkL_len, Nat.min_self]
    refine mkL_congr fun j hj => ?_
    by_cases hj1 : n * W + a ≤ j ∧ j < n * W + b
    · rw [if_pos (by omega), if_pos hj1, mkL_cx _ _ _ (by omega)]
      exact mvF_congr fun q hq => mkL_cx _ _ _ hq
    · rw [if_neg (by omega), if_neg hj1]
  rw [e, rep_ok _ _ _ (by unfold shiftC; rw [mkL_len]; omega) (by unfold shiftC; rw [mkL_len]; omega), bs, chk_len _ _ (repL_len _ _ _), bs]

/-- Repeated blanks. -/
theorem u64n (n : Nat) (h : n ≤ 1000000) : IntKind.u64.wrap (n : Int) = n := by
  simp [IntKind.wrap, IntKind.signed, IntKind.bits]; omega
theorem and_mask (n : Nat) (h : n ≤ 1000000) : bitI .and .u64 (n : Int) 4294967295 = n := by
  have e : bitI .and .u64 (n : Int) 4294967295 = IntKind.u64.wrap (((BitVec.ofInt 64 (n : Int) &&& BitVec.ofInt 64 4294967295).toNat : Nat) : Int) := rfl
  have e2 : (BitVec.ofInt 64 (n : Int) &&& BitVec.ofInt 64 4294967295).toNat = n := by
    rw [BitVec.toNat_and, BitVec.toNat_ofInt, show (BitVec.ofInt 64 4294967295).toNat = 2 ^ 32 - 1 from rfl, Nat.and_two_pow_sub_one_eq_mod]
    have : (((n : Int) % ((2 ^ 64 : Nat) : Int)).toNat) = n := by
      rw [Int.emod_eq_of_lt (by omega) (by have : ((2 ^ 64 : Nat) : Int) = 18446744073709551616 := rfl; omega)]; simp
    rw [this]
    exact Nat.mod_eq_of_lt (by have : (2 : Nat) ^ 32 = 4294967296 := rfl; omega)
  rw [e, e2, u64n n h]
theorem fdiv0 (n : Nat) (h : n ≤ 1000000) : Int.fdiv (n : Int) (2 ^ 32) = 0 := by
  have e : (2 : Int) ^ 32 = 4294967296 := rfl
  rw [e, Int.fdiv_eq_ediv_of_nonneg _ (by omega)]
  omega
theorem mul1 (n : Nat) (h : n ≤ 1000000) : f42 (IntKind.u64.wrap 1) (IntKind.u64.wrap (n : Int)) = some (0, (n : Int)) := by
  have a1 := and_mask 1 (by omega)
  have a0 := and_mask 0 (by omega)
  have an := and_mask n h
  have d1 := fdiv0 1 (by omega)
  have d0 := fdiv0 0 (by omega)
  have dn := fdiv0 n h
  have w0 := u64n 0 (by omega)
  have w1 := u64n 1 (by omega)
  have wn := u64n n h
  simp only [Int.natCast_zero, Int.natCast_one] at a1 a0 d1 d0 w0 w1
  unfold f42 f42_j0 f44
  rw [bs, w1, wn]
  simp only [d1, d0, dn, a1, a0, an, Int.zero_mul, Int.mul_zero, Int.one_mul, Int.add_zero, Int.zero_add, w0, w1, wn]
theorem grow_step (z : GCell) (n k : Nat) (hk : 1 ≤ k) (hn : k < n) :
    cpyL (List.replicate k z ++ List.replicate (n - k) Z0) k (n - k) (((List.replicate k z ++ List.replicate (n - k) Z0).drop 0).take k) = List.replicate (k + min k (n - k)) z ++ List.replicate (n - (k + min k (n - k))) Z0 := by
  unfold cpyL
  rw [List.drop_zero, List.take_left' (by simp), List.length_replicate, List.take_replicate, List.drop_append, List.drop_replicate, List.drop_replicate, List.length_replicate, ← List.replicate_append_replicate, List.append_assoc]
  rw [show k - (k + min k (n - k)) = 0 by omega, show n - k - (k + min k (n - k) - k) = n - (k + min k (n - k)) by omega, show min (min k (n - k)) k = min k (n - k) by omega]
  simp [← List.append_assoc, List.replicate_append_replicate]
theorem repeat_ok (z : GCell) (n : Nat) (h1 : 1 ≤ n) (h : n ≤ 100000) : f41 [z] (n : Int) = some (List.replicate n z) := by
  unfold f41 f41_j0
  rw [bcf (df (by omega))]
  show ((f42 (IntKind.u64.wrap 1) (IntKind.u64.wrap (n : Int))).bind _) = _
  rw [mul1 n (by omega), bs]
  try dsimp only []
  rw [bcf (df (by omega)), bcf (df (by omega))]
  unfold f41_j1
  rw [i64w _ (by omega)]
  have hm : mk? 32 (n : Int) (n : Int) (GCell.mk 0 (GPen.mk 0 0 0)) = some (List.replicate n Z0) := by
    unfold mk?
    rw [if_pos ⟨by omega, by omega, by rw [Int.toNat_natCast]; omega⟩, Int.toNat_natCast]; rfl
  rw [hm, bs, chk_ok (dt (by omega)), bs, bs, List.length_replicate]
  have hc : cpyL (List.replicate n Z0) 0 n [z] = List.replicate 1 z ++ List.replicate (n - 1) Z0 := by
    unfold cpyL
    rw [show min [z].length n = 1 by show min 1 n = 1; omega]
    simp
  rw [hc]
  obtain ⟨r, hr, hp⟩ := loopO_ind (body := f41_l2 [z] (n : Int)) (fun m (x : List GCell × Int) => ∃ k : Nat, 1 ≤ k ∧ k + m = n ∧ x = (List.replicate k z ++ List.replicate (n - k) Z0, (k : Int))) (fun r => r = List.replicate n z) (fun m x hx => by
    obtain ⟨k, hk1, hk2, rfl⟩ := hx
    have hl : (List.replicate k z ++ List.replicate (n - k) Z0).length = n := by simp; omega
    by_cases hk : k < n
    · refine .inl ⟨(List.replicate (k + min k (n - k)) z ++ List.replicate (n - (k + min k (n - k))) Z0, ((k + min k (n - k) : Nat) : Int)), n - (k + min k (n - k)), ?_, by omega, k + min k (n - k), by omega, by omega, rfl⟩
      unfold f41_l2 f41_l2_j3
      try dsimp only []
      rw [hl, bct (dt (by omega)), chk_ok (by rw [dt (by omega), dt (by omega), dt (by omega)]; rfl), bs, chk_ok (by rw [dt (by omega), dt (by omega), dt (by omega)]; rfl), bs]
      have hp : part? (List.replicate k z ++ List.replicate (n - k) Z0) 0 ((k : Int).toNat - (0 : Int).toNat) = some (((List.replicate k z ++ List.replicate (n - k) Z0).drop 0).take k) := by
        unfold part?
        rw [if_pos (by rw [hl]; simp; omega)]; simp
      rw [hp, bs, chk_ok (dt (by rw [Int.toNat_natCast, Int.toNat_natCast]; omega)), bs, bs, Int.toNat_natCast, Int.toNat_natCast, grow_step z n k hk1 hk]
      have e : (List.take k (List.drop 0 (List.replicate k z ++ List.replicate (n - k) Z0))).length = k := by simp
      have e2 : (List.replicate (k + min k (n - k)) z ++ List.replicate (n - (k + min k (n - k))) Z0).length = n := by simp; omega
      rw [e, e2, Int.toNat_natCast, i64w _ (by omega)]
      refine congrArg some (congrArg Sum.inl (Prod.ext rfl ?_))
      show (k : Int) + ((min k (n - k) : Nat) : Int) = ((k + min k (n - k) : Nat) : Int)
      omega
    · have : k = n := by omega
      subst this
      refine .inr ⟨List.replicate k z, ?_, rfl⟩
      unfold f41_l2
      try dsimp only []
      rw [hl, bcf (df (by omega))]
      simp) (n := n - 1) (x := (List.replicate 1 z ++ List.replicate (n - 1) Z0, ((1 : Nat) : Int))) ⟨1, by omega, by omega, rfl⟩
  have e1 : (((min [z].length (List.replicate 1 z ++ List.replicate (n - 1) Z0).length : Nat)) : Int) = ((1 : Nat) : Int) := by
    rw [List.length_append, List.length_replicate, List.length_replicate]; show ((min 1 (1 + (n - 1)) : Nat) : Int) = _; omega
  rw [e1, hr, bs, hp]
theorem rep_mkL (n : Nat) (z : GCell) : List.replicate n z = mkL n (fun _ => z) := by
  unfold mkL; rw [List.map_const']; simp
theorem blanks_ok (w h : Nat) (p : GPen) (h1 : 1 ≤ w ∧ w ≤ 160) (h2 : 1 ≤ h ∧ h ≤ 60) : f31 (w : Int) (h : Int) p = some ((w : Int), (h : Int), mkL (w * h) (fun _ => blank p)) := by
  have h9 := size_le w h h1.2 h2.2
  have h3 := Nat.mul_le_mul h1.1 h2.1
  unfold f31
  rw [show f36 p = some (blank p) from rfl, bs, wrW2 w h h1.2 h2.2, repeat_ok (blank p) (w * h) (by omega) (by omega), bs, rep_mkL]
theorem new_ok (w h : Int) (p : GPen) : f14 w h p = some (if 1 ≤ w ∧ w ≤ 160 ∧ 1 ≤ h ∧ h ≤ 60 then (if pcB p = true then (w, h, mkL (w.toNat * h.toNat) (fun _ => blank p), 0) else (0, 0, [], 4)) else (0, 0, [], 1)) := by
  unfold f14 f14_j0
  rw [size_ok, bs, pen_ok, bs]
  by_cases hs : 1 ≤ w ∧ w ≤ 160 ∧ 1 ≤ h ∧ h ≤ 60
  · rw [if_pos hs, if_pos hs, bcf (by rfl), pcI0]
    cases hp : pcB p with
    | false => rw [Bool.not_false, ct, if_neg (by intro q; cases q)]; unfold pcI; rw [hp]; rfl
    | true =>
      rw [Bool.not_true, cf, if_pos rfl]
      obtain ⟨W, rfl⟩ := Int.eq_ofNat_of_zero_le (show 0 ≤ w by omega)
      obtain ⟨H, rfl⟩ := Int.eq_ofNat_of_zero_le (show 0 ≤ h by omega)
      rw [blanks_ok W H p (by omega) (by omega), bs, Int.toNat_natCast, Int.toNat_natCast]
  · rw [if_neg hs, if_neg hs, bct (by rfl)]
/-- The start of all. -/
def startS (g : GGrid) (ok : Bool) (p : GPen) : Int × Int × List GCell × Int :=
  if gcode g = 0 then (if ok = true then (if pcB p = true then (g.Wide, g.High, g.Cells, 0) else (0, 0, [], 4)) else (0, 0, [], 1)) else (0, 0, [], gcode g)
theorem gcode0 (g : GGrid) (h : gcode g = 0) : ∃ W H : Nat, 1 ≤ W ∧ W ≤ 160 ∧ 1 ≤ H ∧ H ≤ 60 ∧ g = ⟨W, H, g.Cells⟩ ∧ g.Cells.length = W * H ∧ Rt W H g.Cells := by
  obtain ⟨w, hh, c⟩ := g
  unfold gcode at h
  dsimp only [] at h
  split at h
  · rename_i hs
    split at h
    · rename_i hc
      split at h
      · rename_i hr
        obtain ⟨W, rfl⟩ := Int.eq_ofNat_of_zero_le (show 0 ≤ w by omega)
        obtain ⟨H, rfl⟩ := Int.eq_ofNat_of_zero_le (show 0 ≤ hh by omega)
        rw [Int.toNat_natCast, Int.toNat_natCast] at hr
        rw [← Int.natCast_mul] at hc
        exact ⟨W, H, by omega, by omega, by omega, by omega, rfl, by dsimp only []; omega, hr⟩
      · exact absurd h (by decide)
    · exact absurd h (by decide)
  · exact absurd h (by decide)
theorem start_ok (g : GGrid) (ok : Bool) (p : GPen) : f22 g ok p = some (startS g ok p) := by
  unfold f22 f22_j0 f22_j1 startS
  rw [check_ok, bs, pen_ok, bs]
  by_cases h : gcode g = 0
  · rw [if_pos h, bcf (by rw [dt h]; rfl)]
    cases ok with
    | false => rw [Bool.not_false, ct, if_neg (by intro q; cases q)]
    | true =>
      rw [Bool.not_true, cf, if_pos rfl, pcI0]
      cases hp : pcB p with
      | false => rw [Bool.not_false, ct, if_neg (by intro q; cases q)]; unfold pcI; rw [hp]; rfl
      | true =>
        obtain ⟨W, H, w1, w2, h1, h2, e, hc, _⟩ := gcode0 g h
        have := size_le W H w2 h2
        rw [Bool.not_true, cf, if_pos rfl]
        unfold f35
        rw [cloneR _ (by omega), bs, bs]
  · rw [if_neg h, bct (by rw [df h]; rfl)]
theorem div_iff (j n W : Nat) (hW : 0 < W) : j / W = n ↔ n * W ≤ j ∧ j < n * W + W := by
  have h1 := Nat.div_add_mod j W
  have h2 := Nat.mod_lt j hW
  constructor
  · intro h; subst h; rw [Nat.mul_comm]; omega
  · rintro ⟨ha, hb⟩
    exact Nat.div_eq_of_lt_le ha (by rw [Nat.succ_mul]; exact hb)
theorem mod_of (j n W : Nat) (hW : 0 < W) (h : j / W = n) : j - n * W = j % W := by
  have h1 := Nat.div_add_mod j W
  subst h; rw [Nat.mul_comm]; omega
theorem row_mk (W H : Nat) (c : List GCell) (n : Nat) (hc : c.length = W * H) (hn : n < H) : rowL W c n = mkL W (rowF W c n) :=
  cx_ext _ _ (by rw [rowL_len W H c n hc hn, mkL_len]) fun i hi => by
    rw [rowL_len W H c n hc hn] at hi
    rw [rowL_cx W H c n i hc hn hi, mkL_cx _ _ _ hi]
/-- Row i of what was moved by n rows, out of rows t to b. -/
def mvR (W : Nat) (c : List GCell) (t m : Nat) (n : Int) (p : GPen) (i k : Nat) : GCell := if 0 ≤ (i : Int) + n ∧ (i : Int) + n < m then rowF W c (t + ((i : Int) + n).toNat) k else blank p
theorem mvrows_ok (W H : Nat) (c c2 : List GCell) (t m : Nat) (n a4 : Int) (p : GPen) (hc : c.length = W * H) (hW1 : 1 ≤ W) (hW : W ≤ 160) (hH : H ≤ 60) (htm : t + m ≤ H) (hn : -100000 ≤ n ∧ n ≤ 100000) :
    f39 (-n) ((List.range m).map fun r => rowL W c (t + r)) (W : Int) a4 p c2 = some ((W : Int), a4, c2, p, (List.range m).map (fun r => rowL W c (t + r)), (List.range m).map (fun r => mkL W (mvR W c t m n p r))) := by
  unfold f39
  have hlen : ((List.range m).map fun r => rowL W c (t + r)).length = m := by simp
  have hlp := loop_to (body := f39_l0 (-n) ((List.range m).map fun r => rowL W c (t + r)) (W : Int) a4 p c2) (fun i => ((List.range i).map (fun r => mkL W (mvR W c t m n p r)), (i : Int))) ((List.range m).map (fun r => mkL W (mvR W c t m n p r))) m ?_ 0 (by omega) ?_
  · have hlp' : loopO (f39_l0 (-n) ((List.range m).map fun r => rowL W c (t + r)) (W : Int) a4 p c2) ([], 0) = _ := hlp
    rw [hlp', bs]
  · unfold f39_l0 f39_l0_j1
    try dsimp only []
    rw [hlen, bcf (df (by omega)), cf]
  · intro i _ hi
    unfold f39_l0 f39_l0_j1 f39_l0_j2 f39_l0_j3
    try dsimp only []
    have hbl : f40 (W : Int) a4 p [] = some (mkL W (fun _ => blank p)) := by
      unfold f40
      have := blanks_ok W 1 p ⟨hW1, hW⟩ (by omega)
      rw [Nat.mul_one] at this
      rw [show (1 : Int) = ((1 : Nat) : Int) from rfl, this, bs]
    rw [hlen, bct (dt (by omega)), ct, i64w ((i : Int) - -n) (by omega), wr1 i (by omega), hbl, bs]
    have hap : ∀ x, x = mkL W (mvR W c t m n p i) → app? 24 ((List.range i).map (fun r => mkL W (mvR W c t m n p r))) [x] = some ((List.range (i + 1)).map (fun r => mkL W (mvR W c t m n p r))) := fun x hx => by
      rw [app_row 24 _ _ (by simp; omega), hx, List.range_succ, List.map_append]; rfl
    have e : (i : Int) - -n = (i : Int) + n := by omega
    rw [e]
    by_cases h1 : 0 ≤ (i : Int) + n
    · rw [bct (dt h1)]
      by_cases h2 : (i : Int) + n < m
      · obtain ⟨k, hk⟩ := Int.eq_ofNat_of_zero_le h1
        rw [bct (dt h2), hk, inR_nat k m (by omega), bs]
        have hg : ((List.range m).map fun r => rowL W c (t + r))[k]? = some (rowL W c (t + k)) := by
          have : k < m := by omega
          simp [this]
        rw [hg, bs, hap, bs]
        rw [row_mk W H c (t + k) hc (by omega)]
        refine mkL_congr fun j hj => ?_
        unfold mvR
        rw [if_pos ⟨h1, h2⟩, hk, Int.toNat_natCast]
      · rw [bcf (df h2), hap, bs]
        refine mkL_congr fun j hj => ?_
        unfold mvR
        rw [if_neg (fun q => h2 q.2)]
    · rw [bcf (df h1), hap, bs]
      refine mkL_congr fun j hj => ?_
      unfold mvR
      rw [if_neg (fun q => h1 q.1)]
def scrollC (W : Nat) (c : List GCell) (t m : Nat) (n : Int) (p : GPen) : List GCell := mkL c.length (fun j => if t ≤ j / W ∧ j / W < t + m then mvR W c t m n p (j / W - t) (j % W) else cx c j)
theorem scrollin_ok (W H t b : Nat) (n : Int) (p : GPen) (c : List GCell) (hc : c.length = W * H) (hW1 : 1 ≤ W) (hW : W ≤ 160) (hH : H ≤ 60) (htb : t ≤ b) (hb : b ≤ H) (hn : -100000 ≤ n ∧ n ≤ 100000) :
    f28 (W : Int) (H : Int) (t : Int) (b : Int) n p c = some (scrollC W c t (b - t) n p) := by
  have h9 := size_le W H hW hH
  unfold f28
  have hl1 := loop_to (body := f28_l4 W H t b n p c) (fun i => (c, (List.range (i - t)).map (fun r => rowL W c (t + r)), (i : Int))) (c, (List.range (b - t)).map (fun r => rowL W c (t + r))) b ?_ t htb ?_
  · have hl1' : loopO (f28_l4 W H t b n p c) (c, [], (t : Int)) = some (c, (List.range (b - t)).map (fun r => rowL W c (t + r))) := by
      have := hl1
      rw [Nat.sub_self] at this
      exact this
    rw [hl1', bs]
    unfold f28_j0
    try dsimp only []
    have hw : IntKind.i64.wrap (0 - n) = -n := by rw [i64w _ (by omega)]; omega
    rw [hw, mvrows_ok W H c c t (b - t) n _ p hc hW1 hW hH (by omega) hn, bs]
    try dsimp only []
    rw [chk_len _ _ rfl, bs, chk_len _ _ rfl, bs]
    have hlen : ((List.range (b - t)).map (fun r => mkL W (mvR W c t (b - t) n p r))).length = b - t := by simp
    rw [hlen]
    have hl2 := loop_to (body := f28_l1 W H t b n p c) (fun i => (mkL c.length (fun j => if t ≤ j / W ∧ j / W < t + i then mvR W c t (b - t) n p (j / W - t) (j % W) else cx c j), (W : Int), (H : Int), (List.range (b - t)).map (fun r => mkL W (mvR W c t (b - t) n p r)), ((b - t : Nat) : Int), (i : Int))) (scrollC W c t (b - t) n p) (b - t) ?_ 0 (by omega) ?_
    · try dsimp only [] at hl2
      rw [mkL_self c _ (fun j hj => if_neg (by omega))] at hl2
      rw [show ((0 : Nat) : Int) = 0 from rfl] at hl2
      rw [hl2, bs]
    · unfold f28_l1 f28_l1_j2
      try dsimp only []
      rw [bcf (df (by omega)), cf]
      rfl
    · intro i _ hi
      have hm := mul_le (t + i) H W (by omega)
      rw [Nat.succ_mul] at hm
      unfold f28_l1 f28_l1_j2 f28_l1_j3
      try dsimp only []
      have hg : ((List.range (b - t)).map fun r => mkL W (mvR W c t (b - t) n p r))[i]? = some (mkL W (mvR W c t (b - t) n p i)) := by simp [hi]
      rw [bct (dt (by omega)), ct, hlen, inR_nat i _ hi, bs, hg, bs, i64w ((t : Int) + (i : Int)) (by omega), show (t : Int) + (i : Int) = ((t + i : Nat) : Int) by omega, rowv_ok W H (t + i) _ (by rw [mkL_len]; exact hc) (by omega) hW hH, bs]
      try dsimp only []
      rw [chk_len _ _ rfl, bs, chk_ok (dt (by rw [mkL_len]; omega)), bs, bs, mkL_cpy _ _ _ _ _ (by omega), mkL_len, Nat.min_self, wr1 i (by omega)]
      refine congrArg some (congrArg Sum.inl (Prod.ext (mkL_congr fun j hj => ?_) rfl))
      have hd := div_iff j (t + i) W hW1
      by_cases hj1 : j / W = t + i
      · rw [if_pos (hd.1 hj1), if_pos (by omega), mkL_cx _ _ _ (by have := hd.1 hj1; omega), mod_of j (t + i) W hW1 hj1, hj1, Nat.add_sub_cancel_left]
      · rw [if_neg (fun q => hj1 (hd.2 q))]
        by_cases hj2 : t ≤ j / W ∧ j / W < t + i
        · rw [if_pos hj2, if_pos (by omega)]
        · rw [if_neg hj2, if_neg (by omega)]
  · unfold f28_l4
    try dsimp only []
    rw [bcf (df (by omega))]
  · intro i hi1 hi
    have hm := mul_le i H W (by omega)
    rw [Nat.succ_mul] at hm
    unfold f28_l4 f28_l4_j5
    try dsimp only []
    have hrow : mkL W (fun k => cx c (i * W + k)) = rowL W c i := (row_mk W H c i hc (by omega)).symm
    rw [bct (dt (by omega)), rowv_ok W H i c hc (by omega) hW hH, bs]
    try dsimp only []
    rw [chk_len _ _ rfl, bs, part_nat c _ _ (by omega), bs, cloneR _ (by rw [mkL_len]; omega), bs, app_row 24 _ _ (by simp; omega), bs, wr1 i (by omega), hrow]
    refine congrArg some (congrArg Sum.inl (Prod.ext rfl (Prod.ext ?_ rfl)))
    try dsimp only []
    rw [show i + 1 - t = (i - t) + 1 by omega, List.range_succ, List.map_append, List.map_singleton, show t + (i - t) = i by omega]
/-- A grid of another size: what is copied, then repaired. -/
def cutC (W : Nat) (c : List GCell) (H w h : Nat) (p : GPen) : List GCell := mkL (w * h) (fun j => if j / w < min h H ∧ j % w < min w W then cx c (j / w * W + j % w) else blank p)
def repR (w : Nat) (c : List GCell) : List GCell := mkL c.length (fun j => repF (rowF w c (j / w)) w (j % w))
theorem repF_congr (f g : Nat → GCell) (W i : Nat) (hi : i < W) (h : ∀ k, k < W → f k = g k) : repF f W i = repF g W i := by
  unfold repF; rw [h i hi, loneF_congr f g W i hi h]
theorem size_core (g : GGrid) (W H w h : Nat) (c : List GCell) (p : GPen) (hg : g = ⟨W, H, c⟩) (hc : c.length = W * H) (hW1 : 1 ≤ W) (hW : W ≤ 160) (hH : H ≤ 60) (w1 : 1 ≤ w) (w2 : w ≤ 160) (h1 : 1 ≤ h) (h2 : h ≤ 60) :
    f12_j1 g (w : Int) (h : Int) p (w : Int) (h : Int) (mkL (w * h) (fun _ => blank p)) = some ((w : Int), (h : Int), repR w (cutC W c H w h p), 0) := by
  subst hg
  have h9 := size_le w h w2 h2
  unfold f12_j1
  have hl1 := loop_to (body := f12_l6 ⟨W, H, c⟩ w h p) (fun i => ((w : Int), (h : Int), mkL (w * h) (fun j => if j / w < i ∧ j % w < min w W then cx c (j / w * W + j % w) else blank p), (i : Int))) ((w : Int), (h : Int), cutC W c H w h p) (min h H) ?_ 0 (by omega) ?_
  · try dsimp only [] at hl1
    have e0 : mkL (w * h) (fun j => if j / w < 0 ∧ j % w < min w W then cx c (j / w * W + j % w) else blank p) = mkL (w * h) (fun _ => blank p) := mkL_congr fun j hj => if_neg (fun q => Nat.not_lt_zero _ q.1)
    rw [e0, show ((0 : Nat) : Int) = 0 from rfl] at hl1
    rw [hl1, bs]
    try dsimp only []
    unfold f12_j2
    have hlen : (cutC W c H w h p).length = w * h := mkL_len _ _
    generalize cutC W c H w h p = d at hlen ⊢
    have hl2 := loop_to (body := f12_l3 ⟨W, H, c⟩ w h p) (fun i => ((w : Int), (h : Int), mkL d.length (fun j => if j / w < i then repF (rowF w d (j / w)) w (j % w) else cx d j), (i : Int))) ((w : Int), (h : Int), repR w d) h ?_ 0 (by omega) ?_
    · try dsimp only [] at hl2
      rw [mkL_self d _ (fun j hj => if_neg (Nat.not_lt_zero _)), show ((0 : Nat) : Int) = 0 from rfl] at hl2
      rw [hl2, bs]
    · unfold f12_l3 f12_l3_j4
      try dsimp only []
      rw [bcf (df (by omega)), cf]
      unfold repR
      refine congrArg some (congrArg Sum.inr (Prod.ext rfl (Prod.ext rfl (mkL_congr fun j hj => ?_))))
      have : j / w < h := by rw [Nat.div_lt_iff_lt_mul w1, Nat.mul_comm]; omega
      rw [if_pos this]
    · intro i _ hi
      have hm := mul_le i h w hi
      rw [Nat.succ_mul] at hm
      unfold f12_l3 f12_l3_j4 f12_l3_j5
      try dsimp only []
      rw [bct (dt (by omega)), ct, rowv_ok w h i _ (by rw [mkL_len]; exact hlen) hi w2 h2, bs]
      try dsimp only []
      rw [chk_len _ _ rfl, bs, rep_ok _ _ _ (by rw [mkL_len]; omega) (by rw [mkL_len]; omega), bs, chk_len _ _ (repL_len _ _ _), bs, wr1 i (by omega)]
      refine congrArg some (congrArg Sum.inl (Prod.ext rfl (Prod.ext rfl (Prod.ext ?_ rfl))))
      try dsimp only []
      unfold repL
      rw [mkL_len]
      refine mkL_congr fun j hj => ?_
      have hd := div_iff j i w w1
      by_cases hj1 : j / w = i
      · rw [if_pos (hd.1 hj1), if_pos (by omega), mod_of j i w w1 hj1, hj1]
        refine repF_congr _ _ _ _ (Nat.mod_lt _ w1) fun k hk => ?_
        rw [mkL_cx _ _ _ (by omega), if_neg]
        · rfl
        · have := (div_iff (i * w + k) i w w1).2 ⟨by omega, by omega⟩
          omega
      · rw [if_neg (fun q => hj1 (hd.2 q)), mkL_cx _ _ _ hj]
        by_cases hj2 : j / w < i
        · rw [if_pos hj2, if_pos (by omega)]
        · rw [if_neg hj2, if_neg (by omega)]
  · unfold f12_l6 f12_l6_j7
    try dsimp only []
    rw [bcf (df (by split <;> omega)), cf]
    rfl
  · intro i _ hi
    have hm := mul_le i h w (by omega)
    rw [Nat.succ_mul] at hm
    unfold f12_l6 f12_l6_j7 f12_l6_j8
    try dsimp only []
    rw [bct (dt (by split <;> omega)), ct, rowv_ok w h i _ (by rw [mkL_len]) (by omega) w2 h2, bs]
    try dsimp only []
    rw [chk_len _ _ rfl, bs, row_ok W H c i hc (by omega) hW hH, bs, chk_ok (dt (by rw [mkL_len]; omega)), bs, bs, mkL_cpy _ _ _ _ _ (by omega), rowL_len W H c i hc (by omega), wr1 i (by omega)]
    refine congrArg some (congrArg Sum.inl (Prod.ext rfl (Prod.ext rfl (Prod.ext (mkL_congr fun j hj => ?_) rfl))))
    have hd := div_iff j i w w1
    have hmw := Nat.mod_lt j w1
    by_cases hj1 : j / w = i
    · have hmo := mod_of j i w w1 hj1
      have hb := hd.1 hj1
      by_cases hj2 : j % w < min w W
      · rw [if_pos (by omega), if_pos ⟨by omega, hj2⟩, hmo, rowL_cx W H c i _ hc (by omega) (by omega), hj1]
        rfl
      · rw [if_neg (by omega), if_neg (fun q => hj2 q.2), if_neg (fun q => hj2 q.2)]
    · rw [if_neg (fun q => hj1 (hd.2 ⟨q.1, by omega⟩))]
      by_cases hj2 : j / w < i ∧ j % w < min w W
      · rw [if_pos hj2, if_pos ⟨by omega, hj2.2⟩]
      · rw [if_neg hj2, if_neg (fun q => hj2 ⟨by omega, q.2⟩)]

/-- What an operation tells. -/
def opS (g : GGrid) (cond : Prop) [Decidable cond] (p : GPen) (c : List GCell) : Int × Int × List GCell × Int :=
  if gcode g = 0 then (if cond then (if pcB p = true then (g.Wide, g.High, c, 0) else (0, 0, [], 4)) else (0, 0, [], 1)) else (0, 0, [], gcode g)
def oPut (g : GGrid) (n col r : Int) (p : GPen) := opS g (0 ≤ n ∧ n < g.High ∧ 0 < wd r ∧ 0 ≤ col ∧ col ≤ g.Wide - wd r) p (repL (putC g.Cells (n.toNat * g.Wide.toNat) col.toNat r p) (n.toNat * g.Wide.toNat) g.Wide.toNat)
theorem start_bad (g : GGrid) (b : Bool) (p : GPen) (h : gcode g ≠ 0) : startS g b p = (0, 0, [], gcode g) := by unfold startS; rw [if_neg h]
theorem start_good (g : GGrid) (b : Bool) (p : GPen) (h : gcode g = 0) : startS g b p = if b = true then (if pcB p = true then (g.Wide, g.High, g.Cells, 0) else (0, 0, [], 4)) else (0, 0, [], 1) := by unfold startS; rw [if_pos h]
/-- From the start to the end. -/
theorem op_fin (g : GGrid) (b : Bool) (c : Prop) [Decidable c] (p : GPen) (R : List GCell) (F : Int → Int → List GCell → Int → Option (Int × Int × List GCell × Int)) (hb : gcode g = 0 → (b = true ↔ c)) (hF : ∀ x y l e, e ≠ 0 → F x y l e = some (x, y, l, e))
    (hG : gcode g = 0 → c → pcB p = true → F g.Wide g.High g.Cells 0 = some (g.Wide, g.High, R, 0)) : F (startS g b p).1 (startS g b p).2.1 (startS g b p).2.2.1 (startS g b p).2.2.2 = some (opS g c p R) := by
  unfold opS
  by_cases hg : gcode g = 0
  · rw [start_good g b p hg, if_pos hg]
    by_cases hc : c
    · rw [if_pos ((hb hg).2 hc), if_pos hc]
      by_cases hp : pcB p = true
      · rw [if_pos hp, if_pos hp]; exact hG hg hc hp
      · rw [if_neg hp, if_neg hp]; exact hF _ _ _ _ (by decide)
    · rw [if_neg (fun q => hc ((hb hg).1 q)), if_neg hc]; exact hF _ _ _ _ (by decide)
  · rw [start_bad g b p hg, if_neg hg]; exact hF _ _ _ _ hg
theorem put_ok (g : GGrid) (n col r : Int) (p : GPen) : f7 g n col r p = some (oPut g n col r p) := by
  have key : ∀ b : Bool, (gcode g = 0 → (b = true ↔ (0 ≤ n ∧ n < g.High ∧ 0 < wd r ∧ 0 ≤ col ∧ col ≤ g.Wide - wd r))) → f7_j0 g n col r p (startS g b p).1 (startS g b p).2.1 (startS g b p).2.2.1 (startS g b p).2.2.2 = some (oPut g n col r p) := by
    intro b hb
    refine op_fin g b _ p _ (f7_j0 g n col r p) hb (fun x y l e he => ?_) (fun hg hc hp => ?_)
    · unfold f7_j0; rw [bct (by rw [df he]; rfl)]
    · obtain ⟨W, H, w1, w2, h1, h2, e, hl, hR⟩ := gcode0 g hg
      have eW : g.Wide = (W : Int) := by rw [e]
      have eH : g.High = (H : Int) := by rw [e]
      rw [eW, eH] at hc ⊢
      obtain ⟨N, rfl⟩ := Int.eq_ofNat_of_zero_le hc.1
      obtain ⟨C, rfl⟩ := Int.eq_ofNat_of_zero_le hc.2.2.2.1
      unfold f7_j0 f7_j1
      rw [bcf (by rfl), putin_ok W H N C r p g.Cells hl (by omega) w2 h2 hc.2.2.1 (by omega), bs, chk_len _ _ (by rw [repL_len]; exact mkL_len _ _), bs]
      simp only [Int.toNat_natCast]
  unfold f7
  rw [width_ok, bs]
  by_cases a1 : 0 ≤ n
  · rw [bct (dt a1)]
    by_cases a2 : n < g.High
    · rw [bct (dt a2)]
      by_cases a3 : 0 < wd r
      · rw [bct (dt a3)]
        by_cases a4 : 0 ≤ col
        · rw [bct (dt a4)]
          by_cases a5 : col ≤ IntKind.i64.wrap (g.Wide - wd r)
          · rw [bct (dt a5), start_ok, bs]
            refine key true fun hg => ⟨fun _ => ⟨a1, a2, a3, a4, ?_⟩, fun _ => rfl⟩
            obtain ⟨W, H, w1, w2, h1, h2, e, _⟩ := gcode0 g hg
            have eW : g.Wide = (W : Int) := by rw [e]
            have := wd_cases r
            rw [eW, i64w _ (by omega)] at a5
            rw [eW]; exact a5
          · rw [bcf (df a5), start_ok, bs]
            refine key false fun hg => ⟨fun q => (by cases q), fun q => ?_⟩
            obtain ⟨W, H, w1, w2, h1, h2, e, _⟩ := gcode0 g hg
            have eW : g.Wide = (W : Int) := by rw [e]
            have := wd_cases r
            rw [eW, i64w _ (by omega)] at a5
            rw [eW] at q; exact absurd q.2.2.2.2 a5
        · rw [bcf (df a4), start_ok, bs]
          exact key false fun hg => ⟨fun q => (by cases q), fun q => absurd q.2.2.2.1 a4⟩
      · rw [bcf (df a3), start_ok, bs]
        exact key false fun hg => ⟨fun q => (by cases q), fun q => absurd q.2.2.1 a3⟩
    · rw [bcf (df a2), start_ok, bs]
      exact key false fun hg => ⟨fun q => (by cases q), fun q => absurd q.2.1 a2⟩
  · rw [bcf (df a1), start_ok, bs]
    exact key false fun hg => ⟨fun q => (by cases q), fun q => absurd q.1 a1⟩
theorem span_ok (g : GGrid) (n a b : Int) : f24 g n a b = some (decide (0 ≤ n ∧ n < g.High ∧ 0 ≤ a ∧ a ≤ b ∧ b ≤ g.Wide)) := by
  unfold f24
  by_cases a1 : 0 ≤ n <;> by_cases a2 : n < g.High <;> by_cases a3 : 0 ≤ a <;> by_cases a4 : a ≤ b <;> by_cases a5 : b ≤ g.Wide <;> simp [a1, a2, a3, a4, a5, ct, cf]
theorem far_ok (n : Int) : f26 n = some (decide (-16383 ≤ n ∧ n ≤ 16383)) := by
  unfold f26
  by_cases a1 : -16383 ≤ n <;> by_cases a2 : n ≤ 16383 <;> simp [a1, a2, ct, cf]
def oFill (g : GGrid) (n a b : Int) (p : GPen) := opS g (0 ≤ n ∧ n < g.High ∧ 0 ≤ a ∧ a ≤ b ∧ b ≤ g.Wide) p (repL (fillC g.Cells (n.toNat * g.Wide.toNat) a.toNat b.toNat p) (n.toNat * g.Wide.toNat) g.Wide.toNat)
theorem fill_ok (g : GGrid) (n a b : Int) (p : GPen) : f8 g n a b p = some (oFill g n a b p) := by
  unfold f8
  rw [span_ok, bs, start_ok, bs]
  refine op_fin g _ _ p _ (fun x y l e => bif !decide (e = 0) then some (x, y, l, e) else f8_j0 g n a b p x y l) (fun _ => decide_eq_true_iff) (fun x y l e he => ?_) (fun hg hc hp => ?_)
  · rw [bct (by rw [df he]; rfl)]
  · obtain ⟨W, H, w1, w2, h1, h2, e, hl, hR⟩ := gcode0 g hg
    have eW : g.Wide = (W : Int) := by rw [e]
    have eH : g.High = (H : Int) := by rw [e]
    rw [eW, eH] at hc ⊢
    obtain ⟨N, rfl⟩ := Int.eq_ofNat_of_zero_le hc.1
    obtain ⟨A, rfl⟩ := Int.eq_ofNat_of_zero_le hc.2.2.1
    obtain ⟨B, rfl⟩ := Int.eq_ofNat_of_zero_le (show 0 ≤ b by omega)
    unfold f8_j0
    rw [bcf (by rfl), fillin_ok W H N A B p g.Cells hl (by omega) w2 h2 (by omega) (by omega), bs, chk_len _ _ (by rw [repL_len]; exact mkL_len _ _), bs]
    simp only [Int.toNat_natCast]
def oShift (g : GGrid) (n a b k : Int) (p : GPen) := opS g ((0 ≤ n ∧ n < g.High ∧ 0 ≤ a ∧ a ≤ b ∧ b ≤ g.Wide) ∧ -16383 ≤ k ∧ k ≤ 16383) p (repL (shiftC g.Cells (n.toNat * g.Wide.toNat) a.toNat b.toNat k p) (n.toNat * g.Wide.toNat) g.Wide.toNat)
theorem shift_ok (g : GGrid) (n a b k : Int) (p : GPen) : f9 g n a b k p = some (oShift g n a b k p) := by
  have key : ∀ b' : Bool, (b' = true ↔ ((0 ≤ n ∧ n < g.High ∧ 0 ≤ a ∧ a ≤ b ∧ b ≤ g.Wide) ∧ -16383 ≤ k ∧ k ≤ 16383)) → f9_j0 g n a b k p (startS g b' p).1 (startS g b' p).2.1 (startS g b' p).2.2.1 (startS g b' p).2.2.2 = some (oShift g n a b k p) := by
    intro b' hb
    refine op_fin g b' _ p _ (f9_j0 g n a b k p) (fun _ => hb) (fun x y l e he => ?_) (fun hg hc hp => ?_)
    · unfold f9_j0; rw [bct (by rw [df he]; rfl)]
    · obtain ⟨W, H, w1, w2, h1, h2, e, hl, hR⟩ := gcode0 g hg
      have eW : g.Wide = (W : Int) := by rw [e]
      have eH : g.High = (H : Int) := by rw [e]
      rw [eW, eH] at hc ⊢
      obtain ⟨N, rfl⟩ := Int.eq_ofNat_of_zero_le hc.1.1
      obtain ⟨A, rfl⟩ := Int.eq_ofNat_of_zero_le hc.1.2.2.1
      obtain ⟨B, rfl⟩ := Int.eq_ofNat_of_zero_le (show 0 ≤ b by omega)
      unfold f9_j0 f9_j1
      rw [bcf (by rfl), shiftin_ok W H N A B k p g.Cells hl (by omega) w2 h2 (by omega) (by omega) (by omega), bs, chk_len _ _ (by rw [repL_len]; exact mkL_len _ _), bs]
      simp only [Int.toNat_natCast]
  unfold f9
  rw [span_ok, bs]
  by_cases hs : 0 ≤ n ∧ n < g.High ∧ 0 ≤ a ∧ a ≤ b ∧ b ≤ g.Wide
  · rw [bct (dt hs), far_ok, bs, start_ok, bs]
    exact key _ (by rw [decide_eq_true_iff]; exact ⟨fun q => ⟨hs, q⟩, fun q => q.2⟩)
  · rw [bcf (df hs), start_ok, bs]
    exact key false ⟨fun q => (by cases q), fun q => absurd q.1 hs⟩
def oScroll (g : GGrid) (t b n : Int) (p : GPen) := opS g ((0 ≤ t ∧ t ≤ b ∧ b ≤ g.High) ∧ -16383 ≤ n ∧ n ≤ 16383) p (scrollC g.Wide.toNat g.Cells t.toNat (b.toNat - t.toNat) n p)
theorem scroll_ok (g : GGrid) (t b n : Int) (p : GPen) : f11 g t b n p = some (oScroll g t b n p) := by
  have key : ∀ b' : Bool, (b' = true ↔ ((0 ≤ t ∧ t ≤ b ∧ b ≤ g.High) ∧ -16383 ≤ n ∧ n ≤ 16383)) → f11_j0 g t b n p (startS g b' p).1 (startS g b' p).2.1 (startS g b' p).2.2.1 (startS g b' p).2.2.2 = some (oScroll g t b n p) := by
    intro b' hb
    refine op_fin g b' _ p _ (f11_j0 g t b n p) (fun _ => hb) (fun x y l e he => ?_) (fun hg hc hp => ?_)
    · unfold f11_j0; rw [bct (by rw [df he]; rfl)]
    · obtain ⟨W, H, w1, w2, h1, h2, e, hl, hR⟩ := gcode0 g hg
      have eW : g.Wide = (W : Int) := by rw [e]
      have eH : g.High = (H : Int) := by rw [e]
      rw [eH] at hc
      rw [eW, eH]
      obtain ⟨T, rfl⟩ := Int.eq_ofNat_of_zero_le hc.1.1
      obtain ⟨B, rfl⟩ := Int.eq_ofNat_of_zero_le (show 0 ≤ b by omega)
      unfold f11_j0 f11_j1
      rw [bcf (by rfl), scrollin_ok W H T B n p g.Cells hl w1 w2 h2 (by omega) (by omega) (by omega), bs, chk_len _ _ (show (scrollC W g.Cells T (B - T) n p).length = g.Cells.length from mkL_len _ _), bs]
      simp only [Int.toNat_natCast]
  unfold f11
  by_cases a1 : 0 ≤ t
  · rw [bct (dt a1)]
    by_cases a2 : t ≤ b
    · rw [bct (dt a2)]
      by_cases a3 : b ≤ g.High
      · rw [bct (dt a3), far_ok, bs, start_ok, bs]
        exact key _ (by rw [decide_eq_true_iff]; exact ⟨fun q => ⟨⟨a1, a2, a3⟩, q⟩, fun q => q.2⟩)
      · rw [bcf (df a3), start_ok, bs]
        exact key false ⟨fun q => (by cases q), fun q => absurd q.1.2.2 a3⟩
    · rw [bcf (df a2), start_ok, bs]
      exact key false ⟨fun q => (by cases q), fun q => absurd q.1.2.1 a2⟩
  · rw [bcf (df a1), start_ok, bs]
    exact key false ⟨fun q => (by cases q), fun q => absurd q.1.1 a1⟩
def oSize (g : GGrid) (w h : Int) (p : GPen) : Int × Int × List GCell × Int :=
  if gcode g = 0 then (if 1 ≤ w ∧ w ≤ 160 ∧ 1 ≤ h ∧ h ≤ 60 then (if pcB p = true then (w, h, repR w.toNat (cutC g.Wide.toNat g.Cells g.High.toNat w.toNat h.toNat p), 0) else (0, 0, [], 4)) else (0, 0, [], 1)) else (0, 0, [], gcode g)
theorem sizeop_ok (g : GGrid) (w h : Int) (p : GPen) : f12 g w h p = some (oSize g w h p) := by
  unfold f12 f12_j0 oSize
  rw [check_ok, bs, new_ok, bs]
  by_cases hg : gcode g = 0
  · rw [if_pos hg, bcf (by rw [dt hg]; rfl)]
    by_cases hs : 1 ≤ w ∧ w ≤ 160 ∧ 1 ≤ h ∧ h ≤ 60
    · rw [if_pos hs, if_pos hs]
      by_cases hp : pcB p = true
      · obtain ⟨W, H, w1, w2, h1, h2, e, hl, hR⟩ := gcode0 g hg
        obtain ⟨ww, rfl⟩ := Int.eq_ofNat_of_zero_le (show 0 ≤ w by omega)
        obtain ⟨hh, rfl⟩ := Int.eq_ofNat_of_zero_le (show 0 ≤ h by omega)
        rw [if_pos hp, if_pos hp, bcf (by rfl)]
        try dsimp only []
        rw [Int.toNat_natCast, Int.toNat_natCast, size_core g W H ww hh g.Cells p e hl w1 w2 h2 (by omega) (by omega) (by omega) (by omega)]
        have eW : g.Wide = (W : Int) := by rw [e]
        have eH : g.High = (H : Int) := by rw [e]
        rw [eW, eH, Int.toNat_natCast, Int.toNat_natCast]
      · rw [if_neg hp, if_neg hp]; rfl
    · rw [if_neg hs, if_neg hs]; rfl
  · rw [if_neg hg, bct (by rw [df hg]; rfl)]
/-- The text of a row. -/
def runesF (f : Nat → GCell) (k : Nat) : List Int := ((List.range k).filter fun i => !decide ((f i).Rune = 0)).map fun i => (f i).Rune
theorem runesF_succ (f : Nat → GCell) (k : Nat) : runesF f (k + 1) = if (f k).Rune = 0 then runesF f k else runesF f k ++ [(f k).Rune] := by
  unfold runesF
  rw [List.range_succ, List.filter_append, List.map_append]
  by_cases h : (f k).Rune = 0
  · rw [if_pos h]; simp [h]
  · rw [if_neg h]; simp [h]
theorem runesF_len (f : Nat → GCell) (k : Nat) : (runesF f k).length ≤ k := by
  unfold runesF
  rw [List.length_map]
  have := List.length_filter_le (fun i => !decide ((f i).Rune = 0)) (List.range k)
  rw [List.length_range] at this; exact this
def oText (g : GGrid) (n : Int) : List Int × Int := if gcode g = 0 then (if 0 ≤ n ∧ n < g.High then (runesF (rowF g.Wide.toNat g.Cells n.toNat) g.Wide.toNat, 0) else ([], 1)) else ([], gcode g)
theorem text_in (g : GGrid) (n W H : Nat) (c : List GCell) (h1 : 1 ≤ W) (h2 : W ≤ 160) (h3 : H ≤ 60) (hc : c.length = W * H) (hn : n < H) : f15_j1 g (n : Int) (W : Int) (H : Int) c = some (runesF (rowF W c n) W, 0) := by
  have hm := mul_le n H W hn
  rw [Nat.succ_mul] at hm
  unfold f15_j1
  rw [rowv_ok W H n c hc hn h2 h3, bs]
  try dsimp only []
  rw [chk_len _ _ rfl, bs]
  have hlp := loop_to (body := f15_l2 g (n : Int)) (fun i => (runesF (rowF W c n) i, c, n * W, W, (W : Int), (i : Int))) (runesF (rowF W c n) W) W ?_ 0 (by omega) ?_
  · have hlp' : loopO (f15_l2 g (n : Int)) ([], c, n * W, W, (W : Int), 0) = some (runesF (rowF W c n) W) := hlp
    rw [hlp', bs]
  · unfold f15_l2 f15_l2_j3
    try dsimp only []
    rw [bcf (df (by omega)), cf]
  · intro i _ hi
    unfold f15_l2 f15_l2_j3 f15_l2_j4
    try dsimp only []
    rw [bct (dt (by omega)), ct, inR_nat i W hi, bs, cx_get c _ (by omega), bs, wr1 i (by omega), runesF_succ]
    show (bif !decide ((rowF W c n i).Rune = 0) then ((app? 8 (runesF (rowF W c n) i) [(rowF W c n i).Rune]).bind _) else _) = _
    have := runesF_len (rowF W c n) i
    by_cases h0 : (rowF W c n i).Rune = 0
    · rw [bcf (by rw [dt h0]; rfl), if_pos h0]
    · rw [bct (by rw [df h0]; rfl), if_neg h0, app_row 8 _ _ (by simp; omega), bs]
theorem text_ok (g : GGrid) (n : Int) : f15 g n = some (oText g n) := by
  have key : ∀ b : Bool, (b = true ↔ (0 ≤ n ∧ n < g.High)) → f15_j0 g n (startS g b ⟨0, 0, 0⟩).1 (startS g b ⟨0, 0, 0⟩).2.1 (startS g b ⟨0, 0, 0⟩).2.2.1 (startS g b ⟨0, 0, 0⟩).2.2.2 = some (oText g n) := by
    intro b hb
    unfold oText
    by_cases hg : gcode g = 0
    · rw [start_good g b _ hg, if_pos hg]
      by_cases hc : 0 ≤ n ∧ n < g.High
      · rw [if_pos (hb.2 hc), if_pos hc, if_pos (by decide)]
        obtain ⟨W, H, w1, w2, h1, h2, e, hl, hR⟩ := gcode0 g hg
        have eW : g.Wide = (W : Int) := by rw [e]
        have eH : g.High = (H : Int) := by rw [e]
        try dsimp only []
        rw [eH] at hc
        obtain ⟨N, rfl⟩ := Int.eq_ofNat_of_zero_le hc.1
        unfold f15_j0
        rw [bcf (by rfl), eW, eH, text_in g N W H _ w1 w2 h2 hl (by omega), Int.toNat_natCast, Int.toNat_natCast]
      · rw [if_neg (fun q => hc (hb.1 q)), if_neg hc]; rfl
    · rw [start_bad g b _ hg, if_neg hg]
      unfold f15_j0
      rw [bct (by rw [df hg]; rfl)]
  unfold f15
  by_cases a1 : 0 ≤ n
  · rw [bct (dt a1)]
    by_cases a2 : n < g.High
    · rw [bct (dt a2), start_ok, bs]
      exact key true ⟨fun _ => ⟨a1, a2⟩, fun _ => rfl⟩
    · rw [bcf (df a2), start_ok, bs]
      exact key false ⟨fun q => (by cases q), fun q => absurd q.2 a2⟩
  · rw [bcf (df a1), start_ok, bs]
    exact key false ⟨fun q => (by cases q), fun q => absurd q.1 a1⟩
theorem eq_same (l : List Int) (hl : l.length ≤ 1000000) : f16 l l = some true := by
  unfold f16 f16_j0
  rw [bcf (by rw [dt rfl]; rfl)]
  have h := loop_to (body := f16_l1 l l) (fun i => (i : Int)) (.inl ()) l.length ?_ 0 (by omega) ?_
  · rw [show ((0 : Nat) : Int) = 0 from rfl] at h
    rw [h, bs]; rfl
  · unfold f16_l1 f16_l1_j2
    rw [bcf (df (by omega)), cf]
  · intro i _ hi
    unfold f16_l1 f16_l1_j2 f16_l1_j3
    rw [bct (dt (by omega)), ct, idx_nat l i 0 hi, bs, bs, bcf (by rw [dt rfl]; rfl), wr1 i (by omega)]
theorem lives : f5 = some true := by
  unfold f5
  rw [new_ok, bs, put_ok, bs, put_ok, bs, text_ok, bs]
  have e : oText ⟨(oPut ⟨(oPut ⟨4, 1, mkL 4 fun _ => blank ⟨0, 0, 0⟩⟩ 0 0 97 ⟨0, 0, 0⟩).1, (oPut ⟨4, 1, mkL 4 fun _ => blank ⟨0, 0, 0⟩⟩ 0 0 97 ⟨0, 0, 0⟩).2.1, (oPut ⟨4, 1, mkL 4 fun _ => blank ⟨0, 0, 0⟩⟩ 0 0 97 ⟨0, 0, 0⟩).2.2.1⟩ 0 1 20013 ⟨1, 0, 0⟩).1, (oPut ⟨(oPut ⟨4, 1, mkL 4 fun _ => blank ⟨0, 0, 0⟩⟩ 0 0 97 ⟨0, 0, 0⟩).1, (oPut ⟨4, 1, mkL 4 fun _ => blank ⟨0, 0, 0⟩⟩ 0 0 97 ⟨0, 0, 0⟩).2.1, (oPut ⟨4, 1, mkL 4 fun _ => blank ⟨0, 0, 0⟩⟩ 0 0 97 ⟨0, 0, 0⟩).2.2.1⟩ 0 1 20013 ⟨1, 0, 0⟩).2.1, (oPut ⟨(oPut ⟨4, 1, mkL 4 fun _ => blank ⟨0, 0, 0⟩⟩ 0 0 97 ⟨0, 0, 0⟩).1, (oPut ⟨4, 1, mkL 4 fun _ => blank ⟨0, 0, 0⟩⟩ 0 0 97 ⟨0, 0, 0⟩).2.1, (oPut ⟨4, 1, mkL 4 fun _ => blank ⟨0, 0, 0⟩⟩ 0 0 97 ⟨0, 0, 0⟩).2.2.1⟩ 0 1 20013 ⟨1, 0, 0⟩).2.2.1⟩ 0 = ([97, 20013, 32], 0) := by decide +kernel
  rw [if_pos (by decide), if_pos (by decide)]
  rw [show (4 : Int).toNat * (1 : Int).toNat = 4 from rfl]
  try dsimp only []
  rw [e]
  have e1 : (oPut ⟨4, 1, mkL 4 fun _ => blank ⟨0, 0, 0⟩⟩ 0 0 97 ⟨0, 0, 0⟩).2.2.2 = 0 := by decide +kernel
  have e2 : (oPut ⟨(oPut ⟨4, 1, mkL 4 fun _ => blank ⟨0, 0, 0⟩⟩ 0 0 97 ⟨0, 0, 0⟩).1, (oPut ⟨4, 1, mkL 4 fun _ => blank ⟨0, 0, 0⟩⟩ 0 0 97 ⟨0, 0, 0⟩).2.1, (oPut ⟨4, 1, mkL 4 fun _ => blank ⟨0, 0, 0⟩⟩ 0 0 97 ⟨0, 0, 0⟩).2.2.1⟩ 0 1 20013 ⟨1, 0, 0⟩).2.2.2 = 0 := by decide +kernel
  rw [e1, e2, eq_same _ (by decide), bs]
  rfl
theorem same_cells (l : List GCell) (hl : l.length ≤ 1048576) : f30 l l = some true := by
  unfold f30
  rw [dt rfl, Bool.not_true, cf]
  unfold f30_j0
  have h := loop_to (body := f30_l1 l l) (fun i => (i : Int)) (.inl ()) l.length ?_ 0 (by omega) ?_
  · have h' : loopO (f30_l1 l l) 0 = some (.inl ()) := h
    rw [h', bs]; rfl
  · unfold f30_l1 f30_l1_j2
    rw [bcf (df (by omega)), cf]
  · intro i _ hi
    unfold f30_l1 f30_l1_j2 f30_l1_j3
    rw [bct (dt (by omega)), ct, idx_nat l i ⟨0, ⟨0, 0, 0⟩⟩ hi, bs, bs, dt rfl, dt rfl, dt rfl, dt rfl, wr1 i (by omega)]
    rfl
theorem same_grid (g : GGrid) (hl : g.Cells.length ≤ 1048576) : f13 g g = some true := by
  unfold f13
  rw [bct (dt rfl), bct (dt rfl), same_cells _ hl, bs]
end Go.Proofs.Ytjapcjeijpcpiaa.Pm
