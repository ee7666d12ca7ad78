/- sOf usual_ok blanksG blk_rt size_ok cloneG check_ok gcode_ok known_ok pen_ok pen0 mkL_len mkL_cx loop_to loop_scan inR_nat within_ok qchk_eq six u8_5 lone_ok width_ok wd32 wd_1 cx_idx cloneR repeat_ok rep_mkL blank_row sub_nat scrollin_ok rowv_ok gcode_ok row_ok rowL_len cx_ext part_nat: what the typed functions compute, and the laws. -/
import Derived.Test.YtobkkblijfhpoaaGreatDoorDTpZ
import Derived.Test.YtobkkblijfhpoaaGreatDoorBas
namespace Go.Proofs.YtobkkblijfhpoaaGreatDoor.Pm
open Go.Proofs.YtobkkblijfhpoaaGreatDoor.Args
open Go.ChangeShapes Go.WideShapes Go.ChangeAt Go.RowKit
set_option linter.unusedVariables false
set_option linter.unusedSimpArgs false
set_option maxRecDepth 100000
theorem inR_nat (i n : Nat) (h : i < n) : inR (i : Int) n = some i := by unfold inR; rw [if_pos (by omega)]; simp
theorem loop_to {σ ρ : Type} {body : σ → Option (σ ⊕ ρ)} (f : Nat → σ) (r : ρ) (n : Nat) (hn : body (f n) = some (.inr r)) : ∀ k, k ≤ n → (∀ i, k ≤ i → i < n → body (f i) = some (.inl (f (i + 1)))) → loopO body (f k) = some r := by
 intro k hk h
 induction hd : n - k generalizing k with
 | zero =>
  have : k = n := by omega
  subst this; exact loopO_done hn
 | succ d ih => exact loopO_next (h k (by omega) (by omega)) (ih (k + 1) (by omega) (fun i h1 h2 => h i (by omega) h2) (by omega))
theorem first_bad (P : Nat → Bool) : ∀ n, (∀ i, i < n → P i = true) ∨ ∃ k, k < n ∧ P k = false ∧ ∀ i, i < k → P i = true
 | 0 => .inl fun i h => absurd h (by omega)
 | n + 1 => by
  rcases first_bad P n with h | ⟨k, h1, h2, h3⟩
  ·cases hp : P n with
   | true => exact .inl fun i hi => by rcases Nat.lt_succ_iff_lt_or_eq.1 hi with h' | rfl; exact h i h'; exact hp
   | false => exact .inr ⟨n, by omega, hp, h⟩
  ·exact .inr ⟨k, by omega, h2, h3⟩
theorem loop_scan {σ ρ : Type} {body : σ → Option (σ ⊕ ρ)} (f : Nat → σ) (r0 r1 : ρ) (n : Nat) (P : Nat → Bool) (h1 : ∀ i, i < n → P i = true → body (f i) = some (.inl (f (i + 1)))) (h2 : ∀ i, i < n → P i = false → body (f i) = some (.inr r1))
  (h0 : body (f n) = some (.inr r0)) : loopO body (f 0) = some (if ∀ i, i < n → P i = true then r0 else r1) := by
 rcases first_bad P n with h | ⟨k, hk, hb, hg⟩
 ·rw [if_pos h]; exact loop_to f r0 n h0 0 (by omega) fun i _ hi => h1 i hi (h i hi)
 ·rw [if_neg (fun h => by rw [h k hk] at hb; cases hb)]
  exact loop_to f r1 k (h2 k hk hb) 0 (by omega) fun i _ hi => h1 i (by omega) (hg i hi)
theorem wr1 (i : Nat) (h : i < 1000000000) : IntKind.i64.wrap ((i : Int) + 1) = ((i + 1 : Nat) : Int) := by rw [i64w _ (by omega)]; omega
theorem dt {p : Prop} [Decidable p] (h : p) : decide p = true := decide_eq_true h
theorem df {p : Prop} [Decidable p] (h : ¬ p) : decide p = false := decide_eq_false h
theorem bct {α : Type} {b : Bool} {x y : α} (h : b = true) : (bif b then x else y) = x := by rw [h, ct]
theorem bcf {α : Type} {b : Bool} {x y : α} (h : b = false) : (bif b then x else y) = y := by rw [h, cf]
theorem idx_nat {α : Type} (l : List α) (i : Nat) (z : α) (h : i < l.length) : idx l (i : Int) = some (l.getD i z) := by
 unfold idx; rw [if_pos (by omega)]; simp [h]
def hit (a : Int) (x : Int × Int) : Bool := decide (x.1 ≤ a) && decide (a ≤ x.2)
theorem in_ok (a : Int) (l : List (Int × Int)) (hl : l.length ≤ 1000) : f194 a l = some (l.any (hit a)) := by
 unfold f194
 have h := loop_scan (body := f194_l0 a l) (fun i => (i : Int)) (.inl ()) (.inr true) l.length (fun i => !(hit a (l.getD i (0, 0)))) ?_ ?_ ?_
 ·rw [show ((0 : Nat) : Int) = 0 from rfl] at h
  rw [h, bs]
  by_cases hp : ∀ i, i < l.length → (!(hit a (l.getD i (0, 0)))) = true
  ·rw [if_pos hp]
   show some false = _
   have : l.any (hit a) = false := by
    rw [List.any_eq_false]
    intro x hx
    obtain ⟨i, hi, rfl⟩ := List.getElem_of_mem hx
    have := hp i hi
    simp [hi] at this
    simp [this]
   rw [this]
  ·rw [if_neg hp]
   show some true = _
   have : l.any (hit a) = true := by
    rw [List.any_eq_true]
    rcases first_bad (fun i => !(hit a (l.getD i (0, 0)))) l.length with h | ⟨k, hk, hb, _⟩
    ·exact absurd h hp
    ·refine ⟨l[k], List.getElem_mem hk, ?_⟩
     simp [hk] at hb
     exact hb
   rw [this]
 ·intro i hi hp
  unfold f194_l0 f194_l0_j1 f194_l0_j2
  simp only [hit, Bool.not_eq_true', Bool.and_eq_false_imp, decide_eq_true_eq, decide_eq_false_iff_not] at hp
  rw [bct (dt (by omega)), ct, idx_nat l i (0, 0) hi, bs]
  by_cases h1 : (l.getD i (0, 0)).1 ≤ a
  ·rw [bct (dt h1), bcf (df (hp h1)), wr1 i (by omega)]
  ·rw [bcf (df h1), wr1 i (by omega)]
 ·intro i hi hp
  unfold f194_l0 f194_l0_j1 f194_l0_j2
  simp only [hit, Bool.not_eq_false', Bool.and_eq_true, decide_eq_true_eq] at hp
  rw [bct (dt (by omega)), ct, idx_nat l i (0, 0) hi, bs, bct (dt hp.1), bct (dt hp.2)]
 ·unfold f194_l0 f194_l0_j1
  rw [bcf (df (by omega)), cf]
def noneL : List (Int × Int) := [(0, 31), (127, 159), (768, 879), (8203, 8207), (55296, 57343), (65024, 65039)]
def twoL : List (Int × Int) := [(4352, 4447), (11904, 12350), (12353, 19903), (19968, 42191), (44032, 55203), (63744, 64255), (65072, 65135), (65280, 65376), (65504, 65510), (127744, 128591), (129280, 129535), (131072, 262141)]
def wd (a : Int) : Int := if a < 0 ∨ 1114111 < a ∨ noneL.any (hit a) = true then 0 else if twoL.any (hit a) = true then 2 else 1
theorem width_ok (a : Int) : f146 a = some (wd a) := by
 unfold f146 f146_j0 wd
 rw [in_ok a _ (by decide), in_ok a _ (by decide)]
 simp only [bs]
 rw [show ([(0, 31), (127, 159), (768, 879), (8203, 8207), (55296, 57343), (65024, 65039)] : List (Int × Int)) = noneL from rfl,
  show ([(4352, 4447), (11904, 12350), (12353, 19903), (19968, 42191), (44032, 55203), (63744, 64255), (65072, 65135), (65280, 65376), (65504, 65510), (127744, 128591), (129280, 129535), (131072, 262141)] : List (Int × Int)) = twoL from rfl]
 by_cases h1 : a < 0
 ·rw [bct (dt h1), ct, if_pos (.inl h1)]
 ·rw [bcf (df h1)]
  by_cases h2 : 1114111 < a
  ·rw [bct (dt h2), ct, if_pos (.inr (.inl h2))]
  ·rw [bcf (df h2)]
   cases h3 : noneL.any (hit a) with
   | true => rw [ct, if_pos (.inr (.inr rfl))]
   | false =>
    rw [cf, if_neg (by simp [h1, h2])]
    cases h4 : twoL.any (hit a) with
    | true => rw [ct, if_pos rfl]
    | false => rw [cf, if_neg (by simp)]
theorem wd32 : wd 32 = 1 := by decide
theorem any_f (l : List (Int × Int)) (a lo hi : Int) (h : (l.all fun x => decide (hi < x.1) || decide (x.2 < lo)) = true) (h1 : lo ≤ a) (h2 : a ≤ hi) : l.any (hit a) = false := by
 rw [List.any_eq_false]
 intro x hx
 have := List.all_eq_true.1 h x hx
 simp only [Bool.or_eq_true, decide_eq_true_eq] at this
 simp only [hit, Bool.and_eq_true, decide_eq_true_eq]; omega
theorem wd_1 (a lo hi : Int) (h : ((noneL.all fun x => decide (hi < x.1) || decide (x.2 < lo)) && (twoL.all fun x => decide (hi < x.1) || decide (x.2 < lo))) = true) (h1 : lo ≤ a) (h2 : a ≤ hi) (h3 : 0 ≤ lo) (h4 : hi ≤ 1114111) : 1 = wd a := by
 rw [Bool.and_eq_true] at h
 unfold wd; rw [any_f _ a lo hi h.1 h1 h2, any_f _ a lo hi h.2 h1 h2, if_neg (by rintro (q | q | q); omega; omega; cases q), if_neg (by intro q; cases q)]
def colB (n : Int) : Bool := (decide (0 ≤ n) && decide (n ≤ 256)) || (decide (16777216 ≤ n) && decide (n < 33554432))
def pcB (p : GPen) : Bool := (decide (0 ≤ p.Flags) && decide (p.Flags ≤ 255)) && (colB p.Fore && colB p.Back)
def pcI (p : GPen) : Int := if pcB p = true then 0 else 4
theorem col_ok (n : Int) : f148 n = some (colB n) := by
 unfold f148 colB
 cases decide (0 ≤ n) <;> cases decide (n ≤ 256) <;> cases decide (16777216 ≤ n) <;> cases decide (n < 33554432) <;> rfl
theorem pen_ok (p : GPen) : f84 p = some (pcI p) := by
 unfold f84 pcI pcB
 rw [col_ok, col_ok]
 simp only [bs]
 by_cases h1 : p.Flags < 0
 ·rw [bct (dt h1), df (p := 0 ≤ p.Flags) (by omega)]; rfl
 ·rw [bcf (df h1), dt (p := 0 ≤ p.Flags) (by omega)]
  by_cases h2 : 255 < p.Flags
  ·rw [bct (dt h2), df (p := p.Flags ≤ 255) (by omega)]; rfl
  ·rw [bcf (df h2), dt (p := p.Flags ≤ 255) (by omega)]
   cases colB p.Fore <;> cases colB p.Back <;> rfl
def P0 : GPen := ⟨0, 0, 0⟩
def Z0 : GCell := ⟨0, P0⟩
abbrev cx (l : List GCell) (i : Nat) : GCell := l.getD i Z0
def blank (p : GPen) : GCell := ⟨32, p⟩
def peq (p q : GPen) : Bool := decide (p.Flags = q.Flags) && (decide (p.Fore = q.Fore) && (decide (p.Back = q.Back) && true))
def tlF (f : Nat → GCell) (W k : Nat) : Bool := decide (k < W) && (decide ((f k).Rune = 0) && peq (f k).Pen (f (k - 1)).Pen)
def loneF (f : Nat → GCell) (W i : Nat) : Bool :=
 if (f i).Rune = 0 then (decide (i = 0) || (!decide (wd (f (i - 1)).Rune = 2) || !tlF f W i)) else (decide (wd (f i).Rune = 2) && !tlF f W (i + 1))
theorem cx_idx (l : List GCell) (i : Nat) (h : i < l.length) : idx l (i : Int) = some (cx l i) := idx_nat l i Z0 h
theorem wrm (k : Nat) (h1 : 1 ≤ k) (h : k < 1000000000) : IntKind.i64.wrap ((k : Int) - 1) = ((k - 1 : Nat) : Int) := by rw [i64w _ (by omega)]; omega
theorem tail_ok (l : List GCell) (k : Nat) (h1 : 1 ≤ k) (hk : k ≤ l.length) (hl : l.length ≤ 1000000) (r : List PD) : f195 (k : Int) l r = some (tlF (cx l) l.length k) := by
 unfold f195 tlF
 by_cases h : k < l.length
 ·rw [bct (dt (by omega)), dt h, Bool.true_and, cx_idx l k h, bs]
  by_cases h0 : (cx l k).Rune = 0
  ·rw [bct (dt h0), dt h0, Bool.true_and, bs, wrm k h1 (by omega), cx_idx l (k - 1) (by omega), bs]
   show (bif peq (cx l k).Pen (cx l (k - 1)).Pen then some true else some false) = _
   cases peq (cx l k).Pen (cx l (k - 1)).Pen <;> rfl
  ·rw [bcf (df h0), df h0, Bool.false_and]
 ·rw [bcf (df (by omega)), df h, Bool.false_and]
theorem lone_ok (l : List GCell) (i : Nat) (h : i < l.length) (hl : l.length ≤ 1000000) : f147 l (i : Int) = some (loneF (cx l) l.length i) := by
 unfold f147 f147_j0 loneF
 rw [cx_idx l i h, bs]
 by_cases h0 : (cx l i).Rune = 0
 ·rw [bct (dt h0), if_pos h0]
  by_cases hi : i = 0
  ·rw [bct (dt (by omega)), dt hi, Bool.true_or]
  ·rw [bcf (df (by omega)), df hi, Bool.false_or, wrm i (by omega) (by omega), cx_idx l (i - 1) (by omega), bs, width_ok, bs, tail_ok l i (by omega) (by omega) hl, bs]
   cases decide (wd (cx l (i - 1)).Rune = 2) <;> rfl
 ·rw [bcf (df h0), if_neg h0, bs, width_ok, bs, wr1 i (by omega), tail_ok l (i + 1) (by omega) (by omega) hl, bs]
  cases decide (wd (cx l i).Rune = 2) <;> rfl
theorem loneF_congr (f g : Nat → GCell) (W i : Nat) (hi : i < W) (h : ∀ k, k < W → f k = g k) : loneF f W i = loneF g W i := by
 unfold loneF tlF
 rw [h i hi, h (i - 1) (by omega), show i + 1 - 1 = i from rfl, h i hi]
 by_cases h1 : i + 1 < W
 ·rw [h (i + 1) h1]
 ·rw [df h1]; rfl
def okB (f : Nat → GCell) (W i : Nat) : Bool := pcB (f i).Pen && ((decide ((f i).Rune = 0) || !decide (wd (f i).Rune = 0)) && !loneF f W i)
def rowF (W : Nat) (c : List GCell) (n : Nat) : Nat → GCell := fun i => cx c (n * W + i)
def Rt (W H : Nat) (c : List GCell) : Prop := ∀ n, n < H → (∀ i, i < W → okB (rowF W c n) W i = true)
instance (W H : Nat) (c : List GCell) : Decidable (Rt W H c) := by unfold Rt; infer_instance
def rowL (W : Nat) (c : List GCell) (n : Nat) : List GCell := (c.take ((n + 1) * W)).drop (n * W)
theorem mul_le (n H W : Nat) (h : n < H) : (n + 1) * W ≤ W * H := by rw [Nat.mul_comm W H]; exact Nat.mul_le_mul_right W h
theorem mul_lt (n H W i : Nat) (h : n < H) (hi : i < W) : n * W + i < W * H := by
 have := mul_le n H W h
 rw [Nat.succ_mul] at this; omega
theorem rowL_len (W H : Nat) (c : List GCell) (n : Nat) (hc : c.length = W * H) (hn : n < H) : (rowL W c n).length = W := by
 have := mul_le n H W hn
 unfold rowL
 rw [List.length_drop, List.length_take, Nat.min_eq_left (by omega), Nat.succ_mul]; omega
theorem rowL_cx (W H : Nat) (c : List GCell) (n i : Nat) (hc : c.length = W * H) (hn : n < H) (hi : i < W) : cx (rowL W c n) i = rowF W c n i := by
 have := mul_le n H W hn
 unfold rowL rowF cx
 rw [List.getD_eq_getElem?_getD, List.getD_eq_getElem?_getD, List.getElem?_drop, List.getElem?_take, if_pos (by rw [Nat.succ_mul]; omega)]
theorem size_le (W H : Nat) (hW : W ≤ 160) (hH : H ≤ 60) : W * H ≤ 9600 := by
 have := Nat.mul_le_mul hW hH; omega
theorem wrW (W H n : Nat) (hW : W ≤ 160) (hH : H ≤ 60) (hn : n ≤ H) : IntKind.i64.wrap ((n : Int) * (W : Int)) = ((n * W : Nat) : Int) := by
 have h1 := Nat.mul_le_mul hn hW
 have h2 : n * W ≤ 9600 := by omega
 rw [show (n : Int) * (W : Int) = ((n * W : Nat) : Int) from (Int.natCast_mul n W).symm, i64w _ (by omega)]
theorem wrW2 (W H : Nat) (hW : W ≤ 160) (hH : H ≤ 60) : IntKind.i64.wrap ((W : Int) * (H : Int)) = ((W * H : Nat) : Int) := by
 have h2 := size_le W H hW hH
 rw [show (W : Int) * (H : Int) = ((W * H : Nat) : Int) from (Int.natCast_mul W H).symm, i64w _ (by omega)]
theorem sub_nat {α : Type} (xs : List α) (a b : Nat) (h1 : a ≤ b) (h2 : b ≤ xs.length) : sub? xs (a : Int) (b : Int) = some ((xs.take b).drop a) := by
 unfold sub?
 rw [if_pos (by omega)]; simp
theorem row_ok (W H : Nat) (c : List GCell) (n : Nat) (hc : c.length = W * H) (hn : n < H) (hW : W ≤ 160) (hH : H ≤ 60) : f38 ⟨W, H, c⟩ (n : Int) = some (rowL W c n) := by
 have := mul_le n H W hn
 unfold f38
 dsimp only []
 rw [wr1 n (by omega), wrW W H n hW hH (by omega), wrW W H (n + 1) hW hH (by omega), sub_nat _ _ _ (Nat.mul_le_mul_right W (by omega)) (by omega), bs]
 rfl
def gcode (g : GGrid) : Int :=
 if 1 ≤ g.Wide ∧ g.Wide ≤ 160 ∧ 1 ≤ g.High ∧ g.High ≤ 60 then (if (g.Cells.length : Int) = g.Wide * g.High then (if Rt g.Wide.toNat g.High.toNat g.Cells then 0 else 4) else 4) else 1
theorem size_ok (w h : Int) : f89 w h = some (if 1 ≤ w ∧ w ≤ 160 ∧ 1 ≤ h ∧ h ≤ 60 then 0 else 1) := by
 unfold f89
 by_cases h1 : w < 1
 ·rw [bct (dt h1), if_neg (by omega)]
 rw [bcf (df h1)]
 by_cases h2 : 160 < w
 ·rw [bct (dt h2), if_neg (by omega)]
 rw [bcf (df h2)]
 by_cases h3 : h < 1
 ·rw [bct (dt h3), if_neg (by omega)]
 rw [bcf (df h3)]
 by_cases h4 : 60 < h
 ·rw [bct (dt h4), if_neg (by omega)]
 rw [bcf (df h4), if_pos (by omega)]
theorem pcI0 (p : GPen) : decide (pcI p = 0) = pcB p := by unfold pcI; cases pcB p <;> rfl
theorem all_sum {ρ : Type} (P : Prop) [Decidable P] (a b : ρ) (c : Prop) [Decidable c] (h : P ↔ c) : (if P then a else b) = if c then a else b := by
 by_cases hp : P
 ·rw [if_pos hp, if_pos (h.1 hp)]
 ·rw [if_neg hp, if_neg (fun q => hp (h.2 q))]
theorem rowchk_ok (a1 : GGrid) (W H : Nat) (c : List GCell) (n : Nat) (z : Int) (hc : c.length = W * H) (hn : n < H) (hW : W ≤ 160) (hH : H ≤ 60) :
  loopO (f83_l2_l5 a1) (rowL W c n, z, rowL W c n, ((rowL W c n).length : Int), 0) = some (if ∀ i, i < W → okB (rowF W c n) W i = true then .inl z else .inr 4) := by
 have hl := rowL_len W H c n hc hn
 have hx : ∀ k, k < W → cx (rowL W c n) k = rowF W c n k := fun k hk => rowL_cx W H c n k hc hn hk
 generalize rowL W c n = l at hl hx ⊢
 have h := loop_scan (body := f83_l2_l5 a1) (fun i => (l, z, l, (l.length : Int), (i : Int))) (.inl z) (.inr 4) W (fun i => okB (rowF W c n) W i) ?_ ?_ ?_
 ·exact h
 ·intro i hi hp
  have hil : i < l.length := by omega
  unfold okB at hp
  simp only [Bool.and_eq_true, Bool.or_eq_true, decide_eq_true_eq, Bool.not_eq_true'] at hp
  obtain ⟨h1, h2, h3⟩ := hp
  rw [← hx i hi] at h1 h2
  rw [← loneF_congr (cx l) _ W i hi hx] at h3
  unfold f83_l2_l5 f83_l2_l5_j6 f83_l2_l5_j7
  dsimp only []
  rw [bct (dt (by omega)), ct, cx_idx l i hil, bs, pen_ok, bs, pcI0, h1, Bool.not_true, cf, width_ok, bs, lone_ok l i hil (by omega), hl, h3]
  simp only [bs, cf]
  rw [wr1 i (by omega)]
  rcases h2 with h2 | h2
  ·rw [dt h2]; rfl
  ·rw [h2]
   cases decide ((cx l i).Rune = 0) <;> rfl
 ·intro i hi hp
  have hil : i < l.length := by omega
  unfold okB at hp
  rw [← hx i hi, ← loneF_congr (cx l) _ W i hi hx] at hp
  unfold f83_l2_l5 f83_l2_l5_j6 f83_l2_l5_j7
  dsimp only []
  rw [bct (dt (by omega)), ct, cx_idx l i hil, bs, pen_ok, bs, pcI0, width_ok, bs, lone_ok l i hil (by omega), hl]
  simp only [bs]
  cases h1 : pcB (cx l i).Pen with
  | false => rfl
  | true =>
   rw [h1, Bool.true_and] at hp
   rw [Bool.not_true, cf]
   cases h2 : decide ((cx l i).Rune = 0) with
   | true =>
    rw [h2, Bool.true_or, Bool.true_and] at hp
    have h3 : loneF (cx l) W i = true := by simpa using hp
    rw [h3]; rfl
   | false =>
    rw [h2, Bool.false_or] at hp
    rw [Bool.not_false, ct]
    cases h3 : decide (wd (cx l i).Rune = 0) with
    | true => rfl
    | false =>
     rw [h3, Bool.not_false, Bool.true_and] at hp
     have h3 : loneF (cx l) W i = true := by simpa using hp
     rw [h3]; rfl
 ·unfold f83_l2_l5 f83_l2_l5_j6
  dsimp only []
  rw [bcf (df (by omega)), cf]
theorem Rt_iff (W H : Nat) (c : List GCell) : (∀ n, n < H → decide (∀ i, i < W → okB (rowF W c n) W i = true) = true) ↔ Rt W H c := by
 unfold Rt
 constructor
 ·intro h n hn; exact of_decide_eq_true (h n hn)
 ·intro h n hn; exact dt (h n hn)
theorem chk_loop (W H : Nat) (c : List GCell) (hc : c.length = W * H) (hW : W ≤ 160) (hH : H ≤ 60) :
  loopO (f83_l2 ⟨W, H, c⟩) 0 = some (if Rt W H c then .inl () else .inr 4) := by
 have h := loop_scan (body := f83_l2 ⟨W, H, c⟩) (fun i => (i : Int)) (.inl ()) (.inr 4) H (fun n => decide (∀ i, i < W → okB (rowF W c n) W i = true)) ?_ ?_ ?_
 ·rw [all_sum _ _ _ _ (Rt_iff W H c)] at h; exact h
 ·intro n hn hp
  unfold f83_l2 f83_l2_j3 f83_l2_j4
  rw [bct (dt (by show (n : Int) < (H : Int); omega)), ct, row_ok W H c n hc hn hW hH, bs, rowchk_ok _ W H c n n hc hn hW hH, bs, if_pos (of_decide_eq_true hp)]
  simp only [Sum.elim_inl]
  rw [wr1 n (by omega)]
 ·intro n hn hp
  unfold f83_l2 f83_l2_j3 f83_l2_j4
  rw [bct (dt (by show (n : Int) < (H : Int); omega)), ct, row_ok W H c n hc hn hW hH, bs, rowchk_ok _ W H c n n hc hn hW hH, bs, if_neg (of_decide_eq_false hp)]
  rfl
 ·unfold f83_l2 f83_l2_j3
  rw [bcf (df (by show ¬ (H : Int) < (H : Int); omega)), cf]
theorem check_ok (g : GGrid) : f83 g = some (gcode g) := by
 obtain ⟨w, h, c⟩ := g
 unfold f83 f83_j0 f83_j1 gcode
 rw [size_ok, bs]
 dsimp only []
 by_cases hs : 1 ≤ w ∧ w ≤ 160 ∧ 1 ≤ h ∧ h ≤ 60
 ·rw [if_pos hs, if_pos hs, bcf (by rfl)]
  obtain ⟨W, rfl⟩ := Int.eq_ofNat_of_zero_le (show 0 ≤ w by omega)
  obtain ⟨H, rfl⟩ := Int.eq_ofNat_of_zero_le (show 0 ≤ h by omega)
  rw [wrW2 W H (by omega) (by omega)]
  by_cases hc : c.length = W * H
  ·rw [if_pos (by rw [hc]; exact Int.natCast_mul W H), bcf (by rw [dt (by omega)]; rfl), chk_loop W H c hc (by omega) (by omega), bs, Int.toNat_natCast, Int.toNat_natCast]
   by_cases hr : Rt W H c
   ·rw [if_pos hr, if_pos hr]; rfl
   ·rw [if_neg hr, if_neg hr]; rfl
  ·rw [if_neg (by rw [← Int.natCast_mul]; omega), bct (by rw [df (by omega)]; rfl)]
 ·rw [if_neg hs, if_neg hs, bct (by rfl)]
theorem app_row {α : Type} (b : Nat) (xs ys : List α) (h : (xs.length + ys.length) * b ≤ 1000000000) : app? b xs ys = some (xs ++ ys) := app_ok b xs ys (by omega)
theorem cloneR (l : List GCell) (hl : l.length ≤ 100000) : f91 l = some l := by
 unfold f91; rw [app_row 32 [] l (by simp; omega), bs]; rfl
def mkL (n : Nat) (f : Nat → GCell) : List GCell := (List.range n).map f
theorem mkL_len (n : Nat) (f : Nat → GCell) : (mkL n f).length = n := by unfold mkL; simp
theorem mkL_get (n : Nat) (f : Nat → GCell) (i : Nat) (h : i < n) : (mkL n f)[i]? = some (f i) := by unfold mkL; simp [h]
theorem mkL_cx (n : Nat) (f : Nat → GCell) (i : Nat) (h : i < n) : cx (mkL n f) i = f i := by unfold cx; rw [List.getD_eq_getElem?_getD, mkL_get n f i h]; rfl
theorem cx_get (l : List GCell) (i : Nat) (h : i < l.length) : l[i]? = some (cx l i) := by unfold cx; simp [h]
theorem cx_ext (l m : List GCell) (h : l.length = m.length) (hx : ∀ i, i < l.length → cx l i = cx m i) : l = m := by
 refine List.ext_getElem? fun i => ?_
 by_cases hi : i < l.length
 ·rw [cx_get l i hi, cx_get m i (by omega), hx i hi]
 ·rw [List.getElem?_eq_none (by omega), List.getElem?_eq_none (by omega)]
theorem mkL_congr {n : Nat} {f g : Nat → GCell} (h : ∀ i, i < n → f i = g i) : mkL n f = mkL n g := by
 unfold mkL
 exact List.map_congr_left fun i hi => h i (List.mem_range.1 hi)
theorem mkL_self (l : List GCell) (f : Nat → GCell) (h : ∀ i, i < l.length → f i = cx l i) : mkL l.length f = l :=
 cx_ext _ _ (mkL_len _ _) fun i hi => by rw [mkL_len] at hi; rw [mkL_cx _ _ _ hi, h i hi]
theorem mkL_cpy (n : Nat) (f : Nat → GCell) (o m : Nat) (ys : List GCell) (h : o + m ≤ n) :
  cpyL (mkL n f) o m ys = mkL n (fun j => if o ≤ j ∧ j < o + min ys.length m then cx ys (j - o) else f j) := by
 refine List.ext_getElem? fun i => ?_
 unfold cpyL
 by_cases hi : i < n
 ·rw [mkL_get n _ i hi]
  by_cases h1 : i < o
  ·rw [if_neg (by omega), List.append_assoc, List.getElem?_append_left (by rw [List.length_take, mkL_len]; omega), List.getElem?_take, if_pos h1, mkL_get n f i hi]
  ·rw [List.append_assoc, List.getElem?_append_right (by rw [List.length_take, mkL_len]; omega), List.length_take, mkL_len, Nat.min_eq_left (show o ≤ n by omega)]
   by_cases h2 : i < o + min ys.length m
   ·rw [if_pos ⟨by omega, h2⟩, List.getElem?_append_left (by rw [List.length_take]; omega), List.getElem?_take, if_pos (by omega), cx_get ys (i - o) (by omega)]
   ·rw [if_neg (by omega), List.getElem?_append_right (by rw [List.length_take]; omega), List.length_take, List.getElem?_drop, show o + min ys.length m + (i - o - min (min ys.length m) ys.length) = i by omega, mkL_get n f i hi]
 ·rw [List.getElem?_eq_none (by rw [List.length_append, List.length_append, List.length_take, List.length_take, List.length_drop, mkL_len]; omega), List.getElem?_eq_none (by rw [mkL_len]; omega)]
theorem part_nat (c : List GCell) (o m : Nat) (h : o + m ≤ c.length) : part? c o m = some (mkL m (fun i => cx c (o + i))) := by
 unfold part?
 rw [if_pos h]
 refine congrArg some (cx_ext _ _ (by rw [mkL_len, List.length_take, List.length_drop]; omega) fun i hi => ?_)
 rw [List.length_take, List.length_drop] at hi
 rw [mkL_cx _ _ _ (by omega)]
 unfold cx
 rw [List.getD_eq_getElem?_getD, List.getD_eq_getElem?_getD, List.getElem?_take, if_pos (by omega), List.getElem?_drop]
theorem chk_len (a b : Nat) (h : a = b) : chk (decide (a = b)) = some () := chk_ok (dt h)
theorem rowv_ok (W H n : Nat) (c : List GCell) (hc : c.length = W * H) (hn : n < H) (hW : W ≤ 160) (hH : H ≤ 60) : f38v1 (W : Int) (H : Int) (n : Int) c = some (c, n * W, W) := by
 have := mul_le n H W hn
 have hm := Nat.mul_le_mul_right W (show n ≤ n + 1 by omega)
 unfold f38v1
 rw [wr1 n (by omega), wrW W H n hW hH (by omega), wrW W H (n + 1) hW hH (by omega), chk_ok, bs]
 ·simp only [Int.toNat_natCast]
  rw [Nat.succ_mul, Nat.add_sub_cancel_left]
 ·rw [dt (by omega), dt (by omega), dt (by omega)]; rfl
theorem u64n (n : Nat) (h : n ≤ 1000000) : IntKind.u64.wrap (n : Int) = n := by
 simp [IntKind.wrap, IntKind.signed, IntKind.bits]; omega
theorem and_mask (n : Nat) (h : n ≤ 1000000) : bitI .and .u64 (n : Int) 4294967295 = n := by
 have e : bitI .and .u64 (n : Int) 4294967295 = IntKind.u64.wrap (((BitVec.ofInt 64 (n : Int) &&& BitVec.ofInt 64 4294967295).toNat : Nat) : Int) := rfl
 have e2 : (BitVec.ofInt 64 (n : Int) &&& BitVec.ofInt 64 4294967295).toNat = n := by
  rw [BitVec.toNat_and, BitVec.toNat_ofInt, show (BitVec.ofInt 64 4294967295).toNat = 2 ^ 32 - 1 from rfl, Nat.and_two_pow_sub_one_eq_mod]
  have : (((n : Int) % ((2 ^ 64 : Nat) : Int)).toNat) = n := by
   rw [Int.emod_eq_of_lt (by omega) (by have : ((2 ^ 64 : Nat) : Int) = 18446744073709551616 := rfl; omega)]; simp
  rw [this]
  exact Nat.mod_eq_of_lt (by have : (2 : Nat) ^ 32 = 4294967296 := rfl; omega)
 rw [e, e2, u64n n h]
theorem fdiv0 (n : Nat) (h : n ≤ 1000000) : Int.fdiv (n : Int) (2 ^ 32) = 0 := by
 have e : (2 : Int) ^ 32 = 4294967296 := rfl
 rw [e, Int.fdiv_eq_ediv_of_nonneg _ (by omega)]
 omega
theorem mul1 (n : Nat) (h : n ≤ 1000000) : f198 (IntKind.u64.wrap 1) (IntKind.u64.wrap (n : Int)) = some (0, (n : Int)) := by
 have a1 := and_mask 1 (by omega)
 have a0 := and_mask 0 (by omega)
 have an := and_mask n h
 have d1 := fdiv0 1 (by omega)
 have d0 := fdiv0 0 (by omega)
 have dn := fdiv0 n h
 have w0 := u64n 0 (by omega)
 have w1 := u64n 1 (by omega)
 have wn := u64n n h
 simp only [Int.natCast_zero, Int.natCast_one] at a1 a0 d1 d0 w0 w1
 unfold f198 f198_j0 f236
 rw [bs, w1, wn]
 simp only [d1, d0, dn, a1, a0, an, Int.zero_mul, Int.mul_zero, Int.one_mul, Int.add_zero, Int.zero_add, w0, w1, wn]
theorem grow_step (z : GCell) (n k : Nat) (hk : 1 ≤ k) (hn : k < n) :
  cpyL (List.replicate k z ++ List.replicate (n - k) Z0) k (n - k) (((List.replicate k z ++ List.replicate (n - k) Z0).drop 0).take k) = List.replicate (k + min k (n - k)) z ++ List.replicate (n - (k + min k (n - k))) Z0 := by
 unfold cpyL
 rw [List.drop_zero, List.take_left' (by simp), List.length_replicate, List.take_replicate, List.drop_append, List.drop_replicate, List.drop_replicate, List.length_replicate, ← List.replicate_append_replicate, List.append_assoc]
 rw [show k - (k + min k (n - k)) = 0 by omega, show n - k - (k + min k (n - k) - k) = n - (k + min k (n - k)) by omega, show min (min k (n - k)) k = min k (n - k) by omega]
 simp [← List.append_assoc, List.replicate_append_replicate]
theorem repeat_ok (z : GCell) (n : Nat) (h1 : 1 ≤ n) (h : n ≤ 100000) : f151 [z] (n : Int) = some (List.replicate n z) := by
 unfold f151 f151_j0
 rw [bcf (df (by omega))]
 show ((f198 (IntKind.u64.wrap 1) (IntKind.u64.wrap (n : Int))).bind _) = _
 rw [mul1 n (by omega), bs]
 try dsimp only []
 rw [bcf (df (by omega)), bcf (df (by omega))]
 unfold f151_j1
 rw [i64w _ (by omega)]
 have hm : mk? 32 (n : Int) (n : Int) (GCell.mk 0 (GPen.mk 0 0 0)) = some (List.replicate n Z0) := by
  unfold mk?
  rw [if_pos ⟨by omega, by omega, by rw [Int.toNat_natCast]; omega⟩, Int.toNat_natCast]; rfl
 rw [hm, bs, chk_ok (dt (by omega)), bs, bs, List.length_replicate]
 have hc : cpyL (List.replicate n Z0) 0 n [z] = List.replicate 1 z ++ List.replicate (n - 1) Z0 := by
  unfold cpyL
  rw [show min [z].length n = 1 by show min 1 n = 1; omega]
  simp
 rw [hc]
 obtain ⟨r, hr, hp⟩ := loopO_ind (body := f151_l2 [z] (n : Int)) (fun m (x : List GCell × Int) => ∃ k : Nat, 1 ≤ k ∧ k + m = n ∧ x = (List.replicate k z ++ List.replicate (n - k) Z0, (k : Int))) (fun r => r = List.replicate n z) (fun m x hx => by
  obtain ⟨k, hk1, hk2, rfl⟩ := hx
  have hl : (List.replicate k z ++ List.replicate (n - k) Z0).length = n := by simp; omega
  by_cases hk : k < n
  ·refine .inl ⟨(List.replicate (k + min k (n - k)) z ++ List.replicate (n - (k + min k (n - k))) Z0, ((k + min k (n - k) : Nat) : Int)), n - (k + min k (n - k)), ?_, by omega, k + min k (n - k), by omega, by omega, rfl⟩
   unfold f151_l2 f151_l2_j3
   try dsimp only []
   rw [hl, bct (dt (by omega)), chk_ok (by rw [dt (by omega), dt (by omega), dt (by omega)]; rfl), bs, chk_ok (by rw [dt (by omega), dt (by omega), dt (by omega)]; rfl), bs]
   have hp : part? (List.replicate k z ++ List.replicate (n - k) Z0) 0 ((k : Int).toNat - (0 : Int).toNat) = some (((List.replicate k z ++ List.replicate (n - k) Z0).drop 0).take k) := by
    unfold part?
    rw [if_pos (by rw [hl]; simp; omega)]; simp
   rw [hp, bs, chk_ok (dt (by rw [Int.toNat_natCast, Int.toNat_natCast]; omega)), bs, bs, Int.toNat_natCast, Int.toNat_natCast, grow_step z n k hk1 hk]
   have e : (List.take k (List.drop 0 (List.replicate k z ++ List.replicate (n - k) Z0))).length = k := by simp
   have e2 : (List.replicate (k + min k (n - k)) z ++ List.replicate (n - (k + min k (n - k))) Z0).length = n := by simp; omega
   rw [e, e2, Int.toNat_natCast, i64w _ (by omega)]
   refine congrArg some (congrArg Sum.inl (Prod.ext rfl ?_))
   show (k : Int) + ((min k (n - k) : Nat) : Int) = ((k + min k (n - k) : Nat) : Int)
   omega
  ·have : k = n := by omega
   subst this
   refine .inr ⟨List.replicate k z, ?_, rfl⟩
   unfold f151_l2
   try dsimp only []
   rw [hl, bcf (df (by omega))]
   simp) (n := n - 1) (x := (List.replicate 1 z ++ List.replicate (n - 1) Z0, ((1 : Nat) : Int))) ⟨1, by omega, by omega, rfl⟩
 have e1 : (((min [z].length (List.replicate 1 z ++ List.replicate (n - 1) Z0).length : Nat)) : Int) = ((1 : Nat) : Int) := by
  rw [List.length_append, List.length_replicate, List.length_replicate]; show ((min 1 (1 + (n - 1)) : Nat) : Int) = _; omega
 rw [e1, hr, bs, hp]
theorem rep_mkL (n : Nat) (z : GCell) : List.replicate n z = mkL n (fun _ => z) := by
 unfold mkL; rw [List.map_const']; simp
theorem blanks_ok (w h : Nat) (p : GPen) (h1 : 1 ≤ w ∧ w ≤ 160) (h2 : 1 ≤ h ∧ h ≤ 60) : f90 (w : Int) (h : Int) p = some ((w : Int), (h : Int), mkL (w * h) (fun _ => blank p)) := by
 have h9 := size_le w h h1.2 h2.2
 have h3 := Nat.mul_le_mul h1.1 h2.1
 unfold f90
 rw [show f152 p = some (blank p) from rfl, bs, wrW2 w h h1.2 h2.2, repeat_ok (blank p) (w * h) (by omega) (by omega), bs, rep_mkL]
theorem gcode_ok (W H : Nat) (c : List GCell) (h1 : 1 ≤ W ∧ W ≤ 160) (h2 : 1 ≤ H ∧ H ≤ 60) (hc : c.length = W * H) (hr : Rt W H c) : gcode ⟨W, H, c⟩ = 0 := by
 unfold gcode
 try dsimp only []
 rw [if_pos (by omega), if_pos (by rw [hc]; exact Int.natCast_mul W H), Int.toNat_natCast, Int.toNat_natCast, if_pos hr]
theorem div_iff (j n W : Nat) (hW : 0 < W) : j / W = n ↔ n * W ≤ j ∧ j < n * W + W := by
 have h1 := Nat.div_add_mod j W
 have h2 := Nat.mod_lt j hW
 constructor
 ·intro h; subst h; rw [Nat.mul_comm]; omega
 ·rintro ⟨ha, hb⟩
  exact Nat.div_eq_of_lt_le ha (by rw [Nat.succ_mul]; exact hb)
theorem mod_of (j n W : Nat) (hW : 0 < W) (h : j / W = n) : j - n * W = j % W := by
 have h1 := Nat.div_add_mod j W
 subst h; rw [Nat.mul_comm]; omega
theorem row_mk (W H : Nat) (c : List GCell) (n : Nat) (hc : c.length = W * H) (hn : n < H) : rowL W c n = mkL W (rowF W c n) :=
 cx_ext _ _ (by rw [rowL_len W H c n hc hn, mkL_len]) fun i hi => by
  rw [rowL_len W H c n hc hn] at hi
  rw [rowL_cx W H c n i hc hn hi, mkL_cx _ _ _ hi]
def mvR (W : Nat) (c : List GCell) (t m : Nat) (n : Int) (p : GPen) (i k : Nat) : GCell := if 0 ≤ (i : Int) + n ∧ (i : Int) + n < m then rowF W c (t + ((i : Int) + n).toNat) k else blank p
theorem mvrows_ok (W H : Nat) (c c2 : List GCell) (t m : Nat) (n a4 : Int) (p : GPen) (hc : c.length = W * H) (hW1 : 1 ≤ W) (hW : W ≤ 160) (hH : H ≤ 60) (htm : t + m ≤ H) (hn : -100000 ≤ n ∧ n ≤ 100000) :
  f314 (-n) ((List.range m).map fun r => rowL W c (t + r)) (W : Int) a4 p c2 = some ((W : Int), a4, c2, p, (List.range m).map (fun r => rowL W c (t + r)), (List.range m).map (fun r => mkL W (mvR W c t m n p r))) := by
 unfold f314
 have hlen : ((List.range m).map fun r => rowL W c (t + r)).length = m := by simp
 have hlp := loop_to (body := f314_l0 (-n) ((List.range m).map fun r => rowL W c (t + r)) (W : Int) a4 p c2) (fun i => ((List.range i).map (fun r => mkL W (mvR W c t m n p r)), (i : Int))) ((List.range m).map (fun r => mkL W (mvR W c t m n p r))) m ?_ 0 (by omega) ?_
 ·have hlp' : loopO (f314_l0 (-n) ((List.range m).map fun r => rowL W c (t + r)) (W : Int) a4 p c2) ([], 0) = _ := hlp
  rw [hlp', bs]
 ·unfold f314_l0 f314_l0_j1
  try dsimp only []
  rw [hlen, bcf (df (by omega)), cf]
 ·intro i _ hi
  unfold f314_l0 f314_l0_j1 f314_l0_j2 f314_l0_j3
  try dsimp only []
  have hbl : f315 (W : Int) a4 p [] = some (mkL W (fun _ => blank p)) := by
   unfold f315
   have := blanks_ok W 1 p ⟨hW1, hW⟩ (by omega)
   rw [Nat.mul_one] at this
   rw [show (1 : Int) = ((1 : Nat) : Int) from rfl, this, bs]
  rw [hlen, bct (dt (by omega)), ct, i64w ((i : Int) - -n) (by omega), wr1 i (by omega), hbl, bs]
  have hap : ∀ x, x = mkL W (mvR W c t m n p i) → app? 24 ((List.range i).map (fun r => mkL W (mvR W c t m n p r))) [x] = some ((List.range (i + 1)).map (fun r => mkL W (mvR W c t m n p r))) := fun x hx => by
   rw [app_row 24 _ _ (by simp; omega), hx, List.range_succ, List.map_append]; rfl
  have e : (i : Int) - -n = (i : Int) + n := by omega
  rw [e]
  by_cases h1 : 0 ≤ (i : Int) + n
  ·rw [bct (dt h1)]
   by_cases h2 : (i : Int) + n < m
   ·obtain ⟨k, hk⟩ := Int.eq_ofNat_of_zero_le h1
    rw [bct (dt h2), hk, inR_nat k m (by omega), bs]
    have hg : ((List.range m).map fun r => rowL W c (t + r))[k]? = some (rowL W c (t + k)) := by
     have : k < m := by omega
     simp [this]
    rw [hg, bs, hap, bs]
    rw [row_mk W H c (t + k) hc (by omega)]
    refine mkL_congr fun j hj => ?_
    unfold mvR
    rw [if_pos ⟨h1, h2⟩, hk, Int.toNat_natCast]
   ·rw [bcf (df h2), hap, bs]
    refine mkL_congr fun j hj => ?_
    unfold mvR
    rw [if_neg (fun q => h2 q.2)]
  ·rw [bcf (df h1), hap, bs]
   refine mkL_congr fun j hj => ?_
   unfold mvR
   rw [if_neg (fun q => h1 q.1)]
def scrollC (W : Nat) (c : List GCell) (t m : Nat) (n : Int) (p : GPen) : List GCell := mkL c.length (fun j => if t ≤ j / W ∧ j / W < t + m then mvR W c t m n p (j / W - t) (j % W) else cx c j)
theorem scrollin_ok (W H t b : Nat) (n : Int) (p : GPen) (c : List GCell) (hc : c.length = W * H) (hW1 : 1 ≤ W) (hW : W ≤ 160) (hH : H ≤ 60) (htb : t ≤ b) (hb : b ≤ H) (hn : -100000 ≤ n ∧ n ≤ 100000) :
  f301 (W : Int) (H : Int) (t : Int) (b : Int) n p c = some (scrollC W c t (b - t) n p) := by
 have h9 := size_le W H hW hH
 unfold f301
 have hl1 := loop_to (body := f301_l4 W H t b n p c) (fun i => (c, (List.range (i - t)).map (fun r => rowL W c (t + r)), (i : Int))) (c, (List.range (b - t)).map (fun r => rowL W c (t + r))) b ?_ t htb ?_
 ·have hl1' : loopO (f301_l4 W H t b n p c) (c, [], (t : Int)) = some (c, (List.range (b - t)).map (fun r => rowL W c (t + r))) := by
   have := hl1
   rw [Nat.sub_self] at this
   exact this
  rw [hl1', bs]
  unfold f301_j0
  try dsimp only []
  have hw : IntKind.i64.wrap (0 - n) = -n := by rw [i64w _ (by omega)]; omega
  rw [hw, mvrows_ok W H c c t (b - t) n _ p hc hW1 hW hH (by omega) hn, bs]
  try dsimp only []
  rw [chk_len _ _ rfl, bs, chk_len _ _ rfl, bs]
  have hlen : ((List.range (b - t)).map (fun r => mkL W (mvR W c t (b - t) n p r))).length = b - t := by simp
  rw [hlen]
  have hl2 := loop_to (body := f301_l1 W H t b n p c) (fun i => (mkL c.length (fun j => if t ≤ j / W ∧ j / W < t + i then mvR W c t (b - t) n p (j / W - t) (j % W) else cx c j), (W : Int), (H : Int), (List.range (b - t)).map (fun r => mkL W (mvR W c t (b - t) n p r)), ((b - t : Nat) : Int), (i : Int))) (scrollC W c t (b - t) n p) (b - t) ?_ 0 (by omega) ?_
  ·try dsimp only [] at hl2
   rw [mkL_self c _ (fun j hj => if_neg (by omega))] at hl2
   rw [show ((0 : Nat) : Int) = 0 from rfl] at hl2
   rw [hl2, bs]
  ·unfold f301_l1 f301_l1_j2
   try dsimp only []
   rw [bcf (df (by omega)), cf]
   rfl
  ·intro i _ hi
   have hm := mul_le (t + i) H W (by omega)
   rw [Nat.succ_mul] at hm
   unfold f301_l1 f301_l1_j2 f301_l1_j3
   try dsimp only []
   have hg : ((List.range (b - t)).map fun r => mkL W (mvR W c t (b - t) n p r))[i]? = some (mkL W (mvR W c t (b - t) n p i)) := by simp [hi]
   rw [bct (dt (by omega)), ct, hlen, inR_nat i _ hi, bs, hg, bs, i64w ((t : Int) + (i : Int)) (by omega), show (t : Int) + (i : Int) = ((t + i : Nat) : Int) by omega, rowv_ok W H (t + i) _ (by rw [mkL_len]; exact hc) (by omega) hW hH, bs]
   try dsimp only []
   rw [chk_len _ _ rfl, bs, chk_ok (dt (by rw [mkL_len]; omega)), bs, bs, mkL_cpy _ _ _ _ _ (by omega), mkL_len, Nat.min_self, wr1 i (by omega)]
   refine congrArg some (congrArg Sum.inl (Prod.ext (mkL_congr fun j hj => ?_) rfl))
   have hd := div_iff j (t + i) W hW1
   by_cases hj1 : j / W = t + i
   ·rw [if_pos (hd.1 hj1), if_pos (by omega), mkL_cx _ _ _ (by have := hd.1 hj1; omega), mod_of j (t + i) W hW1 hj1, hj1, Nat.add_sub_cancel_left]
   ·rw [if_neg (fun q => hj1 (hd.2 q))]
    by_cases hj2 : t ≤ j / W ∧ j / W < t + i
    ·rw [if_pos hj2, if_pos (by omega)]
    ·rw [if_neg hj2, if_neg (by omega)]
 ·unfold f301_l4
  try dsimp only []
  rw [bcf (df (by omega))]
 ·intro i hi1 hi
  have hm := mul_le i H W (by omega)
  rw [Nat.succ_mul] at hm
  unfold f301_l4 f301_l4_j5
  try dsimp only []
  have hrow : mkL W (fun k => cx c (i * W + k)) = rowL W c i := (row_mk W H c i hc (by omega)).symm
  rw [bct (dt (by omega)), rowv_ok W H i c hc (by omega) hW hH, bs]
  try dsimp only []
  rw [chk_len _ _ rfl, bs, part_nat c _ _ (by omega), bs, cloneR _ (by rw [mkL_len]; omega), bs, app_row 24 _ _ (by simp; omega), bs, wr1 i (by omega), hrow]
  refine congrArg some (congrArg Sum.inl (Prod.ext rfl (Prod.ext ?_ rfl)))
  try dsimp only []
  rw [show i + 1 - t = (i - t) + 1 by omega, List.range_succ, List.map_append, List.map_singleton, show t + (i - t) = i by omega]
def cellB (c : GCell) : Bool := pcB c.Pen && (decide (c.Rune = 0) || !decide (wd c.Rune = 0))
theorem blank_cell (p : GPen) (hp : pcB p = true) : cellB (blank p) = true := by
 unfold cellB; rw [show (blank p).Pen = p from rfl, hp, show (blank p).Rune = 32 from rfl, wd32]; rfl
theorem lone_blank (f : Nat → GCell) (W i : Nat) (h : (f i).Rune = 32) : loneF f W i = false := by
 unfold loneF; rw [h, if_neg (by decide), wd32]; rfl
theorem blank_row (p : GPen) (hp : pcB p = true) (W i : Nat) (f : Nat → GCell) (h : f i = blank p) : okB f W i = true := by
 have hl := lone_blank f W i (by rw [h]; rfl)
 have hc := blank_cell p hp
 unfold cellB at hc
 unfold okB
 rw [hl, h]
 rw [Bool.and_eq_true] at hc
 rw [hc.1, hc.2]; rfl
theorem within_ok (a lo hi : Int) : f98 a lo hi = some (decide (lo ≤ a) && decide (a ≤ hi)) := by
 unfold f98
 cases decide (lo ≤ a) <;> cases decide (a ≤ hi) <;> rfl
theorem known_ok (a : Int) : f99 a = some (decide (1 ≤ a) && decide (a ≤ 4)) := by
 unfold f99
 cases decide (1 ≤ a) <;> cases decide (a ≤ 4) <;> rfl
theorem pen0 (p : GPen) : decide (pcI p = 0) = pcB p := pcI0 p
def sOf (W H : Nat) (st : GStops) (g : List GCell) (r c : Int) (late : Bool) : GScreen :=
 ⟨⟨W, H, g⟩, r, c, late, 0, H, ⟨0, 0, 0⟩, 12, st, (1, 1), 0, ⟨0, 0, ⟨0, 0, 0⟩, false, (1, 1), 0⟩, ⟨W, H, mkL (W * H) (fun _ => blank P0)⟩, [], []⟩
theorem usual_ok : ∃ st, f46 = some st := by
 unfold f46
 obtain ⟨r, hr, _⟩ := loopO_ind (body := f46_l0) (fun k x => ∃ i : Nat, x.2 = 8 * ((i : Int) + 1) ∧ i ≤ 31 ∧ k = 31 - i) (fun _ => True) (by
  rintro k ⟨s, _⟩ ⟨i, rfl, hi, rfl⟩
  unfold f46_l0
  try dsimp only []
  by_cases hlt : i < 31
  ·left
   rw [bct (dt (by omega))]
   unfold f46_l0_j1
   have e : (8 * ((i : Int) + 1)) = ((8 * (i + 1) : Nat) : Int) := by omega
   have e2 : Int.tdiv ((8 * (i + 1) : Nat) : Int) 64 = ((8 * (i + 1) / 64 : Nat) : Int) := by
    rw [show (64 : Int) = ((64 : Nat) : Int) from rfl]; exact (Int.ofNat_tdiv _ _).symm
   have e3 : 0 ≤ Int.tmod ((8 * (i + 1) : Nat) : Int) 64 := Int.tmod_nonneg _ (by omega)
   rw [e, e2, i64w _ (by omega), inR_nat _ 4 (by omega), bs, chk_ok (dt e3), bs, bs, i64w _ (by omega)]
   exact ⟨_, 31 - (i + 1), rfl, by omega, i + 1, by show ((8 * (i + 1) : Nat) : Int) + 8 = 8 * (((i + 1 : Nat) : Int) + 1); omega, by omega, rfl⟩
  ·right
   rw [bcf (df (by omega))]
   exact ⟨_, rfl, trivial⟩) (n := 31) (x := (GStops.mk (fun _ => 0), 8)) ⟨0, by rfl, by omega, by omega⟩
 rw [hr, bs]
 exact ⟨_, rfl⟩
theorem cloneG (W H : Nat) (g : List GCell) (h : g.length ≤ 100000) : f45 ⟨(W : Int), (H : Int), g⟩ = some ⟨(W : Int), (H : Int), g⟩ := by
 unfold f45
 rw [cloneR _ h, bs]
theorem blanksG (W H : Nat) (p : GPen) (h1 : 1 ≤ W ∧ W ≤ 160) (h2 : 1 ≤ H ∧ H ≤ 60) : f90 (W : Int) (H : Int) p = some ⟨(W : Int), (H : Int), mkL (W * H) (fun _ => blank p)⟩ := by
 have h9 := size_le W H h1.2 h2.2
 have h3 := Nat.mul_le_mul h1.1 h2.1
 unfold f90
 rw [show f152 p = some (blank p) from rfl, bs, wrW2 W H h1.2 h2.2, repeat_ok (blank p) (W * H) (by omega) (by omega), bs, rep_mkL]
theorem blk_rt (W H : Nat) : Rt W H (mkL (W * H) (fun _ => blank P0)) := fun n hn i hi =>
 blank_row P0 (by decide) W i _ (mkL_cx _ _ _ (mul_lt n H W i hn hi))
def okN (n : GNeg) : Prop := ∀ i, i < 256 → (n.Us i).toNat ≤ 5 ∧ (n.Him i).toNat ≤ 5
theorem scan {body : Int → Option (Int ⊕ (Unit ⊕ Int))} {q : Nat → Prop} (hb : ∀ i : Nat, i < 256 → (q i ∧ body i = some (.inl ((i + 1 : Nat) : Int))) ∨ (¬ q i ∧ body i = some (.inr (.inr 4)))) (he : body 256 = some (.inr (.inl ()))) :
  ((∀ i, i < 256 → q i) ∧ loopO body 0 = some (.inl ())) ∨ (¬ (∀ i, i < 256 → q i) ∧ loopO body 0 = some (.inr 4)) := by
 obtain ⟨r, h1, h2⟩ := loopO_ind (body := body) (fun n x => ∃ i : Nat, x = (i : Int) ∧ i ≤ 256 ∧ n = 256 - i ∧ ∀ j, j < i → q j) (fun r => ((∀ i, i < 256 → q i) ∧ r = .inl ()) ∨ (¬ (∀ i, i < 256 → q i) ∧ r = .inr 4)) (by
  rintro n x ⟨i, rfl, hi, rfl, ha⟩
  by_cases h : i < 256
  ·rcases hb i h with ⟨hq, e⟩ | ⟨hq, e⟩
   ·exact .inl ⟨_, 256 - (i + 1), e, by omega, i + 1, rfl, by omega, rfl, fun j hj => by
     by_cases hji : j = i
     ·subst hji; exact hq
     ·exact ha j (by omega)⟩
   ·exact .inr ⟨_, e, .inr ⟨fun hh => hq (hh i h), rfl⟩⟩
  ·have : i = 256 := by omega
   subst this
   exact .inr ⟨_, he, .inl ⟨ha, rfl⟩⟩) (n := 256) (x := 0) ⟨0, rfl, by omega, rfl, fun j hj => by omega⟩
 rw [h1]
 rcases h2 with ⟨a, rfl⟩ | ⟨a, rfl⟩
 ·exact .inl ⟨a, rfl⟩
 ·exact .inr ⟨a, rfl⟩
theorem qknown_eq (n : Int) : f101 n = some (decide (0 ≤ n ∧ n ≤ 5)) := by
 unfold f101
 simp only [Bool.cond_decide]
 repeat' split
 all_goals first | exact congrArg some (decide_eq_true (by omega)).symm | exact congrArg some (decide_eq_false (by omega)).symm
theorem us_scan (a : GNeg) : ((∀ i, i < 256 → (a.Us i).toNat ≤ 5) ∧ loopO (f56_l1 a) 0 = some (.inl ())) ∨ (¬ (∀ i, i < 256 → (a.Us i).toNat ≤ 5) ∧ loopO (f56_l1 a) 0 = some (.inr 4)) :=
 scan (body := f56_l1 a) (q := fun i => (a.Us i).toNat ≤ 5) (fun i h => by
  unfold f56_l1 f56_l1_j2 f56_l1_j3
  rw [decide_eq_true (p := (i : Int) < 256) (by omega)]
  simp only [cond_true, inR_nat i 256 h, Option.bind_some, qknown_eq]
  by_cases hq : (a.Us i).toNat ≤ 5
  ·left
   rw [decide_eq_true (by omega), i64w _ (by omega)]
   exact ⟨hq, rfl⟩
  ·right
   rw [decide_eq_false (by omega)]
   exact ⟨hq, rfl⟩) rfl
theorem him_scan (a : GNeg) : ((∀ i, i < 256 → (a.Him i).toNat ≤ 5) ∧ loopO (f56_l5 a) 0 = some (.inl ())) ∨ (¬ (∀ i, i < 256 → (a.Him i).toNat ≤ 5) ∧ loopO (f56_l5 a) 0 = some (.inr 4)) :=
 scan (body := f56_l5 a) (q := fun i => (a.Him i).toNat ≤ 5) (fun i h => by
  unfold f56_l5 f56_l5_j6 f56_l5_j7
  rw [decide_eq_true (p := (i : Int) < 256) (by omega)]
  simp only [cond_true, inR_nat i 256 h, Option.bind_some, qknown_eq]
  by_cases hq : (a.Him i).toNat ≤ 5
  ·left
   rw [decide_eq_true (by omega), i64w _ (by omega)]
   exact ⟨hq, rfl⟩
  ·right
   rw [decide_eq_false (by omega)]
   exact ⟨hq, rfl⟩) rfl
theorem qchk_eq (a : GNeg) : (okN a ∧ f56 a = some 0) ∨ (¬ okN a ∧ f56 a = some 4) := by
 unfold f56 f56_j0
 rcases us_scan a with ⟨h1, e1⟩ | ⟨h1, e1⟩
 ·rw [e1]
  simp only [Option.bind_some, Sum.elim_inl]
  unfold f56_j4
  rcases him_scan a with ⟨h2, e2⟩ | ⟨h2, e2⟩
  ·rw [e2]; exact .inl ⟨fun i hi => ⟨h1 i hi, h2 i hi⟩, rfl⟩
  ·rw [e2]; exact .inr ⟨fun h => h2 fun i hi => (h i hi).2, rfl⟩
 ·rw [e1]; exact .inr ⟨fun h => h1 fun i hi => (h i hi).1, rfl⟩
theorem six (s : Int) (h : 0 ≤ s ∧ s ≤ 5) : s = 0 ∨ s = 1 ∨ s = 2 ∨ s = 3 ∨ s = 4 ∨ s = 5 := by omega
theorem u8_5 (z : Int) (h : 0 ≤ z ∧ z ≤ 5) : (u8 z).toNat ≤ 5 := by have := u8_u8 z; omega
end Go.Proofs.YtobkkblijfhpoaaGreatDoor.Pm
