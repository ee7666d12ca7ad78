/- scr_check gcode0 gcode_ok check_ok pen_ok pen0 width_ok putin_ok repL_len repL_cx mkL_cx mkL_len notlone loneF_congr cx_ext row_ok cloneR cloneS loop_to loop_scan within_ok known_ok past_ok eq_ok grow_ok mul_lt size_le rowL_cx rowL_len wd_0 wd_1 wd32 cells_le change_ok rune_ok1 wd_cases: what the typed functions compute, and the laws. -/
import Derived.Test.YtbokpgemkkebnaaGreatDoorDWyZ
import Derived.Test.YtbokpgemkkebnaaGreatDoorBas
namespace Go.Proofs.YtbokpgemkkebnaaGreatDoor.Pm
open Go.Proofs.YtbokpgemkkebnaaGreatDoor.Args
open Go.ChangeShapes Go.WideShapes Go.ChangeAt Go.RowKit
set_option linter.unusedVariables false
set_option linter.unusedSimpArgs false
set_option maxRecDepth 100000
theorem and_255 (x : Int) (h : 0 ≤ x ∧ x < 9223372036854775808) : bitI .and .i64 x 255 = x % 256 := by
 obtain ⟨n, rfl⟩ := Int.eq_ofNat_of_zero_le h.1
 show IntKind.i64.wrap ((BitVec.ofInt 64 (n : Int) &&& BitVec.ofInt 64 255).toNat : Int) = (n : Int) % 256
 have e1 : (BitVec.ofInt 64 (n : Int)).toNat = n := by
  rw [BitVec.ofInt_natCast, BitVec.toNat_ofNat]; omega
 have e2 : (BitVec.ofInt 64 255).toNat = 2 ^ 8 - 1 := by decide
 rw [BitVec.toNat_and, e1, e2, Nat.and_two_pow_sub_one_eq_mod, i64w _ (by omega)]
 omega
theorem inR_nat (i n : Nat) (h : i < n) : inR (i : Int) n = some i := by unfold inR; rw [if_pos (by omega)]; simp
theorem loop_to {σ ρ : Type} {body : σ → Option (σ ⊕ ρ)} (f : Nat → σ) (r : ρ) (n : Nat) (hn : body (f n) = some (.inr r)) : ∀ k, k ≤ n → (∀ i, k ≤ i → i < n → body (f i) = some (.inl (f (i + 1)))) → loopO body (f k) = some r := by
 intro k hk h
 induction hd : n - k generalizing k with
 | zero =>
  have : k = n := by omega
  subst this; exact loopO_done hn
 | succ d ih => exact loopO_next (h k (by omega) (by omega)) (ih (k + 1) (by omega) (fun i h1 h2 => h i (by omega) h2) (by omega))
theorem first_bad (P : Nat → Bool) : ∀ n, (∀ i, i < n → P i = true) ∨ ∃ k, k < n ∧ P k = false ∧ ∀ i, i < k → P i = true
 | 0 => .inl fun i h => absurd h (by omega)
 | n + 1 => by
  rcases first_bad P n with h | ⟨k, h1, h2, h3⟩
  ·cases hp : P n with
   | true => exact .inl fun i hi => by rcases Nat.lt_succ_iff_lt_or_eq.1 hi with h' | rfl; exact h i h'; exact hp
   | false => exact .inr ⟨n, by omega, hp, h⟩
  ·exact .inr ⟨k, by omega, h2, h3⟩
theorem loop_scan {σ ρ : Type} {body : σ → Option (σ ⊕ ρ)} (f : Nat → σ) (r0 r1 : ρ) (n : Nat) (P : Nat → Bool) (h1 : ∀ i, i < n → P i = true → body (f i) = some (.inl (f (i + 1)))) (h2 : ∀ i, i < n → P i = false → body (f i) = some (.inr r1))
  (h0 : body (f n) = some (.inr r0)) : loopO body (f 0) = some (if ∀ i, i < n → P i = true then r0 else r1) := by
 rcases first_bad P n with h | ⟨k, hk, hb, hg⟩
 ·rw [if_pos h]; exact loop_to f r0 n h0 0 (by omega) fun i _ hi => h1 i hi (h i hi)
 ·rw [if_neg (fun h => by rw [h k hk] at hb; cases hb)]
  exact loop_to f r1 k (h2 k hk hb) 0 (by omega) fun i _ hi => h1 i (by omega) (hg i hi)
theorem wr1 (i : Nat) (h : i < 1000000000) : IntKind.i64.wrap ((i : Int) + 1) = ((i + 1 : Nat) : Int) := by rw [i64w _ (by omega)]; omega
theorem dt {p : Prop} [Decidable p] (h : p) : decide p = true := decide_eq_true h
theorem df {p : Prop} [Decidable p] (h : ¬ p) : decide p = false := decide_eq_false h
theorem bct {α : Type} {b : Bool} {x y : α} (h : b = true) : (bif b then x else y) = x := by rw [h, ct]
theorem bcf {α : Type} {b : Bool} {x y : α} (h : b = false) : (bif b then x else y) = y := by rw [h, cf]
theorem idx_nat {α : Type} (l : List α) (i : Nat) (z : α) (h : i < l.length) : idx l (i : Int) = some (l.getD i z) := by
 unfold idx; rw [if_pos (by omega)]; simp [h]
def hit (a : Int) (x : Int × Int) : Bool := decide (x.1 ≤ a) && decide (a ≤ x.2)
theorem in_ok (a : Int) (l : List (Int × Int)) (hl : l.length ≤ 1000) : f67 a l = some (l.any (hit a)) := by
 unfold f67
 have h := loop_scan (body := f67_l0 a l) (fun i => (i : Int)) (.inl ()) (.inr true) l.length (fun i => !(hit a (l.getD i (0, 0)))) ?_ ?_ ?_
 ·rw [show ((0 : Nat) : Int) = 0 from rfl] at h
  rw [h, bs]
  by_cases hp : ∀ i, i < l.length → (!(hit a (l.getD i (0, 0)))) = true
  ·rw [if_pos hp]
   show some false = _
   have : l.any (hit a) = false := by
    rw [List.any_eq_false]
    intro x hx
    obtain ⟨i, hi, rfl⟩ := List.getElem_of_mem hx
    have := hp i hi
    simp [hi] at this
    simp [this]
   rw [this]
  ·rw [if_neg hp]
   show some true = _
   have : l.any (hit a) = true := by
    rw [List.any_eq_true]
    rcases first_bad (fun i => !(hit a (l.getD i (0, 0)))) l.length with h | ⟨k, hk, hb, _⟩
    ·exact absurd h hp
    ·refine ⟨l[k], List.getElem_mem hk, ?_⟩
     simp [hk] at hb
     exact hb
   rw [this]
 ·intro i hi hp
  unfold f67_l0 f67_l0_j1 f67_l0_j2
  simp only [hit, Bool.not_eq_true', Bool.and_eq_false_imp, decide_eq_true_eq, decide_eq_false_iff_not] at hp
  rw [bct (dt (by omega)), ct, idx_nat l i (0, 0) hi, bs]
  by_cases h1 : (l.getD i (0, 0)).1 ≤ a
  ·rw [bct (dt h1), bcf (df (hp h1)), wr1 i (by omega)]
  ·rw [bcf (df h1), wr1 i (by omega)]
 ·intro i hi hp
  unfold f67_l0 f67_l0_j1 f67_l0_j2
  simp only [hit, Bool.not_eq_false', Bool.and_eq_true, decide_eq_true_eq] at hp
  rw [bct (dt (by omega)), ct, idx_nat l i (0, 0) hi, bs, bct (dt hp.1), bct (dt hp.2)]
 ·unfold f67_l0 f67_l0_j1
  rw [bcf (df (by omega)), cf]
def noneL : List (Int × Int) := [(0, 31), (127, 159), (768, 879), (8203, 8207), (55296, 57343), (65024, 65039)]
def twoL : List (Int × Int) := [(4352, 4447), (11904, 12350), (12353, 19903), (19968, 42191), (44032, 55203), (63744, 64255), (65072, 65135), (65280, 65376), (65504, 65510), (127744, 128591), (129280, 129535), (131072, 262141)]
def wd (a : Int) : Int := if a < 0 ∨ 1114111 < a ∨ noneL.any (hit a) = true then 0 else if twoL.any (hit a) = true then 2 else 1
theorem width_ok (a : Int) : f37 a = some (wd a) := by
 unfold f37 f37_j0 wd
 rw [in_ok a _ (by decide), in_ok a _ (by decide)]
 simp only [bs]
 rw [show ([(0, 31), (127, 159), (768, 879), (8203, 8207), (55296, 57343), (65024, 65039)] : List (Int × Int)) = noneL from rfl,
  show ([(4352, 4447), (11904, 12350), (12353, 19903), (19968, 42191), (44032, 55203), (63744, 64255), (65072, 65135), (65280, 65376), (65504, 65510), (127744, 128591), (129280, 129535), (131072, 262141)] : List (Int × Int)) = twoL from rfl]
 by_cases h1 : a < 0
 ·rw [bct (dt h1), ct, if_pos (.inl h1)]
 ·rw [bcf (df h1)]
  by_cases h2 : 1114111 < a
  ·rw [bct (dt h2), ct, if_pos (.inr (.inl h2))]
  ·rw [bcf (df h2)]
   cases h3 : noneL.any (hit a) with
   | true => rw [ct, if_pos (.inr (.inr rfl))]
   | false =>
    rw [cf, if_neg (by simp [h1, h2])]
    cases h4 : twoL.any (hit a) with
    | true => rw [ct, if_pos rfl]
    | false => rw [cf, if_neg (by simp)]
theorem wd_cases (a : Int) : wd a = 0 ∨ wd a = 1 ∨ wd a = 2 := by
 unfold wd; split
 ·exact .inl rfl
 ·split
  ·exact .inr (.inr rfl)
  ·exact .inr (.inl rfl)
theorem wd0 : wd 0 = 0 := by decide
theorem wd32 : wd 32 = 1 := by decide
theorem any_f (l : List (Int × Int)) (a lo hi : Int) (h : (l.all fun x => decide (hi < x.1) || decide (x.2 < lo)) = true) (h1 : lo ≤ a) (h2 : a ≤ hi) : l.any (hit a) = false := by
 rw [List.any_eq_false]
 intro x hx
 have := List.all_eq_true.1 h x hx
 simp only [Bool.or_eq_true, decide_eq_true_eq] at this
 simp only [hit, Bool.and_eq_true, decide_eq_true_eq]; omega
theorem any_t (l : List (Int × Int)) (a lo hi : Int) (h : (l.any fun x => decide (x.1 ≤ lo) && decide (hi ≤ x.2)) = true) (h1 : lo ≤ a) (h2 : a ≤ hi) : l.any (hit a) = true := by
 obtain ⟨x, hx, hp⟩ := List.any_eq_true.1 h
 simp only [Bool.and_eq_true, decide_eq_true_eq] at hp
 rw [List.any_eq_true]
 refine ⟨x, hx, ?_⟩
 simp only [hit, Bool.and_eq_true, decide_eq_true_eq]; omega
theorem wd_0 (a lo hi : Int) (h : (noneL.any fun x => decide (x.1 ≤ lo) && decide (hi ≤ x.2)) = true) (h1 : lo ≤ a) (h2 : a ≤ hi) : 0 = wd a := by
 unfold wd; rw [if_pos (.inr (.inr (any_t _ a lo hi h h1 h2)))]
theorem wd_1 (a lo hi : Int) (h : ((noneL.all fun x => decide (hi < x.1) || decide (x.2 < lo)) && (twoL.all fun x => decide (hi < x.1) || decide (x.2 < lo))) = true) (h1 : lo ≤ a) (h2 : a ≤ hi) (h3 : 0 ≤ lo) (h4 : hi ≤ 1114111) : 1 = wd a := by
 rw [Bool.and_eq_true] at h
 unfold wd; rw [any_f _ a lo hi h.1 h1 h2, any_f _ a lo hi h.2 h1 h2, if_neg (by rintro (q | q | q); omega; omega; cases q), if_neg (by intro q; cases q)]
def colB (n : Int) : Bool := (decide (0 ≤ n) && decide (n ≤ 256)) || (decide (16777216 ≤ n) && decide (n < 33554432))
def pcB (p : GPen) : Bool := (decide (0 ≤ p.Flags) && decide (p.Flags ≤ 255)) && (colB p.Fore && colB p.Back)
def pcI (p : GPen) : Int := if pcB p = true then 0 else 4
theorem col_ok (n : Int) : f39 n = some (colB n) := by
 unfold f39 colB
 cases decide (0 ≤ n) <;> cases decide (n ≤ 256) <;> cases decide (16777216 ≤ n) <;> cases decide (n < 33554432) <;> rfl
theorem pen_ok (p : GPen) : f21 p = some (pcI p) := by
 unfold f21 pcI pcB
 rw [col_ok, col_ok]
 simp only [bs]
 by_cases h1 : p.Flags < 0
 ·rw [bct (dt h1), df (p := 0 ≤ p.Flags) (by omega)]; rfl
 ·rw [bcf (df h1), dt (p := 0 ≤ p.Flags) (by omega)]
  by_cases h2 : 255 < p.Flags
  ·rw [bct (dt h2), df (p := p.Flags ≤ 255) (by omega)]; rfl
  ·rw [bcf (df h2), dt (p := p.Flags ≤ 255) (by omega)]
   cases colB p.Fore <;> cases colB p.Back <;> rfl
def P0 : GPen := ⟨0, 0, 0⟩
def Z0 : GCell := ⟨0, P0⟩
abbrev cx (l : List GCell) (i : Nat) : GCell := l.getD i Z0
def blank (p : GPen) : GCell := ⟨32, p⟩
def peq (p q : GPen) : Bool := decide (p.Flags = q.Flags) && (decide (p.Fore = q.Fore) && (decide (p.Back = q.Back) && true))
theorem peq_iff (p q : GPen) : peq p q = true ↔ p = q := by
 obtain ⟨a, b, c⟩ := p; obtain ⟨d, e, f⟩ := q
 simp [peq]
def ceq (c d : GCell) : Bool := decide (c.Rune = d.Rune) && peq c.Pen d.Pen
theorem ceq_iff (c d : GCell) : ceq c d = true ↔ c = d := by
 obtain ⟨a, p⟩ := c; obtain ⟨b, q⟩ := d
 simp [ceq, peq_iff]
def tlF (f : Nat → GCell) (W k : Nat) : Bool := decide (k < W) && (decide ((f k).Rune = 0) && peq (f k).Pen (f (k - 1)).Pen)
def loneF (f : Nat → GCell) (W i : Nat) : Bool :=
 if (f i).Rune = 0 then (decide (i = 0) || (!decide (wd (f (i - 1)).Rune = 2) || !tlF f W i)) else (decide (wd (f i).Rune = 2) && !tlF f W (i + 1))
theorem cx_idx (l : List GCell) (i : Nat) (h : i < l.length) : idx l (i : Int) = some (cx l i) := idx_nat l i Z0 h
theorem wrm (k : Nat) (h1 : 1 ≤ k) (h : k < 1000000000) : IntKind.i64.wrap ((k : Int) - 1) = ((k - 1 : Nat) : Int) := by rw [i64w _ (by omega)]; omega
theorem tail_ok (l : List GCell) (k : Nat) (h1 : 1 ≤ k) (hk : k ≤ l.length) (hl : l.length ≤ 1000000) (r : List PD) : f68 (k : Int) l r = some (tlF (cx l) l.length k) := by
 unfold f68 tlF
 by_cases h : k < l.length
 ·rw [bct (dt (by omega)), dt h, Bool.true_and, cx_idx l k h, bs]
  by_cases h0 : (cx l k).Rune = 0
  ·rw [bct (dt h0), dt h0, Bool.true_and, bs, wrm k h1 (by omega), cx_idx l (k - 1) (by omega), bs]
   show (bif peq (cx l k).Pen (cx l (k - 1)).Pen then some true else some false) = _
   cases peq (cx l k).Pen (cx l (k - 1)).Pen <;> rfl
  ·rw [bcf (df h0), df h0, Bool.false_and]
 ·rw [bcf (df (by omega)), df h, Bool.false_and]
theorem lone_ok (l : List GCell) (i : Nat) (h : i < l.length) (hl : l.length ≤ 1000000) : f38 l (i : Int) = some (loneF (cx l) l.length i) := by
 unfold f38 f38_j0 loneF
 rw [cx_idx l i h, bs]
 by_cases h0 : (cx l i).Rune = 0
 ·rw [bct (dt h0), if_pos h0]
  by_cases hi : i = 0
  ·rw [bct (dt (by omega)), dt hi, Bool.true_or]
  ·rw [bcf (df (by omega)), df hi, Bool.false_or, wrm i (by omega) (by omega), cx_idx l (i - 1) (by omega), bs, width_ok, bs, tail_ok l i (by omega) (by omega) hl, bs]
   cases decide (wd (cx l (i - 1)).Rune = 2) <;> rfl
 ·rw [bcf (df h0), if_neg h0, bs, width_ok, bs, wr1 i (by omega), tail_ok l (i + 1) (by omega) (by omega) hl, bs]
  cases decide (wd (cx l i).Rune = 2) <;> rfl
theorem loneF_congr (f g : Nat → GCell) (W i : Nat) (hi : i < W) (h : ∀ k, k < W → f k = g k) : loneF f W i = loneF g W i := by
 unfold loneF tlF
 rw [h i hi, h (i - 1) (by omega), show i + 1 - 1 = i from rfl, h i hi]
 by_cases h1 : i + 1 < W
 ·rw [h (i + 1) h1]
 ·rw [df h1]; rfl
def okB (f : Nat → GCell) (W i : Nat) : Bool := pcB (f i).Pen && ((decide ((f i).Rune = 0) || !decide (wd (f i).Rune = 0)) && !loneF f W i)
def rowF (W : Nat) (c : List GCell) (n : Nat) : Nat → GCell := fun i => cx c (n * W + i)
def Rt (W H : Nat) (c : List GCell) : Prop := ∀ n, n < H → (∀ i, i < W → okB (rowF W c n) W i = true)
instance (W H : Nat) (c : List GCell) : Decidable (Rt W H c) := by unfold Rt; infer_instance
def rowL (W : Nat) (c : List GCell) (n : Nat) : List GCell := (c.take ((n + 1) * W)).drop (n * W)
theorem mul_le (n H W : Nat) (h : n < H) : (n + 1) * W ≤ W * H := by rw [Nat.mul_comm W H]; exact Nat.mul_le_mul_right W h
theorem mul_lt (n H W i : Nat) (h : n < H) (hi : i < W) : n * W + i < W * H := by
 have := mul_le n H W h
 rw [Nat.succ_mul] at this; omega
theorem rowL_len (W H : Nat) (c : List GCell) (n : Nat) (hc : c.length = W * H) (hn : n < H) : (rowL W c n).length = W := by
 have := mul_le n H W hn
 unfold rowL
 rw [List.length_drop, List.length_take, Nat.min_eq_left (by omega), Nat.succ_mul]; omega
theorem rowL_cx (W H : Nat) (c : List GCell) (n i : Nat) (hc : c.length = W * H) (hn : n < H) (hi : i < W) : cx (rowL W c n) i = rowF W c n i := by
 have := mul_le n H W hn
 unfold rowL rowF cx
 rw [List.getD_eq_getElem?_getD, List.getD_eq_getElem?_getD, List.getElem?_drop, List.getElem?_take, if_pos (by rw [Nat.succ_mul]; omega)]
theorem size_le (W H : Nat) (hW : W ≤ 160) (hH : H ≤ 60) : W * H ≤ 9600 := by
 have := Nat.mul_le_mul hW hH; omega
theorem wrW (W H n : Nat) (hW : W ≤ 160) (hH : H ≤ 60) (hn : n ≤ H) : IntKind.i64.wrap ((n : Int) * (W : Int)) = ((n * W : Nat) : Int) := by
 have h1 := Nat.mul_le_mul hn hW
 have h2 : n * W ≤ 9600 := by omega
 rw [show (n : Int) * (W : Int) = ((n * W : Nat) : Int) from (Int.natCast_mul n W).symm, i64w _ (by omega)]
theorem wrW2 (W H : Nat) (hW : W ≤ 160) (hH : H ≤ 60) : IntKind.i64.wrap ((W : Int) * (H : Int)) = ((W * H : Nat) : Int) := by
 have h2 := size_le W H hW hH
 rw [show (W : Int) * (H : Int) = ((W * H : Nat) : Int) from (Int.natCast_mul W H).symm, i64w _ (by omega)]
theorem sub_nat {α : Type} (xs : List α) (a b : Nat) (h1 : a ≤ b) (h2 : b ≤ xs.length) : sub? xs (a : Int) (b : Int) = some ((xs.take b).drop a) := by
 unfold sub?
 rw [if_pos (by omega)]; simp
theorem row_ok (W H : Nat) (c : List GCell) (n : Nat) (hc : c.length = W * H) (hn : n < H) (hW : W ≤ 160) (hH : H ≤ 60) : f25 ⟨W, H, c⟩ (n : Int) = some (rowL W c n) := by
 have := mul_le n H W hn
 unfold f25
 dsimp only []
 rw [wr1 n (by omega), wrW W H n hW hH (by omega), wrW W H (n + 1) hW hH (by omega), sub_nat _ _ _ (Nat.mul_le_mul_right W (by omega)) (by omega), bs]
 rfl
def gcode (g : GGrid) : Int :=
 if 1 ≤ g.Wide ∧ g.Wide ≤ 160 ∧ 1 ≤ g.High ∧ g.High ≤ 60 then (if (g.Cells.length : Int) = g.Wide * g.High then (if Rt g.Wide.toNat g.High.toNat g.Cells then 0 else 4) else 4) else 1
theorem size_ok (w h : Int) : f36 w h = some (if 1 ≤ w ∧ w ≤ 160 ∧ 1 ≤ h ∧ h ≤ 60 then 0 else 1) := by
 unfold f36
 by_cases h1 : w < 1
 ·rw [bct (dt h1), if_neg (by omega)]
 rw [bcf (df h1)]
 by_cases h2 : 160 < w
 ·rw [bct (dt h2), if_neg (by omega)]
 rw [bcf (df h2)]
 by_cases h3 : h < 1
 ·rw [bct (dt h3), if_neg (by omega)]
 rw [bcf (df h3)]
 by_cases h4 : 60 < h
 ·rw [bct (dt h4), if_neg (by omega)]
 rw [bcf (df h4), if_pos (by omega)]
theorem pcI0 (p : GPen) : decide (pcI p = 0) = pcB p := by unfold pcI; cases pcB p <;> rfl
theorem all_sum {ρ : Type} (P : Prop) [Decidable P] (a b : ρ) (c : Prop) [Decidable c] (h : P ↔ c) : (if P then a else b) = if c then a else b := by
 by_cases hp : P
 ·rw [if_pos hp, if_pos (h.1 hp)]
 ·rw [if_neg hp, if_neg (fun q => hp (h.2 q))]
theorem rowchk_ok (a1 : GGrid) (W H : Nat) (c : List GCell) (n : Nat) (z : Int) (hc : c.length = W * H) (hn : n < H) (hW : W ≤ 160) (hH : H ≤ 60) :
  loopO (f19_l2_l5 a1) (rowL W c n, z, rowL W c n, ((rowL W c n).length : Int), 0) = some (if ∀ i, i < W → okB (rowF W c n) W i = true then .inl z else .inr 4) := by
 have hl := rowL_len W H c n hc hn
 have hx : ∀ k, k < W → cx (rowL W c n) k = rowF W c n k := fun k hk => rowL_cx W H c n k hc hn hk
 generalize rowL W c n = l at hl hx ⊢
 have h := loop_scan (body := f19_l2_l5 a1) (fun i => (l, z, l, (l.length : Int), (i : Int))) (.inl z) (.inr 4) W (fun i => okB (rowF W c n) W i) ?_ ?_ ?_
 ·exact h
 ·intro i hi hp
  have hil : i < l.length := by omega
  unfold okB at hp
  simp only [Bool.and_eq_true, Bool.or_eq_true, decide_eq_true_eq, Bool.not_eq_true'] at hp
  obtain ⟨h1, h2, h3⟩ := hp
  rw [← hx i hi] at h1 h2
  rw [← loneF_congr (cx l) _ W i hi hx] at h3
  unfold f19_l2_l5 f19_l2_l5_j6 f19_l2_l5_j7
  dsimp only []
  rw [bct (dt (by omega)), ct, cx_idx l i hil, bs, pen_ok, bs, pcI0, h1, Bool.not_true, cf, width_ok, bs, lone_ok l i hil (by omega), hl, h3]
  simp only [bs, cf]
  rw [wr1 i (by omega)]
  rcases h2 with h2 | h2
  ·rw [dt h2]; rfl
  ·rw [h2]
   cases decide ((cx l i).Rune = 0) <;> rfl
 ·intro i hi hp
  have hil : i < l.length := by omega
  unfold okB at hp
  rw [← hx i hi, ← loneF_congr (cx l) _ W i hi hx] at hp
  unfold f19_l2_l5 f19_l2_l5_j6 f19_l2_l5_j7
  dsimp only []
  rw [bct (dt (by omega)), ct, cx_idx l i hil, bs, pen_ok, bs, pcI0, width_ok, bs, lone_ok l i hil (by omega), hl]
  simp only [bs]
  cases h1 : pcB (cx l i).Pen with
  | false => rfl
  | true =>
   rw [h1, Bool.true_and] at hp
   rw [Bool.not_true, cf]
   cases h2 : decide ((cx l i).Rune = 0) with
   | true =>
    rw [h2, Bool.true_or, Bool.true_and] at hp
    have h3 : loneF (cx l) W i = true := by simpa using hp
    rw [h3]; rfl
   | false =>
    rw [h2, Bool.false_or] at hp
    rw [Bool.not_false, ct]
    cases h3 : decide (wd (cx l i).Rune = 0) with
    | true => rfl
    | false =>
     rw [h3, Bool.not_false, Bool.true_and] at hp
     have h3 : loneF (cx l) W i = true := by simpa using hp
     rw [h3]; rfl
 ·unfold f19_l2_l5 f19_l2_l5_j6
  dsimp only []
  rw [bcf (df (by omega)), cf]
theorem Rt_iff (W H : Nat) (c : List GCell) : (∀ n, n < H → decide (∀ i, i < W → okB (rowF W c n) W i = true) = true) ↔ Rt W H c := by
 unfold Rt
 constructor
 ·intro h n hn; exact of_decide_eq_true (h n hn)
 ·intro h n hn; exact dt (h n hn)
theorem chk_loop (W H : Nat) (c : List GCell) (hc : c.length = W * H) (hW : W ≤ 160) (hH : H ≤ 60) :
  loopO (f19_l2 ⟨W, H, c⟩) 0 = some (if Rt W H c then .inl () else .inr 4) := by
 have h := loop_scan (body := f19_l2 ⟨W, H, c⟩) (fun i => (i : Int)) (.inl ()) (.inr 4) H (fun n => decide (∀ i, i < W → okB (rowF W c n) W i = true)) ?_ ?_ ?_
 ·rw [all_sum _ _ _ _ (Rt_iff W H c)] at h; exact h
 ·intro n hn hp
  unfold f19_l2 f19_l2_j3 f19_l2_j4
  rw [bct (dt (by show (n : Int) < (H : Int); omega)), ct, row_ok W H c n hc hn hW hH, bs, rowchk_ok _ W H c n n hc hn hW hH, bs, if_pos (of_decide_eq_true hp)]
  simp only [Sum.elim_inl]
  rw [wr1 n (by omega)]
 ·intro n hn hp
  unfold f19_l2 f19_l2_j3 f19_l2_j4
  rw [bct (dt (by show (n : Int) < (H : Int); omega)), ct, row_ok W H c n hc hn hW hH, bs, rowchk_ok _ W H c n n hc hn hW hH, bs, if_neg (of_decide_eq_false hp)]
  rfl
 ·unfold f19_l2 f19_l2_j3
  rw [bcf (df (by show ¬ (H : Int) < (H : Int); omega)), cf]
theorem check_ok (g : GGrid) : f19 g = some (gcode g) := by
 obtain ⟨w, h, c⟩ := g
 unfold f19 f19_j0 f19_j1 gcode
 rw [size_ok, bs]
 dsimp only []
 by_cases hs : 1 ≤ w ∧ w ≤ 160 ∧ 1 ≤ h ∧ h ≤ 60
 ·rw [if_pos hs, if_pos hs, bcf (by rfl)]
  obtain ⟨W, rfl⟩ := Int.eq_ofNat_of_zero_le (show 0 ≤ w by omega)
  obtain ⟨H, rfl⟩ := Int.eq_ofNat_of_zero_le (show 0 ≤ h by omega)
  rw [wrW2 W H (by omega) (by omega)]
  by_cases hc : c.length = W * H
  ·rw [if_pos (by rw [hc]; exact Int.natCast_mul W H), bcf (by rw [dt (by omega)]; rfl), chk_loop W H c hc (by omega) (by omega), bs, Int.toNat_natCast, Int.toNat_natCast]
   by_cases hr : Rt W H c
   ·rw [if_pos hr, if_pos hr]; rfl
   ·rw [if_neg hr, if_neg hr]; rfl
  ·rw [if_neg (by rw [← Int.natCast_mul]; omega), bct (by rw [df (by omega)]; rfl)]
 ·rw [if_neg hs, if_neg hs, bct (by rfl)]
theorem app_row {α : Type} (b : Nat) (xs ys : List α) (h : (xs.length + ys.length) * b ≤ 1000000000) : app? b xs ys = some (xs ++ ys) := app_ok b xs ys (by omega)
theorem cloneR (l : List GCell) (hl : l.length ≤ 100000) : f24 l = some l := by
 unfold f24; rw [app_row 32 [] l (by simp; omega), bs]; rfl
def mkL (n : Nat) (f : Nat → GCell) : List GCell := (List.range n).map f
theorem mkL_len (n : Nat) (f : Nat → GCell) : (mkL n f).length = n := by unfold mkL; simp
theorem mkL_get (n : Nat) (f : Nat → GCell) (i : Nat) (h : i < n) : (mkL n f)[i]? = some (f i) := by unfold mkL; simp [h]
theorem mkL_cx (n : Nat) (f : Nat → GCell) (i : Nat) (h : i < n) : cx (mkL n f) i = f i := by unfold cx; rw [List.getD_eq_getElem?_getD, mkL_get n f i h]; rfl
theorem cx_get (l : List GCell) (i : Nat) (h : i < l.length) : l[i]? = some (cx l i) := by unfold cx; simp [h]
theorem cx_ext (l m : List GCell) (h : l.length = m.length) (hx : ∀ i, i < l.length → cx l i = cx m i) : l = m := by
 refine List.ext_getElem? fun i => ?_
 by_cases hi : i < l.length
 ·rw [cx_get l i hi, cx_get m i (by omega), hx i hi]
 ·rw [List.getElem?_eq_none (by omega), List.getElem?_eq_none (by omega)]
theorem mkL_congr {n : Nat} {f g : Nat → GCell} (h : ∀ i, i < n → f i = g i) : mkL n f = mkL n g := by
 unfold mkL
 exact List.map_congr_left fun i hi => h i (List.mem_range.1 hi)
theorem mkL_self (l : List GCell) (f : Nat → GCell) (h : ∀ i, i < l.length → f i = cx l i) : mkL l.length f = l :=
 cx_ext _ _ (mkL_len _ _) fun i hi => by rw [mkL_len] at hi; rw [mkL_cx _ _ _ hi, h i hi]
theorem mkL_set (n : Nat) (f : Nat → GCell) (k : Nat) (x : GCell) : (mkL n f).set k x = mkL n (fun j => if j = k then x else f j) := by
 refine List.ext_getElem? fun i => ?_
 by_cases hi : i < n
 ·rw [mkL_get n _ i hi, List.getElem?_set, mkL_len, mkL_get n f i hi]
  by_cases h : k = i
  ·subst h; rw [if_pos rfl, if_pos hi, if_pos rfl]
  ·rw [if_neg h, if_neg (fun q => h q.symm)]
 ·rw [List.getElem?_eq_none (by rw [List.length_set, mkL_len]; omega), List.getElem?_eq_none (by rw [mkL_len]; omega)]
theorem part_nat (c : List GCell) (o m : Nat) (h : o + m ≤ c.length) : part? c o m = some (mkL m (fun i => cx c (o + i))) := by
 unfold part?
 rw [if_pos h]
 refine congrArg some (cx_ext _ _ (by rw [mkL_len, List.length_take, List.length_drop]; omega) fun i hi => ?_)
 rw [List.length_take, List.length_drop] at hi
 rw [mkL_cx _ _ _ (by omega)]
 unfold cx
 rw [List.getD_eq_getElem?_getD, List.getD_eq_getElem?_getD, List.getElem?_take, if_pos (by omega), List.getElem?_drop]
def repF (f : Nat → GCell) (W i : Nat) : GCell := if loneF f W i = true then blank (f i).Pen else f i
def repL (c : List GCell) (o W : Nat) : List GCell := mkL c.length (fun j => if o ≤ j ∧ j < o + W then repF (fun i => cx c (o + i)) W (j - o) else cx c j)
theorem repL_len (c : List GCell) (o W : Nat) : (repL c o W).length = c.length := mkL_len _ _
theorem repL_cx (c : List GCell) (o W j : Nat) (h : j < c.length) : cx (repL c o W) j = if o ≤ j ∧ j < o + W then repF (fun i => cx c (o + i)) W (j - o) else cx c j := mkL_cx _ _ _ h
theorem rep_ok (c : List GCell) (o W : Nat) (h : o + W ≤ c.length) (hl : c.length ≤ 100000) : f125 o W c = some (repL c o W) := by
 unfold f125
 rw [part_nat c o W h, bs, cloneR _ (by rw [mkL_len]; omega), bs]
 have hlp := loop_to (body := f125_l0 o W c) (fun i => (mkL c.length (fun j => if o ≤ j ∧ j < o + i then repF (fun i => cx c (o + i)) W (j - o) else cx c j), mkL W (fun i => cx c (o + i)), (i : Int))) (repL c o W) W ?_ 0 (by omega) ?_
 ·try dsimp only [] at hlp
  rw [mkL_self c _ (fun j hj => if_neg (by omega))] at hlp
  rw [show ((0 : Nat) : Int) = 0 from rfl] at hlp
  rw [hlp, bs]
 ·unfold f125_l0 f125_l0_j1
  try dsimp only []
  rw [bcf (df (by omega)), cf]
  rfl
 ·intro i _ hi
  unfold f125_l0 f125_l0_j1 f125_l0_j2
  try dsimp only []
  rw [bct (dt (by omega)), ct, lone_ok _ i (by rw [mkL_len]; exact hi) (by rw [mkL_len]; omega), bs, mkL_len, loneF_congr (cx (mkL W fun i => cx c (o + i))) (fun i => cx c (o + i)) W i hi (fun k hk => mkL_cx W _ k hk), wr1 i (by omega)]
  cases hlone : loneF (fun i => cx c (o + i)) W i with
  | true =>
   rw [ct, inR_nat i W hi, bs, mkL_get W _ i hi, bs, show f75 (cx c (o + i)).Pen = some (blank (cx c (o + i)).Pen) from rfl, bs, bs, mkL_get _ _ _ (by omega), bs, bs, mkL_set]
   refine congrArg some (congrArg Sum.inl (Prod.ext (mkL_congr fun j hj => ?_) rfl))
   try dsimp only []
   by_cases hj1 : j = o + i
   ·subst hj1
    rw [if_pos rfl, if_pos (by omega), Nat.add_sub_cancel_left]
    unfold repF
    rw [if_pos hlone]
   ·rw [if_neg hj1]
    by_cases hj2 : o ≤ j ∧ j < o + i
    ·rw [if_pos hj2, if_pos (by omega)]
    ·rw [if_neg hj2, if_neg (by omega)]
  | false =>
   rw [cf]
   refine congrArg some (congrArg Sum.inl (Prod.ext (mkL_congr fun j hj => ?_) rfl))
   by_cases hj2 : o ≤ j ∧ j < o + i
   ·rw [if_pos hj2, if_pos (by omega)]
   ·rw [if_neg hj2]
    by_cases hj1 : j = o + i
    ·subst hj1
     rw [if_pos (by omega), Nat.add_sub_cancel_left]
     unfold repF
     rw [if_neg (by rw [hlone]; intro q; cases q)]
    ·rw [if_neg (by omega)]
theorem chk_len (a b : Nat) (h : a = b) : chk (decide (a = b)) = some () := chk_ok (dt h)
theorem rowv_ok (W H n : Nat) (c : List GCell) (hc : c.length = W * H) (hn : n < H) (hW : W ≤ 160) (hH : H ≤ 60) : f25v1 (W : Int) (H : Int) (n : Int) c = some (c, n * W, W) := by
 have := mul_le n H W hn
 have hm := Nat.mul_le_mul_right W (show n ≤ n + 1 by omega)
 unfold f25v1
 rw [wr1 n (by omega), wrW W H n hW hH (by omega), wrW W H (n + 1) hW hH (by omega), chk_ok, bs]
 ·simp only [Int.toNat_natCast]
  rw [Nat.succ_mul, Nat.add_sub_cancel_left]
 ·rw [dt (by omega), dt (by omega), dt (by omega)]; rfl
def putC (c : List GCell) (o col : Nat) (r : Int) (p : GPen) : List GCell := mkL c.length (fun j => if j = o + (col + 1) ∧ wd r = 2 then ⟨0, p⟩ else if j = o + col then ⟨r, p⟩ else cx c j)
theorem putin_ok (W H n col : Nat) (r : Int) (p : GPen) (c : List GCell) (hc : c.length = W * H) (hn : n < H) (hW : W ≤ 160) (hH : H ≤ 60) (hr : 0 < wd r) (hcol : (col : Int) + wd r ≤ W) :
  f89 (W : Int) (H : Int) (n : Int) (col : Int) r p c = some (repL (putC c (n * W) col r p) (n * W) W) := by
 have h9 := size_le W H hW hH
 have hm := mul_le n H W hn
 rw [Nat.succ_mul] at hm
 have hs : ∀ k x, c.set k x = mkL c.length (fun j => if j = k then x else cx c j) := fun k x => by
  conv => lhs; rw [← mkL_self c (cx c) (fun _ _ => rfl)]
  exact mkL_set _ _ _ _
 unfold f89
 rw [rowv_ok W H n c hc hn hW hH, bs, chk_len _ _ rfl, bs, inR_nat col W (by omega), bs, cx_get c _ (by show n * W + col < _; omega), bs, bs, width_ok, bs]
 try dsimp only []
 by_cases h2 : wd r = 2
 ·rw [bct (dt h2), wr1 col (by omega), inR_nat (col + 1) W (by omega), bs, hs, mkL_get _ _ _ (by omega), bs, bs, mkL_set]
  have e : mkL c.length (fun j => if j = n * W + (col + 1) then (⟨0, p⟩ : GCell) else if j = n * W + col then ⟨r, p⟩ else cx c j) = putC c (n * W) col r p := mkL_congr fun j hj => by
   by_cases hj : j = n * W + (col + 1)
   ·rw [if_pos hj, if_pos ⟨hj, h2⟩]
   ·rw [if_neg hj, if_neg (show ¬ (j = n * W + (col + 1) ∧ wd r = 2) from fun q => hj q.1)]
  rw [e, rep_ok _ _ _ (by unfold putC; rw [mkL_len]; omega) (by unfold putC; rw [mkL_len]; omega), bs, chk_len _ _ (repL_len _ _ _), bs]
 ·rw [bcf (df h2), hs]
  have e : mkL c.length (fun j => if j = n * W + col then (⟨r, p⟩ : GCell) else cx c j) = putC c (n * W) col r p := mkL_congr fun j hj => by
   rw [if_neg (show ¬ (j = n * W + (col + 1) ∧ wd r = 2) from fun q => h2 q.2)]
  rw [e, rep_ok _ _ _ (by unfold putC; rw [mkL_len]; omega) (by unfold putC; rw [mkL_len]; omega), bs, chk_len _ _ (repL_len _ _ _), bs]
theorem gcode0 (g : GGrid) (h : gcode g = 0) : ∃ W H : Nat, 1 ≤ W ∧ W ≤ 160 ∧ 1 ≤ H ∧ H ≤ 60 ∧ g = ⟨W, H, g.Cells⟩ ∧ g.Cells.length = W * H ∧ Rt W H g.Cells := by
 obtain ⟨w, hh, c⟩ := g
 unfold gcode at h
 dsimp only [] at h
 split at h
 ·rename_i hs
  split at h
  ·rename_i hc
   split at h
   ·rename_i hr
    obtain ⟨W, rfl⟩ := Int.eq_ofNat_of_zero_le (show 0 ≤ w by omega)
    obtain ⟨H, rfl⟩ := Int.eq_ofNat_of_zero_le (show 0 ≤ hh by omega)
    rw [Int.toNat_natCast, Int.toNat_natCast] at hr
    rw [← Int.natCast_mul] at hc
    exact ⟨W, H, by omega, by omega, by omega, by omega, rfl, by dsimp only []; omega, hr⟩
   ·exact absurd h (by decide)
  ·exact absurd h (by decide)
 ·exact absurd h (by decide)
theorem gcode_ok (W H : Nat) (c : List GCell) (h1 : 1 ≤ W ∧ W ≤ 160) (h2 : 1 ≤ H ∧ H ≤ 60) (hc : c.length = W * H) (hr : Rt W H c) : gcode ⟨W, H, c⟩ = 0 := by
 unfold gcode
 try dsimp only []
 rw [if_pos (by omega), if_pos (by rw [hc]; exact Int.natCast_mul W H), Int.toNat_natCast, Int.toNat_natCast, if_pos hr]
theorem notlone (f : Nat → GCell) (W i : Nat) : loneF f W i = false ↔ ((f i).Rune = 0 → i ≠ 0 ∧ wd (f (i - 1)).Rune = 2 ∧ tlF f W i = true) ∧ (wd (f i).Rune = 2 → tlF f W (i + 1) = true) := by
 unfold loneF
 by_cases h0 : (f i).Rune = 0
 ·rw [if_pos h0, h0, wd0]
  simp
 ·rw [if_neg h0]
  simp [h0]
theorem within_ok (a lo hi : Int) : f20 a lo hi = some (decide (lo ≤ a) && decide (a ≤ hi)) := by
 unfold f20
 cases decide (lo ≤ a) <;> cases decide (a ≤ hi) <;> rfl
theorem known_ok (a : Int) : f22 a = some (decide (1 ≤ a) && decide (a ≤ 4)) := by
 unfold f22
 cases decide (1 ≤ a) <;> cases decide (a ≤ 4) <;> rfl
def lineG (x : GLine) : GGrid := ⟨(x.Cells.length : Int), 1, x.Cells⟩
def L0 : GLine := ⟨[]⟩
def pastP (l : List GLine) (i : Nat) : Bool := decide (gcode (lineG (l.getD i L0)) = 0)
theorem past_ok (l : List GLine) (hl : l.length ≤ 1048576) : f23 l = some (decide ((∀ i, i < l.length → pastP l i = true) ∧ l.length ≤ 40)) := by
 unfold f23
 have h := loop_scan (body := f23_l0 l) (fun i => (i : Int)) (.inl ()) (.inr false) l.length (pastP l) ?_ ?_ ?_
 ·rw [show ((0 : Nat) : Int) = 0 from rfl] at h
  rw [h, bs]
  by_cases hp : ∀ i, i < l.length → pastP l i = true
  ·rw [if_pos hp, Sum.elim_inl]
   by_cases h4 : l.length ≤ 40
   ·rw [bct (dt (by omega)), dt ⟨hp, h4⟩]
   ·rw [bcf (df (by omega)), df (fun q => h4 q.2)]
  ·rw [if_neg hp, Sum.elim_inr, df (fun q => hp q.1)]
 ·intro i hi hp
  unfold f23_l0 f23_l0_j1 f23_l0_j2
  rw [bct (dt (by omega)), ct, idx_nat l i L0 hi, bs, check_ok, bs, wr1 i (by omega)]
  have : gcode (lineG (l.getD i L0)) = 0 := of_decide_eq_true hp
  show (bif !decide (gcode (lineG (l.getD i L0)) = 0) then _ else _) = _
  rw [dt this, Bool.not_true, cf]
 ·intro i hi hp
  unfold f23_l0 f23_l0_j1 f23_l0_j2
  rw [bct (dt (by omega)), ct, idx_nat l i L0 hi, bs, check_ok, bs]
  have : ¬ gcode (lineG (l.getD i L0)) = 0 := of_decide_eq_false hp
  show (bif !decide (gcode (lineG (l.getD i L0)) = 0) then _ else _) = _
  rw [df this, Bool.not_false, ct]
 ·unfold f23_l0 f23_l0_j1
  rw [bcf (df (by omega)), cf]
structure SF (s : GScreen) : Prop where
 g : gcode s.Grid = 0
 o : gcode s.Other = 0
 w : s.Grid.Wide = s.Other.Wide
 h : s.Grid.High = s.Other.High
 row : 0 ≤ s.Row ∧ s.Row ≤ s.Grid.High - 1
 col : 0 ≤ s.Col ∧ s.Col ≤ s.Grid.Wide - 1
 pen : pcB s.Pen = true
 spen : pcB s.Saved.Pen = true
 modes : 0 ≤ s.Modes ∧ s.Modes ≤ 2047
 pg1 : 1 ≤ s.Pages.1 ∧ s.Pages.1 ≤ 4
 sp1 : 1 ≤ s.Saved.Pages.1 ∧ s.Saved.Pages.1 ≤ 4
 pg2 : 1 ≤ s.Pages.2 ∧ s.Pages.2 ≤ 4
 sp2 : 1 ≤ s.Saved.Pages.2 ∧ s.Saved.Pages.2 ≤ 4
 sh : 0 ≤ s.Shift ∧ s.Shift ≤ 1
 ssh : 0 ≤ s.Saved.Shift ∧ s.Saved.Shift ≤ 1
 srow : 0 ≤ s.Saved.Row ∧ s.Saved.Row ≤ 59
 scol : 0 ≤ s.Saved.Col ∧ s.Saved.Col ≤ 159
 title : s.Title.length ≤ 256
 past : (∀ i, i < s.Past.length → pastP s.Past i = true) ∧ s.Past.length ≤ 40
theorem bc (b : Bool) : b = true ∨ b = false := by cases b <;> simp
theorem two_dec {p q : Prop} [Decidable p] [Decidable q] (h : (decide p && decide q) = true) : p ∧ q := by simpa using h
theorem pen0 (p : GPen) : decide (pcI p = 0) = pcB p := pcI0 p
theorem scr_check (s : GScreen) (hl : s.Past.length ≤ 1048576) : f9 s = some 4 ∨ (f9 s = some 0 ∧ SF s) := by
 unfold f9
 rw [check_ok, bs]
 by_cases g : gcode s.Grid = 0
 case neg => left; rw [bcf (df g)]; rfl
 rw [bct (dt g), check_ok, bs]
 by_cases o : gcode s.Other = 0
 case neg => left; rw [bcf (df o)]; rfl
 rw [bct (dt o)]
 by_cases w : s.Grid.Wide = s.Other.Wide
 case neg => left; rw [bcf (df w)]; rfl
 rw [bct (dt w)]
 by_cases h : s.Grid.High = s.Other.High
 case neg => left; rw [bcf (df h)]; rfl
 rw [bct (dt h)]
 obtain ⟨W, H, w1, w2, h1, h2, e, hc, hR⟩ := gcode0 s.Grid g
 have eW : s.Grid.Wide = (W : Int) := by rw [e]
 have eH : s.Grid.High = (H : Int) := by rw [e]
 unfold f9_j0
 rw [ct, within_ok, bs, i64w (s.Grid.High - 1) (by omega), i64w (s.Grid.Wide - 1) (by omega)]
 rcases bc (decide (0 ≤ s.Row) && decide (s.Row ≤ s.Grid.High - 1)) with row | row
 case inr => left; rw [bcf row]; rfl
 rw [bct row, within_ok, bs]
 rcases bc (decide (0 ≤ s.Col) && decide (s.Col ≤ s.Grid.Wide - 1)) with col | col
 case inr => left; rw [bcf col]; rfl
 rw [bct col]
 have late : ∀ P : Option Int → Prop, P (f9_j1 s true) → P (some 4) → P (bif (!s.Late) then (f9_j1 s true) else (bif (decide (s.Col = s.Grid.Wide - 1)) then (f9_j1 s true) else (f9_j1 s false))) := fun P p1 p2 => by
  cases s.Late with
  | false => exact p1
  | true =>
   show P (bif decide _ then _ else _)
   cases decide (s.Col = s.Grid.Wide - 1)
   ·exact p2
   ·exact p1
 refine late (fun x => x = some 4 ∨ (x = some 0 ∧ SF s)) ?_ (.inl rfl)
 unfold f9_j1
 rw [ct, within_ok, bs]
 rcases bc (decide (0 ≤ s.Top) && decide (s.Top ≤ IntKind.i64.wrap (s.Bottom - 1))) with top | top
 case inr => left; rw [bcf top]; rfl
 rw [bct top]
 rcases bc (decide (s.Bottom ≤ s.Grid.High)) with bot | bot
 case inr => left; rw [bcf bot]; rfl
 rw [bct bot]
 unfold f9_j2
 rw [ct, pen_ok, bs, pen0]
 rcases bc (pcB s.Pen) with pen | pen
 case inr => left; rw [bcf pen]; rfl
 rw [bct pen, pen_ok, bs, pen0]
 rcases bc (pcB s.Saved.Pen) with spen | spen
 case inr => left; rw [bcf spen]; rfl
 rw [bct spen, within_ok, bs]
 unfold f9_j3 f9_j7
 rcases bc (decide (0 ≤ s.Modes) && decide (s.Modes ≤ 2047)) with modes | modes
 case inr => left; rw [bcf modes]; rfl
 rw [bct modes, known_ok, bs]
 rcases bc (decide (1 ≤ s.Pages.1) && decide (s.Pages.1 ≤ 4)) with pg1 | pg1
 case inr => left; rw [bcf pg1]; rfl
 rw [bct pg1, known_ok, bs]
 unfold f9_j8
 rcases bc (decide (1 ≤ s.Saved.Pages.1) && decide (s.Saved.Pages.1 ≤ 4)) with sp1 | sp1
 case inr => left; rw [bcf sp1]; rfl
 rw [bct sp1, known_ok, bs]
 rcases bc (decide (1 ≤ s.Pages.2) && decide (s.Pages.2 ≤ 4)) with pg2 | pg2
 case inr => left; rw [bcf pg2]; rfl
 rw [bct pg2, known_ok, bs]
 unfold f9_j4
 rcases bc (decide (1 ≤ s.Saved.Pages.2) && decide (s.Saved.Pages.2 ≤ 4)) with sp2 | sp2
 case inr => left; rw [bcf sp2]; rfl
 rw [bct sp2, within_ok, bs]
 rcases bc (decide (0 ≤ s.Shift) && decide (s.Shift ≤ 1)) with sh | sh
 case inr => left; rw [bcf sh]; rfl
 rw [bct sh, within_ok, bs]
 unfold f9_j5
 rcases bc (decide (0 ≤ s.Saved.Shift) && decide (s.Saved.Shift ≤ 1)) with ssh | ssh
 case inr => left; rw [bcf ssh]; rfl
 rw [bct ssh, within_ok, bs]
 rcases bc (decide (0 ≤ s.Saved.Row) && decide (s.Saved.Row ≤ 59)) with srow | srow
 case inr => left; rw [bcf srow]; rfl
 rw [bct srow, within_ok, bs]
 unfold f9_j6
 rcases bc (decide (0 ≤ s.Saved.Col) && decide (s.Saved.Col ≤ 159)) with scol | scol
 case inr => left; rw [bcf scol]
 rw [bct scol]
 rcases bc (decide ((s.Title.length : Int) ≤ 256)) with title | title
 case inr => left; rw [bcf title]
 rw [bct title, past_ok s.Past hl, bs]
 by_cases past : (∀ i, i < s.Past.length → pastP s.Past i = true) ∧ s.Past.length ≤ 40
 case neg => left; rw [df past]; rfl
 right
 rw [dt past]
 have := of_decide_eq_true title
 exact ⟨rfl, ⟨g, o, w, h, two_dec row, two_dec col, pen, spen, two_dec modes, two_dec pg1, two_dec sp1, two_dec pg2, two_dec sp2, two_dec sh, two_dec ssh, two_dec srow, two_dec scol, by omega, past⟩⟩
theorem cells_le (g : GGrid) (h : gcode g = 0) : g.Cells.length ≤ 9600 := by
 obtain ⟨W, H, w1, w2, h1, h2, e, hc, hR⟩ := gcode0 g h
 have := size_le W H w2 h2
 omega
theorem cloneC (l : List GCell) (h : l.length ≤ 1048576) : f24 l = some l := by
 unfold f24
 rw [app_ok _ _ _ (by simp; omega), bs]; rfl
theorem cloneG (g : GGrid) (h : g.Cells.length ≤ 1048576) : f29 g = some g := by
 unfold f29
 rw [cloneC _ h, bs]
structure SzS (s : GScreen) : Prop where
 g : s.Grid.Cells.length ≤ 1048576
 o : s.Other.Cells.length ≤ 1048576
 p : s.Past.length ≤ 1048576
 l : ∀ x ∈ s.Past, x.Cells.length ≤ 1048576
def LL0 : GLine := ⟨[]⟩
theorem cloneS (s : GScreen) (h : SzS s) : f33 s = some s := by
 unfold f33
 rw [cloneG _ h.g, bs, cloneG _ h.o, bs]
 have hp := h.p
 have hl := loop_to (body := f33_l0 s) (fun i => (s, s.Past.take i, (i : Int))) (s, s.Past) s.Past.length ?_ 0 (by omega) ?_
 ·have hl' : loopO (f33_l0 s) ({ s with Grid := s.Grid, Other := s.Other }, [], 0) = some (s, s.Past) := hl
  rw [hl', bs]
 ·unfold f33_l0 f33_l0_j1
  try dsimp only []
  rw [bcf (df (by omega)), cf, List.take_length]
 ·intro i _ hi
  have hc : (s.Past.getD i LL0).Cells.length ≤ 1048576 := by
   have : s.Past.getD i LL0 = s.Past[i] := by simp [hi]
   rw [this]; exact h.l _ (List.getElem_mem hi)
  unfold f33_l0 f33_l0_j1 f33_l0_j2
  try dsimp only []
  rw [bct (dt (by omega)), ct, idx_nat s.Past i LL0 hi, bs, cloneC _ hc, bs, app_ok 24 _ _ (by rw [List.length_take]; simp; omega), bs, wr1 i (by omega)]
  have e : s.Past.take i ++ [GLine.mk (s.Past.getD i LL0).Cells] = s.Past.take (i + 1) := by
   rw [List.take_add_one]
   have : s.Past[i]? = some (s.Past.getD i LL0) := by simp [hi]
   rw [this]; rfl
  rw [e]
def Sm (l : List Int) : Prop := ∀ n ∈ l, 0 ≤ n ∧ n ≤ 999
theorem col_b {c : Int} (h : colB c = true) : (0 ≤ c ∧ c ≤ 256) ∨ (16777216 ≤ c ∧ c < 33554432) := by
 unfold colB at h; simpa using h
theorem paint_ok (c b : Int) (hb : b = 30 ∨ b = 40) (hc : (0 ≤ c ∧ c ≤ 256) ∨ (16777216 ≤ c ∧ c < 33554432)) : ∃ l, f49 c b = some l ∧ l.length ≤ 5 ∧ Sm l := by
 unfold f49
 by_cases h1 : c ≤ 8
 ·rw [bct (dt h1), i64w (b + c) (by omega), i64w _ (by omega)]
  refine ⟨_, rfl, by simp, fun n hn => ?_⟩
  simp only [List.mem_cons, List.not_mem_nil, or_false] at hn
  omega
 rw [bcf (df h1)]
 by_cases h2 : c ≤ 16
 ·rw [bct (dt h2), i64w (b + 60) (by omega), i64w (b + 60 + c) (by omega), i64w _ (by omega)]
  refine ⟨_, rfl, by simp, fun n hn => ?_⟩
  simp only [List.mem_cons, List.not_mem_nil, or_false] at hn
  omega
 rw [bcf (df h2)]
 by_cases h3 : c ≤ 256
 ·rw [bct (dt h3), i64w (b + 8) (by omega), i64w (c - 1) (by omega)]
  refine ⟨_, rfl, by simp, fun n hn => ?_⟩
  simp only [List.mem_cons, List.not_mem_nil, or_false] at hn
  omega
 rw [bcf (df h3)]
 unfold f49_j0
 obtain ⟨k, rfl⟩ := Int.eq_ofNat_of_zero_le (show 0 ≤ c by omega)
 have d16 : Int.fdiv (k : Int) (2 ^ 16) = ((k / 65536 : Nat) : Int) := by
  rw [Int.fdiv_eq_ediv_of_nonneg _ (by decide)]; exact (Int.natCast_ediv k 65536).symm
 have d8 : Int.fdiv (k : Int) (2 ^ 8) = ((k / 256 : Nat) : Int) := by
  rw [Int.fdiv_eq_ediv_of_nonneg _ (by decide)]; exact (Int.natCast_ediv k 256).symm
 rw [d16, d8, and_255 _ (by omega), and_255 _ (by omega), and_255 _ (by omega), i64w (b + 8) (by omega)]
 refine ⟨_, rfl, by simp, fun n hn => ?_⟩
 simp only [List.mem_cons, List.not_mem_nil, or_false] at hn
 omega
theorem sm_app {l m : List Int} (hl : Sm l) (hm : Sm m) : Sm (l ++ m) := fun n hn => by
 rcases List.mem_append.1 hn with h | h
 ·exact hl n h
 ·exact hm n h
theorem ch1 (p q r : GPen) (o : List Int) (hq : pcB q = true) (ho : o.length ≤ 1) (so : Sm o) : ∃ l e, f27_j1 p q r o = some (l, e) ∧ l.length ≤ 20 ∧ Sm l := by
 have hf : colB q.Fore = true ∧ colB q.Back = true := by
  unfold pcB at hq; rw [Bool.and_eq_true] at hq; have h2 := hq.2; rw [Bool.and_eq_true] at h2; exact h2
 unfold f27_j1
 obtain ⟨x, hx, e1, e2, e3⟩ := loopO_ind (body := f27_l4 p q) (fun k (x : GPen × List Int × Int) => ∃ i : Nat, x.2.2 = ((i + 1 : Nat) : Int) ∧ i ≤ 9 ∧ k = 9 - i ∧ x.1 = r ∧ x.2.1.length ≤ 1 + i ∧ Sm x.2.1) (fun (x : GPen × List Int) => x.1 = r ∧ x.2.length ≤ 10 ∧ Sm x.2) (by
  rintro k ⟨g, o, _⟩ ⟨i, rfl, hi, rfl, rfl, h1, h2⟩
  unfold f27_l4
  try dsimp only [] at h1 h2 ⊢
  by_cases hlt : i < 9
  ·left
   rw [bct (dt (by omega))]
   unfold f27_l4_j5 f48
   rw [inR_nat (i + 1) 10 (by omega), bs, bs]
   have hw : IntKind.i64.wrap (((i + 1 : Nat) : Int) + 1) = ((i + 1 + 1 : Nat) : Int) := wr1 (i + 1) (by omega)
   rw [hw]
   cases (!decide (bitI .andNot .i64 (bitI .and .i64 (([0, 1, 2, 4, 8, 16, 0, 32, 64, 128] : List Int).getD (i + 1) 0) q.Flags) g.Flags = 0)) with
   | true =>
    rw [ct, app_ok 8 _ _ (by simp; omega), bs]
    refine ⟨_, 9 - (i + 1), rfl, by omega, i + 1, rfl, by omega, rfl, rfl, by simp; omega, sm_app h2 fun n hn => ?_⟩
    rw [List.mem_singleton] at hn
    omega
   | false =>
    rw [cf]
    exact ⟨_, 9 - (i + 1), rfl, by omega, i + 1, rfl, by omega, rfl, rfl, by show o.length ≤ _; omega, h2⟩
  ·right
   rw [bcf (df (by omega))]
   exact ⟨_, rfl, rfl, by show o.length ≤ _; omega, h2⟩) (n := 9) (x := (r, o, 1)) ⟨0, rfl, by omega, by omega, rfl, by simpa using ho, so⟩
 rw [hx, bs]
 unfold f27_j2
 obtain ⟨a, ha, a1, a2⟩ := paint_ok q.Fore 30 (.inl rfl) (col_b hf.1)
 obtain ⟨b, hb, b1, b2⟩ := paint_ok q.Back 40 (.inr rfl) (col_b hf.2)
 have j3 : ∀ m : List Int, m.length ≤ 15 → Sm m → ∃ l e, f27_j3 p q x.1 m = some (l, e) ∧ l.length ≤ 20 ∧ Sm l := fun m m1 m2 => by
  unfold f27_j3
  cases (!decide (q.Back = x.1.Back)) with
  | true =>
   rw [ct, hb, bs, app_ok 8 _ _ (by omega), bs]
   exact ⟨_, _, rfl, by simp; omega, sm_app m2 b2⟩
  | false => rw [cf]; exact ⟨_, _, rfl, by omega, m2⟩
 cases (!decide (q.Fore = x.1.Fore)) with
 | true =>
  rw [ct, ha, bs, app_ok 8 _ _ (by omega), bs]
  exact j3 _ (by simp; omega) (sm_app e3 a2)
 | false => rw [cf]; exact j3 _ (by omega) e3
theorem change_ok (p q : GPen) : ∃ l e, f27 p q = some (l, e) ∧ l.length ≤ 20 ∧ Sm l := by
 have no : ∀ e : Int, ∃ l e', (some (([] : List Int), e)) = some (l, e') ∧ l.length ≤ 20 ∧ Sm l := fun e => ⟨_, _, rfl, by simp, fun n hn => by simp at hn⟩
 unfold f27 f27_j8
 rw [pen_ok, bs]
 by_cases hp : pcI p = 0
 case neg => rw [df hp, Bool.not_false, ct]; exact no _
 rw [dt hp, Bool.not_true, cf]
 unfold f27_j9
 rw [pen_ok, bs]
 by_cases hq : pcI q = 0
 case neg => rw [df hq, Bool.not_false, ct]; exact no _
 rw [dt hq, Bool.not_true, cf]
 have hq' : pcB q = true := by rw [← pcI0]; exact dt hq
 have h6 : ∃ l e, f27_j6 p q = some (l, e) ∧ l.length ≤ 20 ∧ Sm l := by
  unfold f27_j6
  rw [app_ok 8 _ _ (by simp), bs]
  exact ch1 p q _ _ hq' (by simp) (fun n hn => by simp at hn; omega)
 have h7 : ∃ l e, f27_j7 p q = some (l, e) ∧ l.length ≤ 20 ∧ Sm l := by
  unfold f27_j7
  exact ch1 p q _ _ hq' (by simp) (fun n hn => by simp at hn)
 unfold f27_j0
 generalize (!decide ((bitI .andNot .i64 p.Flags q.Flags) = 0)) = b1
 generalize (!decide (p.Fore = 0)) = b2
 generalize (decide (q.Fore = 0)) = b3
 generalize (!decide (p.Back = 0)) = b4
 generalize (decide (q.Back = 0)) = b5
 cases b1 <;> cases b2 <;> cases b3 <;> cases b4 <;> cases b5 <;> first | exact h6 | exact h7
theorem eq_ok (l m : List GCell) (hl : l.length ≤ 1000000) : ∃ b, f10 l m = some b ∧ (b = true ↔ l = m) := by
 unfold f10
 by_cases hn : l.length = m.length
 case neg =>
  rw [df (show ¬ (l.length : Int) = (m.length : Int) by omega), Bool.not_false, ct]
  exact ⟨_, rfl, ⟨fun h => (by cases h), fun h => absurd (congrArg List.length h) hn⟩⟩
 rw [dt (show (l.length : Int) = (m.length : Int) by omega), Bool.not_true, cf]
 unfold f10_j0
 have h := loop_scan (body := f10_l1 l m) (fun i => (i : Int)) (.inl ()) (.inr false) l.length (fun i => ceq (cx l i) (cx m i)) ?_ ?_ ?_
 ·rw [show ((0 : Nat) : Int) = 0 from rfl] at h
  rw [h, bs]
  by_cases hp : ∀ i, i < l.length → ceq (cx l i) (cx m i) = true
  ·rw [if_pos hp, Sum.elim_inl]
   exact ⟨_, rfl, ⟨fun _ => cx_ext l m hn fun i hi => (ceq_iff _ _).1 (hp i hi), fun _ => rfl⟩⟩
  ·rw [if_neg hp, Sum.elim_inr]
   exact ⟨_, rfl, ⟨fun q => (by cases q), fun q => absurd (fun i hi => (ceq_iff _ _).2 (by rw [q])) hp⟩⟩
 ·intro i hi hp
  unfold f10_l1 f10_l1_j2 f10_l1_j3
  rw [bct (dt (by omega)), ct, cx_idx l i hi, bs, cx_idx m i (by omega), bs, wr1 i (by omega)]
  show (bif !ceq (cx l i) (cx m i) then _ else _) = _
  rw [hp]; rfl
 ·intro i hi hp
  unfold f10_l1 f10_l1_j2 f10_l1_j3
  rw [bct (dt (by omega)), ct, cx_idx l i hi, bs, cx_idx m i (by omega), bs]
  show (bif !ceq (cx l i) (cx m i) then _ else _) = _
  rw [hp]; rfl
 ·unfold f10_l1 f10_l1_j2
  rw [bcf (df (by omega)), cf]

theorem grow_ok (W H : Nat) (g : GGrid) (n : Nat) (hg : g = ⟨W, H, g.Cells⟩) (hc : g.Cells.length = W * H) (hn : n < H) (hW : W ≤ 160) (hH : H ≤ 60) : f11 g (n : Int) = some (rowL W g.Cells n) := by
 have hl := rowL_len W H g.Cells n hc hn
 have e : f25 g (n : Int) = some (rowL W g.Cells n) := by
  rw [hg]; exact row_ok W H g.Cells n hc hn hW hH
 unfold f11
 rw [e, bs, cloneR _ (by omega), bs]
theorem rune_ok1 (b : UInt8) (h : b.toNat ≤ 126) : f83 1 (u8 (b.toNat : Int)) = some ((b.toNat : Int), 0) := by
 have e : u8 (b.toNat : Int) = b := by
  unfold u8
  apply UInt8.toNat.inj
  simp
  omega
 unfold f83 f120 f120_j0
 rw [known_ok, bs, e, bcf (by rfl), bcf (by decide), bcf (df (by omega)), bcf (by decide), bcf (by decide), bs]
end Go.Proofs.YtbokpgemkkebnaaGreatDoor.Pm
