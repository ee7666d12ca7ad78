/- RS.t RT sOf usual_ok blanksG blk_rt size_ok cloneG check_ok gcode_ok known_ok pen_ok pen0 mkL_len cloneS loop_to loop_scan inR_nat within_ok feed_ok read_one sm_fold jo_fl flush_l esc_eq_ init_ok fold_iv wire_flush fl_app step_iv qchk_eq six u8_5 chk_iff_ buf_ok: what the typed functions compute, and the laws. -/
import Derived.Test.YtobkkblijfhpoaaGreatDoorDTwZ
import Derived.Test.YtobkkblijfhpoaaGreatDoorBas
namespace Go.Proofs.YtobkkblijfhpoaaGreatDoor.Pm
open Go.Proofs.YtobkkblijfhpoaaGreatDoor.Args
open Go.ChangeShapes Go.WideShapes Go.ChangeAt Go.RowKit
set_option linter.unusedVariables false
set_option linter.unusedSimpArgs false
set_option maxRecDepth 100000
set_option maxHeartbeats 2000000
theorem inR_nat (i n : Nat) (h : i < n) : inR (i : Int) n = some i := by unfold inR; rw [if_pos (by omega)]; simp
theorem loop_to {σ ρ : Type} {body : σ → Option (σ ⊕ ρ)} (f : Nat → σ) (r : ρ) (n : Nat) (hn : body (f n) = some (.inr r)) : ∀ k, k ≤ n → (∀ i, k ≤ i → i < n → body (f i) = some (.inl (f (i + 1)))) → loopO body (f k) = some r := by
 intro k hk h
 induction hd : n - k generalizing k with
 | zero =>
  have : k = n := by omega
  subst this; exact loopO_done hn
 | succ d ih => exact loopO_next (h k (by omega) (by omega)) (ih (k + 1) (by omega) (fun i h1 h2 => h i (by omega) h2) (by omega))
theorem first_bad (P : Nat → Bool) : ∀ n, (∀ i, i < n → P i = true) ∨ ∃ k, k < n ∧ P k = false ∧ ∀ i, i < k → P i = true
 | 0 => .inl fun i h => absurd h (by omega)
 | n + 1 => by
  rcases first_bad P n with h | ⟨k, h1, h2, h3⟩
  ·cases hp : P n with
   | true => exact .inl fun i hi => by rcases Nat.lt_succ_iff_lt_or_eq.1 hi with h' | rfl; exact h i h'; exact hp
   | false => exact .inr ⟨n, by omega, hp, h⟩
  ·exact .inr ⟨k, by omega, h2, h3⟩
theorem loop_scan {σ ρ : Type} {body : σ → Option (σ ⊕ ρ)} (f : Nat → σ) (r0 r1 : ρ) (n : Nat) (P : Nat → Bool) (h1 : ∀ i, i < n → P i = true → body (f i) = some (.inl (f (i + 1)))) (h2 : ∀ i, i < n → P i = false → body (f i) = some (.inr r1))
  (h0 : body (f n) = some (.inr r0)) : loopO body (f 0) = some (if ∀ i, i < n → P i = true then r0 else r1) := by
 rcases first_bad P n with h | ⟨k, hk, hb, hg⟩
 ·rw [if_pos h]; exact loop_to f r0 n h0 0 (by omega) fun i _ hi => h1 i hi (h i hi)
 ·rw [if_neg (fun h => by rw [h k hk] at hb; cases hb)]
  exact loop_to f r1 k (h2 k hk hb) 0 (by omega) fun i _ hi => h1 i (by omega) (hg i hi)
theorem wr1 (i : Nat) (h : i < 1000000000) : IntKind.i64.wrap ((i : Int) + 1) = ((i + 1 : Nat) : Int) := by rw [i64w _ (by omega)]; omega
theorem dt {p : Prop} [Decidable p] (h : p) : decide p = true := decide_eq_true h
theorem df {p : Prop} [Decidable p] (h : ¬ p) : decide p = false := decide_eq_false h
theorem bct {α : Type} {b : Bool} {x y : α} (h : b = true) : (bif b then x else y) = x := by rw [h, ct]
theorem bcf {α : Type} {b : Bool} {x y : α} (h : b = false) : (bif b then x else y) = y := by rw [h, cf]
theorem idx_nat {α : Type} (l : List α) (i : Nat) (z : α) (h : i < l.length) : idx l (i : Int) = some (l.getD i z) := by
 unfold idx; rw [if_pos (by omega)]; simp [h]
def hit (a : Int) (x : Int × Int) : Bool := decide (x.1 ≤ a) && decide (a ≤ x.2)
theorem in_ok (a : Int) (l : List (Int × Int)) (hl : l.length ≤ 1000) : f194 a l = some (l.any (hit a)) := by
 unfold f194
 have h := loop_scan (body := f194_l0 a l) (fun i => (i : Int)) (.inl ()) (.inr true) l.length (fun i => !(hit a (l.getD i (0, 0)))) ?_ ?_ ?_
 ·rw [show ((0 : Nat) : Int) = 0 from rfl] at h
  rw [h, bs]
  by_cases hp : ∀ i, i < l.length → (!(hit a (l.getD i (0, 0)))) = true
  ·rw [if_pos hp]
   show some false = _
   have : l.any (hit a) = false := by
    rw [List.any_eq_false]
    intro x hx
    obtain ⟨i, hi, rfl⟩ := List.getElem_of_mem hx
    have := hp i hi
    simp [hi] at this
    simp [this]
   rw [this]
  ·rw [if_neg hp]
   show some true = _
   have : l.any (hit a) = true := by
    rw [List.any_eq_true]
    rcases first_bad (fun i => !(hit a (l.getD i (0, 0)))) l.length with h | ⟨k, hk, hb, _⟩
    ·exact absurd h hp
    ·refine ⟨l[k], List.getElem_mem hk, ?_⟩
     simp [hk] at hb
     exact hb
   rw [this]
 ·intro i hi hp
  unfold f194_l0 f194_l0_j1 f194_l0_j2
  simp only [hit, Bool.not_eq_true', Bool.and_eq_false_imp, decide_eq_true_eq, decide_eq_false_iff_not] at hp
  rw [bct (dt (by omega)), ct, idx_nat l i (0, 0) hi, bs]
  by_cases h1 : (l.getD i (0, 0)).1 ≤ a
  ·rw [bct (dt h1), bcf (df (hp h1)), wr1 i (by omega)]
  ·rw [bcf (df h1), wr1 i (by omega)]
 ·intro i hi hp
  unfold f194_l0 f194_l0_j1 f194_l0_j2
  simp only [hit, Bool.not_eq_false', Bool.and_eq_true, decide_eq_true_eq] at hp
  rw [bct (dt (by omega)), ct, idx_nat l i (0, 0) hi, bs, bct (dt hp.1), bct (dt hp.2)]
 ·unfold f194_l0 f194_l0_j1
  rw [bcf (df (by omega)), cf]
def noneL : List (Int × Int) := [(0, 31), (127, 159), (768, 879), (8203, 8207), (55296, 57343), (65024, 65039)]
def twoL : List (Int × Int) := [(4352, 4447), (11904, 12350), (12353, 19903), (19968, 42191), (44032, 55203), (63744, 64255), (65072, 65135), (65280, 65376), (65504, 65510), (127744, 128591), (129280, 129535), (131072, 262141)]
def wd (a : Int) : Int := if a < 0 ∨ 1114111 < a ∨ noneL.any (hit a) = true then 0 else if twoL.any (hit a) = true then 2 else 1
theorem width_ok (a : Int) : f146 a = some (wd a) := by
 unfold f146 f146_j0 wd
 rw [in_ok a _ (by decide), in_ok a _ (by decide)]
 simp only [bs]
 rw [show ([(0, 31), (127, 159), (768, 879), (8203, 8207), (55296, 57343), (65024, 65039)] : List (Int × Int)) = noneL from rfl,
  show ([(4352, 4447), (11904, 12350), (12353, 19903), (19968, 42191), (44032, 55203), (63744, 64255), (65072, 65135), (65280, 65376), (65504, 65510), (127744, 128591), (129280, 129535), (131072, 262141)] : List (Int × Int)) = twoL from rfl]
 by_cases h1 : a < 0
 ·rw [bct (dt h1), ct, if_pos (.inl h1)]
 ·rw [bcf (df h1)]
  by_cases h2 : 1114111 < a
  ·rw [bct (dt h2), ct, if_pos (.inr (.inl h2))]
  ·rw [bcf (df h2)]
   cases h3 : noneL.any (hit a) with
   | true => rw [ct, if_pos (.inr (.inr rfl))]
   | false =>
    rw [cf, if_neg (by simp [h1, h2])]
    cases h4 : twoL.any (hit a) with
    | true => rw [ct, if_pos rfl]
    | false => rw [cf, if_neg (by simp)]
theorem wd32 : wd 32 = 1 := by decide
def colB (n : Int) : Bool := (decide (0 ≤ n) && decide (n ≤ 256)) || (decide (16777216 ≤ n) && decide (n < 33554432))
def pcB (p : GPen) : Bool := (decide (0 ≤ p.Flags) && decide (p.Flags ≤ 255)) && (colB p.Fore && colB p.Back)
def pcI (p : GPen) : Int := if pcB p = true then 0 else 4
theorem col_ok (n : Int) : f148 n = some (colB n) := by
 unfold f148 colB
 cases decide (0 ≤ n) <;> cases decide (n ≤ 256) <;> cases decide (16777216 ≤ n) <;> cases decide (n < 33554432) <;> rfl
theorem pen_ok (p : GPen) : f84 p = some (pcI p) := by
 unfold f84 pcI pcB
 rw [col_ok, col_ok]
 simp only [bs]
 by_cases h1 : p.Flags < 0
 ·rw [bct (dt h1), df (p := 0 ≤ p.Flags) (by omega)]; rfl
 ·rw [bcf (df h1), dt (p := 0 ≤ p.Flags) (by omega)]
  by_cases h2 : 255 < p.Flags
  ·rw [bct (dt h2), df (p := p.Flags ≤ 255) (by omega)]; rfl
  ·rw [bcf (df h2), dt (p := p.Flags ≤ 255) (by omega)]
   cases colB p.Fore <;> cases colB p.Back <;> rfl
def P0 : GPen := ⟨0, 0, 0⟩
def Z0 : GCell := ⟨0, P0⟩
abbrev cx (l : List GCell) (i : Nat) : GCell := l.getD i Z0
def blank (p : GPen) : GCell := ⟨32, p⟩
def peq (p q : GPen) : Bool := decide (p.Flags = q.Flags) && (decide (p.Fore = q.Fore) && (decide (p.Back = q.Back) && true))
def tlF (f : Nat → GCell) (W k : Nat) : Bool := decide (k < W) && (decide ((f k).Rune = 0) && peq (f k).Pen (f (k - 1)).Pen)
def loneF (f : Nat → GCell) (W i : Nat) : Bool :=
 if (f i).Rune = 0 then (decide (i = 0) || (!decide (wd (f (i - 1)).Rune = 2) || !tlF f W i)) else (decide (wd (f i).Rune = 2) && !tlF f W (i + 1))
theorem cx_idx (l : List GCell) (i : Nat) (h : i < l.length) : idx l (i : Int) = some (cx l i) := idx_nat l i Z0 h
theorem wrm (k : Nat) (h1 : 1 ≤ k) (h : k < 1000000000) : IntKind.i64.wrap ((k : Int) - 1) = ((k - 1 : Nat) : Int) := by rw [i64w _ (by omega)]; omega
theorem tail_ok (l : List GCell) (k : Nat) (h1 : 1 ≤ k) (hk : k ≤ l.length) (hl : l.length ≤ 1000000) (r : List PD) : f195 (k : Int) l r = some (tlF (cx l) l.length k) := by
 unfold f195 tlF
 by_cases h : k < l.length
 ·rw [bct (dt (by omega)), dt h, Bool.true_and, cx_idx l k h, bs]
  by_cases h0 : (cx l k).Rune = 0
  ·rw [bct (dt h0), dt h0, Bool.true_and, bs, wrm k h1 (by omega), cx_idx l (k - 1) (by omega), bs]
   show (bif peq (cx l k).Pen (cx l (k - 1)).Pen then some true else some false) = _
   cases peq (cx l k).Pen (cx l (k - 1)).Pen <;> rfl
  ·rw [bcf (df h0), df h0, Bool.false_and]
 ·rw [bcf (df (by omega)), df h, Bool.false_and]
theorem lone_ok (l : List GCell) (i : Nat) (h : i < l.length) (hl : l.length ≤ 1000000) : f147 l (i : Int) = some (loneF (cx l) l.length i) := by
 unfold f147 f147_j0 loneF
 rw [cx_idx l i h, bs]
 by_cases h0 : (cx l i).Rune = 0
 ·rw [bct (dt h0), if_pos h0]
  by_cases hi : i = 0
  ·rw [bct (dt (by omega)), dt hi, Bool.true_or]
  ·rw [bcf (df (by omega)), df hi, Bool.false_or, wrm i (by omega) (by omega), cx_idx l (i - 1) (by omega), bs, width_ok, bs, tail_ok l i (by omega) (by omega) hl, bs]
   cases decide (wd (cx l (i - 1)).Rune = 2) <;> rfl
 ·rw [bcf (df h0), if_neg h0, bs, width_ok, bs, wr1 i (by omega), tail_ok l (i + 1) (by omega) (by omega) hl, bs]
  cases decide (wd (cx l i).Rune = 2) <;> rfl
theorem loneF_congr (f g : Nat → GCell) (W i : Nat) (hi : i < W) (h : ∀ k, k < W → f k = g k) : loneF f W i = loneF g W i := by
 unfold loneF tlF
 rw [h i hi, h (i - 1) (by omega), show i + 1 - 1 = i from rfl, h i hi]
 by_cases h1 : i + 1 < W
 ·rw [h (i + 1) h1]
 ·rw [df h1]; rfl
def okB (f : Nat → GCell) (W i : Nat) : Bool := pcB (f i).Pen && ((decide ((f i).Rune = 0) || !decide (wd (f i).Rune = 0)) && !loneF f W i)
def rowF (W : Nat) (c : List GCell) (n : Nat) : Nat → GCell := fun i => cx c (n * W + i)
def Rt (W H : Nat) (c : List GCell) : Prop := ∀ n, n < H → (∀ i, i < W → okB (rowF W c n) W i = true)
instance (W H : Nat) (c : List GCell) : Decidable (Rt W H c) := by unfold Rt; infer_instance
def rowL (W : Nat) (c : List GCell) (n : Nat) : List GCell := (c.take ((n + 1) * W)).drop (n * W)
theorem mul_le (n H W : Nat) (h : n < H) : (n + 1) * W ≤ W * H := by rw [Nat.mul_comm W H]; exact Nat.mul_le_mul_right W h
theorem mul_lt (n H W i : Nat) (h : n < H) (hi : i < W) : n * W + i < W * H := by
 have := mul_le n H W h
 rw [Nat.succ_mul] at this; omega
theorem rowL_len (W H : Nat) (c : List GCell) (n : Nat) (hc : c.length = W * H) (hn : n < H) : (rowL W c n).length = W := by
 have := mul_le n H W hn
 unfold rowL
 rw [List.length_drop, List.length_take, Nat.min_eq_left (by omega), Nat.succ_mul]; omega
theorem rowL_cx (W H : Nat) (c : List GCell) (n i : Nat) (hc : c.length = W * H) (hn : n < H) (hi : i < W) : cx (rowL W c n) i = rowF W c n i := by
 have := mul_le n H W hn
 unfold rowL rowF cx
 rw [List.getD_eq_getElem?_getD, List.getD_eq_getElem?_getD, List.getElem?_drop, List.getElem?_take, if_pos (by rw [Nat.succ_mul]; omega)]
theorem size_le (W H : Nat) (hW : W ≤ 160) (hH : H ≤ 60) : W * H ≤ 9600 := by
 have := Nat.mul_le_mul hW hH; omega
theorem wrW (W H n : Nat) (hW : W ≤ 160) (hH : H ≤ 60) (hn : n ≤ H) : IntKind.i64.wrap ((n : Int) * (W : Int)) = ((n * W : Nat) : Int) := by
 have h1 := Nat.mul_le_mul hn hW
 have h2 : n * W ≤ 9600 := by omega
 rw [show (n : Int) * (W : Int) = ((n * W : Nat) : Int) from (Int.natCast_mul n W).symm, i64w _ (by omega)]
theorem wrW2 (W H : Nat) (hW : W ≤ 160) (hH : H ≤ 60) : IntKind.i64.wrap ((W : Int) * (H : Int)) = ((W * H : Nat) : Int) := by
 have h2 := size_le W H hW hH
 rw [show (W : Int) * (H : Int) = ((W * H : Nat) : Int) from (Int.natCast_mul W H).symm, i64w _ (by omega)]
theorem sub_nat {α : Type} (xs : List α) (a b : Nat) (h1 : a ≤ b) (h2 : b ≤ xs.length) : sub? xs (a : Int) (b : Int) = some ((xs.take b).drop a) := by
 unfold sub?
 rw [if_pos (by omega)]; simp
theorem row_ok (W H : Nat) (c : List GCell) (n : Nat) (hc : c.length = W * H) (hn : n < H) (hW : W ≤ 160) (hH : H ≤ 60) : f38 ⟨W, H, c⟩ (n : Int) = some (rowL W c n) := by
 have := mul_le n H W hn
 unfold f38
 dsimp only []
 rw [wr1 n (by omega), wrW W H n hW hH (by omega), wrW W H (n + 1) hW hH (by omega), sub_nat _ _ _ (Nat.mul_le_mul_right W (by omega)) (by omega), bs]
 rfl
def gcode (g : GGrid) : Int :=
 if 1 ≤ g.Wide ∧ g.Wide ≤ 160 ∧ 1 ≤ g.High ∧ g.High ≤ 60 then (if (g.Cells.length : Int) = g.Wide * g.High then (if Rt g.Wide.toNat g.High.toNat g.Cells then 0 else 4) else 4) else 1
theorem size_ok (w h : Int) : f89 w h = some (if 1 ≤ w ∧ w ≤ 160 ∧ 1 ≤ h ∧ h ≤ 60 then 0 else 1) := by
 unfold f89
 by_cases h1 : w < 1
 ·rw [bct (dt h1), if_neg (by omega)]
 rw [bcf (df h1)]
 by_cases h2 : 160 < w
 ·rw [bct (dt h2), if_neg (by omega)]
 rw [bcf (df h2)]
 by_cases h3 : h < 1
 ·rw [bct (dt h3), if_neg (by omega)]
 rw [bcf (df h3)]
 by_cases h4 : 60 < h
 ·rw [bct (dt h4), if_neg (by omega)]
 rw [bcf (df h4), if_pos (by omega)]
theorem pcI0 (p : GPen) : decide (pcI p = 0) = pcB p := by unfold pcI; cases pcB p <;> rfl
theorem all_sum {ρ : Type} (P : Prop) [Decidable P] (a b : ρ) (c : Prop) [Decidable c] (h : P ↔ c) : (if P then a else b) = if c then a else b := by
 by_cases hp : P
 ·rw [if_pos hp, if_pos (h.1 hp)]
 ·rw [if_neg hp, if_neg (fun q => hp (h.2 q))]
theorem rowchk_ok (a1 : GGrid) (W H : Nat) (c : List GCell) (n : Nat) (z : Int) (hc : c.length = W * H) (hn : n < H) (hW : W ≤ 160) (hH : H ≤ 60) :
  loopO (f83_l2_l5 a1) (rowL W c n, z, rowL W c n, ((rowL W c n).length : Int), 0) = some (if ∀ i, i < W → okB (rowF W c n) W i = true then .inl z else .inr 4) := by
 have hl := rowL_len W H c n hc hn
 have hx : ∀ k, k < W → cx (rowL W c n) k = rowF W c n k := fun k hk => rowL_cx W H c n k hc hn hk
 generalize rowL W c n = l at hl hx ⊢
 have h := loop_scan (body := f83_l2_l5 a1) (fun i => (l, z, l, (l.length : Int), (i : Int))) (.inl z) (.inr 4) W (fun i => okB (rowF W c n) W i) ?_ ?_ ?_
 ·exact h
 ·intro i hi hp
  have hil : i < l.length := by omega
  unfold okB at hp
  simp only [Bool.and_eq_true, Bool.or_eq_true, decide_eq_true_eq, Bool.not_eq_true'] at hp
  obtain ⟨h1, h2, h3⟩ := hp
  rw [← hx i hi] at h1 h2
  rw [← loneF_congr (cx l) _ W i hi hx] at h3
  unfold f83_l2_l5 f83_l2_l5_j6 f83_l2_l5_j7
  dsimp only []
  rw [bct (dt (by omega)), ct, cx_idx l i hil, bs, pen_ok, bs, pcI0, h1, Bool.not_true, cf, width_ok, bs, lone_ok l i hil (by omega), hl, h3]
  simp only [bs, cf]
  rw [wr1 i (by omega)]
  rcases h2 with h2 | h2
  ·rw [dt h2]; rfl
  ·rw [h2]
   cases decide ((cx l i).Rune = 0) <;> rfl
 ·intro i hi hp
  have hil : i < l.length := by omega
  unfold okB at hp
  rw [← hx i hi, ← loneF_congr (cx l) _ W i hi hx] at hp
  unfold f83_l2_l5 f83_l2_l5_j6 f83_l2_l5_j7
  dsimp only []
  rw [bct (dt (by omega)), ct, cx_idx l i hil, bs, pen_ok, bs, pcI0, width_ok, bs, lone_ok l i hil (by omega), hl]
  simp only [bs]
  cases h1 : pcB (cx l i).Pen with
  | false => rfl
  | true =>
   rw [h1, Bool.true_and] at hp
   rw [Bool.not_true, cf]
   cases h2 : decide ((cx l i).Rune = 0) with
   | true =>
    rw [h2, Bool.true_or, Bool.true_and] at hp
    have h3 : loneF (cx l) W i = true := by simpa using hp
    rw [h3]; rfl
   | false =>
    rw [h2, Bool.false_or] at hp
    rw [Bool.not_false, ct]
    cases h3 : decide (wd (cx l i).Rune = 0) with
    | true => rfl
    | false =>
     rw [h3, Bool.not_false, Bool.true_and] at hp
     have h3 : loneF (cx l) W i = true := by simpa using hp
     rw [h3]; rfl
 ·unfold f83_l2_l5 f83_l2_l5_j6
  dsimp only []
  rw [bcf (df (by omega)), cf]
theorem Rt_iff (W H : Nat) (c : List GCell) : (∀ n, n < H → decide (∀ i, i < W → okB (rowF W c n) W i = true) = true) ↔ Rt W H c := by
 unfold Rt
 constructor
 ·intro h n hn; exact of_decide_eq_true (h n hn)
 ·intro h n hn; exact dt (h n hn)
theorem chk_loop (W H : Nat) (c : List GCell) (hc : c.length = W * H) (hW : W ≤ 160) (hH : H ≤ 60) :
  loopO (f83_l2 ⟨W, H, c⟩) 0 = some (if Rt W H c then .inl () else .inr 4) := by
 have h := loop_scan (body := f83_l2 ⟨W, H, c⟩) (fun i => (i : Int)) (.inl ()) (.inr 4) H (fun n => decide (∀ i, i < W → okB (rowF W c n) W i = true)) ?_ ?_ ?_
 ·rw [all_sum _ _ _ _ (Rt_iff W H c)] at h; exact h
 ·intro n hn hp
  unfold f83_l2 f83_l2_j3 f83_l2_j4
  rw [bct (dt (by show (n : Int) < (H : Int); omega)), ct, row_ok W H c n hc hn hW hH, bs, rowchk_ok _ W H c n n hc hn hW hH, bs, if_pos (of_decide_eq_true hp)]
  simp only [Sum.elim_inl]
  rw [wr1 n (by omega)]
 ·intro n hn hp
  unfold f83_l2 f83_l2_j3 f83_l2_j4
  rw [bct (dt (by show (n : Int) < (H : Int); omega)), ct, row_ok W H c n hc hn hW hH, bs, rowchk_ok _ W H c n n hc hn hW hH, bs, if_neg (of_decide_eq_false hp)]
  rfl
 ·unfold f83_l2 f83_l2_j3
  rw [bcf (df (by show ¬ (H : Int) < (H : Int); omega)), cf]
theorem check_ok (g : GGrid) : f83 g = some (gcode g) := by
 obtain ⟨w, h, c⟩ := g
 unfold f83 f83_j0 f83_j1 gcode
 rw [size_ok, bs]
 dsimp only []
 by_cases hs : 1 ≤ w ∧ w ≤ 160 ∧ 1 ≤ h ∧ h ≤ 60
 ·rw [if_pos hs, if_pos hs, bcf (by rfl)]
  obtain ⟨W, rfl⟩ := Int.eq_ofNat_of_zero_le (show 0 ≤ w by omega)
  obtain ⟨H, rfl⟩ := Int.eq_ofNat_of_zero_le (show 0 ≤ h by omega)
  rw [wrW2 W H (by omega) (by omega)]
  by_cases hc : c.length = W * H
  ·rw [if_pos (by rw [hc]; exact Int.natCast_mul W H), bcf (by rw [dt (by omega)]; rfl), chk_loop W H c hc (by omega) (by omega), bs, Int.toNat_natCast, Int.toNat_natCast]
   by_cases hr : Rt W H c
   ·rw [if_pos hr, if_pos hr]; rfl
   ·rw [if_neg hr, if_neg hr]; rfl
  ·rw [if_neg (by rw [← Int.natCast_mul]; omega), bct (by rw [df (by omega)]; rfl)]
 ·rw [if_neg hs, if_neg hs, bct (by rfl)]
theorem app_row {α : Type} (b : Nat) (xs ys : List α) (h : (xs.length + ys.length) * b ≤ 1000000000) : app? b xs ys = some (xs ++ ys) := app_ok b xs ys (by omega)
theorem cloneR (l : List GCell) (hl : l.length ≤ 100000) : f91 l = some l := by
 unfold f91; rw [app_row 32 [] l (by simp; omega), bs]; rfl
def mkL (n : Nat) (f : Nat → GCell) : List GCell := (List.range n).map f
theorem mkL_len (n : Nat) (f : Nat → GCell) : (mkL n f).length = n := by unfold mkL; simp
theorem mkL_get (n : Nat) (f : Nat → GCell) (i : Nat) (h : i < n) : (mkL n f)[i]? = some (f i) := by unfold mkL; simp [h]
theorem mkL_cx (n : Nat) (f : Nat → GCell) (i : Nat) (h : i < n) : cx (mkL n f) i = f i := by unfold cx; rw [List.getD_eq_getElem?_getD, mkL_get n f i h]; rfl
theorem u64n (n : Nat) (h : n ≤ 1000000) : IntKind.u64.wrap (n : Int) = n := by
 simp [IntKind.wrap, IntKind.signed, IntKind.bits]; omega
theorem and_mask (n : Nat) (h : n ≤ 1000000) : bitI .and .u64 (n : Int) 4294967295 = n := by
 have e : bitI .and .u64 (n : Int) 4294967295 = IntKind.u64.wrap (((BitVec.ofInt 64 (n : Int) &&& BitVec.ofInt 64 4294967295).toNat : Nat) : Int) := rfl
 have e2 : (BitVec.ofInt 64 (n : Int) &&& BitVec.ofInt 64 4294967295).toNat = n := by
  rw [BitVec.toNat_and, BitVec.toNat_ofInt, show (BitVec.ofInt 64 4294967295).toNat = 2 ^ 32 - 1 from rfl, Nat.and_two_pow_sub_one_eq_mod]
  have : (((n : Int) % ((2 ^ 64 : Nat) : Int)).toNat) = n := by
   rw [Int.emod_eq_of_lt (by omega) (by have : ((2 ^ 64 : Nat) : Int) = 18446744073709551616 := rfl; omega)]; simp
  rw [this]
  exact Nat.mod_eq_of_lt (by have : (2 : Nat) ^ 32 = 4294967296 := rfl; omega)
 rw [e, e2, u64n n h]
theorem fdiv0 (n : Nat) (h : n ≤ 1000000) : Int.fdiv (n : Int) (2 ^ 32) = 0 := by
 have e : (2 : Int) ^ 32 = 4294967296 := rfl
 rw [e, Int.fdiv_eq_ediv_of_nonneg _ (by omega)]
 omega
theorem mul1 (n : Nat) (h : n ≤ 1000000) : f198 (IntKind.u64.wrap 1) (IntKind.u64.wrap (n : Int)) = some (0, (n : Int)) := by
 have a1 := and_mask 1 (by omega)
 have a0 := and_mask 0 (by omega)
 have an := and_mask n h
 have d1 := fdiv0 1 (by omega)
 have d0 := fdiv0 0 (by omega)
 have dn := fdiv0 n h
 have w0 := u64n 0 (by omega)
 have w1 := u64n 1 (by omega)
 have wn := u64n n h
 simp only [Int.natCast_zero, Int.natCast_one] at a1 a0 d1 d0 w0 w1
 unfold f198 f198_j0 f236
 rw [bs, w1, wn]
 simp only [d1, d0, dn, a1, a0, an, Int.zero_mul, Int.mul_zero, Int.one_mul, Int.add_zero, Int.zero_add, w0, w1, wn]
theorem grow_step (z : GCell) (n k : Nat) (hk : 1 ≤ k) (hn : k < n) :
  cpyL (List.replicate k z ++ List.replicate (n - k) Z0) k (n - k) (((List.replicate k z ++ List.replicate (n - k) Z0).drop 0).take k) = List.replicate (k + min k (n - k)) z ++ List.replicate (n - (k + min k (n - k))) Z0 := by
 unfold cpyL
 rw [List.drop_zero, List.take_left' (by simp), List.length_replicate, List.take_replicate, List.drop_append, List.drop_replicate, List.drop_replicate, List.length_replicate, ← List.replicate_append_replicate, List.append_assoc]
 rw [show k - (k + min k (n - k)) = 0 by omega, show n - k - (k + min k (n - k) - k) = n - (k + min k (n - k)) by omega, show min (min k (n - k)) k = min k (n - k) by omega]
 simp [← List.append_assoc, List.replicate_append_replicate]
theorem repeat_ok (z : GCell) (n : Nat) (h1 : 1 ≤ n) (h : n ≤ 100000) : f151 [z] (n : Int) = some (List.replicate n z) := by
 unfold f151 f151_j0
 rw [bcf (df (by omega))]
 show ((f198 (IntKind.u64.wrap 1) (IntKind.u64.wrap (n : Int))).bind _) = _
 rw [mul1 n (by omega), bs]
 try dsimp only []
 rw [bcf (df (by omega)), bcf (df (by omega))]
 unfold f151_j1
 rw [i64w _ (by omega)]
 have hm : mk? 32 (n : Int) (n : Int) (GCell.mk 0 (GPen.mk 0 0 0)) = some (List.replicate n Z0) := by
  unfold mk?
  rw [if_pos ⟨by omega, by omega, by rw [Int.toNat_natCast]; omega⟩, Int.toNat_natCast]; rfl
 rw [hm, bs, chk_ok (dt (by omega)), bs, bs, List.length_replicate]
 have hc : cpyL (List.replicate n Z0) 0 n [z] = List.replicate 1 z ++ List.replicate (n - 1) Z0 := by
  unfold cpyL
  rw [show min [z].length n = 1 by show min 1 n = 1; omega]
  simp
 rw [hc]
 obtain ⟨r, hr, hp⟩ := loopO_ind (body := f151_l2 [z] (n : Int)) (fun m (x : List GCell × Int) => ∃ k : Nat, 1 ≤ k ∧ k + m = n ∧ x = (List.replicate k z ++ List.replicate (n - k) Z0, (k : Int))) (fun r => r = List.replicate n z) (fun m x hx => by
  obtain ⟨k, hk1, hk2, rfl⟩ := hx
  have hl : (List.replicate k z ++ List.replicate (n - k) Z0).length = n := by simp; omega
  by_cases hk : k < n
  ·refine .inl ⟨(List.replicate (k + min k (n - k)) z ++ List.replicate (n - (k + min k (n - k))) Z0, ((k + min k (n - k) : Nat) : Int)), n - (k + min k (n - k)), ?_, by omega, k + min k (n - k), by omega, by omega, rfl⟩
   unfold f151_l2 f151_l2_j3
   try dsimp only []
   rw [hl, bct (dt (by omega)), chk_ok (by rw [dt (by omega), dt (by omega), dt (by omega)]; rfl), bs, chk_ok (by rw [dt (by omega), dt (by omega), dt (by omega)]; rfl), bs]
   have hp : part? (List.replicate k z ++ List.replicate (n - k) Z0) 0 ((k : Int).toNat - (0 : Int).toNat) = some (((List.replicate k z ++ List.replicate (n - k) Z0).drop 0).take k) := by
    unfold part?
    rw [if_pos (by rw [hl]; simp; omega)]; simp
   rw [hp, bs, chk_ok (dt (by rw [Int.toNat_natCast, Int.toNat_natCast]; omega)), bs, bs, Int.toNat_natCast, Int.toNat_natCast, grow_step z n k hk1 hk]
   have e : (List.take k (List.drop 0 (List.replicate k z ++ List.replicate (n - k) Z0))).length = k := by simp
   have e2 : (List.replicate (k + min k (n - k)) z ++ List.replicate (n - (k + min k (n - k))) Z0).length = n := by simp; omega
   rw [e, e2, Int.toNat_natCast, i64w _ (by omega)]
   refine congrArg some (congrArg Sum.inl (Prod.ext rfl ?_))
   show (k : Int) + ((min k (n - k) : Nat) : Int) = ((k + min k (n - k) : Nat) : Int)
   omega
  ·have : k = n := by omega
   subst this
   refine .inr ⟨List.replicate k z, ?_, rfl⟩
   unfold f151_l2
   try dsimp only []
   rw [hl, bcf (df (by omega))]
   simp) (n := n - 1) (x := (List.replicate 1 z ++ List.replicate (n - 1) Z0, ((1 : Nat) : Int))) ⟨1, by omega, by omega, rfl⟩
 have e1 : (((min [z].length (List.replicate 1 z ++ List.replicate (n - 1) Z0).length : Nat)) : Int) = ((1 : Nat) : Int) := by
  rw [List.length_append, List.length_replicate, List.length_replicate]; show ((min 1 (1 + (n - 1)) : Nat) : Int) = _; omega
 rw [e1, hr, bs, hp]
theorem rep_mkL (n : Nat) (z : GCell) : List.replicate n z = mkL n (fun _ => z) := by
 unfold mkL; rw [List.map_const']; simp
theorem gcode_ok (W H : Nat) (c : List GCell) (h1 : 1 ≤ W ∧ W ≤ 160) (h2 : 1 ≤ H ∧ H ≤ 60) (hc : c.length = W * H) (hr : Rt W H c) : gcode ⟨W, H, c⟩ = 0 := by
 unfold gcode
 try dsimp only []
 rw [if_pos (by omega), if_pos (by rw [hc]; exact Int.natCast_mul W H), Int.toNat_natCast, Int.toNat_natCast, if_pos hr]
def cellB (c : GCell) : Bool := pcB c.Pen && (decide (c.Rune = 0) || !decide (wd c.Rune = 0))
theorem blank_cell (p : GPen) (hp : pcB p = true) : cellB (blank p) = true := by
 unfold cellB; rw [show (blank p).Pen = p from rfl, hp, show (blank p).Rune = 32 from rfl, wd32]; rfl
theorem lone_blank (f : Nat → GCell) (W i : Nat) (h : (f i).Rune = 32) : loneF f W i = false := by
 unfold loneF; rw [h, if_neg (by decide), wd32]; rfl
theorem blank_row (p : GPen) (hp : pcB p = true) (W i : Nat) (f : Nat → GCell) (h : f i = blank p) : okB f W i = true := by
 have hl := lone_blank f W i (by rw [h]; rfl)
 have hc := blank_cell p hp
 unfold cellB at hc
 unfold okB
 rw [hl, h]
 rw [Bool.and_eq_true] at hc
 rw [hc.1, hc.2]; rfl
theorem within_ok (a lo hi : Int) : f98 a lo hi = some (decide (lo ≤ a) && decide (a ≤ hi)) := by
 unfold f98
 cases decide (lo ≤ a) <;> cases decide (a ≤ hi) <;> rfl
theorem known_ok (a : Int) : f99 a = some (decide (1 ≤ a) && decide (a ≤ 4)) := by
 unfold f99
 cases decide (1 ≤ a) <;> cases decide (a ≤ 4) <;> rfl
theorem pen0 (p : GPen) : decide (pcI p = 0) = pcB p := pcI0 p
def sOf (W H : Nat) (st : GStops) (g : List GCell) (r c : Int) (late : Bool) : GScreen :=
 ⟨⟨W, H, g⟩, r, c, late, 0, H, ⟨0, 0, 0⟩, 12, st, (1, 1), 0, ⟨0, 0, ⟨0, 0, 0⟩, false, (1, 1), 0⟩, ⟨W, H, mkL (W * H) (fun _ => blank P0)⟩, [], []⟩
theorem usual_ok : ∃ st, f46 = some st := by
 unfold f46
 obtain ⟨r, hr, _⟩ := loopO_ind (body := f46_l0) (fun k x => ∃ i : Nat, x.2 = 8 * ((i : Int) + 1) ∧ i ≤ 31 ∧ k = 31 - i) (fun _ => True) (by
  rintro k ⟨s, _⟩ ⟨i, rfl, hi, rfl⟩
  unfold f46_l0
  try dsimp only []
  by_cases hlt : i < 31
  ·left
   rw [bct (dt (by omega))]
   unfold f46_l0_j1
   have e : (8 * ((i : Int) + 1)) = ((8 * (i + 1) : Nat) : Int) := by omega
   have e2 : Int.tdiv ((8 * (i + 1) : Nat) : Int) 64 = ((8 * (i + 1) / 64 : Nat) : Int) := by
    rw [show (64 : Int) = ((64 : Nat) : Int) from rfl]; exact (Int.ofNat_tdiv _ _).symm
   have e3 : 0 ≤ Int.tmod ((8 * (i + 1) : Nat) : Int) 64 := Int.tmod_nonneg _ (by omega)
   rw [e, e2, i64w _ (by omega), inR_nat _ 4 (by omega), bs, chk_ok (dt e3), bs, bs, i64w _ (by omega)]
   exact ⟨_, 31 - (i + 1), rfl, by omega, i + 1, by show ((8 * (i + 1) : Nat) : Int) + 8 = 8 * (((i + 1 : Nat) : Int) + 1); omega, by omega, rfl⟩
  ·right
   rw [bcf (df (by omega))]
   exact ⟨_, rfl, trivial⟩) (n := 31) (x := (GStops.mk (fun _ => 0), 8)) ⟨0, by rfl, by omega, by omega⟩
 rw [hr, bs]
 exact ⟨_, rfl⟩
theorem cloneG (W H : Nat) (g : List GCell) (h : g.length ≤ 100000) : f45 ⟨(W : Int), (H : Int), g⟩ = some ⟨(W : Int), (H : Int), g⟩ := by
 unfold f45
 rw [cloneR _ h, bs]
theorem blanksG (W H : Nat) (p : GPen) (h1 : 1 ≤ W ∧ W ≤ 160) (h2 : 1 ≤ H ∧ H ≤ 60) : f90 (W : Int) (H : Int) p = some ⟨(W : Int), (H : Int), mkL (W * H) (fun _ => blank p)⟩ := by
 have h9 := size_le W H h1.2 h2.2
 have h3 := Nat.mul_le_mul h1.1 h2.1
 unfold f90
 rw [show f152 p = some (blank p) from rfl, bs, wrW2 W H h1.2 h2.2, repeat_ok (blank p) (W * H) (by omega) (by omega), bs, rep_mkL]
theorem blk_rt (W H : Nat) : Rt W H (mkL (W * H) (fun _ => blank P0)) := fun n hn i hi =>
 blank_row P0 (by decide) W i _ (mkL_cx _ _ _ (mul_lt n H W i hn hi))
theorem cloneS (W H : Nat) (st : GStops) (g : List GCell) (hg : g.length = W * H) (hW : W ≤ 160) (hH : H ≤ 60) : f59 (sOf W H st g 0 0 false) = some (sOf W H st g 0 0 false) := by
 have h9 := size_le W H hW hH
 unfold f59
 have e1 : f45 (sOf W H st g 0 0 false).Grid = some (sOf W H st g 0 0 false).Grid := cloneG W H g (by omega)
 have e2 : f45 (sOf W H st g 0 0 false).Other = some (sOf W H st g 0 0 false).Other := cloneG W H _ (by rw [mkL_len]; omega)
 rw [e1, bs, e2, bs]
 have hl : loopO (f59_l0 (sOf W H st g 0 0 false)) (sOf W H st g 0 0 false, [], 0) = some (sOf W H st g 0 0 false, []) := loopO_done (by
  unfold f59_l0 f59_l0_j1
  try dsimp only []
  rw [bcf (df (by show ¬ (0 : Int) < (([] : List GLine).length : Int); simp)), cf])
 have hl' : loopO (f59_l0 (sOf W H st g 0 0 false)) ({ sOf W H st g 0 0 false with Grid := (sOf W H st g 0 0 false).Grid, Other := (sOf W H st g 0 0 false).Other }, [], 0) = _ := hl
 rw [hl', bs]; rfl
structure RS where
 mode : Int
 cmd : Int
 opt : Int
 wb : List UInt8
 over : Bool
 buf : List UInt8
 data : List UInt8
 l : List GTok
abbrev RT := Int × Int × Int × List UInt8 × Bool × List UInt8 × List UInt8 × List GTok
def RS.t (s : RS) : RT := (s.mode, s.cmd, s.opt, s.wb, s.over, s.buf, s.data, s.l)
def flushS (s : RS) : RS := if 0 < s.data.length then ⟨s.mode, s.cmd, s.opt, s.wb, s.over, s.buf, [], s.l ++ [⟨1, 0, 0, s.data⟩]⟩ else s
def tokS (t : GTok) (s : RS) : RS := ⟨s.mode, s.cmd, s.opt, s.wb, s.over, s.buf, (flushS s).data, (flushS s).l ++ [t]⟩
def subS (c : UInt8) (s : RS) : RS :=
 if s.buf.length = 4096 then ⟨s.mode, s.cmd, s.opt, s.wb, true, [], s.data, s.l⟩
 else if s.over then s else ⟨s.mode, s.cmd, s.opt, s.wb, s.over, s.buf ++ [c], s.data, s.l⟩
def endT (c : UInt8) (s : RS) : GTok := if c.toNat = 240 then (if s.over then ⟨5, 250, s.opt, []⟩ else ⟨4, 0, s.opt, s.buf⟩) else ⟨5, (c.toNat : Int), s.opt, []⟩
def endS (c : UInt8) (s : RS) : RS := ⟨0, 0, 0, [], false, [], (tokS (endT c s) s).data, (tokS (endT c s) s).l⟩
def setMode (s : RS) (m : Int) : RS := ⟨m, s.cmd, s.opt, s.wb, s.over, s.buf, s.data, s.l⟩
def addData (s : RS) (c : UInt8) : RS := ⟨s.mode, s.cmd, s.opt, s.wb, s.over, s.buf, s.data ++ [c], s.l⟩
def cmdS (c : UInt8) (s : RS) : RS :=
 if c.toNat = 255 then addData (setMode s 0) c
 else if 251 ≤ c.toNat then ⟨2, (c.toNat : Int), s.opt, s.wb, s.over, s.buf, s.data, s.l⟩
 else if c.toNat = 250 then setMode s 3
 else if 240 ≤ c.toNat then tokS ⟨2, (c.toNat : Int), 0, []⟩ (setMode s 0)
 else tokS ⟨5, (c.toNat : Int), 0, []⟩ (setMode s 0)
def stepS (s : RS) (c : UInt8) : RS :=
 if s.mode = 0 then (if c.toNat = 255 then setMode s 1 else addData s c)
 else if s.mode = 1 then cmdS c s
 else if s.mode = 2 then ⟨0, 0, s.opt, s.wb, s.over, s.buf, (tokS ⟨3, s.cmd, (c.toNat : Int), []⟩ s).data, (tokS ⟨3, s.cmd, (c.toNat : Int), []⟩ s).l⟩
 else if s.mode = 3 then ⟨4, s.cmd, (c.toNat : Int), s.wb, s.over, s.buf, s.data, s.l⟩
 else if s.mode = 4 then (if c.toNat = 255 then setMode s 5 else subS c s)
 else if c.toNat = 255 then subS c (setMode s 4) else endS c s
def small (s : RS) (n : Nat) : Prop := s.data.length ≤ n ∧ s.l.length ≤ 2 * n ∧ s.buf.length ≤ 5000
theorem flush_small (s : RS) (n : Nat) (h : small s n) (hn : n ≤ 1000000000) : f157 s.mode s.cmd s.opt s.wb s.over s.buf s.data s.l = some (flushS s).t ∧ (flushS s).data.length = 0 ∧ (flushS s).l.length ≤ s.l.length + 1 ∧ (flushS s).buf = s.buf := by
 obtain ⟨h1, h2, h3⟩ := h
 unfold f157 flushS
 by_cases hd : 0 < s.data.length
 ·rw [decide_eq_true (by omega), if_pos hd]
  simp only [cond_true]
  rw [app_ok 40 _ _ (by simp; omega)]
  exact ⟨rfl, by simp, by simp, by simp⟩
 ·rw [decide_eq_false (by omega), if_neg hd]
  exact ⟨rfl, by omega, by omega, rfl⟩
theorem tok_ok (t : GTok) (s : RS) (n : Nat) (h : small s n) (hn : n ≤ 1000000000) : f204 t s.mode s.cmd s.opt s.wb s.over s.buf s.data s.l = some (tokS t s).t ∧ small (tokS t s) (n + 1) := by
 obtain ⟨e, h1, h2, h3⟩ := flush_small s n h hn
 obtain ⟨g1, g2, g3⟩ := h
 have hm : (flushS s).mode = s.mode ∧ (flushS s).cmd = s.cmd ∧ (flushS s).opt = s.opt ∧ (flushS s).wb = s.wb ∧ (flushS s).over = s.over := by unfold flushS; split <;> exact ⟨rfl, rfl, rfl, rfl, rfl⟩
 obtain ⟨m1, m2, m3, m4, m5⟩ := hm
 unfold f204
 rw [e]
 simp only [Option.bind_some, RS.t]
 rw [app_ok 40 _ _ (by simp; omega)]
 refine ⟨?_, ?_, ?_, ?_⟩
 ·simp only [Option.bind_some, tokS, m1, m2, m3, m4, m5, h3]
 ·show (flushS s).data.length ≤ n + 1; omega
 ·show ((flushS s).l ++ [t]).length ≤ 2 * (n + 1); simp; omega
 ·exact g3
theorem sub_ok (c : UInt8) (s : RS) (n : Nat) (h : small s n) (hb : s.buf.length ≤ 4096) (hn : n ≤ 1000000000) : f205 c s.mode s.cmd s.opt s.wb s.over s.buf s.data s.l = some (subS c s).t ∧ small (subS c s) (n + 1) ∧ (subS c s).buf.length ≤ 4096 := by
 obtain ⟨g1, g2, g3⟩ := h
 unfold f205 f205_j0 subS
 by_cases h1 : s.buf.length = 4096
 ·rw [decide_eq_true (by omega), if_pos h1]
  exact ⟨rfl, ⟨by show s.data.length ≤ _; omega, by show s.l.length ≤ _; omega, by simp⟩, by simp⟩
 ·rw [decide_eq_false (by omega), if_neg h1]
  simp only [cond_false]
  cases ho : s.over with
  | true =>
   simp only [Bool.not_true, cond_false, if_true]
   refine ⟨by simp only [RS.t, ho], ⟨by omega, by omega, g3⟩, hb⟩
  | false =>
   simp only [Bool.not_false, cond_true, Bool.false_eq_true, if_false]
   rw [app_ok 1 _ _ (by simp; omega)]
   exact ⟨rfl, ⟨by show s.data.length ≤ _; omega, by show s.l.length ≤ _; omega, by simp; omega⟩, by simp; omega⟩
theorem end_ok (c : UInt8) (s : RS) (n : Nat) (h : small s n) (hn : n ≤ 1000000000) : ∃ b, f206 c s.mode s.cmd s.opt s.wb s.over s.buf s.data s.l = some ((tokS (endT c s) s).data, (tokS (endT c s) s).l, b) ∧ small (endS c s) (n + 1) := by
 have sm : small (endS c s) (n + 1) := by
  obtain ⟨_, q1, q2, _⟩ := tok_ok (endT c s) s n h hn
  exact ⟨q1, q2, by simp [endS]⟩
 have key : ∀ t, ∃ b, ((f204 t s.mode s.cmd s.opt s.wb s.over s.buf s.data s.l).bind fun z7 => (f206_j0 c s.mode s.cmd s.opt s.wb s.over s.buf s.data s.l z7.1 z7.2.1 z7.2.2.1 z7.2.2.2.1 z7.2.2.2.2.1 z7.2.2.2.2.2.1 z7.2.2.2.2.2.2.1 z7.2.2.2.2.2.2.2)) = some ((tokS t s).data, (tokS t s).l, b) := fun t => by
  obtain ⟨e, _⟩ := tok_ok t s n h hn
  rw [e]; exact ⟨_, rfl⟩
 unfold f206 endT
 by_cases hc : c.toNat = 240
 ·rw [decide_eq_true (show (c.toNat : Int) = 240 by omega), if_pos hc]
  simp only [cond_true]
  cases ho : s.over with
  | true =>
   obtain ⟨b, e⟩ := key ⟨5, 250, s.opt, []⟩
   rw [ho] at e
   have : endS c s = endS c s := rfl
   unfold endS endT at sm
   rw [if_pos hc, ho] at sm
   exact ⟨b, e, by unfold endS endT; rw [if_pos hc, ho]; exact sm⟩
  | false =>
   obtain ⟨b, e⟩ := key ⟨4, 0, s.opt, s.buf⟩
   rw [ho] at e
   exact ⟨b, e, sm⟩
 ·rw [decide_eq_false (show ¬ (c.toNat : Int) = 240 by omega), if_neg hc]
  simp only [cond_false]
  obtain ⟨b, e⟩ := key ⟨5, (c.toNat : Int), s.opt, []⟩
  exact ⟨b, e, sm⟩
theorem cmd_ok (c : UInt8) (s : RS) (n : Nat) (h : small s n) (hn : n ≤ 1000000000) : f203 c s.mode s.cmd s.opt s.wb s.over s.buf s.data s.l = some (cmdS c s).t ∧ small (cmdS c s) (n + 1) ∧ (cmdS c s).buf = s.buf := by
 have h0 : small (setMode s 0) n := h
 obtain ⟨g1, g2, g3⟩ := h
 unfold f203 cmdS
 by_cases c1 : c.toNat = 255
 ·rw [decide_eq_true (by omega), if_pos c1]
  simp only [cond_true]
  rw [app_ok 1 _ _ (by simp; omega)]
  exact ⟨rfl, ⟨by show (s.data ++ [c]).length ≤ _; simp; omega, by show s.l.length ≤ _; omega, g3⟩, rfl⟩
 ·rw [decide_eq_false (by omega), if_neg c1]
  simp only [cond_false]
  by_cases c2 : 251 ≤ c.toNat
  ·rw [decide_eq_true (by omega), if_pos c2]
   exact ⟨rfl, ⟨by show s.data.length ≤ _; omega, by show s.l.length ≤ _; omega, g3⟩, rfl⟩
  ·rw [decide_eq_false (by omega), if_neg c2]
   simp only [cond_false]
   by_cases c3 : c.toNat = 250
   ·rw [decide_eq_true (by omega), if_pos c3]
    exact ⟨rfl, ⟨by show s.data.length ≤ _; omega, by show s.l.length ≤ _; omega, g3⟩, rfl⟩
   ·rw [decide_eq_false (by omega), if_neg c3]
    simp only [cond_false]
    by_cases c4 : 240 ≤ c.toNat
    ·rw [decide_eq_true (by omega), if_pos c4]
     obtain ⟨e, q⟩ := tok_ok ⟨2, (c.toNat : Int), 0, []⟩ (setMode s 0) n h0 hn
     simp only [cond_true]
     rw [show f204 ⟨2, (c.toNat : Int), 0, []⟩ 0 s.cmd s.opt s.wb s.over s.buf s.data s.l = _ from e]
     exact ⟨rfl, q, rfl⟩
    ·rw [decide_eq_false (by omega), if_neg c4]
     obtain ⟨e, q⟩ := tok_ok ⟨5, (c.toNat : Int), 0, []⟩ (setMode s 0) n h0 hn
     simp only [cond_false]
     rw [show f204 ⟨5, (c.toNat : Int), 0, []⟩ 0 s.cmd s.opt s.wb s.over s.buf s.data s.l = _ from e]
     exact ⟨rfl, q, rfl⟩
theorem step_ok (c : UInt8) (s : RS) (n : Nat) (h : small s n) (hb : s.buf.length ≤ 4096) (hn : n ≤ 1000000000) : f156 c s.mode s.cmd s.opt s.wb s.over s.buf s.data s.l = some (stepS s c).t ∧ small (stepS s c) (n + 1) ∧ (stepS s c).buf.length ≤ 4096 := by
 have h' := h
 obtain ⟨g1, g2, g3⟩ := h'
 unfold f156 stepS
 by_cases m0 : s.mode = 0
 ·rw [decide_eq_true m0, if_pos m0]
  simp only [cond_true]
  by_cases c1 : c.toNat = 255
  ·rw [decide_eq_true (by omega), if_pos c1]
   exact ⟨rfl, ⟨by show s.data.length ≤ _; omega, by show s.l.length ≤ _; omega, g3⟩, hb⟩
  ·rw [decide_eq_false (by omega), if_neg c1]
   simp only [cond_false]
   rw [app_ok 1 _ _ (by simp; omega)]
   exact ⟨rfl, ⟨by show (s.data ++ [c]).length ≤ _; simp; omega, by show s.l.length ≤ _; omega, g3⟩, hb⟩
 rw [decide_eq_false m0, if_neg m0]
 simp only [cond_false]
 by_cases m1 : s.mode = 1
 ·rw [decide_eq_true m1, if_pos m1]
  obtain ⟨e, q, r⟩ := cmd_ok c s n h hn
  simp only [cond_true]
  rw [e]
  exact ⟨rfl, q, by rw [r]; exact hb⟩
 rw [decide_eq_false m1, if_neg m1]
 simp only [cond_false]
 by_cases m2 : s.mode = 2
 ·rw [decide_eq_true m2, if_pos m2]
  obtain ⟨e, q1, q2, q3⟩ := tok_ok ⟨3, s.cmd, (c.toNat : Int), []⟩ s n h hn
  simp only [cond_true]
  rw [e]
  exact ⟨rfl, ⟨q1, q2, g3⟩, hb⟩
 rw [decide_eq_false m2, if_neg m2]
 simp only [cond_false]
 by_cases m3 : s.mode = 3
 ·rw [decide_eq_true m3, if_pos m3]
  exact ⟨rfl, ⟨by show s.data.length ≤ _; omega, by show s.l.length ≤ _; omega, g3⟩, hb⟩
 rw [decide_eq_false m3, if_neg m3]
 simp only [cond_false]
 by_cases m4 : s.mode = 4
 ·rw [decide_eq_true m4, if_pos m4]
  simp only [cond_true]
  by_cases c1 : c.toNat = 255
  ·rw [decide_eq_true (by omega), if_pos c1]
   exact ⟨rfl, ⟨by show s.data.length ≤ _; omega, by show s.l.length ≤ _; omega, g3⟩, hb⟩
  ·rw [decide_eq_false (by omega), if_neg c1]
   obtain ⟨e, q, r⟩ := sub_ok c s n h hb hn
   simp only [cond_false]
   rw [e]
   exact ⟨rfl, q, r⟩
 rw [decide_eq_false m4, if_neg m4]
 simp only [cond_false]
 by_cases c1 : c.toNat = 255
 ·rw [decide_eq_true (by omega), if_pos c1]
  have h4 : small (setMode s 4) n := h
  obtain ⟨e, q, r⟩ := sub_ok c (setMode s 4) n h4 hb hn
  simp only [cond_true]
  rw [show f205 c 4 s.cmd s.opt s.wb s.over s.buf s.data s.l = _ from e]
  exact ⟨rfl, q, r⟩
 ·rw [decide_eq_false (by omega), if_neg c1]
  obtain ⟨b, e, q⟩ := end_ok c s n h hn
  simp only [cond_false]
  rw [e]
  exact ⟨rfl, q, by simp [endS]⟩
theorem feed_loop (w : GWire) : ∀ (suf pre : List UInt8) (s : RS) (n : Nat), small s n → s.buf.length ≤ 4096 → n + suf.length ≤ 100000000 → pre.length + suf.length ≤ 100000000 →
  ∃ t, loopO (f102_l2 w (pre ++ suf)) (s.mode, s.cmd, s.opt, s.wb, s.over, s.buf, s.data, s.l, (pre.length : Int)) = some t ∧ t = (suf.foldl stepS s).t ∧ small (suf.foldl stepS s) (n + suf.length)
 | [], pre, s, n, h, hb, hn, hp => ⟨_, loopO_done (by
   unfold f102_l2 f102_l2_j3
   simp only [lt_end, cond_false]; rfl), rfl, h⟩
 | x :: t, pre, s, n, h, hb, hn, hp => by
  have e1 : pre ++ x :: t = (pre ++ [x]) ++ t := by simp
  simp only [List.length_cons] at hn hp
  obtain ⟨e, q, r⟩ := step_ok x s n h hb (by omega)
  obtain ⟨y, i1, i2, i3⟩ := feed_loop w t (pre ++ [x]) (stepS s x) (n + 1) q r (by omega) (by simp; omega)
  rw [← e1] at i1
  refine ⟨y, loopO_next ?_ i1, i2, by rw [show n + (x :: t).length = n + 1 + t.length by simp; omega]; exact i3⟩
  unfold f102_l2 f102_l2_j3 f102_l2_j4
  simp only [lt_mid, cond_true, idx_mid, Option.bind_some]
  rw [e, wrap_nx pre x (by omega)]; rfl
def initS (w : GWire) : RS := ⟨w.Mode, w.Cmd, w.Opt, w.Buf, w.Over, w.Buf, [], []⟩
def wireS (s : RS) : GWire := ⟨s.mode, s.cmd, s.opt, s.buf, s.over⟩
theorem feed_ok (w : GWire) (s : List UInt8) (hw : f52 w = some 0) (hb : w.Buf.length ≤ 4096) (hs : s.length ≤ 10000000) :
  f102 w s = some (wireS (flushS (s.foldl stepS (initS w))), (flushS (s.foldl stepS (initS w))).l, 0) := by
 unfold f102
 rw [hw]
 simp only [Option.bind_some, decide_true, Bool.not_true, cond_false]
 unfold f102_j0
 have hc : chk (decide (w.Buf.length ≤ 140737488355328)) = some () := by unfold chk; rw [if_pos (decide_eq_true (by omega))]
 rw [hc]
 simp only [Option.bind_some]
 obtain ⟨t, h1, h2, h3⟩ := feed_loop w s [] (initS w) 0 ⟨by simp [initS], by simp [initS], by show w.Buf.length ≤ _; omega⟩ hb (by omega) (by simp; omega)
 simp only [List.nil_append, List.length_nil] at h1
 rw [show (w.Mode, w.Cmd, w.Opt, w.Buf, w.Over, w.Buf, ([] : List UInt8), ([] : List GTok), (0 : Int)) = ((initS w).mode, (initS w).cmd, (initS w).opt, (initS w).wb, (initS w).over, (initS w).buf, (initS w).data, (initS w).l, ((0 : Nat) : Int)) from rfl, h1, h2]
 simp only [Option.bind_some, RS.t]
 unfold f102_j1
 obtain ⟨e, _⟩ := flush_small (s.foldl stepS (initS w)) _ h3 (by omega)
 rw [e]; rfl
def es1 (b : UInt8) : List UInt8 := if b = 255 then [255, 255] else [b]
def esc (s : List UInt8) : List UInt8 := s.flatMap es1
theorem esc_cons (b : UInt8) (s : List UInt8) : esc (b :: s) = es1 b ++ esc s := by unfold esc; rw [List.flatMap_cons]
theorem rk_cons (b c : UInt8) (new : List UInt8) (h : b ≠ c) (t : List UInt8) (k : Nat) : Lib.replaceK [c] new k (b :: t) = b :: Lib.replaceK [c] new k t := by
 cases k with
 | zero => rfl
 | succ k =>
  have hge := Lib.indexByte_ge t c
  have hi : Lib.index (b :: t) [c] = if Lib.index t [c] = -1 then -1 else Lib.index t [c] + 1 := by
   rw [Lib.index_one, Lib.index_one, Lib.indexByte, if_neg (by simpa using h)]
   by_cases hm : Lib.indexByte t c = -1
   ·rw [if_pos (by simpa using hm), if_pos hm]
   ·rw [if_neg (by simpa using hm), if_neg hm]
  unfold Lib.replaceK
  rw [hi]
  by_cases hm : Lib.index t [c] = -1
  ·rw [if_pos hm, if_pos (by rfl), if_pos (by rw [hm]; rfl)]
  ·have hnn : 0 ≤ Lib.index t [c] := by rw [Lib.index_one] at hm ⊢; omega
   rw [if_neg hm, if_neg (by simp; omega), if_neg (by simpa using hm)]
   obtain ⟨i, hi2⟩ := Int.eq_ofNat_of_zero_le hnn
   rw [hi2, show ((i : Int) + 1).toNat = i + 1 by omega, show (i : Int).toNat = i by omega]
   simp
theorem rk_hit (c : UInt8) (new : List UInt8) (t : List UInt8) (k : Nat) : Lib.replaceK [c] new (k + 1) (c :: t) = new ++ Lib.replaceK [c] new k t := by
 have hi : Lib.index (c :: t) [c] = 0 := by rw [Lib.index_one, Lib.indexByte, if_pos (by simp)]
 rw [Lib.replaceK, hi, if_neg (by decide)]
 simp
theorem rall : ∀ s : List UInt8, Lib.replaceK [255] [255, 255] (Lib.count s [255]) s = esc s
 | [] => by
  rw [Lib.count_one]; rfl
 | b :: t => by
  have ih := rall t
  rw [esc_cons]
  by_cases h : b = 255
  ·subst h
   rw [Lib.count_cons_eq, Nat.add_comm 1, rk_hit, ih]; rfl
  ·rw [Lib.count_cons_ne b 255 t h, rk_cons b 255 _ h, ih]
   unfold es1; rw [if_neg h]; rfl
theorem esc_eq_ (s : List UInt8) (h : s.length ≤ 10000000) : f114 s = some (esc s) := by
 unfold f114 libReplaceAll
 have hcl : Lib.countB ⟨s.toArray⟩ ⟨([255] : List UInt8).toArray⟩ ≤ s.length + 1 := Lib.count_le s [255]
 have hb : Lib.countB ⟨s.toArray⟩ ⟨([255] : List UInt8).toArray⟩ * ([255, 255] : List UInt8).length ≤ (s.length + 1) * 2 := Nat.mul_le_mul_right 2 hcl
 rw [if_pos ⟨by omega, by decide, by omega⟩]
 simp only [Option.bind_some, Option.some.injEq]
 unfold Lib.replaceAll Lib.replace
 rw [if_neg (by decide)]
 unfold Lib.replaceNum
 rw [if_pos (by left; decide)]
 exact rall s
def dat (s : RS) (d : List UInt8) : RS := ⟨s.mode, s.cmd, s.opt, s.wb, s.over, s.buf, s.data ++ d, s.l⟩
theorem esc_fold : ∀ (x : List UInt8) (s : RS), s.mode = 0 → (esc x).foldl stepS s = dat s x
 | [], s, h => by simp [esc, dat]
 | b :: x, s, h => by
  rw [esc_cons, List.foldl_append]
  have hb : (es1 b).foldl stepS s = dat s [b] := by
   unfold es1
   by_cases h5 : b = 255
   ·subst h5
    rw [if_pos rfl]
    simp only [List.foldl_cons, List.foldl_nil]
    have e1 : stepS s 255 = setMode s 1 := by unfold stepS; rw [if_pos h, if_pos (by decide)]
    have e2 : stepS (setMode s 1) 255 = cmdS 255 (setMode s 1) := by rfl
    rw [e1, e2]
    unfold cmdS
    rw [if_pos (by decide)]
    unfold addData setMode dat
    simp only [h]
   ·have hn : ¬ b.toNat = 255 := fun e => h5 (UInt8.toNat.inj e)
    rw [if_neg h5]
    simp only [List.foldl_cons, List.foldl_nil]
    unfold stepS
    rw [if_pos h, if_neg hn]; rfl
  rw [hb, esc_fold x (dat s [b]) h]
  unfold dat
  simp
def Cl (s : RS) : Prop := s.mode = 0 ∧ s.cmd = 0 ∧ s.opt = 0 ∧ s.buf = [] ∧ s.over = false
def Qu (s : RS) : Prop := Cl s ∧ s.data = []
theorem flush_nil (s : RS) : (flushS s).data = [] := by
 unfold flushS
 split
 ·rfl
 ·exact List.eq_nil_of_length_eq_zero (by omega)
theorem s0_255 (s : RS) (h : s.mode = 0) : stepS s 255 = setMode s 1 := by unfold stepS; rw [if_pos h, if_pos (by decide)]
theorem s1_ (s : RS) (c : UInt8) (h : s.mode = 1) : stepS s c = cmdS c s := by unfold stepS; rw [if_neg (by omega), if_pos h]
theorem s4_255 (s : RS) (h : s.mode = 4) : stepS s 255 = setMode s 5 := by
 unfold stepS; rw [if_neg (by omega), if_neg (by omega), if_neg (by omega), if_neg (by omega), if_pos h, if_pos (by decide)]
theorem s4_x (s : RS) (c : UInt8) (h : s.mode = 4) (hc : ¬ c.toNat = 255) : stepS s c = subS c s := by
 unfold stepS; rw [if_neg (by omega), if_neg (by omega), if_neg (by omega), if_neg (by omega), if_pos h, if_neg hc]
theorem s5_255 (s : RS) (h : s.mode = 5) : stepS s 255 = subS 255 (setMode s 4) := by
 unfold stepS; rw [if_neg (by omega), if_neg (by omega), if_neg (by omega), if_neg (by omega), if_neg (by omega), if_pos (by decide)]
theorem s5_x (s : RS) (c : UInt8) (h : s.mode = 5) (hc : ¬ c.toNat = 255) : stepS s c = endS c s := by
 unfold stepS; rw [if_neg (by omega), if_neg (by omega), if_neg (by omega), if_neg (by omega), if_neg (by omega), if_neg hc]
theorem s2_ (s : RS) (c : UInt8) (h : s.mode = 2) : stepS s c = ⟨0, 0, s.opt, s.wb, s.over, s.buf, (tokS ⟨3, s.cmd, (c.toNat : Int), []⟩ s).data, (tokS ⟨3, s.cmd, (c.toNat : Int), []⟩ s).l⟩ := by
 unfold stepS; rw [if_neg (by omega), if_neg (by omega), if_pos h]
theorem s3_ (s : RS) (c : UInt8) (h : s.mode = 3) : stepS s c = ⟨4, s.cmd, (c.toNat : Int), s.wb, s.over, s.buf, s.data, s.l⟩ := by
 unfold stepS; rw [if_neg (by omega), if_neg (by omega), if_neg (by omega), if_pos h]
theorem cmd_tok (s : RS) (c : UInt8) (h : 240 ≤ c.toNat ∧ c.toNat ≤ 249) : cmdS c s = tokS ⟨2, (c.toNat : Int), 0, []⟩ (setMode s 0) := by
 unfold cmdS; rw [if_neg (by omega), if_neg (by omega), if_neg (by omega), if_pos h.1]
theorem two (s : RS) (c : UInt8) (h : Cl s) (hc : 240 ≤ c.toNat ∧ c.toNat ≤ 249) : Qu ([255, c].foldl stepS s) ∧ ([255, c].foldl stepS s).l = (flushS s).l ++ [⟨2, (c.toNat : Int), 0, []⟩] := by
 obtain ⟨h1, h2, h3, h4, h5⟩ := h
 simp only [List.foldl_cons, List.foldl_nil]
 rw [s0_255 s h1, s1_ _ c rfl, cmd_tok _ c hc]
 have e : flushS (setMode (setMode s 1) 0) = ⟨0, (flushS s).cmd, (flushS s).opt, (flushS s).wb, (flushS s).over, (flushS s).buf, (flushS s).data, (flushS s).l⟩ := by
  unfold flushS setMode; split <;> rfl
 refine ⟨⟨⟨rfl, h2, h3, h4, h5⟩, ?_⟩, ?_⟩
 ·show (flushS _).data = []; exact flush_nil _
 ·show (flushS _).l ++ _ = _; rw [e]
theorem u8n (n : Int) (h : 0 ≤ n ∧ n ≤ 255) : ((u8 n).toNat : Int) = n := by have := u8_u8 n; omega
theorem sub_fold : ∀ (x : List UInt8) (s : RS), s.mode = 4 → s.over = false → s.buf.length + x.length ≤ 4096 → (esc x).foldl stepS s = ⟨4, s.cmd, s.opt, s.wb, false, s.buf ++ x, s.data, s.l⟩
 | [], s, h, ho, hl => by
  obtain ⟨a, b, c, d, e, f, g, i⟩ := s
  simp only at h ho
  subst h; subst ho
  simp [esc]
 | b :: x, s, h, ho, hl => by
  rw [List.length_cons] at hl
  rw [esc_cons, List.foldl_append]
  have hb : (es1 b).foldl stepS s = ⟨4, s.cmd, s.opt, s.wb, false, s.buf ++ [b], s.data, s.l⟩ := by
   unfold es1
   by_cases h5 : b = 255
   ·subst h5
    rw [if_pos rfl]
    simp only [List.foldl_cons, List.foldl_nil]
    rw [s4_255 s h, s5_255 _ rfl]
    unfold subS setMode
    simp only [ho]
    rw [if_neg (by omega)]; rfl
   ·have hn : ¬ b.toNat = 255 := fun e => h5 (UInt8.toNat.inj e)
    rw [if_neg h5]
    simp only [List.foldl_cons, List.foldl_nil]
    rw [s4_x s b h hn]
    unfold subS
    rw [if_neg (by omega), ho, h]; rfl
  rw [hb, sub_fold x _ rfl rfl (by simp; omega)]
  simp
def Tw (t : GTok) (u : List UInt8) : Prop :=
 (t.Kind = 1 ∧ t.Cmd = 0 ∧ t.Opt = 0 ∧ u = esc t.Data) ∨
 ((t.Kind = 2 ∧ 240 ≤ t.Cmd ∧ t.Cmd ≤ 249 ∧ t.Opt = 0 ∧ t.Data = []) ∧ u = [255, u8 t.Cmd]) ∨
 ((t.Kind = 3 ∧ 251 ≤ t.Cmd ∧ t.Cmd ≤ 254 ∧ 0 ≤ t.Opt ∧ t.Opt ≤ 255 ∧ t.Data = []) ∧ u = [255, u8 t.Cmd, u8 t.Opt]) ∨
 ((t.Kind = 4 ∧ t.Cmd = 0 ∧ 0 ≤ t.Opt ∧ t.Opt ≤ 255 ∧ t.Data.length ≤ 4096) ∧ u = [255, 250, u8 t.Opt] ++ esc t.Data ++ [255, 240])
def subOk (w : GWire) : Prop := (0 ≤ w.Opt ∧ w.Opt ≤ 255) ∧ w.Buf.length ≤ 4096 ∧ (w.Over = true → w.Buf = [])
def noSub (w : GWire) : Prop := w.Opt = 0 ∧ w.Buf = [] ∧ w.Over = false
def okW2 (w : GWire) : Prop := (0 ≤ w.Mode ∧ w.Mode ≤ 5) ∧ (w.Mode = 2 → 251 ≤ w.Cmd ∧ w.Cmd ≤ 254) ∧ (w.Mode ≠ 2 → w.Cmd = 0) ∧ (w.Mode = 4 ∨ w.Mode = 5 → subOk w) ∧ (¬ (w.Mode = 4 ∨ w.Mode = 5) → noSub w)
theorem k2_f (w : GWire) (sub : Bool) : f52_j2 w sub false = some 4 := by cases sub <;> rfl
theorem k2_tt (w : GWire) : (subOk w ∧ f52_j2 w true true = some 0) ∨ (¬ subOk w ∧ f52_j2 w true true = some 4) := by
 unfold f52_j2 subOk
 simp only [cond_true]
 by_cases o1 : 0 ≤ w.Opt
 ·rw [decide_eq_true o1]
  by_cases o2 : w.Opt ≤ 255
  ·rw [decide_eq_true o2]
   by_cases h : w.Buf.length ≤ 4096
   ·rw [decide_eq_true (show (w.Buf.length : Int) ≤ 4096 by omega)]
    cases w.Over with
    | false => exact .inl ⟨⟨⟨o1, o2⟩, h, fun e => by cases e⟩, rfl⟩
    | true =>
     by_cases hb : w.Buf = []
     ·rw [decide_eq_true hb]; exact .inl ⟨⟨⟨o1, o2⟩, h, fun _ => hb⟩, rfl⟩
     ·rw [decide_eq_false hb]; exact .inr ⟨fun e => hb (e.2.2 rfl), rfl⟩
   ·rw [decide_eq_false (show ¬ (w.Buf.length : Int) ≤ 4096 by omega)]; exact .inr ⟨fun e => h e.2.1, rfl⟩
  ·rw [decide_eq_false o2]; exact .inr ⟨fun e => o2 e.1.2, rfl⟩
 ·rw [decide_eq_false o1]; exact .inr ⟨fun e => o1 e.1.1, rfl⟩
theorem k2_ft (w : GWire) : (noSub w ∧ f52_j2 w false true = some 0) ∨ (¬ noSub w ∧ f52_j2 w false true = some 4) := by
 unfold f52_j2 noSub
 simp only [cond_true, cond_false]
 by_cases o1 : w.Opt = 0
 ·rw [decide_eq_true o1]
  by_cases hb : w.Buf = []
  ·rw [decide_eq_true hb]
   cases ho : w.Over with
   | false => exact .inl ⟨⟨o1, hb, rfl⟩, rfl⟩
   | true => exact .inr ⟨(fun e => by have := e.2.2; cases this), rfl⟩
  ·rw [decide_eq_false hb]; exact .inr ⟨fun e => hb e.2.1, rfl⟩
 ·rw [decide_eq_false o1]; exact .inr ⟨fun e => o1 e.1, rfl⟩
def cmdOk (w : GWire) : Prop := (w.Mode = 2 → 251 ≤ w.Cmd ∧ w.Cmd ≤ 254) ∧ (w.Mode ≠ 2 → w.Cmd = 0)
theorem k1_ (w : GWire) (sub : Bool) (m : Bool) : ((m = true ∧ cmdOk w) ∧ f52_j1 w sub m = f52_j2 w sub true) ∨ (¬ (m = true ∧ cmdOk w) ∧ f52_j1 w sub m = some 4) := by
 unfold f52_j1 cmdOk
 rw [k2_f]
 by_cases h2 : w.Mode = 2
 ·rw [decide_eq_true h2]
  simp only [cond_true]
  cases m with
  | false => exact .inr ⟨(fun h => by cases h.1), rfl⟩
  | true =>
   simp only [cond_true]
   by_cases c1 : 251 ≤ w.Cmd
   ·rw [decide_eq_true c1]
    by_cases c2 : w.Cmd ≤ 254
    ·rw [decide_eq_true c2]; exact .inl ⟨⟨by first | rfl | trivial, fun _ => ⟨c1, c2⟩, fun h => absurd h2 h⟩, rfl⟩
    ·rw [decide_eq_false c2]; exact .inr ⟨fun h => c2 (h.2.1 h2).2, rfl⟩
   ·rw [decide_eq_false c1]; exact .inr ⟨fun h => c1 (h.2.1 h2).1, rfl⟩
 ·rw [decide_eq_false h2]
  simp only [cond_false]
  cases m with
  | false => exact .inr ⟨(fun h => by cases h.1), rfl⟩
  | true =>
   simp only [cond_true]
   by_cases c1 : w.Cmd = 0
   ·rw [decide_eq_true c1]; exact .inl ⟨⟨by first | rfl | trivial, fun h => absurd h h2, fun _ => c1⟩, rfl⟩
   ·rw [decide_eq_false c1]; exact .inr ⟨fun h => c1 (h.2.2 h2), rfl⟩
theorem k0_ (w : GWire) (sub : Bool) : (((0 ≤ w.Mode ∧ w.Mode ≤ 5) ∧ cmdOk w) ∧ f52_j0 w sub = f52_j2 w sub true) ∨ (¬ ((0 ≤ w.Mode ∧ w.Mode ≤ 5) ∧ cmdOk w) ∧ f52_j0 w sub = some 4) := by
 have bad : ∀ h : ¬ (0 ≤ w.Mode ∧ w.Mode ≤ 5), f52_j1 w sub false = some 4 := fun _ => by
  rcases k1_ w sub false with ⟨h, _⟩ | ⟨_, e⟩
  ·cases h.1
  ·exact e
 unfold f52_j0
 by_cases m1 : 0 ≤ w.Mode
 ·rw [decide_eq_true m1]
  by_cases m2 : w.Mode ≤ 5
  ·rw [decide_eq_true m2]
   simp only [cond_true]
   rcases k1_ w sub true with ⟨h, e⟩ | ⟨h, e⟩
   ·exact .inl ⟨⟨⟨m1, m2⟩, h.2⟩, e⟩
   ·exact .inr ⟨fun hh => h ⟨rfl, hh.2⟩, e⟩
  ·rw [decide_eq_false m2]; exact .inr ⟨fun h => m2 h.1.2, bad fun h => m2 h.2⟩
 ·rw [decide_eq_false m1]; exact .inr ⟨fun h => m1 h.1.1, bad fun h => m1 h.1⟩
theorem chk_iff_ (w : GWire) : (okW2 w ∧ f52 w = some 0) ∨ (¬ okW2 w ∧ f52 w = some 4) := by
 unfold f52
 by_cases h45 : w.Mode = 4 ∨ w.Mode = 5
 ·have e : (bif (decide (w.Mode = 4)) then (f52_j0 w true) else (bif (decide (w.Mode = 5)) then (f52_j0 w true) else (f52_j0 w false))) = f52_j0 w true := by
   rcases h45 with h | h
   ·rw [decide_eq_true h]; rfl
   ·rw [decide_eq_true h]; cases decide (w.Mode = 4) <;> rfl
  rw [e]
  rcases k0_ w true with ⟨h, e⟩ | ⟨h, e⟩
  ·rw [e]
   rcases k2_tt w with ⟨g, e2⟩ | ⟨g, e2⟩
   ·exact .inl ⟨⟨h.1, h.2.1, h.2.2, fun _ => g, fun hn => absurd h45 hn⟩, e2⟩
   ·exact .inr ⟨fun hh => g (hh.2.2.2.1 h45), e2⟩
  ·exact .inr ⟨fun hh => h ⟨hh.1, hh.2.1, hh.2.2.1⟩, e⟩
 ·have e : (bif (decide (w.Mode = 4)) then (f52_j0 w true) else (bif (decide (w.Mode = 5)) then (f52_j0 w true) else (f52_j0 w false))) = f52_j0 w false := by
   rw [decide_eq_false (fun h => h45 (.inl h)), decide_eq_false (fun h => h45 (.inr h))]; rfl
  rw [e]
  rcases k0_ w false with ⟨h, e⟩ | ⟨h, e⟩
  ·rw [e]
   rcases k2_ft w with ⟨g, e2⟩ | ⟨g, e2⟩
   ·exact .inl ⟨⟨h.1, h.2.1, h.2.2, fun hh => absurd hh h45, fun _ => g⟩, e2⟩
   ·exact .inr ⟨fun hh => g (hh.2.2.2.2 h45), e2⟩
  ·exact .inr ⟨fun hh => h ⟨hh.1, hh.2.1, hh.2.2.1⟩, e⟩
def Iv (s : RS) : Prop := okW2 (wireS s)
theorem sub_iv (c : UInt8) (s : RS) (h4 : s.mode = 4) (hc : s.cmd = 0) (hs : subOk (wireS s)) : Iv (subS c s) := by
 obtain ⟨h1, h2, h3⟩ := hs
 have mk : ∀ w : GWire, w.Mode = 4 → w.Cmd = 0 → subOk w → okW2 w := fun w a b d => ⟨by omega, (fun h => by omega), fun _ => b, fun _ => d, fun h => absurd (.inl a) h⟩
 unfold Iv subS
 split
 ·exact mk _ h4 hc ⟨h1, by show ([] : List UInt8).length ≤ 4096; decide, fun _ => rfl⟩
 ·split
  ·exact mk _ h4 hc ⟨h1, h2, h3⟩
  ·rename_i hn ho
   refine mk _ h4 hc ⟨h1, ?_, fun h => absurd h (by simpa [wireS] using ho)⟩
   show (s.buf ++ [c]).length ≤ 4096
   have : s.buf.length ≤ 4096 := h2
   simp; omega
theorem step_iv (s : RS) (c : UInt8) (h : Iv s) : Iv (stepS s c) := by
 have hcl := c.toNat_lt
 obtain ⟨h1, h2, h3, h4, h5⟩ := h
 simp only [wireS] at h1 h2 h3 h4 h5
 have mk : ∀ w : GWire, (0 ≤ w.Mode ∧ w.Mode ≤ 3) → (w.Mode = 2 → 251 ≤ w.Cmd ∧ w.Cmd ≤ 254) → (w.Mode ≠ 2 → w.Cmd = 0) → noSub w → okW2 w := fun w a b d e => ⟨by omega, b, d, fun h => by omega, fun _ => e⟩
 unfold stepS
 split
 ·rename_i m
  have h5 := h5 (by omega); have h3 := h3 (by omega)
  split
  ·exact mk _ (by show (0 : Int) ≤ 1 ∧ (1 : Int) ≤ 3; omega) (fun hh => by cases hh) (fun _ => h3) h5
  ·exact mk _ (by show 0 ≤ s.mode ∧ s.mode ≤ 3; omega) (fun hh => by have : s.mode = 2 := hh; omega) (fun _ => h3) h5
 split
 ·rename_i m0 m
  have h5 := h5 (by omega); have h3 := h3 (by omega)
  unfold cmdS
  split
  ·exact mk _ (by show (0 : Int) ≤ 0 ∧ (0 : Int) ≤ 3; omega) (fun hh => by cases hh) (fun _ => h3) h5
  split
  ·rename_i hx hy
   exact mk _ (by show (0 : Int) ≤ 2 ∧ (2 : Int) ≤ 3; omega) (fun _ => by show 251 ≤ (c.toNat : Int) ∧ (c.toNat : Int) ≤ 254; omega) (fun hh => absurd rfl hh) h5
  split
  ·exact mk _ (by show (0 : Int) ≤ 3 ∧ (3 : Int) ≤ 3; omega) (fun hh => by cases hh) (fun _ => h3) h5
  split
  ·exact mk _ (by show (0 : Int) ≤ 0 ∧ (0 : Int) ≤ 3; omega) (fun hh => by cases hh) (fun _ => h3) h5
  ·exact mk _ (by show (0 : Int) ≤ 0 ∧ (0 : Int) ≤ 3; omega) (fun hh => by cases hh) (fun _ => h3) h5
 split
 ·rename_i m0 m1 m
  have h5 := h5 (by omega)
  exact mk _ (by show (0 : Int) ≤ 0 ∧ (0 : Int) ≤ 3; omega) (fun hh => by cases hh) (fun _ => rfl) h5
 split
 ·rename_i m0 m1 m2 m
  have h3 := h3 (by omega)
  obtain ⟨g1, g2, g3⟩ := h5 (by omega)
  simp only at g1 g2 g3
  refine ⟨by show (0 : Int) ≤ 4 ∧ (4 : Int) ≤ 5; omega, (fun hh => by cases hh), fun _ => h3, fun _ => ⟨by show 0 ≤ (c.toNat : Int) ∧ (c.toNat : Int) ≤ 255; omega, ?_, fun _ => g2⟩, fun hh => absurd (.inl rfl) hh⟩
  show s.buf.length ≤ 4096
  rw [g2]; decide
 split
 ·rename_i m0 m1 m2 m3 m
  have h3 := h3 (by omega); have h4 := h4 (.inl m)
  split
  ·exact ⟨by show (0 : Int) ≤ 5 ∧ (5 : Int) ≤ 5; omega, (fun hh => by cases hh), fun _ => h3, fun _ => h4, fun hh => absurd (.inr rfl) hh⟩
  ·exact sub_iv c s m h3 h4
 ·rename_i m0 m1 m2 m3 m4
  have h3 := h3 (by omega); have h4 := h4 (by omega)
  split
  ·exact sub_iv c (setMode s 4) rfl h3 h4
  ·exact mk _ (by show (0 : Int) ≤ 0 ∧ (0 : Int) ≤ 3; omega) (fun hh => by cases hh) (fun _ => rfl) ⟨rfl, rfl, rfl⟩
theorem fold_iv : ∀ (x : List UInt8) (s : RS), Iv s → Iv (x.foldl stepS s)
 | [], s, h => h
 | c :: x, s, h => fold_iv x _ (step_iv s c h)
theorem wire_flush (s : RS) : wireS (flushS s) = wireS s := by unfold flushS; split <;> rfl
theorem init_ok (w : GWire) (hb : w.Buf.length ≤ 4096) : small (initS w) 0 := ⟨by simp [initS], by simp [initS], by show w.Buf.length ≤ _; omega⟩
theorem buf_ok (w : GWire) (h : okW2 w) : w.Buf.length ≤ 4096 := by
 by_cases h45 : w.Mode = 4 ∨ w.Mode = 5
 ·exact (h.2.2.2.1 h45).2.1
 ·rw [(h.2.2.2.2 h45).2.1]; decide
def fl (l : List GTok) (d : List UInt8) : List GTok := if 0 < d.length then l ++ [⟨1, 0, 0, d⟩] else l
def jo (l1 : List GTok) (d1 : List UInt8) : List GTok → List GTok
 | [] => fl l1 d1
 | t :: q => if t.Kind = 1 then l1 ++ ⟨1, 0, 0, d1 ++ t.Data⟩ :: q else fl l1 d1 ++ t :: q
theorem jo_app (l1 : List GTok) (d1 : List UInt8) (m r : List GTok) (h : m ≠ []) : jo l1 d1 (m ++ r) = jo l1 d1 m ++ r := by
 cases m with
 | nil => exact absurd rfl h
 | cons t q =>
  simp only [List.cons_append, jo]
  split <;> simp
theorem fl_app (l : List GTok) (d : List UInt8) : ∃ r, fl l d = l ++ r ∧ ∀ l', fl l' d = l' ++ r := by
 unfold fl
 by_cases h : 0 < d.length
 ·exact ⟨[⟨1, 0, 0, d⟩], by rw [if_pos h], fun l' => by rw [if_pos h]⟩
 ·exact ⟨[], by rw [if_neg h]; simp, fun l' => by rw [if_neg h]; simp⟩
theorem flush_l (s : RS) : (flushS s).l = fl s.l s.data := by unfold flushS fl; split <;> rfl
theorem jo_fl (l1 : List GTok) (d1 d : List UInt8) : jo l1 d1 (fl [] d) = fl l1 (d1 ++ d) := by
 by_cases h : 0 < d.length
 ·unfold fl
  rw [if_pos h, if_pos (by rw [List.length_append]; omega)]
  simp only [List.nil_append, jo]
  rw [if_pos trivial]
 ·have : d = [] := List.eq_nil_of_length_eq_zero (by omega)
  subst this
  rw [List.append_nil]; rfl
structure Sm (l1 : List GTok) (d1 : List UInt8) (s s' : RS) : Prop where
 mode : s'.mode = s.mode
 cmd : s'.cmd = s.cmd
 opt : s'.opt = s.opt
 over : s'.over = s.over
 buf : s'.buf = s.buf
 tok : (s'.l = [] ∧ s.l = l1 ∧ s.data = d1 ++ s'.data) ∨ (s'.l ≠ [] ∧ s.l = jo l1 d1 s'.l ∧ s.data = s'.data)
theorem sm_flush {l1 : List GTok} {d1 : List UInt8} {s s' : RS} (h : Sm l1 d1 s s') : (flushS s).l = jo l1 d1 (flushS s').l := by
 rw [flush_l, flush_l]
 rcases h.tok with ⟨a, b, c⟩ | ⟨a, b, c⟩
 ·rw [a, b, c, jo_fl]
 ·obtain ⟨r, e1, e2⟩ := fl_app s'.l s'.data
  rw [c, e1, b, e2, jo_app l1 d1 _ _ a]
theorem sm_tok {l1 : List GTok} {d1 : List UInt8} {s s' : RS} (h : Sm l1 d1 s s') (t : GTok) (hk : t.Kind ≠ 1) : Sm l1 d1 (tokS t s) (tokS t s') := by
 refine ⟨h.mode, h.cmd, h.opt, h.over, h.buf, .inr ⟨?_, ?_, ?_⟩⟩
 ·show (flushS s').l ++ [t] ≠ []; simp
 ·show (flushS s).l ++ [t] = jo l1 d1 ((flushS s').l ++ [t])
  rw [sm_flush h]
  by_cases hm : (flushS s').l = []
  ·rw [hm]
   simp only [List.nil_append, jo]
   rw [if_neg hk]
  ·rw [jo_app _ _ _ _ hm]
 ·show (flushS s).data = (flushS s').data
  rw [flush_nil, flush_nil]
theorem sm_sub {l1 : List GTok} {d1 : List UInt8} {s s' : RS} (h : Sm l1 d1 s s') (c : UInt8) : Sm l1 d1 (subS c s) (subS c s') := by
 unfold subS
 rw [h.buf, h.over]
 by_cases h1 : s.buf.length = 4096
 ·rw [if_pos h1, if_pos h1]; exact ⟨h.mode, h.cmd, h.opt, rfl, rfl, h.tok⟩
 ·rw [if_neg h1, if_neg h1]
  by_cases h2 : s.over = true
  ·rw [if_pos h2, if_pos h2]; exact h
  ·rw [if_neg h2, if_neg h2]; exact ⟨h.mode, h.cmd, h.opt, rfl, rfl, h.tok⟩
theorem sm_add {l1 : List GTok} {d1 : List UInt8} {s s' : RS} (h : Sm l1 d1 s s') (c : UInt8) : Sm l1 d1 (addData s c) (addData s' c) := by
 refine ⟨h.mode, h.cmd, h.opt, h.over, h.buf, ?_⟩
 rcases h.tok with ⟨a, b, e⟩ | ⟨a, b, e⟩
 ·exact .inl ⟨a, b, by show s.data ++ [c] = d1 ++ (s'.data ++ [c]); rw [e]; simp⟩
 ·exact .inr ⟨a, b, by show s.data ++ [c] = s'.data ++ [c]; rw [e]⟩
theorem sm_mode {l1 : List GTok} {d1 : List UInt8} {s s' : RS} (h : Sm l1 d1 s s') (m : Int) : Sm l1 d1 (setMode s m) (setMode s' m) := ⟨rfl, h.cmd, h.opt, h.over, h.buf, h.tok⟩
theorem sm_step {l1 : List GTok} {d1 : List UInt8} {s s' : RS} (h : Sm l1 d1 s s') (c : UInt8) : Sm l1 d1 (stepS s c) (stepS s' c) := by
 unfold stepS
 rw [h.mode]
 by_cases m0 : s.mode = 0
 ·rw [if_pos m0, if_pos m0]
  by_cases c1 : c.toNat = 255
  ·rw [if_pos c1, if_pos c1]; exact sm_mode h 1
  ·rw [if_neg c1, if_neg c1]; exact sm_add h c
 rw [if_neg m0, if_neg m0]
 by_cases m1 : s.mode = 1
 ·rw [if_pos m1, if_pos m1]
  unfold cmdS
  by_cases c1 : c.toNat = 255
  ·rw [if_pos c1, if_pos c1]; exact sm_add (sm_mode h 0) c
  rw [if_neg c1, if_neg c1]
  by_cases c2 : 251 ≤ c.toNat
  ·rw [if_pos c2, if_pos c2]; exact ⟨rfl, rfl, h.opt, h.over, h.buf, h.tok⟩
  rw [if_neg c2, if_neg c2]
  by_cases c3 : c.toNat = 250
  ·rw [if_pos c3, if_pos c3]; exact sm_mode h 3
  rw [if_neg c3, if_neg c3]
  by_cases c4 : 240 ≤ c.toNat
  ·rw [if_pos c4, if_pos c4]; exact sm_tok (sm_mode h 0) _ (show ¬ (2 : Int) = 1 by decide)
  ·rw [if_neg c4, if_neg c4]; exact sm_tok (sm_mode h 0) _ (show ¬ (5 : Int) = 1 by decide)
 rw [if_neg m1, if_neg m1]
 by_cases m2 : s.mode = 2
 ·rw [if_pos m2, if_pos m2, h.cmd]
  have g := sm_tok h ⟨3, s.cmd, (c.toNat : Int), []⟩ (show ¬ (3 : Int) = 1 by decide)
  exact ⟨rfl, rfl, h.opt, h.over, h.buf, g.tok⟩
 rw [if_neg m2, if_neg m2]
 by_cases m3 : s.mode = 3
 ·rw [if_pos m3, if_pos m3]; exact ⟨rfl, h.cmd, rfl, h.over, h.buf, h.tok⟩
 rw [if_neg m3, if_neg m3]
 by_cases m4 : s.mode = 4
 ·rw [if_pos m4, if_pos m4]
  by_cases c1 : c.toNat = 255
  ·rw [if_pos c1, if_pos c1]; exact sm_mode h 5
  ·rw [if_neg c1, if_neg c1]; exact sm_sub h c
 rw [if_neg m4, if_neg m4]
 by_cases c1 : c.toNat = 255
 ·rw [if_pos c1, if_pos c1]; exact sm_sub (sm_mode h 4) c
 ·rw [if_neg c1, if_neg c1]
  have e : endT c s' = endT c s := by unfold endT; rw [h.over, h.opt, h.buf]
  have hk : (endT c s).Kind ≠ 1 := by
   unfold endT
   split
   ·split
    ·exact (show ¬ (5 : Int) = 1 by decide)
    ·exact (show ¬ (4 : Int) = 1 by decide)
   ·exact (show ¬ (5 : Int) = 1 by decide)
  have g := sm_tok h (endT c s) hk
  unfold endS
  rw [e]
  exact ⟨rfl, rfl, rfl, rfl, rfl, g.tok⟩
theorem sm_fold {l1 : List GTok} {d1 : List UInt8} : ∀ (x : List UInt8) (s s' : RS), Sm l1 d1 s s' → Sm l1 d1 (x.foldl stepS s) (x.foldl stepS s')
 | [], s, s', h => h
 | c :: x, s, s', h => sm_fold x _ _ (sm_step h c)
def rdT (p : List GTok × List UInt8) (t : GTok) : List GTok × List UInt8 := if t.Kind = 1 then (p.1, p.2 ++ t.Data) else (fl p.1 p.2 ++ [t], [])
theorem read_one (t : GTok) (u : List UInt8) (ht : Tw t u) (s : RS) (hs : Cl s) : Cl (u.foldl stepS s) ∧ ((u.foldl stepS s).l, (u.foldl stepS s).data) = rdT (s.l, s.data) t := by
 have hcl := hs
 obtain ⟨h1, h2, h3, h4, h5⟩ := hs
 unfold rdT
 rcases ht with ⟨k, c, o, rfl⟩ | ⟨⟨k, c1, c2, o, d⟩, rfl⟩ | ⟨⟨k, c1, c2, o1, o2, d⟩, rfl⟩ | ⟨⟨k, c, o1, o2, hl⟩, rfl⟩
 ·rw [esc_fold _ s h1, if_pos k]
  exact ⟨⟨h1, h2, h3, h4, h5⟩, rfl⟩
 ·have hc := u8n t.Cmd (by omega)
  obtain ⟨⟨q1, q2⟩, q3⟩ := two s (u8 t.Cmd) hcl (by omega)
  rw [if_neg (by omega)]
  refine ⟨q1, ?_⟩
  rw [q2, q3, hc, flush_l]
  obtain ⟨a, b, c', d'⟩ := t
  simp only at k o d ⊢
  subst k; subst o; subst d; rfl
 ·have hc := u8n t.Cmd (by omega)
  have ho := u8n t.Opt (by omega)
  have e : ([255, u8 t.Cmd, u8 t.Opt] : List UInt8).foldl stepS s = ⟨0, 0, s.opt, s.wb, s.over, s.buf, [], (flushS s).l ++ [⟨3, t.Cmd, t.Opt, []⟩]⟩ := by
   simp only [List.foldl_cons, List.foldl_nil]
   rw [s0_255 s h1, s1_ (setMode s 1) (u8 t.Cmd) rfl]
   have e2 : cmdS (u8 t.Cmd) (setMode s 1) = ⟨2, ((u8 t.Cmd).toNat : Int), s.opt, s.wb, s.over, s.buf, s.data, s.l⟩ := by
    unfold cmdS
    rw [if_neg (by omega), if_pos (by omega)]; rfl
   rw [e2, s2_ _ _ rfl]
   simp only [hc, ho, tokS]
   have e3 : ∀ m c, flushS ⟨m, c, s.opt, s.wb, s.over, s.buf, s.data, s.l⟩ = ⟨m, c, s.opt, s.wb, s.over, s.buf, (flushS s).data, (flushS s).l⟩ := fun m c => by unfold flushS; split <;> rfl
   rw [e3]
   simp only [flush_nil]
  rw [e, if_neg (by omega)]
  refine ⟨⟨rfl, rfl, h3, h4, h5⟩, ?_⟩
  rw [flush_l]
  obtain ⟨a, b, c', d'⟩ := t
  simp only at k d ⊢
  subst k; subst d; rfl
 ·have ho := u8n t.Opt (by omega)
  have e : ([255, 250, u8 t.Opt] ++ esc t.Data ++ [255, 240] : List UInt8).foldl stepS s = ⟨0, 0, 0, [], false, [], [], (flushS s).l ++ [⟨4, 0, t.Opt, t.Data⟩]⟩ := by
   rw [List.foldl_append, List.foldl_append]
   have e1 : ([255, 250, u8 t.Opt] : List UInt8).foldl stepS s = ⟨4, s.cmd, t.Opt, s.wb, s.over, s.buf, s.data, s.l⟩ := by
    simp only [List.foldl_cons, List.foldl_nil]
    rw [s0_255 s h1, s1_ (setMode s 1) 250 rfl]
    have e2 : cmdS 250 (setMode s 1) = setMode (setMode s 1) 3 := by
     unfold cmdS
     rw [if_neg (by decide), if_neg (by decide), if_pos (by decide)]
    rw [e2, s3_ _ _ rfl, ho]; rfl
   rw [e1, sub_fold t.Data ⟨4, s.cmd, t.Opt, s.wb, s.over, s.buf, s.data, s.l⟩ rfl h5 (by show s.buf.length + _ ≤ _; rw [h4]; simpa using hl)]
   simp only [List.foldl_cons, List.foldl_nil]
   rw [s4_255 _ rfl, s5_x _ 240 rfl (by decide)]
   unfold endS endT
   rw [if_pos (by decide)]
   simp only [setMode, tokS, h4, List.nil_append, Bool.false_eq_true, if_false]
   have e3 : ∀ m c o b ov bf, flushS ⟨m, c, o, b, ov, bf, s.data, s.l⟩ = ⟨m, c, o, b, ov, bf, (flushS s).data, (flushS s).l⟩ := fun m c o b ov bf => by unfold flushS; split <;> rfl
   rw [e3]
   simp only [flush_nil]
  rw [e, if_neg (by omega)]
  refine ⟨⟨rfl, rfl, rfl, rfl, rfl⟩, ?_⟩
  rw [flush_l]
  obtain ⟨a, b, c', d'⟩ := t
  simp only at k c ⊢
  subst k; subst c; rfl
def okN (n : GNeg) : Prop := ∀ i, i < 256 → (n.Us i).toNat ≤ 5 ∧ (n.Him i).toNat ≤ 5
theorem scan {body : Int → Option (Int ⊕ (Unit ⊕ Int))} {q : Nat → Prop} (hb : ∀ i : Nat, i < 256 → (q i ∧ body i = some (.inl ((i + 1 : Nat) : Int))) ∨ (¬ q i ∧ body i = some (.inr (.inr 4)))) (he : body 256 = some (.inr (.inl ()))) :
  ((∀ i, i < 256 → q i) ∧ loopO body 0 = some (.inl ())) ∨ (¬ (∀ i, i < 256 → q i) ∧ loopO body 0 = some (.inr 4)) := by
 obtain ⟨r, h1, h2⟩ := loopO_ind (body := body) (fun n x => ∃ i : Nat, x = (i : Int) ∧ i ≤ 256 ∧ n = 256 - i ∧ ∀ j, j < i → q j) (fun r => ((∀ i, i < 256 → q i) ∧ r = .inl ()) ∨ (¬ (∀ i, i < 256 → q i) ∧ r = .inr 4)) (by
  rintro n x ⟨i, rfl, hi, rfl, ha⟩
  by_cases h : i < 256
  ·rcases hb i h with ⟨hq, e⟩ | ⟨hq, e⟩
   ·exact .inl ⟨_, 256 - (i + 1), e, by omega, i + 1, rfl, by omega, rfl, fun j hj => by
     by_cases hji : j = i
     ·subst hji; exact hq
     ·exact ha j (by omega)⟩
   ·exact .inr ⟨_, e, .inr ⟨fun hh => hq (hh i h), rfl⟩⟩
  ·have : i = 256 := by omega
   subst this
   exact .inr ⟨_, he, .inl ⟨ha, rfl⟩⟩) (n := 256) (x := 0) ⟨0, rfl, by omega, rfl, fun j hj => by omega⟩
 rw [h1]
 rcases h2 with ⟨a, rfl⟩ | ⟨a, rfl⟩
 ·exact .inl ⟨a, rfl⟩
 ·exact .inr ⟨a, rfl⟩
theorem qknown_eq (n : Int) : f101 n = some (decide (0 ≤ n ∧ n ≤ 5)) := by
 unfold f101
 simp only [Bool.cond_decide]
 repeat' split
 all_goals first | exact congrArg some (decide_eq_true (by omega)).symm | exact congrArg some (decide_eq_false (by omega)).symm
theorem us_scan (a : GNeg) : ((∀ i, i < 256 → (a.Us i).toNat ≤ 5) ∧ loopO (f56_l1 a) 0 = some (.inl ())) ∨ (¬ (∀ i, i < 256 → (a.Us i).toNat ≤ 5) ∧ loopO (f56_l1 a) 0 = some (.inr 4)) :=
 scan (body := f56_l1 a) (q := fun i => (a.Us i).toNat ≤ 5) (fun i h => by
  unfold f56_l1 f56_l1_j2 f56_l1_j3
  rw [decide_eq_true (p := (i : Int) < 256) (by omega)]
  simp only [cond_true, inR_nat i 256 h, Option.bind_some, qknown_eq]
  by_cases hq : (a.Us i).toNat ≤ 5
  ·left
   rw [decide_eq_true (by omega), i64w _ (by omega)]
   exact ⟨hq, rfl⟩
  ·right
   rw [decide_eq_false (by omega)]
   exact ⟨hq, rfl⟩) rfl
theorem him_scan (a : GNeg) : ((∀ i, i < 256 → (a.Him i).toNat ≤ 5) ∧ loopO (f56_l5 a) 0 = some (.inl ())) ∨ (¬ (∀ i, i < 256 → (a.Him i).toNat ≤ 5) ∧ loopO (f56_l5 a) 0 = some (.inr 4)) :=
 scan (body := f56_l5 a) (q := fun i => (a.Him i).toNat ≤ 5) (fun i h => by
  unfold f56_l5 f56_l5_j6 f56_l5_j7
  rw [decide_eq_true (p := (i : Int) < 256) (by omega)]
  simp only [cond_true, inR_nat i 256 h, Option.bind_some, qknown_eq]
  by_cases hq : (a.Him i).toNat ≤ 5
  ·left
   rw [decide_eq_true (by omega), i64w _ (by omega)]
   exact ⟨hq, rfl⟩
  ·right
   rw [decide_eq_false (by omega)]
   exact ⟨hq, rfl⟩) rfl
theorem qchk_eq (a : GNeg) : (okN a ∧ f56 a = some 0) ∨ (¬ okN a ∧ f56 a = some 4) := by
 unfold f56 f56_j0
 rcases us_scan a with ⟨h1, e1⟩ | ⟨h1, e1⟩
 ·rw [e1]
  simp only [Option.bind_some, Sum.elim_inl]
  unfold f56_j4
  rcases him_scan a with ⟨h2, e2⟩ | ⟨h2, e2⟩
  ·rw [e2]; exact .inl ⟨fun i hi => ⟨h1 i hi, h2 i hi⟩, rfl⟩
  ·rw [e2]; exact .inr ⟨fun h => h2 fun i hi => (h i hi).2, rfl⟩
 ·rw [e1]; exact .inr ⟨fun h => h1 fun i hi => (h i hi).1, rfl⟩
theorem six (s : Int) (h : 0 ≤ s ∧ s ≤ 5) : s = 0 ∨ s = 1 ∨ s = 2 ∨ s = 3 ∨ s = 4 ∨ s = 5 := by omega
theorem u8_5 (z : Int) (h : 0 ≤ z ∧ z ≤ 5) : (u8 z).toNat ≤ 5 := by have := u8_u8 z; omega
end Go.Proofs.YtobkkblijfhpoaaGreatDoor.Pm
