/- ScreenSize_walk: what the typed functions compute, and the laws. -/
import Derived.Test.YtjoccdgmcdkbkaaGreatDoorDSzZ
import Derived.Test.YtjoccdgmcdkbkaaGreatDoorBa0
namespace Go.Proofs.YtjoccdgmcdkbkaaGreatDoor.Pm
open Go.Proofs.YtjoccdgmcdkbkaaGreatDoor.Args
open Go.ChangeShapes Go.WideShapes Go.ChangeAt Go.RowKit
set_option linter.unusedVariables false
set_option linter.unusedSimpArgs false
set_option maxRecDepth 100000
theorem inR_nat (i n : Nat) (h : i < n) : inR (i : Int) n = some i := by unfold inR; rw [if_pos (by omega)]; simp
theorem loop_to {σ ρ : Type} {body : σ → Option (σ ⊕ ρ)} (f : Nat → σ) (r : ρ) (n : Nat) (hn : body (f n) = some (.inr r)) : ∀ k, k ≤ n → (∀ i, k ≤ i → i < n → body (f i) = some (.inl (f (i + 1)))) → loopO body (f k) = some r := by
  intro k hk h
  induction hd : n - k generalizing k with
  | zero =>
    have : k = n := by omega
    subst this; exact loopO_done hn
  | succ d ih => exact loopO_next (h k (by omega) (by omega)) (ih (k + 1) (by omega) (fun i h1 h2 => h i (by omega) h2) (by omega))
theorem first_bad (P : Nat → Bool) : ∀ n, (∀ i, i < n → P i = true) ∨ ∃ k, k < n ∧ P k = false ∧ ∀ i, i < k → P i = true
  | 0 => .inl fun i h => absurd h (by omega)
  | n + 1 => by
    rcases first_bad P n with h | ⟨k, h1, h2, h3⟩
    · cases hp : P n with
      | true => exact .inl fun i hi => by rcases Nat.lt_succ_iff_lt_or_eq.1 hi with h' | rfl; exact h i h'; exact hp
      | false => exact .inr ⟨n, by omega, hp, h⟩
    · exact .inr ⟨k, by omega, h2, h3⟩
theorem loop_scan {σ ρ : Type} {body : σ → Option (σ ⊕ ρ)} (f : Nat → σ) (r0 r1 : ρ) (n : Nat) (P : Nat → Bool) (h1 : ∀ i, i < n → P i = true → body (f i) = some (.inl (f (i + 1)))) (h2 : ∀ i, i < n → P i = false → body (f i) = some (.inr r1))
    (h0 : body (f n) = some (.inr r0)) : loopO body (f 0) = some (if ∀ i, i < n → P i = true then r0 else r1) := by
  rcases first_bad P n with h | ⟨k, hk, hb, hg⟩
  · rw [if_pos h]; exact loop_to f r0 n h0 0 (by omega) fun i _ hi => h1 i hi (h i hi)
  · rw [if_neg (fun h => by rw [h k hk] at hb; cases hb)]
    exact loop_to f r1 k (h2 k hk hb) 0 (by omega) fun i _ hi => h1 i (by omega) (hg i hi)
theorem wr1 (i : Nat) (h : i < 1000000000) : IntKind.i64.wrap ((i : Int) + 1) = ((i + 1 : Nat) : Int) := by rw [i64w _ (by omega)]; omega
theorem dt {p : Prop} [Decidable p] (h : p) : decide p = true := decide_eq_true h
theorem df {p : Prop} [Decidable p] (h : ¬ p) : decide p = false := decide_eq_false h
theorem bct {α : Type} {b : Bool} {x y : α} (h : b = true) : (bif b then x else y) = x := by rw [h, ct]
theorem bcf {α : Type} {b : Bool} {x y : α} (h : b = false) : (bif b then x else y) = y := by rw [h, cf]
theorem idx_nat {α : Type} (l : List α) (i : Nat) (z : α) (h : i < l.length) : idx l (i : Int) = some (l.getD i z) := by
  unfold idx; rw [if_pos (by omega)]; simp [h]
/-- Widths. -/
def hit (a : Int) (x : Int × Int) : Bool := decide (x.1 ≤ a) && decide (a ≤ x.2)
theorem in_ok (a : Int) (l : List (Int × Int)) (hl : l.length ≤ 1000) : f107 a l = some (l.any (hit a)) := by
  unfold f107
  have h := loop_scan (body := f107_l0 a l) (fun i => (i : Int)) (.inl ()) (.inr true) l.length (fun i => !(hit a (l.getD i (0, 0)))) ?_ ?_ ?_
  · rw [show ((0 : Nat) : Int) = 0 from rfl] at h
    rw [h, bs]
    by_cases hp : ∀ i, i < l.length → (!(hit a (l.getD i (0, 0)))) = true
    · rw [if_pos hp]
      show some false = _
      have : l.any (hit a) = false := by
        rw [List.any_eq_false]
        intro x hx
        obtain ⟨i, hi, rfl⟩ := List.getElem_of_mem hx
        have := hp i hi
        simp [hi] at this
        simp [this]
      rw [this]
    · rw [if_neg hp]
      show some true = _
      have : l.any (hit a) = true := by
        rw [List.any_eq_true]
        rcases first_bad (fun i => !(hit a (l.getD i (0, 0)))) l.length with h | ⟨k, hk, hb, _⟩
        · exact absurd h hp
        · refine ⟨l[k], List.getElem_mem hk, ?_⟩
          simp [hk] at hb
          exact hb
      rw [this]
  · intro i hi hp
    unfold f107_l0 f107_l0_j1 f107_l0_j2
    simp only [hit, Bool.not_eq_true', Bool.and_eq_false_imp, decide_eq_true_eq, decide_eq_false_iff_not] at hp
    rw [bct (dt (by omega)), ct, idx_nat l i (0, 0) hi, bs]
    by_cases h1 : (l.getD i (0, 0)).1 ≤ a
    · rw [bct (dt h1), bcf (df (hp h1)), wr1 i (by omega)]
    · rw [bcf (df h1), wr1 i (by omega)]
  · intro i hi hp
    unfold f107_l0 f107_l0_j1 f107_l0_j2
    simp only [hit, Bool.not_eq_false', Bool.and_eq_true, decide_eq_true_eq] at hp
    rw [bct (dt (by omega)), ct, idx_nat l i (0, 0) hi, bs, bct (dt hp.1), bct (dt hp.2)]
  · unfold f107_l0 f107_l0_j1
    rw [bcf (df (by omega)), cf]
def noneL : List (Int × Int) := [(0, 31), (127, 159), (768, 879), (8203, 8207), (55296, 57343), (65024, 65039)]
def twoL : List (Int × Int) := [(4352, 4447), (11904, 12350), (12353, 19903), (19968, 42191), (44032, 55203), (63744, 64255), (65072, 65135), (65280, 65376), (65504, 65510), (127744, 128591), (129280, 129535), (131072, 262141)]
def wd (a : Int) : Int := if a < 0 ∨ 1114111 < a ∨ noneL.any (hit a) = true then 0 else if twoL.any (hit a) = true then 2 else 1
theorem width_ok (a : Int) : f76 a = some (wd a) := by
  unfold f76 f76_j0 wd
  rw [in_ok a _ (by decide), in_ok a _ (by decide)]
  simp only [bs]
  rw [show ([(0, 31), (127, 159), (768, 879), (8203, 8207), (55296, 57343), (65024, 65039)] : List (Int × Int)) = noneL from rfl,
    show ([(4352, 4447), (11904, 12350), (12353, 19903), (19968, 42191), (44032, 55203), (63744, 64255), (65072, 65135), (65280, 65376), (65504, 65510), (127744, 128591), (129280, 129535), (131072, 262141)] : List (Int × Int)) = twoL from rfl]
  by_cases h1 : a < 0
  · rw [bct (dt h1), ct, if_pos (.inl h1)]
  · rw [bcf (df h1)]
    by_cases h2 : 1114111 < a
    · rw [bct (dt h2), ct, if_pos (.inr (.inl h2))]
    · rw [bcf (df h2)]
      cases h3 : noneL.any (hit a) with
      | true => rw [ct, if_pos (.inr (.inr rfl))]
      | false =>
        rw [cf, if_neg (by simp [h1, h2])]
        cases h4 : twoL.any (hit a) with
        | true => rw [ct, if_pos rfl]
        | false => rw [cf, if_neg (by simp)]
theorem wd0 : wd 0 = 0 := by decide
theorem wd32 : wd 32 = 1 := by decide
def stepW (a : Int) (p : Int) (e : Int × Int) : Int := if e.1 ≤ a then e.2 else p
def tabW : List (Int × Int) := [(0, 0), (32, 1), (127, 0), (160, 1), (768, 0), (880, 1), (4352, 2), (4448, 1), (8203, 0), (8208, 1), (11904, 2), (12351, 1), (12353, 2), (19904, 1), (19968, 2), (42192, 1), (44032, 2), (55204, 1), (63744, 2), (64256, 1), (65024, 0), (65040, 1), (65072, 2), (65136, 1), (65280, 2), (65377, 1), (65504, 2), (65511, 1), (127744, 2), (128592, 1), (129280, 2), (129536, 1), (131072, 2), (262142, 1)]
theorem btw_ok (a lo hi : Int) : f46 a lo hi = some (decide (lo ≤ a) && decide (a ≤ hi)) := by
  unfold f46
  cases decide (lo ≤ a) <;> cases decide (a ≤ hi) <;> rfl
theorem rune_ok (a : Int) : f106 a = some ((decide (0 ≤ a) && decide (a ≤ 55295)) || (decide (57344 ≤ a) && decide (a ≤ 1114111))) := by
  unfold f106
  rw [btw_ok, bs, btw_ok, bs]
  cases (decide (0 ≤ a) && decide (a ≤ 55295)) <;> simp [ct, cf]
theorem tabW_len : tabW.length = 34 := rfl
theorem widthT_loop (a : Int) : loopO (f71_l1 a) (0, 0) = some (tabW.foldl (stepW a) 0) := by
  have h := loop_to (body := f71_l1 a) (fun i => ((tabW.take i).foldl (stepW a) 0, (i : Int))) (tabW.foldl (stepW a) 0) 34 ?_ 0 (by omega) ?_
  · exact h
  · unfold f71_l1 f71_l1_j2
    simp only []
    rw [bcf (df (by simp)), cf]
    rfl
  · intro i _ hi
    unfold f71_l1 f71_l1_j2 f71_l1_j3
    rw [show ([(0, 0), (32, 1), (127, 0), (160, 1), (768, 0), (880, 1), (4352, 2), (4448, 1), (8203, 0), (8208, 1), (11904, 2), (12351, 1), (12353, 2), (19904, 1), (19968, 2), (42192, 1), (44032, 2), (55204, 1), (63744, 2), (64256, 1), (65024, 0), (65040, 1), (65072, 2), (65136, 1), (65280, 2), (65377, 1), (65504, 2), (65511, 1), (127744, 2), (128592, 1), (129280, 2), (129536, 1), (131072, 2), (262142, 1)] : List (Int × Int)) = tabW from rfl]
    dsimp only []
    rw [tabW_len]
    have ht : tabW[i]? = some (tabW.getD i (0, 0)) := by
      have : i < tabW.length := hi
      simp [this]
    rw [bct (dt (by omega)), ct, inR_nat i 34 hi, bs, ht, bs, wr1 i (by omega)]
    have e : (tabW.take (i + 1)).foldl (stepW a) 0 = stepW a ((tabW.take i).foldl (stepW a) 0) (tabW.getD i (0, 0)) := by
      rw [List.take_add_one, ht, List.foldl_append]; rfl
    rw [e]
    unfold stepW
    by_cases h : (tabW.getD i (0, 0)).1 ≤ a
    · rw [bct (dt h), if_pos h]
    · rw [bcf (df h), if_neg h]
theorem any_f (l : List (Int × Int)) (a lo hi : Int) (h : (l.all fun x => decide (hi < x.1) || decide (x.2 < lo)) = true) (h1 : lo ≤ a) (h2 : a ≤ hi) : l.any (hit a) = false := by
  rw [List.any_eq_false]
  intro x hx
  have := List.all_eq_true.1 h x hx
  simp only [Bool.or_eq_true, decide_eq_true_eq] at this
  simp only [hit, Bool.and_eq_true, decide_eq_true_eq]; omega
theorem any_t (l : List (Int × Int)) (a lo hi : Int) (h : (l.any fun x => decide (x.1 ≤ lo) && decide (hi ≤ x.2)) = true) (h1 : lo ≤ a) (h2 : a ≤ hi) : l.any (hit a) = true := by
  obtain ⟨x, hx, hp⟩ := List.any_eq_true.1 h
  simp only [Bool.and_eq_true, decide_eq_true_eq] at hp
  rw [List.any_eq_true]
  refine ⟨x, hx, ?_⟩
  simp only [hit, Bool.and_eq_true, decide_eq_true_eq]; omega
theorem wd_0 (a lo hi : Int) (h : (noneL.any fun x => decide (x.1 ≤ lo) && decide (hi ≤ x.2)) = true) (h1 : lo ≤ a) (h2 : a ≤ hi) : 0 = wd a := by
  unfold wd; rw [if_pos (.inr (.inr (any_t _ a lo hi h h1 h2)))]
theorem wd_2 (a lo hi : Int) (h : ((noneL.all fun x => decide (hi < x.1) || decide (x.2 < lo)) && (twoL.any fun x => decide (x.1 ≤ lo) && decide (hi ≤ x.2))) = true) (h1 : lo ≤ a) (h2 : a ≤ hi) (h3 : 0 ≤ lo) (h4 : hi ≤ 1114111) : 2 = wd a := by
  rw [Bool.and_eq_true] at h
  unfold wd; rw [any_f _ a lo hi h.1 h1 h2, any_t _ a lo hi h.2 h1 h2, if_neg (by rintro (q | q | q); omega; omega; cases q), if_pos rfl]
theorem wd_1 (a lo hi : Int) (h : ((noneL.all fun x => decide (hi < x.1) || decide (x.2 < lo)) && (twoL.all fun x => decide (hi < x.1) || decide (x.2 < lo))) = true) (h1 : lo ≤ a) (h2 : a ≤ hi) (h3 : 0 ≤ lo) (h4 : hi ≤ 1114111) : 1 = wd a := by
  rw [Bool.and_eq_true] at h
  unfold wd; rw [any_f _ a lo hi h.1 h1 h2, any_f _ a lo hi h.2 h1 h2, if_neg (by rintro (q | q | q); omega; omega; cases q), if_neg (by intro q; cases q)]
theorem tab_wd (a : Int) (h0 : 0 ≤ a) (h1 : a ≤ 1114111) (hs : ¬ (55296 ≤ a ∧ a ≤ 57343)) : tabW.foldl (stepW a) 0 = wd a := by
  simp only [tabW, List.foldl_cons, List.foldl_nil, stepW]
  by_cases g262142 : 262142 ≤ a
  · rw [if_pos g262142]; exact wd_1 a 262142 1114111 (by decide) (by omega) (by omega) (by omega) (by omega)
  rw [if_neg g262142]
  by_cases g131072 : 131072 ≤ a
  · rw [if_pos g131072]; exact wd_2 a 131072 262141 (by decide) (by omega) (by omega) (by omega) (by omega)
  rw [if_neg g131072]
  by_cases g129536 : 129536 ≤ a
  · rw [if_pos g129536]; exact wd_1 a 129536 131071 (by decide) (by omega) (by omega) (by omega) (by omega)
  rw [if_neg g129536]
  by_cases g129280 : 129280 ≤ a
  · rw [if_pos g129280]; exact wd_2 a 129280 129535 (by decide) (by omega) (by omega) (by omega) (by omega)
  rw [if_neg g129280]
  by_cases g128592 : 128592 ≤ a
  · rw [if_pos g128592]; exact wd_1 a 128592 129279 (by decide) (by omega) (by omega) (by omega) (by omega)
  rw [if_neg g128592]
  by_cases g127744 : 127744 ≤ a
  · rw [if_pos g127744]; exact wd_2 a 127744 128591 (by decide) (by omega) (by omega) (by omega) (by omega)
  rw [if_neg g127744]
  by_cases g65511 : 65511 ≤ a
  · rw [if_pos g65511]; exact wd_1 a 65511 127743 (by decide) (by omega) (by omega) (by omega) (by omega)
  rw [if_neg g65511]
  by_cases g65504 : 65504 ≤ a
  · rw [if_pos g65504]; exact wd_2 a 65504 65510 (by decide) (by omega) (by omega) (by omega) (by omega)
  rw [if_neg g65504]
  by_cases g65377 : 65377 ≤ a
  · rw [if_pos g65377]; exact wd_1 a 65377 65503 (by decide) (by omega) (by omega) (by omega) (by omega)
  rw [if_neg g65377]
  by_cases g65280 : 65280 ≤ a
  · rw [if_pos g65280]; exact wd_2 a 65280 65376 (by decide) (by omega) (by omega) (by omega) (by omega)
  rw [if_neg g65280]
  by_cases g65136 : 65136 ≤ a
  · rw [if_pos g65136]; exact wd_1 a 65136 65279 (by decide) (by omega) (by omega) (by omega) (by omega)
  rw [if_neg g65136]
  by_cases g65072 : 65072 ≤ a
  · rw [if_pos g65072]; exact wd_2 a 65072 65135 (by decide) (by omega) (by omega) (by omega) (by omega)
  rw [if_neg g65072]
  by_cases g65040 : 65040 ≤ a
  · rw [if_pos g65040]; exact wd_1 a 65040 65071 (by decide) (by omega) (by omega) (by omega) (by omega)
  rw [if_neg g65040]
  by_cases g65024 : 65024 ≤ a
  · rw [if_pos g65024]; exact wd_0 a 65024 65039 (by decide) (by omega) (by omega)
  rw [if_neg g65024]
  by_cases g64256 : 64256 ≤ a
  · rw [if_pos g64256]; exact wd_1 a 64256 65023 (by decide) (by omega) (by omega) (by omega) (by omega)
  rw [if_neg g64256]
  by_cases g63744 : 63744 ≤ a
  · rw [if_pos g63744]; exact wd_2 a 63744 64255 (by decide) (by omega) (by omega) (by omega) (by omega)
  rw [if_neg g63744]
  by_cases g55204 : 55204 ≤ a
  · rw [if_pos g55204]
    by_cases hq : a ≤ 55295
    · exact wd_1 a 55204 55295 (by decide) (by omega) (by omega) (by omega) (by omega)
    · exact wd_1 a 57344 63743 (by decide) (by omega) (by omega) (by omega) (by omega)
  rw [if_neg g55204]
  by_cases g44032 : 44032 ≤ a
  · rw [if_pos g44032]; exact wd_2 a 44032 55203 (by decide) (by omega) (by omega) (by omega) (by omega)
  rw [if_neg g44032]
  by_cases g42192 : 42192 ≤ a
  · rw [if_pos g42192]; exact wd_1 a 42192 44031 (by decide) (by omega) (by omega) (by omega) (by omega)
  rw [if_neg g42192]
  by_cases g19968 : 19968 ≤ a
  · rw [if_pos g19968]; exact wd_2 a 19968 42191 (by decide) (by omega) (by omega) (by omega) (by omega)
  rw [if_neg g19968]
  by_cases g19904 : 19904 ≤ a
  · rw [if_pos g19904]; exact wd_1 a 19904 19967 (by decide) (by omega) (by omega) (by omega) (by omega)
  rw [if_neg g19904]
  by_cases g12353 : 12353 ≤ a
  · rw [if_pos g12353]; exact wd_2 a 12353 19903 (by decide) (by omega) (by omega) (by omega) (by omega)
  rw [if_neg g12353]
  by_cases g12351 : 12351 ≤ a
  · rw [if_pos g12351]; exact wd_1 a 12351 12352 (by decide) (by omega) (by omega) (by omega) (by omega)
  rw [if_neg g12351]
  by_cases g11904 : 11904 ≤ a
  · rw [if_pos g11904]; exact wd_2 a 11904 12350 (by decide) (by omega) (by omega) (by omega) (by omega)
  rw [if_neg g11904]
  by_cases g8208 : 8208 ≤ a
  · rw [if_pos g8208]; exact wd_1 a 8208 11903 (by decide) (by omega) (by omega) (by omega) (by omega)
  rw [if_neg g8208]
  by_cases g8203 : 8203 ≤ a
  · rw [if_pos g8203]; exact wd_0 a 8203 8207 (by decide) (by omega) (by omega)
  rw [if_neg g8203]
  by_cases g4448 : 4448 ≤ a
  · rw [if_pos g4448]; exact wd_1 a 4448 8202 (by decide) (by omega) (by omega) (by omega) (by omega)
  rw [if_neg g4448]
  by_cases g4352 : 4352 ≤ a
  · rw [if_pos g4352]; exact wd_2 a 4352 4447 (by decide) (by omega) (by omega) (by omega) (by omega)
  rw [if_neg g4352]
  by_cases g880 : 880 ≤ a
  · rw [if_pos g880]; exact wd_1 a 880 4351 (by decide) (by omega) (by omega) (by omega) (by omega)
  rw [if_neg g880]
  by_cases g768 : 768 ≤ a
  · rw [if_pos g768]; exact wd_0 a 768 879 (by decide) (by omega) (by omega)
  rw [if_neg g768]
  by_cases g160 : 160 ≤ a
  · rw [if_pos g160]; exact wd_1 a 160 767 (by decide) (by omega) (by omega) (by omega) (by omega)
  rw [if_neg g160]
  by_cases g127 : 127 ≤ a
  · rw [if_pos g127]; exact wd_0 a 127 159 (by decide) (by omega) (by omega)
  rw [if_neg g127]
  by_cases g32 : 32 ≤ a
  · rw [if_pos g32]; exact wd_1 a 32 126 (by decide) (by omega) (by omega) (by omega) (by omega)
  rw [if_neg g32]
  by_cases g0 : 0 ≤ a
  · rw [if_pos g0]; exact wd_0 a 0 31 (by decide) (by omega) (by omega)
  rw [if_neg g0]
  omega
theorem widthR_ok (a : Int) : f71 a = some (wd a) := by
  unfold f71 f71_j0
  rw [rune_ok, bs, widthT_loop, bs]
  by_cases h : (0 ≤ a ∧ a ≤ 55295) ∨ (57344 ≤ a ∧ a ≤ 1114111)
  · have : ((decide (0 ≤ a) && decide (a ≤ 55295)) || (decide (57344 ≤ a) && decide (a ≤ 1114111))) = true := by simpa using h
    rw [this, Bool.not_true, cf, tab_wd a (by omega) (by omega) (by omega)]
  · have : ((decide (0 ≤ a) && decide (a ≤ 55295)) || (decide (57344 ≤ a) && decide (a ≤ 1114111))) = false := by
      simp only [Bool.or_eq_false_iff, Bool.and_eq_false_imp, decide_eq_true_eq, decide_eq_false_iff_not]; omega
    rw [this, Bool.not_false, ct]
    have : wd a = 0 := by
      unfold wd
      rw [if_pos]
      by_cases h1 : a < 0
      · exact .inl h1
      · by_cases h2 : 1114111 < a
        · exact .inr (.inl h2)
        · refine .inr (.inr ?_)
          simp only [noneL, List.any_cons, List.any_nil, hit, Bool.or_false, Bool.or_eq_true, Bool.and_eq_true, decide_eq_true_eq]; omega
    rw [this]
/-- Pens. -/
def colB (n : Int) : Bool := (decide (0 ≤ n) && decide (n ≤ 256)) || (decide (16777216 ≤ n) && decide (n < 33554432))
def pcB (p : GPen) : Bool := (decide (0 ≤ p.Flags) && decide (p.Flags ≤ 255)) && (colB p.Fore && colB p.Back)
def pcI (p : GPen) : Int := if pcB p = true then 0 else 4
theorem col_ok (n : Int) : f78 n = some (colB n) := by
  unfold f78 colB
  cases decide (0 ≤ n) <;> cases decide (n ≤ 256) <;> cases decide (16777216 ≤ n) <;> cases decide (n < 33554432) <;> rfl
theorem pen_ok (p : GPen) : f50 p = some (pcI p) := by
  unfold f50 pcI pcB
  rw [col_ok, col_ok]
  simp only [bs]
  by_cases h1 : p.Flags < 0
  · rw [bct (dt h1), df (p := 0 ≤ p.Flags) (by omega)]; rfl
  · rw [bcf (df h1), dt (p := 0 ≤ p.Flags) (by omega)]
    by_cases h2 : 255 < p.Flags
    · rw [bct (dt h2), df (p := p.Flags ≤ 255) (by omega)]; rfl
    · rw [bcf (df h2), dt (p := p.Flags ≤ 255) (by omega)]
      cases colB p.Fore <;> cases colB p.Back <;> rfl
theorem two24 : f73 24 = some 16777216 := by
  unfold f73
  rw [loopO_of (n := 40) (body := f73_l0 24) (x := (1, 0)) (r := 16777216) (by kernel_rfl), bs]
theorem two25 : f73 25 = some 33554432 := by
  unfold f73
  rw [loopO_of (n := 40) (body := f73_l0 25) (x := (1, 0)) (r := 33554432) (by kernel_rfl), bs]
theorem penR_ok (p : GPen) : f47 p = some (pcI p) := by
  unfold f47
  have h := loop_scan (body := f47_l1 p) (fun i => (i : Int)) (.inl ()) (.inr 4) 2 (fun i => colB ([p.Fore, p.Back].getD i 0)) ?_ ?_ ?_
  · rw [show ((0 : Nat) : Int) = 0 from rfl] at h
    rw [h, bs]
    unfold f47_j0 pcI pcB
    rw [btw_ok, bs]
    have e : (∀ i, i < 2 → colB ([p.Fore, p.Back].getD i 0) = true) ↔ (colB p.Fore && colB p.Back) = true := by
      rw [Bool.and_eq_true]
      constructor
      · intro h; exact ⟨h 0 (by omega), h 1 (by omega)⟩
      · rintro ⟨h1, h2⟩ i hi
        match i, hi with
        | 0, _ => exact h1
        | 1, _ => exact h2
    by_cases hc : (colB p.Fore && colB p.Back) = true
    · rw [if_pos (e.2 hc), hc, Bool.and_true]
      show (bif !(decide (0 ≤ p.Flags) && decide (p.Flags ≤ 255)) then _ else _) = _
      cases (decide (0 ≤ p.Flags) && decide (p.Flags ≤ 255)) <;> rfl
    · rw [if_neg (fun h => hc (e.1 h)), if_neg (fun h => hc (Bool.and_eq_true _ _ ▸ h).2)]
      rfl
  all_goals
    try intro i hi hp
    try unfold f47_l1 f47_l1_j2 f47_l1_j3
  · have hi' : [p.Fore, p.Back][i]? = some ([p.Fore, p.Back].getD i 0) := by
      match i, hi with
      | 0, _ => rfl
      | 1, _ => rfl
    simp only [List.length_cons, List.length_nil]
    rw [bct (dt (by omega)), ct, inR_nat i _ hi, bs, hi', bs, btw_ok, bs, two24, two25, bs, bs, btw_ok, bs, wr1 i (by omega)]
    unfold colB at hp
    generalize [p.Fore, p.Back].getD i 0 = v at hp ⊢
    cases hq : (decide (0 ≤ v) && decide (v ≤ 256)) with
    | true => rfl
    | false =>
      rw [hq, Bool.false_or] at hp
      rw [Bool.not_false, ct, show IntKind.i64.wrap (33554432 - 1) = 33554431 from rfl]
      have : (decide (16777216 ≤ v) && decide (v ≤ 33554431)) = true := by
        simp only [Bool.and_eq_true, decide_eq_true_eq] at hp ⊢; omega
      rw [this]; rfl
  · have hi' : [p.Fore, p.Back][i]? = some ([p.Fore, p.Back].getD i 0) := by
      match i, hi with
      | 0, _ => rfl
      | 1, _ => rfl
    simp only [List.length_cons, List.length_nil]
    rw [bct (dt (by omega)), ct, inR_nat i _ hi, bs, hi', bs, btw_ok, bs, two24, two25, bs, bs, btw_ok, bs]
    unfold colB at hp
    generalize [p.Fore, p.Back].getD i 0 = v at hp ⊢
    rw [Bool.or_eq_false_iff] at hp
    rw [hp.1, Bool.not_false, ct, show IntKind.i64.wrap (33554432 - 1) = 33554431 from rfl]
    have : (decide (16777216 ≤ v) && decide (v ≤ 33554431)) = false := by
      have := hp.2
      simp only [Bool.and_eq_false_imp, decide_eq_true_eq, decide_eq_false_iff_not] at this ⊢; omega
    rw [this]; rfl
  · simp only [List.length_cons, List.length_nil]
    rw [bcf (df (by omega)), cf]

def P0 : GPen := ⟨0, 0, 0⟩
def Z0 : GCell := ⟨0, P0⟩
abbrev cx (l : List GCell) (i : Nat) : GCell := l.getD i Z0
def blank (p : GPen) : GCell := ⟨32, p⟩
def peq (p q : GPen) : Bool := decide (p.Flags = q.Flags) && (decide (p.Fore = q.Fore) && (decide (p.Back = q.Back) && true))
theorem peq_iff (p q : GPen) : peq p q = true ↔ p = q := by
  obtain ⟨a, b, c⟩ := p; obtain ⟨d, e, f⟩ := q
  simp [peq]
theorem peq_comm (p q : GPen) : peq p q = peq q p := by
  rw [Bool.eq_iff_iff, peq_iff, peq_iff]; exact eq_comm
def ceq (c d : GCell) : Bool := decide (c.Rune = d.Rune) && peq c.Pen d.Pen
theorem ceq_iff (c d : GCell) : ceq c d = true ↔ c = d := by
  obtain ⟨a, p⟩ := c; obtain ⟨b, q⟩ := d
  simp [ceq, peq_iff]
/-- The rest of a wide character. -/
def tlF (f : Nat → GCell) (W k : Nat) : Bool := decide (k < W) && (decide ((f k).Rune = 0) && peq (f k).Pen (f (k - 1)).Pen)
def loneF (f : Nat → GCell) (W i : Nat) : Bool :=
  if (f i).Rune = 0 then (decide (i = 0) || (!decide (wd (f (i - 1)).Rune = 2) || !tlF f W i)) else (decide (wd (f i).Rune = 2) && !tlF f W (i + 1))
theorem cx_idx (l : List GCell) (i : Nat) (h : i < l.length) : idx l (i : Int) = some (cx l i) := idx_nat l i Z0 h
theorem wrm (k : Nat) (h1 : 1 ≤ k) (h : k < 1000000000) : IntKind.i64.wrap ((k : Int) - 1) = ((k - 1 : Nat) : Int) := by rw [i64w _ (by omega)]; omega
theorem tail_ok (l : List GCell) (k : Nat) (h1 : 1 ≤ k) (hk : k ≤ l.length) (hl : l.length ≤ 1000000) (r : List PD) : f108 (k : Int) l r = some (tlF (cx l) l.length k) := by
  unfold f108 tlF
  by_cases h : k < l.length
  · rw [bct (dt (by omega)), dt h, Bool.true_and, cx_idx l k h, bs]
    by_cases h0 : (cx l k).Rune = 0
    · rw [bct (dt h0), dt h0, Bool.true_and, bs, wrm k h1 (by omega), cx_idx l (k - 1) (by omega), bs]
      show (bif peq (cx l k).Pen (cx l (k - 1)).Pen then some true else some false) = _
      cases peq (cx l k).Pen (cx l (k - 1)).Pen <;> rfl
    · rw [bcf (df h0), df h0, Bool.false_and]
  · rw [bcf (df (by omega)), df h, Bool.false_and]
theorem lone_ok (l : List GCell) (i : Nat) (h : i < l.length) (hl : l.length ≤ 1000000) : f77 l (i : Int) = some (loneF (cx l) l.length i) := by
  unfold f77 f77_j0 loneF
  rw [cx_idx l i h, bs]
  by_cases h0 : (cx l i).Rune = 0
  · rw [bct (dt h0), if_pos h0]
    by_cases hi : i = 0
    · rw [bct (dt (by omega)), dt hi, Bool.true_or]
    · rw [bcf (df (by omega)), df hi, Bool.false_or, wrm i (by omega) (by omega), cx_idx l (i - 1) (by omega), bs, width_ok, bs, tail_ok l i (by omega) (by omega) hl, bs]
      cases decide (wd (cx l (i - 1)).Rune = 2) <;> rfl
  · rw [bcf (df h0), if_neg h0, bs, width_ok, bs, wr1 i (by omega), tail_ok l (i + 1) (by omega) (by omega) hl, bs]
    cases decide (wd (cx l i).Rune = 2) <;> rfl
theorem whole_ok (l : List GCell) (i : Nat) (h : i < l.length) (hl : l.length ≤ 1000000) : f72 l (i : Int) = some (!loneF (cx l) l.length i) := by
  unfold f72 f72_j0 loneF
  rw [cx_idx l i h, bs]
  by_cases h0 : (cx l i).Rune = 0
  · rw [bct (dt h0), if_pos h0]
    by_cases hi : i = 0
    · rw [bcf (df (by omega)), dt hi]; rfl
    · rw [bct (dt (by omega)), df hi, Bool.false_or, wrm i (by omega) (by omega), cx_idx l (i - 1) (by omega), bs, widthR_ok, bs, bs, bs]
      unfold tlF
      rw [dt h, dt h0, Bool.true_and, Bool.true_and, peq_comm]
      show (bif _ then (bif peq (cx l (i - 1)).Pen (cx l i).Pen then some true else some false) else some false) = _
      cases decide (wd (cx l (i - 1)).Rune = 2) <;> cases peq (cx l (i - 1)).Pen (cx l i).Pen <;> rfl
  · rw [bcf (df h0), if_neg h0, bs, widthR_ok, bs, wr1 i (by omega)]
    unfold tlF
    cases hw : decide (wd (cx l i).Rune = 2) with
    | false => rfl
    | true =>
      rw [Bool.not_true, cf]
      by_cases h1 : i + 1 < l.length
      · rw [bct (dt (by omega)), dt h1, Bool.true_and, cx_idx l (i + 1) h1, bs]
        by_cases h2 : (cx l (i + 1)).Rune = 0
        · rw [bct (dt h2), dt h2, Bool.true_and, bs, bs, show i + 1 - 1 = i from rfl]
          show (bif peq (cx l (i + 1)).Pen (cx l i).Pen then some true else some false) = _
          cases peq (cx l (i + 1)).Pen (cx l i).Pen <;> rfl
        · rw [bcf (df h2), df h2]; rfl
      · rw [bcf (df (by omega)), df h1]; rfl
theorem loneF_congr (f g : Nat → GCell) (W i : Nat) (hi : i < W) (h : ∀ k, k < W → f k = g k) : loneF f W i = loneF g W i := by
  unfold loneF tlF
  rw [h i hi, h (i - 1) (by omega), show i + 1 - 1 = i from rfl, h i hi]
  by_cases h1 : i + 1 < W
  · rw [h (i + 1) h1]
  · rw [df h1]; rfl
def okB (f : Nat → GCell) (W i : Nat) : Bool := pcB (f i).Pen && ((decide ((f i).Rune = 0) || !decide (wd (f i).Rune = 0)) && !loneF f W i)
theorem okB_congr (f g : Nat → GCell) (W i : Nat) (hi : i < W) (h : ∀ k, k < W → f k = g k) : okB f W i = okB g W i := by
  unfold okB; rw [h i hi, loneF_congr f g W i hi h]
/-- Row n of cells. -/
def rowF (W : Nat) (c : List GCell) (n : Nat) : Nat → GCell := fun i => cx c (n * W + i)
def Rt (W H : Nat) (c : List GCell) : Prop := ∀ n, n < H → (∀ i, i < W → okB (rowF W c n) W i = true)
instance (W H : Nat) (c : List GCell) : Decidable (Rt W H c) := by unfold Rt; infer_instance
def rowL (W : Nat) (c : List GCell) (n : Nat) : List GCell := (c.take ((n + 1) * W)).drop (n * W)
theorem mul_le (n H W : Nat) (h : n < H) : (n + 1) * W ≤ W * H := by rw [Nat.mul_comm W H]; exact Nat.mul_le_mul_right W h
theorem mul_lt (n H W i : Nat) (h : n < H) (hi : i < W) : n * W + i < W * H := by
  have := mul_le n H W h
  rw [Nat.succ_mul] at this; omega
theorem rowL_len (W H : Nat) (c : List GCell) (n : Nat) (hc : c.length = W * H) (hn : n < H) : (rowL W c n).length = W := by
  have := mul_le n H W hn
  unfold rowL
  rw [List.length_drop, List.length_take, Nat.min_eq_left (by omega), Nat.succ_mul]; omega
theorem rowL_cx (W H : Nat) (c : List GCell) (n i : Nat) (hc : c.length = W * H) (hn : n < H) (hi : i < W) : cx (rowL W c n) i = rowF W c n i := by
  have := mul_le n H W hn
  unfold rowL rowF cx
  rw [List.getD_eq_getElem?_getD, List.getD_eq_getElem?_getD, List.getElem?_drop, List.getElem?_take, if_pos (by rw [Nat.succ_mul]; omega)]
theorem size_le (W H : Nat) (hW : W ≤ 160) (hH : H ≤ 60) : W * H ≤ 9600 := by
  have := Nat.mul_le_mul hW hH; omega
theorem wrW (W H n : Nat) (hW : W ≤ 160) (hH : H ≤ 60) (hn : n ≤ H) : IntKind.i64.wrap ((n : Int) * (W : Int)) = ((n * W : Nat) : Int) := by
  have h1 := Nat.mul_le_mul hn hW
  have h2 : n * W ≤ 9600 := by omega
  rw [show (n : Int) * (W : Int) = ((n * W : Nat) : Int) from (Int.natCast_mul n W).symm, i64w _ (by omega)]
theorem wrW2 (W H : Nat) (hW : W ≤ 160) (hH : H ≤ 60) : IntKind.i64.wrap ((W : Int) * (H : Int)) = ((W * H : Nat) : Int) := by
  have h2 := size_le W H hW hH
  rw [show (W : Int) * (H : Int) = ((W * H : Nat) : Int) from (Int.natCast_mul W H).symm, i64w _ (by omega)]
theorem sub_nat {α : Type} (xs : List α) (a b : Nat) (h1 : a ≤ b) (h2 : b ≤ xs.length) : sub? xs (a : Int) (b : Int) = some ((xs.take b).drop a) := by
  unfold sub?
  rw [if_pos (by omega)]; simp
theorem row_ok (W H : Nat) (c : List GCell) (n : Nat) (hc : c.length = W * H) (hn : n < H) (hW : W ≤ 160) (hH : H ≤ 60) : f75 ⟨W, H, c⟩ (n : Int) = some (rowL W c n) := by
  have := mul_le n H W hn
  unfold f75
  dsimp only []
  rw [wr1 n (by omega), wrW W H n hW hH (by omega), wrW W H (n + 1) hW hH (by omega), sub_nat _ _ _ (Nat.mul_le_mul_right W (by omega)) (by omega), bs]
  rfl
/-- The error of a grid. -/
def gcode (g : GGrid) : Int :=
  if 1 ≤ g.Wide ∧ g.Wide ≤ 160 ∧ 1 ≤ g.High ∧ g.High ≤ 60 then (if (g.Cells.length : Int) = g.Wide * g.High then (if Rt g.Wide.toNat g.High.toNat g.Cells then 0 else 4) else 4) else 1
theorem size_ok (w h : Int) : f74 w h = some (if 1 ≤ w ∧ w ≤ 160 ∧ 1 ≤ h ∧ h ≤ 60 then 0 else 1) := by
  unfold f74
  by_cases h1 : w < 1
  · rw [bct (dt h1), if_neg (by omega)]
  rw [bcf (df h1)]
  by_cases h2 : 160 < w
  · rw [bct (dt h2), if_neg (by omega)]
  rw [bcf (df h2)]
  by_cases h3 : h < 1
  · rw [bct (dt h3), if_neg (by omega)]
  rw [bcf (df h3)]
  by_cases h4 : 60 < h
  · rw [bct (dt h4), if_neg (by omega)]
  rw [bcf (df h4), if_pos (by omega)]
theorem pcI0 (p : GPen) : decide (pcI p = 0) = pcB p := by unfold pcI; cases pcB p <;> rfl
theorem all_sum {ρ : Type} (P : Prop) [Decidable P] (a b : ρ) (c : Prop) [Decidable c] (h : P ↔ c) : (if P then a else b) = if c then a else b := by
  by_cases hp : P
  · rw [if_pos hp, if_pos (h.1 hp)]
  · rw [if_neg hp, if_neg (fun q => hp (h.2 q))]
/-- A row's check. -/
theorem rowchk_ok (a1 : GGrid) (W H : Nat) (c : List GCell) (n : Nat) (z : Int) (hc : c.length = W * H) (hn : n < H) (hW : W ≤ 160) (hH : H ≤ 60) :
    loopO (f48_l2_l5 a1) (rowL W c n, z, rowL W c n, ((rowL W c n).length : Int), 0) = some (if ∀ i, i < W → okB (rowF W c n) W i = true then .inl z else .inr 4) := by
  have hl := rowL_len W H c n hc hn
  have hx : ∀ k, k < W → cx (rowL W c n) k = rowF W c n k := fun k hk => rowL_cx W H c n k hc hn hk
  generalize rowL W c n = l at hl hx ⊢
  have h := loop_scan (body := f48_l2_l5 a1) (fun i => (l, z, l, (l.length : Int), (i : Int))) (.inl z) (.inr 4) W (fun i => okB (rowF W c n) W i) ?_ ?_ ?_
  · exact h
  · intro i hi hp
    have hil : i < l.length := by omega
    unfold okB at hp
    simp only [Bool.and_eq_true, Bool.or_eq_true, decide_eq_true_eq, Bool.not_eq_true'] at hp
    obtain ⟨h1, h2, h3⟩ := hp
    rw [← hx i hi] at h1 h2
    rw [← loneF_congr (cx l) _ W i hi hx] at h3
    unfold f48_l2_l5 f48_l2_l5_j6 f48_l2_l5_j7
    dsimp only []
    rw [bct (dt (by omega)), ct, cx_idx l i hil, bs, pen_ok, bs, pcI0, h1, Bool.not_true, cf, width_ok, bs, lone_ok l i hil (by omega), hl, h3]
    simp only [bs, cf]
    rw [wr1 i (by omega)]
    rcases h2 with h2 | h2
    · rw [dt h2]; rfl
    · rw [h2]
      cases decide ((cx l i).Rune = 0) <;> rfl
  · intro i hi hp
    have hil : i < l.length := by omega
    unfold okB at hp
    rw [← hx i hi, ← loneF_congr (cx l) _ W i hi hx] at hp
    unfold f48_l2_l5 f48_l2_l5_j6 f48_l2_l5_j7
    dsimp only []
    rw [bct (dt (by omega)), ct, cx_idx l i hil, bs, pen_ok, bs, pcI0, width_ok, bs, lone_ok l i hil (by omega), hl]
    simp only [bs]
    cases h1 : pcB (cx l i).Pen with
    | false => rfl
    | true =>
      rw [h1, Bool.true_and] at hp
      rw [Bool.not_true, cf]
      cases h2 : decide ((cx l i).Rune = 0) with
      | true =>
        rw [h2, Bool.true_or, Bool.true_and] at hp
        have h3 : loneF (cx l) W i = true := by simpa using hp
        rw [h3]; rfl
      | false =>
        rw [h2, Bool.false_or] at hp
        rw [Bool.not_false, ct]
        cases h3 : decide (wd (cx l i).Rune = 0) with
        | true => rfl
        | false =>
          rw [h3, Bool.not_false, Bool.true_and] at hp
          have h3 : loneF (cx l) W i = true := by simpa using hp
          rw [h3]; rfl
  · unfold f48_l2_l5 f48_l2_l5_j6
    dsimp only []
    rw [bcf (df (by omega)), cf]
theorem Rt_iff (W H : Nat) (c : List GCell) : (∀ n, n < H → decide (∀ i, i < W → okB (rowF W c n) W i = true) = true) ↔ Rt W H c := by
  unfold Rt
  constructor
  · intro h n hn; exact of_decide_eq_true (h n hn)
  · intro h n hn; exact dt (h n hn)
theorem chk_loop (W H : Nat) (c : List GCell) (hc : c.length = W * H) (hW : W ≤ 160) (hH : H ≤ 60) :
    loopO (f48_l2 ⟨W, H, c⟩) 0 = some (if Rt W H c then .inl () else .inr 4) := by
  have h := loop_scan (body := f48_l2 ⟨W, H, c⟩) (fun i => (i : Int)) (.inl ()) (.inr 4) H (fun n => decide (∀ i, i < W → okB (rowF W c n) W i = true)) ?_ ?_ ?_
  · rw [all_sum _ _ _ _ (Rt_iff W H c)] at h; exact h
  · intro n hn hp
    unfold f48_l2 f48_l2_j3 f48_l2_j4
    rw [bct (dt (by show (n : Int) < (H : Int); omega)), ct, row_ok W H c n hc hn hW hH, bs, rowchk_ok _ W H c n n hc hn hW hH, bs, if_pos (of_decide_eq_true hp)]
    simp only [Sum.elim_inl]
    rw [wr1 n (by omega)]
  · intro n hn hp
    unfold f48_l2 f48_l2_j3 f48_l2_j4
    rw [bct (dt (by show (n : Int) < (H : Int); omega)), ct, row_ok W H c n hc hn hW hH, bs, rowchk_ok _ W H c n n hc hn hW hH, bs, if_neg (of_decide_eq_false hp)]
    rfl
  · unfold f48_l2 f48_l2_j3
    rw [bcf (df (by show ¬ (H : Int) < (H : Int); omega)), cf]
theorem check_ok (g : GGrid) : f48 g = some (gcode g) := by
  obtain ⟨w, h, c⟩ := g
  unfold f48 f48_j0 f48_j1 gcode
  rw [size_ok, bs]
  dsimp only []
  by_cases hs : 1 ≤ w ∧ w ≤ 160 ∧ 1 ≤ h ∧ h ≤ 60
  · rw [if_pos hs, if_pos hs, bcf (by rfl)]
    obtain ⟨W, rfl⟩ := Int.eq_ofNat_of_zero_le (show 0 ≤ w by omega)
    obtain ⟨H, rfl⟩ := Int.eq_ofNat_of_zero_le (show 0 ≤ h by omega)
    rw [wrW2 W H (by omega) (by omega)]
    by_cases hc : c.length = W * H
    · rw [if_pos (by rw [hc]; exact Int.natCast_mul W H), bcf (by rw [dt (by omega)]; rfl), chk_loop W H c hc (by omega) (by omega), bs, Int.toNat_natCast, Int.toNat_natCast]
      by_cases hr : Rt W H c
      · rw [if_pos hr, if_pos hr]; rfl
      · rw [if_neg hr, if_neg hr]; rfl
    · rw [if_neg (by rw [← Int.natCast_mul]; omega), bct (by rw [df (by omega)]; rfl)]
  · rw [if_neg hs, if_neg hs, bct (by rfl)]
/-- The document's check. -/
def rowsL (W : Nat) (c : List GCell) (k : Nat) : List (List GCell) := (List.range k).map (rowL W c)
theorem app_row {α : Type} (b : Nat) (xs ys : List α) (h : (xs.length + ys.length) * b ≤ 1000000000) : app? b xs ys = some (xs ++ ys) := app_ok b xs ys (by omega)
theorem cloneR (l : List GCell) (hl : l.length ≤ 100000) : f60 l = some l := by
  unfold f60; rw [app_row 32 [] l (by simp; omega), bs]; rfl
theorem rows_ok (W H : Nat) (c : List GCell) (hc : c.length = W * H) (hW : W ≤ 160) (hH : H ≤ 60) : f70 ⟨W, H, c⟩ = some (rowsL W c H) := by
  unfold f70
  have h := loop_to (body := f70_l0 ⟨W, H, c⟩) (fun i => (rowsL W c i, (i : Int))) (rowsL W c H) H ?_ 0 (by omega) ?_
  · have h' : loopO (f70_l0 ⟨W, H, c⟩) ([], 0) = some (rowsL W c H) := h
    rw [h', bs]
  · unfold f70_l0
    rw [bcf (df (by show ¬ (H : Int) < (H : Int); omega))]
  · intro n _ hn
    have := mul_le n H W hn
    have hl := rowL_len W H c n hc hn
    unfold f70_l0 f70_l0_j1
    dsimp only []
    rw [bct (dt (by omega)), wr1 n (by omega), wrW W H n hW hH (by omega), wrW W H (n + 1) hW hH (by omega), sub_nat _ _ _ (Nat.mul_le_mul_right W (by omega)) (by omega), bs]
    show (f60 (rowL W c n)).bind _ = _
    rw [cloneR _ (by omega), bs, app_row 24 _ _ (by simp [rowsL]; omega), bs]
    have : rowsL W c n ++ [rowL W c n] = rowsL W c (n + 1) := by unfold rowsL; rw [List.range_succ, List.map_append]; rfl
    rw [this]
theorem rowR_ok (a1 : GGrid) (W H : Nat) (c : List GCell) (n : Nat) (y : List (List GCell)) (z u : Int) (hc : c.length = W * H) (hn : n < H) (hW : W ≤ 160) (hH : H ≤ 60) :
    loopO (f45_l2_l5 a1) (rowL W c n, y, z, u, rowL W c n, ((rowL W c n).length : Int), 0) = some (if ∀ i, i < W → okB (rowF W c n) W i = true then .inl (y, z, u) else .inr 4) := by
  have hl := rowL_len W H c n hc hn
  have hx : ∀ k, k < W → cx (rowL W c n) k = rowF W c n k := fun k hk => rowL_cx W H c n k hc hn hk
  generalize rowL W c n = l at hl hx ⊢
  have h := loop_scan (body := f45_l2_l5 a1) (fun i => (l, y, z, u, l, (l.length : Int), (i : Int))) (.inl (y, z, u)) (.inr 4) W (fun i => okB (rowF W c n) W i) ?_ ?_ ?_
  · exact h
  · intro i hi hp
    have hil : i < l.length := by omega
    unfold okB at hp
    simp only [Bool.and_eq_true, Bool.or_eq_true, decide_eq_true_eq, Bool.not_eq_true'] at hp
    obtain ⟨h1, h2, h3⟩ := hp
    rw [← hx i hi] at h1 h2
    rw [← loneF_congr (cx l) _ W i hi hx] at h3
    unfold f45_l2_l5 f45_l2_l5_j6 f45_l2_l5_j7
    dsimp only []
    rw [bct (dt (by omega)), ct, cx_idx l i hil, bs, penR_ok, bs, pcI0, h1, Bool.not_true, cf, widthR_ok, bs, whole_ok l i hil (by omega), hl, h3]
    simp only [bs, cf, Bool.not_false, Bool.not_true]
    rw [wr1 i (by omega)]
    rcases h2 with h2 | h2
    · rw [dt h2]; rfl
    · rw [h2]
      cases decide ((cx l i).Rune = 0) <;> rfl
  · intro i hi hp
    have hil : i < l.length := by omega
    unfold okB at hp
    rw [← hx i hi, ← loneF_congr (cx l) _ W i hi hx] at hp
    unfold f45_l2_l5 f45_l2_l5_j6 f45_l2_l5_j7
    dsimp only []
    rw [bct (dt (by omega)), ct, cx_idx l i hil, bs, penR_ok, bs, pcI0, widthR_ok, bs, whole_ok l i hil (by omega), hl]
    simp only [bs, Bool.not_not]
    cases h1 : pcB (cx l i).Pen with
    | false => rfl
    | true =>
      rw [h1, Bool.true_and] at hp
      rw [Bool.not_true, cf]
      cases h2 : decide ((cx l i).Rune = 0) with
      | true =>
        rw [h2, Bool.true_or, Bool.true_and] at hp
        have h3 : loneF (cx l) W i = true := by simpa using hp
        rw [h3]; rfl
      | false =>
        rw [h2, Bool.false_or] at hp
        rw [Bool.not_false, ct]
        cases h3 : decide (wd (cx l i).Rune = 0) with
        | true => rfl
        | false =>
          rw [h3, Bool.not_false, Bool.true_and] at hp
          have h3 : loneF (cx l) W i = true := by simpa using hp
          rw [h3]; rfl
  · unfold f45_l2_l5 f45_l2_l5_j6
    dsimp only []
    rw [bcf (df (by omega)), cf]
theorem rowsL_get (W : Nat) (c : List GCell) (H n : Nat) (hn : n < H) : (rowsL W c H)[n]? = some (rowL W c n) := by
  unfold rowsL; simp [hn]
theorem rowsL_len (W : Nat) (c : List GCell) (H : Nat) : (rowsL W c H).length = H := by unfold rowsL; simp
theorem chkR_loop (W H : Nat) (c : List GCell) (a1 : GGrid) (hc : c.length = W * H) (hW : W ≤ 160) (hH : H ≤ 60) :
    loopO (f45_l2 a1) (rowsL W c H, (H : Int), 0) = some (if Rt W H c then .inl () else .inr 4) := by
  have h := loop_scan (body := f45_l2 a1) (fun i => (rowsL W c H, (H : Int), (i : Int))) (.inl ()) (.inr 4) H (fun n => decide (∀ i, i < W → okB (rowF W c n) W i = true)) ?_ ?_ ?_
  · rw [all_sum _ _ _ _ (Rt_iff W H c)] at h; exact h
  · intro n hn hp
    unfold f45_l2 f45_l2_j3 f45_l2_j4
    dsimp only []
    rw [bct (dt (by omega)), ct, rowsL_len, inR_nat n H hn, bs, rowsL_get W c H n hn, bs, rowR_ok a1 W H c n _ _ _ hc hn hW hH, bs, if_pos (of_decide_eq_true hp)]
    simp only [Sum.elim_inl]
    rw [wr1 n (by omega)]
  · intro n hn hp
    unfold f45_l2 f45_l2_j3 f45_l2_j4
    dsimp only []
    rw [bct (dt (by omega)), ct, rowsL_len, inR_nat n H hn, bs, rowsL_get W c H n hn, bs, rowR_ok a1 W H c n _ _ _ hc hn hW hH, bs, if_neg (of_decide_eq_false hp)]
    rfl
  · unfold f45_l2 f45_l2_j3
    dsimp only []
    rw [bcf (df (by omega)), cf]
theorem sizeR_ok (w h : Int) : f69 w h = some (decide (1 ≤ w ∧ w ≤ 160 ∧ 1 ≤ h ∧ h ≤ 60)) := by
  unfold f69
  rw [btw_ok, bs, btw_ok, bs]
  by_cases h1 : 1 ≤ w <;> by_cases h2 : w ≤ 160 <;> by_cases h3 : 1 ≤ h <;> by_cases h4 : h ≤ 60 <;> simp [h1, h2, h3, h4, ct, cf]
theorem right_ok (g : GGrid) : f45 g = some (gcode g) := by
  obtain ⟨w, h, c⟩ := g
  unfold f45 f45_j0 f45_j1 gcode
  rw [sizeR_ok, bs]
  dsimp only []
  by_cases hs : 1 ≤ w ∧ w ≤ 160 ∧ 1 ≤ h ∧ h ≤ 60
  · rw [if_pos hs, dt hs, bcf (by rfl)]
    obtain ⟨W, rfl⟩ := Int.eq_ofNat_of_zero_le (show 0 ≤ w by omega)
    obtain ⟨H, rfl⟩ := Int.eq_ofNat_of_zero_le (show 0 ≤ h by omega)
    rw [wrW2 W H (by omega) (by omega)]
    by_cases hc : c.length = W * H
    · rw [if_pos (by rw [hc]; exact Int.natCast_mul W H), bcf (by rw [dt (by omega)]; rfl), rows_ok W H c hc (by omega) (by omega), bs, rowsL_len, chkR_loop W H c _ hc (by omega) (by omega), bs, Int.toNat_natCast, Int.toNat_natCast]
      by_cases hr : Rt W H c
      · rw [if_pos hr, if_pos hr]; rfl
      · rw [if_neg hr, if_neg hr]; rfl
    · rw [if_neg (by rw [← Int.natCast_mul]; omega), bct (by rw [df (by omega)]; rfl)]
  · rw [if_neg hs, df hs, bct (by rfl)]

def mkL (n : Nat) (f : Nat → GCell) : List GCell := (List.range n).map f
theorem mkL_len (n : Nat) (f : Nat → GCell) : (mkL n f).length = n := by unfold mkL; simp
theorem mkL_get (n : Nat) (f : Nat → GCell) (i : Nat) (h : i < n) : (mkL n f)[i]? = some (f i) := by unfold mkL; simp [h]
theorem mkL_cx (n : Nat) (f : Nat → GCell) (i : Nat) (h : i < n) : cx (mkL n f) i = f i := by unfold cx; rw [List.getD_eq_getElem?_getD, mkL_get n f i h]; rfl
theorem cx_get (l : List GCell) (i : Nat) (h : i < l.length) : l[i]? = some (cx l i) := by unfold cx; simp [h]
theorem cx_ext (l m : List GCell) (h : l.length = m.length) (hx : ∀ i, i < l.length → cx l i = cx m i) : l = m := by
  refine List.ext_getElem? fun i => ?_
  by_cases hi : i < l.length
  · rw [cx_get l i hi, cx_get m i (by omega), hx i hi]
  · rw [List.getElem?_eq_none (by omega), List.getElem?_eq_none (by omega)]
theorem mkL_congr {n : Nat} {f g : Nat → GCell} (h : ∀ i, i < n → f i = g i) : mkL n f = mkL n g := by
  unfold mkL
  exact List.map_congr_left fun i hi => h i (List.mem_range.1 hi)
theorem mkL_self (l : List GCell) (f : Nat → GCell) (h : ∀ i, i < l.length → f i = cx l i) : mkL l.length f = l :=
  cx_ext _ _ (mkL_len _ _) fun i hi => by rw [mkL_len] at hi; rw [mkL_cx _ _ _ hi, h i hi]
theorem mkL_set (n : Nat) (f : Nat → GCell) (k : Nat) (x : GCell) : (mkL n f).set k x = mkL n (fun j => if j = k then x else f j) := by
  refine List.ext_getElem? fun i => ?_
  by_cases hi : i < n
  · rw [mkL_get n _ i hi, List.getElem?_set, mkL_len, mkL_get n f i hi]
    by_cases h : k = i
    · subst h; rw [if_pos rfl, if_pos hi, if_pos rfl]
    · rw [if_neg h, if_neg (fun q => h q.symm)]
  · rw [List.getElem?_eq_none (by rw [List.length_set, mkL_len]; omega), List.getElem?_eq_none (by rw [mkL_len]; omega)]
theorem mkL_cpy (n : Nat) (f : Nat → GCell) (o m : Nat) (ys : List GCell) (h : o + m ≤ n) :
    cpyL (mkL n f) o m ys = mkL n (fun j => if o ≤ j ∧ j < o + min ys.length m then cx ys (j - o) else f j) := by
  refine List.ext_getElem? fun i => ?_
  unfold cpyL
  by_cases hi : i < n
  · rw [mkL_get n _ i hi]
    by_cases h1 : i < o
    · rw [if_neg (by omega), List.append_assoc, List.getElem?_append_left (by rw [List.length_take, mkL_len]; omega), List.getElem?_take, if_pos h1, mkL_get n f i hi]
    · rw [List.append_assoc, List.getElem?_append_right (by rw [List.length_take, mkL_len]; omega), List.length_take, mkL_len, Nat.min_eq_left (show o ≤ n by omega)]
      by_cases h2 : i < o + min ys.length m
      · rw [if_pos ⟨by omega, h2⟩, List.getElem?_append_left (by rw [List.length_take]; omega), List.getElem?_take, if_pos (by omega), cx_get ys (i - o) (by omega)]
      · rw [if_neg (by omega), List.getElem?_append_right (by rw [List.length_take]; omega), List.length_take, List.getElem?_drop, show o + min ys.length m + (i - o - min (min ys.length m) ys.length) = i by omega, mkL_get n f i hi]
  · rw [List.getElem?_eq_none (by rw [List.length_append, List.length_append, List.length_take, List.length_take, List.length_drop, mkL_len]; omega), List.getElem?_eq_none (by rw [mkL_len]; omega)]
theorem part_nat (c : List GCell) (o m : Nat) (h : o + m ≤ c.length) : part? c o m = some (mkL m (fun i => cx c (o + i))) := by
  unfold part?
  rw [if_pos h]
  refine congrArg some (cx_ext _ _ (by rw [mkL_len, List.length_take, List.length_drop]; omega) fun i hi => ?_)
  rw [List.length_take, List.length_drop] at hi
  rw [mkL_cx _ _ _ (by omega)]
  unfold cx
  rw [List.getD_eq_getElem?_getD, List.getD_eq_getElem?_getD, List.getElem?_take, if_pos (by omega), List.getElem?_drop]
/-- Repair. -/
def repF (f : Nat → GCell) (W i : Nat) : GCell := if loneF f W i = true then blank (f i).Pen else f i
def repL (c : List GCell) (o W : Nat) : List GCell := mkL c.length (fun j => if o ≤ j ∧ j < o + W then repF (fun i => cx c (o + i)) W (j - o) else cx c j)
theorem repL_len (c : List GCell) (o W : Nat) : (repL c o W).length = c.length := mkL_len _ _
theorem rep_ok (c : List GCell) (o W : Nat) (h : o + W ≤ c.length) (hl : c.length ≤ 100000) : f80 o W c = some (repL c o W) := by
  unfold f80
  rw [part_nat c o W h, bs, cloneR _ (by rw [mkL_len]; omega), bs]
  have hlp := loop_to (body := f80_l0 o W c) (fun i => (mkL c.length (fun j => if o ≤ j ∧ j < o + i then repF (fun i => cx c (o + i)) W (j - o) else cx c j), mkL W (fun i => cx c (o + i)), (i : Int))) (repL c o W) W ?_ 0 (by omega) ?_
  · try dsimp only [] at hlp
    rw [mkL_self c _ (fun j hj => if_neg (by omega))] at hlp
    rw [show ((0 : Nat) : Int) = 0 from rfl] at hlp
    rw [hlp, bs]
  · unfold f80_l0 f80_l0_j1
    try dsimp only []
    rw [bcf (df (by omega)), cf]
    rfl
  · intro i _ hi
    unfold f80_l0 f80_l0_j1 f80_l0_j2
    try dsimp only []
    rw [bct (dt (by omega)), ct, lone_ok _ i (by rw [mkL_len]; exact hi) (by rw [mkL_len]; omega), bs, mkL_len, loneF_congr (cx (mkL W fun i => cx c (o + i))) (fun i => cx c (o + i)) W i hi (fun k hk => mkL_cx W _ k hk), wr1 i (by omega)]
    cases hlone : loneF (fun i => cx c (o + i)) W i with
    | true =>
      rw [ct, inR_nat i W hi, bs, mkL_get W _ i hi, bs, show f110 (cx c (o + i)).Pen = some (blank (cx c (o + i)).Pen) from rfl, bs, bs, mkL_get _ _ _ (by omega), bs, bs, mkL_set]
      refine congrArg some (congrArg Sum.inl (Prod.ext (mkL_congr fun j hj => ?_) rfl))
      try dsimp only []
      by_cases hj1 : j = o + i
      · subst hj1
        rw [if_pos rfl, if_pos (by omega), Nat.add_sub_cancel_left]
        unfold repF
        rw [if_pos hlone]
      · rw [if_neg hj1]
        by_cases hj2 : o ≤ j ∧ j < o + i
        · rw [if_pos hj2, if_pos (by omega)]
        · rw [if_neg hj2, if_neg (by omega)]
    | false =>
      rw [cf]
      refine congrArg some (congrArg Sum.inl (Prod.ext (mkL_congr fun j hj => ?_) rfl))
      by_cases hj2 : o ≤ j ∧ j < o + i
      · rw [if_pos hj2, if_pos (by omega)]
      · rw [if_neg hj2]
        by_cases hj1 : j = o + i
        · subst hj1
          rw [if_pos (by omega), Nat.add_sub_cancel_left]
          unfold repF
          rw [if_neg (by rw [hlone]; intro q; cases q)]
        · rw [if_neg (by omega)]
theorem chk_len (a b : Nat) (h : a = b) : chk (decide (a = b)) = some () := chk_ok (dt h)
theorem rowv_ok (W H n : Nat) (c : List GCell) (hc : c.length = W * H) (hn : n < H) (hW : W ≤ 160) (hH : H ≤ 60) : f75v1 (W : Int) (H : Int) (n : Int) c = some (c, n * W, W) := by
  have := mul_le n H W hn
  have hm := Nat.mul_le_mul_right W (show n ≤ n + 1 by omega)
  unfold f75v1
  rw [wr1 n (by omega), wrW W H n hW hH (by omega), wrW W H (n + 1) hW hH (by omega), chk_ok, bs]
  · simp only [Int.toNat_natCast]
    rw [Nat.succ_mul, Nat.add_sub_cancel_left]
  · rw [dt (by omega), dt (by omega), dt (by omega)]; rfl
/-- Repeated blanks. -/
theorem u64n (n : Nat) (h : n ≤ 1000000) : IntKind.u64.wrap (n : Int) = n := by
  simp [IntKind.wrap, IntKind.signed, IntKind.bits]; omega
theorem and_mask (n : Nat) (h : n ≤ 1000000) : bitI .and .u64 (n : Int) 4294967295 = n := by
  have e : bitI .and .u64 (n : Int) 4294967295 = IntKind.u64.wrap (((BitVec.ofInt 64 (n : Int) &&& BitVec.ofInt 64 4294967295).toNat : Nat) : Int) := rfl
  have e2 : (BitVec.ofInt 64 (n : Int) &&& BitVec.ofInt 64 4294967295).toNat = n := by
    rw [BitVec.toNat_and, BitVec.toNat_ofInt, show (BitVec.ofInt 64 4294967295).toNat = 2 ^ 32 - 1 from rfl, Nat.and_two_pow_sub_one_eq_mod]
    have : (((n : Int) % ((2 ^ 64 : Nat) : Int)).toNat) = n := by
      rw [Int.emod_eq_of_lt (by omega) (by have : ((2 ^ 64 : Nat) : Int) = 18446744073709551616 := rfl; omega)]; simp
    rw [this]
    exact Nat.mod_eq_of_lt (by have : (2 : Nat) ^ 32 = 4294967296 := rfl; omega)
  rw [e, e2, u64n n h]
theorem fdiv0 (n : Nat) (h : n ≤ 1000000) : Int.fdiv (n : Int) (2 ^ 32) = 0 := by
  have e : (2 : Int) ^ 32 = 4294967296 := rfl
  rw [e, Int.fdiv_eq_ediv_of_nonneg _ (by omega)]
  omega
theorem mul1 (n : Nat) (h : n ≤ 1000000) : f124 (IntKind.u64.wrap 1) (IntKind.u64.wrap (n : Int)) = some (0, (n : Int)) := by
  have a1 := and_mask 1 (by omega)
  have a0 := and_mask 0 (by omega)
  have an := and_mask n h
  have d1 := fdiv0 1 (by omega)
  have d0 := fdiv0 0 (by omega)
  have dn := fdiv0 n h
  have w0 := u64n 0 (by omega)
  have w1 := u64n 1 (by omega)
  have wn := u64n n h
  simp only [Int.natCast_zero, Int.natCast_one] at a1 a0 d1 d0 w0 w1
  unfold f124 f124_j0 f133
  rw [bs, w1, wn]
  simp only [d1, d0, dn, a1, a0, an, Int.zero_mul, Int.mul_zero, Int.one_mul, Int.add_zero, Int.zero_add, w0, w1, wn]
theorem grow_step (z : GCell) (n k : Nat) (hk : 1 ≤ k) (hn : k < n) :
    cpyL (List.replicate k z ++ List.replicate (n - k) Z0) k (n - k) (((List.replicate k z ++ List.replicate (n - k) Z0).drop 0).take k) = List.replicate (k + min k (n - k)) z ++ List.replicate (n - (k + min k (n - k))) Z0 := by
  unfold cpyL
  rw [List.drop_zero, List.take_left' (by simp), List.length_replicate, List.take_replicate, List.drop_append, List.drop_replicate, List.drop_replicate, List.length_replicate, ← List.replicate_append_replicate, List.append_assoc]
  rw [show k - (k + min k (n - k)) = 0 by omega, show n - k - (k + min k (n - k) - k) = n - (k + min k (n - k)) by omega, show min (min k (n - k)) k = min k (n - k) by omega]
  simp [← List.append_assoc, List.replicate_append_replicate]
theorem repeat_ok (z : GCell) (n : Nat) (h1 : 1 ≤ n) (h : n ≤ 100000) : f109 [z] (n : Int) = some (List.replicate n z) := by
  unfold f109 f109_j0
  rw [bcf (df (by omega))]
  show ((f124 (IntKind.u64.wrap 1) (IntKind.u64.wrap (n : Int))).bind _) = _
  rw [mul1 n (by omega), bs]
  try dsimp only []
  rw [bcf (df (by omega)), bcf (df (by omega))]
  unfold f109_j1
  rw [i64w _ (by omega)]
  have hm : mk? 32 (n : Int) (n : Int) (GCell.mk 0 (GPen.mk 0 0 0)) = some (List.replicate n Z0) := by
    unfold mk?
    rw [if_pos ⟨by omega, by omega, by rw [Int.toNat_natCast]; omega⟩, Int.toNat_natCast]; rfl
  rw [hm, bs, chk_ok (dt (by omega)), bs, bs, List.length_replicate]
  have hc : cpyL (List.replicate n Z0) 0 n [z] = List.replicate 1 z ++ List.replicate (n - 1) Z0 := by
    unfold cpyL
    rw [show min [z].length n = 1 by show min 1 n = 1; omega]
    simp
  rw [hc]
  obtain ⟨r, hr, hp⟩ := loopO_ind (body := f109_l2 [z] (n : Int)) (fun m (x : List GCell × Int) => ∃ k : Nat, 1 ≤ k ∧ k + m = n ∧ x = (List.replicate k z ++ List.replicate (n - k) Z0, (k : Int))) (fun r => r = List.replicate n z) (fun m x hx => by
    obtain ⟨k, hk1, hk2, rfl⟩ := hx
    have hl : (List.replicate k z ++ List.replicate (n - k) Z0).length = n := by simp; omega
    by_cases hk : k < n
    · refine .inl ⟨(List.replicate (k + min k (n - k)) z ++ List.replicate (n - (k + min k (n - k))) Z0, ((k + min k (n - k) : Nat) : Int)), n - (k + min k (n - k)), ?_, by omega, k + min k (n - k), by omega, by omega, rfl⟩
      unfold f109_l2 f109_l2_j3
      try dsimp only []
      rw [hl, bct (dt (by omega)), chk_ok (by rw [dt (by omega), dt (by omega), dt (by omega)]; rfl), bs, chk_ok (by rw [dt (by omega), dt (by omega), dt (by omega)]; rfl), bs]
      have hp : part? (List.replicate k z ++ List.replicate (n - k) Z0) 0 ((k : Int).toNat - (0 : Int).toNat) = some (((List.replicate k z ++ List.replicate (n - k) Z0).drop 0).take k) := by
        unfold part?
        rw [if_pos (by rw [hl]; simp; omega)]; simp
      rw [hp, bs, chk_ok (dt (by rw [Int.toNat_natCast, Int.toNat_natCast]; omega)), bs, bs, Int.toNat_natCast, Int.toNat_natCast, grow_step z n k hk1 hk]
      have e : (List.take k (List.drop 0 (List.replicate k z ++ List.replicate (n - k) Z0))).length = k := by simp
      have e2 : (List.replicate (k + min k (n - k)) z ++ List.replicate (n - (k + min k (n - k))) Z0).length = n := by simp; omega
      rw [e, e2, Int.toNat_natCast, i64w _ (by omega)]
      refine congrArg some (congrArg Sum.inl (Prod.ext rfl ?_))
      show (k : Int) + ((min k (n - k) : Nat) : Int) = ((k + min k (n - k) : Nat) : Int)
      omega
    · have : k = n := by omega
      subst this
      refine .inr ⟨List.replicate k z, ?_, rfl⟩
      unfold f109_l2
      try dsimp only []
      rw [hl, bcf (df (by omega))]
      simp) (n := n - 1) (x := (List.replicate 1 z ++ List.replicate (n - 1) Z0, ((1 : Nat) : Int))) ⟨1, by omega, by omega, rfl⟩
  have e1 : (((min [z].length (List.replicate 1 z ++ List.replicate (n - 1) Z0).length : Nat)) : Int) = ((1 : Nat) : Int) := by
    rw [List.length_append, List.length_replicate, List.length_replicate]; show ((min 1 (1 + (n - 1)) : Nat) : Int) = _; omega
  rw [e1, hr, bs, hp]
theorem rep_mkL (n : Nat) (z : GCell) : List.replicate n z = mkL n (fun _ => z) := by
  unfold mkL; rw [List.map_const']; simp
theorem blanks_ok (w h : Nat) (p : GPen) (h1 : 1 ≤ w ∧ w ≤ 160) (h2 : 1 ≤ h ∧ h ≤ 60) : f79 (w : Int) (h : Int) p = some ((w : Int), (h : Int), mkL (w * h) (fun _ => blank p)) := by
  have h9 := size_le w h h1.2 h2.2
  have h3 := Nat.mul_le_mul h1.1 h2.1
  unfold f79
  rw [show f110 p = some (blank p) from rfl, bs, wrW2 w h h1.2 h2.2, repeat_ok (blank p) (w * h) (by omega) (by omega), bs, rep_mkL]
theorem new_ok (w h : Int) (p : GPen) : f53 w h p = some (if 1 ≤ w ∧ w ≤ 160 ∧ 1 ≤ h ∧ h ≤ 60 then (if pcB p = true then (w, h, mkL (w.toNat * h.toNat) (fun _ => blank p), 0) else (0, 0, [], 4)) else (0, 0, [], 1)) := by
  unfold f53 f53_j0
  rw [size_ok, bs, pen_ok, bs]
  by_cases hs : 1 ≤ w ∧ w ≤ 160 ∧ 1 ≤ h ∧ h ≤ 60
  · rw [if_pos hs, if_pos hs, bcf (by rfl), pcI0]
    cases hp : pcB p with
    | false => rw [Bool.not_false, ct, if_neg (by intro q; cases q)]; unfold pcI; rw [hp]; rfl
    | true =>
      rw [Bool.not_true, cf, if_pos rfl]
      obtain ⟨W, rfl⟩ := Int.eq_ofNat_of_zero_le (show 0 ≤ w by omega)
      obtain ⟨H, rfl⟩ := Int.eq_ofNat_of_zero_le (show 0 ≤ h by omega)
      rw [blanks_ok W H p (by omega) (by omega), bs, Int.toNat_natCast, Int.toNat_natCast]
  · rw [if_neg hs, if_neg hs, bct (by rfl)]
theorem gcode0 (g : GGrid) (h : gcode g = 0) : ∃ W H : Nat, 1 ≤ W ∧ W ≤ 160 ∧ 1 ≤ H ∧ H ≤ 60 ∧ g = ⟨W, H, g.Cells⟩ ∧ g.Cells.length = W * H ∧ Rt W H g.Cells := by
  obtain ⟨w, hh, c⟩ := g
  unfold gcode at h
  dsimp only [] at h
  split at h
  · rename_i hs
    split at h
    · rename_i hc
      split at h
      · rename_i hr
        obtain ⟨W, rfl⟩ := Int.eq_ofNat_of_zero_le (show 0 ≤ w by omega)
        obtain ⟨H, rfl⟩ := Int.eq_ofNat_of_zero_le (show 0 ≤ hh by omega)
        rw [Int.toNat_natCast, Int.toNat_natCast] at hr
        rw [← Int.natCast_mul] at hc
        exact ⟨W, H, by omega, by omega, by omega, by omega, rfl, by dsimp only []; omega, hr⟩
      · exact absurd h (by decide)
    · exact absurd h (by decide)
  · exact absurd h (by decide)
theorem gcode_ok (W H : Nat) (c : List GCell) (h1 : 1 ≤ W ∧ W ≤ 160) (h2 : 1 ≤ H ∧ H ≤ 60) (hc : c.length = W * H) (hr : Rt W H c) : gcode ⟨W, H, c⟩ = 0 := by
  unfold gcode
  try dsimp only []
  rw [if_pos (by omega), if_pos (by rw [hc]; exact Int.natCast_mul W H), Int.toNat_natCast, Int.toNat_natCast, if_pos hr]
theorem div_iff (j n W : Nat) (hW : 0 < W) : j / W = n ↔ n * W ≤ j ∧ j < n * W + W := by
  have h1 := Nat.div_add_mod j W
  have h2 := Nat.mod_lt j hW
  constructor
  · intro h; subst h; rw [Nat.mul_comm]; omega
  · rintro ⟨ha, hb⟩
    exact Nat.div_eq_of_lt_le ha (by rw [Nat.succ_mul]; exact hb)
theorem mod_of (j n W : Nat) (hW : 0 < W) (h : j / W = n) : j - n * W = j % W := by
  have h1 := Nat.div_add_mod j W
  subst h; rw [Nat.mul_comm]; omega
/-- A grid of another size: what is copied, then repaired. -/
def cutC (W : Nat) (c : List GCell) (H w h : Nat) (p : GPen) : List GCell := mkL (w * h) (fun j => if j / w < min h H ∧ j % w < min w W then cx c (j / w * W + j % w) else blank p)
def repR (w : Nat) (c : List GCell) : List GCell := mkL c.length (fun j => repF (rowF w c (j / w)) w (j % w))
theorem repF_congr (f g : Nat → GCell) (W i : Nat) (hi : i < W) (h : ∀ k, k < W → f k = g k) : repF f W i = repF g W i := by
  unfold repF; rw [h i hi, loneF_congr f g W i hi h]
theorem size_core (g : GGrid) (W H w h : Nat) (c : List GCell) (p : GPen) (hg : g = ⟨W, H, c⟩) (hc : c.length = W * H) (hW1 : 1 ≤ W) (hW : W ≤ 160) (hH : H ≤ 60) (w1 : 1 ≤ w) (w2 : w ≤ 160) (h1 : 1 ≤ h) (h2 : h ≤ 60) :
    f56_j1 g (w : Int) (h : Int) p (w : Int) (h : Int) (mkL (w * h) (fun _ => blank p)) = some ((w : Int), (h : Int), repR w (cutC W c H w h p), 0) := by
  subst hg
  have h9 := size_le w h w2 h2
  unfold f56_j1
  have hl1 := loop_to (body := f56_l6 ⟨W, H, c⟩ w h p) (fun i => ((w : Int), (h : Int), mkL (w * h) (fun j => if j / w < i ∧ j % w < min w W then cx c (j / w * W + j % w) else blank p), (i : Int))) ((w : Int), (h : Int), cutC W c H w h p) (min h H) ?_ 0 (by omega) ?_
  · try dsimp only [] at hl1
    have e0 : mkL (w * h) (fun j => if j / w < 0 ∧ j % w < min w W then cx c (j / w * W + j % w) else blank p) = mkL (w * h) (fun _ => blank p) := mkL_congr fun j hj => if_neg (fun q => Nat.not_lt_zero _ q.1)
    rw [e0, show ((0 : Nat) : Int) = 0 from rfl] at hl1
    rw [hl1, bs]
    try dsimp only []
    unfold f56_j2
    have hlen : (cutC W c H w h p).length = w * h := mkL_len _ _
    generalize cutC W c H w h p = d at hlen ⊢
    have hl2 := loop_to (body := f56_l3 ⟨W, H, c⟩ w h p) (fun i => ((w : Int), (h : Int), mkL d.length (fun j => if j / w < i then repF (rowF w d (j / w)) w (j % w) else cx d j), (i : Int))) ((w : Int), (h : Int), repR w d) h ?_ 0 (by omega) ?_
    · try dsimp only [] at hl2
      rw [mkL_self d _ (fun j hj => if_neg (Nat.not_lt_zero _)), show ((0 : Nat) : Int) = 0 from rfl] at hl2
      rw [hl2, bs]
    · unfold f56_l3 f56_l3_j4
      try dsimp only []
      rw [bcf (df (by omega)), cf]
      unfold repR
      refine congrArg some (congrArg Sum.inr (Prod.ext rfl (Prod.ext rfl (mkL_congr fun j hj => ?_))))
      have : j / w < h := by rw [Nat.div_lt_iff_lt_mul w1, Nat.mul_comm]; omega
      rw [if_pos this]
    · intro i _ hi
      have hm := mul_le i h w hi
      rw [Nat.succ_mul] at hm
      unfold f56_l3 f56_l3_j4 f56_l3_j5
      try dsimp only []
      rw [bct (dt (by omega)), ct, rowv_ok w h i _ (by rw [mkL_len]; exact hlen) hi w2 h2, bs]
      try dsimp only []
      rw [chk_len _ _ rfl, bs, rep_ok _ _ _ (by rw [mkL_len]; omega) (by rw [mkL_len]; omega), bs, chk_len _ _ (repL_len _ _ _), bs, wr1 i (by omega)]
      refine congrArg some (congrArg Sum.inl (Prod.ext rfl (Prod.ext rfl (Prod.ext ?_ rfl))))
      try dsimp only []
      unfold repL
      rw [mkL_len]
      refine mkL_congr fun j hj => ?_
      have hd := div_iff j i w w1
      by_cases hj1 : j / w = i
      · rw [if_pos (hd.1 hj1), if_pos (by omega), mod_of j i w w1 hj1, hj1]
        refine repF_congr _ _ _ _ (Nat.mod_lt _ w1) fun k hk => ?_
        rw [mkL_cx _ _ _ (by omega), if_neg]
        · rfl
        · have := (div_iff (i * w + k) i w w1).2 ⟨by omega, by omega⟩
          omega
      · rw [if_neg (fun q => hj1 (hd.2 q)), mkL_cx _ _ _ hj]
        by_cases hj2 : j / w < i
        · rw [if_pos hj2, if_pos (by omega)]
        · rw [if_neg hj2, if_neg (by omega)]
  · unfold f56_l6 f56_l6_j7
    try dsimp only []
    rw [bcf (df (by split <;> omega)), cf]
    rfl
  · intro i _ hi
    have hm := mul_le i h w (by omega)
    rw [Nat.succ_mul] at hm
    unfold f56_l6 f56_l6_j7 f56_l6_j8
    try dsimp only []
    rw [bct (dt (by split <;> omega)), ct, rowv_ok w h i _ (by rw [mkL_len]) (by omega) w2 h2, bs]
    try dsimp only []
    rw [chk_len _ _ rfl, bs, row_ok W H c i hc (by omega) hW hH, bs, chk_ok (dt (by rw [mkL_len]; omega)), bs, bs, mkL_cpy _ _ _ _ _ (by omega), rowL_len W H c i hc (by omega), wr1 i (by omega)]
    refine congrArg some (congrArg Sum.inl (Prod.ext rfl (Prod.ext rfl (Prod.ext (mkL_congr fun j hj => ?_) rfl))))
    have hd := div_iff j i w w1
    have hmw := Nat.mod_lt j w1
    by_cases hj1 : j / w = i
    · have hmo := mod_of j i w w1 hj1
      have hb := hd.1 hj1
      by_cases hj2 : j % w < min w W
      · rw [if_pos (by omega), if_pos ⟨by omega, hj2⟩, hmo, rowL_cx W H c i _ hc (by omega) (by omega), hj1]
        rfl
      · rw [if_neg (by omega), if_neg (fun q => hj2 q.2), if_neg (fun q => hj2 q.2)]
    · rw [if_neg (fun q => hj1 (hd.2 ⟨q.1, by omega⟩))]
      by_cases hj2 : j / w < i ∧ j % w < min w W
      · rw [if_pos hj2, if_pos ⟨by omega, hj2.2⟩]
      · rw [if_neg hj2, if_neg (fun q => hj2 ⟨by omega, q.2⟩)]

def cellB (c : GCell) : Bool := pcB c.Pen && (decide (c.Rune = 0) || !decide (wd c.Rune = 0))
theorem wd2_ne {r : Int} (h : wd r = 2) : r ≠ 0 := by rintro rfl; rw [wd0] at h; cases h
theorem blank_cell (p : GPen) (hp : pcB p = true) : cellB (blank p) = true := by
  unfold cellB; rw [show (blank p).Pen = p from rfl, hp, show (blank p).Rune = 32 from rfl, wd32]; rfl
theorem lone_blank (f : Nat → GCell) (W i : Nat) (h : (f i).Rune = 32) : loneF f W i = false := by
  unfold loneF; rw [h, if_neg (by decide), wd32]; rfl
theorem tl_iff (f : Nat → GCell) (W k : Nat) : tlF f W k = true ↔ k < W ∧ (f k).Rune = 0 ∧ (f k).Pen = (f (k - 1)).Pen := by
  unfold tlF; rw [Bool.and_eq_true, Bool.and_eq_true, decide_eq_true_eq, decide_eq_true_eq, peq_iff]
/-- A half that is no half. -/
theorem notlone (f : Nat → GCell) (W i : Nat) : loneF f W i = false ↔ ((f i).Rune = 0 → i ≠ 0 ∧ wd (f (i - 1)).Rune = 2 ∧ tlF f W i = true) ∧ (wd (f i).Rune = 2 → tlF f W (i + 1) = true) := by
  unfold loneF
  by_cases h0 : (f i).Rune = 0
  · rw [if_pos h0, h0, wd0]
    simp
  · rw [if_neg h0]
    simp [h0]
theorem rep_cells (f : Nat → GCell) (W : Nat) (h : ∀ i, i < W → cellB (f i) = true) (i : Nat) (hi : i < W) : okB (repF f W) W i = true := by
  have hc := h i hi
  have key : loneF (repF f W) W i = false := by
    by_cases hl : loneF f W i = true
    · exact lone_blank _ _ _ (by unfold repF; rw [if_pos hl]; rfl)
    · have hl' : loneF f W i = false := by simpa using hl
      have e : repF f W i = f i := by unfold repF; rw [if_neg hl]
      obtain ⟨n1, n2⟩ := (notlone f W i).1 hl'
      rw [notlone, e]
      constructor
      · intro h0
        obtain ⟨a1, a2, a3⟩ := n1 h0
        have e2 : repF f W (i - 1) = f (i - 1) := by
          unfold repF
          rw [if_neg]
          rw [Bool.not_eq_true, notlone]
          refine ⟨fun q => absurd q (wd2_ne a2), fun _ => ?_⟩
          rw [show i - 1 + 1 = i by omega]; exact a3
        refine ⟨a1, by rw [e2]; exact a2, ?_⟩
        rw [tl_iff] at a3 ⊢
        rw [e, e2]; exact a3
      · intro h2
        have a3 := n2 h2
        have a4 := (tl_iff _ _ _).1 a3
        have e2 : repF f W (i + 1) = f (i + 1) := by
          unfold repF
          rw [if_neg]
          rw [Bool.not_eq_true, notlone]
          refine ⟨fun _ => ⟨by omega, by rw [show i + 1 - 1 = i from rfl]; exact h2, a3⟩, fun q => absurd a4.2.1 (wd2_ne q)⟩
        rw [tl_iff, e2, show i + 1 - 1 = i from rfl, e]
        exact a4
  have hcell : cellB (repF f W i) = true := by
    unfold repF
    split
    · refine blank_cell _ ?_
      unfold cellB at hc
      exact (Bool.and_eq_true _ _ ▸ hc).1
    · exact hc
  unfold okB
  unfold cellB at hcell
  rw [Bool.and_eq_true] at hcell
  rw [hcell.1, hcell.2, key]; rfl
theorem ok_cell {f : Nat → GCell} {W i : Nat} (h : okB f W i = true) : cellB (f i) = true ∧ loneF f W i = false := by
  unfold okB at h
  unfold cellB
  simp only [Bool.and_eq_true, Bool.not_eq_true'] at h
  rw [h.1, h.2.1]
  exact ⟨rfl, h.2.2⟩
theorem rt_at {W H : Nat} {c : List GCell} (hW : 1 ≤ W) (h : Rt W H c) (j : Nat) (hj : j < W * H) : cellB (cx c j) = true := by
  have h1 := Nat.div_add_mod j W
  have hd : j / W < H := by rw [Nat.div_lt_iff_lt_mul hW, Nat.mul_comm]; exact hj
  have := (ok_cell (h (j / W) hd (j % W) (Nat.mod_lt _ hW))).1
  unfold rowF at this
  rw [Nat.mul_comm] at h1
  rw [h1] at this; exact this
theorem cut_cell (W H w h : Nat) (c : List GCell) (p : GPen) (hW : 1 ≤ W) (hc : c.length = W * H) (hR : Rt W H c) (hp : pcB p = true) (j : Nat) (hj : j < w * h) : cellB (cx (cutC W c H w h p) j) = true := by
  unfold cutC
  rw [mkL_cx _ _ _ hj]
  split
  · rename_i q
    exact rt_at hW hR _ (mul_lt _ _ _ _ (by omega) (by omega))
  · exact blank_cell p hp
theorem repR_rt (w h : Nat) (d : List GCell) (hw : 1 ≤ w) (hd : d.length = w * h) (hcell : ∀ j, j < w * h → cellB (cx d j) = true) : Rt w h (repR w d) := by
  intro r hr i hi
  have hm := mul_le r h w hr
  rw [Nat.succ_mul] at hm
  rw [okB_congr _ (repF (rowF w d r) w) w i hi]
  · exact rep_cells _ w (fun k hk => hcell _ (by omega)) i hi
  · intro k hk
    have hdv := (div_iff (r * w + k) r w hw).2 ⟨by omega, by omega⟩
    have hmo := mod_of (r * w + k) r w hw hdv
    rw [Nat.add_sub_cancel_left] at hmo
    unfold repR
    show cx (mkL d.length _) (r * w + k) = _
    rw [mkL_cx _ _ _ (by omega), hdv, ← hmo]
def oSize (g : GGrid) (w h : Int) (p : GPen) : Int × Int × List GCell × Int :=
  if gcode g = 0 then (if 1 ≤ w ∧ w ≤ 160 ∧ 1 ≤ h ∧ h ≤ 60 then (if pcB p = true then (w, h, repR w.toNat (cutC g.Wide.toNat g.Cells g.High.toNat w.toNat h.toNat p), 0) else (0, 0, [], 4)) else (0, 0, [], 1)) else (0, 0, [], gcode g)
theorem sizeop_ok (g : GGrid) (w h : Int) (p : GPen) : f56 g w h p = some (oSize g w h p) := by
  unfold f56 f56_j0 oSize
  rw [check_ok, bs, new_ok, bs]
  by_cases hg : gcode g = 0
  · rw [if_pos hg, bcf (by rw [dt hg]; rfl)]
    by_cases hs : 1 ≤ w ∧ w ≤ 160 ∧ 1 ≤ h ∧ h ≤ 60
    · rw [if_pos hs, if_pos hs]
      by_cases hp : pcB p = true
      · obtain ⟨W, H, w1, w2, h1, h2, e, hl, hR⟩ := gcode0 g hg
        obtain ⟨ww, rfl⟩ := Int.eq_ofNat_of_zero_le (show 0 ≤ w by omega)
        obtain ⟨hh, rfl⟩ := Int.eq_ofNat_of_zero_le (show 0 ≤ h by omega)
        rw [if_pos hp, if_pos hp, bcf (by rfl)]
        try dsimp only []
        rw [Int.toNat_natCast, Int.toNat_natCast, size_core g W H ww hh g.Cells p e hl w1 w2 h2 (by omega) (by omega) (by omega) (by omega)]
        have eW : g.Wide = (W : Int) := by rw [e]
        have eH : g.High = (H : Int) := by rw [e]
        rw [eW, eH, Int.toNat_natCast, Int.toNat_natCast]
      · rw [if_neg hp, if_neg hp]; rfl
    · rw [if_neg hs, if_neg hs]; rfl
  · rw [if_neg hg, bct (by rw [df hg]; rfl)]
theorem within_ok (a lo hi : Int) : f49 a lo hi = some (decide (lo ≤ a) && decide (a ≤ hi)) := by
  unfold f49
  cases decide (lo ≤ a) <;> cases decide (a ≤ hi) <;> rfl
theorem known_ok (a : Int) : f51 a = some (decide (1 ≤ a) && decide (a ≤ 4)) := by
  unfold f51
  cases decide (1 ≤ a) <;> cases decide (a ≤ 4) <;> rfl
def lineG (x : GLine) : GGrid := ⟨(x.Cells.length : Int), 1, x.Cells⟩
def L0 : GLine := ⟨[]⟩
def pastP (l : List GLine) (i : Nat) : Bool := decide (gcode (lineG (l.getD i L0)) = 0)
theorem past_ok (l : List GLine) (hl : l.length ≤ 1048576) : f52 l = some (decide ((∀ i, i < l.length → pastP l i = true) ∧ l.length ≤ 40)) := by
  unfold f52
  have h := loop_scan (body := f52_l0 l) (fun i => (i : Int)) (.inl ()) (.inr false) l.length (pastP l) ?_ ?_ ?_
  · rw [show ((0 : Nat) : Int) = 0 from rfl] at h
    rw [h, bs]
    by_cases hp : ∀ i, i < l.length → pastP l i = true
    · rw [if_pos hp, Sum.elim_inl]
      by_cases h4 : l.length ≤ 40
      · rw [bct (dt (by omega)), dt ⟨hp, h4⟩]
      · rw [bcf (df (by omega)), df (fun q => h4 q.2)]
    · rw [if_neg hp, Sum.elim_inr, df (fun q => hp q.1)]
  · intro i hi hp
    unfold f52_l0 f52_l0_j1 f52_l0_j2
    rw [bct (dt (by omega)), ct, idx_nat l i L0 hi, bs, check_ok, bs, wr1 i (by omega)]
    have : gcode (lineG (l.getD i L0)) = 0 := of_decide_eq_true hp
    show (bif !decide (gcode (lineG (l.getD i L0)) = 0) then _ else _) = _
    rw [dt this, Bool.not_true, cf]
  · intro i hi hp
    unfold f52_l0 f52_l0_j1 f52_l0_j2
    rw [bct (dt (by omega)), ct, idx_nat l i L0 hi, bs, check_ok, bs]
    have : ¬ gcode (lineG (l.getD i L0)) = 0 := of_decide_eq_false hp
    show (bif !decide (gcode (lineG (l.getD i L0)) = 0) then _ else _) = _
    rw [df this, Bool.not_false, ct]
  · unfold f52_l0 f52_l0_j1
    rw [bcf (df (by omega)), cf]
structure SF (s : GScreen) : Prop where
  g : gcode s.Grid = 0
  o : gcode s.Other = 0
  w : s.Grid.Wide = s.Other.Wide
  h : s.Grid.High = s.Other.High
  row : 0 ≤ s.Row ∧ s.Row ≤ s.Grid.High - 1
  col : 0 ≤ s.Col ∧ s.Col ≤ s.Grid.Wide - 1
  pen : pcB s.Pen = true
  spen : pcB s.Saved.Pen = true
  modes : 0 ≤ s.Modes ∧ s.Modes ≤ 2047
  pg1 : 1 ≤ s.Pages.1 ∧ s.Pages.1 ≤ 4
  sp1 : 1 ≤ s.Saved.Pages.1 ∧ s.Saved.Pages.1 ≤ 4
  pg2 : 1 ≤ s.Pages.2 ∧ s.Pages.2 ≤ 4
  sp2 : 1 ≤ s.Saved.Pages.2 ∧ s.Saved.Pages.2 ≤ 4
  sh : 0 ≤ s.Shift ∧ s.Shift ≤ 1
  ssh : 0 ≤ s.Saved.Shift ∧ s.Saved.Shift ≤ 1
  srow : 0 ≤ s.Saved.Row ∧ s.Saved.Row ≤ 59
  scol : 0 ≤ s.Saved.Col ∧ s.Saved.Col ≤ 159
  title : s.Title.length ≤ 256
  past : (∀ i, i < s.Past.length → pastP s.Past i = true) ∧ s.Past.length ≤ 40
theorem bc (b : Bool) : b = true ∨ b = false := by cases b <;> simp
theorem two_dec {p q : Prop} [Decidable p] [Decidable q] (h : (decide p && decide q) = true) : p ∧ q := by simpa using h
theorem pen0 (p : GPen) : decide (pcI p = 0) = pcB p := pcI0 p
theorem scr_check (s : GScreen) (hl : s.Past.length ≤ 1048576) : f28 s = some 4 ∨ (f28 s = some 0 ∧ SF s) := by
  unfold f28
  rw [check_ok, bs]
  by_cases g : gcode s.Grid = 0
  case neg => left; rw [bcf (df g)]; rfl
  rw [bct (dt g), check_ok, bs]
  by_cases o : gcode s.Other = 0
  case neg => left; rw [bcf (df o)]; rfl
  rw [bct (dt o)]
  by_cases w : s.Grid.Wide = s.Other.Wide
  case neg => left; rw [bcf (df w)]; rfl
  rw [bct (dt w)]
  by_cases h : s.Grid.High = s.Other.High
  case neg => left; rw [bcf (df h)]; rfl
  rw [bct (dt h)]
  obtain ⟨W, H, w1, w2, h1, h2, e, hc, hR⟩ := gcode0 s.Grid g
  have eW : s.Grid.Wide = (W : Int) := by rw [e]
  have eH : s.Grid.High = (H : Int) := by rw [e]
  unfold f28_j0
  rw [ct, within_ok, bs, i64w (s.Grid.High - 1) (by omega), i64w (s.Grid.Wide - 1) (by omega)]
  rcases bc (decide (0 ≤ s.Row) && decide (s.Row ≤ s.Grid.High - 1)) with row | row
  case inr => left; rw [bcf row]; rfl
  rw [bct row, within_ok, bs]
  rcases bc (decide (0 ≤ s.Col) && decide (s.Col ≤ s.Grid.Wide - 1)) with col | col
  case inr => left; rw [bcf col]; rfl
  rw [bct col]
  have late : ∀ P : Option Int → Prop, P (f28_j1 s true) → P (some 4) → P (bif (!s.Late) then (f28_j1 s true) else (bif (decide (s.Col = s.Grid.Wide - 1)) then (f28_j1 s true) else (f28_j1 s false))) := fun P p1 p2 => by
    cases s.Late with
    | false => exact p1
    | true =>
      show P (bif decide _ then _ else _)
      cases decide (s.Col = s.Grid.Wide - 1)
      · exact p2
      · exact p1
  refine late (fun x => x = some 4 ∨ (x = some 0 ∧ SF s)) ?_ (.inl rfl)
  unfold f28_j1
  rw [ct, within_ok, bs]
  rcases bc (decide (0 ≤ s.Top) && decide (s.Top ≤ IntKind.i64.wrap (s.Bottom - 1))) with top | top
  case inr => left; rw [bcf top]; rfl
  rw [bct top]
  rcases bc (decide (s.Bottom ≤ s.Grid.High)) with bot | bot
  case inr => left; rw [bcf bot]; rfl
  rw [bct bot]
  unfold f28_j2
  rw [ct, pen_ok, bs, pen0]
  rcases bc (pcB s.Pen) with pen | pen
  case inr => left; rw [bcf pen]; rfl
  rw [bct pen, pen_ok, bs, pen0]
  rcases bc (pcB s.Saved.Pen) with spen | spen
  case inr => left; rw [bcf spen]; rfl
  rw [bct spen, within_ok, bs]
  unfold f28_j3 f28_j7
  rcases bc (decide (0 ≤ s.Modes) && decide (s.Modes ≤ 2047)) with modes | modes
  case inr => left; rw [bcf modes]; rfl
  rw [bct modes, known_ok, bs]
  rcases bc (decide (1 ≤ s.Pages.1) && decide (s.Pages.1 ≤ 4)) with pg1 | pg1
  case inr => left; rw [bcf pg1]; rfl
  rw [bct pg1, known_ok, bs]
  unfold f28_j8
  rcases bc (decide (1 ≤ s.Saved.Pages.1) && decide (s.Saved.Pages.1 ≤ 4)) with sp1 | sp1
  case inr => left; rw [bcf sp1]; rfl
  rw [bct sp1, known_ok, bs]
  rcases bc (decide (1 ≤ s.Pages.2) && decide (s.Pages.2 ≤ 4)) with pg2 | pg2
  case inr => left; rw [bcf pg2]; rfl
  rw [bct pg2, known_ok, bs]
  unfold f28_j4
  rcases bc (decide (1 ≤ s.Saved.Pages.2) && decide (s.Saved.Pages.2 ≤ 4)) with sp2 | sp2
  case inr => left; rw [bcf sp2]; rfl
  rw [bct sp2, within_ok, bs]
  rcases bc (decide (0 ≤ s.Shift) && decide (s.Shift ≤ 1)) with sh | sh
  case inr => left; rw [bcf sh]; rfl
  rw [bct sh, within_ok, bs]
  unfold f28_j5
  rcases bc (decide (0 ≤ s.Saved.Shift) && decide (s.Saved.Shift ≤ 1)) with ssh | ssh
  case inr => left; rw [bcf ssh]; rfl
  rw [bct ssh, within_ok, bs]
  rcases bc (decide (0 ≤ s.Saved.Row) && decide (s.Saved.Row ≤ 59)) with srow | srow
  case inr => left; rw [bcf srow]; rfl
  rw [bct srow, within_ok, bs]
  unfold f28_j6
  rcases bc (decide (0 ≤ s.Saved.Col) && decide (s.Saved.Col ≤ 159)) with scol | scol
  case inr => left; rw [bcf scol]
  rw [bct scol]
  rcases bc (decide ((s.Title.length : Int) ≤ 256)) with title | title
  case inr => left; rw [bcf title]
  rw [bct title, past_ok s.Past hl, bs]
  by_cases past : (∀ i, i < s.Past.length → pastP s.Past i = true) ∧ s.Past.length ≤ 40
  case neg => left; rw [df past]; rfl
  right
  rw [dt past]
  have := of_decide_eq_true title
  exact ⟨rfl, ⟨g, o, w, h, two_dec row, two_dec col, pen, spen, two_dec modes, two_dec pg1, two_dec sp1, two_dec pg2, two_dec sp2, two_dec sh, two_dec ssh, two_dec srow, two_dec scol, by omega, past⟩⟩
theorem gclone (g : GGrid) (h : g.Cells.length ≤ 100000) : f54 g = some (g.Wide, g.High, g.Cells) := by
  unfold f54
  rw [cloneR g.Cells h, bs]
theorem cells_le (g : GGrid) (h : gcode g = 0) : g.Cells.length ≤ 9600 := by
  obtain ⟨W, H, w1, w2, h1, h2, e, hc, hR⟩ := gcode0 g h
  have := size_le W H w2 h2
  omega
theorem clone_ok (s : GScreen) (f : SF s) : f36 s = some (s.Grid.Wide, s.Grid.High, s.Grid.Cells, s.Row, s.Col, s.Late, s.Top, s.Bottom, s.Pen.Flags, s.Pen.Fore, s.Pen.Back, s.Modes, s.Stops.Bits, s.Pages.1, s.Pages.2, s.Shift, s.Saved.Row, s.Saved.Col, s.Saved.Pen.Flags, s.Saved.Pen.Fore, s.Saved.Pen.Back, s.Saved.Origin, s.Saved.Pages.1, s.Saved.Pages.2, s.Saved.Shift, s.Other.Wide, s.Other.High, s.Other.Cells, s.Title, s.Past) := by
  have c1 := cells_le _ f.g
  have c2 := cells_le _ f.o
  unfold f36
  rw [gclone _ (by omega), bs, gclone _ (by omega), bs]
  have h := loop_to (body := f36_l0 s) (fun i => (s.Grid.Wide, s.Grid.High, s.Grid.Cells, s.Other.Wide, s.Other.High, s.Other.Cells, s.Past.take i, (i : Int))) (s.Grid.Wide, s.Grid.High, s.Grid.Cells, s.Other.Wide, s.Other.High, s.Other.Cells, s.Past) s.Past.length ?_ 0 (by omega) ?_
  · have h' : loopO (f36_l0 s) (s.Grid.Wide, s.Grid.High, s.Grid.Cells, s.Other.Wide, s.Other.High, s.Other.Cells, [], 0) = some (s.Grid.Wide, s.Grid.High, s.Grid.Cells, s.Other.Wide, s.Other.High, s.Other.Cells, s.Past) := h
    rw [h', bs]
  · unfold f36_l0 f36_l0_j1
    try dsimp only []
    rw [bcf (df (by omega)), cf, List.take_length]
  · intro i _ hi
    have hp := f.past.2
    have hg : gcode (lineG (s.Past.getD i L0)) = 0 := of_decide_eq_true (f.past.1 i hi)
    have hc := cells_le _ hg
    have hc' : (s.Past.getD i L0).Cells.length ≤ 9600 := hc
    unfold f36_l0 f36_l0_j1 f36_l0_j2
    try dsimp only []
    rw [bct (dt (by omega)), ct, idx_nat s.Past i L0 hi, bs, cloneR _ (by omega), bs, app_row 24 _ _ (by rw [List.length_take]; simp; omega), bs, wr1 i (by omega)]
    have e : s.Past.take i ++ [GLine.mk (s.Past.getD i L0).Cells] = s.Past.take (i + 1) := by
      rw [List.take_add_one]
      have : s.Past[i]? = some (s.Past.getD i L0) := by simp [hi]
      rw [this]; rfl
    rw [e]
def lowI (a b : Int) : Int := if b < a then b else a
def szC (g : GGrid) (w h : Int) : List GCell := repR w.toNat (cutC g.Wide.toNat g.Cells g.High.toNat w.toNat h.toNat ⟨0, 0, 0⟩)
def okSize (w h : Int) : Prop := 1 ≤ w ∧ w ≤ 160 ∧ 1 ≤ h ∧ h ≤ 60
theorem oSize_ok (g : GGrid) (w h : Int) (hg : gcode g = 0) (hs : okSize w h) : oSize g w h ⟨0, 0, 0⟩ = (w, h, szC g w h, 0) := by
  unfold okSize at hs
  unfold oSize
  rw [if_pos hg, if_pos hs, if_pos (by decide)]; rfl
theorem oSize_bad (g : GGrid) (w h : Int) (hg : gcode g = 0) (hs : ¬ okSize w h) : oSize g w h ⟨0, 0, 0⟩ = (0, 0, [], 1) := by
  unfold okSize at hs
  unfold oSize
  rw [if_pos hg, if_neg hs]
def bigT (s : GScreen) (w h : Int) : GScreen :=
  ⟨⟨w, h, szC s.Grid w h⟩, lowI s.Row (h - 1), lowI s.Col (w - 1), false, 0, h, s.Pen, s.Modes, s.Stops, s.Pages, s.Shift, s.Saved, ⟨w, h, szC s.Other w h⟩, s.Title, s.Past⟩
theorem resize_ok (s : GScreen) (w h : Int) (f : SF s) (hc : f28 s = some 0) (hs : okSize w h) :
    f31 s w h = some (w, h, szC s.Grid w h, lowI s.Row (h - 1), lowI s.Col (w - 1), h, s.Pen.Flags, s.Pen.Fore, s.Pen.Back, s.Modes, s.Stops.Bits, s.Pages.1, s.Pages.2, s.Shift, s.Saved.Row, s.Saved.Col, s.Saved.Pen.Flags, s.Saved.Pen.Fore, s.Saved.Pen.Back, s.Saved.Origin, s.Saved.Pages.1, s.Saved.Pages.2, s.Saved.Shift, w, h, szC s.Other w h, s.Title, s.Past, 0) := by
  have hs' := hs
  unfold okSize at hs'
  unfold f31 f31_j0 f31_j1 f31_j2
  rw [hc, bs, bcf (by rfl), sizeop_ok, bs, oSize_ok _ _ _ f.g hs, bcf (by rfl), sizeop_ok, bs, oSize_ok _ _ _ f.o hs, bcf (by rfl), clone_ok s f, bs, i64w (h - 1) (by omega), i64w (w - 1) (by omega)]
  rfl
theorem resize_bad (s : GScreen) (w h : Int) (f : SF s) (hc : f28 s = some 0) (hs : ¬ okSize w h) :
    f31 s w h = some (0, 0, [], 0, 0, 0, 0, 0, 0, 0, (fun _ => 0), 0, 0, 0, 0, 0, 0, 0, 0, false, 0, 0, 0, 0, 0, [], [], [], 1) := by
  unfold f31 f31_j0
  rw [hc, bs, bcf (by rfl), sizeop_ok, bs, oSize_bad _ _ _ f.g hs, bct (by rfl)]
theorem sz_right (g : GGrid) (w h : Int) (hg : gcode g = 0) (hs : okSize w h) : gcode ⟨w, h, szC g w h⟩ = 0 := by
  unfold okSize at hs
  obtain ⟨W, H, w1, w2, h1, h2, e, hl, hR⟩ := gcode0 g hg
  have eW : g.Wide = (W : Int) := by rw [e]
  have eH : g.High = (H : Int) := by rw [e]
  obtain ⟨ww, rfl⟩ := Int.eq_ofNat_of_zero_le (show 0 ≤ w by omega)
  obtain ⟨hh, rfl⟩ := Int.eq_ofNat_of_zero_le (show 0 ≤ h by omega)
  unfold szC
  rw [eW, eH, Int.toNat_natCast, Int.toNat_natCast, Int.toNat_natCast, Int.toNat_natCast]
  refine gcode_ok ww hh _ ⟨by omega, by omega⟩ ⟨by omega, by omega⟩ ((mkL_len _ _).trans (mkL_len _ _)) ?_
  exact repR_rt ww hh _ (by omega) (mkL_len _ _) (fun j hj => cut_cell W H ww hh g.Cells ⟨0, 0, 0⟩ w1 hl hR (by decide) j hj)
/-- A right screen, as the document says. -/
theorem right_scr (x : GScreen) (g : gcode x.Grid = 0) (o : gcode x.Other = 0) (w : x.Grid.Wide = x.Other.Wide) (h : x.Grid.High = x.Other.High) (row : 0 ≤ x.Row ∧ x.Row ≤ x.Grid.High - 1) (col : 0 ≤ x.Col ∧ x.Col ≤ x.Grid.Wide - 1) (late : x.Late = false) (bot : 1 ≤ x.Bottom ∧ x.Bottom ≤ x.Grid.High) (top : 0 ≤ x.Top ∧ x.Top ≤ x.Bottom - 1)
    (modes : 0 ≤ x.Modes ∧ x.Modes ≤ 2047) (pen : pcB x.Pen = true) (spen : pcB x.Saved.Pen = true) (srow : 0 ≤ x.Saved.Row ∧ x.Saved.Row ≤ 59) (scol : 0 ≤ x.Saved.Col ∧ x.Saved.Col ≤ 159)
    (pg1 : 1 ≤ x.Pages.1 ∧ x.Pages.1 ≤ 4) (pg2 : 1 ≤ x.Pages.2 ∧ x.Pages.2 ≤ 4) (sp1 : 1 ≤ x.Saved.Pages.1 ∧ x.Saved.Pages.1 ≤ 4) (sp2 : 1 ≤ x.Saved.Pages.2 ∧ x.Saved.Pages.2 ≤ 4) (sh : 0 ≤ x.Shift ∧ x.Shift ≤ 1) (ssh : 0 ≤ x.Saved.Shift ∧ x.Saved.Shift ≤ 1) (title : x.Title.length ≤ 256) (past : (∀ i, i < x.Past.length → pastP x.Past i = true) ∧ x.Past.length ≤ 40) :
    f27 x = some 0 := by
  obtain ⟨W, H, w1, w2, h1, h2, e, hc, hR⟩ := gcode0 x.Grid g
  have eW : x.Grid.Wide = (W : Int) := by rw [e]
  have eH : x.Grid.High = (H : Int) := by rw [e]
  have b2 : ∀ a lo hi : Int, lo ≤ a ∧ a ≤ hi → f46 a lo hi = some true := fun a lo hi q => by rw [btw_ok, dt q.1, dt q.2]; rfl
  have pn : ∀ p, pcB p = true → f47 p = some 0 := fun p q => by rw [penR_ok]; unfold pcI; rw [if_pos q]
  unfold f27
  rw [right_ok, bs, bct (dt g), right_ok, bs, bct (dt o), bct (dt w), bct (dt h)]
  unfold f27_j0
  rw [ct, i64w (x.Grid.High - 1) (by omega), i64w (x.Grid.Wide - 1) (by omega), b2 _ _ _ row, bs, ct, b2 _ _ _ col, bs, ct, late, Bool.not_false, ct]
  unfold f27_j1
  rw [ct, b2 _ _ _ bot, bs, ct, i64w (x.Bottom - 1) (by omega), b2 _ _ _ top, bs, ct, b2 _ _ _ modes, bs]
  unfold f27_j2
  rw [ct, pn _ pen, bs, bct (by rfl), pn _ spen, bs, bct (by rfl), b2 _ _ _ srow, bs, ct, b2 _ _ _ scol, bs]
  unfold f27_j3
  have l1 := loop_to (body := f27_l9 x) (fun i => (true, (i : Int))) true 4 ?_ 0 (by omega) ?_
  · have l1' : loopO (f27_l9 x) (true, 0) = some true := l1
    rw [l1', bs]
    unfold f27_j4
    rw [ct, b2 _ _ _ sh, bs, ct, b2 _ _ _ ssh, bs, ct, bct (dt (by omega)), bct (dt (by have := past.2; omega))]
    unfold f27_j5
    have l2 := loop_to (body := f27_l6 x) (fun i => (true, (i : Int))) true x.Past.length ?_ 0 (by omega) ?_
    · have l2' : loopO (f27_l6 x) (true, 0) = some true := l2
      rw [l2', bs]; rfl
    · unfold f27_l6 f27_l6_j7
      try dsimp only []
      rw [bcf (df (by omega)), cf]
    · intro i _ hi
      have := past.2
      have hg : gcode (lineG (x.Past.getD i L0)) = 0 := of_decide_eq_true (past.1 i hi)
      unfold f27_l6 f27_l6_j7 f27_l6_j8
      try dsimp only []
      rw [bct (dt (by omega)), ct, idx_nat x.Past i L0 hi, bs, ct, right_ok, bs, wr1 i (by omega)]
      show (bif decide (gcode (lineG (x.Past.getD i L0)) = 0) then _ else _) = _
      rw [dt hg, ct]
  · unfold f27_l9 f27_l9_j10
    try dsimp only []
    rw [bcf (df (by simp)), cf]
  · intro i _ hi
    unfold f27_l9 f27_l9_j10 f27_l9_j11
    try dsimp only []
    have hg : [x.Pages.1, x.Pages.2, x.Saved.Pages.1, x.Saved.Pages.2][i]? = some ([x.Pages.1, x.Pages.2, x.Saved.Pages.1, x.Saved.Pages.2].getD i 0) ∧ (1 ≤ [x.Pages.1, x.Pages.2, x.Saved.Pages.1, x.Saved.Pages.2].getD i 0 ∧ [x.Pages.1, x.Pages.2, x.Saved.Pages.1, x.Saved.Pages.2].getD i 0 ≤ 4) := by
      match i, hi with
      | 0, _ => exact ⟨rfl, pg1⟩
      | 1, _ => exact ⟨rfl, pg2⟩
      | 2, _ => exact ⟨rfl, sp1⟩
      | 3, _ => exact ⟨rfl, sp2⟩
    rw [bct (dt (by simp; omega)), ct, inR_nat i _ (by simpa using hi), bs, hg.1, bs, ct, b2 _ _ _ hg.2, bs, wr1 i (by omega)]
/-- The cells. -/
theorem sz_cell (g : GGrid) (W H w h r c : Nat) (e : g = ⟨W, H, g.Cells⟩) (hl : g.Cells.length = W * H) (hR : Rt W H g.Cells) (hW : 1 ≤ W) (hw : 1 ≤ w) (hr : r < h) (hr2 : r < H) (hc : c < w) (hc2 : c < W) :
    cx (szC g (w : Int) (h : Int)) (r * w + c) = rowF W g.Cells r c ∨ (c + 1 = w ∧ cx (szC g (w : Int) (h : Int)) (r * w + c) = blank (rowF W g.Cells r c).Pen) := by
  have eW : g.Wide = (W : Int) := by rw [e]
  have eH : g.High = (H : Int) := by rw [e]
  have hm := mul_le r h w hr
  rw [Nat.succ_mul] at hm
  unfold szC
  rw [eW, eH]
  simp only [Int.toNat_natCast]
  have dl : (cutC W g.Cells H w h ⟨0, 0, 0⟩).length = w * h := mkL_len _ _
  have dv : ∀ k, k < w → k < W → rowF w (cutC W g.Cells H w h ⟨0, 0, 0⟩) r k = rowF W g.Cells r k := fun k hk hkW => by
    have h1 := (div_iff (r * w + k) r w hw).2 ⟨by omega, by omega⟩
    have h2 := mod_of (r * w + k) r w hw h1
    rw [Nat.add_sub_cancel_left] at h2
    unfold rowF cutC
    rw [mkL_cx _ _ _ (by omega), h1, ← h2, if_pos ⟨by omega, by omega⟩]
  have hx : cx (repR w (cutC W g.Cells H w h ⟨0, 0, 0⟩)) (r * w + c) = repF (rowF w (cutC W g.Cells H w h ⟨0, 0, 0⟩) r) w c := by
    have h1 := (div_iff (r * w + c) r w hw).2 ⟨by omega, by omega⟩
    have h2 := mod_of (r * w + c) r w hw h1
    rw [Nat.add_sub_cancel_left] at h2
    unfold repR
    rw [mkL_cx _ _ _ (by omega), h1, ← h2]
  rw [hx]
  generalize cutC W g.Cells H w h ⟨0, 0, 0⟩ = d at dv
  obtain ⟨n1, n2⟩ := (notlone (rowF W g.Cells r) W c).1 (ok_cell (hR r hr2 c hc2)).2
  unfold repF
  rw [dv c hc hc2]
  by_cases hl2 : loneF (rowF w d r) w c = true
  · rw [if_pos hl2]
    right
    refine ⟨?_, rfl⟩
    by_cases hq : c + 1 = w
    · exact hq
    · exfalso
      have : loneF (rowF w d r) w c = false := by
        rw [notlone, dv c hc hc2]
        refine ⟨fun q => ?_, fun q => ?_⟩
        · obtain ⟨a1, a2, a3⟩ := n1 q
          refine ⟨a1, by rw [dv (c - 1) (by omega) (by omega)]; exact a2, ?_⟩
          rw [tl_iff] at a3 ⊢
          rw [dv c hc hc2, dv (c - 1) (by omega) (by omega)]
          exact ⟨hc, a3.2⟩
        · have a3 := (tl_iff _ _ _).1 (n2 q)
          rw [tl_iff, dv (c + 1) (by omega) a3.1, show c + 1 - 1 = c from rfl, dv c hc hc2]
          exact ⟨by omega, a3.2⟩
      rw [this] at hl2; cases hl2
  · rw [if_neg hl2]; left; rfl
theorem minI (a b : Nat) : (if (a : Int) < (b : Int) then (a : Int) else (b : Int)) = ((min a b : Nat) : Int) := by split <;> omega
abbrev tA {α : Type} (s : GScreen) (w h : Int) (k : α) := (w, h, szC s.Grid w h, lowI s.Row (h - 1), lowI s.Col (w - 1), h, s.Pen.Flags, s.Pen.Fore, s.Pen.Back, s.Modes, s.Stops.Bits, s.Pages.1, s.Pages.2, s.Shift, s.Saved.Row, s.Saved.Col, s.Saved.Pen.Flags, s.Saved.Pen.Fore, s.Saved.Pen.Back, s.Saved.Origin, s.Saved.Pages.1, s.Saved.Pages.2, s.Saved.Shift, w, h, szC s.Other w h, s.Title, s.Past, k)
theorem szC_len (g : GGrid) (w h : Nat) : (szC g (w : Int) (h : Int)).length = w * h := by
  unfold szC
  rw [Int.toNat_natCast, Int.toNat_natCast]
  exact (mkL_len _ _).trans (mkL_len _ _)
theorem sz_inner (s : GScreen) (W H w h r : Nat) (e : s.Grid = ⟨W, H, s.Grid.Cells⟩) (hl : s.Grid.Cells.length = W * H) (hR : Rt W H s.Grid.Cells) (hW : 1 ≤ W) (hW2 : W ≤ 160) (hH : H ≤ 60) (hw : 1 ≤ w) (hw2 : w ≤ 160) (hh : h ≤ 60) (hr : r < h) (hr2 : r < H) :
    loopO (f10_l2_l5 s (w : Int) (h : Int)) (tA s w h ((r : Int), (r : Int), (0 : Int))) = some (.inl (tA s w h (r : Int))) := by
  have eW : s.Grid.Wide = (W : Int) := by rw [e]
  have h9 := size_le W H hW2 hH
  have h8 := size_le w h hw2 hh
  have hm := mul_le r h w hr
  have hm2 := mul_le r H W hr2
  rw [Nat.succ_mul] at hm hm2
  have hlp := loop_to (body := f10_l2_l5 s (w : Int) (h : Int)) (fun c => tA s w h ((r : Int), (r : Int), (c : Int))) (.inl (tA s w h (r : Int))) (min W w) ?_ 0 (by omega) ?_
  · exact hlp
  · unfold f10_l2_l5 f10_l2_l5_j6
    try dsimp only [tA]
    rw [eW, minI, bcf (df (by omega)), cf]
  · intro c _ hc
    unfold f10_l2_l5 f10_l2_l5_j6 f10_l2_l5_j7
    try dsimp only [tA]
    have cell := sz_cell s.Grid W H w h r c e hl hR hW hw hr hr2 (by omega) (by omega)
    have sl := szC_len s.Grid w h
    rw [eW, minI, bct (dt (by omega)), ct, wrW w h r hw2 hh (by omega), wrW W H r hW2 hH (by omega)]
    rw [i64w (((r * w : Nat) : Int) + (c : Int)) (by omega), i64w (((r * W : Nat) : Int) + (c : Int)) (by omega), i64w ((w : Int) - 1) (by omega), wr1 c (by omega)]
    rw [show ((r * w : Nat) : Int) + (c : Int) = ((r * w + c : Nat) : Int) by omega, show ((r * W : Nat) : Int) + (c : Int) = ((r * W + c : Nat) : Int) by omega]
    rw [sl, inR_nat (r * w + c) _ (by omega), bs, cx_get _ _ (by omega), bs, cx_idx s.Grid.Cells (r * W + c) (by omega), bs]
    have cell' : cx (szC s.Grid (w : Int) (h : Int)) (r * w + c) = cx s.Grid.Cells (r * W + c) ∨ (c + 1 = w ∧ cx (szC s.Grid (w : Int) (h : Int)) (r * w + c) = blank (cx s.Grid.Cells (r * W + c)).Pen) := cell
    generalize cx (szC s.Grid (w : Int) (h : Int)) (r * w + c) = A at cell' ⊢
    generalize cx s.Grid.Cells (r * W + c) = B at cell' ⊢
    show (bif !ceq A B then ((f29 B.Pen).bind _) else _) = _
    rcases cell' with q | ⟨q1, q2⟩
    · rw [(ceq_iff _ _).2 q, Bool.not_true, cf]
    · rw [show f29 B.Pen = some (blank B.Pen) from rfl, bs]
      show (bif !ceq A B then (bif !ceq A (blank B.Pen) then _ else _) else _) = _
      rw [(ceq_iff _ _).2 q2, Bool.not_true, cf, dt (show (c : Int) = (w : Int) - 1 by omega), Bool.not_true, cf]
      cases ceq A B <;> rfl
theorem lowI_b (a b : Int) (ha : 0 ≤ a) (hb : 0 ≤ b) : 0 ≤ lowI a b ∧ lowI a b ≤ b := by unfold lowI; split <;> omega
theorem screenSize (s : GScreen) (w h : Int) (hp : s.Past.length ≤ 1048576) : f10 s w h = some true := by
  have lv : libLives = some true := rfl
  unfold f10
  rw [lv]
  simp only [bs, Bool.not_true, cf]
  rcases scr_check s hp with hc | ⟨hc, f⟩
  · have : f31 s w h = some (0, 0, [], 0, 0, 0, 0, 0, 0, 0, (fun _ => 0), 0, 0, 0, 0, 0, 0, 0, 0, false, 0, 0, 0, 0, 0, [], [], [], 4) := by
      unfold f31
      rw [hc, bs, bct (by rfl)]
    rw [this, bs]; rfl
  by_cases hs : okSize w h
  case neg => rw [resize_bad s w h f hc hs, bs]; rfl
  rw [resize_ok s w h f hc hs, bs]
  try dsimp only []
  rw [bcf (by rfl)]
  have hs' := hs
  unfold okSize at hs'
  unfold f10_j0
  have hr := right_scr (bigT s w h) (sz_right s.Grid w h f.g hs) (sz_right s.Other w h f.o hs) rfl rfl (lowI_b _ _ f.row.1 (by omega)) (lowI_b _ _ f.col.1 (by omega)) rfl ⟨by show 1 ≤ h; omega, by show h ≤ h; omega⟩ ⟨by show (0 : Int) ≤ 0; omega, by show 0 ≤ h - 1; omega⟩ f.modes f.pen f.spen f.srow f.scol f.pg1 f.pg2 f.sp1 f.sp2 f.sh f.ssh f.title f.past
  have hr' : f27 (GScreen.mk (GGrid.mk w h (szC s.Grid w h)) (lowI s.Row (h - 1)) (lowI s.Col (w - 1)) false 0 h (GPen.mk s.Pen.Flags s.Pen.Fore s.Pen.Back) s.Modes (GStops.mk s.Stops.Bits) (s.Pages.1, s.Pages.2) s.Shift (GSaved.mk s.Saved.Row s.Saved.Col (GPen.mk s.Saved.Pen.Flags s.Saved.Pen.Fore s.Saved.Pen.Back) s.Saved.Origin (s.Saved.Pages.1, s.Saved.Pages.2) s.Saved.Shift) (GGrid.mk w h (szC s.Other w h)) s.Title s.Past) = some 0 := hr
  rw [hr', bs, bcf (by rfl), bcf (by rw [dt rfl]; rfl), bcf (by rw [dt rfl]; rfl), bcf (by rw [dt rfl]; rfl), bcf (by rw [dt rfl]; rfl)]
  unfold f10_j1
  obtain ⟨W, H, w1, w2, h1, h2, e, hl, hR⟩ := gcode0 s.Grid f.g
  have eH : s.Grid.High = (H : Int) := by rw [e]
  obtain ⟨ww, rfl⟩ := Int.eq_ofNat_of_zero_le (show 0 ≤ w by omega)
  obtain ⟨hh, rfl⟩ := Int.eq_ofNat_of_zero_le (show 0 ≤ h by omega)
  have hlp := loop_to (body := f10_l2 s (ww : Int) (hh : Int)) (fun r => tA s ww hh (r : Int)) (.inl ()) (min H hh) ?_ 0 (by omega) ?_
  · have hlp' : loopO (f10_l2 s (ww : Int) (hh : Int)) (tA s ww hh (0 : Int)) = some (.inl ()) := hlp
    unfold tA at hlp'
    rw [hlp', bs]; rfl
  · unfold f10_l2 f10_l2_j3
    try dsimp only [tA]
    rw [eH, minI, bcf (df (by omega)), cf]
  · intro r _ hr
    have inner := sz_inner s W H ww hh r e hl hR w1 w2 h2 (by omega) (by omega) (by omega) (by omega) (by omega)
    unfold tA at inner
    unfold f10_l2 f10_l2_j3 f10_l2_j4
    try dsimp only [tA]
    rw [eH, minI, bct (dt (by omega)), ct, inner, bs, Sum.elim_inl]
    try dsimp only []
    rw [wr1 r (by omega)]
theorem ScreenSize_walk (v0 v1 v2 : Value) (w : World) (h0 : Arg (some 1048576) Go.Proofs.Tryz.prog w 36 v0) (h1 : Arg (some 1048576) Go.Proofs.Tryz.prog w 3 v1) (h2 : Arg (some 1048576) Go.Proofs.Tryz.prog w 3 v2) : Calls Go.Proofs.Tryz.prog 10 #[v0, v1, v2] w fun e w' => e = .returned (.bool true) ∧ Below w.heap.size w w' :=
  ScreenSize_calls (some 1048576) (fun s a2 a3 hv _ _ => screenSize s a2 a3 (by have := hv.2.2.2.2.2.2.2.2.2.2.2.2.2.2.1; unfold FitN at this; omega)) v0 v1 v2 w h0 h1 h2
end Go.Proofs.YtjoccdgmcdkbkaaGreatDoor.Pm
