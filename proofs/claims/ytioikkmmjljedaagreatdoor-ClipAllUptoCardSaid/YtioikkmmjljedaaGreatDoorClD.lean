/- clip: ClipAll. -/
import Derived.Test.YtioikkmmjljedaaGreatDoorClC
namespace Go.Proofs.YtioikkmmjljedaaGreatDoor.Pm
open Go.Proofs.YtioikkmmjljedaaGreatDoor.Args
open Go.ChangeShapes Go.WideShapes Go.ChangeAt Go.RowKit
set_option linter.unusedVariables false
set_option linter.unusedSimpArgs false
set_option maxRecDepth 100000
/-- A whole row's text. -/
theorem whole_text (r : List GCell) (h : Gd r) : textS r 0 160 = strip (runes r) := by
  have h1 := h.pos
  have h2 := h.le
  unfold textS
  rw [Nat.min_eq_right (by omega : r.length ≤ 160), Nat.min_eq_left (by omega : 0 ≤ r.length), if_neg (by omega), if_neg (show ¬ (cx r 0).Rune = 0 from h.fst), if_neg (show ¬ (r.length < r.length ∧ (cx r r.length).Rune = 0) from fun q => Nat.lt_irrefl _ q.1), List.drop_zero, List.take_of_length_le (Nat.le_refl _)]
/-- Blanks at the end, as far as the row goes. -/
theorem want_strip (s : GScreen) (l : List Int) (e : Int) (W : List Int) (R : List (List GCell)) (m i : Int) (hW : W.length ≤ 1000000) : ∀ (n : Nat) (x : List Int), x.length = n → n ≤ 1000 →
    loopO (f5_l2_l7 s) (l, e, W ++ x, (W.length : Int), R, m, i) = some (l, e, W ++ strip x, R, m, i)
  | 0, x, h, _ => by
    rw [List.eq_nil_of_length_eq_zero h]
    refine loopO_done ?_
    unfold f5_l2_l7
    simp only [List.append_nil]
    rw [df (by omega), cf, strip_nil, List.append_nil]
  | n + 1, x, h, hn => by
    obtain ⟨y, c, rfl⟩ : ∃ y c, x = y ++ [c] := ⟨x.dropLast, x.getLast (by intro e; rw [e] at h; cases h), (List.dropLast_concat_getLast _).symm⟩
    have hy : y.length = n := by simp at h; exact h
    have hl : (W ++ (y ++ [c])).length = W.length + y.length + 1 := by simp; omega
    have hw : IntKind.i64.wrap (((W ++ (y ++ [c])).length : Int) - 1) = ((W.length + y.length : Nat) : Int) := by rw [i64w _ (by omega)]; omega
    have hg : (W ++ (y ++ [c]))[W.length + y.length]? = some c := by rw [← List.append_assoc, ← List.length_append]; simp
    by_cases hc : c = 32
    · subst hc
      rw [strip_32]
      refine loopO_next ?_ (want_strip s l e W R m i hW n y hy (by omega))
      unfold f5_l2_l7
      simp only
      rw [dt (by omega), ct, hw, inR_nat _ _ (by omega), bs, hg, bs, dt rfl, ct]
      have : sub? (W ++ (y ++ [32])) 0 ((W.length + y.length : Nat) : Int) = some (W ++ y) := by
        unfold sub?
        rw [if_pos (by omega)]
        have e1 : W ++ (y ++ [32]) = (W ++ y) ++ [32] := by simp
        have e2 : W.length + y.length = (W ++ y).length := by simp
        rw [Int.toNat_natCast, e1, e2, List.take_left' rfl]; rfl
      rw [this, bs]
    · rw [strip_x y c hc]
      refine loopO_done ?_
      unfold f5_l2_l7
      simp only
      rw [dt (by omega), ct, hw, inR_nat _ _ (by omega), bs, hg, bs, df hc, cf]
theorem want_runes (s : GScreen) (l : List Int) (e : Int) (W : List Int) (k : Int) (R : List (List GCell)) (m i : Int) (r : List GCell) (hr : r.length ≤ 1000) (hW : W.length ≤ 1000000) : ∀ (suf pre : List GCell), r = pre ++ suf →
    loopO (f5_l2_l8 s) (l, e, W ++ runes pre, k, R, m, i, r, (r.length : Int), (pre.length : Int)) = some (l, e, W ++ runes r, k, R, m, i)
  | [], pre, h => loopO_done (by
      subst h
      unfold f5_l2_l8 f5_l2_l8_j9
      simp only [lt_end, cond_false]
      simp)
  | c :: suf, pre, h => by
    have hp : pre.length < 1000 := by rw [h] at hr; simp at hr; omega
    have hlt : decide ((pre.length : Int) < (r.length : Int)) = true := by rw [h]; exact lt_mid pre c suf
    have hx : idx r (pre.length : Int) = some c := by rw [h]; exact idx_mid pre c suf
    refine loopO_next ?_ (want_runes s l e W k R m i r hr hW suf (pre ++ [c]) (by simp [h]))
    unfold f5_l2_l8 f5_l2_l8_j9 f5_l2_l8_j10
    simp only [hlt, cond_true]
    rw [hx, bs, wrap_nx pre c (by omega), runes_app]
    have hrl := runes_len pre
    by_cases h0 : c.Rune = 0
    · rw [dt h0, Bool.not_true, cf]
      have : runes [c] = [] := by unfold runes; simp [h0]
      rw [this, List.append_nil]
    · rw [df h0, Bool.not_false, ct, app_ok 8 _ _ (by simp; omega), bs]
      have : runes [c] = [c.Rune] := by unfold runes; simp [h0]
      rw [this, List.append_assoc]
theorem clipAll (s : GScreen) (hl : s.Past.length ≤ 1048576) : f5 s = some true := by
  unfold f5
  rcases rows_spec s hl with h | ⟨h, hR, h1, h2⟩
  · rw [h, bs]
    unfold libLives
    rw [bs, Bool.not_true, cf]
    simp only
    rw [df (by decide), Bool.not_false, ct]
    unfold f5_j11 libLives
    rw [bs, ct]; rfl
  rw [h, bs]
  unfold libLives
  rw [bs, Bool.not_true, cf]
  simp only
  rw [dt trivial, Bool.not_true, cf]
  generalize hRR : rowsS s = R at *
  rw [df (by omega), cf]
  unfold f5_j0
  have hw : IntKind.i64.wrap ((R.length : Int) - 1) = ((R.length - 1 : Nat) : Int) := by rw [i64w _ (by omega)]; omega
  rw [hw, text_spec s _ _ false R h hR (by omega), bs]
  have ht : textR R ⟨0, 0⟩ ⟨((R.length - 1 : Nat) : Int), 159⟩ false = (outT R 0 0 (R.length - 1) 159 false R.length, 0) := by
    unfold textR
    rw [if_pos ⟨⟨by show (0 : Int) ≤ 0; omega, by show (0 : Int) < _; omega, by show (0 : Int) ≤ 0; omega, by show (0 : Int) < 160; omega⟩, ⟨by show (0 : Int) ≤ ((R.length - 1 : Nat) : Int); omega, by show ((R.length - 1 : Nat) : Int) < _; omega, by show (0 : Int) ≤ 159; omega, by show (159 : Int) < 160; omega⟩⟩,
      if_neg (show ¬ less (⟨0, 0⟩ : GPlace) ⟨((R.length - 1 : Nat) : Int), 159⟩ by unfold less; show ¬ (((R.length - 1 : Nat) : Int) < 0 ∨ ((R.length - 1 : Nat) : Int) = 0 ∧ (159 : Int) < 0); omega)]
    unfold allI allT
    simp only [Int.toNat_natCast]
    rw [show (0 : Int).toNat = 0 from rfl, show (159 : Int).toNat = 159 from rfl, show R.length - 1 + 1 - 0 = R.length by omega]
  rw [ht]
  simp only
  generalize hL : outT R 0 0 (R.length - 1) 159 false R.length = L
  have hLl : L.length ≤ 1000000 := by have := outT_len R hR 0 0 (R.length - 1) 159 false R.length (by omega); rw [hL] at this; omega
  have step : ∀ i, i < R.length → f5_l2 s (L, 0, outT R 0 0 (R.length - 1) 159 false i, R, (R.length : Int), ((i : Nat) : Int)) = some (.inl (L, 0, outT R 0 0 (R.length - 1) 159 false (i + 1), R, (R.length : Int), ((i + 1 : Nat) : Int))) := by
    intro i hi
    have hg := getD_good R hR i hi
    have hgl := hg.le
    have hout := outT_len R hR 0 0 (R.length - 1) 159 false i (by omega)
    have hix : idx R (i : Int) = some (R.getD i []) := idx_nat R i [] hi
    have hwi : IntKind.i64.wrap ((i : Int) + 1) = ((i + 1 : Nat) : Int) := by rw [i64w _ (by omega)]; rfl
    have hrl := runes_len (R.getD i [])
    have hj5 : ∀ W : List Int, W.length ≤ 1000000 → f5_l2_j5 s L 0 W (R.getD i []) R (R.length : Int) (i : Int) = some (.inl (L, 0, W ++ strip (runes (R.getD i [])), R, (R.length : Int), ((i + 1 : Nat) : Int))) := by
      intro W hW
      unfold f5_l2_j5
      have q := want_runes s L 0 W (W.length : Int) R (R.length : Int) (i : Int) (R.getD i []) (by omega) hW (R.getD i []) [] rfl
      have q : loopO (f5_l2_l8 s) (L, 0, W, (W.length : Int), R, (R.length : Int), (i : Int), R.getD i [], ((R.getD i []).length : Int), 0) = some (L, 0, W ++ runes (R.getD i []), (W.length : Int), R, (R.length : Int), (i : Int)) := by
        have e : W ++ runes [] = W := by simp [runes]
        rw [e] at q; exact q
      rw [q, bs]
      unfold f5_l2_j6
      simp only
      rw [want_strip s L 0 W R (R.length : Int) (i : Int) hW _ _ rfl (by omega), bs]
      simp only
      rw [hwi]
    have hfin : outT R 0 0 (R.length - 1) 159 false i ++ (if i = 0 then [] else [10]) ++ strip (runes (R.getD i [])) = outT R 0 0 (R.length - 1) 159 false (i + 1) := by
      show _ = outT R 0 0 (R.length - 1) 159 false i ++ (if i = 0 then [] else [10]) ++ lineT R 0 0 (R.length - 1) 159 false (0 + i)
      unfold lineT fromS toS
      rw [Nat.zero_add, ← whole_text _ hg]
      simp
    unfold f5_l2 f5_l2_j3 f5_l2_j4
    simp only
    rw [dt (by omega), ct, ct, hix, bs]
    by_cases h0 : i = 0
    · rw [df (by omega), cf, hj5 _ (by omega)]
      rw [if_pos h0, List.append_nil] at hfin
      rw [hfin]
    · rw [dt (by omega), ct, app_ok 8 _ _ (by simp; omega), bs, hj5 _ (by simp; omega)]
      rw [if_neg h0] at hfin
      rw [hfin]
  have hend : f5_l2 s (L, 0, outT R 0 0 (R.length - 1) 159 false R.length, R, (R.length : Int), ((R.length : Nat) : Int)) = some (.inr (L, 0, L)) := by
    unfold f5_l2 f5_l2_j3
    simp only
    rw [df (by omega), cf, cf, hL]
  have hlp := loop_to (body := f5_l2 s) (fun i => (L, 0, outT R 0 0 (R.length - 1) 159 false i, R, (R.length : Int), ((i : Nat) : Int))) _ R.length hend 0 (Nat.zero_le _) (fun i _ hi => step i hi)
  have hlp : loopO (f5_l2 s) (L, 0, [], R, (R.length : Int), 0) = some (L, 0, L) := hlp
  rw [hlp, bs]
  unfold f5_j1
  simp only
  rw [dt trivial, ct, ints_same L hLl, bs]
theorem ClipAll_walk (v0 : Value) (w : World) (h0 : Arg (some 1048576) Go.Proofs.Tryz.prog w 36 v0) : Calls Go.Proofs.Tryz.prog 5 #[v0] w fun e w' => e = .returned (.bool true) ∧ Below w.heap.size w w' :=
  ClipAll_calls (some 1048576) (fun s hs => clipAll s (by exact hs.2.2.2.2.2.2.2.2.2.2.2.2.2.2.1)) v0 w h0
end Go.Proofs.YtioikkmmjljedaaGreatDoor.Pm
