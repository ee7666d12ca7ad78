/- clip: ClipWays, ClipCuts, ClipAll. -/
import Derived.Test.YtioikkmmjljedaaGreatDoorClB
namespace Go.Proofs.YtioikkmmjljedaaGreatDoor.Pm
open Go.Proofs.YtioikkmmjljedaaGreatDoor.Args
open Go.ChangeShapes Go.WideShapes Go.ChangeAt Go.RowKit
set_option linter.unusedVariables false
set_option linter.unusedSimpArgs false
set_option maxRecDepth 100000
theorem outT_blk (R : List (List GCell)) (pr pc qr qc pc' qr' qc' : Nat) (h1 : min pc qc = min pc' qc') (h2 : max pc qc = max pc' qc') : ∀ k, outT R pr pc qr qc true k = outT R pr pc' qr' qc' true k
  | 0 => rfl
  | k + 1 => by
    unfold outT lineT fromS toS
    rw [outT_blk R pr pc qr qc pc' qr' qc' h1 h2 k, if_pos rfl, if_pos rfl, if_pos rfl, if_pos rfl, h1, h2]
theorem row_text (R : List (List GCell)) (r ac bc : Nat) (hr : r < R.length) (ha : ac < 160) (hb : bc < 160) : textR R ⟨r, ac⟩ ⟨r, bc⟩ false = (textS (R.getD r []) (min ac bc) (max ac bc + 1), 0) := by
  unfold textR
  rw [if_pos ⟨⟨by show (0 : Int) ≤ r; omega, by show (r : Int) < _; omega, by show (0 : Int) ≤ ac; omega, by show (ac : Int) < 160; omega⟩, ⟨by show (0 : Int) ≤ r; omega, by show (r : Int) < _; omega, by show (0 : Int) ≤ bc; omega, by show (bc : Int) < 160; omega⟩⟩]
  by_cases h : bc < ac
  · rw [if_pos (show less (⟨r, ac⟩ : GPlace) ⟨r, bc⟩ from .inr ⟨rfl, Int.ofNat_lt.2 h⟩), one_row R ⟨r, bc⟩ ⟨r, ac⟩ rfl (by show (bc : Int).toNat ≤ (ac : Int).toNat; omega)]
    simp only [Int.toNat_natCast]
    rw [Nat.min_eq_right (by omega), Nat.max_eq_left (by omega)]
  · rw [if_neg (show ¬ less (⟨r, ac⟩ : GPlace) ⟨r, bc⟩ by unfold less; show ¬ ((r : Int) < r ∨ (r : Int) = r ∧ (bc : Int) < ac); omega), one_row R ⟨r, ac⟩ ⟨r, bc⟩ rfl (by show (ac : Int).toNat ≤ (bc : Int).toNat; omega)]
    simp only [Int.toNat_natCast]
    rw [Nat.min_eq_left (by omega), Nat.max_eq_right (by omega)]
theorem clipCuts (s : GScreen) (a b : GPlace) (hl : s.Past.length ≤ 1048576) : f4 s a b = some true := by
  unfold f4
  rcases rows_spec s hl with h | ⟨h, hR, h1, h2⟩
  · rw [text_none s _ _ _ h, bs]
    unfold libLives
    rw [bs, Bool.not_true, cf]
    simp only
    rw [df (by decide), Bool.not_false, ct]
    unfold f4_j4 libLives
    rw [bs, ct]; rfl
  rw [text_spec s a b true _ h hR (by omega), bs]
  unfold libLives
  rw [bs, Bool.not_true, cf]
  generalize hRR : rowsS s = R at *
  by_cases ho : okP R a ∧ okP R b
  · have ht : textR R a b true = ((if less a b then allI R b a true else allI R a b true), 0) := by unfold textR; rw [if_pos ho]
    have hlen := textR_len R hR (by omega) a b true
    rw [ht] at hlen
    rw [ht]
    obtain ⟨ar, ac⟩ := a
    obtain ⟨br, bc⟩ := b
    obtain ⟨⟨p1, p2, p3, p4⟩, ⟨q1, q2, q3, q4⟩⟩ := ho
    simp only at p1 p2 p3 p4 q1 q2 q3 q4
    obtain ⟨ar, rfl⟩ := Int.eq_ofNat_of_zero_le p1
    obtain ⟨ac, rfl⟩ := Int.eq_ofNat_of_zero_le p3
    obtain ⟨br, rfl⟩ := Int.eq_ofNat_of_zero_le q1
    obtain ⟨bc, rfl⟩ := Int.eq_ofNat_of_zero_le q3
    have hall : (if less ⟨ar, ac⟩ ⟨br, bc⟩ then allI R ⟨br, bc⟩ ⟨ar, ac⟩ true else allI R ⟨ar, ac⟩ ⟨br, bc⟩ true) = outT R (min ar br) ac (max ar br) bc true (max ar br + 1 - min ar br) := by
      by_cases hle : less (⟨ar, ac⟩ : GPlace) ⟨br, bc⟩
      · rw [if_pos hle]
        unfold allI allT
        simp only [Int.toNat_natCast]
        have : br ≤ ar := by rcases hle with h | ⟨h, _⟩ <;> simp only at h <;> omega
        rw [Nat.min_eq_right this, Nat.max_eq_left this]
        exact outT_blk R br bc ar ac ac ar bc (Nat.min_comm _ _) (Nat.max_comm _ _) _
      · rw [if_neg hle]
        unfold allI allT
        simp only [Int.toNat_natCast]
        have : ar ≤ br := by unfold less at hle; simp only at hle; omega
        rw [Nat.min_eq_left this, Nat.max_eq_right this]
    rw [hall] at hlen ⊢
    simp only at hlen ⊢
    rw [dt trivial, Bool.not_true, cf]
    unfold f4_j0
    simp only
    generalize hL : outT R (min ar br) ac (max ar br) bc true (max ar br + 1 - min ar br) = L at *
    have step : ∀ i, i < max ar br + 1 - min ar br → f4_l1 s ⟨ar, ac⟩ ⟨br, bc⟩ (L, outT R (min ar br) ac (max ar br) bc true i, ((min ar br + i : Nat) : Int)) = some (.inl (L, outT R (min ar br) ac (max ar br) bc true (i + 1), ((min ar br + (i + 1) : Nat) : Int))) := by
      intro i hi
      have hn : min ar br + i < R.length := by omega
      have hg := getD_good R hR (min ar br + i) hn
      have hout := outT_len R hR (min ar br) ac (max ar br) bc true i (by omega)
      have hw : IntKind.i64.wrap (((min ar br + i : Nat) : Int) + 1) = ((min ar br + (i + 1) : Nat) : Int) := by rw [i64w _ (by omega)]; omega
      have hrow := row_text R (min ar br + i) ac bc hn (by omega) (by omega)
      have hts := textS_len (R.getD (min ar br + i) []) (min ac bc) (max ac bc + 1)
      have hgl := hg.le
      have hj3 : ∀ o : List Int, o.length ≤ 1000000 → f4_l1_j3 s ⟨ar, ac⟩ ⟨br, bc⟩ L o ((min ar br + i : Nat) : Int) = some (.inl (L, o ++ textS (R.getD (min ar br + i) []) (min ac bc) (max ac bc + 1), ((min ar br + (i + 1) : Nat) : Int))) := by
        intro o ho
        unfold f4_l1_j3
        show (f7 s ⟨((min ar br + i : Nat) : Int), (ac : Int)⟩ ⟨((min ar br + i : Nat) : Int), (bc : Int)⟩ false).bind _ = _
        rw [text_spec s _ _ false R h hR (by omega), hrow, bs]
        simp only
        rw [dt trivial, Bool.not_true, cf, app_ok 8 _ _ (by omega), bs, hw]
      have hfin : outT R (min ar br) ac (max ar br) bc true i ++ (if i = 0 then [] else [10]) ++ textS (R.getD (min ar br + i) []) (min ac bc) (max ac bc + 1) = outT R (min ar br) ac (max ar br) bc true (i + 1) := by
        show _ = outT R (min ar br) ac (max ar br) bc true i ++ (if i = 0 then [] else [10]) ++ lineT R (min ar br) ac (max ar br) bc true (min ar br + i)
        unfold lineT fromS toS
        rw [if_pos rfl, if_pos rfl]
      unfold f4_l1
      show (bif decide (((min ar br + i : Nat) : Int) ≤ (if (br : Int) > (ar : Int) then (br : Int) else (ar : Int))) then _ else _) = _
      rw [max_c, dt (by omega), ct]
      unfold f4_l1_j2
      show (bif decide ((if (br : Int) < (ar : Int) then (br : Int) else (ar : Int)) < ((min ar br + i : Nat) : Int)) then _ else _) = _
      rw [min_c]
      dsimp only
      by_cases h0 : i = 0
      · rw [df (by omega), cf, hj3 _ (by omega)]
        rw [if_pos h0, List.append_nil] at hfin
        rw [hfin]
      · rw [dt (by omega), ct, app_ok 8 _ _ (by simp; omega), bs, hj3 _ (by simp; omega)]
        rw [if_neg h0] at hfin
        rw [hfin]
    have hend : f4_l1 s ⟨ar, ac⟩ ⟨br, bc⟩ (L, outT R (min ar br) ac (max ar br) bc true (max ar br + 1 - min ar br), ((min ar br + (max ar br + 1 - min ar br) : Nat) : Int)) = some (.inr (.inl (L, L))) := by
      unfold f4_l1
      show (bif decide (((min ar br + (max ar br + 1 - min ar br) : Nat) : Int) ≤ (if (br : Int) > (ar : Int) then (br : Int) else (ar : Int))) then _ else _) = _
      rw [max_c, df (by omega), cf, hL]
    have hlp := loop_to (body := f4_l1 s ⟨ar, ac⟩ ⟨br, bc⟩) (fun i => (L, outT R (min ar br) ac (max ar br) bc true i, ((min ar br + i : Nat) : Int))) _ (max ar br + 1 - min ar br) hend 0 (Nat.zero_le _) (fun i _ hi => step i hi)
    have hlp : loopO (f4_l1 s ⟨ar, ac⟩ ⟨br, bc⟩) (L, [], ((min ar br : Nat) : Int)) = some (.inl (L, L)) := hlp
    rw [min_c, hlp, bs, Sum.elim_inl, ints_same L hlen, bs]
  · have ht : textR R a b true = ([], 1) := by unfold textR; rw [if_neg ho]
    rw [ht]
    simp only
    rw [df (by decide), Bool.not_false, ct]
    unfold f4_j4 libLives
    rw [bs, ct]; rfl
theorem fitS {n b : Nat} (h : FitN (some 1048576) n b) : n ≤ 1048576 := h
theorem ClipWays_walk (v0 v1 v2 v3 : Value) (w : World) (h0 : Arg (some 1048576) Go.Proofs.Tryz.prog w 36 v0) (h1 : Arg (some 1048576) Go.Proofs.Tryz.prog w 38 v1) (h2 : Arg (some 1048576) Go.Proofs.Tryz.prog w 38 v2) (h3 : Arg (some 1048576) Go.Proofs.Tryz.prog w 4 v3) : Calls Go.Proofs.Tryz.prog 3 #[v0, v1, v2, v3] w fun e w' => e = .returned (.bool true) ∧ Below w.heap.size w w' :=
  ClipWays_calls (some 1048576) (fun s a b k hs _ _ _ => clipWays s a b k (by exact hs.2.2.2.2.2.2.2.2.2.2.2.2.2.2.1)) v0 v1 v2 v3 w h0 h1 h2 h3
theorem ClipCuts_walk (v0 v1 v2 : Value) (w : World) (h0 : Arg (some 1048576) Go.Proofs.Tryz.prog w 36 v0) (h1 : Arg (some 1048576) Go.Proofs.Tryz.prog w 38 v1) (h2 : Arg (some 1048576) Go.Proofs.Tryz.prog w 38 v2) : Calls Go.Proofs.Tryz.prog 4 #[v0, v1, v2] w fun e w' => e = .returned (.bool true) ∧ Below w.heap.size w w' :=
  ClipCuts_calls (some 1048576) (fun s a b hs _ _ => clipCuts s a b (by exact hs.2.2.2.2.2.2.2.2.2.2.2.2.2.2.1)) v0 v1 v2 w h0 h1 h2
end Go.Proofs.YtioikkmmjljedaaGreatDoor.Pm
