/- Draw: what a drawer writes. -/
import Derived.Test.YtbokpgemkkebnaaGreatDoorDoE
import Derived.Test.YtbokpgemkkebnaaGreatDoorDoF
namespace Go.Proofs.YtbokpgemkkebnaaGreatDoor.Dr
open Go.Proofs.YtbokpgemkkebnaaGreatDoor.Pm
open Go.Proofs.YtbokpgemkkebnaaGreatDoor.Pr (Fed fed_csi fed_print bts runes_asc readA writeA write_ok read_word word word_ok badN)
open Go.Proofs.YtbokpgemkkebnaaGreatDoor.Args
open Go.ChangeShapes Go.WideShapes Go.ChangeAt Go.RowKit
set_option linter.unusedVariables false
set_option linter.unusedSimpArgs false
set_option maxRecDepth 100000
theorem dd_len (u : Nat) (h : u < 1000) : (Lib.decDigits u).length ≤ 3 := by
 have one : ∀ u, u < 10 → (Lib.decDigits u).length = 1 := fun u h => by rw [Lib.decDigits_one h]; rfl
 have more : ∀ u, ¬ u < 10 → (Lib.decDigits u).length = (Lib.decDigits (u / 10)).length + 1 := fun u h => by
  have e : Lib.decDigits u = Lib.decDigits (u / 10) ++ [UInt8.ofNat (48 + u % 10)] := by rw [Lib.decDigits, dif_neg h]
  rw [e]; simp
 by_cases h1 : u < 10
 ·rw [one u h1]; omega
 rw [more u h1]
 by_cases h2 : u / 10 < 10
 ·rw [one _ h2]; omega
 rw [more _ h2, one (u / 10 / 10) (by omega)]; omega
theorem word_len (n : Int) (h : 0 ≤ n ∧ n ≤ 999) : (word n).length ≤ 3 := by
 obtain ⟨u, rfl⟩ := Int.eq_ofNat_of_zero_le h.1
 unfold word
 rw [if_neg (by omega), Lib.itoa_nonneg]
 exact dd_len u (by omega)
theorem args_text (l : List Int) (h0 : l ≠ []) (h : Sm l) (h20 : l.length ≤ 20) : ∃ A : List UInt8, f46 l = some (A, 0) ∧ A.length ≤ 80 ∧ A.all Pr.okB = true ∧ (readA A).1 = l := by
 have hb : ∀ n ∈ l, badN n = false := fun n hn => by
  have := h n hn
  unfold badN
  simp only [Bool.or_eq_false_iff, decide_eq_false_iff_not]
  omega
 have hw : writeA l = (Lib.join (l.map word) [59], 0) := by
  unfold writeA
  rw [if_neg h0, if_neg, if_neg (by omega)]
  rw [Bool.not_eq_true, List.any_eq_false]
  exact fun n hn => by rw [hb n hn]; decide
 obtain ⟨x, xs, rfl⟩ := List.exists_cons_of_ne_nil h0
 have hl := join_len 59 3 (word x) (xs.map word) (fun w hw => by
  rw [← List.map_cons] at hw
  obtain ⟨n, hn, rfl⟩ := List.mem_map.1 hw
  exact word_len n (h n hn))
 rw [List.length_map] at hl
 refine ⟨_, by rw [write_ok _ (by omega), hw], ?_, ?_, by rw [read_word _ h0 hb (by omega)]⟩
 ·show (Lib.join (word x :: xs.map word) [59]).length ≤ 80
  simp only [List.length_cons] at h20
  omega
 ·rw [List.all_eq_true]
  intro b hb2
  have hb2 : b ∈ Lib.join (word x :: xs.map word) [59] := hb2
  unfold Pr.okB
  rcases join_mem 59 _ _ b hb2 with rfl | ⟨w, hw, hbw⟩
  ·rfl
  ·rw [← List.map_cons] at hw
   obtain ⟨n, hn, rfl⟩ := List.mem_map.1 hw
   have := (word_ok n (hb n hn)).2.1 b hbw
   simp only [Bool.or_eq_true, Bool.and_eq_true, decide_eq_true_eq]
   omega
theorem act_ok (code F B K : Int) (args out : List Int) (hc : 64 ≤ code ∧ code ≤ 126) (h0 : args ≠ []) (ha : Sm args) (hl : args.length ≤ 20) (ho : out.length ≤ 10000000) :
  ∃ t, f12 code F B K args out = some (out ++ t, F, B, K, args) ∧ Fed t [⟨4, code, 0, [], args, []⟩] ∧ t.length ≤ 83 := by
 have hp : f40 (GAct.mk 4 code 0 [] args []) = some true := rfl
 obtain ⟨A, e, lA, okA, rA⟩ := args_text args h0 ha hl
 have hA : ∀ b ∈ A, b.toNat < 128 := fun b hb => by
  have := List.all_eq_true.1 okA b hb
  unfold Pr.okB at this
  simp at this; omega
 unfold f12 f26
 rw [hp, bs, Bool.not_true, cf]
 unfold f26_j0
 try dsimp only []
 have hw : (decide ((64 : Int) ≤ code) && decide (code ≤ 126)) = true := by simp [hc]
 rw [bcf (df (show ¬ (4 : Int) = 1 by decide)), bcf (df (show ¬ (4 : Int) = 2 by decide)), bcf (df (show ¬ (4 : Int) = 3 by decide)), bct (dt (show (4 : Int) = 4 from rfl)), e, bs, bct (dt (show (0 : Int) = 0 from rfl)), Pr.inters_ok [] 2 (by simp), bs, bct (by rfl), Pr.within_ok, bs, hw, ct, bct (by rfl)]
 try dsimp only []
 rw [bct (dt (by omega))]
 unfold f26_j1 f26_j2
 try dsimp only []
 rw [bcf (by rfl), cat_ok _ _ (by simp; omega), bs, List.append_nil, runes_asc A (by omega) hA, bs, app_ok 8 _ _ (by simp [bts]; omega), bs, app_ok 8 _ _ (by simp [bts]; omega), bs, bs, app_ok 8 _ _ (by simp [bts]; omega), bs]
 refine ⟨_, rfl, ?_, by simp [bts]; omega⟩
 have := fed_csi A code okA (by omega) hc
 rw [rA] at this
 simpa using this
theorem okP_of {p : GPen} (h : pcB p = true) : Pe.okP p := by
 have h1 := pen_ok p
 have h2 := Pe.f33_eq p
 rw [h1] at h2
 unfold pcI at h2
 rw [if_pos h] at h2
 by_cases q : Pe.okP p
 ·exact q
 ·rw [if_neg q] at h2; cases h2
theorem to_ok (p q : GPen) (hp : pcB p = true) (hq : pcB q = true) (out : List Int) (ho : out.length ≤ 10000000) :
  ∃ o, f13 q p.Flags p.Fore p.Back out = some (o, q.Flags, q.Fore, q.Back) ∧ ((o = out ∧ p = q) ∨ ∃ l t, o = out ++ t ∧ Fed t [⟨4, 109, 0, [], l, []⟩] ∧ t.length ≤ 83 ∧ l ≠ [] ∧ Sm l ∧ l.length ≤ 20 ∧ f132 p l = some (q, 0)) := by
 unfold f13
 obtain ⟨l, h, _, _, h1, h2⟩ := Pe.chg_sgr p q (okP_of hp) (okP_of hq)
 obtain ⟨l', e', h', l1, l2⟩ := change_ok p q
 rw [h] at h'
 cases h'
 have h : f27 (GPen.mk p.Flags p.Fore p.Back) q = some (l, 0) := h
 rw [h, bs]
 try dsimp only []
 by_cases h0 : l = []
 ·subst h0
  rw [bcf (df (by simp))]
  exact ⟨out, rfl, .inl ⟨rfl, h1 rfl⟩⟩
 ·have hlen : (0 : Int) < (l.length : Int) := by have := List.length_pos_iff.2 h0; omega
  obtain ⟨t, ht, f1, tl⟩ := act_ok 109 p.Flags p.Fore p.Back l out (by omega) h0 l2 l1 ho
  rw [bct (dt hlen), ht, bs]
  exact ⟨_, rfl, .inr ⟨l, t, rfl, f1, tl, h0, l2, l1, h2 h0⟩⟩
end Go.Proofs.YtbokpgemkkebnaaGreatDoor.Dr
