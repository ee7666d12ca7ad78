/- ScreenStill: reports, modes, one act. -/
import Derived.Test.YtjoccdgmcdkbkaaGreatDoorSsB
import Derived.Test.YtjoccdgmcdkbkaaGreatDoorSsP
import Derived.Lib.ItoaLen
namespace Go.Proofs.YtjoccdgmcdkbkaaGreatDoor.Pm
open Go.Proofs.YtjoccdgmcdkbkaaGreatDoor.Args
open Go.ChangeShapes Go.WideShapes Go.ChangeAt Go.RowKit
set_option linter.unusedVariables false
set_option linter.unusedSimpArgs false
set_option maxRecDepth 100000
theorem wrange (n : Int) : -9223372036854775808 ≤ IntKind.i64.wrap n ∧ IntKind.i64.wrap n ≤ 9223372036854775807 := by
  have h : IntKind.i64.wrap n = if 9223372036854775808 ≤ n % 18446744073709551616 then n % 18446744073709551616 - 18446744073709551616 else n % 18446744073709551616 := by
    unfold IntKind.wrap; simp [IntKind.bits, IntKind.signed]
  rw [h]; split <;> omega
theorem itoa_ok (n : Int) : libItoaL (IntKind.i64.wrap n) = some (Lib.itoa (IntKind.i64.wrap n)) ∧ (Lib.itoa (IntKind.i64.wrap n)).length ≤ 21 := by
  have h := wrange n
  exact ⟨by unfold libItoaL; rw [if_pos h], Lib.itoa_length_le _ h.1 h.2⟩
theorem report0 (n : Int) (t : Gterminal) (hs : t.sent.length ≤ 900000000) (r : Int) : ∃ t', f123_j0 n t (IntKind.i64.wrap r) = some t' ∧ KT False t t' := by
  unfold f123_j0
  by_cases h5 : n = 5
  · rw [bct (dt h5), cat_ok _ _ (by simp; omega), bs]
    exact ⟨_, rfl, rfl, rfl, rfl, rfl, .inr rfl, .inr rfl, by simp⟩
  rw [bcf (df h5)]
  by_cases h6 : n = 6
  · obtain ⟨e1, l1⟩ := itoa_ok r
    obtain ⟨e2, l2⟩ := itoa_ok (t.Screen.Col + 1)
    rw [bct (dt h6), e1, bs, cat_ok _ _ (by simp; omega), bs, cat_ok _ _ (by simp; omega), bs, e2, bs, cat_ok _ _ (by simp; omega), bs, cat_ok _ _ (by simp; omega), bs, cat_ok _ _ (by simp; omega), bs]
    exact ⟨_, rfl, rfl, rfl, rfl, rfl, .inr rfl, .inr rfl, by simp; omega⟩
  rw [bcf (df h6)]
  exact ⟨_, rfl, KT.rfl' _ _⟩
theorem report_ok (n : Int) (t : Gterminal) (hs : t.sent.length ≤ 900000000) : ∃ t', f123 n t = some t' ∧ KT False t t' := by
  unfold f123
  obtain ⟨b, hb⟩ := is_ok t [] 2
  rw [hb, bs]
  cases b with
  | true => rw [ct]; exact report0 n t hs _
  | false => rw [cf]; exact report0 n t hs _
theorem one3 {o : Option Gterminal} {t1 t2 : Gterminal} {u : Prop} {β : Type} (F : Gterminal → Option β) (h : o = some t2) (k : KT u t1 t2) : (o.bind fun z64 => ((chk (decide (z64.Screen.Past.length = t1.Screen.Past.length))).bind fun _ => ((chk (decide (z64.Screen.Other.Cells.length = t1.Screen.Other.Cells.length))).bind fun _ => ((chk (decide (z64.Screen.Grid.Cells.length = t1.Screen.Grid.Cells.length))).bind fun _ => F z64)))) = F t2 := by
  rw [h, bs, chk3 k]
theorem modes_ok (a : GAct) (n m : Int) (t : Gterminal) (ha : a.Args.length ≤ 1048576) : ∃ t', loopO (f104_l1 a n m t) (t, 0) = some t' ∧ KS False t t' :=
  loopO_ind (fun k x => ∃ i : Nat, x.2 = (i : Int) ∧ i ≤ a.Args.length ∧ k = a.Args.length - i ∧ KS False t x.1) (fun r => KS False t r) (by
    rintro k ⟨p, _⟩ ⟨i, rfl, hi, rfl, hk⟩
    unfold f104_l1
    try dsimp only []
    by_cases hlt : i < a.Args.length
    · left
      rw [bct (dt (by omega))]
      unfold f104_l1_j2 f104_l1_j3
      rw [ct, idx_nat a.Args i 0 hlt, bs, wr1 i (by omega)]
      have fin : ∀ m b, ∃ y q, (f97 m b p).bind (fun z66 => ((chk (decide (z66.Screen.Past.length = p.Screen.Past.length))).bind fun _ => ((chk (decide (z66.Screen.Other.Cells.length = p.Screen.Other.Cells.length))).bind fun _ => ((chk (decide (z66.Screen.Grid.Cells.length = p.Screen.Grid.Cells.length))).bind fun _ => (some (Sum.inl (z66, ((i + 1 : Nat) : Int)) : (Gterminal × Int) ⊕ Gterminal)))))) = some (.inl y) ∧ q < a.Args.length - i ∧ ∃ j : Nat, y.2 = (j : Int) ∧ j ≤ a.Args.length ∧ q = a.Args.length - j ∧ KS False t y.1 := by
        intro m b
        obtain ⟨t', h, k'⟩ := set_ok m b p
        refine ⟨(t', ((i + 1 : Nat) : Int)), a.Args.length - (i + 1), ?_, by omega, i + 1, rfl, by omega, rfl, hk.tr k'⟩
        exact one3 (fun z => some (Sum.inl (z, ((i + 1 : Nat) : Int)))) h k'.kt
      simp only [Bool.cond_decide]
      split
      · split
        · exact fin 1 true
        · exact fin 1 false
      · split
        · split
          · exact fin 128 true
          · exact fin 128 false
        · exact ⟨_, a.Args.length - (i + 1), rfl, by omega, i + 1, rfl, by omega, rfl, hk⟩
    · right
      rw [bcf (df (by omega))]
      unfold f104_l1_j2
      rw [cf]
      exact ⟨_, rfl, hk⟩) (n := a.Args.length) ⟨0, rfl, by omega, by omega, ⟨rfl, rfl, rfl, rfl, .inr rfl, .inr rfl, rfl⟩⟩
theorem sgr_tot (p : GPen) (l : List Int) (hl : l.length ≤ 1048576) : ∃ r, f122 p l = some r := by
  rcases sgr_eq p l (by omega) with h | ⟨_, _, _, _, q, _, h, _⟩
  · exact ⟨_, h.1⟩
  · exact ⟨_, h⟩
theorem region_ok (a : GAct) (n m : Int) (t : Gterminal) (b : Int) : ∃ t', f104_j4 a n m t b = some t' ∧ KT False t t' := by
  unfold f104_j4
  by_cases h : n < b
  · rw [bct (dt h)]
    obtain ⟨t', h1, k1⟩ := move_ok 0 0 (Gterminal.mk ({ t.Screen with Top := (IntKind.i64.wrap (n - 1)), Bottom := b }) t.sent)
    have k : KS False t t' := ⟨k1.g, k1.o, k1.p, k1.ti, k1.pg, k1.sh, k1.se⟩
    exact ⟨t', one3 (fun z => some z) h1 k.kt, k.kt⟩
  · rw [bcf (df h)]; exact ⟨_, rfl, KT.rfl' _ _⟩
theorem other_ok (a : GAct) (n m : Int) (t : Gterminal) (ha : a.Args.length ≤ 1048576) (hs : t.sent.length ≤ 900000000) : ∃ t', f104 a n m t = some t' ∧ KT False t t' := by
  unfold f104
  by_cases h103 : a.Code = 103
  · rw [bct (dt h103)]
    by_cases h0 : m = 0
    · obtain ⟨r, hr⟩ := tset_ok t.Screen.Stops t.Screen.Col
      rw [bct (dt h0), hr, bs]
      exact ⟨_, rfl, rfl, rfl, rfl, rfl, .inr rfl, .inr rfl, by show t.sent.length ≤ _; omega⟩
    rw [bcf (df h0)]
    by_cases h3 : m = 3
    · rw [bct (dt h3)]
      exact ⟨_, rfl, rfl, rfl, rfl, rfl, .inr rfl, .inr rfl, by show t.sent.length ≤ _; omega⟩
    · rw [bcf (df h3)]; exact ⟨_, rfl, KT.rfl' _ _⟩
  rw [bcf (df h103)]
  have mo : ∃ t', f104_j0 a n m t true = some t' ∧ KT False t t' := by
    unfold f104_j0
    obtain ⟨t', h, k⟩ := modes_ok a n m t ha
    rw [ct, h, bs]
    exact ⟨_, rfl, k.kt⟩
  by_cases h104 : a.Code = 104
  · rw [bct (dt h104)]; exact mo
  rw [bcf (df h104)]
  by_cases h108 : a.Code = 108
  · rw [bct (dt h108)]; exact mo
  rw [bcf (df h108)]
  unfold f104_j0
  rw [cf]
  by_cases h109 : a.Code = 109
  · obtain ⟨r, hr⟩ := sgr_tot t.Screen.Pen a.Args ha
    rw [bct (dt h109), hr, bs]
    simp only [Bool.cond_decide]
    split
    · exact ⟨_, rfl, rfl, rfl, rfl, rfl, .inr rfl, .inr rfl, by show t.sent.length ≤ _; omega⟩
    · exact ⟨_, rfl, KT.rfl' _ _⟩
  rw [bcf (df h109)]
  by_cases h114 : a.Code = 114
  · obtain ⟨r, hr⟩ := get_ok a.Args 1 0
    rw [bct (dt h114), hr, bs]
    unfold f104_j5
    simp only [Bool.cond_decide]
    split
    · exact region_ok a n m t _
    split
    · exact region_ok a n m t _
    · exact region_ok a n m t _
  rw [bcf (df h114)]
  by_cases h110 : a.Code = 110
  · obtain ⟨t', h, k⟩ := report_ok m t hs
    rw [bct (dt h110)]
    exact ⟨t', one3 (fun z => some z) h k, k⟩
  rw [bcf (df h110)]
  by_cases h99 : a.Code = 99
  · rw [bct (dt h99)]
    by_cases h0 : m = 0
    · rw [bct (dt h0), cat_ok _ _ (by simp; omega), bs]
      exact ⟨_, rfl, rfl, rfl, rfl, rfl, .inr rfl, .inr rfl, by simp⟩
    · rw [bcf (df h0)]; exact ⟨_, rfl, KT.rfl' _ _⟩
  rw [bcf (df h99)]
  exact ⟨_, rfl, KT.rfl' _ _⟩
def inLL (c : Int) : Prop := inCC c ∨ c = 103 ∨ c = 104 ∨ c = 108 ∨ c = 109 ∨ c = 110 ∨ c = 114
theorem erase_not (c n m : Int) (t : Gterminal) (h : c = 103 ∨ c = 104 ∨ c = 108 ∨ c = 109 ∨ c = 110 ∨ c = 114) : f103 c n m t = some (t, false) := by
  unfold f103 f103_j0 f103_j3 f103_j5
  rw [bcf (df (by omega)), bcf (df (by omega)), cf, bcf (df (by omega)), bcf (df (by omega)), bcf (df (by omega)), bcf (df (by omega)), bcf (df (by omega)), cf, bcf (df (by omega)), bcf (df (by omega)), cf]
structure OkA (a : GAct) : Prop where
  k : a.Kind = 4
  m : a.Mark = 0
  i : a.Inter = []
  c : inLL a.Code
  l : a.Args.length ≤ 1048576
theorem act_ok (a : GAct) (h : OkA a) (t : Gterminal) (hs : t.sent.length ≤ 900000000) : ∃ t', f38 a t = some t' ∧ KT (a.Code = 117) t t' := by
  have seq : ∃ t', f68 a t = some t' ∧ KT (a.Code = 117) t t' := by
    unfold f68
    obtain ⟨n, hn⟩ := pos_ok a.Args 0
    obtain ⟨m, hm⟩ := get_ok a.Args 0 0
    rw [hn, bs, hm, bs, bct (dt h.m)]
    rcases cursor_ok a n t with ⟨_, t', e, k⟩ | ⟨hc, e⟩
    · rw [e, bs]
      try dsimp only []
      rw [chk3 k.kt]
      exact ⟨t', rfl, k.kt⟩
    · rw [e, bs]
      try dsimp only []
      rw [chk3 (KT.rfl' (a.Code = 117) t), Bool.not_false, ct, erase_not a.Code n m t (h.c.resolve_left hc), bs]
      try dsimp only []
      rw [Bool.not_false, ct]
      obtain ⟨t', e', k⟩ := other_ok a n m t h.l hs
      rw [e', bs]
      exact ⟨t', rfl, k.w False.elim⟩
  unfold f38 f38_j0
  have := h.k
  rw [bcf (df (by omega)), bcf (df (by omega)), bcf (df (by omega)), bcf (df (by omega)), bcf (df (by omega)), bct (dt h.k), bct (dt h.i)]
  obtain ⟨t', e, k⟩ := seq
  rw [e, bs]
  exact ⟨t', rfl, k⟩
end Go.Proofs.YtjoccdgmcdkbkaaGreatDoor.Pm
