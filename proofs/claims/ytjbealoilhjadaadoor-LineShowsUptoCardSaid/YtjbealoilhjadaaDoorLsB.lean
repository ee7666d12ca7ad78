/- LineShows: ECHO, played on paper that is rubbed out, leaves the line. -/
import Derived.Test.YtjbealoilhjadaaDoorLsA
namespace Go.Proofs.YtjbealoilhjadaaDoor.Pm
open Go.Proofs.YtjbealoilhjadaaDoor.Args
open Go.ChangeShapes Go.WideShapes Go.ChangeAt Go.RowKit
set_option linter.unusedVariables false
set_option linter.unusedSimpArgs false
set_option maxRecDepth 100000
/-- No byte 13, 10, 8. -/
def cl (c : UInt8) : Prop := c ≠ 13 ∧ c ≠ 10 ∧ c ≠ 8
theorem any_cl {s : Str} (h : Lib.containsAny s [13, 10, 8] = false) : ∀ c ∈ s, cl c := by
  have h0 : ¬ (0 ≤ Lib.indexAny s [13, 10, 8]) := by unfold Lib.containsAny at h; exact of_decide_eq_false h
  have key : ∀ k, k ≤ s.length → Lib.NoAny s [13, 10, 8] k := by
    intro k
    induction k with
    | zero => intro _; exact Lib.NoAny.zero _ _
    | succ k ih =>
      intro hk
      have hx : s[k]? = some (s[k]'(by omega)) := List.getElem?_eq_getElem _
      have hn := ih (by omega)
      cases hc : ([13, 10, 8] : Str).contains (s[k]'(by omega)) with
      | false => exact hn.succ hx hc
      | true => exact absurd (by rw [Lib.indexAny_hit hn hx hc]; omega) h0
  intro c hc
  obtain ⟨i, hi⟩ := List.mem_iff_getElem?.1 hc
  have hlt : i < s.length := by
    rcases Nat.lt_or_ge i s.length with h' | h'
    · exact h'
    · rw [List.getElem?_eq_none h'] at hi; cases hi
  have := key s.length (Nat.le_refl _) i c hlt hi
  refine ⟨?_, ?_, ?_⟩ <;> intro e <;> subst e <;> simp at this
theorem sub_tail (p t : Str) (n : Nat) (h : p.length = n) : sub? (p ++ t) (n : Int) ((p ++ t).length : Int) = some t := by
  unfold sub?
  rw [if_pos (by simp only [List.length_append]; omega), Int.toNat_natCast, Int.toNat_natCast, List.take_length, List.drop_left' h]
theorem app1 (row : Str) (c : UInt8) (h : row.length ≤ 1000000) : app? 1 row [c] = some (row ++ [c]) := app_ok 1 row [c] (by simp; omega)
section
variable (k : GKeys) (a : Str) (E : GEditor)
/-- What the replay of s' on row' comes to, the replay of s on row comes to. -/
def Rp (s row s' row' : Str) : Prop := ∀ r, loopO (f3_l1 k a) (E, s', row') = some r → loopO (f3_l1 k a) (E, s, row) = some r
theorem st1 (c : UInt8) (t row : Str) (h : c ≠ 13) (h8 : c ≠ 8) (hr : row.length ≤ 1000000) : Rp k a E (c :: t) row t (row ++ [c]) := by
  intro r hx
  refine loopO_next ?_ hx
  unfold f3_l1 f3_l1_j2
  have e1 : libHasPrefix (c :: t) [13, 10] = some false := by
    unfold libHasPrefix Lib.hasPrefix
    simp [List.isPrefixOf]
    intro e; exact absurd e.symm h
  have e2 : libHasPrefix (c :: t) [8, 32, 8] = some false := by
    unfold libHasPrefix Lib.hasPrefix
    simp [List.isPrefixOf]
    intro e; exact absurd e.symm h8
  have e3 : idx (c :: t) 0 = some c := idx_mid [] c t
  have e4 : sub? (c :: t) 1 ((c :: t).length : Int) = some t := sub_tail [c] t 1 rfl
  simp only [reduceCtorEq, decide_false, Bool.not_false, cond_true]
  rw [e1, bs, cf, e2, bs, cf, e3, bs, app1 row c hr, bs, e4, bs]
theorem st2 (x : UInt8) (t row : Str) (hr : row.length ≤ 1000000) : Rp k a E (8 :: 32 :: 8 :: t) (row ++ [x]) t row := by
  intro r hx
  refine loopO_next ?_ hx
  unfold f3_l1 f3_l1_j2 f3_l1_j3
  have e1 : libHasPrefix (8 :: 32 :: 8 :: t) [13, 10] = some false := by
    unfold libHasPrefix Lib.hasPrefix
    simp [List.isPrefixOf]
  have e2 : libHasPrefix (8 :: 32 :: 8 :: t) [8, 32, 8] = some true := by
    unfold libHasPrefix Lib.hasPrefix
    simp [List.isPrefixOf]
  have e3 : sub? (row ++ [x]) 0 (IntKind.i64.wrap (((row ++ [x]).length : Int) - 1)) = some row := by
    rw [i64w _ (by simp; omega)]
    unfold sub?
    rw [if_pos (by simp; omega)]
    simp
  have e4 : sub? (8 :: 32 :: 8 :: t) 3 ((8 :: 32 :: 8 :: t).length : Int) = some t := sub_tail [8, 32, 8] t 3 rfl
  simp only [reduceCtorEq, decide_false, Bool.not_false, cond_true]
  rw [e1, bs, cf, e2, bs, ct, decide_eq_false (by simp; omega), cf, e3, bs, e4, bs]
theorem st3 (t row : Str) : Rp k a E (13 :: 10 :: t) row t [] := by
  intro r hx
  refine loopO_next ?_ hx
  unfold f3_l1 f3_l1_j2
  have e1 : libHasPrefix (13 :: 10 :: t) [13, 10] = some true := by
    unfold libHasPrefix Lib.hasPrefix
    simp [List.isPrefixOf]
  have e4 : sub? (13 :: 10 :: t) 2 ((13 :: 10 :: t).length : Int) = some t := sub_tail [13, 10] t 2 rfl
  simp only [reduceCtorEq, decide_false, Bool.not_false, cond_true]
  rw [e1, bs, ct, e4, bs]
theorem rp_trans {s1 r1 s2 r2 s3 r3 : Str} (h : Rp k a E s1 r1 s2 r2) (g : Rp k a E s2 r2 s3 r3) : Rp k a E s1 r1 s3 r3 := fun r hx => h r (g r hx)
theorem rp_plain : ∀ (x t row : Str), (∀ c ∈ x, cl c) → row.length + x.length ≤ 1000000 → Rp k a E (x ++ t) row t (row ++ x)
  | [], t, row, _, _ => by rw [List.append_nil]; exact fun r h => h
  | c :: x, t, row, hc, hl => by
    simp only [List.length_cons] at hl
    have h := hc c (by simp)
    have h2 := rp_plain x t (row ++ [c]) (fun d hd => hc d (by simp [hd])) (by simp; omega)
    rw [List.append_assoc] at h2
    exact rp_trans k a E (st1 k a E c (x ++ t) row h.1 h.2.2 (by omega)) h2
theorem rp_era : ∀ (n : Nat) (t row : Str), n ≤ row.length → row.length ≤ 1000000 → Rp k a E (Lib.repeatL [8, 32, 8] n ++ t) row t (row.take (row.length - n))
  | 0, t, row, _, _ => by
    rw [Nat.sub_zero, List.take_length]
    exact fun r h => h
  | n + 1, t, row, hn, hl => by
    obtain ⟨y, x, rfl⟩ : ∃ y x, row = y ++ [x] := by
      rcases List.eq_nil_or_concat row with h | ⟨y, x, h⟩
      · subst h; simp at hn
      · exact ⟨y, x, by simpa using h⟩
    simp at hn hl
    have h2 := rp_era n t y (by omega) (by omega)
    have e : (y ++ [x]).take ((y ++ [x]).length - (n + 1)) = y.take (y.length - n) := by
      rw [List.length_append, List.length_singleton, show y.length + 1 - (n + 1) = y.length - n by omega, List.take_append_of_le_length (by omega)]
    rw [e]
    have e3 : Lib.repeatL [8, 32, 8] (n + 1) ++ t = 8 :: 32 :: 8 :: (Lib.repeatL [8, 32, 8] n ++ t) := by
      simp [Lib.repeatL, List.replicate_succ]
    rw [e3]
    exact rp_trans k a E (st2 k a E x _ y (by omega)) h2
theorem ins_cl {c : UInt8} {b : Str} (h : (ins c b).2.1 = []) : (ins c b).1 = b ++ [c] ∧ (ins c b).2.2 = false := by
  unfold ins at h ⊢
  split
  · exact ⟨rfl, rfl⟩
  · rename_i h'; rw [if_neg h'] at h; cases h
/-- One byte taken. -/
theorem rp_tk (M : Nat → Int) (c : UInt8) (b : Str) (q : Bool) (t : Str) (hc : cl c) (hb : ∀ d ∈ b, cl d) (hl : b.length ≤ 1023) (hn : (tk k M c b q).l = []) : Rp k a E ((tk k M c b q).e ++ t) b t (tk k M c b q).b ∧ (∀ d ∈ (tk k M c b q).b, cl d) := by
  have hput : ∀ q, (put c b q).l = [] → Rp k a E ((put c b q).e ++ t) b t (put c b q).b ∧ ∀ d ∈ (put c b q).b, cl d := by
    intro q h
    have h1 := (ins_cl (c := c) (b := b) h).1
    show Rp k a E ([c] ++ t) b t (ins c b).1 ∧ ∀ d ∈ (ins c b).1, cl d
    rw [h1]
    refine ⟨st1 k a E c t b hc.1 hc.2.2 (by omega), ?_⟩
    intro d hd
    rcases List.mem_append.1 hd with h | h
    · exact hb d h
    · rw [List.mem_singleton.1 h]; exact hc
  have hera : ∀ n q, n ≤ b.length → Rp k a E ((era n b q).e ++ t) b t (era n b q).b ∧ ∀ d ∈ (era n b q).b, cl d := by
    intro n q h
    exact ⟨rp_era k a E n t b h (by omega), fun d hd => hb d (List.mem_of_mem_take hd)⟩
  unfold tk at hn ⊢
  split
  · rename_i h; rw [if_pos h] at hn; exact hput false hn
  rename_i h1; rw [if_neg h1] at hn
  split
  · exact ⟨fun r h => h, hb⟩
  rename_i h2; rw [if_neg h2] at hn
  split
  · exact hera _ _ (by omega)
  rename_i h3; rw [if_neg h3] at hn
  split
  · exact hera _ _ (word_le b).1
  rename_i h4; rw [if_neg h4] at hn
  split
  · exact hera _ _ (Nat.le_refl _)
  rename_i h5; rw [if_neg h5] at hn
  split
  · refine ⟨?_, hb⟩
    have h2 := rp_plain k a E b t [] hb (by simp; omega)
    rw [List.nil_append] at h2
    exact rp_trans k a E (st3 k a E (b ++ t) b) h2
  rename_i h6; rw [if_neg h6] at hn
  split
  · rename_i h; rw [if_pos h] at hn
    exfalso
    unfold putN at hn
    split at hn
    · rename_i h'
      have := (ins_cl (c := c) (b := b) hn).2
      rw [this] at h'; cases h'
    · have : ((ins c b).2.1 ++ [(ins c b).1] : List Str) = [] := hn
      simp at this
  · rename_i h; rw [if_neg h] at hn; exact hput q hn
theorem rp_tks (M : Nat → Int) : ∀ (x b : Str) (q : Bool) (t : Str), (∀ c ∈ x, cl c) → (∀ d ∈ b, cl d) → b.length ≤ 1023 → (tks k M x b q).l = [] → Rp k a E ((tks k M x b q).e ++ t) b t (tks k M x b q).b
  | [], b, q, t, _, _, _, _ => fun r h => h
  | c :: x, b, q, t, hx, hb, hl, hn => by
    simp only [tks] at hn ⊢
    obtain ⟨n1, n2⟩ := List.append_eq_nil_iff.1 hn
    rw [List.append_assoc]
    obtain ⟨g1, g2⟩ := rp_tk k a E M c b q ((tks k M x (tk k M c b q).b (tk k M c b q).q).e ++ t) (hx c (by simp)) hb hl n1
    exact rp_trans k a E g1 (rp_tks M x _ _ t (fun d hd => hx d (by simp [hd])) g2 (tk_len k M c b q hl).1 n2)
end
theorem lineShows (k : GKeys) (a : Str) (ha : a.length ≤ 2000000) : f3 k a = some true := by
  unfold f3
  by_cases hk : f9 k = some 0 ∧ ([] : Str).length ≤ 1023 ∧ a.length ≤ 4096
  · obtain ⟨h1, h2, h3⟩ := hk
    rw [type_ok ⟨[], false⟩ k (fun _ => 0) a h1 h2 h3, bs, lives, bs, Bool.not_true, cf]
    unfold typA
    simp only [decide_true, Bool.not_true, cond_false, Option.bind_some]
    by_cases hl : (tks k (fun _ => 0) a [] false).l = []
    · rw [hl, decide_eq_false (by simp), cf]
      have hA : libLineAny a [13, 10, 8] = some (Lib.containsAny a [13, 10, 8]) := by
        unfold libLineAny
        rw [if_pos ⟨by omega, rfl⟩]
      rw [hA, bs]
      cases hc : Lib.containsAny a [13, 10, 8] with
      | true => rw [ct]
      | false =>
        rw [cf]
        unfold f3_j0
        have h := rp_tks k a ⟨(tks k (fun _ => 0) a [] false).b, (tks k (fun _ => 0) a [] false).q⟩ (fun _ => 0) a [] false [] (any_cl hc) (by simp) (by simp) hl
        rw [List.append_nil] at h
        rw [h (.inl (⟨(tks k (fun _ => 0) a [] false).b, (tks k (fun _ => 0) a [] false).q⟩, (tks k (fun _ => 0) a [] false).b)) (loopO_done (by
          unfold f3_l1
          simp only [decide_true, Bool.not_true, cond_false])), bs, Sum.elim_inl]
        simp only [decide_true, cond_true]
    · rw [decide_eq_true (by have := List.length_pos_iff.2 hl; omega), ct]
  · obtain ⟨z, h0, hz⟩ := type_no ⟨[], false⟩ k (fun _ => 0) a hk
    rw [hz, bs, lives, bs, Bool.not_true, cf]
    simp only
    rw [decide_eq_false h0, Bool.not_false, ct, bs]
theorem fitS {s : Str} (h : s.length ≤ maxLen ∧ FitN (some 1048576) s.length 1) : s.length ≤ 2000000 := by
  have := h.2
  unfold FitN at this
  omega
theorem LineShows_walk (v0 v1 : Value) (w : World) (h0 : Arg (some 1048576) Go.Proofs.Tryd.prog w 24 v0) (h1 : Arg (some 1048576) Go.Proofs.Tryd.prog w 9 v1) : Calls Go.Proofs.Tryd.prog 3 #[v0, v1] w fun e w' => e = .returned (.bool true) ∧ Below w.heap.size w w' :=
  LineShows_calls (some 1048576) (fun k a _ ha => lineShows k a (fitS ha)) v0 v1 w h0 h1
end Go.Proofs.YtjbealoilhjadaaDoor.Pm
