/- ParseBack: Write, and the law. -/
import Derived.Test.YthapehjibbjkjaaDoorPbF
import Derived.Lib.ValidLaws
import Derived.Test.YthapehjibbjkjaaDoorRows
import Derived.Lib.LaidTab
import Derived.Lib.LaidU8T
import Derived.MakeChecks
import Derived.LaidSub
namespace Go.Proofs.YthapehjibbjkjaaDoor.Pm
open Go.Proofs.YthapehjibbjkjaaDoor.Args
open Go.ChangeShapes Go.WideShapes Go.ChangeAt Go.RowKit
set_option linter.unusedVariables false
set_option linter.unusedSimpArgs false
set_option maxRecDepth 100000
theorem dec_drop (l : List UInt8) (i : Nat) : Utf8.decode ⟨l.toArray⟩ i = Lib.decodeL (l.drop i) := (Lib.decodeL_drop ⟨l.toArray⟩ i).symm
theorem rune_w (n : Nat) (h : n ≤ 1114111) : IntKind.i64.wrap (n : Int) = n := i64w _ (by omega)
/-- The runes of a text. -/
theorem runes_ok (l : List UInt8) (hl : l.length ≤ 1000000) : f13 l = some (rns l) := by
  unfold f13
  obtain ⟨r, hr, hp⟩ := loopO_ind (body := f13_l0 l) (fun k x => ∃ i : Nat, x.2 = (i : Int) ∧ i ≤ l.length ∧ k = l.length - i ∧ x.1 ++ rns (l.drop i) = rns l) (fun r => r = rns l) (by
    rintro k ⟨o, _⟩ ⟨i, rfl, hi, rfl, ho⟩
    have hlen := rns_len l.length l (Nat.le_refl _)
    unfold f13_l0
    try dsimp only [] at ho ⊢
    rw [chk_ok (decide_eq_true (by omega)), bs]
    by_cases hlt : i < l.length
    · left
      have hne : l.drop i ≠ [] := by intro q; have := congrArg List.length q; simp at this; omega
      have hp := dec_pos _ hne
      have hd := dec_rune (l.drop i)
      rw [decide_eq_true (by omega), ct]
      unfold f13_l0_j1
      rw [Int.toNat_natCast, dec_drop]
      rw [rns_cons _ hne] at ho
      rw [List.length_drop] at hp
      generalize Lib.decodeL (l.drop i) = d at hp hd ho ⊢
      have ho2 := congrArg List.length ho
      simp only [List.length_append, List.length_cons] at ho2
      rw [rune_w d.1 (by omega), app_ok 8 _ _ (by simp; omega), bs]
      refine ⟨_, l.length - (i + d.2), rfl, by omega, i + d.2, rfl, by omega, rfl, ?_⟩
      try dsimp only []
      rw [← List.drop_drop, ← ho]
      simp
    · right
      have : i = l.length := by omega
      subst this
      rw [decide_eq_false (by omega), cf]
      refine ⟨_, rfl, ?_⟩
      rw [List.drop_length, rns_nil, List.append_nil] at ho
      exact ho) (n := l.length) (x := ([], 0)) ⟨0, rfl, by omega, by omega, by simp⟩
  rw [hr, bs, hp]
theorem title_loop (l : List UInt8) (hl : l.length ≤ 1000000) : ∃ r, loopO (f15_l1 l) 0 = some r ∧ ((r = .inl () ∧ (rns l).all okR = true) ∨ (r = .inr false)) := by
  obtain ⟨r, hr, hp⟩ := loopO_ind (body := f15_l1 l) (fun k x => ∃ i : Nat, x = (i : Int) ∧ i ≤ l.length ∧ k = l.length - i ∧ ((rns (l.drop i)).all okR = true → (rns l).all okR = true)) (fun r => (r = .inl () ∧ (rns l).all okR = true) ∨ r = .inr false) (by
    rintro k _ ⟨i, rfl, hi, rfl, ho⟩
    unfold f15_l1
    rw [chk_ok (decide_eq_true (by omega)), bs]
    by_cases hlt : i < l.length
    · have hne : l.drop i ≠ [] := by intro q; have := congrArg List.length q; simp at this; omega
      have hp := dec_pos _ hne
      have hd := dec_rune (l.drop i)
      rw [decide_eq_true (by omega), ct]
      unfold f15_l1_j2
      rw [Int.toNat_natCast, dec_drop]
      rw [rns_cons _ hne] at ho
      rw [List.length_drop] at hp
      generalize Lib.decodeL (l.drop i) = d at hp hd ho ⊢
      rw [rune_w d.1 (by omega), within_ok, bs]
      by_cases h1 : (d.1 : Int) < 32
      · right
        rw [decide_eq_true h1, ct]
        exact ⟨_, rfl, .inr rfl⟩
      rw [decide_eq_false h1, cf]
      cases hw : (decide ((127 : Int) ≤ (d.1 : Int)) && decide ((d.1 : Int) ≤ 159)) with
      | true => right; rw [ct]; exact ⟨_, rfl, .inr rfl⟩
      | false =>
        left
        rw [cf]
        refine ⟨_, l.length - (i + d.2), rfl, by omega, i + d.2, rfl, by omega, rfl, fun q => ho ?_⟩
        rw [List.all_cons, Bool.and_eq_true]
        refine ⟨?_, by rw [List.drop_drop]; exact q⟩
        unfold okR
        rw [hw, decide_eq_false h1]; rfl
    · right
      have : i = l.length := by omega
      subst this
      rw [decide_eq_false (by omega), cf]
      refine ⟨_, rfl, .inl ⟨rfl, ho ?_⟩⟩
      rw [List.drop_length, rns_nil]; rfl) (n := l.length) (x := 0) ⟨0, rfl, by omega, by omega, fun q => q⟩
  exact ⟨r, hr, hp⟩
theorem title_ok (l : List UInt8) (hl : l.length ≤ 100000000) : ∃ b, f15 l = some b ∧ (b = true → l.length ≤ 256 ∧ Lib.validD l = true ∧ (rns l).all okR = true) := by
  unfold f15
  by_cases h : 256 < l.length
  · rw [decide_eq_true (by omega), ct]
    exact ⟨_, rfl, fun q => by cases q⟩
  rw [decide_eq_false (by omega), cf]
  unfold libValid
  rw [if_pos (by omega), bs]
  cases hv : Lib.validD l with
  | false => rw [Bool.not_false, ct]; exact ⟨_, rfl, fun q => by cases q⟩
  | true =>
    rw [Bool.not_true, cf]
    unfold f15_j0
    obtain ⟨r, hr, hp⟩ := title_loop l (by omega)
    rw [hr, bs]
    rcases hp with ⟨rfl, hp⟩ | rfl
    · rw [Sum.elim_inl]
      exact ⟨_, rfl, fun _ => ⟨by omega, rfl, hp⟩⟩
    · rw [Sum.elim_inr]
      exact ⟨_, rfl, fun q => by cases q⟩
structure PlA (a : GAct) : Prop where
  m : a.Kind ≠ 4 → a.Mark = 0 ∧ a.Args = []
  i : a.Kind ≠ 4 → a.Kind ≠ 3 → a.Inter = []
  t : a.Kind ≠ 5 → a.Text = []
  c : a.Kind = 5 → a.Code = 0
theorem plain_ok (a : GAct) (ha : a.Args.length ≤ 100000000) : ∃ b, f8 a = some b ∧ (b = true → PlA a) := by
  have l0 : decide ((a.Args.length : Int) = 0) = decide (a.Args = []) := by
    by_cases q : a.Args = []
    · rw [decide_eq_true q, q]; rfl
    · have := List.length_pos_iff.2 q
      rw [decide_eq_false q, decide_eq_false (by omega)]
  unfold f8 f8_j0
  rw [l0]
  cases k4 : decide (a.Kind = 4) <;> cases k3 : decide (a.Kind = 3) <;> cases k5 : decide (a.Kind = 5) <;> cases cm : decide (a.Mark = 0) <;> cases cA : decide (a.Args = []) <;> cases ci : decide (a.Inter = ([] : List UInt8)) <;> cases cT : decide (a.Text = ([] : List UInt8)) <;> cases cC : decide (a.Code = 0) <;> simp only [Bool.not_true, Bool.not_false, cf, ct] <;>
  first
    | exact ⟨false, rfl, fun q => by cases q⟩
    | exact ⟨true, rfl, fun _ => ⟨fun q => ⟨by first | exact of_decide_eq_true cm | exact absurd (of_decide_eq_true k4) q, by first | exact of_decide_eq_true cA | exact absurd (of_decide_eq_true k4) q⟩, fun q1 q2 => by first | exact of_decide_eq_true ci | exact absurd (of_decide_eq_true k4) q1 | exact absurd (of_decide_eq_true k3) q2, fun q => by first | exact of_decide_eq_true cT | exact absurd (of_decide_eq_true k5) q, fun q => by first | exact of_decide_eq_true cC | exact absurd q (of_decide_eq_false k5)⟩⟩
/-- What is written is read back. -/
def Wr (a : GAct) (o : Option (List Int × Int)) : Prop := o = some ([], 1) ∨ ∃ t, o = some (t, 0) ∧ t.length ≤ 260 ∧ feedP (nilP 0) t = (nilP 0, [a])
theorem in_lt (I : Str) (h : I.all inB = true) : ∀ b ∈ I, b.toNat < 128 := fun b hb => by
  have := List.all_eq_true.1 h b hb
  unfold inB at this; simp at this; omega
theorem bts_len (l : List UInt8) : (bts l).length = l.length := by simp [bts]
theorem wr_esc (a : GAct) (hp : PlA a) (h3 : a.Kind = 3) (hI : a.Inter.all inB = true) (lI : a.Inter.length ≤ 2) (hc : 48 ≤ a.Code ∧ a.Code ≤ 126) (h : a.Inter = [] → ¬ 0 ≤ Lib.indexByte [91, 93, 80, 88, 94, 95] (u8 a.Code)) : Wr a (f4_j1 a) := by
  unfold f4_j1
  rw [runes_ok _ (by omega), bs, rns_asc _ (in_lt _ hI), app_ok 8 _ _ (by simp [bts_len]; omega), bs, app_ok 8 _ _ (by simp [bts_len]; omega), bs]
  refine .inr ⟨_, rfl, by simp [bts_len]; omega, ?_⟩
  have e := back_esc a.Code a.Inter hI lI hc h
  have ea : (⟨3, a.Code, 0, a.Inter, [], []⟩ : GAct) = a := by
    have m := hp.m (by omega)
    have t := hp.t (by omega)
    cases a; simp_all
  rw [ea] at e
  exact e
theorem wr_csi (a : GAct) (hp : PlA a) (h4 : a.Kind = 4) (hI : a.Inter.all inB = true) (lI : a.Inter.length ≤ 2) (hc : 64 ≤ a.Code ∧ a.Code ≤ 126) (hm : a.Mark = 0 ∨ (60 ≤ a.Mark ∧ a.Mark ≤ 63)) (A : Str) (hA : A.all okB = true) (lA : A.length ≤ 100) (hr : (readA A).1 = a.Args) : Wr a (f4_j2 a A) := by
  have t := hp.t (by omega)
  have asc : ∀ b ∈ A ++ a.Inter, b.toNat < 128 := fun b hb => by
    rcases List.mem_append.1 hb with q | q
    · have := List.all_eq_true.1 hA b q
      unfold okB at this; simp at this; omega
    · exact in_lt _ hI b q
  have tail : ∀ p : List Int, p.length ≤ 3 → f4_j3 a A p = some (p ++ bts (A ++ a.Inter) ++ [a.Code], 0) := fun p hp3 => by
    unfold f4_j3
    rw [cat_ok _ _ (by omega), bs, runes_ok _ (by simp; omega), bs, rns_asc _ asc, app_ok 8 _ _ (by simp [bts_len]; omega), bs, app_ok 8 _ _ (by simp [bts_len]; omega), bs]
  unfold f4_j2
  rcases hm with hm | hm
  · rw [decide_eq_true hm, Bool.not_true, cf, tail _ (by simp)]
    refine .inr ⟨_, rfl, by simp [bts_len]; omega, ?_⟩
    have e := back_csi0 A a.Inter a.Code hA lA hI lI hc
    rw [hr] at e
    have ea : (⟨4, a.Code, 0, a.Inter, a.Args, []⟩ : GAct) = a := by cases a; simp_all
    rw [ea] at e
    exact e
  · rw [decide_eq_false (by omega), Bool.not_false, ct, app_ok 8 _ _ (by simp), bs, tail _ (by simp)]
    refine .inr ⟨_, rfl, by simp [bts_len]; omega, ?_⟩
    have e := back_csim A a.Inter a.Mark a.Code hm hA lA hI lI hc
    rw [hr] at e
    have ea : (⟨4, a.Code, a.Mark, a.Inter, a.Args, []⟩ : GAct) = a := by cases a; simp_all
    rw [ea] at e
    exact e
theorem write_back (a : GAct) (ha : a.Args.length ≤ 10000000) (hi : a.Inter.length ≤ 10000000) (ht : a.Text.length ≤ 10000000) : Wr a (f4 a) := by
  unfold f4
  obtain ⟨b, hb, hp⟩ := plain_ok a (by omega)
  rw [hb, bs]
  cases b with
  | false => rw [Bool.not_false, ct]; exact .inl rfl
  | true =>
  have hp := hp rfl
  rw [Bool.not_true, cf]
  have wi : ∀ x lo hi : Int, f10 x lo hi = some (decide (lo ≤ x ∧ x ≤ hi)) := fun x lo hi => by rw [within_ok, ← Bool.decide_and]
  unfold f4_j0
  by_cases h1 : a.Kind = 1
  · rw [decide_eq_true h1, ct]
    by_cases c32 : 32 ≤ a.Code
    case neg => rw [decide_eq_false c32, cf]; exact .inl rfl
    rw [decide_eq_true c32, ct]
    unfold f9
    rw [wi, bs]
    by_cases cr : 0 ≤ a.Code ∧ a.Code ≤ 1114111
    case neg => rw [decide_eq_false cr, cf, bs, cf]; exact .inl rfl
    rw [decide_eq_true cr, ct, wi, bs, bs]
    by_cases cs : 55296 ≤ a.Code ∧ a.Code ≤ 57343
    · rw [decide_eq_true cs, Bool.not_true, cf]; exact .inl rfl
    rw [decide_eq_false cs, Bool.not_false, ct, wi, bs]
    by_cases cw : 127 ≤ a.Code ∧ a.Code ≤ 159
    · rw [decide_eq_true cw, Bool.not_true, cf]; exact .inl rfl
    rw [decide_eq_false cw, Bool.not_false, ct]
    refine .inr ⟨_, rfl, by simp, ?_⟩
    have e := back_print a.Code ⟨c32, cr.2⟩ cw
    have ea : (⟨1, a.Code, 0, [], [], []⟩ : GAct) = a := by
      have m := hp.m (by omega)
      have t := hp.t (by omega)
      have i := hp.i (by omega) (by omega)
      cases a; simp_all
    rw [ea] at e
    exact e
  rw [decide_eq_false h1, cf]
  by_cases h2 : a.Kind = 2
  · rw [decide_eq_true h2, ct, wi, bs]
    by_cases cr : 0 ≤ a.Code ∧ a.Code ≤ 31
    case neg => rw [decide_eq_false cr, cf]; exact .inl rfl
    rw [decide_eq_true cr, ct]
    by_cases c1 : a.Code = 24
    · rw [decide_eq_true c1, Bool.not_true, cf]; exact .inl rfl
    rw [decide_eq_false c1, Bool.not_false, ct]
    by_cases c2 : a.Code = 26
    · rw [decide_eq_true c2, Bool.not_true, cf]; exact .inl rfl
    rw [decide_eq_false c2, Bool.not_false, ct]
    by_cases c3 : a.Code = 27
    · rw [decide_eq_true c3, Bool.not_true, cf]; exact .inl rfl
    rw [decide_eq_false c3, Bool.not_false, ct]
    refine .inr ⟨_, rfl, by simp, ?_⟩
    have e := back_ctrl a.Code cr c1 c2 c3
    have ea : (⟨2, a.Code, 0, [], [], []⟩ : GAct) = a := by
      have m := hp.m (by omega)
      have t := hp.t (by omega)
      have i := hp.i (by omega) (by omega)
      cases a; simp_all
    rw [ea] at e
    exact e
  rw [decide_eq_false h2, cf]
  by_cases h3 : a.Kind = 3
  · rw [decide_eq_true h3, ct, inters_ok _ _ (by omega), bs]
    cases ci : (a.Inter.all inB && decide ((a.Inter.length : Int) ≤ 2)) with
    | false => rw [cf]; exact .inl rfl
    | true =>
    rw [Bool.and_eq_true] at ci
    have lI : a.Inter.length ≤ 2 := by have := of_decide_eq_true ci.2; omega
    rw [ct, wi, bs]
    by_cases cc : 48 ≤ a.Code ∧ a.Code ≤ 126
    case neg => rw [decide_eq_false cc, cf]; exact .inl rfl
    rw [decide_eq_true cc, ct]
    by_cases ce : a.Inter = []
    · rw [decide_eq_true ce, Bool.not_true, cf]
      unfold libIndexByte
      rw [bs]
      by_cases cx : Lib.indexByte [91, 93, 80, 88, 94, 95] (u8 a.Code) < 0
      · rw [decide_eq_true cx, ct]
        exact wr_esc a hp h3 ci.1 lI cc (fun _ => by omega)
      · rw [decide_eq_false cx, cf]; exact .inl rfl
    · rw [decide_eq_false ce, Bool.not_false, ct]
      exact wr_esc a hp h3 ci.1 lI cc (fun q => absurd q ce)
  rw [decide_eq_false h3, cf]
  by_cases h4 : a.Kind = 4
  · rw [decide_eq_true h4, ct, write_ok _ ha, bs]
    have core : (a.Mark = 0 ∨ (60 ≤ a.Mark ∧ a.Mark ≤ 63)) → Wr a ((f11 a.Inter 2).bind fun z51 => (bif z51 then ((f10 a.Code 64 126).bind fun z52 => (bif z52 then (bif (decide ((writeA a.Args).2 = 0)) then (bif (decide (((writeA a.Args).1.length : Int) ≤ 100)) then (f4_j2 a (writeA a.Args).1) else (some ([], 1))) else (some ([], 1))) else (some ([], 1)))) else (some ([], 1)))) := fun hm => by
      rw [inters_ok _ _ (by omega), bs]
      cases ci : (a.Inter.all inB && decide ((a.Inter.length : Int) ≤ 2)) with
      | false => rw [cf]; exact .inl rfl
      | true =>
      rw [Bool.and_eq_true] at ci
      have lI : a.Inter.length ≤ 2 := by have := of_decide_eq_true ci.2; omega
      rw [ct, wi, bs]
      by_cases cc : 64 ≤ a.Code ∧ a.Code ≤ 126
      case neg => rw [decide_eq_false cc, cf]; exact .inl rfl
      rw [decide_eq_true cc, ct]
      by_cases we : (writeA a.Args).2 = 0
      case neg => rw [decide_eq_false we, cf]; exact .inl rfl
      rw [decide_eq_true we, ct]
      by_cases wl : ((writeA a.Args).1.length : Int) ≤ 100
      case neg => rw [decide_eq_false wl, cf]; exact .inl rfl
      rw [decide_eq_true wl, ct]
      have hw : a.Args ≠ [] ∧ (∀ n ∈ a.Args, badN n = false) ∧ a.Args.length ≤ 32 ∧ (writeA a.Args).1 = Lib.join (a.Args.map word) [59] := by
        unfold writeA at we ⊢
        by_cases e0 : a.Args = []
        · rw [if_pos e0] at we; cases we
        rw [if_neg e0] at we ⊢
        cases ea : a.Args.any badN with
        | true => rw [ea, if_pos rfl] at we; cases we
        | false =>
          rw [ea, if_neg (by simp)] at we
          rw [if_neg (by simp)]
          by_cases e32 : 32 < a.Args.length
          · rw [if_pos e32] at we; cases we
          · rw [if_neg e32]
            exact ⟨e0, fun n hn => by simpa using List.any_eq_false.1 ea n hn, by omega, rfl⟩
      obtain ⟨w0, w1, w2, w3⟩ := hw
      have hrd := read_word a.Args w0 w1 w2
      rw [← w3] at hrd
      have hall : (writeA a.Args).1.all okB = true := (read_all _).1 (by rw [hrd])
      exact wr_csi a hp h4 ci.1 lI cc hm _ hall (by omega) (by rw [hrd])
    by_cases m0 : a.Mark = 0
    · rw [decide_eq_true m0, ct]
      exact core (.inl m0)
    · rw [decide_eq_false m0, cf, wi, bs]
      by_cases mm : 60 ≤ a.Mark ∧ a.Mark ≤ 63
      · rw [decide_eq_true mm, ct]
        exact core (.inr mm)
      · rw [decide_eq_false mm, cf]; exact .inl rfl
  rw [decide_eq_false h4, cf]
  by_cases h5 : a.Kind = 5
  case neg => rw [decide_eq_false h5, cf]; exact .inl rfl
  rw [decide_eq_true h5, ct]
  obtain ⟨b, hb, ht2⟩ := title_ok a.Text (by omega)
  rw [hb, bs]
  cases b with
  | false => rw [cf]; exact .inl rfl
  | true =>
  obtain ⟨t1, t2, t3⟩ := ht2 rfl
  have tl := rns_len a.Text.length a.Text (Nat.le_refl _)
  rw [ct, runes_ok _ (by omega), bs, app_ok 8 _ _ (by simp; omega), bs, app_ok 8 _ _ (by simp; omega), bs]
  refine .inr ⟨_, rfl, by simp; omega, ?_⟩
  have e := back_osc a.Text t2 t3 t1
  have ea : (⟨5, 0, 0, [], [], a.Text⟩ : GAct) = a := by
    have m := hp.m (by omega)
    have i := hp.i (by omega) (by omega)
    have c := hp.c h5
    cases a; simp_all
  rw [ea] at e
  exact e
theorem parseBack (l : List GAct) (hl : l.length ≤ 1048576) (h : ∀ a ∈ l, a.Args.length ≤ 1048576 ∧ a.Inter.length ≤ 10000000 ∧ a.Text.length ≤ 10000000) : f3 l = some true := by
  unfold f3
  obtain ⟨r, hr, hp1, hp2, hp3, hp4⟩ := loopO_ind (body := f3_l1 l) (fun k x => ∃ i : Nat, x.2.2 = (i : Int) ∧ i ≤ l.length ∧ k = l.length - i ∧ x.1.length ≤ 260 * i ∧ x.2.1.length ≤ i ∧ feedP (nilP 0) x.1 = (nilP 0, x.2.1) ∧ ∀ a ∈ x.2.1, a ∈ l) (fun r => r.1.length ≤ 273000000 ∧ r.2.length ≤ 2000000 ∧ feedP (nilP 0) r.1 = (nilP 0, r.2) ∧ ∀ a ∈ r.2, a ∈ l) (by
    rintro k ⟨o, w, _⟩ ⟨i, rfl, hi, rfl, h1, h2, h3, h4⟩
    unfold f3_l1
    try dsimp only [] at h1 h2 h3 h4 ⊢
    by_cases hlt : i < l.length
    · left
      have hx : idx l (i : Int) = some l[i] := by unfold idx; rw [if_pos (by omega)]; simp [hlt]
      have hm : l[i] ∈ l := List.getElem_mem hlt
      have hw : IntKind.i64.wrap ((i : Int) + 1) = ((i + 1 : Nat) : Int) := by rw [i64w _ (by omega)]; omega
      have ha := h _ hm
      rw [decide_eq_true (by omega)]
      unfold f3_l1_j2 f3_l1_j3
      rw [ct, ct, hx, bs]
      rcases write_back l[i] (by omega) (by omega) (by omega) with e | ⟨t, e, tl, tf⟩
      · rw [e, bs, decide_eq_false (by decide), cf, hw]
        exact ⟨_, l.length - (i + 1), rfl, by omega, i + 1, rfl, by omega, rfl, by show o.length ≤ _; omega, by show w.length ≤ _; omega, h3, h4⟩
      · rw [e, bs, decide_eq_true rfl, ct, app_ok 8 o t (by omega), bs, app_ok 80 _ _ (by simp; omega), bs, hw]
        refine ⟨_, l.length - (i + 1), rfl, by omega, i + 1, rfl, by omega, rfl, by simp; omega, by simp; omega, ?_, ?_⟩
        · show feedP (nilP 0) (o ++ t) = (nilP 0, w ++ [l[i]])
          rw [feed_app, h3]
          dsimp only
          rw [tf]
        · intro a ha2
          rcases List.mem_append.1 ha2 with q | q
          · exact h4 a q
          · rw [List.mem_singleton] at q; rw [q]; exact hm
    · right
      rw [decide_eq_false (by omega)]
      unfold f3_l1_j2
      rw [cf, cf]
      exact ⟨_, rfl, by show o.length ≤ _; omega, by show w.length ≤ _; omega, h3, h4⟩) (n := l.length) (x := ([], [], 0)) ⟨0, rfl, by omega, by omega, by simp, by simp, rfl, fun a ha => by simp at ha⟩
  rw [hr, bs]
  unfold f3_j0
  have hf := feed_ok (nilP 0) r.1 hp1 (nil_okP 0 (by omega) (by omega) (by omega))
  rw [hp3] at hf
  have hf' : f5 (GParser.mk 0 0 [] [] []) r.1 = some (nilP 0, r.2, 0) := hf
  rw [hf', bs, lives, bs, ct, decide_eq_true rfl, ct]
  have e : (decide ((nilP 0).State = 0) && (decide ((nilP 0).Mark = 0) && (decide ((nilP 0).Inter = ([] : List UInt8)) && (decide ((nilP 0).Args = ([] : List UInt8)) && (decide ((nilP 0).Text = ([] : List UInt8)) && true))))) = true := rfl
  try dsimp only []
  rw [e, ct, acts_same _ (by omega) (fun a ha => by have := (h a (hp4 a ha)).1; omega), bs]
theorem maxcell {w : World} (hsh : w.ShapedOpen Go.Proofs.Tryd.prog) : ∃ m, w.cell? ⟨2, 0, none⟩ = some (.int .i64 m) :=
  cell_of_shapedOpen_int (t := 3) (zero := #[.int .i64 0]) hsh (of_decide_eq_true (by kernel_rfl)) (by kernel_rfl) rfl (by kernel_rfl) (by kernel_rfl) (by kernel_rfl)
theorem pow10 {w : World} (hL : laidMetH Go.Proofs.Tryd.prog Rows.parseBackUptoRow.laid w) : Lib.TabIs Go.Proofs.Tryd.prog w "internal/strconv.uint64pow10" .u64 Lib.pow10Tab := by
  have h := hL.filter (fun x => x.1 == "internal/strconv.uint64pow10")
  have e : (Rows.parseBackUptoRow.laid.filter fun x => x.1 == "internal/strconv.uint64pow10") = [("internal/strconv.uint64pow10", Lib.tabData .u64 Lib.pow10Tab)] := by kernel_rfl
  rw [e] at h
  have h2 := (laidMetH_iff.1 h).1
  have e2 : (([("internal/strconv.uint64pow10", Lib.tabData .u64 Lib.pow10Tab)] : List (String × DataW Unit)).filter fun x => x.2.handleName?.isNone) = [("internal/strconv.uint64pow10", Lib.tabData .u64 Lib.pow10Tab)] := by kernel_rfl
  rw [e2] at h2
  exact Lib.tabIs_of_head rfl rfl rfl rfl rfl rfl h2
theorem u8tabs {w : World} (hL : laidMetH Go.Proofs.Tryd.prog Rows.parseBackUptoRow.laid w) : Lib.Utf8Tabs 0 1 w := by
  have h := hL.filter (fun x => x.1 == "unicode/utf8.acceptRanges" || x.1 == "unicode/utf8.first")
  have e : (Rows.parseBackUptoRow.laid.filter fun x => x.1 == "unicode/utf8.acceptRanges" || x.1 == "unicode/utf8.first") = [("unicode/utf8.acceptRanges", Lib.acceptData), ("unicode/utf8.first", Lib.firstData)] := by kernel_rfl
  rw [e] at h
  have h2 := (laidMetH_iff.1 h).1
  have e2 : (([("unicode/utf8.acceptRanges", Lib.acceptData), ("unicode/utf8.first", Lib.firstData)] : List (String × DataW Unit)).filter fun x => x.2.handleName?.isNone) = [("unicode/utf8.acceptRanges", Lib.acceptData), ("unicode/utf8.first", Lib.firstData)] := by kernel_rfl
  rw [e2] at h2
  exact utf8Tabs_of_readsT (ρ := Go.Proofs.Tryd.lays197_ren) { Go.Proofs.Tryd.lays197 with } ⟨by kernel_rfl, by kernel_rfl, by kernel_rfl, by kernel_rfl, by kernel_rfl, by kernel_rfl, by kernel_rfl⟩ (Lib.laidMet.reads h2 (.tail _ (.head _))) (Lib.laidMet.reads h2 (.head _))
theorem ParseBack_walk (v0 : Value) (w : World) (h0 : Arg (some 1048576) Go.Proofs.Tryd.prog w 22 v0) (hsh : w.ShapedOpen Go.Proofs.Tryd.prog) (hL : laidMetH Go.Proofs.Tryd.prog Rows.parseBackUptoRow.laid w) : Calls Go.Proofs.Tryd.prog 3 #[v0] w fun e w' => e = .returned (.bool true) ∧ Below w.heap.size w w' :=
  ParseBack_calls (some 1048576) (fun l hv => parseBack l (by have := hv.1; unfold FitN at this; omega) (fun a ha => by
    have q := hv.2 a ha
    have q1 := q.2.2.2.1.2
    have q2 := q.2.2.2.2.1.1
    have q3 := q.2.2.2.2.2.2
    unfold FitN at q1 q2 q3
    omega)) v0 w h0 (maxcell hsh) (pow10 hL) (u8tabs hL)
end Go.Proofs.YthapehjibbjkjaaDoor.Pm
