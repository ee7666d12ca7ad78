/- Line: what typed bytes do; LineQuotes. -/
import Derived.Test.YthblnlmpfgfgcaaDoorDLqZ
import Derived.Test.YthblnlmpfgfgcaaDoorBas
namespace Go.Proofs.YthblnlmpfgfgcaaDoor.Pm
open Go.Proofs.YthblnlmpfgfgcaaDoor.Args
open Go.ChangeShapes Go.WideShapes Go.ChangeAt Go.RowKit
set_option linter.unusedVariables false
set_option linter.unusedSimpArgs false
set_option maxRecDepth 100000
abbrev Str := List UInt8
theorem inR_nat (i n : Nat) (h : i < n) : inR (i : Int) n = some i := by unfold inR; rw [if_pos (by omega)]; simp
/-- Whether a byte is the one of a function. -/
def isB (k : GKeys) (c : UInt8) (f : Nat) : Bool := (!decide ((k.Levels f).toNat = 0)) && decide ((k.Chars f).toNat = c.toNat)
theorem is_ok (c : UInt8) (n : Int) (m : Nat) (q : Bool) (k : GKeys) (M : Nat → Int) (b : Str) (ls : List Str) (ec : Str) (h : inR n 19 = some m) :
    f27 c n q k.Levels k.Chars M b ls ec = some (b, q, k.Levels, k.Chars, M, ls, ec, isB k c m) := by
  unfold f27 isB
  rw [h, bs, bs]
  by_cases h0 : (k.Levels m).toNat = 0
  · rw [decide_eq_true (p := ((k.Levels m).toNat : Int) = 0) (by omega), decide_eq_true h0]; rfl
  · rw [decide_eq_false (p := ((k.Levels m).toNat : Int) = 0) (by omega), decide_eq_false h0, Bool.not_false, ct, Bool.true_and]
    by_cases h1 : (k.Chars m).toNat = c.toNat
    · rw [decide_eq_true (p := ((k.Chars m).toNat : Int) = (c.toNat : Int)) (by omega), decide_eq_true h1, ct]
    · rw [decide_eq_false (p := ((k.Chars m).toNat : Int) = (c.toNat : Int)) (by omega), decide_eq_false h1, cf]
def hasM (M : Nat → Int) (c : UInt8) : Bool := decide ((bitI .and .u64 (Int.fdiv (M (c / (64 : UInt8)).toNat) (2 ^ (min (((c % (64 : UInt8)).toNat : Int) : Int).toNat 64))) 1) = 1)
theorem has_ok (M : Nat → Int) (c : UInt8) : f31 (GMask.mk M) c = some (hasM M c) := by
  unfold f31 hasM
  have h4 : (c / (64 : UInt8)).toNat < 4 := by
    rw [UInt8.toNat_div, show (64 : UInt8).toNat = 64 from rfl]
    have := c.toNat_lt
    omega
  rw [inR_nat _ 4 h4, bs, chk_ok (decide_eq_true (Int.natCast_nonneg _)), bs]
  cases decide ((bitI .and .u64 (Int.fdiv (M (c / (64 : UInt8)).toNat) (2 ^ (min (((c % (64 : UInt8)).toNat : Int) : Int).toNat 64))) 1) = 1) <;> rfl
/-- A byte put in. -/
def ins (c : UInt8) (b : Str) : Str × List Str × Bool := if (b ++ [c]).length < 1024 then (b ++ [c], [], false) else ([], [b ++ [c]], true)
theorem send_ok (q : Bool) (k : GKeys) (M : Nat → Int) (b : Str) (ls : List Str) (ec : Str) (hl : ls.length ≤ 1000000) : f32 q k.Levels k.Chars M b ls ec = some (q, k.Levels, k.Chars, M, ls ++ [b], ec, b) := by
  unfold f32
  rw [app_ok 16 _ _ (by simp; omega), bs]
theorem ins_ok (c : UInt8) (q : Bool) (k : GKeys) (M : Nat → Int) (b : Str) (ls : List Str) (ec : Str) (hb : b.length ≤ 1024) (hl : ls.length ≤ 1000000) (he : ec.length ≤ 100000000) :
    f26 c q k.Levels k.Chars M b ls ec = some ((ins c b).1, q, k.Levels, k.Chars, M, ls ++ (ins c b).2.1, ec ++ [c], (ins c b).2.2) := by
  unfold f26 ins
  rw [app_ok 1 b [c] (by simp; omega), bs, app_ok 1 ec [c] (by simp; omega), bs]
  by_cases h : (b ++ [c]).length < 1024
  · rw [decide_eq_true (by omega), ct, if_pos h, List.append_nil]
  · rw [decide_eq_false (by omega), cf, if_neg h, send_ok q k M _ ls _ hl, bs]
/-- A byte taken: what is in the line, whether the next is quoted, lines, what is shown. -/
structure Tk where
  b : Str
  q : Bool
  l : List Str
  e : Str
def era (n : Nat) (b : Str) (q : Bool) : Tk := ⟨b.take (b.length - n), q, [], Lib.repeatL [8, 32, 8] n⟩
def wordN (b : Str) : Nat := ((b.length : Int) - Lib.lastIndexByte ⟨(Lib.trimRightB b 32).toArray⟩ (((32 : UInt8).toNat : Nat) : Int) - 1).toNat
def put (c : UInt8) (b : Str) (q : Bool) : Tk := ⟨(ins c b).1, q, (ins c b).2.1, [c]⟩
def putN (c : UInt8) (b : Str) (q : Bool) : Tk := if (ins c b).2.2 = true then put c b q else ⟨[], q, (ins c b).2.1 ++ [(ins c b).1], [c]⟩
def tk (k : GKeys) (M : Nat → Int) (c : UInt8) (b : Str) (q : Bool) : Tk :=
  if q = true then put c b false
  else if isB k c 14 = true then ⟨b, true, [], []⟩
  else if isB k c 10 = true then era (min 1 b.length) b q
  else if isB k c 12 = true then era (wordN b) b q
  else if isB k c 11 = true then era b.length b q
  else if isB k c 13 = true then ⟨b, q, [], [13, 10] ++ b⟩
  else if c.toNat = 13 ∨ c.toNat = 10 ∨ isB k c 17 = true ∨ isB k c 18 = true ∨ hasM M c = true then putN c b q
  else put c b q
def pkT (k : GKeys) (M : Nat → Int) (ls : List Str) (ec : Str) (r : Tk) : Str × Bool × (Nat → UInt8) × (Nat → UInt8) × (Nat → Int) × List Str × Str := (r.b, r.q, k.Levels, k.Chars, M, ls ++ r.l, ec ++ r.e)
theorem rep_len (n : Nat) : (Lib.repeatL [8, 32, 8] n).length = 3 * n := by rw [Lib.repeatL_length]; simp; omega
theorem era_ok (n : Nat) (q : Bool) (k : GKeys) (M : Nat → Int) (b : Str) (ls : List Str) (ec : Str) (hb : b.length ≤ 1024) (hn : n ≤ b.length) (he : ec.length ≤ 100000000) :
    f28 (n : Int) q k.Levels k.Chars M b ls ec = some (pkT k M ls ec (era n b q)) := by
  unfold f28
  have hr := rep_len n
  have hs : sub? b 0 (IntKind.i64.wrap ((b.length : Int) - (n : Int))) = some (b.take (b.length - n)) := by
    rw [i64w _ (by omega)]
    unfold sub?
    rw [if_pos (by omega)]
    have : ((b.length : Int) - (n : Int)).toNat = b.length - n := by omega
    rw [this]; simp
  have hR : libRepeat [8, 32, 8] (n : Int) = some (Lib.repeatL [8, 32, 8] n) := by
    unfold libRepeat
    rw [if_pos ⟨by omega, by omega, by simp; omega⟩, Int.toNat_natCast]
  rw [hs, bs, hR, bs, app_ok 1 _ _ (by omega), bs]
  simp [pkT, era]
theorem word_le (b : Str) : wordN b ≤ b.length ∧ (wordN b : Int) = (b.length : Int) - Lib.lastIndexByte ⟨(Lib.trimRightB b 32).toArray⟩ (((32 : UInt8).toNat : Nat) : Int) - 1 := by
  have hs : (Lib.trimRightB b 32).length ≤ b.length := by
    unfold Lib.trimRightB
    rw [List.length_reverse]
    have := (List.dropWhile_sublist (l := b.reverse) (fun x => x == (32 : UInt8))).length_le
    rw [List.length_reverse] at this
    exact this
  have hz : (⟨(Lib.trimRightB b 32).toArray⟩ : ByteArray).size = (Lib.trimRightB b 32).length := by show (Lib.trimRightB b 32).toArray.size = _; simp
  unfold wordN
  rcases Lib.lastIndexByte_spec ⟨(Lib.trimRightB b 32).toArray⟩ (((32 : UInt8).toNat : Nat) : Int) with ⟨h, _⟩ | ⟨i, h1, h2, _⟩
  · rw [h]; omega
  · rw [h2]; omega
theorem end_ok (c : UInt8) (x1 : Bool) (x2 x3 : Nat → UInt8) (x4 : Nat → Int) (x5 : Str) (x6 : List Str) (x7 : Str) (q : Bool) (k : GKeys) (M : Nat → Int) (b : Str) (ls : List Str) (ec : Str) (s : Bool) (hb : b.length ≤ 1023) (hl : ls.length ≤ 900000) (he : ec.length ≤ 100000000) :
    f20_j0 c x1 x2 x3 x4 x5 x6 x7 b q k.Levels k.Chars M ls ec s = some (pkT k M ls ec (if s = true then putN c b q else put c b q)) := by
  unfold f20_j0
  rw [ins_ok c q k M b ls ec (by omega) (by omega) he, bs]
  have hi : (ins c b).2.1.length ≤ 1 := by unfold ins; split <;> simp
  cases s with
  | true =>
    rw [ct, if_pos rfl]
    unfold putN
    cases hs : (ins c b).2.2 with
    | true =>
      simp only [hs, Bool.not_true, cond_false]
      all_goals rfl
    | false =>
      simp only [hs, Bool.not_false, cond_true]
      rw [send_ok q k M _ _ _ (by simp; omega), bs]
      simp [pkT]
  | false =>
    rw [cf, bs]
    all_goals rfl
theorem take_ok (c : UInt8) (q : Bool) (k : GKeys) (M : Nat → Int) (b : Str) (ls : List Str) (ec : Str) (hb : b.length ≤ 1023) (hl : ls.length ≤ 900000) (he : ec.length ≤ 90000000) :
    f20 c q k.Levels k.Chars M b ls ec = some (pkT k M ls ec (tk k M c b q)) := by
  unfold f20 tk
  cases q with
  | true =>
    rw [ct, if_pos rfl, ins_ok c false k M b ls ec (by omega) (by omega) (by omega), bs]
    all_goals rfl
  | false =>
    rw [cf, if_neg (by simp), is_ok c 14 14 _ k M _ _ _ rfl, bs]
    simp only
    cases h14 : isB k c 14 with
    | true => rw [ct, if_pos rfl]; simp [pkT]
    | false =>
    rw [cf, if_neg (by simp), is_ok c 10 10 _ k M _ _ _ rfl, bs]
    simp only
    cases h10 : isB k c 10 with
    | true =>
      rw [ct, if_pos rfl]
      have hm : (if (b.length : Int) < 1 then (b.length : Int) else 1) = ((min 1 b.length : Nat) : Int) := by
        by_cases h : (b.length : Int) < 1
        · rw [if_pos h]; omega
        · rw [if_neg h]; omega
      rw [hm, era_ok _ _ k M b ls ec (by omega) (by omega) (by omega), bs]
      all_goals rfl
    | false =>
    rw [cf, if_neg (by simp), is_ok c 12 12 _ k M _ _ _ rfl, bs]
    simp only
    cases h12 : isB k c 12 with
    | true =>
      rw [ct, if_pos rfl]
      obtain ⟨w1, w2⟩ := word_le b
      have hs : (Lib.trimRightB b 32).length ≤ b.length := by
        unfold Lib.trimRightB
        rw [List.length_reverse]
        have := (List.dropWhile_sublist (l := b.reverse) (fun x => x == (32 : UInt8))).length_le
        rw [List.length_reverse] at this
        exact this
      have hT : libTrimRight b [32] = some (Lib.trimRightB b 32) := by
        unfold libTrimRight
        simp only
        rw [if_pos (by refine ⟨by decide, by omega⟩)]
      have hL : libLastIndexByte (Lib.trimRightB b 32) 32 = some (Lib.lastIndexByte ⟨(Lib.trimRightB b 32).toArray⟩ (((32 : UInt8).toNat : Nat) : Int)) := by
        unfold libLastIndexByte
        rw [if_pos (by omega)]
      rw [hT, bs, hL, bs]
      generalize Lib.lastIndexByte ⟨(Lib.trimRightB b 32).toArray⟩ (((32 : UInt8).toNat : Nat) : Int) = li at *
      have hw : IntKind.i64.wrap (IntKind.i64.wrap ((b.length : Int) - li) - 1) = (wordN b : Int) := by
        rw [i64w ((b.length : Int) - li) (by omega), i64w _ (by omega)]; omega
      rw [hw, era_ok _ _ k M b ls ec (by omega) w1 (by omega), bs]
      all_goals rfl
    | false =>
    rw [cf, if_neg (by simp), is_ok c 11 11 _ k M _ _ _ rfl, bs]
    simp only
    cases h11 : isB k c 11 with
    | true =>
      rw [ct, if_pos rfl, era_ok _ _ k M b ls ec (by omega) (Nat.le_refl _) (by omega), bs]
      all_goals rfl
    | false =>
    rw [cf, if_neg (by simp), is_ok c 13 13 _ k M _ _ _ rfl, bs]
    simp only
    cases h13 : isB k c 13 with
    | true =>
      rw [ct, if_pos rfl, app_ok 1 _ _ (by simp; omega), bs, app_ok 1 _ _ (by simp; omega), bs]
      simp [pkT]
    | false =>
    rw [cf, if_neg (by simp)]
    by_cases c13 : c.toNat = 13
    · rw [decide_eq_true (by omega), ct, end_ok _ _ _ _ _ _ _ _ _ k M b ls ec true hb hl (by omega), if_pos rfl, if_pos (.inl c13)]
    rw [decide_eq_false (by omega), cf]
    by_cases c10 : c.toNat = 10
    · rw [decide_eq_true (by omega), ct, end_ok _ _ _ _ _ _ _ _ _ k M b ls ec true hb hl (by omega), if_pos rfl, if_pos (.inr (.inl c10))]
    rw [decide_eq_false (by omega), cf, is_ok c 17 17 _ k M _ _ _ rfl, bs]
    simp only
    cases h17 : isB k c 17 with
    | true => rw [ct, end_ok _ _ _ _ _ _ _ _ _ k M b ls ec true hb hl (by omega), if_pos rfl, if_pos (.inr (.inr (.inl rfl)))]
    | false =>
    rw [cf, is_ok c 18 18 _ k M _ _ _ rfl, bs]
    simp only
    cases h18 : isB k c 18 with
    | true => rw [ct, end_ok _ _ _ _ _ _ _ _ _ k M b ls ec true hb hl (by omega), if_pos rfl, if_pos (.inr (.inr (.inr (.inl rfl))))]
    | false =>
    rw [cf, has_ok, bs, end_ok _ _ _ _ _ _ _ _ _ k M b ls ec _ hb hl (by omega)]
    cases hh : hasM M c with
    | true => rw [if_pos rfl, if_pos (.inr (.inr (.inr (.inr rfl))))]
    | false => rw [if_neg (by simp), if_neg (by simp [c13, c10])]
theorem ins_len (c : UInt8) (b : Str) (hb : b.length ≤ 1023) : (ins c b).1.length ≤ 1023 ∧ (ins c b).2.1.length ≤ 1 := by
  unfold ins
  split
  · rename_i h; exact ⟨by show (b ++ [c]).length ≤ 1023; omega, by simp⟩
  · exact ⟨by simp, by simp⟩
theorem tk_len (k : GKeys) (M : Nat → Int) (c : UInt8) (b : Str) (q : Bool) (hb : b.length ≤ 1023) : (tk k M c b q).b.length ≤ 1023 ∧ (tk k M c b q).l.length ≤ 2 ∧ (tk k M c b q).e.length ≤ 4000 := by
  obtain ⟨i1, i2⟩ := ins_len c b hb
  have hput : ∀ q, (put c b q).b.length ≤ 1023 ∧ (put c b q).l.length ≤ 2 ∧ (put c b q).e.length ≤ 4000 := fun q => ⟨i1, by show (ins c b).2.1.length ≤ 2; omega, by simp [put]⟩
  have hera : ∀ n q, n ≤ b.length → (era n b q).b.length ≤ 1023 ∧ (era n b q).l.length ≤ 2 ∧ (era n b q).e.length ≤ 4000 := fun n q hn => by
    have := rep_len n
    exact ⟨by simp [era]; omega, by simp [era], by show (Lib.repeatL [8, 32, 8] n).length ≤ 4000; omega⟩
  unfold tk
  split
  · exact hput false
  split
  · exact ⟨hb, by simp, by simp⟩
  split
  · exact hera _ _ (by omega)
  split
  · exact hera _ _ (word_le b).1
  split
  · exact hera _ _ (Nat.le_refl _)
  split
  · exact ⟨hb, by simp, by simp; omega⟩
  split
  · unfold putN
    split
    · exact hput q
    · exact ⟨by simp, by simp; omega, by simp⟩
  · exact hput q
/-- Bytes taken one by one. -/
def tks (k : GKeys) (M : Nat → Int) : Str → Str → Bool → Tk
  | [], b, q => ⟨b, q, [], []⟩
  | c :: t, b, q => ⟨(tks k M t (tk k M c b q).b (tk k M c b q).q).b, (tks k M t (tk k M c b q).b (tk k M c b q).q).q, (tk k M c b q).l ++ (tks k M t (tk k M c b q).b (tk k M c b q).q).l, (tk k M c b q).e ++ (tks k M t (tk k M c b q).b (tk k M c b q).q).e⟩
theorem tks_app (k : GKeys) (M : Nat → Int) : ∀ (x y b : Str) (q : Bool), tks k M (x ++ y) b q = ⟨(tks k M y (tks k M x b q).b (tks k M x b q).q).b, (tks k M y (tks k M x b q).b (tks k M x b q).q).q, (tks k M x b q).l ++ (tks k M y (tks k M x b q).b (tks k M x b q).q).l, (tks k M x b q).e ++ (tks k M y (tks k M x b q).b (tks k M x b q).q).e⟩
  | [], y, b, q => by simp [tks]
  | c :: x, y, b, q => by
    rw [List.cons_append]
    simp only [tks]
    rw [tks_app k M x y]
    simp
theorem tks_len (k : GKeys) (M : Nat → Int) : ∀ (x b : Str) (q : Bool), b.length ≤ 1023 → (tks k M x b q).b.length ≤ 1023 ∧ (tks k M x b q).l.length ≤ 2 * x.length ∧ (tks k M x b q).e.length ≤ 4000 * x.length
  | [], b, q, hb => ⟨hb, by simp [tks], by simp [tks]⟩
  | c :: t, b, q, hb => by
    obtain ⟨h1, h2, h3⟩ := tk_len k M c b q hb
    obtain ⟨g1, g2, g3⟩ := tks_len k M t (tk k M c b q).b (tk k M c b q).q h1
    refine ⟨g1, ?_, ?_⟩
    · simp only [tks, List.length_append, List.length_cons]; omega
    · simp only [tks, List.length_append, List.length_cons]; omega
theorem type_loop (a1 : GEditor) (k : GKeys) (M : Nat → Int) (a : Str) (ha : a.length ≤ 4096) : ∀ (suf pre b : Str) (q : Bool) (ls : List Str) (ec : Str), a = pre ++ suf → b.length ≤ 1023 → ls.length ≤ 2 * pre.length → ec.length ≤ 4000 * pre.length →
    loopO (f8_l4 a1 k (GMask.mk M) a) (b, q, k.Levels, k.Chars, M, ls, ec, (pre.length : Int)) = some (pkT k M ls ec (tks k M suf b q))
  | [], pre, b, q, ls, ec, e, hb, hl, he => loopO_done (by
      subst e
      unfold f8_l4 f8_l4_j5
      simp only [lt_end, cond_false]
      simp [tks, pkT])
  | c :: t, pre, b, q, ls, ec, e, hb, hl, he => by
    have hp : pre.length < 1000000000 := by rw [e] at ha; simp at ha; omega
    have hp2 : pre.length ≤ 4096 := by rw [e] at ha; simp at ha; omega
    have hx : idx a (pre.length : Int) = some c := by rw [e]; exact idx_mid pre c t
    have hlt : decide ((pre.length : Int) < (a.length : Int)) = true := by rw [e]; exact lt_mid pre c t
    obtain ⟨h1, h2, h3⟩ := tk_len k M c b q hb
    have ih := type_loop a1 k M a ha t (pre ++ [c]) (tk k M c b q).b (tk k M c b q).q (ls ++ (tk k M c b q).l) (ec ++ (tk k M c b q).e) (by rw [e]; simp) h1 (by simp; omega) (by simp; omega)
    have er : pkT k M ls ec (tks k M (c :: t) b q) = pkT k M (ls ++ (tk k M c b q).l) (ec ++ (tk k M c b q).e) (tks k M t (tk k M c b q).b (tk k M c b q).q) := by simp [pkT, tks]
    rw [er]
    refine loopO_next ?_ ih
    unfold f8_l4 f8_l4_j5 f8_l4_j6
    simp only [hlt, cond_true]
    rw [hx, bs, take_ok c q k M b ls ec hb (by omega) (by omega), bs, wrap_nx pre c hp]
    all_goals rfl
theorem keys_tot (k : GKeys) : ∃ z, f19 k = some z := by
  have hl : ∀ (n i : Nat), i + n = 19 → ∃ r, loopO (f19_l1 k) (i : Int) = some r := by
    intro n
    induction n with
    | zero =>
      intro i hi
      refine ⟨_, loopO_done (r := .inl ()) ?_⟩
      unfold f19_l1 f19_l1_j2
      rw [decide_eq_false (by omega), cf, cf]
    | succ n ih =>
      intro i hi
      by_cases h2 : 2 < (k.Levels i).toNat
      · refine ⟨_, loopO_done (r := .inr 4) ?_⟩
        unfold f19_l1 f19_l1_j2 f19_l1_j3
        rw [decide_eq_true (by omega), ct, ct, inR_nat i 19 (by omega), bs, decide_eq_true (by omega), ct]
      · obtain ⟨r, hr⟩ := ih (i + 1) (by omega)
        refine ⟨r, loopO_next (y := ((i + 1 : Nat) : Int)) ?_ hr⟩
        unfold f19_l1 f19_l1_j2 f19_l1_j3
        rw [decide_eq_true (by omega), ct, ct, inR_nat i 19 (by omega), bs, decide_eq_false (by omega), cf, i64w _ (by omega)]; rfl
  obtain ⟨r, hr⟩ := hl 19 0 rfl
  rw [show ((0 : Nat) : Int) = 0 from rfl] at hr
  unfold f19
  rw [hr, bs]
  cases r with
  | inr z => exact ⟨z, rfl⟩
  | inl u =>
    rw [Sum.elim_inl]
    unfold f19_j0
    cases (!decide (((k.Levels 0).toNat : Int) = 0)) with
    | true => exact ⟨4, rfl⟩
    | false =>
      rw [cf]
      cases (!decide (((k.Chars 0).toNat : Int) = 0)) with
      | true => exact ⟨4, rfl⟩
      | false => exact ⟨0, rfl⟩
def typA (e : GEditor) (k : GKeys) (M : Nat → Int) (a : Str) : GEditor × List Str × Str × Int := (⟨(tks k M a e.Buf e.Quote).b, (tks k M a e.Buf e.Quote).q⟩, (tks k M a e.Buf e.Quote).l, (tks k M a e.Buf e.Quote).e, 0)
theorem type_ok (e : GEditor) (k : GKeys) (M : Nat → Int) (a : Str) (hk : f19 k = some 0) (hb : e.Buf.length ≤ 1023) (ha : a.length ≤ 4096) : f8 e k (GMask.mk M) a = some (typA e k M a) := by
  unfold f8 f6
  rw [decide_eq_false (by omega), cf, bs, decide_eq_true rfl, Bool.not_true, cf]
  unfold f8_j0
  rw [hk, bs, decide_eq_true rfl, Bool.not_true, cf]
  unfold f8_j1
  rw [decide_eq_false (by omega), cf]
  unfold f8_j2
  have h := type_loop e k M a ha a [] e.Buf e.Quote [] [] rfl hb (by simp) (by simp)
  rw [show ((([] : Str).length : Nat) : Int) = 0 from rfl] at h
  rw [chk_ok (by simp; omega), bs, h, bs]
  unfold f8_j3 pkT typA
  simp
theorem type_no (e : GEditor) (k : GKeys) (M : Nat → Int) (a : Str) (h : ¬ (f19 k = some 0 ∧ e.Buf.length ≤ 1023 ∧ a.length ≤ 4096)) : ∃ z, z ≠ 0 ∧ f8 e k (GMask.mk M) a = some (e, [], [], z) := by
  unfold f8 f6
  by_cases hb : 1024 ≤ e.Buf.length
  · refine ⟨2, by decide, ?_⟩
    rw [decide_eq_true (by omega), ct, bs, decide_eq_false (by decide), Bool.not_false, ct]
  rw [decide_eq_false (by omega), cf, bs, decide_eq_true rfl, Bool.not_true, cf]
  unfold f8_j0
  obtain ⟨z, hz⟩ := keys_tot k
  rw [hz, bs]
  by_cases h0 : z = 0
  · rw [decide_eq_true h0, Bool.not_true, cf]
    unfold f8_j1
    have : 4096 < a.length := by
      rw [h0] at hz
      rcases Nat.lt_or_ge 4096 a.length with g | g
      · exact g
      · exact absurd ⟨hz, by omega, g⟩ h
    refine ⟨2, by decide, ?_⟩
    rw [decide_eq_true (by omega), ct]
  · refine ⟨z, h0, ?_⟩
    rw [decide_eq_false h0, Bool.not_false, ct]
theorem eq_loop (l : List Str) : ∀ (suf pre : List Str), l = pre ++ suf → l.length ≤ 1000000 → loopO (f17_l1 l l) (pre.length : Int) = some (.inl ())
  | [], pre, e, h => loopO_done (by
      subst e
      unfold f17_l1 f17_l1_j2
      simp only [lt_end, cond_false])
  | x :: t, pre, e, h => by
    have hp : pre.length < 1000000000 := by rw [e] at h; simp at h; omega
    have hx : idx l (pre.length : Int) = some x := by rw [e]; exact idx_mid pre x t
    have hlt : decide ((pre.length : Int) < (l.length : Int)) = true := by rw [e]; exact lt_mid pre x t
    refine loopO_next ?_ (eq_loop l t (pre ++ [x]) (by simp [e]) h)
    unfold f17_l1 f17_l1_j2 f17_l1_j3
    simp only [hlt, hx, cond_true, Option.bind_some, decide_true, Bool.not_true, cond_false]
    rw [wrap_nx pre x hp]
theorem f17_same (l : List Str) (h : l.length ≤ 1000000) : f17 l l = some true := by
  unfold f17
  rw [decide_eq_true rfl, Bool.not_true, cf]
  unfold f17_j0
  have := eq_loop l l [] rfl h
  rw [show ((([] : List Str).length : Nat) : Int) = 0 from rfl] at this
  rw [this, bs]; rfl
def K0 : GKeys := ⟨fun _ => 0, fun _ => 0⟩
def KK : GKeys := ⟨upd (upd (upd (upd (upd (fun _ => 0) 10 2) 11 2) 12 2) 13 2) 14 2, upd (upd (upd (upd (upd (fun _ => 0) 10 127) 11 21) 12 23) 13 18) 14 22⟩
theorem keys_ok : f16 = some KK := by
  unfold f16
  rw [(loopO_of (n := 7) (by rfl : loopF f16_l0 7 (K0, 0) = some KK) : loopO f16_l0 (GKeys.mk (fun _ => 0) (fun _ => 0), 0) = some KK), bs]
theorem keys_good : f19 KK = some 0 := by
  unfold f19
  rw [loopO_of (n := 21) (by kernel_rfl : loopF (f19_l1 KK) 21 0 = some (.inl ())), bs, Sum.elim_inl]
  all_goals rfl
theorem lives : f5 = some true := by
  unfold f5
  have h := type_ok ⟨[], false⟩ KK (fun _ => 0) [108, 120, 127, 115, 32, 45, 108, 13, 120] keys_good (by simp) (by simp)
  have h2 : typA ⟨[], false⟩ KK (fun _ => 0) [108, 120, 127, 115, 32, 45, 108, 13, 120] = (⟨[120], false⟩, [[108, 115, 32, 45, 108, 13]], [108, 120, 8, 32, 8, 115, 32, 45, 108, 13, 120], 0) := by kernel_rfl
  rw [h2] at h
  rw [keys_ok, bs, h, bs]
  simp only [decide_true, cond_true]
  rw [f17_same _ (by simp), bs, ct]
end Go.Proofs.YthblnlmpfgfgcaaDoor.Pm
