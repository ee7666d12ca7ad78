/- Line: what typed bytes do; LinePlain. -/
import Derived.Test.YtanhpibphkblnaaDoorDLpZ
import Derived.Test.YtanhpibphkblnaaDoorBas
namespace Go.Proofs.YtanhpibphkblnaaDoor.Pm
open Go.Proofs.YtanhpibphkblnaaDoor.Args
open Go.ChangeShapes Go.WideShapes Go.ChangeAt Go.RowKit
set_option linter.unusedVariables false
set_option linter.unusedSimpArgs false
set_option maxRecDepth 100000
abbrev Str := List UInt8
theorem inR_nat (i n : Nat) (h : i < n) : inR (i : Int) n = some i := by unfold inR; rw [if_pos (by omega)]; simp
/-- Whether a byte is the one of a function. -/
def isB (k : GKeys) (c : UInt8) (f : Nat) : Bool := (!decide ((k.Levels f).toNat = 0)) && decide ((k.Chars f).toNat = c.toNat)
theorem is_ok (c : UInt8) (n : Int) (m : Nat) (q : Bool) (k : GKeys) (M : Nat → Int) (b : Str) (ls : List Str) (ec : Str) (h : inR n 19 = some m) :
    f68 c n q k.Levels k.Chars M b ls ec = some (b, q, k.Levels, k.Chars, M, ls, ec, isB k c m) := by
  unfold f68 isB
  rw [h, bs, bs]
  by_cases h0 : (k.Levels m).toNat = 0
  · rw [decide_eq_true (p := ((k.Levels m).toNat : Int) = 0) (by omega), decide_eq_true h0]; rfl
  · rw [decide_eq_false (p := ((k.Levels m).toNat : Int) = 0) (by omega), decide_eq_false h0, Bool.not_false, ct, Bool.true_and]
    by_cases h1 : (k.Chars m).toNat = c.toNat
    · rw [decide_eq_true (p := ((k.Chars m).toNat : Int) = (c.toNat : Int)) (by omega), decide_eq_true h1, ct]
    · rw [decide_eq_false (p := ((k.Chars m).toNat : Int) = (c.toNat : Int)) (by omega), decide_eq_false h1, cf]
def hasM (M : Nat → Int) (c : UInt8) : Bool := decide ((bitI .and .u64 (Int.fdiv (M (c / (64 : UInt8)).toNat) (2 ^ (min (((c % (64 : UInt8)).toNat : Int) : Int).toNat 64))) 1) = 1)
theorem has_ok (M : Nat → Int) (c : UInt8) : f15 (GMask.mk M) c = some (hasM M c) := by
  unfold f15 hasM
  have h4 : (c / (64 : UInt8)).toNat < 4 := by
    rw [UInt8.toNat_div, show (64 : UInt8).toNat = 64 from rfl]
    have := c.toNat_lt
    omega
  rw [inR_nat _ 4 h4, bs, chk_ok (decide_eq_true (Int.natCast_nonneg _)), bs]
  cases decide ((bitI .and .u64 (Int.fdiv (M (c / (64 : UInt8)).toNat) (2 ^ (min (((c % (64 : UInt8)).toNat : Int) : Int).toNat 64))) 1) = 1) <;> rfl
/-- A byte put in. -/
def ins (c : UInt8) (b : Str) : Str × List Str × Bool := if (b ++ [c]).length < 1024 then (b ++ [c], [], false) else ([], [b ++ [c]], true)
theorem send_ok (q : Bool) (k : GKeys) (M : Nat → Int) (b : Str) (ls : List Str) (ec : Str) (hl : ls.length ≤ 1000000) : f71 q k.Levels k.Chars M b ls ec = some (q, k.Levels, k.Chars, M, ls ++ [b], ec, b) := by
  unfold f71
  rw [app_ok 16 _ _ (by simp; omega), bs]
theorem ins_ok (c : UInt8) (q : Bool) (k : GKeys) (M : Nat → Int) (b : Str) (ls : List Str) (ec : Str) (hb : b.length ≤ 1024) (hl : ls.length ≤ 1000000) (he : ec.length ≤ 100000000) :
    f67 c q k.Levels k.Chars M b ls ec = some ((ins c b).1, q, k.Levels, k.Chars, M, ls ++ (ins c b).2.1, ec ++ [c], (ins c b).2.2) := by
  unfold f67 ins
  rw [app_ok 1 b [c] (by simp; omega), bs, app_ok 1 ec [c] (by simp; omega), bs]
  by_cases h : (b ++ [c]).length < 1024
  · rw [decide_eq_true (by omega), ct, if_pos h, List.append_nil]
  · rw [decide_eq_false (by omega), cf, if_neg h, send_ok q k M _ ls _ hl, bs]
/-- A byte taken: what is in the line, whether the next is quoted, lines, what is shown. -/
structure Tk where
  b : Str
  q : Bool
  l : List Str
  e : Str
def era (n : Nat) (b : Str) (q : Bool) : Tk := ⟨b.take (b.length - n), q, [], Lib.repeatL [8, 32, 8] n⟩
def wordN (b : Str) : Nat := ((b.length : Int) - Lib.lastIndexByte ⟨(Lib.trimRightB b 32).toArray⟩ (((32 : UInt8).toNat : Nat) : Int) - 1).toNat
def put (c : UInt8) (b : Str) (q : Bool) : Tk := ⟨(ins c b).1, q, (ins c b).2.1, [c]⟩
def putN (c : UInt8) (b : Str) (q : Bool) : Tk := if (ins c b).2.2 = true then put c b q else ⟨[], q, (ins c b).2.1 ++ [(ins c b).1], [c]⟩
def tk (k : GKeys) (M : Nat → Int) (c : UInt8) (b : Str) (q : Bool) : Tk :=
  if q = true then put c b false
  else if isB k c 14 = true then ⟨b, true, [], []⟩
  else if isB k c 10 = true then era (min 1 b.length) b q
  else if isB k c 12 = true then era (wordN b) b q
  else if isB k c 11 = true then era b.length b q
  else if isB k c 13 = true then ⟨b, q, [], [13, 10] ++ b⟩
  else if c.toNat = 13 ∨ c.toNat = 10 ∨ isB k c 17 = true ∨ isB k c 18 = true ∨ hasM M c = true then putN c b q
  else put c b q
def pkT (k : GKeys) (M : Nat → Int) (ls : List Str) (ec : Str) (r : Tk) : Str × Bool × (Nat → UInt8) × (Nat → UInt8) × (Nat → Int) × List Str × Str := (r.b, r.q, k.Levels, k.Chars, M, ls ++ r.l, ec ++ r.e)
theorem rep_len (n : Nat) : (Lib.repeatL [8, 32, 8] n).length = 3 * n := by rw [Lib.repeatL_length]; simp; omega
theorem era_ok (n : Nat) (q : Bool) (k : GKeys) (M : Nat → Int) (b : Str) (ls : List Str) (ec : Str) (hb : b.length ≤ 1024) (hn : n ≤ b.length) (he : ec.length ≤ 100000000) :
    f69 (n : Int) q k.Levels k.Chars M b ls ec = some (pkT k M ls ec (era n b q)) := by
  unfold f69
  have hr := rep_len n
  have hs : sub? b 0 (IntKind.i64.wrap ((b.length : Int) - (n : Int))) = some (b.take (b.length - n)) := by
    rw [i64w _ (by omega)]
    unfold sub?
    rw [if_pos (by omega)]
    have : ((b.length : Int) - (n : Int)).toNat = b.length - n := by omega
    rw [this]; simp
  have hR : libRepeat [8, 32, 8] (n : Int) = some (Lib.repeatL [8, 32, 8] n) := by
    unfold libRepeat
    rw [if_pos ⟨by omega, by omega, by simp; omega⟩, Int.toNat_natCast]
  rw [hs, bs, hR, bs, app_ok 1 _ _ (by omega), bs]
  simp [pkT, era]
theorem word_le (b : Str) : wordN b ≤ b.length ∧ (wordN b : Int) = (b.length : Int) - Lib.lastIndexByte ⟨(Lib.trimRightB b 32).toArray⟩ (((32 : UInt8).toNat : Nat) : Int) - 1 := by
  have hs : (Lib.trimRightB b 32).length ≤ b.length := by
    unfold Lib.trimRightB
    rw [List.length_reverse]
    have := (List.dropWhile_sublist (l := b.reverse) (fun x => x == (32 : UInt8))).length_le
    rw [List.length_reverse] at this
    exact this
  have hz : (⟨(Lib.trimRightB b 32).toArray⟩ : ByteArray).size = (Lib.trimRightB b 32).length := by show (Lib.trimRightB b 32).toArray.size = _; simp
  unfold wordN
  rcases Lib.lastIndexByte_spec ⟨(Lib.trimRightB b 32).toArray⟩ (((32 : UInt8).toNat : Nat) : Int) with ⟨h, _⟩ | ⟨i, h1, h2, _⟩
  · rw [h]; omega
  · rw [h2]; omega
theorem end_ok (c : UInt8) (x1 : Bool) (x2 x3 : Nat → UInt8) (x4 : Nat → Int) (x5 : Str) (x6 : List Str) (x7 : Str) (q : Bool) (k : GKeys) (M : Nat → Int) (b : Str) (ls : List Str) (ec : Str) (s : Bool) (hb : b.length ≤ 1023) (hl : ls.length ≤ 900000) (he : ec.length ≤ 100000000) :
    f54_j0 c x1 x2 x3 x4 x5 x6 x7 b q k.Levels k.Chars M ls ec s = some (pkT k M ls ec (if s = true then putN c b q else put c b q)) := by
  unfold f54_j0
  rw [ins_ok c q k M b ls ec (by omega) (by omega) he, bs]
  have hi : (ins c b).2.1.length ≤ 1 := by unfold ins; split <;> simp
  cases s with
  | true =>
    rw [ct, if_pos rfl]
    unfold putN
    cases hs : (ins c b).2.2 with
    | true =>
      simp only [hs, Bool.not_true, cond_false]
      all_goals rfl
    | false =>
      simp only [hs, Bool.not_false, cond_true]
      rw [send_ok q k M _ _ _ (by simp; omega), bs]
      simp [pkT]
  | false =>
    rw [cf, bs]
    all_goals rfl
theorem take_ok (c : UInt8) (q : Bool) (k : GKeys) (M : Nat → Int) (b : Str) (ls : List Str) (ec : Str) (hb : b.length ≤ 1023) (hl : ls.length ≤ 900000) (he : ec.length ≤ 90000000) :
    f54 c q k.Levels k.Chars M b ls ec = some (pkT k M ls ec (tk k M c b q)) := by
  unfold f54 tk
  cases q with
  | true =>
    rw [ct, if_pos rfl, ins_ok c false k M b ls ec (by omega) (by omega) (by omega), bs]
    all_goals rfl
  | false =>
    rw [cf, if_neg (by simp), is_ok c 14 14 _ k M _ _ _ rfl, bs]
    simp only
    cases h14 : isB k c 14 with
    | true => rw [ct, if_pos rfl]; simp [pkT]
    | false =>
    rw [cf, if_neg (by simp), is_ok c 10 10 _ k M _ _ _ rfl, bs]
    simp only
    cases h10 : isB k c 10 with
    | true =>
      rw [ct, if_pos rfl]
      have hm : (if (b.length : Int) < 1 then (b.length : Int) else 1) = ((min 1 b.length : Nat) : Int) := by
        by_cases h : (b.length : Int) < 1
        · rw [if_pos h]; omega
        · rw [if_neg h]; omega
      rw [hm, era_ok _ _ k M b ls ec (by omega) (by omega) (by omega), bs]
      all_goals rfl
    | false =>
    rw [cf, if_neg (by simp), is_ok c 12 12 _ k M _ _ _ rfl, bs]
    simp only
    cases h12 : isB k c 12 with
    | true =>
      rw [ct, if_pos rfl]
      obtain ⟨w1, w2⟩ := word_le b
      have hs : (Lib.trimRightB b 32).length ≤ b.length := by
        unfold Lib.trimRightB
        rw [List.length_reverse]
        have := (List.dropWhile_sublist (l := b.reverse) (fun x => x == (32 : UInt8))).length_le
        rw [List.length_reverse] at this
        exact this
      have hT : libTrimRight b [32] = some (Lib.trimRightB b 32) := by
        unfold libTrimRight
        simp only
        rw [if_pos (by refine ⟨by decide, by omega⟩)]
      have hL : libLastIndexByte (Lib.trimRightB b 32) 32 = some (Lib.lastIndexByte ⟨(Lib.trimRightB b 32).toArray⟩ (((32 : UInt8).toNat : Nat) : Int)) := by
        unfold libLastIndexByte
        rw [if_pos (by omega)]
      rw [hT, bs, hL, bs]
      generalize Lib.lastIndexByte ⟨(Lib.trimRightB b 32).toArray⟩ (((32 : UInt8).toNat : Nat) : Int) = li at *
      have hw : IntKind.i64.wrap (IntKind.i64.wrap ((b.length : Int) - li) - 1) = (wordN b : Int) := by
        rw [i64w ((b.length : Int) - li) (by omega), i64w _ (by omega)]; omega
      rw [hw, era_ok _ _ k M b ls ec (by omega) w1 (by omega), bs]
      all_goals rfl
    | false =>
    rw [cf, if_neg (by simp), is_ok c 11 11 _ k M _ _ _ rfl, bs]
    simp only
    cases h11 : isB k c 11 with
    | true =>
      rw [ct, if_pos rfl, era_ok _ _ k M b ls ec (by omega) (Nat.le_refl _) (by omega), bs]
      all_goals rfl
    | false =>
    rw [cf, if_neg (by simp), is_ok c 13 13 _ k M _ _ _ rfl, bs]
    simp only
    cases h13 : isB k c 13 with
    | true =>
      rw [ct, if_pos rfl, app_ok 1 _ _ (by simp; omega), bs, app_ok 1 _ _ (by simp; omega), bs]
      simp [pkT]
    | false =>
    rw [cf, if_neg (by simp)]
    by_cases c13 : c.toNat = 13
    · rw [decide_eq_true (by omega), ct, end_ok _ _ _ _ _ _ _ _ _ k M b ls ec true hb hl (by omega), if_pos rfl, if_pos (.inl c13)]
    rw [decide_eq_false (by omega), cf]
    by_cases c10 : c.toNat = 10
    · rw [decide_eq_true (by omega), ct, end_ok _ _ _ _ _ _ _ _ _ k M b ls ec true hb hl (by omega), if_pos rfl, if_pos (.inr (.inl c10))]
    rw [decide_eq_false (by omega), cf, is_ok c 17 17 _ k M _ _ _ rfl, bs]
    simp only
    cases h17 : isB k c 17 with
    | true => rw [ct, end_ok _ _ _ _ _ _ _ _ _ k M b ls ec true hb hl (by omega), if_pos rfl, if_pos (.inr (.inr (.inl rfl)))]
    | false =>
    rw [cf, is_ok c 18 18 _ k M _ _ _ rfl, bs]
    simp only
    cases h18 : isB k c 18 with
    | true => rw [ct, end_ok _ _ _ _ _ _ _ _ _ k M b ls ec true hb hl (by omega), if_pos rfl, if_pos (.inr (.inr (.inr (.inl rfl))))]
    | false =>
    rw [cf, has_ok, bs, end_ok _ _ _ _ _ _ _ _ _ k M b ls ec _ hb hl (by omega)]
    cases hh : hasM M c with
    | true => rw [if_pos rfl, if_pos (.inr (.inr (.inr (.inr rfl))))]
    | false => rw [if_neg (by simp), if_neg (by simp [c13, c10])]
theorem ins_len (c : UInt8) (b : Str) (hb : b.length ≤ 1023) : (ins c b).1.length ≤ 1023 ∧ (ins c b).2.1.length ≤ 1 := by
  unfold ins
  split
  · rename_i h; exact ⟨by show (b ++ [c]).length ≤ 1023; omega, by simp⟩
  · exact ⟨by simp, by simp⟩
theorem tk_len (k : GKeys) (M : Nat → Int) (c : UInt8) (b : Str) (q : Bool) (hb : b.length ≤ 1023) : (tk k M c b q).b.length ≤ 1023 ∧ (tk k M c b q).l.length ≤ 2 ∧ (tk k M c b q).e.length ≤ 4000 := by
  obtain ⟨i1, i2⟩ := ins_len c b hb
  have hput : ∀ q, (put c b q).b.length ≤ 1023 ∧ (put c b q).l.length ≤ 2 ∧ (put c b q).e.length ≤ 4000 := fun q => ⟨i1, by show (ins c b).2.1.length ≤ 2; omega, by simp [put]⟩
  have hera : ∀ n q, n ≤ b.length → (era n b q).b.length ≤ 1023 ∧ (era n b q).l.length ≤ 2 ∧ (era n b q).e.length ≤ 4000 := fun n q hn => by
    have := rep_len n
    exact ⟨by simp [era]; omega, by simp [era], by show (Lib.repeatL [8, 32, 8] n).length ≤ 4000; omega⟩
  unfold tk
  split
  · exact hput false
  split
  · exact ⟨hb, by simp, by simp⟩
  split
  · exact hera _ _ (by omega)
  split
  · exact hera _ _ (word_le b).1
  split
  · exact hera _ _ (Nat.le_refl _)
  split
  · exact ⟨hb, by simp, by simp; omega⟩
  split
  · unfold putN
    split
    · exact hput q
    · exact ⟨by simp, by simp; omega, by simp⟩
  · exact hput q
/-- Bytes taken one by one. -/
def tks (k : GKeys) (M : Nat → Int) : Str → Str → Bool → Tk
  | [], b, q => ⟨b, q, [], []⟩
  | c :: t, b, q => ⟨(tks k M t (tk k M c b q).b (tk k M c b q).q).b, (tks k M t (tk k M c b q).b (tk k M c b q).q).q, (tk k M c b q).l ++ (tks k M t (tk k M c b q).b (tk k M c b q).q).l, (tk k M c b q).e ++ (tks k M t (tk k M c b q).b (tk k M c b q).q).e⟩
theorem tks_app (k : GKeys) (M : Nat → Int) : ∀ (x y b : Str) (q : Bool), tks k M (x ++ y) b q = ⟨(tks k M y (tks k M x b q).b (tks k M x b q).q).b, (tks k M y (tks k M x b q).b (tks k M x b q).q).q, (tks k M x b q).l ++ (tks k M y (tks k M x b q).b (tks k M x b q).q).l, (tks k M x b q).e ++ (tks k M y (tks k M x b q).b (tks k M x b q).q).e⟩
  | [], y, b, q => by simp [tks]
  | c :: x, y, b, q => by
    rw [List.cons_append]
    simp only [tks]
    rw [tks_app k M x y]
    simp
theorem tks_len (k : GKeys) (M : Nat → Int) : ∀ (x b : Str) (q : Bool), b.length ≤ 1023 → (tks k M x b q).b.length ≤ 1023 ∧ (tks k M x b q).l.length ≤ 2 * x.length ∧ (tks k M x b q).e.length ≤ 4000 * x.length
  | [], b, q, hb => ⟨hb, by simp [tks], by simp [tks]⟩
  | c :: t, b, q, hb => by
    obtain ⟨h1, h2, h3⟩ := tk_len k M c b q hb
    obtain ⟨g1, g2, g3⟩ := tks_len k M t (tk k M c b q).b (tk k M c b q).q h1
    refine ⟨g1, ?_, ?_⟩
    · simp only [tks, List.length_append, List.length_cons]; omega
    · simp only [tks, List.length_append, List.length_cons]; omega
theorem type_loop (a1 : GEditor) (k : GKeys) (M : Nat → Int) (a : Str) (ha : a.length ≤ 4096) : ∀ (suf pre b : Str) (q : Bool) (ls : List Str) (ec : Str), a = pre ++ suf → b.length ≤ 1023 → ls.length ≤ 2 * pre.length → ec.length ≤ 4000 * pre.length →
    loopO (f24_l4 a1 k (GMask.mk M) a) (b, q, k.Levels, k.Chars, M, ls, ec, (pre.length : Int)) = some (pkT k M ls ec (tks k M suf b q))
  | [], pre, b, q, ls, ec, e, hb, hl, he => loopO_done (by
      subst e
      unfold f24_l4 f24_l4_j5
      simp only [lt_end, cond_false]
      simp [tks, pkT])
  | c :: t, pre, b, q, ls, ec, e, hb, hl, he => by
    have hp : pre.length < 1000000000 := by rw [e] at ha; simp at ha; omega
    have hp2 : pre.length ≤ 4096 := by rw [e] at ha; simp at ha; omega
    have hx : idx a (pre.length : Int) = some c := by rw [e]; exact idx_mid pre c t
    have hlt : decide ((pre.length : Int) < (a.length : Int)) = true := by rw [e]; exact lt_mid pre c t
    obtain ⟨h1, h2, h3⟩ := tk_len k M c b q hb
    have ih := type_loop a1 k M a ha t (pre ++ [c]) (tk k M c b q).b (tk k M c b q).q (ls ++ (tk k M c b q).l) (ec ++ (tk k M c b q).e) (by rw [e]; simp) h1 (by simp; omega) (by simp; omega)
    have er : pkT k M ls ec (tks k M (c :: t) b q) = pkT k M (ls ++ (tk k M c b q).l) (ec ++ (tk k M c b q).e) (tks k M t (tk k M c b q).b (tk k M c b q).q) := by simp [pkT, tks]
    rw [er]
    refine loopO_next ?_ ih
    unfold f24_l4 f24_l4_j5 f24_l4_j6
    simp only [hlt, cond_true]
    rw [hx, bs, take_ok c q k M b ls ec hb (by omega) (by omega), bs, wrap_nx pre c hp]
    all_goals rfl
theorem keys_tot (k : GKeys) : ∃ z, f53 k = some z := by
  have hl : ∀ (n i : Nat), i + n = 19 → ∃ r, loopO (f53_l1 k) (i : Int) = some r := by
    intro n
    induction n with
    | zero =>
      intro i hi
      refine ⟨_, loopO_done (r := .inl ()) ?_⟩
      unfold f53_l1 f53_l1_j2
      rw [decide_eq_false (by omega), cf, cf]
    | succ n ih =>
      intro i hi
      by_cases h2 : 2 < (k.Levels i).toNat
      · refine ⟨_, loopO_done (r := .inr 4) ?_⟩
        unfold f53_l1 f53_l1_j2 f53_l1_j3
        rw [decide_eq_true (by omega), ct, ct, inR_nat i 19 (by omega), bs, decide_eq_true (by omega), ct]
      · obtain ⟨r, hr⟩ := ih (i + 1) (by omega)
        refine ⟨r, loopO_next (y := ((i + 1 : Nat) : Int)) ?_ hr⟩
        unfold f53_l1 f53_l1_j2 f53_l1_j3
        rw [decide_eq_true (by omega), ct, ct, inR_nat i 19 (by omega), bs, decide_eq_false (by omega), cf, i64w _ (by omega)]; rfl
  obtain ⟨r, hr⟩ := hl 19 0 rfl
  rw [show ((0 : Nat) : Int) = 0 from rfl] at hr
  unfold f53
  rw [hr, bs]
  cases r with
  | inr z => exact ⟨z, rfl⟩
  | inl u =>
    rw [Sum.elim_inl]
    unfold f53_j0
    cases (!decide (((k.Levels 0).toNat : Int) = 0)) with
    | true => exact ⟨4, rfl⟩
    | false =>
      rw [cf]
      cases (!decide (((k.Chars 0).toNat : Int) = 0)) with
      | true => exact ⟨4, rfl⟩
      | false => exact ⟨0, rfl⟩
def typA (e : GEditor) (k : GKeys) (M : Nat → Int) (a : Str) : GEditor × List Str × Str × Int := (⟨(tks k M a e.Buf e.Quote).b, (tks k M a e.Buf e.Quote).q⟩, (tks k M a e.Buf e.Quote).l, (tks k M a e.Buf e.Quote).e, 0)
theorem type_ok (e : GEditor) (k : GKeys) (M : Nat → Int) (a : Str) (hk : f53 k = some 0) (hb : e.Buf.length ≤ 1023) (ha : a.length ≤ 4096) : f24 e k (GMask.mk M) a = some (typA e k M a) := by
  unfold f24 f34
  rw [decide_eq_false (by omega), cf, bs, decide_eq_true rfl, Bool.not_true, cf]
  unfold f24_j0
  rw [hk, bs, decide_eq_true rfl, Bool.not_true, cf]
  unfold f24_j1
  rw [decide_eq_false (by omega), cf]
  unfold f24_j2
  have h := type_loop e k M a ha a [] e.Buf e.Quote [] [] rfl hb (by simp) (by simp)
  rw [show ((([] : Str).length : Nat) : Int) = 0 from rfl] at h
  rw [chk_ok (by simp; omega), bs, h, bs]
  unfold f24_j3 pkT typA
  simp
theorem type_no (e : GEditor) (k : GKeys) (M : Nat → Int) (a : Str) (h : ¬ (f53 k = some 0 ∧ e.Buf.length ≤ 1023 ∧ a.length ≤ 4096)) : ∃ z, z ≠ 0 ∧ f24 e k (GMask.mk M) a = some (e, [], [], z) := by
  unfold f24 f34
  by_cases hb : 1024 ≤ e.Buf.length
  · refine ⟨2, by decide, ?_⟩
    rw [decide_eq_true (by omega), ct, bs, decide_eq_false (by decide), Bool.not_false, ct]
  rw [decide_eq_false (by omega), cf, bs, decide_eq_true rfl, Bool.not_true, cf]
  unfold f24_j0
  obtain ⟨z, hz⟩ := keys_tot k
  rw [hz, bs]
  by_cases h0 : z = 0
  · rw [decide_eq_true h0, Bool.not_true, cf]
    unfold f24_j1
    have : 4096 < a.length := by
      rw [h0] at hz
      rcases Nat.lt_or_ge 4096 a.length with g | g
      · exact g
      · exact absurd ⟨hz, by omega, g⟩ h
    refine ⟨2, by decide, ?_⟩
    rw [decide_eq_true (by omega), ct]
  · refine ⟨z, h0, ?_⟩
    rw [decide_eq_false h0, Bool.not_false, ct]
theorem eq_loop (l : List Str) : ∀ (suf pre : List Str), l = pre ++ suf → l.length ≤ 1000000 → loopO (f26_l1 l l) (pre.length : Int) = some (.inl ())
  | [], pre, e, h => loopO_done (by
      subst e
      unfold f26_l1 f26_l1_j2
      simp only [lt_end, cond_false])
  | x :: t, pre, e, h => by
    have hp : pre.length < 1000000000 := by rw [e] at h; simp at h; omega
    have hx : idx l (pre.length : Int) = some x := by rw [e]; exact idx_mid pre x t
    have hlt : decide ((pre.length : Int) < (l.length : Int)) = true := by rw [e]; exact lt_mid pre x t
    refine loopO_next ?_ (eq_loop l t (pre ++ [x]) (by simp [e]) h)
    unfold f26_l1 f26_l1_j2 f26_l1_j3
    simp only [hlt, hx, cond_true, Option.bind_some, decide_true, Bool.not_true, cond_false]
    rw [wrap_nx pre x hp]
theorem f26_same (l : List Str) (h : l.length ≤ 1000000) : f26 l l = some true := by
  unfold f26
  rw [decide_eq_true rfl, Bool.not_true, cf]
  unfold f26_j0
  have := eq_loop l l [] rfl h
  rw [show ((([] : List Str).length : Nat) : Int) = 0 from rfl] at this
  rw [this, bs]; rfl
def K0 : GKeys := ⟨fun _ => 0, fun _ => 0⟩
def KK : GKeys := ⟨upd (upd (upd (upd (upd (fun _ => 0) 10 2) 11 2) 12 2) 13 2) 14 2, upd (upd (upd (upd (upd (fun _ => 0) 10 127) 11 21) 12 23) 13 18) 14 22⟩
theorem keys_ok : f28 = some KK := by
  unfold f28
  rw [loopO_of (n := 7) (by rfl : loopF f28_l0 7 (K0, K0, 0) = some (K0, KK)) |> fun h => (h : loopO f28_l0 (GKeys.mk (fun _ => 0) (fun _ => 0), GKeys.mk (fun _ => 0) (fun _ => 0), 0) = some (K0, KK)), bs]
theorem keys_good : f53 KK = some 0 := by
  unfold f53
  rw [loopO_of (n := 21) (by kernel_rfl : loopF (f53_l1 KK) 21 0 = some (.inl ())), bs, Sum.elim_inl]
  all_goals rfl
theorem lives : f25 = some true := by
  unfold f25
  have h := type_ok ⟨[], false⟩ KK (fun _ => 0) [108, 120, 127, 115, 32, 45, 108, 13, 120] keys_good (by simp) (by simp)
  have h2 : typA ⟨[], false⟩ KK (fun _ => 0) [108, 120, 127, 115, 32, 45, 108, 13, 120] = (⟨[120], false⟩, [[108, 115, 32, 45, 108, 13]], [108, 120, 8, 32, 8, 115, 32, 45, 108, 13, 120], 0) := by kernel_rfl
  rw [h2] at h
  rw [keys_ok, bs, h, bs]
  simp only [decide_true, cond_true]
  rw [f26_same _ (by simp), bs, ct]
theorem clone_s (l : List Str) (h : l.length ≤ 1000000) : f27 l = some l := by
  unfold f27
  rw [app_ok 16 [] l (by simp; omega), bs]; rfl
theorem u64w (n : Nat) (h : n < 18446744073709551616) : IntKind.u64.wrap (n : Int) = (n : Int) := IntWalk.u64_in n (by omega)
theorem chk_nat (n : Nat) : chk (decide ((0 : Int) ≤ (n : Int))) = some () := by unfold chk; rw [if_pos (decide_eq_true (by omega))]
theorem ofI (n : Nat) (h : n < 18446744073709551616) : (BitVec.ofInt 64 (n : Int)).toNat = n := by
  rw [BitVec.ofInt_natCast, BitVec.toNat_ofNat]; exact Nat.mod_eq_of_lt h
theorem bit_and1 (a : Nat) (ha : a < 18446744073709551616) : bitI .and .u64 (a : Int) 1 = ((a % 2 : Nat) : Int) := by
  show IntKind.u64.wrap ((BitVec.ofInt 64 (a : Int) &&& BitVec.ofInt 64 ((1 : Nat) : Int)).toNat : Int) = ((a % 2 : Nat) : Int)
  rw [BitVec.toNat_and, ofI a ha, ofI 1 (by omega), Nat.and_one_is_mod, u64w _ (by omega)]
def inW (m : GMask) : Prop := ∀ i, i < 4 → ∃ n : Nat, m.Bits i = (n : Int) ∧ n < 18446744073709551616
def has (m : GMask) (c : Nat) : Bool := (m.Bits (c / 64)).toNat.testBit (c % 64)
theorem d64 (c : UInt8) : (c / (64 : UInt8)).toNat = c.toNat / 64 ∧ (c % (64 : UInt8)).toNat = c.toNat % 64 := ⟨UInt8.toNat_div c 64, UInt8.toNat_mod c 64⟩
theorem f15_eq (m : GMask) (c : UInt8) (h : inW m) : f15 m c = some (has m c.toNat) := by
  have hc := c.toNat_lt
  obtain ⟨e1, e2⟩ := d64 c
  obtain ⟨n, hn, hl⟩ := h (c.toNat / 64) (by omega)
  have hmin : min (((c.toNat % 64 : Nat) : Int)).toNat 64 = c.toNat % 64 := by simp; omega
  have hq : n / 2 ^ (c.toNat % 64) < 18446744073709551616 := Nat.lt_of_le_of_lt (Nat.div_le_self _ _) hl
  unfold f15 has
  rw [e1, e2, inR_nat _ 4 (by omega)]
  simp only [Option.bind_some, chk_nat]
  rw [hmin, hn, show ((2 : Int) ^ (c.toNat % 64)) = ((2 ^ (c.toNat % 64) : Nat) : Int) from (Int.natCast_pow 2 _).symm, ← Int.ofNat_fdiv, bit_and1 _ hq, Int.toNat_natCast, Nat.testBit_eq_decide_div_mod_eq]
  by_cases hb : n / 2 ^ (c.toNat % 64) % 2 = 1
  · rw [decide_eq_true (p := ((n / 2 ^ (c.toNat % 64) % 2 : Nat) : Int) = 1) (by omega), decide_eq_true hb]; rfl
  · rw [decide_eq_false (p := ((n / 2 ^ (c.toNat % 64) % 2 : Nat) : Int) = 1) (by omega), decide_eq_false hb]; rfl
theorem pow_lt (j : Nat) (h : j < 64) : 2 ^ j < 18446744073709551616 := Nat.pow_lt_pow_right (by decide) h
theorem hasM_eq (m : GMask) (c : UInt8) (h : inW m) : hasM m.Bits c = has m c.toNat := by
  have h1 := f15_eq m c h
  have h2 := has_ok m.Bits c
  rw [show GMask.mk m.Bits = m from rfl, h1] at h2
  exact (Option.some.inj h2).symm
theorem inmask_ok (m : GMask) (c : UInt8) (h : inW m) : f31 m (c.toNat : Int) = some (has m c.toNat) := by
  have hc := c.toNat_lt
  obtain ⟨n, hn, hl⟩ := h (c.toNat / 64) (by omega)
  have hp := pow_lt (c.toNat % 64) (by omega)
  have hp0 : 0 < 2 ^ (c.toNat % 64) := Nat.pow_pos (by decide)
  have t1 : Int.tdiv (c.toNat : Int) 64 = ((c.toNat / 64 : Nat) : Int) := (Int.ofNat_tdiv c.toNat 64).symm
  have t2 : Int.tmod (c.toNat : Int) 64 = ((c.toNat % 64 : Nat) : Int) := (Int.ofNat_tmod c.toNat 64).symm
  have hmin : min (((c.toNat % 64 : Nat) : Int)).toNat 64 = c.toNat % 64 := by simp; omega
  have hw : IntKind.u64.wrap (1 * 2 ^ (c.toNat % 64)) = ((2 ^ (c.toNat % 64) : Nat) : Int) := by
    rw [Int.one_mul, show ((2 : Int) ^ (c.toNat % 64)) = ((2 ^ (c.toNat % 64) : Nat) : Int) from (Int.natCast_pow 2 _).symm, u64w _ hp]
  have hq : n / 2 ^ (c.toNat % 64) < 18446744073709551616 := Nat.lt_of_le_of_lt (Nat.div_le_self _ _) hl
  have t3 : Int.tdiv (n : Int) ((2 ^ (c.toNat % 64) : Nat) : Int) = ((n / 2 ^ (c.toNat % 64) : Nat) : Int) := (Int.ofNat_tdiv _ _).symm
  have t4 : Int.tmod ((n / 2 ^ (c.toNat % 64) : Nat) : Int) 2 = ((n / 2 ^ (c.toNat % 64) % 2 : Nat) : Int) := (Int.ofNat_tmod _ 2).symm
  unfold f31 has
  rw [t1, t2, i64w _ (by omega), inR_nat _ 4 (by omega), bs, chk_nat, bs, hmin, hw, chk_ok (by rw [decide_eq_false (by omega)]; rfl), bs, hn, t3, u64w _ hq, t4, Int.toNat_natCast, Nat.testBit_eq_decide_div_mod_eq]
  by_cases hb : n / 2 ^ (c.toNat % 64) % 2 = 1
  · rw [decide_eq_true (p := ((n / 2 ^ (c.toNat % 64) % 2 : Nat) : Int) = 1) (by omega), decide_eq_true hb]; rfl
  · rw [decide_eq_false (p := ((n / 2 ^ (c.toNat % 64) % 2 : Nat) : Int) = 1) (by omega), decide_eq_false hb]; rfl
theorem key_ok (k : GKeys) (n : Int) (m : Nat) (h : inR n 19 = some m) (c : UInt8) : ∃ z, f32 k n = some z ∧ decide ((c.toNat : Int) = z) = isB k c m := by
  unfold f32 isB
  rw [h, bs, bs]
  by_cases h0 : (k.Levels m).toNat = 0
  · refine ⟨-1, ?_, ?_⟩
    · rw [decide_eq_true (p := ((k.Levels m).toNat : Int) = 0) (by omega), ct]
    · rw [decide_eq_true h0, decide_eq_false (by omega)]; rfl
  · refine ⟨((k.Chars m).toNat : Int), ?_, ?_⟩
    · rw [decide_eq_false (p := ((k.Levels m).toNat : Int) = 0) (by omega), cf]
    · rw [decide_eq_false h0, Bool.not_false, Bool.true_and]
      by_cases h1 : (k.Chars m).toNat = c.toNat
      · rw [decide_eq_true h1, decide_eq_true (by omega)]
      · rw [decide_eq_false h1, decide_eq_false (by omega)]
/-- A byte that ends a line. -/
def endB (k : GKeys) (m : GMask) (c : UInt8) : Bool := decide (c.toNat = 13) || (decide (c.toNat = 10) || (has m c.toNat || (isB k c 17 || isB k c 18)))
theorem end_B (k : GKeys) (m : GMask) (c : UInt8) (h : inW m) : f30 c m [] k [] = some (endB k m c) := by
  unfold f30 endB
  obtain ⟨z1, a1, b1⟩ := key_ok k 17 17 rfl c
  obtain ⟨z2, a2, b2⟩ := key_ok k 18 18 rfl c
  rw [inmask_ok m c h, a1, a2]
  by_cases h13 : c.toNat = 13
  · rw [decide_eq_true (p := (c.toNat : Int) = 13) (by omega), decide_eq_true h13, ct]; rfl
  rw [decide_eq_false (p := (c.toNat : Int) = 13) (by omega), decide_eq_false h13, cf]
  by_cases h10 : c.toNat = 10
  · rw [decide_eq_true (p := (c.toNat : Int) = 10) (by omega), decide_eq_true h10, ct]; rfl
  rw [decide_eq_false (p := (c.toNat : Int) = 10) (by omega), decide_eq_false h10, cf, bs]
  cases has m c.toNat with
  | true => rfl
  | false =>
    rw [cf, bs, b1]
    cases isB k c 17 with
    | true => rfl
    | false =>
      rw [cf, bs, b2]
      cases isB k c 18 <;> rfl
def specK (k : GKeys) (c : UInt8) : Bool := isB k c 10 || (isB k c 11 || (isB k c 12 || (isB k c 13 || isB k c 14)))
theorem spec_ok (k : GKeys) (c : UInt8) : f29 k c = some (specK k c) := by
  have st : ∀ (i f : Nat), ([10, 11, 12, 13, 14] : List Int)[i]? = some (f : Int) → i < 5 → f < 19 → f29_l0 k c (i : Int) = some (bif isB k c f then .inr (.inr true) else .inl ((i + 1 : Nat) : Int)) := by
    intro i f h1 h2 h3
    unfold f29_l0 f29_l0_j1 f29_l0_j2 isB
    have hle : (([10, 11, 12, 13, 14] : List Int).length) = 5 := rfl
    rw [decide_eq_true (by rw [hle]; omega), ct, ct, inR_nat i _ (by rw [hle]; omega), bs, h1, bs, inR_nat f 19 h3, bs, bs, i64w _ (by omega)]
    by_cases h0 : (k.Levels f).toNat = 0
    · rw [decide_eq_true (p := ((k.Levels f).toNat : Int) = 0) (by omega), decide_eq_true h0]; rfl
    · rw [decide_eq_false (p := ((k.Levels f).toNat : Int) = 0) (by omega), decide_eq_false h0, Bool.not_false, ct, Bool.true_and]
      by_cases hc : (k.Chars f).toNat = c.toNat
      · rw [decide_eq_true hc, decide_eq_true (p := ((k.Chars f).toNat : Int) = (c.toNat : Int)) (by omega)]; rfl
      · rw [decide_eq_false hc, decide_eq_false (p := ((k.Chars f).toNat : Int) = (c.toNat : Int)) (by omega)]; rfl
  have s0 := st 0 10 rfl (by omega) (by omega)
  have s1 := st 1 11 rfl (by omega) (by omega)
  have s2 := st 2 12 rfl (by omega) (by omega)
  have s3 := st 3 13 rfl (by omega) (by omega)
  have s4 := st 4 14 rfl (by omega) (by omega)
  have s5 : f29_l0 k c ((5 : Nat) : Int) = some (.inr (.inl ())) := by
    unfold f29_l0 f29_l0_j1
    rw [decide_eq_false (by decide), cf, cf]
  have go : ∀ (i : Nat) (v x : Bool), f29_l0 k c (i : Int) = some (bif v then .inr (.inr true) else .inl ((i + 1 : Nat) : Int)) → loopO (f29_l0 k c) ((i + 1 : Nat) : Int) = some (if x = true then .inr true else .inl ()) → loopO (f29_l0 k c) (i : Int) = some (if (v || x) = true then .inr true else .inl ()) := by
    intro i v x h1 h2
    cases v with
    | true =>
      rw [Bool.true_or, if_pos rfl]
      exact loopO_done h1
    | false =>
      rw [Bool.false_or]
      exact loopO_next h1 h2
  have l5 : loopO (f29_l0 k c) ((4 + 1 : Nat) : Int) = some (if false = true then .inr true else .inl ()) := loopO_done s5
  have l0 := go 0 _ _ s0 (go 1 _ _ s1 (go 2 _ _ s2 (go 3 _ _ s3 (go 4 _ _ s4 l5))))
  rw [Bool.or_false, show ((0 : Nat) : Int) = 0 from rfl] at l0
  unfold f29
  rw [l0, bs]
  have e : (isB k c 10 || (isB k c 11 || (isB k c 12 || (isB k c 13 || isB k c 14)))) = specK k c := rfl
  rw [e]
  cases specK k c <;> rfl
theorem tk_pl (k : GKeys) (m : GMask) (c : UInt8) (b : Str) (hm : inW m) (h : specK k c = false) (hb : b.length ≤ 1023) :
    tk k m.Bits c b false = if endB k m c = true ∨ 1024 ≤ (b ++ [c]).length then ⟨[], false, [b ++ [c]], [c]⟩ else ⟨b ++ [c], false, [], [c]⟩ := by
  unfold specK at h
  simp only [Bool.or_eq_false_iff] at h
  obtain ⟨h10, h11, h12, h13, h14⟩ := h
  unfold tk
  rw [if_neg (by simp), h14, h10, h12, h11, h13, if_neg (by simp), if_neg (by simp), if_neg (by simp), if_neg (by simp), if_neg (by simp)]
  have he : (c.toNat = 13 ∨ c.toNat = 10 ∨ isB k c 17 = true ∨ isB k c 18 = true ∨ hasM m.Bits c = true) ↔ endB k m c = true := by
    unfold endB
    rw [hasM_eq m c hm]
    simp only [Bool.or_eq_true, decide_eq_true_eq]
    constructor
    · rintro (h | h | h | h | h) <;> simp [h]
    · rintro (h | h | h | h | h) <;> simp [h]
  by_cases hl : (b ++ [c]).length < 1024
  · have hi : ins c b = (b ++ [c], [], false) := by unfold ins; rw [if_pos hl]
    by_cases hee : endB k m c = true
    · rw [if_pos (he.2 hee), if_pos (.inl hee)]
      unfold putN
      rw [hi]
      rfl
    · rw [if_neg (fun h => hee (he.1 h)), if_neg (by rintro (h | h); exact hee h; omega)]
      unfold put
      rw [hi]
  · have hi : ins c b = ([], [b ++ [c]], true) := by unfold ins; rw [if_neg hl]
    rw [if_pos (c := endB k m c = true ∨ 1024 ≤ (b ++ [c]).length) (.inr (by omega))]
    have hp : put c b false = ⟨[], false, [b ++ [c]], [c]⟩ := by unfold put; rw [hi]
    split
    · unfold putN
      rw [hi]
      exact hp
    · exact hp
structure GoodL (k : GKeys) (m : GMask) (t : Str) : Prop where
  ne : ∃ u c, t = u ++ [c] ∧ (∀ y ∈ u, endB k m y = false) ∧ (endB k m c = true ∨ t.length = 1024)
theorem tks_pl (k : GKeys) (m : GMask) (hm : inW m) : ∀ (x b : Str), (∀ c ∈ x, specK k c = false) → b.length ≤ 1023 → (∀ c ∈ b, endB k m c = false) →
    (tks k m.Bits x b false).q = false ∧ (tks k m.Bits x b false).e = x ∧ (tks k m.Bits x b false).l.flatten ++ (tks k m.Bits x b false).b = b ++ x ∧ (∀ c ∈ (tks k m.Bits x b false).b, endB k m c = false) ∧ ∀ t ∈ (tks k m.Bits x b false).l, GoodL k m t
  | [], b, h, hl, hb => by simpa [tks] using hb
  | c :: x, b, h, hl, hb => by
    have hx := fun y hy => h y (List.mem_cons_of_mem _ hy)
    have e := tk_pl k m c b hm (h c (by simp)) hl
    simp only [tks]
    by_cases hc : endB k m c = true ∨ 1024 ≤ (b ++ [c]).length
    · rw [if_pos hc] at e
      rw [e]
      simp only
      obtain ⟨g1, g2, g3, g4, g5⟩ := tks_pl k m hm x [] hx (by simp) (by simp)
      refine ⟨g1, by rw [g2]; rfl, ?_, g4, fun t ht => ?_⟩
      · rw [List.cons_append, List.nil_append, List.flatten_cons, List.append_assoc, g3]; simp
      · rcases List.mem_append.1 ht with ht | ht
        · simp at ht
          subst ht
          refine ⟨⟨b, c, rfl, hb, ?_⟩⟩
          rcases hc with hc | hc
          · exact .inl hc
          · refine .inr ?_
            simp at hc ⊢; omega
        · exact g5 t ht
    · rw [if_neg hc] at e
      rw [e]
      simp only
      have hc1 : endB k m c = false := by
        cases hh : endB k m c with
        | false => rfl
        | true => exact absurd (.inl hh) hc
      obtain ⟨g1, g2, g3, g4, g5⟩ := tks_pl k m hm x (b ++ [c]) hx (by
        rcases Nat.lt_or_ge (b ++ [c]).length 1024 with g | g
        · omega
        · exact absurd (.inr g) hc) (fun y hy => by
          rcases List.mem_append.1 hy with hy | hy
          · exact hb y hy
          · simp at hy; subst hy; exact hc1)
      refine ⟨g1, by rw [g2]; rfl, ?_, g4, fun t ht => ?_⟩
      · rw [List.nil_append, g3]; simp
      · rw [List.nil_append] at ht; exact g5 t ht
theorem inR0 (i n : Nat) (h : i < n) : inR (i : Int) n = some i := inR_nat i n h
/-- The law's loops. -/
theorem spec_loop (k : GKeys) (m : GMask) (a : Str) (e : GEditor) (l : List Str) (s : Str) (ha : a.length ≤ 1000000) : ∀ suf pre : Str, a = pre ++ suf →
    loopO (f9_l12 k m a) (e, l, s, (pre.length : Int)) = some (if suf.any (specK k) = true then .inr true else .inl (e, l, s))
  | [], pre, h => loopO_done (by
      subst h
      unfold f9_l12 f9_l12_j13
      simp only [lt_end, cond_false]; rfl)
  | c :: t, pre, h => by
    have hp : pre.length < 1000000000 := by rw [h] at ha; simp at ha; omega
    have hx : idx a (pre.length : Int) = some c := by rw [h]; exact idx_mid pre c t
    have hlt : decide ((pre.length : Int) < (a.length : Int)) = true := by rw [h]; exact lt_mid pre c t
    have ih := spec_loop k m a e l s ha t (pre ++ [c]) (by rw [h]; simp)
    rw [List.any_cons]
    cases hs : specK k c with
    | true =>
      rw [Bool.true_or, if_pos rfl]
      refine loopO_done ?_
      unfold f9_l12 f9_l12_j13 f9_l12_j14
      simp only [hlt, cond_true]
      rw [hx, bs, spec_ok, bs, hs, ct]
    | false =>
      rw [Bool.false_or]
      refine loopO_next ?_ ih
      unfold f9_l12 f9_l12_j13 f9_l12_j14
      simp only [hlt, cond_true]
      rw [hx, bs, spec_ok, bs, hs, cf, wrap_nx pre c hp]
theorem in_loop (k : GKeys) (m : GMask) (hm : inW m) (a : Str) (e : GEditor) (l : List Str) (s : Str) (L : List Str) (p q : Int) (t : Str) (ht : t.length ≤ 1000000) (hg : ∀ u c, t = u ++ [c] → ∀ y ∈ u, endB k m y = false) : ∀ suf pre : Str, t = pre ++ suf → (suf ≠ [] ∨ t = []) →
    loopO (f9_l7_l10 k m a) (e, l, s, t, (pre.length : Int), L, p, q) = some (.inl (e, l, s, L, p, q))
  | [], pre, h, hne => by
    have h0 : t = [] := hne.resolve_left (fun h => h rfl)
    have hp0 : pre = [] := by rw [h0] at h; simp at h; exact h
    subst hp0
    subst h0
    refine loopO_done ?_
    unfold f9_l7_l10
    simp only
    rw [decide_eq_false (by decide), cf]
  | [c], pre, h, hne => by
    have hp : pre.length < 1000000000 := by rw [h] at ht; simp at ht; omega
    refine loopO_done ?_
    unfold f9_l7_l10
    simp only
    rw [i64w _ (by omega), decide_eq_false (by rw [h]; simp), cf]
  | c :: d :: u, pre, h, hne => by
    have hp : pre.length < 1000000000 := by rw [h] at ht; simp at ht; omega
    have hx : idx t (pre.length : Int) = some c := by rw [h]; exact idx_mid pre c (d :: u)
    have ih := in_loop k m hm a e l s L p q t ht hg (d :: u) (pre ++ [c]) (by rw [h]; simp) (.inl (by simp))
    have hc : endB k m c = false := by
      refine hg (pre ++ c :: (d :: u).dropLast) ((d :: u).getLast (by simp)) ?_ c (by simp)
      rw [h]
      have := (List.dropLast_concat_getLast (l := d :: u) (by simp)).symm
      conv => lhs; rw [this]
      simp
    refine loopO_next ?_ ih
    unfold f9_l7_l10 f9_l7_l10_j11
    simp only
    rw [wrap_nx pre c hp, decide_eq_true (by rw [h]; simp; omega), ct, hx, bs, end_B k m c hm, bs, hc, cf]
theorem mid_loop (k : GKeys) (m : GMask) (hm : inW m) (a : Str) (e : GEditor) (l : List Str) (s : Str) (L : List Str) (hL : L.length ≤ 1000000) (ht : ∀ t ∈ L, t.length ≤ 1000000 ∧ ∀ u c, t = u ++ [c] → ∀ y ∈ u, endB k m y = false) : ∀ suf pre : List Str, L = pre ++ suf →
    loopO (f9_l7 k m a) (e, l, s, L, (L.length : Int), (pre.length : Int)) = some (.inl (e, l, s))
  | [], pre, h => loopO_done (by
      subst h
      unfold f9_l7 f9_l7_j8
      simp only [lt_end, cond_false])
  | z :: t, pre, h => by
    have hp : pre.length < 1000000000 := by rw [h] at hL; simp at hL; omega
    have hlt : decide ((pre.length : Int) < (L.length : Int)) = true := by rw [h]; exact lt_mid pre z t
    have hgt : L[pre.length]? = some z := by rw [h]; simp
    have ih := mid_loop k m hm a e l s L hL ht t (pre ++ [z]) (by rw [h]; simp)
    obtain ⟨z1, z2⟩ := ht z (by rw [h]; simp)
    have hi := in_loop k m hm a e l s L (L.length : Int) (pre.length : Int) z z1 z2 z [] rfl (by cases z with | nil => exact .inr rfl | cons _ _ => exact .inl (by simp))
    rw [show ((([] : Str).length : Nat) : Int) = 0 from rfl] at hi
    refine loopO_next ?_ ih
    unfold f9_l7 f9_l7_j8 f9_l7_j9
    simp only [hlt, cond_true]
    rw [inR_nat _ _ (by rw [h]; simp), bs, hgt, bs, hi, bs, Sum.elim_inl]
    simp only
    rw [wrap_nx pre z hp]
theorem last_loop (k : GKeys) (m : GMask) (hm : inW m) (a : Str) (e : GEditor) (s : Str) (l : List Str) (hl : l.length ≤ 1000000) (hg : ∀ t ∈ l, GoodL k m t) (hs : ∀ t ∈ l, t.length ≤ 1000000) : ∀ suf pre : List Str, l = pre ++ suf →
    loopO (f9_l4 k m a) (e, l, s, (l.length : Int), (pre.length : Int)) = some (.inl (e, l, s))
  | [], pre, h => loopO_done (by
      subst h
      unfold f9_l4 f9_l4_j5
      simp only [lt_end, cond_false])
  | z :: t, pre, h => by
    have hp : pre.length < 1000000000 := by rw [h] at hl; simp at hl; omega
    have hlt : decide ((pre.length : Int) < (l.length : Int)) = true := by rw [h]; exact lt_mid pre z t
    have hgt : l[pre.length]? = some z := by rw [h]; simp
    have ih := last_loop k m hm a e s l hl hg hs t (pre ++ [z]) (by rw [h]; simp)
    obtain ⟨u, c, hz, hu, hc⟩ := (hg z (by rw [h]; simp)).ne
    have hzl := hs z (by rw [h]; simp)
    refine loopO_next ?_ ih
    unfold f9_l4 f9_l4_j5 f9_l4_j6
    simp only [hlt, cond_true]
    have hx : idx z (IntKind.i64.wrap ((z.length : Int) - 1)) = some c := by
      rw [i64w _ (by omega), hz]
      have : (((u ++ [c]).length : Nat) : Int) - 1 = (u.length : Int) := by simp
      rw [this]
      exact idx_mid u c []
    rw [inR_nat _ _ (by rw [h]; simp), bs, hgt, bs, decide_eq_false (by rw [hz]; simp), cf, hx, bs, end_B k m c hm, bs, wrap_nx pre z hp]
    rcases hc with hc | hc
    · rw [hc, Bool.not_true, cf]
    · cases endB k m c with
      | true => rw [Bool.not_true, cf]
      | false => rw [Bool.not_false, ct, decide_eq_true (by omega), Bool.not_true, cf]
theorem flat_join : ∀ l : List Str, Lib.join l [] = l.flatten
  | [] => rfl
  | x :: r => by rw [Lib.join_cons]; simp [Lib.joinTail]
theorem mem_flat_len (l : List Str) (t : Str) (h : t ∈ l) : t.length ≤ l.flatten.length := by
  obtain ⟨a, b, rfl⟩ := List.append_of_mem h
  simp; omega
theorem linePlain (k : GKeys) (m : GMask) (a : Str) (hm : inW m) : f9 k m a = some true := by
  unfold f9
  by_cases h : f53 k = some 0 ∧ (GEditor.mk [] false).Buf.length ≤ 1023 ∧ a.length ≤ 4096
  · obtain ⟨h1, h2, h3⟩ := h
    have ht := type_ok ⟨[], false⟩ k m.Bits a h1 h2 h3
    rw [show GMask.mk m.Bits = m from rfl] at ht
    rw [ht, bs, lives, bs, bs, Bool.not_true, cf]
    unfold typA
    simp only [decide_true, Bool.not_true, cond_false]
    unfold f9_j0
    have hsl := spec_loop k m a ⟨(tks k m.Bits a [] false).b, (tks k m.Bits a [] false).q⟩ (tks k m.Bits a [] false).l (tks k m.Bits a [] false).e (by omega) a [] rfl
    rw [show ((([] : Str).length : Nat) : Int) = 0 from rfl] at hsl
    rw [hsl, bs]
    cases hany : a.any (specK k) with
    | true => rw [if_pos rfl, Sum.elim_inr]
    | false =>
      rw [if_neg (by simp), Sum.elim_inl]
      have hsp : ∀ c ∈ a, specK k c = false := fun c hc => by have := List.any_eq_false.1 hany c hc; simpa using this
      obtain ⟨g1, g2, g3, g4, g5⟩ := tks_pl k m hm a [] hsp (by simp) (by simp)
      obtain ⟨d1, d2, d3⟩ := tks_len k m.Bits a [] false (by simp)
      rw [List.nil_append] at g3
      generalize tks k m.Bits a [] false = R at *
      obtain ⟨B, Q, L, E⟩ := R
      simp only at *
      subst g1
      subst g2
      have hfl : L.flatten.length ≤ 4096 := by rw [← g3] at h3; simp at h3 ⊢; omega
      have hLs : ∀ t ∈ L, t.length ≤ 1000000 := fun t ht => by have := mem_flat_len L t ht; omega
      unfold f9_j1
      rw [clone_s L (by omega), bs, app_ok 16 _ _ (by simp; omega), bs]
      have hml := mid_loop k m hm E ⟨B, false⟩ L E (L ++ [B]) (by simp; omega) (fun t ht => by
        rcases List.mem_append.1 ht with ht | ht
        · refine ⟨hLs t ht, fun u c e y hy => ?_⟩
          obtain ⟨u2, c2, e2, q2, _⟩ := (g5 t ht).ne
          rw [e] at e2
          obtain ⟨rfl, _⟩ := List.append_inj' e2 rfl
          exact q2 y hy
        · simp at ht
          subst ht
          exact ⟨by omega, fun u c e y hy => g4 y (by rw [e]; simp [hy])⟩) (L ++ [B]) [] rfl
      rw [show ((([] : List Str).length : Nat) : Int) = 0 from rfl] at hml
      rw [hml, bs, Sum.elim_inl]
      unfold f9_j2
      have hll := last_loop k m hm E ⟨B, false⟩ E L (by omega) g5 hLs L [] rfl
      rw [show ((([] : List Str).length : Nat) : Int) = 0 from rfl] at hll
      simp only
      rw [hll, bs, Sum.elim_inl]
      unfold f9_j3
      simp only
      unfold libJoin
      rw [flat_join, if_pos ⟨by omega, by omega⟩, bs, cat_ok _ _ (by omega), bs, g3]
      simp
  · obtain ⟨z, z0, hz⟩ := type_no ⟨[], false⟩ k m.Bits a h
    rw [show GMask.mk m.Bits = m from rfl] at hz
    rw [hz, bs, lives, bs, bs, Bool.not_true, cf, decide_eq_false z0, Bool.not_false, ct]
theorem u64_wf (n : Int) (h : (Lit.int .u64 n).wf = true) : 0 ≤ n ∧ n < 18446744073709551616 := by
  simp [Lit.wf, IntKind.min, IntKind.max, IntKind.signed, IntKind.bits] at h; omega
theorem LinePlain_walk (v0 v1 v2 : Value) (w : World) (h0 : Arg (some 1048576) Go.Proofs.Tryd.prog w 49 v0) (h1 : Arg (some 1048576) Go.Proofs.Tryd.prog w 25 v1) (h2 : Arg (some 1048576) Go.Proofs.Tryd.prog w 9 v2) : Calls Go.Proofs.Tryd.prog 9 #[v0, v1, v2] w fun e w' => e = .returned (.bool true) ∧ Below w.heap.size w w' :=
  LinePlain_calls (some 1048576) (fun k m a _ hm _ => linePlain k m a (fun i hi => by
    obtain ⟨h1, h2⟩ := u64_wf _ (hm i hi)
    exact ⟨(m.Bits i).toNat, (Int.toNat_of_nonneg h1).symm, by omega⟩)) v0 v1 v2 w h0 h1 h2
end Go.Proofs.YtanhpibphkblnaaDoor.Pm
