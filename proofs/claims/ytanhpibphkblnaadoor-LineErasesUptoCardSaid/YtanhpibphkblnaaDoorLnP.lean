/- Line: what typed bytes do; LineCuts, LineErases. -/
import Derived.Test.YtanhpibphkblnaaDoorDLnZ
import Derived.Test.YtanhpibphkblnaaDoorBas
namespace Go.Proofs.YtanhpibphkblnaaDoor.Pm
open Go.Proofs.YtanhpibphkblnaaDoor.Args
open Go.ChangeShapes Go.WideShapes Go.ChangeAt Go.RowKit
set_option linter.unusedVariables false
set_option linter.unusedSimpArgs false
set_option maxRecDepth 100000
abbrev Str := List UInt8
theorem inR_nat (i n : Nat) (h : i < n) : inR (i : Int) n = some i := by unfold inR; rw [if_pos (by omega)]; simp
/-- Whether a byte is the one of a function. -/
def isB (k : GKeys) (c : UInt8) (f : Nat) : Bool := (!decide ((k.Levels f).toNat = 0)) && decide ((k.Chars f).toNat = c.toNat)
theorem is_ok (c : UInt8) (n : Int) (m : Nat) (q : Bool) (k : GKeys) (M : Nat → Int) (b : Str) (ls : List Str) (ec : Str) (h : inR n 19 = some m) :
    f68 c n q k.Levels k.Chars M b ls ec = some (b, q, k.Levels, k.Chars, M, ls, ec, isB k c m) := by
  unfold f68 isB
  rw [h, bs, bs]
  by_cases h0 : (k.Levels m).toNat = 0
  · rw [decide_eq_true (p := ((k.Levels m).toNat : Int) = 0) (by omega), decide_eq_true h0]; rfl
  · rw [decide_eq_false (p := ((k.Levels m).toNat : Int) = 0) (by omega), decide_eq_false h0, Bool.not_false, ct, Bool.true_and]
    by_cases h1 : (k.Chars m).toNat = c.toNat
    · rw [decide_eq_true (p := ((k.Chars m).toNat : Int) = (c.toNat : Int)) (by omega), decide_eq_true h1, ct]
    · rw [decide_eq_false (p := ((k.Chars m).toNat : Int) = (c.toNat : Int)) (by omega), decide_eq_false h1, cf]
def hasM (M : Nat → Int) (c : UInt8) : Bool := decide ((bitI .and .u64 (Int.fdiv (M (c / (64 : UInt8)).toNat) (2 ^ (min (((c % (64 : UInt8)).toNat : Int) : Int).toNat 64))) 1) = 1)
theorem has_ok (M : Nat → Int) (c : UInt8) : f15 (GMask.mk M) c = some (hasM M c) := by
  unfold f15 hasM
  have h4 : (c / (64 : UInt8)).toNat < 4 := by
    rw [UInt8.toNat_div, show (64 : UInt8).toNat = 64 from rfl]
    have := c.toNat_lt
    omega
  rw [inR_nat _ 4 h4, bs, chk_ok (decide_eq_true (Int.natCast_nonneg _)), bs]
  cases decide ((bitI .and .u64 (Int.fdiv (M (c / (64 : UInt8)).toNat) (2 ^ (min (((c % (64 : UInt8)).toNat : Int) : Int).toNat 64))) 1) = 1) <;> rfl
/-- A byte put in. -/
def ins (c : UInt8) (b : Str) : Str × List Str × Bool := if (b ++ [c]).length < 1024 then (b ++ [c], [], false) else ([], [b ++ [c]], true)
theorem send_ok (q : Bool) (k : GKeys) (M : Nat → Int) (b : Str) (ls : List Str) (ec : Str) (hl : ls.length ≤ 1000000) : f71 q k.Levels k.Chars M b ls ec = some (q, k.Levels, k.Chars, M, ls ++ [b], ec, b) := by
  unfold f71
  rw [app_ok 16 _ _ (by simp; omega), bs]
theorem ins_ok (c : UInt8) (q : Bool) (k : GKeys) (M : Nat → Int) (b : Str) (ls : List Str) (ec : Str) (hb : b.length ≤ 1024) (hl : ls.length ≤ 1000000) (he : ec.length ≤ 100000000) :
    f67 c q k.Levels k.Chars M b ls ec = some ((ins c b).1, q, k.Levels, k.Chars, M, ls ++ (ins c b).2.1, ec ++ [c], (ins c b).2.2) := by
  unfold f67 ins
  rw [app_ok 1 b [c] (by simp; omega), bs, app_ok 1 ec [c] (by simp; omega), bs]
  by_cases h : (b ++ [c]).length < 1024
  · rw [decide_eq_true (by omega), ct, if_pos h, List.append_nil]
  · rw [decide_eq_false (by omega), cf, if_neg h, send_ok q k M _ ls _ hl, bs]
/-- A byte taken: what is in the line, whether the next is quoted, lines, what is shown. -/
structure Tk where
  b : Str
  q : Bool
  l : List Str
  e : Str
def era (n : Nat) (b : Str) (q : Bool) : Tk := ⟨b.take (b.length - n), q, [], Lib.repeatL [8, 32, 8] n⟩
def wordN (b : Str) : Nat := ((b.length : Int) - Lib.lastIndexByte ⟨(Lib.trimRightB b 32).toArray⟩ (((32 : UInt8).toNat : Nat) : Int) - 1).toNat
def put (c : UInt8) (b : Str) (q : Bool) : Tk := ⟨(ins c b).1, q, (ins c b).2.1, [c]⟩
def putN (c : UInt8) (b : Str) (q : Bool) : Tk := if (ins c b).2.2 = true then put c b q else ⟨[], q, (ins c b).2.1 ++ [(ins c b).1], [c]⟩
def tk (k : GKeys) (M : Nat → Int) (c : UInt8) (b : Str) (q : Bool) : Tk :=
  if q = true then put c b false
  else if isB k c 14 = true then ⟨b, true, [], []⟩
  else if isB k c 10 = true then era (min 1 b.length) b q
  else if isB k c 12 = true then era (wordN b) b q
  else if isB k c 11 = true then era b.length b q
  else if isB k c 13 = true then ⟨b, q, [], [13, 10] ++ b⟩
  else if c.toNat = 13 ∨ c.toNat = 10 ∨ isB k c 17 = true ∨ isB k c 18 = true ∨ hasM M c = true then putN c b q
  else put c b q
def pkT (k : GKeys) (M : Nat → Int) (ls : List Str) (ec : Str) (r : Tk) : Str × Bool × (Nat → UInt8) × (Nat → UInt8) × (Nat → Int) × List Str × Str := (r.b, r.q, k.Levels, k.Chars, M, ls ++ r.l, ec ++ r.e)
theorem rep_len (n : Nat) : (Lib.repeatL [8, 32, 8] n).length = 3 * n := by rw [Lib.repeatL_length]; simp; omega
theorem era_ok (n : Nat) (q : Bool) (k : GKeys) (M : Nat → Int) (b : Str) (ls : List Str) (ec : Str) (hb : b.length ≤ 1024) (hn : n ≤ b.length) (he : ec.length ≤ 100000000) :
    f69 (n : Int) q k.Levels k.Chars M b ls ec = some (pkT k M ls ec (era n b q)) := by
  unfold f69
  have hr := rep_len n
  have hs : sub? b 0 (IntKind.i64.wrap ((b.length : Int) - (n : Int))) = some (b.take (b.length - n)) := by
    rw [i64w _ (by omega)]
    unfold sub?
    rw [if_pos (by omega)]
    have : ((b.length : Int) - (n : Int)).toNat = b.length - n := by omega
    rw [this]; simp
  have hR : libRepeat [8, 32, 8] (n : Int) = some (Lib.repeatL [8, 32, 8] n) := by
    unfold libRepeat
    rw [if_pos ⟨by omega, by omega, by simp; omega⟩, Int.toNat_natCast]
  rw [hs, bs, hR, bs, app_ok 1 _ _ (by omega), bs]
  simp [pkT, era]
theorem word_le (b : Str) : wordN b ≤ b.length ∧ (wordN b : Int) = (b.length : Int) - Lib.lastIndexByte ⟨(Lib.trimRightB b 32).toArray⟩ (((32 : UInt8).toNat : Nat) : Int) - 1 := by
  have hs : (Lib.trimRightB b 32).length ≤ b.length := by
    unfold Lib.trimRightB
    rw [List.length_reverse]
    have := (List.dropWhile_sublist (l := b.reverse) (fun x => x == (32 : UInt8))).length_le
    rw [List.length_reverse] at this
    exact this
  have hz : (⟨(Lib.trimRightB b 32).toArray⟩ : ByteArray).size = (Lib.trimRightB b 32).length := by show (Lib.trimRightB b 32).toArray.size = _; simp
  unfold wordN
  rcases Lib.lastIndexByte_spec ⟨(Lib.trimRightB b 32).toArray⟩ (((32 : UInt8).toNat : Nat) : Int) with ⟨h, _⟩ | ⟨i, h1, h2, _⟩
  · rw [h]; omega
  · rw [h2]; omega
theorem end_ok (c : UInt8) (x1 : Bool) (x2 x3 : Nat → UInt8) (x4 : Nat → Int) (x5 : Str) (x6 : List Str) (x7 : Str) (q : Bool) (k : GKeys) (M : Nat → Int) (b : Str) (ls : List Str) (ec : Str) (s : Bool) (hb : b.length ≤ 1023) (hl : ls.length ≤ 900000) (he : ec.length ≤ 100000000) :
    f54_j0 c x1 x2 x3 x4 x5 x6 x7 b q k.Levels k.Chars M ls ec s = some (pkT k M ls ec (if s = true then putN c b q else put c b q)) := by
  unfold f54_j0
  rw [ins_ok c q k M b ls ec (by omega) (by omega) he, bs]
  have hi : (ins c b).2.1.length ≤ 1 := by unfold ins; split <;> simp
  cases s with
  | true =>
    rw [ct, if_pos rfl]
    unfold putN
    cases hs : (ins c b).2.2 with
    | true =>
      simp only [hs, Bool.not_true, cond_false]
      all_goals rfl
    | false =>
      simp only [hs, Bool.not_false, cond_true]
      rw [send_ok q k M _ _ _ (by simp; omega), bs]
      simp [pkT]
  | false =>
    rw [cf, bs]
    all_goals rfl
theorem take_ok (c : UInt8) (q : Bool) (k : GKeys) (M : Nat → Int) (b : Str) (ls : List Str) (ec : Str) (hb : b.length ≤ 1023) (hl : ls.length ≤ 900000) (he : ec.length ≤ 90000000) :
    f54 c q k.Levels k.Chars M b ls ec = some (pkT k M ls ec (tk k M c b q)) := by
  unfold f54 tk
  cases q with
  | true =>
    rw [ct, if_pos rfl, ins_ok c false k M b ls ec (by omega) (by omega) (by omega), bs]
    all_goals rfl
  | false =>
    rw [cf, if_neg (by simp), is_ok c 14 14 _ k M _ _ _ rfl, bs]
    simp only
    cases h14 : isB k c 14 with
    | true => rw [ct, if_pos rfl]; simp [pkT]
    | false =>
    rw [cf, if_neg (by simp), is_ok c 10 10 _ k M _ _ _ rfl, bs]
    simp only
    cases h10 : isB k c 10 with
    | true =>
      rw [ct, if_pos rfl]
      have hm : (if (b.length : Int) < 1 then (b.length : Int) else 1) = ((min 1 b.length : Nat) : Int) := by
        by_cases h : (b.length : Int) < 1
        · rw [if_pos h]; omega
        · rw [if_neg h]; omega
      rw [hm, era_ok _ _ k M b ls ec (by omega) (by omega) (by omega), bs]
      all_goals rfl
    | false =>
    rw [cf, if_neg (by simp), is_ok c 12 12 _ k M _ _ _ rfl, bs]
    simp only
    cases h12 : isB k c 12 with
    | true =>
      rw [ct, if_pos rfl]
      obtain ⟨w1, w2⟩ := word_le b
      have hs : (Lib.trimRightB b 32).length ≤ b.length := by
        unfold Lib.trimRightB
        rw [List.length_reverse]
        have := (List.dropWhile_sublist (l := b.reverse) (fun x => x == (32 : UInt8))).length_le
        rw [List.length_reverse] at this
        exact this
      have hT : libTrimRight b [32] = some (Lib.trimRightB b 32) := by
        unfold libTrimRight
        simp only
        rw [if_pos (by refine ⟨by decide, by omega⟩)]
      have hL : libLastIndexByte (Lib.trimRightB b 32) 32 = some (Lib.lastIndexByte ⟨(Lib.trimRightB b 32).toArray⟩ (((32 : UInt8).toNat : Nat) : Int)) := by
        unfold libLastIndexByte
        rw [if_pos (by omega)]
      rw [hT, bs, hL, bs]
      generalize Lib.lastIndexByte ⟨(Lib.trimRightB b 32).toArray⟩ (((32 : UInt8).toNat : Nat) : Int) = li at *
      have hw : IntKind.i64.wrap (IntKind.i64.wrap ((b.length : Int) - li) - 1) = (wordN b : Int) := by
        rw [i64w ((b.length : Int) - li) (by omega), i64w _ (by omega)]; omega
      rw [hw, era_ok _ _ k M b ls ec (by omega) w1 (by omega), bs]
      all_goals rfl
    | false =>
    rw [cf, if_neg (by simp), is_ok c 11 11 _ k M _ _ _ rfl, bs]
    simp only
    cases h11 : isB k c 11 with
    | true =>
      rw [ct, if_pos rfl, era_ok _ _ k M b ls ec (by omega) (Nat.le_refl _) (by omega), bs]
      all_goals rfl
    | false =>
    rw [cf, if_neg (by simp), is_ok c 13 13 _ k M _ _ _ rfl, bs]
    simp only
    cases h13 : isB k c 13 with
    | true =>
      rw [ct, if_pos rfl, app_ok 1 _ _ (by simp; omega), bs, app_ok 1 _ _ (by simp; omega), bs]
      simp [pkT]
    | false =>
    rw [cf, if_neg (by simp)]
    by_cases c13 : c.toNat = 13
    · rw [decide_eq_true (by omega), ct, end_ok _ _ _ _ _ _ _ _ _ k M b ls ec true hb hl (by omega), if_pos rfl, if_pos (.inl c13)]
    rw [decide_eq_false (by omega), cf]
    by_cases c10 : c.toNat = 10
    · rw [decide_eq_true (by omega), ct, end_ok _ _ _ _ _ _ _ _ _ k M b ls ec true hb hl (by omega), if_pos rfl, if_pos (.inr (.inl c10))]
    rw [decide_eq_false (by omega), cf, is_ok c 17 17 _ k M _ _ _ rfl, bs]
    simp only
    cases h17 : isB k c 17 with
    | true => rw [ct, end_ok _ _ _ _ _ _ _ _ _ k M b ls ec true hb hl (by omega), if_pos rfl, if_pos (.inr (.inr (.inl rfl)))]
    | false =>
    rw [cf, is_ok c 18 18 _ k M _ _ _ rfl, bs]
    simp only
    cases h18 : isB k c 18 with
    | true => rw [ct, end_ok _ _ _ _ _ _ _ _ _ k M b ls ec true hb hl (by omega), if_pos rfl, if_pos (.inr (.inr (.inr (.inl rfl))))]
    | false =>
    rw [cf, has_ok, bs, end_ok _ _ _ _ _ _ _ _ _ k M b ls ec _ hb hl (by omega)]
    cases hh : hasM M c with
    | true => rw [if_pos rfl, if_pos (.inr (.inr (.inr (.inr rfl))))]
    | false => rw [if_neg (by simp), if_neg (by simp [c13, c10])]
theorem ins_len (c : UInt8) (b : Str) (hb : b.length ≤ 1023) : (ins c b).1.length ≤ 1023 ∧ (ins c b).2.1.length ≤ 1 := by
  unfold ins
  split
  · rename_i h; exact ⟨by show (b ++ [c]).length ≤ 1023; omega, by simp⟩
  · exact ⟨by simp, by simp⟩
theorem tk_len (k : GKeys) (M : Nat → Int) (c : UInt8) (b : Str) (q : Bool) (hb : b.length ≤ 1023) : (tk k M c b q).b.length ≤ 1023 ∧ (tk k M c b q).l.length ≤ 2 ∧ (tk k M c b q).e.length ≤ 4000 := by
  obtain ⟨i1, i2⟩ := ins_len c b hb
  have hput : ∀ q, (put c b q).b.length ≤ 1023 ∧ (put c b q).l.length ≤ 2 ∧ (put c b q).e.length ≤ 4000 := fun q => ⟨i1, by show (ins c b).2.1.length ≤ 2; omega, by simp [put]⟩
  have hera : ∀ n q, n ≤ b.length → (era n b q).b.length ≤ 1023 ∧ (era n b q).l.length ≤ 2 ∧ (era n b q).e.length ≤ 4000 := fun n q hn => by
    have := rep_len n
    exact ⟨by simp [era]; omega, by simp [era], by show (Lib.repeatL [8, 32, 8] n).length ≤ 4000; omega⟩
  unfold tk
  split
  · exact hput false
  split
  · exact ⟨hb, by simp, by simp⟩
  split
  · exact hera _ _ (by omega)
  split
  · exact hera _ _ (word_le b).1
  split
  · exact hera _ _ (Nat.le_refl _)
  split
  · exact ⟨hb, by simp, by simp; omega⟩
  split
  · unfold putN
    split
    · exact hput q
    · exact ⟨by simp, by simp; omega, by simp⟩
  · exact hput q
/-- Bytes taken one by one. -/
def tks (k : GKeys) (M : Nat → Int) : Str → Str → Bool → Tk
  | [], b, q => ⟨b, q, [], []⟩
  | c :: t, b, q => ⟨(tks k M t (tk k M c b q).b (tk k M c b q).q).b, (tks k M t (tk k M c b q).b (tk k M c b q).q).q, (tk k M c b q).l ++ (tks k M t (tk k M c b q).b (tk k M c b q).q).l, (tk k M c b q).e ++ (tks k M t (tk k M c b q).b (tk k M c b q).q).e⟩
theorem tks_app (k : GKeys) (M : Nat → Int) : ∀ (x y b : Str) (q : Bool), tks k M (x ++ y) b q = ⟨(tks k M y (tks k M x b q).b (tks k M x b q).q).b, (tks k M y (tks k M x b q).b (tks k M x b q).q).q, (tks k M x b q).l ++ (tks k M y (tks k M x b q).b (tks k M x b q).q).l, (tks k M x b q).e ++ (tks k M y (tks k M x b q).b (tks k M x b q).q).e⟩
  | [], y, b, q => by simp [tks]
  | c :: x, y, b, q => by
    rw [List.cons_append]
    simp only [tks]
    rw [tks_app k M x y]
    simp
theorem tks_len (k : GKeys) (M : Nat → Int) : ∀ (x b : Str) (q : Bool), b.length ≤ 1023 → (tks k M x b q).b.length ≤ 1023 ∧ (tks k M x b q).l.length ≤ 2 * x.length ∧ (tks k M x b q).e.length ≤ 4000 * x.length
  | [], b, q, hb => ⟨hb, by simp [tks], by simp [tks]⟩
  | c :: t, b, q, hb => by
    obtain ⟨h1, h2, h3⟩ := tk_len k M c b q hb
    obtain ⟨g1, g2, g3⟩ := tks_len k M t (tk k M c b q).b (tk k M c b q).q h1
    refine ⟨g1, ?_, ?_⟩
    · simp only [tks, List.length_append, List.length_cons]; omega
    · simp only [tks, List.length_append, List.length_cons]; omega
theorem type_loop (a1 : GEditor) (k : GKeys) (M : Nat → Int) (a : Str) (ha : a.length ≤ 4096) : ∀ (suf pre b : Str) (q : Bool) (ls : List Str) (ec : Str), a = pre ++ suf → b.length ≤ 1023 → ls.length ≤ 2 * pre.length → ec.length ≤ 4000 * pre.length →
    loopO (f24_l4 a1 k (GMask.mk M) a) (b, q, k.Levels, k.Chars, M, ls, ec, (pre.length : Int)) = some (pkT k M ls ec (tks k M suf b q))
  | [], pre, b, q, ls, ec, e, hb, hl, he => loopO_done (by
      subst e
      unfold f24_l4 f24_l4_j5
      simp only [lt_end, cond_false]
      simp [tks, pkT])
  | c :: t, pre, b, q, ls, ec, e, hb, hl, he => by
    have hp : pre.length < 1000000000 := by rw [e] at ha; simp at ha; omega
    have hp2 : pre.length ≤ 4096 := by rw [e] at ha; simp at ha; omega
    have hx : idx a (pre.length : Int) = some c := by rw [e]; exact idx_mid pre c t
    have hlt : decide ((pre.length : Int) < (a.length : Int)) = true := by rw [e]; exact lt_mid pre c t
    obtain ⟨h1, h2, h3⟩ := tk_len k M c b q hb
    have ih := type_loop a1 k M a ha t (pre ++ [c]) (tk k M c b q).b (tk k M c b q).q (ls ++ (tk k M c b q).l) (ec ++ (tk k M c b q).e) (by rw [e]; simp) h1 (by simp; omega) (by simp; omega)
    have er : pkT k M ls ec (tks k M (c :: t) b q) = pkT k M (ls ++ (tk k M c b q).l) (ec ++ (tk k M c b q).e) (tks k M t (tk k M c b q).b (tk k M c b q).q) := by simp [pkT, tks]
    rw [er]
    refine loopO_next ?_ ih
    unfold f24_l4 f24_l4_j5 f24_l4_j6
    simp only [hlt, cond_true]
    rw [hx, bs, take_ok c q k M b ls ec hb (by omega) (by omega), bs, wrap_nx pre c hp]
    all_goals rfl
theorem keys_tot (k : GKeys) : ∃ z, f53 k = some z := by
  have hl : ∀ (n i : Nat), i + n = 19 → ∃ r, loopO (f53_l1 k) (i : Int) = some r := by
    intro n
    induction n with
    | zero =>
      intro i hi
      refine ⟨_, loopO_done (r := .inl ()) ?_⟩
      unfold f53_l1 f53_l1_j2
      rw [decide_eq_false (by omega), cf, cf]
    | succ n ih =>
      intro i hi
      by_cases h2 : 2 < (k.Levels i).toNat
      · refine ⟨_, loopO_done (r := .inr 4) ?_⟩
        unfold f53_l1 f53_l1_j2 f53_l1_j3
        rw [decide_eq_true (by omega), ct, ct, inR_nat i 19 (by omega), bs, decide_eq_true (by omega), ct]
      · obtain ⟨r, hr⟩ := ih (i + 1) (by omega)
        refine ⟨r, loopO_next (y := ((i + 1 : Nat) : Int)) ?_ hr⟩
        unfold f53_l1 f53_l1_j2 f53_l1_j3
        rw [decide_eq_true (by omega), ct, ct, inR_nat i 19 (by omega), bs, decide_eq_false (by omega), cf, i64w _ (by omega)]; rfl
  obtain ⟨r, hr⟩ := hl 19 0 rfl
  rw [show ((0 : Nat) : Int) = 0 from rfl] at hr
  unfold f53
  rw [hr, bs]
  cases r with
  | inr z => exact ⟨z, rfl⟩
  | inl u =>
    rw [Sum.elim_inl]
    unfold f53_j0
    cases (!decide (((k.Levels 0).toNat : Int) = 0)) with
    | true => exact ⟨4, rfl⟩
    | false =>
      rw [cf]
      cases (!decide (((k.Chars 0).toNat : Int) = 0)) with
      | true => exact ⟨4, rfl⟩
      | false => exact ⟨0, rfl⟩
def typA (e : GEditor) (k : GKeys) (M : Nat → Int) (a : Str) : GEditor × List Str × Str × Int := (⟨(tks k M a e.Buf e.Quote).b, (tks k M a e.Buf e.Quote).q⟩, (tks k M a e.Buf e.Quote).l, (tks k M a e.Buf e.Quote).e, 0)
theorem type_ok (e : GEditor) (k : GKeys) (M : Nat → Int) (a : Str) (hk : f53 k = some 0) (hb : e.Buf.length ≤ 1023) (ha : a.length ≤ 4096) : f24 e k (GMask.mk M) a = some (typA e k M a) := by
  unfold f24 f34
  rw [decide_eq_false (by omega), cf, bs, decide_eq_true rfl, Bool.not_true, cf]
  unfold f24_j0
  rw [hk, bs, decide_eq_true rfl, Bool.not_true, cf]
  unfold f24_j1
  rw [decide_eq_false (by omega), cf]
  unfold f24_j2
  have h := type_loop e k M a ha a [] e.Buf e.Quote [] [] rfl hb (by simp) (by simp)
  rw [show ((([] : Str).length : Nat) : Int) = 0 from rfl] at h
  rw [chk_ok (by simp; omega), bs, h, bs]
  unfold f24_j3 pkT typA
  simp
theorem type_no (e : GEditor) (k : GKeys) (M : Nat → Int) (a : Str) (h : ¬ (f53 k = some 0 ∧ e.Buf.length ≤ 1023 ∧ a.length ≤ 4096)) : ∃ z, z ≠ 0 ∧ f24 e k (GMask.mk M) a = some (e, [], [], z) := by
  unfold f24 f34
  by_cases hb : 1024 ≤ e.Buf.length
  · refine ⟨2, by decide, ?_⟩
    rw [decide_eq_true (by omega), ct, bs, decide_eq_false (by decide), Bool.not_false, ct]
  rw [decide_eq_false (by omega), cf, bs, decide_eq_true rfl, Bool.not_true, cf]
  unfold f24_j0
  obtain ⟨z, hz⟩ := keys_tot k
  rw [hz, bs]
  by_cases h0 : z = 0
  · rw [decide_eq_true h0, Bool.not_true, cf]
    unfold f24_j1
    have : 4096 < a.length := by
      rw [h0] at hz
      rcases Nat.lt_or_ge 4096 a.length with g | g
      · exact g
      · exact absurd ⟨hz, by omega, g⟩ h
    refine ⟨2, by decide, ?_⟩
    rw [decide_eq_true (by omega), ct]
  · refine ⟨z, h0, ?_⟩
    rw [decide_eq_false h0, Bool.not_false, ct]
theorem eq_loop (l : List Str) : ∀ (suf pre : List Str), l = pre ++ suf → l.length ≤ 1000000 → loopO (f26_l1 l l) (pre.length : Int) = some (.inl ())
  | [], pre, e, h => loopO_done (by
      subst e
      unfold f26_l1 f26_l1_j2
      simp only [lt_end, cond_false])
  | x :: t, pre, e, h => by
    have hp : pre.length < 1000000000 := by rw [e] at h; simp at h; omega
    have hx : idx l (pre.length : Int) = some x := by rw [e]; exact idx_mid pre x t
    have hlt : decide ((pre.length : Int) < (l.length : Int)) = true := by rw [e]; exact lt_mid pre x t
    refine loopO_next ?_ (eq_loop l t (pre ++ [x]) (by simp [e]) h)
    unfold f26_l1 f26_l1_j2 f26_l1_j3
    simp only [hlt, hx, cond_true, Option.bind_some, decide_true, Bool.not_true, cond_false]
    rw [wrap_nx pre x hp]
theorem f26_same (l : List Str) (h : l.length ≤ 1000000) : f26 l l = some true := by
  unfold f26
  rw [decide_eq_true rfl, Bool.not_true, cf]
  unfold f26_j0
  have := eq_loop l l [] rfl h
  rw [show ((([] : List Str).length : Nat) : Int) = 0 from rfl] at this
  rw [this, bs]; rfl
def K0 : GKeys := ⟨fun _ => 0, fun _ => 0⟩
def KK : GKeys := ⟨upd (upd (upd (upd (upd (fun _ => 0) 10 2) 11 2) 12 2) 13 2) 14 2, upd (upd (upd (upd (upd (fun _ => 0) 10 127) 11 21) 12 23) 13 18) 14 22⟩
theorem keys_ok : f28 = some KK := by
  unfold f28
  rw [loopO_of (n := 7) (by rfl : loopF f28_l0 7 (K0, K0, 0) = some (K0, KK)) |> fun h => (h : loopO f28_l0 (GKeys.mk (fun _ => 0) (fun _ => 0), GKeys.mk (fun _ => 0) (fun _ => 0), 0) = some (K0, KK)), bs]
theorem keys_good : f53 KK = some 0 := by
  unfold f53
  rw [loopO_of (n := 21) (by kernel_rfl : loopF (f53_l1 KK) 21 0 = some (.inl ())), bs, Sum.elim_inl]
  all_goals rfl
theorem lives : f25 = some true := by
  unfold f25
  have h := type_ok ⟨[], false⟩ KK (fun _ => 0) [108, 120, 127, 115, 32, 45, 108, 13, 120] keys_good (by simp) (by simp)
  have h2 : typA ⟨[], false⟩ KK (fun _ => 0) [108, 120, 127, 115, 32, 45, 108, 13, 120] = (⟨[120], false⟩, [[108, 115, 32, 45, 108, 13]], [108, 120, 8, 32, 8, 115, 32, 45, 108, 13, 120], 0) := by kernel_rfl
  rw [h2] at h
  rw [keys_ok, bs, h, bs]
  simp only [decide_true, cond_true]
  rw [f26_same _ (by simp), bs, ct]
theorem clone_s (l : List Str) (h : l.length ≤ 1000000) : f27 l = some l := by
  unfold f27
  rw [app_ok 16 [] l (by simp; omega), bs]; rfl
theorem lineCuts (e : GEditor) (k : GKeys) (m : GMask) (a b : Str) (ha : a.length ≤ 2000000) (hb : b.length ≤ 2000000) : f7 e k m a b = some true := by
  obtain ⟨M⟩ := m
  unfold f7
  by_cases h : f53 k = some 0 ∧ e.Buf.length ≤ 1023 ∧ a.length ≤ 4096
  · obtain ⟨h1, h2, h3⟩ := h
    rw [type_ok e k M a h1 h2 h3, bs, lives, bs, Bool.not_true, cf, i64w _ (by omega)]
    unfold typA
    simp only [decide_true, Bool.not_true, cond_false]
    by_cases h4 : 4096 < a.length + b.length
    · rw [decide_eq_true (by omega), ct]
      unfold f7_j1
      rw [lives, bs, ct, decide_eq_true rfl, ct]
    · rw [decide_eq_false (by omega), cf]
      obtain ⟨g1, g2, g3⟩ := tks_len k M a e.Buf e.Quote h2
      obtain ⟨d1, d2, d3⟩ := tks_len k M b _ (tks k M a e.Buf e.Quote).q g1
      unfold f7_j0
      rw [type_ok ⟨(tks k M a e.Buf e.Quote).b, (tks k M a e.Buf e.Quote).q⟩ k M b h1 g1 (by omega), bs, cat_ok a b (by omega), bs, type_ok e k M (a ++ b) h1 h2 (by simp; omega), bs]
      unfold typA
      rw [tks_app]
      simp only [decide_true, Bool.and_self, cond_true]
      rw [clone_s _ (by omega), bs, app_ok 16 _ _ (by omega), bs, f26_same _ (by simp; omega), bs, ct, cat_ok _ _ (by omega), bs, decide_eq_true rfl, ct]
  · obtain ⟨z, z0, hz⟩ := type_no e k M a h
    rw [hz, bs, lives, bs, Bool.not_true, cf, decide_eq_false z0, Bool.not_false, ct]
    unfold f7_j1
    rw [lives, bs, ct]
    simp [z0]
/-- LineErases. -/
def specB (c : UInt8) : Bool := decide (c.toNat = 127) || (decide (c.toNat = 21) || (decide (c.toNat = 23) || (decide (c.toNat = 18) || decide (c.toNat = 22))))
theorem spec_ok (c : UInt8) : f29 KK c = some (specB c) := by
  have st : ∀ (i f : Nat) (v : UInt8), ([10, 11, 12, 13, 14] : List Int)[i]? = some (f : Int) → i < 5 → f < 19 → KK.Levels f = 2 → KK.Chars f = v → f29_l0 KK c (i : Int) = some (bif decide (c.toNat = v.toNat) then .inr (.inr true) else .inl ((i + 1 : Nat) : Int)) := by
    intro i f v h1 h2 h3 h4 h5
    unfold f29_l0 f29_l0_j1 f29_l0_j2
    have hle : (([10, 11, 12, 13, 14] : List Int).length) = 5 := rfl
    rw [decide_eq_true (by rw [hle]; omega), ct, ct, inR_nat i _ (by rw [hle]; omega), bs, h1, bs, inR_nat f 19 h3, bs, bs, h4, h5, i64w _ (by omega), decide_eq_false (show ¬ (((2 : UInt8).toNat : Int) = 0) by decide), Bool.not_false, ct]
    by_cases hc : c.toNat = v.toNat
    · rw [decide_eq_true hc, decide_eq_true (p := (v.toNat : Int) = (c.toNat : Int)) (by omega)]; rfl
    · rw [decide_eq_false hc, decide_eq_false (p := (v.toNat : Int) = (c.toNat : Int)) (by omega)]; rfl
  have s0 := st 0 10 127 rfl (by omega) (by omega) rfl rfl
  have s1 := st 1 11 21 rfl (by omega) (by omega) rfl rfl
  have s2 := st 2 12 23 rfl (by omega) (by omega) rfl rfl
  have s3 := st 3 13 18 rfl (by omega) (by omega) rfl rfl
  have s4 := st 4 14 22 rfl (by omega) (by omega) rfl rfl
  have s5 : f29_l0 KK c ((5 : Nat) : Int) = some (.inr (.inl ())) := by
    unfold f29_l0 f29_l0_j1
    rw [decide_eq_false (by decide), cf, cf]
  have go : ∀ (i : Nat) (v : UInt8) (x : Bool), f29_l0 KK c (i : Int) = some (bif decide (c.toNat = v.toNat) then .inr (.inr true) else .inl ((i + 1 : Nat) : Int)) → loopO (f29_l0 KK c) ((i + 1 : Nat) : Int) = some (if x = true then .inr true else .inl ()) → loopO (f29_l0 KK c) (i : Int) = some (if (decide (c.toNat = v.toNat) || x) = true then .inr true else .inl ()) := by
    intro i v x h1 h2
    cases hd : decide (c.toNat = v.toNat) with
    | true =>
      rw [hd] at h1
      rw [Bool.true_or, if_pos rfl]
      exact loopO_done h1
    | false =>
      rw [hd] at h1
      rw [Bool.false_or]
      exact loopO_next h1 h2
  have l5 : loopO (f29_l0 KK c) ((4 + 1 : Nat) : Int) = some (if false = true then .inr true else .inl ()) := loopO_done s5
  have l0 := go 0 127 _ s0 (go 1 21 _ s1 (go 2 23 _ s2 (go 3 18 _ s3 (go 4 22 _ s4 l5))))
  rw [Bool.or_false, show ((0 : Nat) : Int) = 0 from rfl] at l0
  unfold f29
  rw [l0, bs]
  have e : (decide (c.toNat = (127 : UInt8).toNat) || (decide (c.toNat = (21 : UInt8).toNat) || (decide (c.toNat = (23 : UInt8).toNat) || (decide (c.toNat = (18 : UInt8).toNat) || decide (c.toNat = (22 : UInt8).toNat))))) = specB c := rfl
  rw [e]
  cases specB c <;> rfl
def badT (c : UInt8) : Bool := specB c || (decide (c.toNat = 13) || decide (c.toNat = 10))
theorem look_loop (e : GEditor) (a : Str) (u : Bool) (ha : a.length ≤ 2000000) : ∀ (suf pre : Str), a = pre ++ suf → loopO (f8_l3 e a u) (KK, (pre.length : Int)) = some (if suf.any badT = true then .inr true else .inl KK)
  | [], pre, h => loopO_done (by
      subst h
      unfold f8_l3 f8_l3_j4
      simp only [lt_end, cond_false]; rfl)
  | c :: t, pre, h => by
    have hp : pre.length < 1000000000 := by rw [h] at ha; simp at ha; omega
    have hx : idx a (pre.length : Int) = some c := by rw [h]; exact idx_mid pre c t
    have hlt : decide ((pre.length : Int) < (a.length : Int)) = true := by rw [h]; exact lt_mid pre c t
    have ih := look_loop e a u ha t (pre ++ [c]) (by rw [h]; simp)
    rw [List.any_cons]
    have hb : badT c = (specB c || (decide (c.toNat = 13) || decide (c.toNat = 10))) := rfl
    cases hs : specB c with
    | true =>
      rw [hb, hs, Bool.true_or, Bool.true_or, if_pos rfl]
      refine loopO_done ?_
      unfold f8_l3 f8_l3_j4 f8_l3_j5
      simp only [hlt, cond_true]
      rw [hx, bs, spec_ok, bs, hs, ct, lives, bs]
    | false =>
      rw [hb, hs, Bool.false_or]
      by_cases h13 : c.toNat = 13
      · rw [decide_eq_true h13, Bool.true_or, Bool.true_or, if_pos rfl]
        refine loopO_done ?_
        unfold f8_l3 f8_l3_j4 f8_l3_j5
        simp only [hlt, cond_true]
        rw [hx, bs, spec_ok, bs, hs, cf, bs, decide_eq_true (by omega), ct, lives, bs]
      · rw [decide_eq_false h13, Bool.false_or]
        by_cases h10 : c.toNat = 10
        · rw [decide_eq_true h10, Bool.true_or, if_pos rfl]
          refine loopO_done ?_
          unfold f8_l3 f8_l3_j4 f8_l3_j5
          simp only [hlt, cond_true]
          rw [hx, bs, spec_ok, bs, hs, cf, bs, decide_eq_false (by omega), cf, bs, decide_eq_true (by omega), ct, lives, bs]
        · rw [decide_eq_false h10, Bool.false_or]
          refine loopO_next ?_ ih
          unfold f8_l3 f8_l3_j4 f8_l3_j5
          simp only [hlt, cond_true]
          rw [hx, bs, spec_ok, bs, hs, cf, bs, decide_eq_false (by omega), cf, bs, decide_eq_false (by omega), cf, wrap_nx pre c hp]
theorem has0 (c : UInt8) : hasM (fun _ => 0) c = false := by
  unfold hasM
  have : ∀ n : Nat, Int.fdiv 0 (2 ^ n) = 0 := fun n => Int.zero_fdiv _
  rw [this]; rfl
theorem isKK (c : UInt8) : isB KK c 14 = decide (22 = c.toNat) ∧ isB KK c 10 = decide (127 = c.toNat) ∧ isB KK c 12 = decide (23 = c.toNat) ∧ isB KK c 11 = decide (21 = c.toNat) ∧ isB KK c 13 = decide (18 = c.toNat) ∧ isB KK c 17 = false ∧ isB KK c 18 = false := ⟨rfl, rfl, rfl, rfl, rfl, rfl, rfl⟩
theorem tk_plain (c : UInt8) (b : Str) (h : badT c = false) (hb : b.length + 1 < 1024) : tk KK (fun _ => 0) c b false = ⟨b ++ [c], false, [], [c]⟩ := by
  obtain ⟨i1, i2, i3, i4, i5, i6, i7⟩ := isKK c
  unfold badT specB at h
  simp only [Bool.or_eq_false_iff, decide_eq_false_iff_not] at h
  unfold tk
  rw [if_neg (by simp), i1, i2, i3, i4, i5, i6, i7, has0, if_neg (by simp; omega), if_neg (by simp; omega), if_neg (by simp; omega), if_neg (by simp; omega), if_neg (by simp; omega), if_neg (by simp; omega)]
  unfold put ins
  rw [if_pos (by simp; omega)]
theorem tks_plain : ∀ (a b : Str), (∀ c ∈ a, badT c = false) → b.length + a.length < 1024 → (tks KK (fun _ => 0) a b false).b = b ++ a ∧ (tks KK (fun _ => 0) a b false).q = false ∧ (tks KK (fun _ => 0) a b false).l = []
  | [], b, h, hl => by simp [tks]
  | c :: t, b, h, hl => by
    have e := tk_plain c b (h c (by simp)) (by simp at hl; omega)
    obtain ⟨g1, g2, g3⟩ := tks_plain t (b ++ [c]) (fun x hx => h x (by simp [hx])) (by simp at hl ⊢; omega)
    simp only [tks]
    rw [e]
    simp only
    rw [g1, g2, g3]
    simp
theorem tk_del (b : Str) : tk KK (fun _ => 0) 127 b false = era (min 1 b.length) b false := by
  obtain ⟨i1, i2, _⟩ := isKK 127
  unfold tk
  rw [if_neg (by simp), i1, i2, if_neg (by decide), if_pos (by decide)]
theorem tks_del : ∀ (n : Nat) (x b : Str), x.length = n → (tks KK (fun _ => 0) (List.replicate n 127) (b ++ x) false).b = b ∧ (tks KK (fun _ => 0) (List.replicate n 127) (b ++ x) false).q = false ∧ (tks KK (fun _ => 0) (List.replicate n 127) (b ++ x) false).l = []
  | 0, x, b, h => by
    have : x = [] := List.eq_nil_of_length_eq_zero h
    subst this
    simp [tks]
  | n + 1, x, b, h => by
    have hne : x ≠ [] := fun h0 => by rw [h0] at h; simp at h
    have hx : x = x.dropLast ++ [x.getLast hne] := (List.dropLast_concat_getLast hne).symm
    have hd : x.dropLast.length = n := by simp; omega
    obtain ⟨g1, g2, g3⟩ := tks_del n x.dropLast b hd
    rw [List.replicate_succ]
    simp only [tks]
    rw [tk_del]
    have e : (b ++ x).take ((b ++ x).length - min 1 (b ++ x).length) = b ++ x.dropLast := by
      have hl1 : min 1 (b ++ x).length = 1 := by simp; omega
      rw [hl1]
      conv => lhs; rw [hx, ← List.append_assoc]
      rw [List.take_left' (by simp)]
    simp only [era]
    rw [e, g1, g2, g3]
    simp
theorem tk_kill (b : Str) : tk KK (fun _ => 0) 21 b false = era b.length b false := by
  obtain ⟨i1, i2, i3, i4, _⟩ := isKK 21
  unfold tk
  rw [if_neg (by simp), i1, i2, i3, i4, if_neg (by decide), if_neg (by decide), if_neg (by decide), if_pos (by decide)]
theorem rep_one : ∀ n : Nat, Lib.repeatL [127] n = List.replicate n 127
  | 0 => rfl
  | n + 1 => by
    show [127] ++ Lib.repeatL [127] n = _
    rw [rep_one n, List.replicate_succ]; rfl
theorem lineErases (e : GEditor) (a : Str) (u : Bool) (ha : a.length ≤ 2000000) (he : e.Buf.length ≤ 2000000) : f8 e a u = some true := by
  unfold f8
  have hlo := look_loop e a u ha a [] rfl
  rw [show ((([] : Str).length : Nat) : Int) = 0 from rfl] at hlo
  rw [keys_ok, bs, hlo, bs]
  cases hb : a.any badT with
  | true => rw [if_pos rfl, Sum.elim_inr]
  | false =>
    rw [if_neg (by simp), Sum.elim_inl]
    unfold f8_j0
    rw [lives, bs, Bool.not_true, cf, i64w _ (by omega), bs]
    by_cases hl : 1024 ≤ e.Buf.length + a.length
    · rw [decide_eq_true (by omega), ct]
    · rw [decide_eq_false (by omega), cf]
      have hp : ∀ c ∈ a, badT c = false := fun c hc => by have := List.any_eq_false.1 hb c hc; simpa using this
      obtain ⟨g1, g2, g3⟩ := tks_plain a e.Buf hp (by omega)
      unfold f8_j1
      cases u with
      | true =>
        have hT : ∃ E, typA ⟨e.Buf, false⟩ KK (fun _ => 0) (a ++ [21]) = (⟨[], false⟩, [], E, 0) := by
          refine ⟨(tks KK (fun _ => 0) (a ++ [21]) e.Buf false).e, ?_⟩
          unfold typA
          simp only
          have hb : (tks KK (fun _ => 0) (a ++ [21]) e.Buf false).b = [] ∧ (tks KK (fun _ => 0) (a ++ [21]) e.Buf false).q = false ∧ (tks KK (fun _ => 0) (a ++ [21]) e.Buf false).l = [] := by
            rw [tks_app]
            simp only [tks, g1, g2, g3, tk_kill, era]
            simp
          rw [hb.1, hb.2.1, hb.2.2]
        obtain ⟨E, hT⟩ := hT
        rw [ct, cat_ok a [21] (by simp; omega), bs, type_ok ⟨e.Buf, false⟩ KK (fun _ => 0) (a ++ [21]) keys_good (by simp only; omega) (by simp; omega), bs, hT]
        simp
      | false =>
        have hT : ∃ E, typA ⟨e.Buf, false⟩ KK (fun _ => 0) (a ++ List.replicate a.length 127) = (⟨e.Buf, false⟩, [], E, 0) := by
          refine ⟨(tks KK (fun _ => 0) (a ++ List.replicate a.length 127) e.Buf false).e, ?_⟩
          unfold typA
          simp only
          obtain ⟨d1, d2, d3⟩ := tks_del a.length a e.Buf rfl
          have hb : (tks KK (fun _ => 0) (a ++ List.replicate a.length 127) e.Buf false).b = e.Buf ∧ (tks KK (fun _ => 0) (a ++ List.replicate a.length 127) e.Buf false).q = false ∧ (tks KK (fun _ => 0) (a ++ List.replicate a.length 127) e.Buf false).l = [] := by
            rw [tks_app]
            simp only [g1, g2, g3, d1, d2, d3]
            simp
          rw [hb.1, hb.2.1, hb.2.2]
        obtain ⟨E, hT⟩ := hT
        rw [cf]
        unfold f8_j2
        have hR : libRepeat [127] (a.length : Int) = some (List.replicate a.length 127) := by
          unfold libRepeat
          rw [if_pos ⟨by omega, by omega, by simp; omega⟩, Int.toNat_natCast, rep_one]
        rw [hR, bs, cat_ok _ _ (by simp; omega), bs, type_ok ⟨e.Buf, false⟩ KK (fun _ => 0) _ keys_good (by simp only; omega) (by simp; omega), bs, hT]
        simp
theorem fitS {s : Str} (h : s.length ≤ maxLen ∧ FitN (some 1048576) s.length 1) : s.length ≤ 2000000 := by
  have := h.2
  unfold FitN at this
  omega
theorem LineCuts_walk (v0 v1 v2 v3 v4 : Value) (w : World) (h0 : Arg (some 1048576) Go.Proofs.Tryd.prog w 46 v0) (h1 : Arg (some 1048576) Go.Proofs.Tryd.prog w 49 v1) (h2 : Arg (some 1048576) Go.Proofs.Tryd.prog w 25 v2) (h3 : Arg (some 1048576) Go.Proofs.Tryd.prog w 9 v3) (h4 : Arg (some 1048576) Go.Proofs.Tryd.prog w 9 v4) : Calls Go.Proofs.Tryd.prog 7 #[v0, v1, v2, v3, v4] w fun e w' => e = .returned (.bool true) ∧ Below w.heap.size w w' :=
  LineCuts_calls (some 1048576) (fun e k m a b _ _ _ ha hb => lineCuts e k m a b (fitS ha) (fitS hb)) v0 v1 v2 v3 v4 w h0 h1 h2 h3 h4
theorem LineErases_walk (v0 v1 v2 : Value) (w : World) (h0 : Arg (some 1048576) Go.Proofs.Tryd.prog w 46 v0) (h1 : Arg (some 1048576) Go.Proofs.Tryd.prog w 9 v1) (h2 : Arg (some 1048576) Go.Proofs.Tryd.prog w 4 v2) : Calls Go.Proofs.Tryd.prog 8 #[v0, v1, v2] w fun e w' => e = .returned (.bool true) ∧ Below w.heap.size w w' :=
  LineErases_calls (some 1048576) (fun e a u he ha _ => lineErases e a u (fitS ha) (fitS he.1)) v0 v1 v2 w h0 h1 h2
end Go.Proofs.YtanhpibphkblnaaDoor.Pm
