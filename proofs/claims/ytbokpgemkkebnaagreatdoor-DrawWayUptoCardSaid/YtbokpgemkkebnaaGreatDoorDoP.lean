/- read_ok write_ok read_word word_ok enc_sg sg_byte inters_ok within_ok: what the typed functions compute, and the laws. -/
import Derived.Test.YtbokpgemkkebnaaGreatDoorDoG
namespace Go.Proofs.YtbokpgemkkebnaaGreatDoor.Pr
open Go.Proofs.YtbokpgemkkebnaaGreatDoor.Pm
open Go.Proofs.YtbokpgemkkebnaaGreatDoor.Args
open Go.ChangeShapes Go.WideShapes Go.ChangeAt Go.RowKit
set_option linter.unusedVariables false
set_option linter.unusedSimpArgs false
set_option maxRecDepth 100000
abbrev Str := List UInt8
def okB (b : UInt8) : Bool := decide (b.toNat = 59) || (decide (48 ≤ b.toNat) && decide (b.toNat ≤ 57))
def numS (n : Int) (z : UInt8) : Int := if 16383 < (if 0 > n then 0 else n) * 10 + ((z - 48).toNat : Int) then 16383 else (if 0 > n then 0 else n) * 10 + ((z - 48).toNat : Int)
def num (w : List UInt8) : Int := w.foldl numS (-1)
def readA (s : List UInt8) : List Int × Int := if s.all okB then (((splitC 59 s).map num).take 32, 0) else ([], 4)
theorem numS_b (n : Int) (z : UInt8) (h : -1 ≤ n ∧ n ≤ 16383) : 0 ≤ numS n z ∧ numS n z ≤ 16383 := by
 unfold numS
 have := u8_lt (z - 48)
 constructor <;> split <;> split at * <;> omega
theorem num_loop (a1 : List UInt8) (out : List Int) (ps : List (List UInt8)) (k j : Int) : ∀ (suf pre : List UInt8) (n : Int), -1 ≤ n ∧ n ≤ 16383 → (pre ++ suf).length ≤ 100000000 →
  loopO (f51_l2_l6 a1) (out, pre ++ suf, n, ps, k, j, ((pre ++ suf).length : Int), (pre.length : Int)) = some (out, suf.foldl numS n, ps, k, j)
 | [], pre, n, h, hl => loopO_done (by
   unfold f51_l2_l6 f51_l2_l6_j7
   simp only [lt_end, cond_false]; rfl)
 | z :: t, pre, n, h, hl => by
  have e1 : pre ++ z :: t = (pre ++ [z]) ++ t := by simp
  have hb := numS_b n z h
  have ih := num_loop a1 out ps k j t (pre ++ [z]) (numS n z) ⟨by omega, hb.2⟩ (by rw [← e1]; exact hl)
  rw [← e1] at ih
  refine loopO_next ?_ ih
  unfold f51_l2_l6 f51_l2_l6_j7 f51_l2_l6_j8
  simp only [lt_mid, cond_true, idx_mid, Option.bind_some]
  have hp : pre.length < 1000000000 := by simp at hl; omega
  have hz := u8_lt (z - 48)
  have w1 : IntKind.i64.wrap ((if 0 > n then 0 else n) * 10) = (if 0 > n then 0 else n) * 10 := i64w _ (by split <;> omega)
  have w2 : IntKind.i64.wrap ((if 0 > n then 0 else n) * 10 + ((z - 48).toNat : Int)) = (if 0 > n then 0 else n) * 10 + ((z - 48).toNat : Int) := i64w _ (by split <;> omega)
  rw [wrap_nx pre z hp, w1, w2]
  rfl
theorem parts_loop (a1 : List UInt8) (ps : List (List UInt8)) (hps : ∀ w ∈ ps, w.length ≤ 100000000) (hl : ps.length ≤ 100000000) : ∀ (suf pre : List (List UInt8)) (out : List Int), ps = pre ++ suf → out.length ≤ 32 →
  loopO (f51_l2 a1) (out, ps, (ps.length : Int), (pre.length : Int)) = some (out ++ (suf.map num).take (32 - out.length))
 | [], pre, out, e, h => loopO_done (by
   subst e
   unfold f51_l2 f51_l2_j3
   simp only [lt_end, cond_false]
   simp)
 | w :: t, pre, out, e, h => by
  have hp : pre.length < 1000000000 := by rw [e] at hl; simp at hl; omega
  by_cases h32 : out.length = 32
  ·refine loopO_done ?_
   subst e
   unfold f51_l2 f51_l2_j3 f51_l2_j4
   simp only [lt_mid, cond_true, idx_mid, Option.bind_some]
   rw [decide_eq_true (show (out.length : Int) = 32 by omega), h32]
   simp
  ·have ih := parts_loop a1 ps hps hl t (pre ++ [w]) (out ++ [num w]) (by rw [e]; simp) (by simp; omega)
   have hw := num_loop a1 out ps (ps.length : Int) (pre.length : Int) w [] (-1) (by omega) (by have := hps w (by rw [e]; simp); simpa using this)
   simp only [List.nil_append, List.length_nil] at hw
   have e3 : 32 - out.length = (32 - (out ++ [num w]).length) + 1 := by simp; omega
   have e2 : out ++ ((w :: t).map num).take (32 - out.length) = out ++ [num w] ++ (t.map num).take (32 - (out ++ [num w]).length) := by
    rw [e3, List.map_cons, List.take_succ_cons]; simp
   rw [e2]
   refine loopO_next ?_ ih
   have hx : idx ps (pre.length : Int) = some w := by rw [e]; exact idx_mid pre w t
   have hlt : decide ((pre.length : Int) < (ps.length : Int)) = true := by rw [e]; exact lt_mid pre w t
   unfold f51_l2 f51_l2_j3 f51_l2_j4 f51_l2_j5
   simp only [hlt, hx, cond_true, Option.bind_some]
   rw [decide_eq_false (show ¬ (out.length : Int) = 32 by omega)]
   simp only [cond_false]
   have h0 : (0 : Int) = ((0 : Nat) : Int) := rfl
   rw [h0, hw]
   simp only [Option.bind_some]
   rw [app_ok 8 _ _ (by simp; omega)]
   simp only [Option.bind_some]
   rw [wrap_nx pre w hp]; rfl
theorem check_loop (a1 : List UInt8) : ∀ (suf pre : List UInt8), a1 = pre ++ suf → a1.length ≤ 100000000 →
  loopO (f51_l9 a1) (pre.length : Int) = some (if suf.all okB then .inl () else .inr ([], 4))
 | [], pre, e, h => loopO_done (by
   subst e
   unfold f51_l9 f51_l9_j10
   simp only [lt_end, cond_false]; rfl)
 | z :: t, pre, e, h => by
  have hp : pre.length < 1000000000 := by rw [e] at h; simp at h; omega
  have hx : idx a1 (pre.length : Int) = some z := by rw [e]; exact idx_mid pre z t
  have hlt : decide ((pre.length : Int) < (a1.length : Int)) = true := by rw [e]; exact lt_mid pre z t
  by_cases hz : okB z = true
  ·have ih := check_loop a1 t (pre ++ [z]) (by rw [e]; simp) h
   rw [List.all_cons, hz, Bool.true_and]
   refine loopO_next ?_ ih
   unfold f51_l9 f51_l9_j10 f51_l9_j11
   simp only [hlt, hx, cond_true, Option.bind_some]
   rw [wrap_nx pre z hp]
   by_cases h59 : z.toNat = 59
   ·rw [decide_eq_true (show (z.toNat : Int) = 59 by omega)]; rfl
   ·rw [decide_eq_false (show ¬ (z.toNat : Int) = 59 by omega)]
    unfold okB at hz
    simp [h59] at hz
    rw [decide_eq_false (show ¬ (z.toNat : Int) < 48 by omega), decide_eq_false (show ¬ (57 : Int) < (z.toNat : Int) by omega)]; rfl
  ·rw [List.all_cons, Bool.eq_false_iff.2 hz, Bool.false_and]
   refine loopO_done ?_
   unfold f51_l9 f51_l9_j10 f51_l9_j11
   simp only [hlt, hx, cond_true, Option.bind_some]
   unfold okB at hz
   simp at hz
   rw [decide_eq_false (show ¬ (z.toNat : Int) = 59 by omega)]
   simp only [Bool.not_false, cond_true]
   by_cases h48 : z.toNat < 48
   ·rw [decide_eq_true (show (z.toNat : Int) < 48 by omega)]; rfl
   ·rw [decide_eq_false (show ¬ (z.toNat : Int) < 48 by omega)]
    simp only [cond_false]
    rw [decide_eq_true (show (57 : Int) < (z.toNat : Int) by omega)]; rfl
theorem okB_mem (b : UInt8) (h : okB b = true) : b ∈ ([48, 49, 50, 51, 52, 53, 54, 55, 56, 57, 59] : List UInt8) := by
 unfold okB at h
 have hb : b = UInt8.ofNat b.toNat := u8_of rfl b.toNat_lt
 have : b.toNat = 48 ∨ b.toNat = 49 ∨ b.toNat = 50 ∨ b.toNat = 51 ∨ b.toNat = 52 ∨ b.toNat = 53 ∨ b.toNat = 54 ∨ b.toNat = 55 ∨ b.toNat = 56 ∨ b.toNat = 57 ∨ b.toNat = 59 := by simp at h; omega
 rcases this with e | e | e | e | e | e | e | e | e | e | e <;> rw [hb, e] <;> decide
theorem read_ok (s : List UInt8) (h : s.length ≤ 10000000) : f51 s = some (readA s) := by
 unfold f51 libTrim
 rw [if_pos ⟨by omega, by simp, by decide⟩, bs]
 have hc := check_loop s s [] rfl (by omega)
 have h0 : (0 : Int) = (([] : List UInt8).length : Int) := rfl
 unfold readA
 cases ha : s.all okB with
 | true =>
  rw [ha] at hc
  have ht : Lib.trimS s [48, 49, 50, 51, 52, 53, 54, 55, 56, 57, 59] = [] := trim_all s _ fun b hb => okB_mem b (List.all_eq_true.1 ha b hb)
  rw [ht, decide_eq_true rfl, Bool.not_true, cf]
  unfold f51_j0
  rw [h0, hc, bs, if_pos rfl, Sum.elim_inl]
  unfold f51_j1
  rw [split_ok s 59 (by omega), bs]
  have hp := parts_loop s (splitC 59 s) (fun w hw => by have := (splitC_part 59 s w hw).1; omega) (by have := splitC_len 59 s; omega) (splitC 59 s) [] [] rfl (by simp)
  simp only [List.length_nil, List.nil_append] at hp
  rw [h0, show ((([] : List UInt8).length : Int)) = ((0 : Nat) : Int) from rfl, hp, bs]
  rfl
 | false =>
  rw [ha] at hc
  by_cases ht : Lib.trimS s [48, 49, 50, 51, 52, 53, 54, 55, 56, 57, 59] = []
  ·rw [ht, decide_eq_true rfl, Bool.not_true, cf]
   unfold f51_j0
   rw [h0, hc, bs, if_neg (by simp), Sum.elim_inr]; rfl
  ·rw [decide_eq_false ht, Bool.not_false, ct]; rfl
def sg (c : Int) : UInt8 := UInt8.ofNat c.toNat
theorem enc_tab : ((List.range 64).all fun n => decide ((Utf8.encode (IntKind.i32.wrap (n : Int))).data.toList = [UInt8.ofNat n])) = true := by kernel_rfl
theorem enc_sg (c : Int) (h : 0 ≤ c ∧ c < 64) : (Utf8.encode (IntKind.i32.wrap c)).data.toList = [sg c] := by
 obtain ⟨n, rfl⟩ := Int.eq_ofNat_of_zero_le h.1
 exact of_decide_eq_true (List.all_eq_true.1 enc_tab n (List.mem_range.2 (by omega)))
theorem within_ok (n a b : Int) : f42 n a b = some (decide (a ≤ n) && decide (n ≤ b)) := by
 unfold f42
 cases decide (a ≤ n) <;> cases decide (n ≤ b) <;> rfl
def inB (b : UInt8) : Bool := decide ((32 : Int) ≤ (b.toNat : Int)) && decide ((b.toNat : Int) ≤ 47)
theorem inters_loop (a : Str) (k : Int) : ∀ (suf pre : Str), a = pre ++ suf → a.length ≤ 100000000 →
  loopO (f43_l0 a k) (pre.length : Int) = some (if suf.all inB then .inl () else .inr false)
 | [], pre, e, h => loopO_done (by
   subst e
   unfold f43_l0 f43_l0_j1
   simp only [lt_end, cond_false]; rfl)
 | z :: t, pre, e, h => by
  have hp : pre.length < 1000000000 := by rw [e] at h; simp at h; omega
  have hx : idx a (pre.length : Int) = some z := by rw [e]; exact idx_mid pre z t
  have hlt : decide ((pre.length : Int) < (a.length : Int)) = true := by rw [e]; exact lt_mid pre z t
  have hw : f42 (z.toNat : Int) 32 47 = some (inB z) := within_ok _ _ _
  rw [List.all_cons]
  cases hz : inB z with
  | true =>
   have ih := inters_loop a k t (pre ++ [z]) (by rw [e]; simp) h
   rw [Bool.true_and]
   refine loopO_next ?_ ih
   unfold f43_l0 f43_l0_j1 f43_l0_j2
   simp only [hlt, cond_true]
   rw [hx, bs, hw, bs, hz, Bool.not_true, cf, wrap_nx pre z hp]
  | false =>
   rw [Bool.false_and, if_neg (by simp)]
   refine loopO_done ?_
   unfold f43_l0 f43_l0_j1 f43_l0_j2
   simp only [hlt, cond_true]
   rw [hx, bs, hw, bs, hz, Bool.not_false, ct]
theorem inters_ok (a : Str) (k : Int) (h : a.length ≤ 100000000) : f43 a k = some (a.all inB && decide ((a.length : Int) ≤ k)) := by
 unfold f43
 have := inters_loop a k a [] rfl h
 rw [show ((([] : Str).length : Nat) : Int) = 0 from rfl] at this
 rw [this, bs]
 cases a.all inB with
 | true =>
  rw [if_pos rfl, Sum.elim_inl, Bool.true_and]
  cases decide ((a.length : Int) ≤ k) <;> rfl
 | false => rw [if_neg (by simp), Sum.elim_inr]; rfl
def word (n : Int) : List UInt8 := if n < 0 then [] else Lib.itoa n
def badN (n : Int) : Bool := decide (n < -1) || decide (16383 < n)
theorem bad_eq (n : Int) : f70 n = some (badN n) := by
 unfold f70 badN
 by_cases h : n < -1
 ·rw [decide_eq_true h]; rfl
 ·rw [decide_eq_false h, cf]
  by_cases h2 : 16383 < n
  ·rw [decide_eq_true h2]; rfl
  ·rw [decide_eq_false h2]; rfl
theorem any_loop (l : List Int) : ∀ (suf pre : List Int), l = pre ++ suf → l.length ≤ 100000000 → ∃ r, loopO (f82_l0 l) (pre.length : Int) = some r ∧ ((suf.any badN = true ∧ ∃ i : Nat, r = .inr (i : Int)) ∨ (suf.any badN = false ∧ r = .inl ()))
 | [], pre, e, h => ⟨_, loopO_done (by
   subst e
   unfold f82_l0 f82_l0_j1
   simp only [lt_end, cond_false]), .inr ⟨rfl, rfl⟩⟩
 | z :: t, pre, e, h => by
  have hp : pre.length < 1000000000 := by rw [e] at h; simp at h; omega
  have hx : idx l (pre.length : Int) = some z := by rw [e]; exact idx_mid pre z t
  have hlt : decide ((pre.length : Int) < (l.length : Int)) = true := by rw [e]; exact lt_mid pre z t
  cases hz : badN z with
  | true =>
   refine ⟨.inr (pre.length : Int), loopO_done ?_, .inl ⟨by rw [List.any_cons, hz]; rfl, pre.length, rfl⟩⟩
   unfold f82_l0 f82_l0_j1 f82_l0_j2
   simp only [hlt, hx, cond_true, Option.bind_some, bad_eq, hz]
  | false =>
   obtain ⟨r, h1, h2⟩ := any_loop l t (pre ++ [z]) (by rw [e]; simp) h
   refine ⟨r, loopO_next ?_ h1, by rw [List.any_cons, hz, Bool.false_or]; exact h2⟩
   unfold f82_l0 f82_l0_j1 f82_l0_j2
   simp only [hlt, hx, cond_true, Option.bind_some, bad_eq, hz, cond_false]
   rw [wrap_nx pre z hp]
theorem any_ok (l : List Int) (h : l.length ≤ 100000000) : f59 l = some (l.any badN) := by
 unfold f59 f82
 obtain ⟨r, h1, h2⟩ := any_loop l l [] rfl h
 rw [show (0 : Int) = (([] : List Int).length : Int) from rfl, h1, bs]
 rcases h2 with ⟨ha, i, rfl⟩ | ⟨ha, rfl⟩
 ·rw [Sum.elim_inr, bs, ha, decide_eq_true (by simp)]; rfl
 ·rw [Sum.elim_inl, bs, ha, decide_eq_false (by simp)]; rfl
theorem digs : ∀ (u : Nat), u ≤ 16383 → (Lib.decDigits u).foldl numS (-1) = (u : Int) ∧ (∀ b ∈ Lib.decDigits u, 48 ≤ b.toNat ∧ b.toNat ≤ 57) ∧ (Lib.decDigits u).length ≤ u + 1 := by
 intro u
 induction u using Nat.strongRecOn with
 | ind u ih =>
  intro hu
  have hd : ∀ d : Nat, d < 10 → (UInt8.ofNat (48 + d)).toNat = 48 + d := fun d hd => by simp; omega
  have hs : ∀ d : Nat, d < 10 → ((UInt8.ofNat (48 + d)) - 48).toNat = d := fun d hd' => by
   have : ∀ d : Fin 10, ((UInt8.ofNat (48 + d.val)) - 48).toNat = d.val := by decide
   exact this ⟨d, hd'⟩
  by_cases h10 : u < 10
  ·rw [Lib.decDigits_one h10]
   refine ⟨?_, fun b hb => ?_, by simp⟩
   ·simp only [List.foldl_cons, List.foldl_nil]
    unfold numS
    rw [hs u h10]
    simp only [show (0 : Int) > -1 from by decide, if_true]
    rw [if_neg (by omega)]; omega
   ·rw [List.mem_singleton] at hb; subst hb; rw [hd u h10]; omega
  ·have e : Lib.decDigits u = Lib.decDigits (u / 10) ++ [UInt8.ofNat (48 + u % 10)] := by
    rw [Lib.decDigits, dif_neg h10]
   obtain ⟨i1, i2, i3⟩ := ih (u / 10) (by omega) (by omega)
   have hm : u % 10 < 10 := Nat.mod_lt _ (by decide)
   rw [e]
   refine ⟨?_, fun b hb => ?_, by simp; omega⟩
   ·rw [List.foldl_append, i1]
    simp only [List.foldl_cons, List.foldl_nil]
    unfold numS
    rw [hs _ hm]
    have hg : ¬ (0 : Int) > ((u / 10 : Nat) : Int) := by omega
    simp only [hg, if_false]
    rw [if_neg (by omega)]; omega
   ·rcases List.mem_append.1 hb with hb | hb
    ·exact i2 b hb
    ·rw [List.mem_singleton] at hb; subst hb; rw [hd _ hm]; omega
theorem word_ok (n : Int) (h : badN n = false) : num (word n) = n ∧ (∀ b ∈ word n, 48 ≤ b.toNat ∧ b.toNat ≤ 57) ∧ (word n).length ≤ 16384 := by
 unfold badN at h
 simp at h
 unfold word
 by_cases hn : n < 0
 ·rw [if_pos hn]
  have : n = -1 := by omega
  subst this
  exact ⟨rfl, by simp, by simp⟩
 ·rw [if_neg hn]
  obtain ⟨u, rfl⟩ := Int.eq_ofNat_of_zero_le (by omega : 0 ≤ n)
  rw [Lib.itoa_nonneg]
  obtain ⟨i1, i2, i3⟩ := digs u (by omega)
  exact ⟨i1, i2, by omega⟩
theorem words_loop (l : List Int) (hl : l.length ≤ 100) (hb : ∀ n ∈ l, badN n = false) : ∀ (suf pre : List Int) (out : List (List UInt8)), l = pre ++ suf → out.length = pre.length →
  loopO (f46_l2 l) (out, (pre.length : Int)) = some (out ++ suf.map word)
 | [], pre, out, e, ho => loopO_done (by
   subst e
   unfold f46_l2 f46_l2_j3
   simp only [lt_end, cond_false]; simp)
 | z :: t, pre, out, e, ho => by
  have hp : pre.length < 100 := by rw [e] at hl; simp at hl; omega
  have hx : idx l (pre.length : Int) = some z := by rw [e]; exact idx_mid pre z t
  have hlt : decide ((pre.length : Int) < (l.length : Int)) = true := by rw [e]; exact lt_mid pre z t
  have ih := words_loop l hl hb t (pre ++ [z]) (out ++ [word z]) (by rw [e]; simp) (by simp [ho])
  have hz := hb z (by rw [e]; simp)
  rw [List.map_cons, show out ++ word z :: t.map word = out ++ [word z] ++ t.map word by simp]
  refine loopO_next ?_ ih
  unfold f46_l2 f46_l2_j3 f46_l2_j4
  simp only [hlt, hx, cond_true, Option.bind_some]
  rw [wrap_nx pre z (by omega)]
  unfold word
  by_cases hn : z < 0
  ·rw [decide_eq_true hn, if_pos hn, ct, app_ok 16 _ _ (by simp; omega), bs]
  ·have hI : libItoaL z = some (Lib.itoa z) := by
    unfold badN at hz; simp at hz
    unfold libItoaL
    rw [if_pos ⟨by omega, by omega⟩]
   rw [decide_eq_false hn, if_neg hn, cf, hI, bs, app_ok 16 _ _ (by simp; omega), bs]
def writeA (l : List Int) : List UInt8 × Int := if l = [] then ([], 1) else if l.any badN then ([], 1) else if 32 < l.length then ([], 2) else (Lib.join (l.map word) [59], 0)
theorem join_small (l : List Int) (hb : ∀ n ∈ l, badN n = false) (hl : l.length ≤ 32) : (Lib.join (l.map word) [59]).length ≤ 600000 := by
 cases l with
 | nil => simp [Lib.join_nil]
 | cons x xs =>
  have := join_len 59 16384 (word x) (xs.map word) (fun w hw => by
   rw [← List.map_cons] at hw
   obtain ⟨n, hn, rfl⟩ := List.mem_map.1 hw
   exact (word_ok n (hb n hn)).2.2)
  rw [List.map_cons]
  simp only [List.length_map, List.length_cons] at this hl
  have : (xs.length + 1) * (16384 + 1) ≤ 32 * 16385 := Nat.mul_le_mul hl (Nat.le_refl _)
  omega
theorem write_ok (l : List Int) (h : l.length ≤ 10000000) : f46 l = some (writeA l) := by
 unfold f46 writeA
 by_cases h0 : l = []
 ·subst h0; rfl
 ·have hp := List.length_pos_iff.2 h0
  rw [decide_eq_false (by omega), cf, any_ok l (by omega), bs, if_neg h0]
  cases ha : l.any badN with
  | true => rw [ct]; rfl
  | false =>
   rw [cf]
   unfold f46_j0
   by_cases h32 : 32 < l.length
   ·rw [decide_eq_true (by omega), ct, if_neg (by simp), if_pos h32]
   ·rw [decide_eq_false (by omega), cf, if_neg (by simp), if_neg h32]
    unfold f46_j1
    have hb : ∀ n ∈ l, badN n = false := fun n hn => by
     have := List.any_eq_false.1 ha n hn
     simpa using this
    rw [show (0 : Int) = (([] : List Int).length : Int) from rfl, words_loop l (by omega) hb l [] [] rfl rfl, bs, List.nil_append]
    have hj := join_small l hb (by omega)
    have : libJoin (l.map word) [59] = some (Lib.join (l.map word) [59]) := by
     unfold libJoin
     rw [if_pos ⟨by simp; omega, by omega⟩]
    rw [this, bs]
theorem read_word (l : List Int) (h0 : l ≠ []) (hb : ∀ n ∈ l, badN n = false) (h32 : l.length ≤ 32) : readA (Lib.join (l.map word) [59]) = (l, 0) := by
 obtain ⟨x, xs, rfl⟩ := List.exists_cons_of_ne_nil h0
 have hw : ∀ w ∈ word x :: xs.map word, ∀ b ∈ w, 48 ≤ b.toNat ∧ b.toNat ≤ 57 := fun w hw b hbw => by
  rw [← List.map_cons] at hw
  obtain ⟨n, hn, rfl⟩ := List.mem_map.1 hw
  exact (word_ok n (hb n hn)).2.1 b hbw
 rw [List.map_cons]
 unfold readA
 have hall : (Lib.join (word x :: xs.map word) [59]).all okB = true := List.all_eq_true.2 fun b hbj => by
  rcases join_mem 59 _ _ b hbj with rfl | ⟨w, h1, h2⟩
  ·decide
  ·have := hw w h1 b h2
   unfold okB; simp; omega
 rw [if_pos hall, join_split 59 _ _ (fun w h1 b h2 e => by have := hw w h1 b h2; subst e; revert this; decide)]
 rw [← List.map_cons, List.map_map]
 have : (x :: xs).map (num ∘ word) = x :: xs := by
  have h := fun n hn => (word_ok n (hb n hn)).1
  have := List.map_congr_left (f := num ∘ word) (g := id) (l := x :: xs) (fun n hn => h n hn)
  rw [this, List.map_id]
 rw [this, List.take_of_length_le h32]

theorem sg_byte (b : UInt8) : sg (b.toNat : Int) = b := by
 unfold sg
 apply UInt8.toNat.inj
 simp
end Go.Proofs.YtbokpgemkkebnaaGreatDoor.Pr
