/- feed_ok nil_okP acts_same lives plain_take pr inters_ok within_ok encT_ok enc_sg write_ok read_word readA_len feed_app word_ok join_small badN: what the typed functions compute, and the laws. -/
import Derived.Test.YthapehjibbjkjaaDoorDPbZ
import Derived.Test.YthapehjibbjkjaaDoorBas
namespace Go.Proofs.YthapehjibbjkjaaDoor.Pm
open Go.Proofs.YthapehjibbjkjaaDoor.Args
open Go.ChangeShapes Go.WideShapes Go.ChangeAt Go.RowKit
set_option linter.unusedVariables false
set_option linter.unusedSimpArgs false
set_option maxRecDepth 100000
abbrev Str := List UInt8
def okB (b : UInt8) : Bool := decide (b.toNat = 59) || (decide (48 ≤ b.toNat) && decide (b.toNat ≤ 57))
def numS (n : Int) (z : UInt8) : Int := if 16383 < (if 0 > n then 0 else n) * 10 + ((z - 48).toNat : Int) then 16383 else (if 0 > n then 0 else n) * 10 + ((z - 48).toNat : Int)
def num (w : List UInt8) : Int := w.foldl numS (-1)
def readA (s : List UInt8) : List Int × Int := if s.all okB then (((splitC 59 s).map num).take 32, 0) else ([], 4)
theorem numS_b (n : Int) (z : UInt8) (h : -1 ≤ n ∧ n ≤ 16383) : 0 ≤ numS n z ∧ numS n z ≤ 16383 := by
  unfold numS
  have := u8_lt (z - 48)
  constructor <;> split <;> split at * <;> omega
theorem num_loop (a1 : List UInt8) (out : List Int) (ps : List (List UInt8)) (k j : Int) : ∀ (suf pre : List UInt8) (n : Int), -1 ≤ n ∧ n ≤ 16383 → (pre ++ suf).length ≤ 100000000 →
    loopO (f27_l2_l6 a1) (out, pre ++ suf, n, ps, k, j, ((pre ++ suf).length : Int), (pre.length : Int)) = some (out, suf.foldl numS n, ps, k, j)
  | [], pre, n, h, hl => loopO_done (by
      unfold f27_l2_l6 f27_l2_l6_j7
      simp only [lt_end, cond_false]; rfl)
  | z :: t, pre, n, h, hl => by
    have e1 : pre ++ z :: t = (pre ++ [z]) ++ t := by simp
    have hb := numS_b n z h
    have ih := num_loop a1 out ps k j t (pre ++ [z]) (numS n z) ⟨by omega, hb.2⟩ (by rw [← e1]; exact hl)
    rw [← e1] at ih
    refine loopO_next ?_ ih
    unfold f27_l2_l6 f27_l2_l6_j7 f27_l2_l6_j8
    simp only [lt_mid, cond_true, idx_mid, Option.bind_some]
    have hp : pre.length < 1000000000 := by simp at hl; omega
    have hz := u8_lt (z - 48)
    have w1 : IntKind.i64.wrap ((if 0 > n then 0 else n) * 10) = (if 0 > n then 0 else n) * 10 := i64w _ (by split <;> omega)
    have w2 : IntKind.i64.wrap ((if 0 > n then 0 else n) * 10 + ((z - 48).toNat : Int)) = (if 0 > n then 0 else n) * 10 + ((z - 48).toNat : Int) := i64w _ (by split <;> omega)
    rw [wrap_nx pre z hp, w1, w2]
    rfl
theorem parts_loop (a1 : List UInt8) (ps : List (List UInt8)) (hps : ∀ w ∈ ps, w.length ≤ 100000000) (hl : ps.length ≤ 100000000) : ∀ (suf pre : List (List UInt8)) (out : List Int), ps = pre ++ suf → out.length ≤ 32 →
    loopO (f27_l2 a1) (out, ps, (ps.length : Int), (pre.length : Int)) = some (out ++ (suf.map num).take (32 - out.length))
  | [], pre, out, e, h => loopO_done (by
      subst e
      unfold f27_l2 f27_l2_j3
      simp only [lt_end, cond_false]
      simp)
  | w :: t, pre, out, e, h => by
    have hp : pre.length < 1000000000 := by rw [e] at hl; simp at hl; omega
    by_cases h32 : out.length = 32
    · refine loopO_done ?_
      subst e
      unfold f27_l2 f27_l2_j3 f27_l2_j4
      simp only [lt_mid, cond_true, idx_mid, Option.bind_some]
      rw [decide_eq_true (show (out.length : Int) = 32 by omega), h32]
      simp
    · have ih := parts_loop a1 ps hps hl t (pre ++ [w]) (out ++ [num w]) (by rw [e]; simp) (by simp; omega)
      have hw := num_loop a1 out ps (ps.length : Int) (pre.length : Int) w [] (-1) (by omega) (by have := hps w (by rw [e]; simp); simpa using this)
      simp only [List.nil_append, List.length_nil] at hw
      have e3 : 32 - out.length = (32 - (out ++ [num w]).length) + 1 := by simp; omega
      have e2 : out ++ ((w :: t).map num).take (32 - out.length) = out ++ [num w] ++ (t.map num).take (32 - (out ++ [num w]).length) := by
        rw [e3, List.map_cons, List.take_succ_cons]; simp
      rw [e2]
      refine loopO_next ?_ ih
      have hx : idx ps (pre.length : Int) = some w := by rw [e]; exact idx_mid pre w t
      have hlt : decide ((pre.length : Int) < (ps.length : Int)) = true := by rw [e]; exact lt_mid pre w t
      unfold f27_l2 f27_l2_j3 f27_l2_j4 f27_l2_j5
      simp only [hlt, hx, cond_true, Option.bind_some]
      rw [decide_eq_false (show ¬ (out.length : Int) = 32 by omega)]
      simp only [cond_false]
      have h0 : (0 : Int) = ((0 : Nat) : Int) := rfl
      rw [h0, hw]
      simp only [Option.bind_some]
      rw [app_ok 8 _ _ (by simp; omega)]
      simp only [Option.bind_some]
      rw [wrap_nx pre w hp]; rfl
theorem check_loop (a1 : List UInt8) : ∀ (suf pre : List UInt8), a1 = pre ++ suf → a1.length ≤ 100000000 →
    loopO (f27_l9 a1) (pre.length : Int) = some (if suf.all okB then .inl () else .inr ([], 4))
  | [], pre, e, h => loopO_done (by
      subst e
      unfold f27_l9 f27_l9_j10
      simp only [lt_end, cond_false]; rfl)
  | z :: t, pre, e, h => by
    have hp : pre.length < 1000000000 := by rw [e] at h; simp at h; omega
    have hx : idx a1 (pre.length : Int) = some z := by rw [e]; exact idx_mid pre z t
    have hlt : decide ((pre.length : Int) < (a1.length : Int)) = true := by rw [e]; exact lt_mid pre z t
    by_cases hz : okB z = true
    · have ih := check_loop a1 t (pre ++ [z]) (by rw [e]; simp) h
      rw [List.all_cons, hz, Bool.true_and]
      refine loopO_next ?_ ih
      unfold f27_l9 f27_l9_j10 f27_l9_j11
      simp only [hlt, hx, cond_true, Option.bind_some]
      rw [wrap_nx pre z hp]
      by_cases h59 : z.toNat = 59
      · rw [decide_eq_true (show (z.toNat : Int) = 59 by omega)]; rfl
      · rw [decide_eq_false (show ¬ (z.toNat : Int) = 59 by omega)]
        unfold okB at hz
        simp [h59] at hz
        rw [decide_eq_false (show ¬ (z.toNat : Int) < 48 by omega), decide_eq_false (show ¬ (57 : Int) < (z.toNat : Int) by omega)]; rfl
    · rw [List.all_cons, Bool.eq_false_iff.2 hz, Bool.false_and]
      refine loopO_done ?_
      unfold f27_l9 f27_l9_j10 f27_l9_j11
      simp only [hlt, hx, cond_true, Option.bind_some]
      unfold okB at hz
      simp at hz
      rw [decide_eq_false (show ¬ (z.toNat : Int) = 59 by omega)]
      simp only [Bool.not_false, cond_true]
      by_cases h48 : z.toNat < 48
      · rw [decide_eq_true (show (z.toNat : Int) < 48 by omega)]; rfl
      · rw [decide_eq_false (show ¬ (z.toNat : Int) < 48 by omega)]
        simp only [cond_false]
        rw [decide_eq_true (show (57 : Int) < (z.toNat : Int) by omega)]; rfl
theorem okB_mem (b : UInt8) (h : okB b = true) : b ∈ ([48, 49, 50, 51, 52, 53, 54, 55, 56, 57, 59] : List UInt8) := by
  unfold okB at h
  have hb : b = UInt8.ofNat b.toNat := u8_of rfl b.toNat_lt
  have : b.toNat = 48 ∨ b.toNat = 49 ∨ b.toNat = 50 ∨ b.toNat = 51 ∨ b.toNat = 52 ∨ b.toNat = 53 ∨ b.toNat = 54 ∨ b.toNat = 55 ∨ b.toNat = 56 ∨ b.toNat = 57 ∨ b.toNat = 59 := by simp at h; omega
  rcases this with e | e | e | e | e | e | e | e | e | e | e <;> rw [hb, e] <;> decide
theorem read_ok (s : List UInt8) (h : s.length ≤ 10000000) : f27 s = some (readA s) := by
  unfold f27 libTrim
  rw [if_pos ⟨by omega, by simp, by decide⟩, bs]
  have hc := check_loop s s [] rfl (by omega)
  have h0 : (0 : Int) = (([] : List UInt8).length : Int) := rfl
  unfold readA
  cases ha : s.all okB with
  | true =>
    rw [ha] at hc
    have ht : Lib.trimS s [48, 49, 50, 51, 52, 53, 54, 55, 56, 57, 59] = [] := trim_all s _ fun b hb => okB_mem b (List.all_eq_true.1 ha b hb)
    rw [ht, decide_eq_true rfl, Bool.not_true, cf]
    unfold f27_j0
    rw [h0, hc, bs, if_pos rfl, Sum.elim_inl]
    unfold f27_j1
    rw [split_ok s 59 (by omega), bs]
    have hp := parts_loop s (splitC 59 s) (fun w hw => by have := (splitC_part 59 s w hw).1; omega) (by have := splitC_len 59 s; omega) (splitC 59 s) [] [] rfl (by simp)
    simp only [List.length_nil, List.nil_append] at hp
    rw [h0, show ((([] : List UInt8).length : Int)) = ((0 : Nat) : Int) from rfl, hp, bs]
    rfl
  | false =>
    rw [ha] at hc
    by_cases ht : Lib.trimS s [48, 49, 50, 51, 52, 53, 54, 55, 56, 57, 59] = []
    · rw [ht, decide_eq_true rfl, Bool.not_true, cf]
      unfold f27_j0
      rw [h0, hc, bs, if_neg (by simp), Sum.elim_inr]; rfl
    · rw [decide_eq_false ht, Bool.not_false, ct]; rfl
theorem readA_len (s : List UInt8) : (readA s).1.length ≤ 32 := by
  unfold readA
  split
  · simp; omega
  · simp
theorem eq_loop (l : List Int) : ∀ (suf pre : List Int), pre ++ suf = l → l.length ≤ 2000000 → loopO (f35_l1 l l) (pre.length : Int) = some (.inl ())
  | [], pre, e, h => loopO_done (by
      subst e
      unfold f35_l1 f35_l1_j2
      simp only [lt_end, cond_false])
  | x :: t, pre, e, h => by
    have hx : l = pre ++ x :: t := e.symm
    refine loopO_next ?_ (eq_loop l t (pre ++ [x]) (by simp [hx]) h)
    have hp : pre.length < 1000000000 := by rw [hx] at h; simp at h; omega
    rw [hx]
    unfold f35_l1 f35_l1_j2 f35_l1_j3
    simp only [lt_mid, cond_true, idx_mid, Option.bind_some, decide_true, Bool.and_self, Bool.not_true, cond_false]
    rw [wrap_nx pre x hp]
theorem eq62 (l : List Int) (h : l.length ≤ 2000000) : f35 l l = some true := by
  unfold f35
  rw [decide_eq_true rfl]
  simp only [Bool.not_true, cond_false]
  unfold f35_j0
  have := eq_loop l l [] rfl h
  rw [show ((0 : Int)) = (([] : List Int).length : Int) from rfl, this]; rfl

def drp : GAct := ⟨6, 0, 0, [], [], []⟩
def nilP (s : Int) : GParser := ⟨s, 0, [], [], []⟩
theorem emit_ok (a : GAct) (S M : Int) (I A T : Str) (l : List GAct) (h : l.length ≤ 700000000) : f29 a S M I A T l = some (S, M, I, A, T, l ++ [a]) := by
  unfold f29
  rw [app_ok 80 _ _ (by simp; omega), bs]
theorem drop_ok (s S M : Int) (I A T : Str) (l : List GAct) (h : l.length ≤ 700000000) : f31 s S M I A T l = some (s, l ++ [drp]) := by
  unfold f31
  rw [show GAct.mk 6 0 0 [] [] [] = drp from rfl, emit_ok _ _ _ _ _ _ _ h, bs]
  unfold f30
  rw [bs]
theorem final_ok (a : GAct) (S M : Int) (I A T : Str) (l : List GAct) (h : l.length ≤ 700000000) : f47 a S M I A T l = some (0, l ++ [if I.length = 3 then drp else a]) := by
  unfold f47
  by_cases h3 : I.length = 3
  · rw [decide_eq_true (by omega), ct, if_pos h3, show GAct.mk 6 0 0 [] [] [] = drp from rfl, emit_ok _ _ _ _ _ _ _ h, bs]
    unfold f30
    rw [bs]
  · rw [decide_eq_false (by omega), cf, if_neg h3, emit_ok _ _ _ _ _ _ _ h, bs]
    unfold f30
    rw [bs]
def sg (c : Int) : UInt8 := UInt8.ofNat c.toNat
theorem enc_tab : ((List.range 64).all fun n => decide ((Utf8.encode (IntKind.i32.wrap (n : Int))).data.toList = [UInt8.ofNat n])) = true := by kernel_rfl
theorem enc_sg (c : Int) (h : 0 ≤ c ∧ c < 64) : (Utf8.encode (IntKind.i32.wrap c)).data.toList = [sg c] := by
  obtain ⟨n, rfl⟩ := Int.eq_ofNat_of_zero_le h.1
  exact of_decide_eq_true (List.all_eq_true.1 enc_tab n (List.mem_range.2 (by omega)))
def moreI (I : Str) (c : Int) : Str := if I.length < 3 then I ++ [sg c] else I
theorem more_ok (c S M : Int) (I A T : Str) (l : List GAct) (hc : 0 ≤ c ∧ c < 64) : f46 c S M I A T l = some (S, M, moreI I c, A, T, l) := by
  unfold f46 moreI
  rw [enc_sg c hc]
  by_cases h3 : I.length < 3
  · rw [decide_eq_true (by omega), ct, if_pos h3, cat_ok _ _ (by simp; omega), bs]
  · rw [decide_eq_false (by omega), cf, if_neg h3]
theorem within_ok (n a b : Int) : f10 n a b = some (decide (a ≤ n) && decide (n ≤ b)) := by
  unfold f10
  cases decide (a ≤ n) <;> cases decide (n ≤ b) <;> rfl
/-- A code point's bytes. -/
def encR (r : Int) : Str :=
  bif decide (IntKind.u32.wrap r ≤ 127) then [u8 r] else
  bif decide (IntKind.u32.wrap r ≤ 2047) then [(192 : UInt8) ||| u8 (Int.fdiv r (2 ^ 6)), (128 : UInt8) ||| (u8 r &&& (63 : UInt8))] else
  bif (bif decide (IntKind.u32.wrap r < 55296) then true else (decide (57343 < IntKind.u32.wrap r) && decide (IntKind.u32.wrap r ≤ 65535))) then [(224 : UInt8) ||| u8 (Int.fdiv r (2 ^ 12)), (128 : UInt8) ||| (u8 (Int.fdiv r (2 ^ 6)) &&& (63 : UInt8)), (128 : UInt8) ||| (u8 r &&& (63 : UInt8))] else
  bif (decide (65535 < IntKind.u32.wrap r) && decide (IntKind.u32.wrap r ≤ 1114111)) then [(240 : UInt8) ||| u8 (Int.fdiv r (2 ^ 18)), (128 : UInt8) ||| (u8 (Int.fdiv r (2 ^ 12)) &&& (63 : UInt8)), (128 : UInt8) ||| (u8 (Int.fdiv r (2 ^ 6)) &&& (63 : UInt8)), (128 : UInt8) ||| (u8 r &&& (63 : UInt8))] else [239, 191, 189]
theorem ap1 (a : UInt8) : app? 1 [] [a] = some [a] := app_ok 1 [] [a] (by simp)
theorem ap2 (a b : UInt8) : app? 1 [] [a, b] = some [a, b] := app_ok 1 [] [a, b] (by simp)
theorem ap3 (a b c : UInt8) : app? 1 [] [a, b, c] = some [a, b, c] := app_ok 1 [] [a, b, c] (by simp)
theorem ap4 (a b c d : UInt8) : app? 1 [] [a, b, c, d] = some [a, b, c, d] := app_ok 1 [] [a, b, c, d] (by simp)
theorem encR_ok (r : Int) : f60 r [] = some (encR r) := by
  unfold f60 encR f74 f74_j0
  simp only [ap1, ap2, ap3, ap4, bs]
  generalize decide (IntKind.u32.wrap r ≤ 127) = b1
  generalize decide (IntKind.u32.wrap r ≤ 2047) = b2
  generalize decide (IntKind.u32.wrap r < 55296) = b3
  generalize decide (57343 < IntKind.u32.wrap r) = b4
  generalize decide (IntKind.u32.wrap r ≤ 65535) = b5
  generalize decide (65535 < IntKind.u32.wrap r) = b6
  generalize decide (IntKind.u32.wrap r ≤ 1114111) = b7
  cases b1 <;> cases b2 <;> cases b3 <;> cases b4 <;> cases b5 <;> cases b6 <;> cases b7 <;> rfl
theorem encR_len (r : Int) : (encR r).length ≤ 4 := by
  unfold encR
  generalize decide (IntKind.u32.wrap r ≤ 127) = b1
  generalize decide (IntKind.u32.wrap r ≤ 2047) = b2
  generalize (bif decide (IntKind.u32.wrap r < 55296) then true else (decide (57343 < IntKind.u32.wrap r) && decide (IntKind.u32.wrap r ≤ 65535))) = b3
  generalize (decide (65535 < IntKind.u32.wrap r) && decide (IntKind.u32.wrap r ≤ 1114111)) = b4
  cases b1 <;> cases b2 <;> cases b3 <;> cases b4 <;> simp
def encT (c : Int) : Str := encR (if c < 0 ∨ 1114111 < c ∨ (55296 ≤ c ∧ c ≤ 57343) then 65533 else IntKind.i32.wrap c)
theorem encT_ok (c : Int) : f45 [c] = some (encT c) := by
  unfold f45
  have h1 : f45_l0 [c] ([], 0) = some (.inl (encT c, 1)) := by
    unfold f45_l0 f45_l0_j1 f45_l0_j2 encT
    simp only
    rw [decide_eq_true (by simp), ct, ct, show idx [c] 0 = some c from idx_mid [] c [], bs, show IntKind.i64.wrap (0 + 1) = 1 from rfl]
    by_cases a : c < 0
    · rw [decide_eq_true a, ct, if_pos (.inl a), encR_ok, bs]
    · rw [decide_eq_false a, cf]
      by_cases b : 1114111 < c
      · rw [decide_eq_true b, ct, if_pos (.inr (.inl b)), encR_ok, bs]
      · rw [decide_eq_false b, cf]
        by_cases d : 55296 ≤ c
        · rw [decide_eq_true d, ct]
          by_cases e : c ≤ 57343
          · rw [decide_eq_true e, ct, if_pos (.inr (.inr ⟨d, e⟩)), encR_ok, bs]
          · rw [decide_eq_false e, cf, if_neg (by omega), encR_ok, bs]
        · rw [decide_eq_false d, cf, if_neg (by omega), encR_ok, bs]
  have h2 : f45_l0 [c] (encT c, 1) = some (.inr (encT c)) := by
    unfold f45_l0 f45_l0_j1
    simp only
    rw [decide_eq_false (by simp), cf, cf]
  rw [loopO_next h1 (loopO_done h2), bs]
/-- What a code point does. -/
def textP (p : GParser) (c : Int) : GParser × List GAct :=
  if c = 27 then (⟨p.State + 1, p.Mark, p.Inter, p.Args, p.Text⟩, []) else if c = 24 then (nilP 0, [drp]) else if c = 26 then (nilP 0, [drp]) else if p.State = 9 then (p, []) else if c = 7 then (nilP 0, [⟨5, 0, 0, [], [], p.Text⟩]) else if c < 32 then (p, []) else if 127 ≤ c ∧ c ≤ 159 then (p, []) else if (p.Text ++ encT c).length ≤ 256 then (⟨p.State, p.Mark, p.Inter, p.Args, p.Text ++ encT c⟩, []) else (p, [])
def finalP (a : GAct) (p : GParser) : GParser × List GAct := (nilP 0, [if p.Inter.length = 3 then drp else a])
def escP (p : GParser) (c : Int) : GParser × List GAct :=
  if c < 48 then (⟨2, p.Mark, moreI p.Inter c, p.Args, p.Text⟩, []) else if p.State = 2 then finalP ⟨3, c, 0, p.Inter, [], []⟩ p else if c = 91 then (⟨3, p.Mark, p.Inter, p.Args, p.Text⟩, []) else if c = 93 then (⟨7, p.Mark, p.Inter, p.Args, p.Text⟩, []) else if 0 ≤ Lib.indexByte [80, 88, 94, 95] (u8 c) then (⟨9, p.Mark, p.Inter, p.Args, p.Text⟩, []) else finalP ⟨3, c, 0, [], [], []⟩ p
def csiP (p : GParser) (c : Int) : GParser × List GAct :=
  if p.State = 6 then (if 64 ≤ c then (nilP 0, [drp]) else (p, [])) else if c < 48 then (⟨5, p.Mark, moreI p.Inter c, p.Args, p.Text⟩, []) else if 64 ≤ c then finalP ⟨4, c, p.Mark, p.Inter, (readA p.Args).1, []⟩ p else if p.State = 5 then (nilP 6, []) else if c = 58 then (nilP 6, []) else if c < 60 then (⟨4, p.Mark, p.Inter, (if p.Args.length < 100 then p.Args ++ [sg c] else p.Args), p.Text⟩, []) else if p.State = 3 then (⟨4, c, p.Inter, p.Args, p.Text⟩, []) else (nilP 6, [])
def ctrlP (p : GParser) (c : Int) : Option (GParser × List GAct) :=
  if c = 27 then some (nilP 1, if p.State = 0 then [] else [drp]) else if c = 24 then some (nilP 0, if p.State = 0 then [] else [drp]) else if c = 26 then some (nilP 0, if p.State = 0 then [] else [drp]) else if c < 32 then some (p, [⟨2, c, 0, [], [], []⟩]) else if 127 ≤ c ∧ c ≤ 159 then some (p, []) else none
def afterP (p : GParser) (c : Int) : GParser × List GAct := match ctrlP p c with
  | some r => r
  | none => if p.State = 0 then (p, [⟨1, c, 0, [], [], []⟩]) else if 160 ≤ c then (nilP 0, [drp]) else if p.State ≤ 2 then escP p c else csiP p c
def takeP (p : GParser) (c : Int) : GParser × List GAct :=
  if c < 0 then (p, []) else if 1114111 < c then (p, []) else if p.State = 7 ∨ p.State = 9 then textP p c else if p.State = 8 ∨ p.State = 10 then (if c = 92 then (nilP 0, [if p.State = 8 then ⟨5, 0, 0, [], [], p.Text⟩ else drp]) else ((afterP (nilP 1) c).1, drp :: (afterP (nilP 1) c).2)) else afterP p c
/-- A parser and what it told, as the code holds them. -/
def pk (l : List GAct) (r : GParser × List GAct) : Int × Int × Str × Str × Str × List GAct := (r.1.State, r.1.Mark, r.1.Inter, r.1.Args, r.1.Text, l ++ r.2)
theorem pk_nil (l : List GAct) (p : GParser) : pk l (p, []) = (p.State, p.Mark, p.Inter, p.Args, p.Text, l) := by simp [pk]
theorem text_ok (c : Int) (p : GParser) (l : List GAct) (h : l.length ≤ 700000000) (hS : 0 ≤ p.State ∧ p.State ≤ 10) (hT : p.Text.length ≤ 256) : f28 c p.State p.Mark p.Inter p.Args p.Text l = some (pk l (textP p c)) := by
  unfold f28 textP
  by_cases h27 : c = 27
  · rw [decide_eq_true h27, ct, if_pos h27, pk_nil, i64w _ (by omega)]
  rw [decide_eq_false h27, cf, if_neg h27]
  by_cases h24 : c = 24
  · rw [decide_eq_true h24, ct, if_pos h24, drop_ok _ _ _ _ _ _ _ h, bs]; rfl
  rw [decide_eq_false h24, cf, if_neg h24]
  by_cases h26 : c = 26
  · rw [decide_eq_true h26, ct, if_pos h26, drop_ok _ _ _ _ _ _ _ h, bs]; rfl
  rw [decide_eq_false h26, cf, if_neg h26]
  by_cases h9 : p.State = 9
  · rw [decide_eq_true h9, ct, if_pos h9, pk_nil]
  rw [decide_eq_false h9, cf, if_neg h9]
  by_cases h7 : c = 7
  · rw [decide_eq_true h7, ct, if_pos h7, emit_ok _ _ _ _ _ _ _ h, bs]
    unfold f30
    rw [bs]; rfl
  rw [decide_eq_false h7, cf, if_neg h7]
  by_cases h32 : c < 32
  · rw [decide_eq_true h32, ct, if_pos h32, pk_nil]
  rw [decide_eq_false h32, cf, if_neg h32, within_ok, bs]
  by_cases hw : 127 ≤ c ∧ c ≤ 159
  · rw [decide_eq_true hw.1, decide_eq_true hw.2, Bool.and_self, ct, if_pos hw, pk_nil]
  rw [show (decide ((127 : Int) ≤ c) && decide (c ≤ 159)) = false by rw [← Bool.decide_and]; exact decide_eq_false hw, cf, if_neg hw, encT_ok, bs, cat_ok _ _ (by have := encR_len (if c < 0 ∨ 1114111 < c ∨ (55296 ≤ c ∧ c ≤ 57343) then 65533 else IntKind.i32.wrap c); show p.Text.length + (encR _).length ≤ _; omega), bs]
  by_cases hl : (p.Text ++ encT c).length ≤ 256
  · rw [decide_eq_true (by omega), ct, if_pos hl, pk_nil]
  · rw [decide_eq_false (by omega), cf, if_neg hl, pk_nil]
theorem esc_ok (c : Int) (p : GParser) (l : List GAct) (h : l.length ≤ 700000000) (hc : 0 ≤ c) : f33 c p.State p.Mark p.Inter p.Args p.Text l = some (pk l (escP p c)) := by
  unfold f33 escP
  by_cases h48 : c < 48
  · rw [decide_eq_true h48, ct, if_pos h48, more_ok _ _ _ _ _ _ _ (by omega), bs, pk_nil]
  rw [decide_eq_false h48, cf, if_neg h48]
  by_cases h2 : p.State = 2
  · rw [decide_eq_true h2, ct, if_pos h2, final_ok _ _ _ _ _ _ _ h, bs]; rfl
  rw [decide_eq_false h2, cf, if_neg h2]
  by_cases h91 : c = 91
  · rw [decide_eq_true h91, ct, if_pos h91, pk_nil]
  rw [decide_eq_false h91, cf, if_neg h91]
  by_cases h93 : c = 93
  · rw [decide_eq_true h93, ct, if_pos h93, pk_nil]
  rw [decide_eq_false h93, cf, if_neg h93]
  unfold libIndexByte
  rw [bs]
  by_cases hi : 0 ≤ Lib.indexByte [80, 88, 94, 95] (u8 c)
  · rw [decide_eq_true hi, ct, if_pos hi, pk_nil]
  rw [decide_eq_false hi, cf, if_neg hi, final_ok _ _ _ _ _ _ _ h, bs]; rfl
theorem csi_ok (c : Int) (p : GParser) (l : List GAct) (h : l.length ≤ 700000000) (hc : 0 ≤ c) (hA : p.Args.length ≤ 100) : f34 c p.State p.Mark p.Inter p.Args p.Text l = some (pk l (csiP p c)) := by
  unfold f34 csiP
  by_cases h6 : p.State = 6
  · rw [decide_eq_true h6, ct, if_pos h6]
    by_cases h64 : 64 ≤ c
    · rw [decide_eq_true h64, ct, if_pos h64, drop_ok _ _ _ _ _ _ _ h, bs]; rfl
    · rw [decide_eq_false h64, cf, if_neg h64, pk_nil]
  rw [decide_eq_false h6, cf, if_neg h6]
  by_cases h48 : c < 48
  · rw [decide_eq_true h48, ct, if_pos h48, more_ok _ _ _ _ _ _ _ (by omega), bs, pk_nil]
  rw [decide_eq_false h48, cf, if_neg h48]
  by_cases h64 : 64 ≤ c
  · rw [decide_eq_true h64, ct, if_pos h64, read_ok _ (by omega), bs]
    unfold f34_j0
    rw [final_ok _ _ _ _ _ _ _ h, bs]; rfl
  rw [decide_eq_false h64, cf, if_neg h64]
  by_cases h5 : p.State = 5
  · rw [decide_eq_true h5, ct, if_pos h5, pk_nil]
    unfold f48
    rw [bs]; rfl
  rw [decide_eq_false h5, cf, if_neg h5]
  by_cases h58 : c = 58
  · rw [decide_eq_true h58, ct, if_pos h58, pk_nil]
    unfold f48
    rw [bs]; rfl
  rw [decide_eq_false h58, cf, if_neg h58]
  by_cases h60 : c < 60
  · rw [decide_eq_true h60, ct, if_pos h60, pk_nil]
    by_cases ha : p.Args.length < 100
    · rw [decide_eq_true (by omega), ct, if_pos ha, enc_sg c (by omega), cat_ok _ _ (by simp; omega), bs]
    · rw [decide_eq_false (by omega), cf, if_neg ha]
  rw [decide_eq_false h60, cf, if_neg h60]
  by_cases h3 : p.State = 3
  · rw [decide_eq_true h3, ct, if_pos h3, pk_nil]
  · rw [decide_eq_false h3, cf, if_neg h3, pk_nil]
    unfold f48
    rw [bs]; rfl
theorem ctrl_j (c nx : Int) (p : GParser) (l : List GAct) (h : l.length ≤ 700000000) : f32_j0 c p.State p.Mark p.Inter p.Args p.Text l nx = some (nx, 0, [], [], [], l ++ (if p.State = 0 then [] else [drp]), true) := by
  unfold f32_j0
  by_cases h0 : p.State = 0
  · rw [decide_eq_true h0, Bool.not_true, cf, if_pos h0]
    unfold f30
    rw [bs, List.append_nil]
  · rw [decide_eq_false h0, Bool.not_false, ct, if_neg h0, show GAct.mk 6 0 0 [] [] [] = drp from rfl, emit_ok _ _ _ _ _ _ _ h, bs]
    unfold f30
    rw [bs]
theorem ctrl_ok (c : Int) (p : GParser) (l : List GAct) (h : l.length ≤ 700000000) : f32 c p.State p.Mark p.Inter p.Args p.Text l = some (match ctrlP p c with
    | some r => (r.1.State, r.1.Mark, r.1.Inter, r.1.Args, r.1.Text, l ++ r.2, true)
    | none => (p.State, p.Mark, p.Inter, p.Args, p.Text, l, false)) := by
  unfold f32 ctrlP
  by_cases h27 : c = 27
  · rw [decide_eq_true h27, ct, if_pos h27, ctrl_j c 1 p l h]; rfl
  rw [decide_eq_false h27, cf, if_neg h27]
  by_cases h24 : c = 24
  · rw [decide_eq_true h24, ct, if_pos h24]
    unfold f32_j1
    rw [ctrl_j c 0 p l h]; rfl
  rw [decide_eq_false h24, cf, if_neg h24]
  by_cases h26 : c = 26
  · rw [decide_eq_true h26, ct, if_pos h26]
    unfold f32_j1
    rw [ctrl_j c 0 p l h]; rfl
  rw [decide_eq_false h26, cf, if_neg h26]
  by_cases h32 : c < 32
  · rw [decide_eq_true h32, ct, if_pos h32, emit_ok _ _ _ _ _ _ _ h, bs]
  rw [decide_eq_false h32, cf, if_neg h32, within_ok, bs]
  by_cases hw : 127 ≤ c ∧ c ≤ 159
  · rw [decide_eq_true hw.1, decide_eq_true hw.2, Bool.and_self, if_pos hw]
    simp only [List.append_nil]
  · rw [show (decide ((127 : Int) ≤ c) && decide (c ≤ 159)) = false by rw [← Bool.decide_and]; exact decide_eq_false hw, if_neg hw]
theorem ctrl_none {p : GParser} {c : Int} (h : ctrlP p c = none) : 32 ≤ c ∧ ¬ (127 ≤ c ∧ c ≤ 159) := by
  unfold ctrlP at h
  by_cases h27 : c = 27
  · rw [if_pos h27] at h; cases h
  rw [if_neg h27] at h
  by_cases h24 : c = 24
  · rw [if_pos h24] at h; cases h
  rw [if_neg h24] at h
  by_cases h26 : c = 26
  · rw [if_pos h26] at h; cases h
  rw [if_neg h26] at h
  by_cases h32 : c < 32
  · rw [if_pos h32] at h; cases h
  rw [if_neg h32] at h
  by_cases hw : 127 ≤ c ∧ c ≤ 159
  · rw [if_pos hw] at h; cases h
  exact ⟨by omega, hw⟩
theorem after_ok (c : Int) (x1 x2 : Int) (x3 x4 x5 : Str) (x6 : List GAct) (p : GParser) (l : List GAct) (h : l.length ≤ 700000000) (hA : p.Args.length ≤ 100) : f17_j1 c x1 x2 x3 x4 x5 x6 p.State p.Mark p.Inter p.Args p.Text l = some (pk l (afterP p c)) := by
  unfold f17_j1 afterP
  rw [ctrl_ok c p l h, bs]
  cases hc : ctrlP p c with
  | some r => simp only [cond_true]; rfl
  | none =>
    have h32 := (ctrl_none hc).1
    simp only [cond_false]
    by_cases h0 : p.State = 0
    · rw [decide_eq_true h0, ct, if_pos h0, emit_ok _ _ _ _ _ _ _ h, bs]; rfl
    rw [decide_eq_false h0, cf, if_neg h0]
    by_cases h160 : 160 ≤ c
    · rw [decide_eq_true h160, ct, if_pos h160, drop_ok _ _ _ _ _ _ _ h, bs]; rfl
    rw [decide_eq_false h160, cf, if_neg h160]
    by_cases h2 : p.State ≤ 2
    · rw [decide_eq_true h2, ct, if_pos h2, esc_ok c p l h (by omega), bs]
    · rw [decide_eq_false h2, cf, if_neg h2, csi_ok c p l h (by omega) hA, bs]
theorem take_ok (c : Int) (p : GParser) (l : List GAct) (h : l.length ≤ 650000000) (hS : 0 ≤ p.State ∧ p.State ≤ 10) (hA : p.Args.length ≤ 100) (hT : p.Text.length ≤ 256) : f17 c p.State p.Mark p.Inter p.Args p.Text l = some (pk l (takeP p c)) := by
  unfold f17 takeP
  by_cases h0 : c < 0
  · rw [decide_eq_true h0, ct, if_pos h0, pk_nil]
  rw [decide_eq_false h0, cf, if_neg h0]
  by_cases h1 : 1114111 < c
  · rw [decide_eq_true h1, ct, if_pos h1, pk_nil]
  rw [decide_eq_false h1, cf, if_neg h1]
  have ht : f17_j2 c p.State p.Mark p.Inter p.Args p.Text l true = some (pk l (textP p c)) := by
    unfold f17_j2
    rw [ct, text_ok c p l (by omega) hS hT, bs]
  unfold f17_j0
  by_cases h7 : p.State = 7
  · rw [decide_eq_true h7, ct, if_pos (.inl h7), ht]
  rw [decide_eq_false h7, cf]
  by_cases h9 : p.State = 9
  · rw [decide_eq_true h9, ct, if_pos (.inr h9), ht]
  rw [decide_eq_false h9, cf, if_neg (by omega)]
  have hb : (p.State = 8 ∨ p.State = 10) → f17_j3 c p.State p.Mark p.Inter p.Args p.Text l true = some (pk l (if c = 92 then (nilP 0, [if p.State = 8 then ⟨5, 0, 0, [], [], p.Text⟩ else drp]) else ((afterP (nilP 1) c).1, drp :: (afterP (nilP 1) c).2))) := fun _ => by
    unfold f17_j3
    rw [ct]
    by_cases h92 : c = 92
    · rw [decide_eq_true h92, ct, if_pos h92]
      by_cases h8 : p.State = 8
      · rw [decide_eq_true h8, ct, if_pos h8, emit_ok _ _ _ _ _ _ _ (by omega), bs]
        unfold f30
        rw [bs]; rfl
      · rw [decide_eq_false h8, cf, if_neg h8, show GAct.mk 6 0 0 [] [] [] = drp from rfl, emit_ok _ _ _ _ _ _ _ (by omega), bs]
        unfold f30
        rw [bs]; rfl
    · rw [decide_eq_false h92, cf, if_neg h92, drop_ok _ _ _ _ _ _ _ (by omega), bs]
      have := after_ok c p.State p.Mark p.Inter p.Args p.Text l (nilP 1) (l ++ [drp]) (by simp; omega) (by simp [nilP])
      refine this.trans ?_
      simp [pk]
  unfold f17_j2
  by_cases h8 : p.State = 8
  · rw [cf, decide_eq_true h8, ct, if_pos (.inl h8), hb (.inl h8)]
  rw [cf, decide_eq_false h8, cf]
  by_cases h10 : p.State = 10
  · rw [decide_eq_true h10, ct, if_pos (.inr h10), hb (.inr h10)]
  rw [decide_eq_false h10, cf, if_neg (by omega)]
  unfold f17_j3
  rw [cf, after_ok c _ _ _ _ _ _ p l (by omega) hA]

/-- Check. -/
def inB (b : UInt8) : Bool := decide ((32 : Int) ≤ (b.toNat : Int)) && decide ((b.toNat : Int) ≤ 47)
theorem inters_loop (a : Str) (k : Int) : ∀ (suf pre : Str), a = pre ++ suf → a.length ≤ 100000000 →
    loopO (f11_l0 a k) (pre.length : Int) = some (if suf.all inB then .inl () else .inr false)
  | [], pre, e, h => loopO_done (by
      subst e
      unfold f11_l0 f11_l0_j1
      simp only [lt_end, cond_false]; rfl)
  | z :: t, pre, e, h => by
    have hp : pre.length < 1000000000 := by rw [e] at h; simp at h; omega
    have hx : idx a (pre.length : Int) = some z := by rw [e]; exact idx_mid pre z t
    have hlt : decide ((pre.length : Int) < (a.length : Int)) = true := by rw [e]; exact lt_mid pre z t
    have hw : f10 (z.toNat : Int) 32 47 = some (inB z) := within_ok _ _ _
    rw [List.all_cons]
    cases hz : inB z with
    | true =>
      have ih := inters_loop a k t (pre ++ [z]) (by rw [e]; simp) h
      rw [Bool.true_and]
      refine loopO_next ?_ ih
      unfold f11_l0 f11_l0_j1 f11_l0_j2
      simp only [hlt, cond_true]
      rw [hx, bs, hw, bs, hz, Bool.not_true, cf, wrap_nx pre z hp]
    | false =>
      rw [Bool.false_and, if_neg (by simp)]
      refine loopO_done ?_
      unfold f11_l0 f11_l0_j1 f11_l0_j2
      simp only [hlt, cond_true]
      rw [hx, bs, hw, bs, hz, Bool.not_false, ct]
theorem inters_ok (a : Str) (k : Int) (h : a.length ≤ 100000000) : f11 a k = some (a.all inB && decide ((a.length : Int) ≤ k)) := by
  unfold f11
  have := inters_loop a k a [] rfl h
  rw [show ((([] : Str).length : Nat) : Int) = 0 from rfl] at this
  rw [this, bs]
  cases a.all inB with
  | true =>
    rw [if_pos rfl, Sum.elim_inl, Bool.true_and]
    cases decide ((a.length : Int) ≤ k) <;> rfl
  | false => rw [if_neg (by simp), Sum.elim_inr]; rfl
def tB (p : GParser) : Bool := decide ((p.Text.length : Int) ≤ 256) && (decide (p.Text = []) || (decide (p.State = 7) || decide (p.State = 8)))
def aB (p : GParser) : Bool := decide ((p.Args.length : Int) ≤ 100) && (decide (p.Args = []) || (decide (p.State = 4) || decide (p.State = 5)))
def iB (p : GParser) (q : Bool) : Bool := (p.Inter.all inB && decide ((p.Inter.length : Int) ≤ 3)) && ((!decide (p.Inter = [])) == q)
def mB (p : GParser) : Bool := decide (p.Mark = 0) || ((decide (60 ≤ p.Mark) && decide (p.Mark ≤ 63)) && (decide (p.State = 4) || decide (p.State = 5)))
def okP (p : GParser) : Bool := (decide (0 ≤ p.State) && decide (p.State ≤ 10)) && mB p && iB p (decide (p.State = 2) || decide (p.State = 5)) && (decide ((readA p.Args).2 = 0) && aB p) && tB p
theorem chk3 (p : GParser) (b : Bool) : f16_j3 p b = some (bif b && tB p then 0 else 4) := by
  unfold f16_j3 tB
  generalize decide ((p.Text.length : Int) ≤ 256) = x1
  generalize decide (p.Text = []) = x2
  generalize decide (p.State = 7) = x3
  generalize decide (p.State = 8) = x4
  cases b <;> cases x1 <;> cases x2 <;> cases x3 <;> cases x4 <;> rfl
theorem chk2 (p : GParser) (e : Int) (b : Bool) : f16_j2 p e b = some (bif b && (decide (e = 0) && aB p) && tB p then 0 else 4) := by
  unfold f16_j2 aB
  simp only [chk3]
  generalize tB p = t
  generalize decide (e = 0) = x0
  generalize decide ((p.Args.length : Int) ≤ 100) = x1
  generalize decide (p.Args = []) = x2
  generalize decide (p.State = 4) = x3
  generalize decide (p.State = 5) = x4
  cases b <;> cases t <;> cases x0 <;> cases x1 <;> cases x2 <;> cases x3 <;> cases x4 <;> rfl
theorem chk1 (p : GParser) (q : Bool) (e : Int) (b : Bool) (h : p.Inter.length ≤ 100000000) : f16_j1 p q e b = some (bif b && iB p q && (decide (e = 0) && aB p) && tB p then 0 else 4) := by
  unfold f16_j1 iB
  simp only [chk2, inters_ok _ _ h, bs]
  generalize tB p = t
  generalize (decide (e = 0) && aB p) = x0
  generalize (p.Inter.all inB && decide ((p.Inter.length : Int) ≤ 3)) = x1
  generalize decide (p.Inter = []) = x2
  cases b <;> cases q <;> cases t <;> cases x0 <;> cases x1 <;> cases x2 <;> rfl
theorem chk0 (p : GParser) (q : Bool) (h : p.Inter.length ≤ 10000000) (hA : p.Args.length ≤ 10000000) : f16_j0 p q = some (bif (decide (0 ≤ p.State) && decide (p.State ≤ 10)) && mB p && iB p q && (decide ((readA p.Args).2 = 0) && aB p) && tB p then 0 else 4) := by
  unfold f16_j0 mB
  have h' : p.Inter.length ≤ 100000000 := by omega
  rw [read_ok _ hA, bs, within_ok, bs, within_ok, bs]
  simp only [chk1 _ _ _ _ h']
  generalize tB p = t
  generalize (decide ((readA p.Args).2 = 0) && aB p) = x0
  generalize iB p q = x1
  generalize (decide (0 ≤ p.State) && decide (p.State ≤ 10)) = x2
  generalize decide (p.Mark = 0) = x3
  generalize (decide (60 ≤ p.Mark) && decide (p.Mark ≤ 63)) = x4
  generalize decide (p.State = 4) = x5
  generalize decide (p.State = 5) = x6
  cases t <;> cases x0 <;> cases x1 <;> cases x2 <;> cases x3 <;> cases x4 <;> cases x5 <;> cases x6 <;> rfl
theorem check_ok (p : GParser) (h : p.Inter.length ≤ 10000000) (hA : p.Args.length ≤ 10000000) : f16 p = some (bif okP p then 0 else 4) := by
  unfold f16 okP
  simp only [chk0 p _ h hA]
  cases decide (p.State = 2) <;> cases decide (p.State = 5) <;> rfl
structure OkP (p : GParser) : Prop where
  st : 0 ≤ p.State ∧ p.State ≤ 10
  mA : p.Mark = 0 ∨ (60 ≤ p.Mark ∧ p.Mark ≤ 63 ∧ (p.State = 4 ∨ p.State = 5))
  ia : p.Inter.all inB = true
  il : p.Inter.length ≤ 3
  ie : (p.State = 2 ∨ p.State = 5) ↔ p.Inter ≠ []
  aa : p.Args.all okB = true
  al : p.Args.length ≤ 100
  ae : p.Args = [] ∨ p.State = 4 ∨ p.State = 5
  tl : p.Text.length ≤ 256
  te : p.Text = [] ∨ p.State = 7 ∨ p.State = 8
theorem read_all (s : Str) : (readA s).2 = 0 ↔ s.all okB = true := by
  unfold readA
  split
  · rename_i h; simp [h]
  · rename_i h; simp [h]
theorem ok_iff (p : GParser) : okP p = true ↔ OkP p := by
  unfold okP mB iB aB tB
  simp only [Bool.and_eq_true, Bool.or_eq_true, decide_eq_true_eq, read_all]
  have hie : ((!decide (p.Inter = [])) == (decide (p.State = 2) || decide (p.State = 5))) = true ↔ ((p.State = 2 ∨ p.State = 5) ↔ p.Inter ≠ []) := by
    by_cases a : p.State = 2 <;> by_cases b : p.State = 5 <;> by_cases c : p.Inter = [] <;> simp [a, b, c] <;> omega
  rw [hie]
  constructor
  · rintro ⟨⟨⟨⟨h1, h2⟩, ⟨h3, h4⟩, h5⟩, h6, h7, h8⟩, h9, h10⟩
    exact ⟨h1, by omega, h3, by omega, h5, h6, by omega, h8, by omega, h10⟩
  · intro h
    exact ⟨⟨⟨⟨h.st, by have := h.mA; omega⟩, ⟨h.ia, by have := h.il; omega⟩, h.ie⟩, h.aa, by have := h.al; omega, h.ae⟩, by have := h.tl; omega, h.te⟩
/-- What stays so. -/
def GoodA (a : GAct) : Prop := a.Text.length ≤ 256 ∧ a.Inter.length ≤ 2 ∧ a.Args.length ≤ 32 ∧ 1 ≤ a.Kind ∧ a.Kind ≤ 6
def ctl (c : Int) : Nat := if 0 ≤ c ∧ c < 32 then 1 else 0
def ctrls (l : List GAct) : Nat := (l.filter fun a => decide (a.Kind = 2)).length
structure Fine (n k : Nat) (r : GParser × List GAct) : Prop where
  ok : OkP r.1
  len : r.2.length ≤ n
  good : ∀ a ∈ r.2, GoodA a
  ctl : ctrls r.2 ≤ k
theorem nil_okP (s : Int) (h : 0 ≤ s ∧ s ≤ 10) (h2 : s ≠ 2) (h5 : s ≠ 5) : OkP (nilP s) :=
  ⟨h, .inl rfl, rfl, by simp [nilP], ⟨fun hh => by simp only [nilP] at hh; omega, fun hh => absurd rfl hh⟩, rfl, by simp [nilP], .inl rfl, by simp [nilP], .inl rfl⟩
theorem drp_good : GoodA drp := by simp [GoodA, drp]
theorem fine0 {p : GParser} (k : Nat) (h : OkP p) : Fine 1 k (p, []) := ⟨h, by simp, fun a ha => by simp at ha, by simp [ctrls]⟩
theorem fine1 {p : GParser} {a : GAct} (k : Nat) (h : OkP p) (ha : GoodA a) (h2 : a.Kind ≠ 2) : Fine 1 k (p, [a]) :=
  ⟨h, by simp, fun b hb => by simp at hb; rw [hb]; exact ha, by simp [ctrls, h2]⟩
theorem fined (s : Int) (k : Nat) (h : 0 ≤ s ∧ s ≤ 10) (h2 : s ≠ 2) (h5 : s ≠ 5) : Fine 1 k (nilP s, [drp]) := fine1 k (nil_okP s h h2 h5) drp_good (by simp [drp])
theorem final_fine (a : GAct) (p : GParser) (k : Nat) (hI : p.Inter.length ≤ 3) (ha : p.Inter.length ≤ 2 → GoodA a) (h2 : a.Kind ≠ 2) : Fine 1 k (finalP a p) := by
  unfold finalP
  by_cases h : p.Inter.length = 3
  · rw [if_pos h]; exact fined 0 k (by omega) (by omega) (by omega)
  · rw [if_neg h]; exact fine1 k (nil_okP 0 (by omega) (by omega) (by omega)) (ha (by omega)) h2
theorem text_fine (p : GParser) (c : Int) (h : OkP p) (h7 : p.State = 7 ∨ p.State = 9) (k : Nat) : Fine 1 k (textP p c) := by
  obtain ⟨st, mA, ia, il, ie, aa, al, ae, tl, te⟩ := h
  have h0 : OkP p := ⟨st, mA, ia, il, ie, aa, al, ae, tl, te⟩
  have hI : p.Inter = [] := Classical.byContradiction fun hh => by have := ie.2 hh; omega
  unfold textP
  split
  · refine fine0 k ⟨by dsimp only; omega, by dsimp only; omega, ia, il, ⟨fun hh => by dsimp only at hh; omega, fun hh => absurd hI hh⟩, aa, al, ?_, tl, ?_⟩
    · rcases ae with e | e
      · exact .inl e
      · omega
    · rcases te with e | e
      · exact .inl e
      · exact .inr (by dsimp only; omega)
  split
  · exact fined 0 k (by omega) (by omega) (by omega)
  split
  · exact fined 0 k (by omega) (by omega) (by omega)
  split
  · exact fine0 k h0
  split
  · exact fine1 k (nil_okP 0 (by omega) (by omega) (by omega)) ⟨tl, by simp, by simp, by simp, by simp⟩ (by simp)
  split
  · exact fine0 k h0
  split
  · exact fine0 k h0
  split
  · rename_i h9 _ _ _ hl
    exact fine0 k ⟨st, mA, ia, il, ie, aa, al, ae, hl, .inr (by dsimp only; omega)⟩
  · exact fine0 k h0
theorem sg_in (c : Int) (h : 32 ≤ c ∧ c < 48) : inB (sg c) = true := by
  unfold inB sg
  have : (UInt8.ofNat c.toNat).toNat = c.toNat := by simp; omega
  rw [this, decide_eq_true (by omega), decide_eq_true (by omega)]; rfl
theorem sg_ok (c : Int) (h : 48 ≤ c ∧ c < 60 ∧ c ≠ 58) : okB (sg c) = true := by
  unfold okB sg
  have : (UInt8.ofNat c.toNat).toNat = c.toNat := by simp; omega
  rw [this]
  by_cases h59 : c.toNat = 59
  · rw [decide_eq_true h59]; rfl
  · rw [decide_eq_true (show 48 ≤ c.toNat by omega), decide_eq_true (show c.toNat ≤ 57 by omega), Bool.and_self, Bool.or_true]
theorem more_in (I : Str) (c : Int) (h : 32 ≤ c ∧ c < 48) (ia : I.all inB = true) (il : I.length ≤ 3) : (moreI I c).all inB = true ∧ (moreI I c).length ≤ 3 ∧ moreI I c ≠ [] := by
  unfold moreI
  by_cases h3 : I.length < 3
  · rw [if_pos h3]
    refine ⟨by rw [List.all_append, ia]; simp [sg_in c h], by simp; omega, by simp⟩
  · rw [if_neg h3]
    exact ⟨ia, il, fun hh => by rw [hh] at h3; simp at h3⟩
theorem esc_fine (p : GParser) (c : Int) (h : OkP p) (h2 : p.State = 1 ∨ p.State = 2) (hc : 32 ≤ c) (k : Nat) : Fine 1 k (escP p c) := by
  obtain ⟨st, mA, ia, il, ie, aa, al, ae, tl, te⟩ := h
  have hA : p.Args = [] := by rcases ae with e | e; exact e; omega
  have hT : p.Text = [] := by rcases te with e | e; exact e; omega
  have hM : p.Mark = 0 := by omega
  unfold escP
  split
  · rename_i h48
    obtain ⟨m1, m2, m3⟩ := more_in p.Inter c ⟨hc, h48⟩ ia il
    exact fine0 k ⟨by dsimp only; omega, .inl hM, m1, m2, ⟨fun _ => m3, fun _ => .inl rfl⟩, aa, al, .inl hA, tl, .inl hT⟩
  split
  · exact final_fine _ p k il (fun hh => ⟨by simp, hh, by simp, by simp, by simp⟩) (by simp)
  rename_i hs2
  have hI : p.Inter = [] := Classical.byContradiction fun hh => by have := ie.2 hh; omega
  have hne : ∀ s : Int, s ≠ 2 → s ≠ 5 → 0 ≤ s ∧ s ≤ 10 → OkP ⟨s, p.Mark, p.Inter, p.Args, p.Text⟩ := fun s s2 s5 sb =>
    ⟨sb, .inl hM, ia, il, ⟨fun hh => by dsimp only at hh; omega, fun hh => absurd hI hh⟩, aa, al, .inl hA, tl, .inl hT⟩
  split
  · exact fine0 k (hne 3 (by omega) (by omega) (by omega))
  split
  · exact fine0 k (hne 7 (by omega) (by omega) (by omega))
  split
  · exact fine0 k (hne 9 (by omega) (by omega) (by omega))
  · exact final_fine _ p k il (fun hh => ⟨by simp, by simp, by simp, by simp, by simp⟩) (by simp)
theorem csi_fine (p : GParser) (c : Int) (h : OkP p) (h2 : 3 ≤ p.State ∧ p.State ≤ 6) (hc : 32 ≤ c) (k : Nat) : Fine 1 k (csiP p c) := by
  obtain ⟨st, mA, ia, il, ie, aa, al, ae, tl, te⟩ := h
  have h0 : OkP p := ⟨st, mA, ia, il, ie, aa, al, ae, tl, te⟩
  have hT : p.Text = [] := by rcases te with e | e; exact e; omega
  have f6 : Fine 1 k (nilP 6, []) := fine0 k (nil_okP 6 (by omega) (by omega) (by omega))
  unfold csiP
  split
  · split
    · exact fined 0 k (by omega) (by omega) (by omega)
    · exact fine0 k h0
  split
  · rename_i h48
    obtain ⟨m1, m2, m3⟩ := more_in p.Inter c ⟨hc, h48⟩ ia il
    exact fine0 k ⟨by dsimp only; omega, by dsimp only; omega, m1, m2, ⟨fun _ => m3, fun _ => .inr rfl⟩, aa, al, .inr (.inr rfl), tl, .inl hT⟩
  split
  · exact final_fine _ p k il (fun hh => ⟨by simp, hh, readA_len _, by simp, by simp⟩) (by simp)
  split
  · exact f6
  split
  · exact f6
  rename_i h6 h48 h64 h5 h58
  have hI : p.Inter = [] := Classical.byContradiction fun hh => by have := ie.2 hh; omega
  split
  · rename_i h60
    refine fine0 k ⟨by dsimp only; omega, by dsimp only; omega, ia, il, ⟨fun hh => by dsimp only at hh; omega, fun hh => absurd hI hh⟩, ?_, ?_, .inr (.inl rfl), tl, .inl hT⟩
    · dsimp only
      split
      · rw [List.all_append, aa]; simp [sg_ok c (by omega)]
      · exact aa
    · dsimp only
      split
      · simp; omega
      · exact al
  split
  · rename_i h60 h3
    refine fine0 k ⟨by dsimp only; omega, .inr ⟨by dsimp only; omega, by dsimp only; omega, .inl rfl⟩, ia, il, ⟨fun hh => by dsimp only at hh; omega, fun hh => absurd hI hh⟩, aa, al, .inr (.inl rfl), tl, .inl hT⟩
  · exact f6
theorem after_fine (p : GParser) (c : Int) (h : OkP p) (h6 : p.State ≤ 6) (hc : 0 ≤ c) : Fine 1 (ctl c) (afterP p c) := by
  have hs := h.st
  have hd : ∀ s : Int, (s = 0 ∨ s = 1) → Fine 1 (ctl c) (nilP s, if p.State = 0 then [] else [drp]) := fun s hs' => by
    split
    · exact fine0 _ (nil_okP s (by omega) (by omega) (by omega))
    · exact fined s _ (by omega) (by omega) (by omega)
  have core : ∀ o, o = ctrlP p c → Fine 1 (ctl c) (match o with | some r => r | none => if p.State = 0 then (p, [⟨1, c, 0, [], [], []⟩]) else if 160 ≤ c then (nilP 0, [drp]) else if p.State ≤ 2 then escP p c else csiP p c) := by
    intro o ho
    cases o with
    | none =>
      have hn := (ctrl_none ho.symm).1
      simp only
      split
      · exact fine1 _ h ⟨by simp, by simp, by simp, by simp, by simp⟩ (by simp)
      split
      · exact fined 0 _ (by omega) (by omega) (by omega)
      split
      · exact esc_fine p c h (by omega) hn _
      · exact csi_fine p c h (by omega) hn _
    | some r =>
      simp only
      unfold ctrlP at ho
      split at ho
      · cases ho; exact hd 1 (.inr rfl)
      split at ho
      · cases ho; exact hd 0 (.inl rfl)
      split at ho
      · cases ho; exact hd 0 (.inl rfl)
      split at ho
      · rename_i h32
        cases ho
        refine ⟨h, by simp, fun a ha => ?_, ?_⟩
        · simp at ha; subst ha; exact ⟨by simp, by simp, by simp, by simp, by simp⟩
        · have : ctl c = 1 := if_pos ⟨hc, h32⟩
          rw [this]
          simp [ctrls]
      split at ho
      · cases ho; exact fine0 _ h
      · cases ho
  exact core _ rfl
theorem take_fine (p : GParser) (c : Int) (h : OkP p) : Fine 2 (ctl c) (takeP p c) := by
  have wide : ∀ {r}, Fine 1 (ctl c) r → Fine 2 (ctl c) r := fun f => ⟨f.ok, by have := f.len; omega, f.good, f.ctl⟩
  have hs := h.st
  unfold takeP
  split
  · exact wide (fine0 _ h)
  split
  · exact wide (fine0 _ h)
  split
  · rename_i h7; exact wide (text_fine p c h h7 _)
  split
  · split
    · refine wide (fine1 _ (nil_okP 0 (by omega) (by omega) (by omega)) ?_ ?_)
      · split
        · exact ⟨h.tl, by simp, by simp, by simp, by simp⟩
        · exact drp_good
      · split <;> simp [drp]
    · have f := after_fine (nilP 1) c (nil_okP 1 (by omega) (by omega) (by omega)) (by simp [nilP]) (by omega)
      refine ⟨f.ok, by have := f.len; simp only [List.length_cons]; omega, fun a ha => ?_, ?_⟩
      · rcases List.mem_cons.1 ha with rfl | ha
        · exact drp_good
        · exact f.good a ha
      · have := f.ctl
        simp only [ctrls] at this ⊢
        rw [List.filter_cons_of_neg (by simp [drp])]
        exact this
  · rename_i h7 h8
    exact wide (after_fine p c h (by omega) (by omega))
/-- Feed. -/
def feedP : GParser → List Int → GParser × List GAct
  | p, [] => (p, [])
  | p, c :: t => ((feedP (takeP p c).1 t).1, (takeP p c).2 ++ (feedP (takeP p c).1 t).2)
theorem feed_app : ∀ (a b : List Int) (p : GParser), feedP p (a ++ b) = ((feedP (feedP p a).1 b).1, (feedP p a).2 ++ (feedP (feedP p a).1 b).2)
  | [], b, p => by simp [feedP]
  | c :: a, b, p => by
    rw [List.cons_append]
    simp only [feedP]
    rw [feed_app a b]
    simp
theorem feed_loop (a1 : GParser) (a2 : List Int) (hl : a2.length ≤ 273000000) : ∀ (suf pre : List Int) (p : GParser) (l : List GAct), a2 = pre ++ suf → OkP p → l.length ≤ 2 * pre.length →
    loopO (f5_l2 a1 a2) (p.State, p.Mark, p.Inter, p.Args, p.Text, l, (pre.length : Int)) = some (pk l (feedP p suf))
  | [], pre, p, l, e, h, hk => loopO_done (by
      subst e
      unfold f5_l2 f5_l2_j3
      simp only [lt_end, cond_false]
      simp [feedP, pk])
  | c :: t, pre, p, l, e, h, hk => by
    have hp : pre.length < 1000000000 := by rw [e] at hl; simp at hl; omega
    have hp2 : pre.length ≤ 273000000 := by rw [e] at hl; simp at hl; omega
    have hx : idx a2 (pre.length : Int) = some c := by rw [e]; exact idx_mid pre c t
    have hlt : decide ((pre.length : Int) < (a2.length : Int)) = true := by rw [e]; exact lt_mid pre c t
    have f := take_fine p c h
    have fl := f.len
    have ih := feed_loop a1 a2 hl t (pre ++ [c]) (takeP p c).1 (l ++ (takeP p c).2) (by rw [e]; simp) f.ok (by simp; omega)
    have er : pk l (feedP p (c :: t)) = pk (l ++ (takeP p c).2) (feedP (takeP p c).1 t) := by simp [pk, feedP]
    rw [er]
    refine loopO_next ?_ ih
    unfold f5_l2 f5_l2_j3 f5_l2_j4
    simp only [hlt, cond_true]
    rw [hx, bs, take_ok c p l (by omega) h.st h.al h.tl, bs, wrap_nx pre c hp]
    rfl
theorem feed_ok (p : GParser) (l : List Int) (hl : l.length ≤ 273000000) (h : OkP p) : f5 p l = some ((feedP p l).1, (feedP p l).2, 0) := by
  unfold f5
  have hi := h.il; have ha := h.al
  rw [check_ok p (by omega) (by omega), (ok_iff p).2 h, bs, ct, decide_eq_true rfl, Bool.not_true, cf]
  unfold f5_j0
  have := feed_loop p l hl l [] p [] rfl h (by simp)
  rw [show ((([] : List Int).length : Nat) : Int) = 0 from rfl] at this
  rw [this, bs]
  unfold f5_j1 pk
  simp
/-- Acts that are the same. -/
theorem act_same (a : GAct) (h : a.Args.length ≤ 2000000) : f20 a a = some true := by
  unfold f20
  simp only [decide_true, cond_true]
  rw [eq62 _ h, bs]
theorem acts_loop (l : List GAct) (hl : l.length ≤ 100000000) (h : ∀ a ∈ l, a.Args.length ≤ 2000000) : ∀ (suf pre : List GAct), l = pre ++ suf → loopO (f19_l1 l l) (pre.length : Int) = some (.inl ())
  | [], pre, e => loopO_done (by
      subst e
      unfold f19_l1 f19_l1_j2
      simp only [lt_end, cond_false])
  | z :: t, pre, e => by
    have hp : pre.length < 1000000000 := by rw [e] at hl; simp at hl; omega
    have hx : idx l (pre.length : Int) = some z := by rw [e]; exact idx_mid pre z t
    have hlt : decide ((pre.length : Int) < (l.length : Int)) = true := by rw [e]; exact lt_mid pre z t
    refine loopO_next ?_ (acts_loop l hl h t (pre ++ [z]) (by rw [e]; simp))
    unfold f19_l1 f19_l1_j2 f19_l1_j3
    simp only [hlt, cond_true]
    rw [hx, bs, bs, act_same z (h z (by rw [e]; simp)), bs, Bool.not_true, cf, wrap_nx pre z hp]
theorem acts_same (l : List GAct) (hl : l.length ≤ 100000000) (h : ∀ a ∈ l, a.Args.length ≤ 2000000) : f7 l l = some true := by
  unfold f7 f19
  rw [decide_eq_true rfl, Bool.not_true, cf]
  unfold f19_j0
  have := acts_loop l hl h l [] rfl
  rw [show ((([] : List GAct).length : Nat) : Int) = 0 from rfl] at this
  rw [this, bs]; rfl
theorem lives : f6 = some true := by
  unfold f6 f18
  have h1 : loopO (f18_l0 [97, 27, 91, 63, 50, 53, 104, 27, 93, 48, 59, 116, 7, 27, 40]) ([], 0) = some [97, 27, 91, 63, 50, 53, 104, 27, 93, 48, 59, 116, 7, 27, 40] := loopO_of (n := 20) (by kernel_rfl)
  rw [h1, bs, bs]
  have h2 := feed_ok (nilP 0) [97, 27, 91, 63, 50, 53, 104, 27, 93, 48, 59, 116, 7, 27, 40] (by simp) (nil_okP 0 (by omega) (by omega) (by omega))
  have h3 : feedP (nilP 0) [97, 27, 91, 63, 50, 53, 104, 27, 93, 48, 59, 116, 7, 27, 40] = (⟨2, 0, [40], [], []⟩, [⟨1, 97, 0, [], [], []⟩, ⟨4, 104, 63, [], [25], []⟩, ⟨5, 0, 0, [], [], [48, 59, 116]⟩]) := by kernel_rfl
  rw [h3] at h2
  rw [show GParser.mk 0 0 [] [] [] = nilP 0 from rfl, h2, bs]
  simp only [decide_true, Bool.and_self, cond_true]
  rw [acts_same _ (by simp) (by simp), bs]
/-- ParsePlain. -/
def pr (c : Int) : List GAct := if 32 ≤ c ∧ c ≤ 1114111 ∧ (c < 127 ∨ 160 ≤ c) then [⟨1, c, 0, [], [], []⟩] else []
theorem plain_take (c : Int) (h : ¬ (0 ≤ c ∧ c < 32)) : takeP (nilP 0) c = (nilP 0, pr c) := by
  unfold takeP pr
  by_cases h0 : c < 0
  · rw [if_pos h0, if_neg (by omega)]
  rw [if_neg h0]
  by_cases h1 : 1114111 < c
  · rw [if_pos h1, if_neg (by omega)]
  rw [if_neg h1, if_neg (by simp [nilP]), if_neg (by simp [nilP])]
  unfold afterP ctrlP
  rw [if_neg (by omega), if_neg (by omega), if_neg (by omega), if_neg (by omega)]
  by_cases hw : 127 ≤ c ∧ c ≤ 159
  · rw [if_pos hw]
    show (nilP 0, []) = _
    rw [if_neg (by omega)]
  · rw [if_neg hw]
    simp only
    rw [if_pos (show (nilP 0).State = 0 from rfl), if_pos (by omega)]
def word (n : Int) : List UInt8 := if n < 0 then [] else Lib.itoa n
def badN (n : Int) : Bool := decide (n < -1) || decide (16383 < n)
theorem bad_eq (n : Int) : f23 n = some (badN n) := by
  unfold f23 badN
  by_cases h : n < -1
  · rw [decide_eq_true h]; rfl
  · rw [decide_eq_false h, cf]
    by_cases h2 : 16383 < n
    · rw [decide_eq_true h2]; rfl
    · rw [decide_eq_false h2]; rfl
theorem any_loop (l : List Int) : ∀ (suf pre : List Int), l = pre ++ suf → l.length ≤ 100000000 → ∃ r, loopO (f37_l0 l) (pre.length : Int) = some r ∧ ((suf.any badN = true ∧ ∃ i : Nat, r = .inr (i : Int)) ∨ (suf.any badN = false ∧ r = .inl ()))
  | [], pre, e, h => ⟨_, loopO_done (by
      subst e
      unfold f37_l0 f37_l0_j1
      simp only [lt_end, cond_false]), .inr ⟨rfl, rfl⟩⟩
  | z :: t, pre, e, h => by
    have hp : pre.length < 1000000000 := by rw [e] at h; simp at h; omega
    have hx : idx l (pre.length : Int) = some z := by rw [e]; exact idx_mid pre z t
    have hlt : decide ((pre.length : Int) < (l.length : Int)) = true := by rw [e]; exact lt_mid pre z t
    cases hz : badN z with
    | true =>
      refine ⟨.inr (pre.length : Int), loopO_done ?_, .inl ⟨by rw [List.any_cons, hz]; rfl, pre.length, rfl⟩⟩
      unfold f37_l0 f37_l0_j1 f37_l0_j2
      simp only [hlt, hx, cond_true, Option.bind_some, bad_eq, hz]
    | false =>
      obtain ⟨r, h1, h2⟩ := any_loop l t (pre ++ [z]) (by rw [e]; simp) h
      refine ⟨r, loopO_next ?_ h1, by rw [List.any_cons, hz, Bool.false_or]; exact h2⟩
      unfold f37_l0 f37_l0_j1 f37_l0_j2
      simp only [hlt, hx, cond_true, Option.bind_some, bad_eq, hz, cond_false]
      rw [wrap_nx pre z hp]
theorem any_ok (l : List Int) (h : l.length ≤ 100000000) : f22 l = some (l.any badN) := by
  unfold f22 f37
  obtain ⟨r, h1, h2⟩ := any_loop l l [] rfl h
  rw [show (0 : Int) = (([] : List Int).length : Int) from rfl, h1, bs]
  rcases h2 with ⟨ha, i, rfl⟩ | ⟨ha, rfl⟩
  · rw [Sum.elim_inr, bs, ha, decide_eq_true (by simp)]; rfl
  · rw [Sum.elim_inl, bs, ha, decide_eq_false (by simp)]; rfl
theorem digs : ∀ (u : Nat), u ≤ 16383 → (Lib.decDigits u).foldl numS (-1) = (u : Int) ∧ (∀ b ∈ Lib.decDigits u, 48 ≤ b.toNat ∧ b.toNat ≤ 57) ∧ (Lib.decDigits u).length ≤ u + 1 := by
  intro u
  induction u using Nat.strongRecOn with
  | ind u ih =>
    intro hu
    have hd : ∀ d : Nat, d < 10 → (UInt8.ofNat (48 + d)).toNat = 48 + d := fun d hd => by simp; omega
    have hs : ∀ d : Nat, d < 10 → ((UInt8.ofNat (48 + d)) - 48).toNat = d := fun d hd' => by
      have : ∀ d : Fin 10, ((UInt8.ofNat (48 + d.val)) - 48).toNat = d.val := by decide
      exact this ⟨d, hd'⟩
    by_cases h10 : u < 10
    · rw [Lib.decDigits_one h10]
      refine ⟨?_, fun b hb => ?_, by simp⟩
      · simp only [List.foldl_cons, List.foldl_nil]
        unfold numS
        rw [hs u h10]
        simp only [show (0 : Int) > -1 from by decide, if_true]
        rw [if_neg (by omega)]; omega
      · rw [List.mem_singleton] at hb; subst hb; rw [hd u h10]; omega
    · have e : Lib.decDigits u = Lib.decDigits (u / 10) ++ [UInt8.ofNat (48 + u % 10)] := by
        rw [Lib.decDigits, dif_neg h10]
      obtain ⟨i1, i2, i3⟩ := ih (u / 10) (by omega) (by omega)
      have hm : u % 10 < 10 := Nat.mod_lt _ (by decide)
      rw [e]
      refine ⟨?_, fun b hb => ?_, by simp; omega⟩
      · rw [List.foldl_append, i1]
        simp only [List.foldl_cons, List.foldl_nil]
        unfold numS
        rw [hs _ hm]
        have hg : ¬ (0 : Int) > ((u / 10 : Nat) : Int) := by omega
        simp only [hg, if_false]
        rw [if_neg (by omega)]; omega
      · rcases List.mem_append.1 hb with hb | hb
        · exact i2 b hb
        · rw [List.mem_singleton] at hb; subst hb; rw [hd _ hm]; omega
theorem word_ok (n : Int) (h : badN n = false) : num (word n) = n ∧ (∀ b ∈ word n, 48 ≤ b.toNat ∧ b.toNat ≤ 57) ∧ (word n).length ≤ 16384 := by
  unfold badN at h
  simp at h
  unfold word
  by_cases hn : n < 0
  · rw [if_pos hn]
    have : n = -1 := by omega
    subst this
    exact ⟨rfl, by simp, by simp⟩
  · rw [if_neg hn]
    obtain ⟨u, rfl⟩ := Int.eq_ofNat_of_zero_le (by omega : 0 ≤ n)
    rw [Lib.itoa_nonneg]
    obtain ⟨i1, i2, i3⟩ := digs u (by omega)
    exact ⟨i1, i2, by omega⟩
theorem words_loop (l : List Int) (hl : l.length ≤ 100) (hb : ∀ n ∈ l, badN n = false) : ∀ (suf pre : List Int) (out : List (List UInt8)), l = pre ++ suf → out.length = pre.length →
    loopO (f14_l2 l) (out, (pre.length : Int)) = some (out ++ suf.map word)
  | [], pre, out, e, ho => loopO_done (by
      subst e
      unfold f14_l2 f14_l2_j3
      simp only [lt_end, cond_false]; simp)
  | z :: t, pre, out, e, ho => by
    have hp : pre.length < 100 := by rw [e] at hl; simp at hl; omega
    have hx : idx l (pre.length : Int) = some z := by rw [e]; exact idx_mid pre z t
    have hlt : decide ((pre.length : Int) < (l.length : Int)) = true := by rw [e]; exact lt_mid pre z t
    have ih := words_loop l hl hb t (pre ++ [z]) (out ++ [word z]) (by rw [e]; simp) (by simp [ho])
    have hz := hb z (by rw [e]; simp)
    rw [List.map_cons, show out ++ word z :: t.map word = out ++ [word z] ++ t.map word by simp]
    refine loopO_next ?_ ih
    unfold f14_l2 f14_l2_j3 f14_l2_j4
    simp only [hlt, hx, cond_true, Option.bind_some]
    rw [wrap_nx pre z (by omega)]
    unfold word
    by_cases hn : z < 0
    · rw [decide_eq_true hn, if_pos hn, ct, app_ok 16 _ _ (by simp; omega), bs]
    · have hI : libItoaL z = some (Lib.itoa z) := by
        unfold badN at hz; simp at hz
        unfold libItoaL
        rw [if_pos ⟨by omega, by omega⟩]
      rw [decide_eq_false hn, if_neg hn, cf, hI, bs, app_ok 16 _ _ (by simp; omega), bs]
/-- What Write tells. -/
def writeA (l : List Int) : List UInt8 × Int := if l = [] then ([], 1) else if l.any badN then ([], 1) else if 32 < l.length then ([], 2) else (Lib.join (l.map word) [59], 0)
theorem join_small (l : List Int) (hb : ∀ n ∈ l, badN n = false) (hl : l.length ≤ 32) : (Lib.join (l.map word) [59]).length ≤ 600000 := by
  cases l with
  | nil => simp [Lib.join_nil]
  | cons x xs =>
    have := join_len 59 16384 (word x) (xs.map word) (fun w hw => by
      rw [← List.map_cons] at hw
      obtain ⟨n, hn, rfl⟩ := List.mem_map.1 hw
      exact (word_ok n (hb n hn)).2.2)
    rw [List.map_cons]
    simp only [List.length_map, List.length_cons] at this hl
    have : (xs.length + 1) * (16384 + 1) ≤ 32 * 16385 := Nat.mul_le_mul hl (Nat.le_refl _)
    omega
theorem write_ok (l : List Int) (h : l.length ≤ 10000000) : f14 l = some (writeA l) := by
  unfold f14 writeA
  by_cases h0 : l = []
  · subst h0; rfl
  · have hp := List.length_pos_iff.2 h0
    rw [decide_eq_false (by omega), cf, any_ok l (by omega), bs, if_neg h0]
    cases ha : l.any badN with
    | true => rw [ct]; rfl
    | false =>
      rw [cf]
      unfold f14_j0
      by_cases h32 : 32 < l.length
      · rw [decide_eq_true (by omega), ct, if_neg (by simp), if_pos h32]
      · rw [decide_eq_false (by omega), cf, if_neg (by simp), if_neg h32]
        unfold f14_j1
        have hb : ∀ n ∈ l, badN n = false := fun n hn => by
          have := List.any_eq_false.1 ha n hn
          simpa using this
        rw [show (0 : Int) = (([] : List Int).length : Int) from rfl, words_loop l (by omega) hb l [] [] rfl rfl, bs, List.nil_append]
        have hj := join_small l hb (by omega)
        have : libJoin (l.map word) [59] = some (Lib.join (l.map word) [59]) := by
          unfold libJoin
          rw [if_pos ⟨by simp; omega, by omega⟩]
        rw [this, bs]
theorem read_word (l : List Int) (h0 : l ≠ []) (hb : ∀ n ∈ l, badN n = false) (h32 : l.length ≤ 32) : readA (Lib.join (l.map word) [59]) = (l, 0) := by
  obtain ⟨x, xs, rfl⟩ := List.exists_cons_of_ne_nil h0
  have hw : ∀ w ∈ word x :: xs.map word, ∀ b ∈ w, 48 ≤ b.toNat ∧ b.toNat ≤ 57 := fun w hw b hbw => by
    rw [← List.map_cons] at hw
    obtain ⟨n, hn, rfl⟩ := List.mem_map.1 hw
    exact (word_ok n (hb n hn)).2.1 b hbw
  rw [List.map_cons]
  unfold readA
  have hall : (Lib.join (word x :: xs.map word) [59]).all okB = true := List.all_eq_true.2 fun b hbj => by
    rcases join_mem 59 _ _ b hbj with rfl | ⟨w, h1, h2⟩
    · decide
    · have := hw w h1 b h2
      unfold okB; simp; omega
  rw [if_pos hall, join_split 59 _ _ (fun w h1 b h2 e => by have := hw w h1 b h2; subst e; revert this; decide)]
  rw [← List.map_cons, List.map_map]
  have : (x :: xs).map (num ∘ word) = x :: xs := by
    have h := fun n hn => (word_ok n (hb n hn)).1
    have := List.map_congr_left (f := num ∘ word) (g := id) (l := x :: xs) (fun n hn => h n hn)
    rw [this, List.map_id]
  rw [this, List.take_of_length_le h32]
end Go.Proofs.YthapehjibbjkjaaDoor.Pm
