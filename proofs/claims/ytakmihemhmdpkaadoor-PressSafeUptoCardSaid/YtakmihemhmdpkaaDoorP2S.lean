/- Press: PressOne, PressSafe. -/
import Derived.Test.YtakmihemhmdpkaaDoorP2Q
import Derived.Test.YtakmihemhmdpkaaDoorP2U
import Derived.Test.YtakmihemhmdpkaaDoorP2K
import Derived.Lib.LaidU8T
import Derived.MakeChecks
import Derived.LaidSub
import Derived.Test.YtakmihemhmdpkaaDoorRows
namespace Go.Proofs.YtakmihemhmdpkaaDoor.Pm
open Go.Proofs.YtakmihemhmdpkaaDoor.Args
open Go.ChangeShapes Go.WideShapes Go.ChangeAt Go.RowKit
set_option linter.unusedVariables false
set_option linter.unusedSimpArgs false
set_option maxRecDepth 100000
theorem lives : f20 = some true := by
  unfold f20
  have h := Ky.named 1 4 0 (by omega) (by omega)
  rw [show GKey.mk 1 0 4 = ⟨((1 : Nat) : Int), 0, ((4 : Nat) : Int)⟩ from rfl, h, bs]
  rfl
/-- PressSafe. -/
theorem wrap_bv (z : Int) : BitVec.ofInt 64 (IntKind.i64.wrap z) = BitVec.ofInt 64 z := by
  apply BitVec.eq_of_toNat_eq
  rw [BitVec.toNat_ofInt, BitVec.toNat_ofInt]
  have : IntKind.i64.wrap z = (z + 9223372036854775808) % 18446744073709551616 - 9223372036854775808 := by
    first | rfl | (unfold IntKind.wrap; simp [IntKind.bits, IntKind.signed]; omega)
  rw [this]
  omega
theorem ofN (b : BitVec 64) : BitVec.ofInt 64 ((b.toNat : Nat) : Int) = b := by
  apply BitVec.eq_of_toNat_eq
  rw [BitVec.toNat_ofInt]
  have := b.isLt
  omega
theorem bit_off (x : Int) : bitI .and .i64 (bitI .andNot .i64 x 64) 64 = 0 := by
  have e : bitI .andNot .i64 x 64 = IntKind.i64.wrap (BitVec.ofInt 64 x &&& ~~~ (BitVec.ofInt 64 64)).toNat := rfl
  have e2 : ∀ y, bitI .and .i64 y 64 = IntKind.i64.wrap (BitVec.ofInt 64 y &&& BitVec.ofInt 64 64).toNat := fun _ => rfl
  rw [e2, e, wrap_bv, ofN]
  have : BitVec.ofInt 64 x &&& ~~~ (BitVec.ofInt 64 64) &&& BitVec.ofInt 64 64 = 0#64 := by
    ext i hi
    simp only [BitVec.getElem_and, BitVec.getElem_not]
    cases (BitVec.ofInt 64 x)[i] <;> cases (BitVec.ofInt 64 64)[i] <;> simp
  rw [this]; rfl
theorem bit_on (x : Int) : ¬ bitI .and .i64 (bitI .or .i64 x 64) 64 = 0 := by
  have e : bitI .or .i64 x 64 = IntKind.i64.wrap (BitVec.ofInt 64 x ||| BitVec.ofInt 64 64).toNat := rfl
  have e2 : ∀ y, bitI .and .i64 y 64 = IntKind.i64.wrap (BitVec.ofInt 64 y &&& BitVec.ofInt 64 64).toNat := fun _ => rfl
  rw [e2, e, wrap_bv, ofN]
  have : (BitVec.ofInt 64 x ||| BitVec.ofInt 64 64) &&& BitVec.ofInt 64 64 = BitVec.ofInt 64 64 := by
    ext i hi
    simp only [BitVec.getElem_and, BitVec.getElem_or]
    cases (BitVec.ofInt 64 x)[i] <;> cases (BitVec.ofInt 64 64)[i] <;> rfl
  rw [this]; decide
def codeP (c : Int) : Bool := (decide (0 ≤ c) && decide (c ≤ 1114111)) && (decide (c < 55296) || decide (57343 < c))
theorem pcode_ok (c : Int) : f40 c = some (codeP c) := by
  unfold f40 codeP
  cases decide (0 ≤ c) <;> cases decide (c ≤ 1114111) <;> cases decide (c < 55296) <;> cases decide (57343 < c) <;> rfl
def pz (c : Int) : List Int := if c = 10 then [13] else if c < 32 ∧ c ≠ 9 ∧ c ≠ 13 then [] else if 127 ≤ c ∧ c ≤ 159 then [] else if codeP c = true then [c] else []
theorem pz_len (c : Int) : (pz c).length ≤ 1 := by
  unfold pz
  repeat' split
  all_goals simp
theorem paste_loop (a : List Int) (k : Int) (hl : a.length ≤ 100000) : ∀ (suf pre o : List Int), a = pre ++ suf → o.length ≤ pre.length →
    loopO (f23_l2 a k) (o, (pre.length : Int)) = some (o ++ suf.flatMap pz)
  | [], pre, o, e, ho => loopO_done (by
      subst e
      unfold f23_l2 f23_l2_j3
      simp only [lt_end, cond_false]
      simp)
  | c :: t, pre, o, e, ho => by
    have hp : pre.length < 1000000000 := by rw [e] at hl; simp at hl; omega
    have hp2 : pre.length ≤ 100000 := by rw [e] at hl; simp at hl; omega
    have hx : idx a (pre.length : Int) = some c := by rw [e]; exact idx_mid pre c t
    have hlt : decide ((pre.length : Int) < (a.length : Int)) = true := by rw [e]; exact lt_mid pre c t
    have hz := pz_len c
    have ih := paste_loop a k hl t (pre ++ [c]) (o ++ pz c) (by rw [e]; simp) (by simp; omega)
    rw [List.flatMap_cons, ← List.append_assoc]
    refine loopO_next ?_ ih
    have hw := wrap_nx pre c hp
    have ap : ∀ x : Int, app? 8 o [x] = some (o ++ [x]) := fun x => app_ok 8 _ _ (by simp; omega)
    unfold f23_l2 f23_l2_j3 f23_l2_j4
    simp only [hlt, cond_true]
    rw [hx, bs]
    unfold f23_l2_j5 f23_l2_j6 f23_l2_j7 f23_l2_j8 f23_l2_j9 f23_l2_j10 f23_l2_j11 f23_l2_j12 f23_l2_j13 f23_l2_j14
    simp only [hw, ap, bs, pcode_ok]
    unfold pz
    have hcode : (bif (!codeP c) then some (Sum.inl (o, ((pre ++ [c]).length : Int))) else some (Sum.inl (o ++ [c], ((pre ++ [c]).length : Int))) : Option ((List Int × Int) ⊕ List Int)) = some (.inl (o ++ (if codeP c = true then [c] else []), ((pre ++ [c]).length : Int))) := by
      cases codeP c
      · simp
      · simp
    rw [hcode]
    by_cases h10 : c = 10
    · rw [decide_eq_true h10, ct, if_pos h10]
    rw [decide_eq_false h10, cf, if_neg h10]
    by_cases h32 : c < 32
    · rw [decide_eq_true h32, ct, decide_eq_false (show ¬ 127 ≤ c by omega), cf]
      by_cases h9 : c = 9
      · rw [decide_eq_true h9, Bool.not_true, cf, if_neg (show ¬ (c < 32 ∧ c ≠ 9 ∧ c ≠ 13) by omega), if_neg (show ¬ (127 ≤ c ∧ c ≤ 159) by omega)]
      · rw [decide_eq_false h9, Bool.not_false, ct]
        by_cases h13 : c = 13
        · rw [decide_eq_true h13, Bool.not_true, cf, if_neg (show ¬ (c < 32 ∧ c ≠ 9 ∧ c ≠ 13) by omega), if_neg (show ¬ (127 ≤ c ∧ c ≤ 159) by omega)]
        · rw [decide_eq_false h13, Bool.not_false, ct, if_pos ⟨h32, h9, h13⟩, List.append_nil]
    · rw [decide_eq_false h32, cf, if_neg (show ¬ (c < 32 ∧ c ≠ 9 ∧ c ≠ 13) by omega)]
      by_cases h127 : 127 ≤ c
      · rw [decide_eq_true h127, ct]
        by_cases h159 : c ≤ 159
        · rw [decide_eq_true h159, ct, if_pos ⟨h127, h159⟩, List.append_nil]
        · rw [decide_eq_false h159, cf, if_neg (show ¬ (127 ≤ c ∧ c ≤ 159) by omega)]
      · rw [decide_eq_false h127, cf, if_neg (show ¬ (127 ≤ c ∧ c ≤ 159) by omega)]
def okZ (c : Int) : Prop := Ut.isRune c ∧ (c = 9 ∨ c = 13 ∨ (32 ≤ c ∧ ¬ (127 ≤ c ∧ c ≤ 159)))
theorem pz_ok (c x : Int) (h : x ∈ pz c) : okZ x := by
  unfold pz at h
  unfold okZ Ut.isRune
  split at h
  · simp at h; subst h; omega
  split at h
  · simp at h
  split at h
  · simp at h
  split at h
  · rename_i h1 h2 h3 h4
    simp at h
    subst h
    unfold codeP at h4
    simp at h4
    omega
  · simp at h
theorem pz_same (c : Int) (h : okZ c) : pz c = [c] := by
  unfold okZ Ut.isRune at h
  have hc : codeP c = true := by unfold codeP; simp; omega
  unfold pz
  rw [if_neg (by omega), if_neg (by omega), if_neg (by omega), if_pos hc]
theorem flat_same : ∀ l : List Int, (∀ c ∈ l, okZ c) → l.flatMap pz = l
  | [], _ => rfl
  | c :: t, h => by
    rw [List.flatMap_cons, pz_same c (h c (by simp)), flat_same t fun x hx => h x (by simp [hx])]; rfl
theorem flat_len (l : List Int) : (l.flatMap pz).length ≤ l.length := by
  induction l with
  | nil => simp
  | cons c t ih =>
    have := pz_len c
    rw [List.flatMap_cons, List.length_append, List.length_cons]; omega
def encs (l : List Int) : Str := l.flatMap fun c => Ut.encR (Ut.fixR c)
theorem encs_len (l : List Int) : (encs l).length ≤ 4 * l.length := by
  unfold encs
  induction l with
  | nil => simp
  | cons c t ih =>
    have := Ut.encR_len (Ut.fixR c)
    rw [List.flatMap_cons, List.length_append, List.length_cons]; omega
def pmark (s : Str) : Str := [27, 91, 50, 48, 48, 126] ++ s ++ [27, 91, 50, 48, 49, 126]
theorem paste_ok (a : List Int) (k : Int) (hl : a.length ≤ 4000) : f23 a k = some (if bitI .and .i64 k 64 = 0 then encs (a.flatMap pz) else pmark (encs (a.flatMap pz)), 0) := by
  unfold f23
  rw [decide_eq_false (by omega), cf]
  unfold f23_j0
  have h := paste_loop a k (by omega) a [] [] rfl (by simp)
  rw [show ((([] : List Int).length : Nat) : Int) = 0 from rfl, List.nil_append] at h
  have hf := flat_len a
  have he := encs_len (a.flatMap pz)
  rw [h, bs]
  unfold f23_j1
  rw [Ut.enc_ok _ (by omega), bs]
  show (bif (!decide (bitI .and .i64 k 64 = 0)) then ((cat? ([27, 91, 50, 48, 48, 126] : List UInt8) (encs (a.flatMap pz))).bind fun z47 => ((cat? z47 ([27, 91, 50, 48, 49, 126] : List UInt8)).bind fun z48 => (some (z48, 0)))) else (some (encs (a.flatMap pz), 0))) = _
  by_cases hk : bitI .and .i64 k 64 = 0
  · rw [decide_eq_true hk, Bool.not_true, cf, if_pos hk]
  · rw [decide_eq_false hk, Bool.not_false, ct, if_neg hk, cat_ok _ _ (by simp; omega), bs, cat_ok _ _ (by simp; omega), bs]; rfl
theorem paste_no (a : List Int) (k : Int) (hl : 4000 < a.length) : f23 a k = some ([], 2) := by
  unfold f23
  rw [decide_eq_true (by omega), ct]
def actZ (c : Int) : GAct := if c < 32 then ⟨2, c, 0, [], [], []⟩ else ⟨1, c, 0, [], [], []⟩
theorem safe_take (c : Int) (h : okZ c) : takeP (nilP 0) c = (nilP 0, [actZ c]) := by
  unfold okZ Ut.isRune at h
  unfold takeP actZ
  rw [if_neg (by omega), if_neg (by omega), if_neg (by simp [nilP]), if_neg (by simp [nilP])]
  unfold afterP ctrlP
  rw [if_neg (by omega), if_neg (by omega), if_neg (by omega)]
  by_cases h32 : c < 32
  · rw [if_pos h32, if_pos h32]
  · rw [if_neg h32, if_neg h32, if_neg (by omega)]
    simp only
    rw [if_pos (show (nilP 0).State = 0 from rfl)]
theorem safe_feed : ∀ l : List Int, (∀ c ∈ l, okZ c) → feedP (nilP 0) l = (nilP 0, l.map actZ)
  | [], _ => rfl
  | c :: t, h => by
    simp only [feedP]
    rw [safe_take c (h c (by simp))]
    simp only
    rw [safe_feed t fun x hx => h x (by simp [hx])]; rfl
theorem act_loop9 (a1 : List Int) (a2 : Int) (x y z : Str) (o : List Int) (l : List GAct) (hl : l.length ≤ 1000000) (hg : ∀ a ∈ l, ∃ c, okZ c ∧ a = actZ c) : ∀ suf pre : List GAct, l = pre ++ suf →
    loopO (f9_l3 a1 a2) (x, y, z, o, l, (l.length : Int), (pre.length : Int)) = some (.inl (x, y, z, o, l))
  | [], pre, e => loopO_done (by
      subst e
      unfold f9_l3 f9_l3_j4
      simp only [lt_end, cond_false])
  | q :: t, pre, e => by
    have hp : pre.length < 1000000000 := by rw [e] at hl; simp at hl; omega
    have hlt : decide ((pre.length : Int) < (l.length : Int)) = true := by rw [e]; exact lt_mid pre q t
    have hgt : l[pre.length]? = some q := by rw [e]; simp
    obtain ⟨c, hc, hq⟩ := hg q (by rw [e]; simp)
    refine loopO_next ?_ (act_loop9 a1 a2 x y z o l hl hg t (pre ++ [q]) (by rw [e]; simp))
    unfold f9_l3 f9_l3_j4 f9_l3_j5
    simp only [hlt, cond_true]
    rw [inR_nat _ _ (by rw [e]; simp), bs, hgt, bs, wrap_nx pre q hp, hq]
    unfold okZ Ut.isRune at hc
    unfold actZ
    by_cases h32 : c < 32
    · rw [if_pos h32]
      rw [decide_eq_false (show ¬ ((2 : Int) = 1) by decide), Bool.not_false, ct, decide_eq_true (show (2 : Int) = 2 from rfl), Bool.not_true, cf]
      have hcode : ∀ x : Int, (⟨2, x, 0, [], [], []⟩ : GAct).Code = x := fun _ => rfl
      rw [hcode]
      by_cases h9 : c = 9
      · rw [decide_eq_true h9, Bool.not_true, cf]
      · rw [decide_eq_false h9, Bool.not_false, ct, decide_eq_true (show c = 13 by omega), Bool.not_true, cf]
    · rw [if_neg h32]
      rw [decide_eq_true (show (1 : Int) = 1 from rfl), Bool.not_true, cf]
theorem pressSafe (a : List Int) (k : Int) : f9 a k = some true := by
  unfold f9
  by_cases hl : 4000 < a.length
  · rw [paste_no a _ hl, bs, paste_no a _ hl, bs, lives, bs, Bool.not_true, cf, decide_eq_false (show ¬ ((([] : Str), (2 : Int)).2 = 0) by show ¬ ((2 : Int) = 0); decide), Bool.not_false, ct]
    unfold f9_j6
    rw [lives, bs, ct]
    simp
  · have hf := flat_len a
    have hok : ∀ c ∈ a.flatMap pz, okZ c := fun c hc => by
      obtain ⟨d, _, hd⟩ := List.mem_flatMap.1 hc
      exact pz_ok d c hd
    rw [paste_ok a _ (by omega), bs, paste_ok a _ (by omega), bs, if_pos (bit_off k), if_neg (bit_on k), lives, bs, Bool.not_true, cf]
    simp only [decide_true, Bool.not_true, cond_false]
    generalize a.flatMap pz = l at *
    have he := encs_len l
    have hfix : l.map Ut.fixR = l := by
      conv => rhs; rw [← List.map_id l]
      refine List.map_congr_left fun c hc => ?_
      have := hok c hc
      unfold okZ Ut.isRune at this
      unfold Ut.fixR
      rw [if_neg (by omega)]; rfl
    have hfu : Ut.feedU (encs l) = (l, []) := by
      have := Ut.feed_all l
      rw [hfix] at this
      exact this
    unfold f9_j0
    rw [Ut.feed_ok [] (encs l) (by simp; omega) (.inl rfl), bs, List.nil_append, hfu]
    simp only
    unfold f9_j1
    rw [show GParser.mk 0 0 [] [] [] = nilP 0 from rfl, feed_ok (nilP 0) l (by omega) (nil_okP 0 (by omega) (by omega) (by omega)), bs, safe_feed l hok]
    simp only
    have hlo := act_loop9 a k (encs l) (pmark (encs l)) [] l (l.map actZ) (by simp; omega) (fun x hx => by
      obtain ⟨c, hc, rfl⟩ := List.mem_map.1 hx
      exact ⟨c, hok c hc, rfl⟩) (l.map actZ) [] rfl
    rw [show ((([] : List GAct).length : Nat) : Int) = 0 from rfl] at hlo
    rw [hlo, bs, Sum.elim_inl]
    unfold f9_j2
    simp only
    rw [paste_ok l 0 (by omega), bs, decide_eq_true rfl, ct, decide_eq_true (show (((l.map actZ).length : Nat) : Int) = (l.length : Int) by simp), ct, cat_ok _ _ (by simp; omega), bs, cat_ok _ _ (by simp; omega), bs, decide_eq_true (show pmark (encs l) = [27, 91, 50, 48, 48, 126] ++ encs l ++ [27, 91, 50, 48, 49, 126] from rfl), ct]
    simp only [decide_true, cond_true]
    rw [if_pos (show bitI .and .i64 0 64 = 0 by decide), flat_same l hok, decide_eq_true rfl, ct]
theorem maxcell {w : World} (hsh : w.ShapedOpen Go.Proofs.Tryd.prog) : ∃ m, w.cell? ⟨2, 0, none⟩ = some (.int .i64 m) :=
  cell_of_shapedOpen_int (t := 3) (zero := #[.int .i64 0]) hsh (of_decide_eq_true (by kernel_rfl)) (by kernel_rfl) rfl (by kernel_rfl) (by kernel_rfl) (by kernel_rfl)
theorem u8tabs {l : List (String × DataW Unit)} {w : World} (hL : laidMetH Go.Proofs.Tryd.prog l w) (h1 : ("unicode/utf8.first", Lib.firstData) ∈ l.filter fun x => x.2.handleName?.isNone) (h2 : ("unicode/utf8.acceptRanges", Lib.acceptData) ∈ l.filter fun x => x.2.handleName?.isNone) : Lib.Utf8Tabs 0 1 w := by
  have h := (laidMetH_iff.1 hL).1
  exact utf8Tabs_of_readsT (ρ := Go.Proofs.Tryd.lays197_ren) { Go.Proofs.Tryd.lays197 with } ⟨by kernel_rfl, by kernel_rfl, by kernel_rfl, by kernel_rfl, by kernel_rfl, by kernel_rfl, by kernel_rfl⟩ (Lib.laidMet.reads h h1) (Lib.laidMet.reads h h2)
theorem mem_nth {α : Type} {l : List α} {x : α} (i : Nat) (h : l[i]? = some x) : x ∈ l := List.mem_of_getElem? h
theorem PressSafe_walk (v0 v1 : Value) (w : World) (h0 : Arg (some 1048576) Go.Proofs.Tryd.prog w 22 v0) (h1 : Arg (some 1048576) Go.Proofs.Tryd.prog w 3 v1) (hsh : w.ShapedOpen Go.Proofs.Tryd.prog) (hL : laidMetH Go.Proofs.Tryd.prog Rows.pressSafeUptoRow.laid w) : Calls Go.Proofs.Tryd.prog 9 #[v0, v1] w fun e w' => e = .returned (.bool true) ∧ Below w.heap.size w w' :=
  PressSafe_calls (some 1048576) (fun a b _ _ => pressSafe a b) v0 v1 w h0 h1 (maxcell hsh) (u8tabs hL (mem_nth 4 (by kernel_rfl)) (mem_nth 3 (by kernel_rfl)))
end Go.Proofs.YtakmihemhmdpkaaDoor.Pm
