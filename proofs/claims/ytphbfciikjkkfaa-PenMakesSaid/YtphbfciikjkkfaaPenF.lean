/- Pen: the flags of a change. -/
import Derived.Test.YtphbfciikjkkfaaPenB
namespace Go.Proofs.Ytphbfciikjkkfaa.Pm
open Go.Proofs.Ytphbfciikjkkfaa.Args
set_option linter.unusedVariables false
set_option maxRecDepth 100000
def tbl (i : Nat) : Int := ([0, 1, 2, 4, 8, 16, 0, 32, 64, 128] : List Int).getD i 0
def want (b q : Int) (i : Nat) : Bool := !decide (bitI .andNot .i64 (bitI .and .i64 (tbl i) q) b = 0)
def flg (b q : Int) : List Nat := [1, 2, 3, 4, 5, 6, 7, 8, 9].filter (want b q)
def foldF (b q : Int) : Int := (flg b q).foldl (fun s i => bitI .or .i64 s (tbl i)) b
def tblN (i : Nat) : Nat := ([0, 1, 2, 4, 8, 16, 0, 32, 64, 128] : List Nat).getD i 0
def wantN (b q i : Nat) : Bool := !Nat.beq (Nat.land (Nat.land (tblN i) q) (18446744073709551615 - b)) 0
def flgN (b q : Nat) : List Nat := [1, 2, 3, 4, 5, 6, 7, 8, 9].filter (wantN b q)
def foldN (b q : Nat) : Nat := (flgN b q).foldl (fun s i => Nat.lor s (tblN i)) b
theorem tblN_lt (i : Nat) : tblN i < 256 := by
  match i with
  | 0 | 1 | 2 | 3 | 4 | 5 | 6 | 7 | 8 | 9 => decide
  | i + 10 => exact (by decide : (0 : Nat) < 256)
theorem tbl_eq (i : Nat) : tbl i = (tblN i : Int) := by
  match i with
  | 0 | 1 | 2 | 3 | 4 | 5 | 6 | 7 | 8 | 9 => rfl
  | i + 10 => rfl
theorem ofI (n : Nat) (h : n < 18446744073709551616) : (BitVec.ofInt 64 (n : Int)).toNat = n := by
  rw [BitVec.ofInt_natCast, BitVec.toNat_ofNat]; exact Nat.mod_eq_of_lt h
theorem bitI_or (a b : Nat) (ha : a < 256) (hb : b < 256) : bitI .or .i64 (a : Int) (b : Int) = ((Nat.lor a b : Nat) : Int) ∧ Nat.lor a b < 256 := by
  have hlt : a ||| b < 2 ^ 8 := Nat.or_lt_two_pow ha hb
  refine ⟨?_, hlt⟩
  show IntKind.i64.wrap ((BitVec.ofInt 64 (a : Int) ||| BitVec.ofInt 64 (b : Int)).toNat : Int) = ((a ||| b : Nat) : Int)
  rw [BitVec.toNat_or, ofI a (by omega), ofI b (by omega), i64w _ (by omega)]
theorem bitI_and (a b : Nat) (ha : a < 256) (hb : b < 256) : bitI .and .i64 (a : Int) (b : Int) = ((Nat.land a b : Nat) : Int) ∧ Nat.land a b < 256 := by
  have hle : a &&& b ≤ a := Nat.and_le_left
  refine ⟨?_, Nat.lt_of_le_of_lt hle ha⟩
  show IntKind.i64.wrap ((BitVec.ofInt 64 (a : Int) &&& BitVec.ofInt 64 (b : Int)).toNat : Int) = ((a &&& b : Nat) : Int)
  rw [BitVec.toNat_and, ofI a (by omega), ofI b (by omega), i64w _ (by omega)]
theorem bitI_not (a b : Nat) (ha : a < 256) (hb : b < 256) : bitI .andNot .i64 (a : Int) (b : Int) = ((Nat.land a (18446744073709551615 - b) : Nat) : Int) := by
  have hle : a &&& (18446744073709551615 - b) ≤ a := Nat.and_le_left
  show IntKind.i64.wrap ((BitVec.ofInt 64 (a : Int) &&& ~~~ BitVec.ofInt 64 (b : Int)).toNat : Int) = ((a &&& (18446744073709551615 - b) : Nat) : Int)
  rw [BitVec.toNat_and, BitVec.toNat_not, ofI a (by omega), ofI b (by omega)]
  rw [show 2 ^ 64 - 1 - b = 18446744073709551615 - b from rfl, i64w _ (by omega)]
theorem want_eq (b q i : Nat) (hb : b < 256) (hq : q < 256) : want (b : Int) (q : Int) i = wantN b q i := by
  unfold want wantN
  obtain ⟨e1, l1⟩ := bitI_and (tblN i) q (tblN_lt i) hq
  rw [tbl_eq, e1, bitI_not _ _ l1 hb]
  generalize Nat.land (Nat.land (tblN i) q) (18446744073709551615 - b) = z
  cases z with
  | zero => rfl
  | succ z => rw [decide_eq_false (by omega)]; rfl
theorem flg_eq (b q : Nat) (hb : b < 256) (hq : q < 256) : flg (b : Int) (q : Int) = flgN b q := by
  unfold flg flgN
  exact congrArg (fun f => List.filter f _) (funext fun i => want_eq b q i hb hq)
theorem foldl_or : ∀ (is : List Nat) (s : Nat), s < 256 → is.foldl (fun s i => bitI .or .i64 s (tbl i)) (s : Int) = ((is.foldl (fun s i => Nat.lor s (tblN i)) s : Nat) : Int)
  | [], s, _ => rfl
  | i :: is, s, h => by
    obtain ⟨e, l⟩ := bitI_or s (tblN i) h (tblN_lt i)
    rw [List.foldl_cons, List.foldl_cons, tbl_eq, e]
    exact foldl_or is _ l
theorem fold_test : ∀ b : Fin 256, ∀ q : Fin 256, Nat.land b.val (18446744073709551615 - q.val) = 0 → foldN b.val q.val = q.val ∧ (flgN b.val q.val).length ≤ 8 := by decide +kernel
theorem same_test : ∀ b : Fin 256, flgN b.val b.val = [] := by decide +kernel
theorem flags_ok (b q : Int) (hb : 0 ≤ b ∧ b ≤ 255) (hq : 0 ≤ q ∧ q ≤ 255) (h : bitI .andNot .i64 b q = 0) : (flg b q).foldl (fun s i => bitI .or .i64 s (tbl i)) b = q ∧ (flg b q).length ≤ 8 := by
  obtain ⟨b, rfl⟩ := Int.eq_ofNat_of_zero_le hb.1
  obtain ⟨q, rfl⟩ := Int.eq_ofNat_of_zero_le hq.1
  have hb' : b < 256 := by omega
  have hq' : q < 256 := by omega
  rw [bitI_not b q hb' hq'] at h
  obtain ⟨h1, h2⟩ := fold_test ⟨b, hb'⟩ ⟨q, hq'⟩ (by simpa using h)
  rw [flg_eq b q hb' hq', foldl_or _ b hb']
  exact ⟨congrArg Int.ofNat h1, h2⟩
theorem andNot_self : ∀ q : Fin 256, bitI .andNot .i64 (q.val : Int) (q.val : Int) = 0 := by decide +kernel
theorem flags_same (q : Int) (hq : 0 ≤ q ∧ q ≤ 255) : flg q q = [] ∧ bitI .andNot .i64 q q = 0 := by
  obtain ⟨q, rfl⟩ := Int.eq_ofNat_of_zero_le hq.1
  have hq' : q < 256 := by omega
  refine ⟨by rw [flg_eq q q hq' hq']; exact same_test ⟨q, hq'⟩, ?_⟩
  have := andNot_self ⟨q, hq'⟩
  exact this
end Go.Proofs.Ytphbfciikjkkfaa.Pm
