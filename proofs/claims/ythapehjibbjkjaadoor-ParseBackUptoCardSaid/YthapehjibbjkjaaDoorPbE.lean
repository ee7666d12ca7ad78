/- A rune's bytes: the program's own are the library's. -/
import Derived.Test.YthapehjibbjkjaaDoorPbQ
import Derived.Lib.MapLaws
namespace Go.Proofs.YthapehjibbjkjaaDoor.Pm
open Go.Proofs.YthapehjibbjkjaaDoor.Args
open Go.ChangeShapes Go.WideShapes Go.ChangeAt Go.RowKit
set_option linter.unusedVariables false
set_option linter.unusedSimpArgs false
set_option maxRecDepth 100000
theorem or192 (x : Nat) (h : x < 32) : (192 : UInt8) ||| UInt8.ofNat x = UInt8.ofNat (192 + x) := by
  have : ∀ i : Fin 32, (192 : UInt8) ||| UInt8.ofNat i.val = UInt8.ofNat (192 + i.val) := by decide
  exact this ⟨x, h⟩
theorem or224 (x : Nat) (h : x < 16) : (224 : UInt8) ||| UInt8.ofNat x = UInt8.ofNat (224 + x) := by
  have : ∀ i : Fin 16, (224 : UInt8) ||| UInt8.ofNat i.val = UInt8.ofNat (224 + i.val) := by decide
  exact this ⟨x, h⟩
theorem or240 (x : Nat) (h : x < 8) : (240 : UInt8) ||| UInt8.ofNat x = UInt8.ofNat (240 + x) := by
  have : ∀ i : Fin 8, (240 : UInt8) ||| UInt8.ofNat i.val = UInt8.ofNat (240 + i.val) := by decide
  exact this ⟨x, h⟩
theorem or128a : ∀ i : Fin 256, (128 : UInt8) ||| (UInt8.ofNat i.val &&& (63 : UInt8)) = UInt8.ofNat (128 + i.val % 64) := by decide
theorem or128 (x : Nat) : (128 : UInt8) ||| (UInt8.ofNat x &&& (63 : UInt8)) = UInt8.ofNat (128 + x % 64) := by
  have h := or128a ⟨x % 256, Nat.mod_lt _ (by decide)⟩
  have e : UInt8.ofNat (x % 256) = UInt8.ofNat x := by
    apply UInt8.toNat.inj; simp
  have e2 : x % 256 % 64 = x % 64 := by omega
  dsimp only at h
  rw [e, e2] at h
  exact h
theorem u8n (n : Nat) : u8 (n : Int) = UInt8.ofNat n := by
  unfold u8
  apply UInt8.toNat.inj
  simp
  try omega
theorem fdivn (n k : Nat) : Int.fdiv (n : Int) (k : Int) = ((n / k : Nat) : Int) := by
  rw [Int.fdiv_eq_ediv_of_nonneg _ (by omega)]
  exact (Int.natCast_ediv n k).symm
theorem mkb (z : Int) (n : Nat) (h : z = (n : Int)) : z.toNat.toUInt8 = UInt8.ofNat n := by subst h; simp
/-- The bytes of a code point. -/
theorem encR_lib (n : Nat) (h : n ≤ 55295 ∨ (57344 ≤ n ∧ n ≤ 1114111)) : encR (n : Int) = Lib.encodeRune (n : Int) := by
  have w : IntKind.u32.wrap (n : Int) = n := by
    unfold IntKind.wrap
    simp [IntKind.bits, IntKind.signed]
    omega
  have d6 : Int.fdiv (n : Int) (2 ^ 6) = ((n / 64 : Nat) : Int) := fdivn n 64
  have d12 : Int.fdiv (n : Int) (2 ^ 12) = ((n / 4096 : Nat) : Int) := fdivn n 4096
  have d18 : Int.fdiv (n : Int) (2 ^ 18) = ((n / 262144 : Nat) : Int) := fdivn n 262144
  unfold encR Lib.encodeRune
  rw [w, d6, d12, d18]
  simp only [u8n, or128]
  by_cases h1 : n ≤ 127
  · rw [decide_eq_true (show (n : Int) ≤ 127 by omega), ct, Lib.encodeRuneZ_one (by omega) (by omega)]
    simp only [List.map_cons, List.map_nil]
    rw [mkb _ n rfl]
  rw [decide_eq_false (show ¬ (n : Int) ≤ 127 by omega), cf]
  by_cases h2 : n ≤ 2047
  · rw [decide_eq_true (show (n : Int) ≤ 2047 by omega), ct, Lib.encodeRuneZ_two (by omega) (by omega), or192 _ (by omega)]
    simp only [List.map_cons, List.map_nil]
    rw [mkb _ (192 + n / 64) (by omega), mkb _ (128 + n % 64) (by omega)]
  rw [decide_eq_false (show ¬ (n : Int) ≤ 2047 by omega), cf]
  by_cases h3 : n ≤ 65535
  · have e : (bif decide ((n : Int) < 55296) then true else (decide ((57343 : Int) < (n : Int)) && decide ((n : Int) ≤ 65535))) = true := by
      by_cases q : n < 55296
      · rw [decide_eq_true (show (n : Int) < 55296 by omega)]; rfl
      · rw [decide_eq_false (show ¬ (n : Int) < 55296 by omega), decide_eq_true (show (57343 : Int) < (n : Int) by omega), decide_eq_true (show (n : Int) ≤ 65535 by omega)]; rfl
    rw [e, ct, Lib.encodeRuneZ_three (by omega), or224 _ (by omega)]
    simp only [List.map_cons, List.map_nil]
    rw [mkb _ (224 + n / 4096) (by omega), mkb _ (128 + n / 64 % 64) (by omega), mkb _ (128 + n % 64) (by omega)]
  · have e : (bif decide ((n : Int) < 55296) then true else (decide ((57343 : Int) < (n : Int)) && decide ((n : Int) ≤ 65535))) = false := by
      rw [decide_eq_false (show ¬ (n : Int) < 55296 by omega), decide_eq_false (show ¬ (n : Int) ≤ 65535 by omega), Bool.and_false]; rfl
    rw [e, cf, decide_eq_true (show (65535 : Int) < (n : Int) by omega), decide_eq_true (show (n : Int) ≤ 1114111 by omega), Bool.and_self, ct, Lib.encodeRuneZ_four (by omega) (by omega), or240 _ (by omega)]
    simp only [List.map_cons, List.map_nil]
    rw [mkb _ (240 + n / 262144) (by omega), mkb _ (128 + n / 4096 % 64) (by omega), mkb _ (128 + n / 64 % 64) (by omega), mkb _ (128 + n % 64) (by omega)]
theorem encT_lib (n : Nat) (h : n ≤ 55295 ∨ (57344 ≤ n ∧ n ≤ 1114111)) : encT (n : Int) = Lib.encodeRune (n : Int) := by
  have w : IntKind.i32.wrap (n : Int) = n := by
    unfold IntKind.wrap
    simp [IntKind.bits, IntKind.signed]
    omega
  unfold encT
  rw [if_neg (by omega), w, encR_lib n h]
/-- The runes of a text. -/
def rnsF : Nat → List UInt8 → List Int
  | 0, _ => []
  | n + 1, l => if l = [] then [] else ((Lib.decodeL l).1 : Int) :: rnsF n (l.drop (Lib.decodeL l).2)
def rns (l : List UInt8) : List Int := rnsF l.length l
theorem dec_pos (l : List UInt8) (h : l ≠ []) : 1 ≤ (Lib.decodeL l).2 ∧ (Lib.decodeL l).2 ≤ l.length := by
  have hl : 0 < l.length := List.length_pos_iff.2 h
  rw [Lib.decodeL_N]
  rcases Lib.decodeN_shape l.length (l.getD 0 0).toNat (l.getD 1 0).toNat (l.getD 2 0).toNat (l.getD 3 0).toNat with ⟨c, e⟩ | ⟨c1, c2, c3, cv, e⟩ | ⟨c1, c2, c3, c4, cv, cs, e⟩ | ⟨c1, c2, c3, c4, c5, cv, cw, e⟩ | e <;> rw [e] <;> dsimp only <;> omega
theorem dec_rune (l : List UInt8) : (Lib.decodeL l).1 ≤ 55295 ∨ (57344 ≤ (Lib.decodeL l).1 ∧ (Lib.decodeL l).1 ≤ 1114111) := by
  have k0 := (l.getD 0 0).toNat_lt
  have k1 := (l.getD 1 0).toNat_lt
  have k2 := (l.getD 2 0).toNat_lt
  have k3 := (l.getD 3 0).toNat_lt
  rw [Lib.decodeL_N]
  rcases Lib.decodeN_shape l.length (l.getD 0 0).toNat (l.getD 1 0).toNat (l.getD 2 0).toNat (l.getD 3 0).toNat with ⟨c, e⟩ | ⟨c1, c2, c3, cv, e⟩ | ⟨c1, c2, c3, c4, cv, cs, e⟩ | ⟨c1, c2, c3, c4, c5, cv, cw, e⟩ | e <;> rw [e] <;> dsimp only <;> omega
theorem rnsF_fuel : ∀ (n m : Nat) (l : List UInt8), l.length ≤ n → l.length ≤ m → rnsF n l = rnsF m l
  | 0, 0, l, _, _ => rfl
  | 0, m + 1, l, hn, hm => by
    have : l = [] := List.eq_nil_of_length_eq_zero (by omega)
    subst this; rfl
  | n + 1, 0, l, hn, hm => by
    have : l = [] := List.eq_nil_of_length_eq_zero (by omega)
    subst this; rfl
  | n + 1, m + 1, l, hn, hm => by
    unfold rnsF
    by_cases h : l = []
    · rw [if_pos h, if_pos h]
    · have hp := dec_pos l h
      rw [if_neg h, if_neg h, rnsF_fuel n m _ (by rw [List.length_drop]; omega) (by rw [List.length_drop]; omega)]
theorem rns_cons (l : List UInt8) (h : l ≠ []) : rns l = ((Lib.decodeL l).1 : Int) :: rns (l.drop (Lib.decodeL l).2) := by
  have hl : 0 < l.length := List.length_pos_iff.2 h
  have hp := dec_pos l h
  obtain ⟨n, hn⟩ : ∃ n, l.length = n + 1 := ⟨l.length - 1, by omega⟩
  unfold rns
  rw [hn]
  show (if l = [] then [] else ((Lib.decodeL l).1 : Int) :: rnsF n (l.drop (Lib.decodeL l).2)) = _
  rw [if_neg h, rnsF_fuel n _ _ (by rw [List.length_drop]; omega) (Nat.le_refl _)]
theorem rns_nil : rns [] = [] := rfl
theorem rns_len : ∀ (n : Nat) (l : List UInt8), l.length ≤ n → (rns l).length ≤ l.length
  | n, [], _ => by simp [rns_nil]
  | 0, _ :: _, h => by simp at h
  | n + 1, x :: t, h => by
    have hp := dec_pos (x :: t) (by simp)
    rw [rns_cons _ (by simp)]
    have := rns_len n ((x :: t).drop (Lib.decodeL (x :: t)).2) (by rw [List.length_drop]; omega)
    rw [List.length_drop] at this
    rw [List.length_cons]
    omega
theorem valid_fuel : ∀ (n m : Nat) (l : List UInt8), l.length ≤ n → l.length ≤ m → Lib.validGoD n l = Lib.validGoD m l
  | 0, 0, l, _, _ => rfl
  | 0, m + 1, l, hn, hm => by
    have : l = [] := List.eq_nil_of_length_eq_zero (by omega)
    subst this; rfl
  | n + 1, 0, l, hn, hm => by
    have : l = [] := List.eq_nil_of_length_eq_zero (by omega)
    subst this; rfl
  | n + 1, m + 1, l, hn, hm => by
    unfold Lib.validGoD
    by_cases h : l = []
    · rw [if_pos h, if_pos h]
    · have hp := dec_pos l h
      rw [if_neg h, if_neg h, valid_fuel n m _ (by rw [List.length_drop]; omega) (by rw [List.length_drop]; omega)]
/-- Valid text is the bytes of its runes. -/
theorem valid_cons (l : List UInt8) (h : l ≠ []) (hv : Lib.validD l = true) : ¬ ((Lib.decodeL l).1 = 65533 ∧ (Lib.decodeL l).2 = 1) ∧ Lib.validD (l.drop (Lib.decodeL l).2) = true := by
  have hl : 0 < l.length := List.length_pos_iff.2 h
  have hp := dec_pos l h
  obtain ⟨n, hn⟩ : ∃ n, l.length = n + 1 := ⟨l.length - 1, by omega⟩
  unfold Lib.validD at hv
  rw [hn] at hv
  have hv : (if l = [] then true else if (Lib.decodeL l).1 = 65533 ∧ (Lib.decodeL l).2 = 1 then false else Lib.validGoD n (l.drop (Lib.decodeL l).2)) = true := hv
  rw [if_neg h] at hv
  by_cases q : (Lib.decodeL l).1 = 65533 ∧ (Lib.decodeL l).2 = 1
  · rw [if_pos q] at hv; cases hv
  rw [if_neg q] at hv
  refine ⟨q, ?_⟩
  unfold Lib.validD
  rw [← valid_fuel n _ _ (by rw [List.length_drop]; omega) (Nat.le_refl _)]
  exact hv
theorem enc_take (l : List UInt8) (h : l ≠ []) (hv : Lib.validD l = true) : encT ((Lib.decodeL l).1 : Int) = l.take (Lib.decodeL l).2 := by
  rw [encT_lib _ (dec_rune l), Lib.encode_decode l h (valid_cons l h hv).1]
end Go.Proofs.YthapehjibbjkjaaDoor.Pm
