/- LineQuotes: each byte behind the quoting key is put as it is. -/
import Derived.Test.YthblnlmpfgfgcaaDoorLqA
namespace Go.Proofs.YthblnlmpfgfgcaaDoor.Pm
open Go.Proofs.YthblnlmpfgfgcaaDoor.Args
open Go.ChangeShapes Go.WideShapes Go.ChangeAt Go.RowKit
set_option linter.unusedVariables false
set_option linter.unusedSimpArgs false
set_option maxRecDepth 100000
/-- The quoting key ahead of each byte. -/
def qt : Str → Str
  | [] => []
  | c :: t => 22 :: c :: qt t
theorem qt_len : ∀ t : Str, (qt t).length = 2 * t.length
  | [] => rfl
  | c :: t => by simp [qt, qt_len t]; omega
theorem qt_app : ∀ x y : Str, qt (x ++ y) = qt x ++ qt y
  | [], y => rfl
  | c :: x, y => by simp [qt, qt_app x y]
def kq (k : GKeys) : GKeys := ⟨upd k.Levels 14 2, upd k.Chars 14 22⟩
theorem is14 (k : GKeys) : isB (kq k) 22 14 = true := by
  unfold isB kq upd; simp
theorem tks_qt (k : GKeys) (M : Nat → Int) : ∀ (t b : Str), b.length + t.length ≤ 1000 → tks (kq k) M (qt t) b false = ⟨b ++ t, false, [], t⟩
  | [], b, h => by simp [qt, tks]
  | c :: t, b, h => by
    have h1 : tk (kq k) M 22 b false = ⟨b, true, [], []⟩ := by
      unfold tk
      rw [if_neg (by simp), if_pos (is14 k)]
    have h2 : tk (kq k) M c b true = ⟨b ++ [c], false, [], [c]⟩ := by
      unfold tk put ins
      rw [if_pos rfl, if_pos (by simp at h ⊢; omega)]
    have ih := tks_qt k M t (b ++ [c]) (by simp at h ⊢; omega)
    simp only [qt, tks, h1, h2, ih]
    simp
theorem quote_loop (k : GKeys) (m : GMask) (a : Str) (ha : a.length ≤ 1000) : ∀ (suf pre : Str), a = pre ++ suf →
    loopO (f3_l2 k m a) (qt pre, (pre.length : Int)) = some (qt a)
  | [], pre, e => loopO_done (by
      subst e
      unfold f3_l2 f3_l2_j3
      simp only [lt_end, cond_false]
      simp)
  | c :: t, pre, e => by
    have hp : pre.length < 1000000000 := by rw [e] at ha; simp at ha; omega
    have hlt : decide ((pre.length : Int) < (a.length : Int)) = true := by rw [e]; exact lt_mid pre c t
    have ih := quote_loop k m a ha t (pre ++ [c]) (by simp [e])
    refine loopO_next ?_ ih
    unfold f3_l2 f3_l2_j3 f3_l2_j4
    simp only [hlt, cond_true]
    have hw : IntKind.i64.wrap ((pre.length : Int) + 1) = ((pre.length + 1 : Nat) : Int) := by rw [i64w _ (by omega)]; rfl
    have hs : sub? a (pre.length : Int) (IntKind.i64.wrap ((pre.length : Int) + 1)) = some [c] := by
      rw [hw]
      unfold sub?
      rw [if_pos (by rw [e]; simp; omega)]
      simp only [Int.toNat_natCast]
      rw [e]
      simp [List.take_append]
    have hql := qt_len pre
    have hpa : pre.length ≤ 1000 := by rw [e] at ha; simp at ha; omega
    rw [hs, bs]
    have hc : cat? ([22] : List UInt8) [c] = some [22, c] := cat_ok _ _ (by simp)
    rw [hc, bs]
    have hbw : blw? (qt pre) [22, c] = some (qt (pre ++ [c])) := by
      unfold blw?
      rw [if_pos (by simp; omega), qt_app]; rfl
    rw [hbw, bs, hw]
    simp
/-- Both tell the same of keys. -/
theorem keys_same (k : GKeys) : ∃ z, f19 k = some z ∧ f10 k = some z := by
  have hl : ∀ (n i : Nat), i + n = 19 → (loopO (f19_l1 k) (i : Int) = some (.inl ()) ∧ (loopO (f10_l1 k) (i : Int) = some (.inl ()) ∧ (i = 0 → ((k.Levels 0) + (k.Chars 0)).toNat = 0) ∨ i = 0 ∧ ((k.Levels 0) + (k.Chars 0)).toNat ≠ 0 ∧ loopO (f10_l1 k) (i : Int) = some (.inr 4))) ∨
      (loopO (f19_l1 k) (i : Int) = some (.inr 4) ∧ loopO (f10_l1 k) (i : Int) = some (.inr 4)) := by
    intro n
    induction n with
    | zero =>
      intro i hi
      refine .inl ⟨loopO_done ?_, .inl ⟨loopO_done ?_, by omega⟩⟩
      · unfold f19_l1 f19_l1_j2
        rw [decide_eq_false (by omega), cf, cf]
      · unfold f10_l1 f10_l1_j2
        rw [decide_eq_false (by omega), cf, cf]
    | succ n ih =>
      intro i hi
      by_cases h2 : 2 < (k.Levels i).toNat
      · refine .inr ⟨loopO_done ?_, loopO_done ?_⟩
        · unfold f19_l1 f19_l1_j2 f19_l1_j3
          rw [decide_eq_true (by omega), ct, ct, inR_nat i 19 (by omega), bs, decide_eq_true (by omega), ct]
        · unfold f10_l1 f10_l1_j2 f10_l1_j3
          rw [decide_eq_true (by omega), ct, ct, inR_nat i 19 (by omega), bs, decide_eq_true (by omega), ct]
      · have s1 : f19_l1 k (i : Int) = some (.inl ((i + 1 : Nat) : Int)) := by
          unfold f19_l1 f19_l1_j2 f19_l1_j3
          rw [decide_eq_true (by omega), ct, ct, inR_nat i 19 (by omega), bs, decide_eq_false (by omega), cf, i64w _ (by omega)]; rfl
        by_cases h0 : i = 0 ∧ ((k.Levels 0) + (k.Chars 0)).toNat ≠ 0
        · have s2 : f10_l1 k (i : Int) = some (.inr (.inr 4)) := by
            unfold f10_l1 f10_l1_j2 f10_l1_j3
            rw [decide_eq_true (by omega), ct, ct, inR_nat i 19 (by omega), bs, decide_eq_false (by omega), cf, decide_eq_true (by omega), ct, bs, bs]
            obtain ⟨rfl, h0⟩ := h0
            rw [decide_eq_false (by omega), Bool.not_false, ct]
          rcases ih (i + 1) (by omega) with ⟨a, _⟩ | ⟨a, _⟩
          · exact .inl ⟨loopO_next s1 a, .inr ⟨h0.1, h0.2, loopO_done s2⟩⟩
          · exact .inr ⟨loopO_next s1 a, loopO_done s2⟩
        · have s2 : f10_l1 k (i : Int) = some (.inl ((i + 1 : Nat) : Int)) := by
            unfold f10_l1 f10_l1_j2 f10_l1_j3
            rw [decide_eq_true (by omega), ct, ct, inR_nat i 19 (by omega), bs, decide_eq_false (by omega), cf]
            have hw : IntKind.i64.wrap ((i : Int) + 1) = ((i + 1 : Nat) : Int) := by rw [i64w _ (by omega)]; rfl
            by_cases hi0 : i = 0
            · subst hi0
              rw [decide_eq_true (by omega), ct, bs, bs, decide_eq_true (by have : ¬ ((k.Levels 0) + (k.Chars 0)).toNat ≠ 0 := fun h => h0 ⟨rfl, h⟩
                                                                            omega), Bool.not_true, cf, hw]
            · rw [decide_eq_false (by omega), cf, hw]
          rcases ih (i + 1) (by omega) with ⟨a, ⟨b, _⟩ | ⟨h, _⟩⟩ | ⟨a, b⟩
          · refine .inl ⟨loopO_next s1 a, .inl ⟨loopO_next s2 b, fun hi0 => ?_⟩⟩
            exact Classical.byContradiction fun h => h0 ⟨hi0, h⟩
          · omega
          · exact .inr ⟨loopO_next s1 a, loopO_next s2 b⟩
  unfold f19 f10
  have hl0 := hl 19 0 rfl
  rw [show ((0 : Nat) : Int) = 0 from rfl] at hl0
  rcases hl0 with ⟨a, ⟨b, h0⟩ | ⟨_, h0, b⟩⟩ | ⟨a, b⟩
  · rw [a, b, bs, bs, Sum.elim_inl, Sum.elim_inl]
    unfold f19_j0 f10_j0
    have h0 := h0 rfl
    rw [UInt8.toNat_add] at h0
    have q1 := (k.Levels 0).toNat_lt
    have q2 := (k.Chars 0).toNat_lt
    by_cases hL : (k.Levels 0).toNat = 0
    · rw [decide_eq_true (p := ((k.Levels 0).toNat : Int) = 0) (by omega), Bool.not_true, cf, decide_eq_true (by omega), decide_eq_false (by omega)]
      exact ⟨0, rfl, rfl⟩
    · rw [decide_eq_false (p := ((k.Levels 0).toNat : Int) = 0) (by omega), Bool.not_false, ct, decide_eq_true (by omega)]
      exact ⟨4, rfl, rfl⟩
  · rw [a, b, bs, bs, Sum.elim_inl, Sum.elim_inr]
    unfold f19_j0
    rw [UInt8.toNat_add] at h0
    by_cases hL : (k.Levels 0).toNat = 0
    · rw [decide_eq_true (p := ((k.Levels 0).toNat : Int) = 0) (by omega), Bool.not_true, cf, decide_eq_false (by omega), Bool.not_false, ct]
      exact ⟨4, rfl, rfl⟩
    · rw [decide_eq_false (p := ((k.Levels 0).toNat : Int) = 0) (by omega), Bool.not_false, ct]
      exact ⟨4, rfl, rfl⟩
  · rw [a, b, bs, bs, Sum.elim_inr, Sum.elim_inr]
    exact ⟨4, rfl, rfl⟩
theorem lineQuotes (k : GKeys) (m : GMask) (a : Str) : f3 k m a = some true := by
  unfold f3
  rw [lives, bs, Bool.not_true, cf]
  by_cases ha : 1000 < a.length
  · rw [decide_eq_true (by omega), ct, bs]
  rw [decide_eq_false (by omega), cf]
  unfold f6
  simp only [List.length_nil]
  rw [decide_eq_false (by decide), cf, bs, decide_eq_true rfl, Bool.not_true, cf]
  unfold f3_j0
  have hq := quote_loop k m a (by omega) a [] rfl
  have hq : loopO (f3_l2 k m a) ([], 0) = some (qt a) := hq
  rw [hq, bs]
  unfold f3_j1
  obtain ⟨z, hz1, hz2⟩ := keys_same (kq k)
  have hz2 : f10 (GKeys.mk (upd k.Levels 14 2) (upd k.Chars 14 22)) = some z := hz2
  have hql := qt_len a
  by_cases h0 : z = 0
  · subst h0
    have ht := type_ok ⟨[], false⟩ (kq k) m.Bits (qt a) hz1 (by simp) (by omega)
    have ht : f8 (GEditor.mk [] false) (GKeys.mk (upd k.Levels 14 2) (upd k.Chars 14 22)) m (qt a) = _ := ht
    have hk := tks_qt k m.Bits a [] (by simp; omega)
    rw [ht, bs, hz2, bs]
    unfold typA
    simp only [hk]
    simp
  · have ht : f8 (GEditor.mk [] false) (GKeys.mk (upd k.Levels 14 2) (upd k.Chars 14 22)) m (qt a) = some (GEditor.mk [] false, [], [], z) := by
      have hz1 : f19 (GKeys.mk (upd k.Levels 14 2) (upd k.Chars 14 22)) = some z := hz1
      unfold f8 f6
      simp only [List.length_nil]
      rw [decide_eq_false (by decide), cf, bs, decide_eq_true rfl, Bool.not_true, cf]
      unfold f8_j0
      rw [hz1, bs, decide_eq_false h0, Bool.not_false, ct]
    rw [ht, bs, hz2, bs]
    simp only [decide_true, cond_true]
    rw [decide_eq_false h0, Bool.not_false, ct]
theorem LineQuotes_walk (v0 v1 v2 : Value) (w : World) (h0 : Arg none Go.Proofs.Tryd.prog w 24 v0) (h1 : Arg none Go.Proofs.Tryd.prog w 28 v1) (h2 : Arg none Go.Proofs.Tryd.prog w 9 v2) : Calls Go.Proofs.Tryd.prog 3 #[v0, v1, v2] w fun e w' => e = .returned (.bool true) ∧ Below w.heap.size w w' :=
  LineQuotes_calls none (fun k m a _ _ _ => lineQuotes k m a) v0 v1 v2 w h0 h1 h2
end Go.Proofs.YthblnlmpfgfgcaaDoor.Pm
