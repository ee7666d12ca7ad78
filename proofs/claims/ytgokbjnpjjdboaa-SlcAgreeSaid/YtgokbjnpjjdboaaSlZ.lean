/- SlcAgree: what the typed functions come to. -/
import Derived.Test.YtgokbjnpjjdboaaDSlcZ
import Derived.Test.YtgokbjnpjjdboaaSlP
namespace Go.Proofs.Ytgokbjnpjjdboaa.Pm
open Go.Proofs.Ytgokbjnpjjdboaa.Args
open Go.Proofs.Ytgokbjnpjjdboaa.Sl (Ky tripleS takeL setK)
set_option linter.unusedVariables false
set_option linter.unusedSimpArgs false
set_option maxRecDepth 100000
theorem i64w (n : Int) (h : -9223372036854775808 ≤ n ∧ n ≤ 9223372036854775807) : IntKind.i64.wrap n = n := IntWalk.i64_in n h
def ky (a : GKeys) : Ky := ⟨fun i => ((a.Levels i).toNat : Int), fun i => ((a.Chars i).toNat : Int)⟩
def nums (l : List UInt8) : List Int := l.map fun b => (b.toNat : Int)
theorem inR_of (z : Int) (n : Nat) (h : 0 ≤ z ∧ z < n) : inR z n = some z.toNat := by unfold inR; rw [if_pos (by omega)]
theorem mod4 (g : UInt8) : ((g % 4).toNat : Int) = (g.toNat : Int) % 4 := by rw [UInt8.toNat_mod]; rfl
theorem add128 (g : UInt8) : ((128 + g % 4).toNat : Int) = 128 + (g.toNat : Int) % 4 := by
  rw [UInt8.toNat_add, UInt8.toNat_mod]
  show (((128 + g.toNat % 4) % 256 : Nat) : Int) = _
  omega
theorem upd_ky (a : GKeys) (m : Nat) (l c : UInt8) : ky ⟨upd a.Levels m l, upd a.Chars m c⟩ = setK (ky a) m (l.toNat : Int) (c.toNat : Int) := by
  unfold ky setK
  congr 1
  · funext i; simp only [upd, Go.Proofs.Ytgokbjnpjjdboaa.Sl.upd]; split <;> rfl
  · funext i; simp only [upd, Go.Proofs.Ytgokbjnpjjdboaa.Sl.upd]; split <;> rfl
/-- One three. -/
theorem f37_eq (f g c : UInt8) (k : GKeys) : ∃ n o, f37 f g c k = some (n, o) ∧ ky n = (tripleS (ky k) f.toNat g.toNat c.toNat).1 ∧ nums o = (tripleS (ky k) f.toNat g.toNat c.toNat).2 := by
  have main : ∀ b : Bool, (b = true ↔ 128 ≤ (g.toNat : Int)) → ∃ n o, f37_j0 f g c k b = some (n, o) ∧ ky n = (tripleS (ky k) f.toNat g.toNat c.toNat).1 ∧ nums o = (tripleS (ky k) f.toNat g.toNat c.toNat).2 := by
    intro b hb
    unfold f37_j0 tripleS
    by_cases h1 : (f.toNat : Int) < 1
    · rw [decide_eq_true h1, if_pos (.inl h1)]
      cases b
      · rw [if_neg (fun h => by have := hb.2 h; cases this)]; exact ⟨_, _, rfl, rfl, rfl⟩
      · rw [if_pos (hb.1 rfl)]; exact ⟨_, _, rfl, rfl, rfl⟩
    rw [decide_eq_false h1]
    by_cases h2 : 18 < (f.toNat : Int)
    · rw [decide_eq_true h2, if_pos (.inr h2)]
      cases b
      · rw [if_neg (fun h => by have := hb.2 h; cases this)]; exact ⟨_, _, rfl, rfl, rfl⟩
      · rw [if_pos (hb.1 rfl)]; exact ⟨_, _, rfl, rfl, rfl⟩
    rw [decide_eq_false h2, if_neg (by omega)]
    have i1 : inR (f.toNat : Int) 19 = some f.toNat := by rw [inR_of _ _ (by omega)]; simp
    have el : (ky k).lv (f.toNat : Int).toNat = ((k.Levels f.toNat).toNat : Int) := rfl
    have ec : (ky k).ch (f.toNat : Int).toNat = ((k.Chars f.toNat).toNat : Int) := rfl
    have j3 : ¬ ((g.toNat : Int) % 4 = ((k.Levels f.toNat).toNat : Int) ∧ (c.toNat : Int) = ((k.Chars f.toNat).toNat : Int)) → ∃ n o, f37_j3 f g c k b = some (n, o) ∧ ky n = (if (g.toNat : Int) % 4 = (ky k).lv (f.toNat : Int).toNat ∧ (c.toNat : Int) = (ky k).ch (f.toNat : Int).toNat then (ky k, []) else tripleS (ky k) f.toNat g.toNat c.toNat).1 ∧ nums o = (if (g.toNat : Int) % 4 = (ky k).lv (f.toNat : Int).toNat ∧ (c.toNat : Int) = (ky k).ch (f.toNat : Int).toNat then (ky k, []) else tripleS (ky k) f.toNat g.toNat c.toNat).2 := by
      intro hne
      rw [if_neg (by rw [el, ec]; exact hne)]
      unfold tripleS
      rw [if_neg (by omega), if_neg (by rw [el, ec]; exact hne)]
      unfold f37_j3 f37_j4 f37_j1
      simp only [i1, Option.bind_some, mod4, el, ec]
      cases b with
      | true =>
        rw [if_pos (hb.1 rfl)]
        simp only [cond_true]
        by_cases h3 : (g.toNat : Int) % 4 = 3
        · rw [decide_eq_true h3, if_pos h3]; exact ⟨_, _, rfl, rfl, rfl⟩
        · rw [decide_eq_false h3, if_neg h3]
          exact ⟨_, _, rfl, by rw [upd_ky, mod4]; rfl, rfl⟩
      | false =>
        rw [if_neg (fun h => by have := hb.2 h; cases this)]
        simp only [cond_false]
        by_cases h0 : (g.toNat : Int) % 4 = 0
        · rw [decide_eq_true h0, if_pos h0]; exact ⟨_, _, rfl, by rw [upd_ky]; rfl, rfl⟩
        rw [decide_eq_false h0, if_neg h0]
        by_cases h3 : (g.toNat : Int) % 4 = 3
        · rw [decide_eq_true h3, if_pos h3]; exact ⟨_, _, rfl, rfl, rfl⟩
        rw [decide_eq_false h3, if_neg h3]
        by_cases hl : ((k.Levels f.toNat).toNat : Int) = 1
        · rw [decide_eq_true hl]
          by_cases h4 : (g.toNat : Int) % 4 = 1
          · rw [decide_eq_true h4, if_pos ⟨hl, h4⟩]; exact ⟨_, _, rfl, by rw [upd_ky]; rfl, rfl⟩
          · rw [decide_eq_false h4, if_neg (fun h => h4 h.2), if_pos hl]; exact ⟨_, _, rfl, rfl, rfl⟩
        · rw [decide_eq_false hl, if_neg (fun h => hl h.1), if_neg hl]
          refine ⟨_, _, rfl, by rw [upd_ky, mod4]; rfl, ?_⟩
          simp only [nums, List.map_cons, List.map_nil, add128]
    have key : ∀ r, (∃ n o, r = some (n, o) ∧ ky n = (if (g.toNat : Int) % 4 = (ky k).lv (f.toNat : Int).toNat ∧ (c.toNat : Int) = (ky k).ch (f.toNat : Int).toNat then (ky k, []) else tripleS (ky k) f.toNat g.toNat c.toNat).1 ∧ nums o = (if (g.toNat : Int) % 4 = (ky k).lv (f.toNat : Int).toNat ∧ (c.toNat : Int) = (ky k).ch (f.toNat : Int).toNat then (ky k, []) else tripleS (ky k) f.toNat g.toNat c.toNat).2) → ∃ n o, r = some (n, o) ∧ ky n = (tripleS (ky k) f.toNat g.toNat c.toNat).1 ∧ nums o = (tripleS (ky k) f.toNat g.toNat c.toNat).2 := by
      rintro r ⟨n, o, h, ha, hb⟩
      refine ⟨n, o, h, ?_⟩
      by_cases hc : (g.toNat : Int) % 4 = (ky k).lv (f.toNat : Int).toNat ∧ (c.toNat : Int) = (ky k).ch (f.toNat : Int).toNat
      · rw [if_pos hc] at ha hb
        unfold tripleS
        rw [if_neg (by omega), if_pos hc]; exact ⟨ha, hb⟩
      · rw [if_neg hc] at ha hb; exact ⟨ha, hb⟩
    have fin := key (bif (decide (((g % (4 : UInt8)).toNat : Int) = ((k.Levels f.toNat).toNat : Int))) then (bif (decide ((c.toNat : Int) = ((k.Chars f.toNat).toNat : Int))) then (some (k, [])) else (f37_j3 f g c k b)) else (f37_j3 f g c k b)) (by
      by_cases a1 : ((g % (4 : UInt8)).toNat : Int) = ((k.Levels f.toNat).toNat : Int)
      · rw [decide_eq_true a1]
        rw [mod4] at a1
        by_cases a2 : (c.toNat : Int) = ((k.Chars f.toNat).toNat : Int)
        · rw [decide_eq_true a2]
          exact ⟨_, _, rfl, by rw [if_pos (by rw [el, ec]; exact ⟨a1, a2⟩)], by rw [if_pos (by rw [el, ec]; exact ⟨a1, a2⟩)]; rfl⟩
        · rw [decide_eq_false a2]
          exact j3 fun h => a2 h.2
      · rw [decide_eq_false a1]
        rw [mod4] at a1
        exact j3 fun h => a1 h.1)
    unfold tripleS at fin
    rw [if_neg (by omega)] at fin
    simp only [i1, Option.bind_some, cond_false]
    exact fin
  unfold f37
  by_cases h : 128 ≤ (g.toNat : Int)
  · rw [decide_eq_true h]; exact main true ⟨fun _ => h, fun _ => rfl⟩
  · rw [decide_eq_false h]; exact main false ⟨fun h => (by cases h), fun h' => absurd h' h⟩
end Go.Proofs.Ytgokbjnpjjdboaa.Pm
