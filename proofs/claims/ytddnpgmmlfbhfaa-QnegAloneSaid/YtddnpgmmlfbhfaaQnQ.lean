/- Qneg: a command, or an ask, leaves all else as it was: the law. -/
import Derived.Test.YtddnpgmmlfbhfaaQnP
namespace Go.Proofs.Ytddnpgmmlfbhfaa.Pm
open Go.Proofs.Ytddnpgmmlfbhfaa.Args
open Go.ChangeShapes Go.WideShapes Go.ChangeAt Go.RowKit
set_option linter.unusedVariables false
set_option linter.unusedSimpArgs false
set_option maxRecDepth 100000
theorem f16_in (t : GTok) : f16 t = some false ∨ (f16 t = some true ∧ 251 ≤ t.Cmd ∧ t.Cmd ≤ 254 ∧ 0 ≤ t.Opt ∧ t.Opt ≤ 255) := by
  unfold f16
  simp only [Bool.cond_decide]
  repeat' split
  all_goals first
    | exact .inl rfl
    | exact .inr ⟨rfl, by omega, by omega, by omega, by omega⟩
theorem inR_of (z : Int) (n : Nat) (h : 0 ≤ z ∧ z < n) : inR z n = some z.toNat := by unfold inR; rw [if_pos (by omega)]
/-- What a command does. -/
theorem f17_in (a : GNeg) (t : GTok) (ha : okN a) (hc : 251 ≤ t.Cmd ∧ t.Cmd ≤ 254) (ho : 0 ≤ t.Opt ∧ t.Opt ≤ 255) :
    ∃ n o, f17 a t = some (n, o) ∧ okN n ∧ ((253 ≤ t.Cmd ∧ ∃ x, n = ⟨upd a.Us t.Opt.toNat x, a.Him, a.UsOk, a.HimOk⟩) ∨ (t.Cmd < 253 ∧ ∃ x, n = ⟨a.Us, upd a.Him t.Opt.toNat x, a.UsOk, a.HimOk⟩)) := by
  have i1 : inR t.Opt 256 = some t.Opt.toNat := inR_of _ _ (by omega)
  have td : Int.tdiv t.Opt 64 = t.Opt / 64 := Int.tdiv_eq_ediv_of_nonneg ho.1
  have tm : Int.tmod t.Opt 64 = t.Opt % 64 := Int.tmod_eq_emod_of_nonneg ho.1
  have i2 : inR (IntKind.i64.wrap (Int.tdiv t.Opt 64)) 4 = some (t.Opt / 64).toNat := by
    rw [td, i64w _ (by omega)]; exact inR_of _ _ (by omega)
  have hk : chk (decide (0 ≤ (Int.tmod t.Opt 64))) = some () := by
    unfold chk; rw [tm, if_pos (decide_eq_true (by omega))]
  have hlt : t.Opt.toNat < 256 := by omega
  have hu : (0 : Int) ≤ ((a.Us t.Opt.toNat).toNat : Int) ∧ ((a.Us t.Opt.toNat).toNat : Int) ≤ 5 := by have := (ha _ hlt).1; omega
  have hh : (0 : Int) ≤ ((a.Him t.Opt.toNat).toNat : Int) ∧ ((a.Him t.Opt.toNat).toNat : Int) ≤ 5 := by have := (ha _ hlt).2; omega
  have us : ∀ (z : GNeg) (b : Bool), ∃ n o, f17_j1 a t z b true = some (n, o) ∧ okN n ∧ ∃ x, n = ⟨upd a.Us t.Opt.toNat x, a.Him, a.UsOk, a.HimOk⟩ := by
    intro z b
    unfold f17_j1
    simp only [i1, i2, hk, Option.bind_some, cond_true]
    generalize decide (bitI .and .u64 (Int.fdiv (a.UsOk (t.Opt / 64).toNat) (2 ^ (min ((Int.tmod t.Opt 64) : Int).toNat 64))) 1 = 1) = c
    obtain ⟨y1, e1, r1⟩ := f8_in _ b true hu
    obtain ⟨y2, e2, r2⟩ := f8_in _ b false hu
    obtain ⟨o1, p1⟩ := f18_in true y1.2.1 t.Opt
    obtain ⟨o2, p2⟩ := f18_in true y2.2.1 t.Opt
    cases c
    · simp only [cond_false, e2, p2, Option.bind_some]
      exact ⟨_, _, rfl, okN_us a ha _ _ r2, _, rfl⟩
    · simp only [cond_true, e1, p1, Option.bind_some]
      exact ⟨_, _, rfl, okN_us a ha _ _ r1, _, rfl⟩
  have him : ∀ (z : GNeg) (b : Bool), ∃ n o, f17_j1 a t z b false = some (n, o) ∧ okN n ∧ ∃ x, n = ⟨a.Us, upd a.Him t.Opt.toNat x, a.UsOk, a.HimOk⟩ := by
    intro z b
    unfold f17_j1
    simp only [i1, i2, hk, Option.bind_some, cond_false]
    generalize decide (bitI .and .u64 (Int.fdiv (a.HimOk (t.Opt / 64).toNat) (2 ^ (min ((Int.tmod t.Opt 64) : Int).toNat 64))) 1 = 1) = c
    obtain ⟨y1, e1, r1⟩ := f8_in _ b true hh
    obtain ⟨y2, e2, r2⟩ := f8_in _ b false hh
    obtain ⟨o1, p1⟩ := f18_in false y1.2.1 t.Opt
    obtain ⟨o2, p2⟩ := f18_in false y2.2.1 t.Opt
    cases c
    · simp only [cond_false, e2, p2, Option.bind_some]
      exact ⟨_, _, rfl, okN_him a ha _ _ r2, _, rfl⟩
    · simp only [cond_true, e1, p1, Option.bind_some]
      exact ⟨_, _, rfl, okN_him a ha _ _ r1, _, rfl⟩
  have j0 : ∀ (z : GNeg) (b : Bool), ∃ n o, f17_j0 a t z b = some (n, o) ∧ okN n ∧ ((253 ≤ t.Cmd ∧ ∃ x, n = ⟨upd a.Us t.Opt.toNat x, a.Him, a.UsOk, a.HimOk⟩) ∨ (t.Cmd < 253 ∧ ∃ x, n = ⟨a.Us, upd a.Him t.Opt.toNat x, a.UsOk, a.HimOk⟩)) := by
    intro z b
    unfold f17_j0
    simp only [Bool.cond_decide]
    split
    · obtain ⟨n, o, e, h1, h2⟩ := us z b; exact ⟨n, o, e, h1, .inl ⟨by omega, h2⟩⟩
    · split
      · obtain ⟨n, o, e, h1, h2⟩ := us z b; exact ⟨n, o, e, h1, .inl ⟨by omega, h2⟩⟩
      · obtain ⟨n, o, e, h1, h2⟩ := him z b; exact ⟨n, o, e, h1, .inr ⟨by omega, h2⟩⟩
  unfold f17
  simp only [Bool.cond_decide]
  repeat' split
  all_goals exact j0 _ _
theorem f11_in (a : GNeg) (t : GTok) : (∃ e, f11 a t = some (a, [], e) ∧ e ≠ 0) ∨ ∃ n o, f11 a t = some (n, o, 0) ∧ (0 ≤ t.Opt ∧ t.Opt ≤ 255) ∧ okN n ∧ ((253 ≤ t.Cmd ∧ ∃ x, n = ⟨upd a.Us t.Opt.toNat x, a.Him, a.UsOk, a.HimOk⟩) ∨ (t.Cmd < 253 ∧ ∃ x, n = ⟨a.Us, upd a.Him t.Opt.toNat x, a.UsOk, a.HimOk⟩)) := by
  unfold f11
  rcases f15_eq a with ⟨ha, e⟩ | ⟨ha, e⟩
  · rw [e]
    simp only [Option.bind_some, decide_true, Bool.not_true, cond_false]
    unfold f11_j0
    rcases f16_in t with e2 | ⟨e2, h1, h2, h3, h4⟩
    · rw [e2]; exact .inl ⟨1, rfl, by decide⟩
    · rw [e2]
      simp only [Option.bind_some, Bool.not_true, cond_false]
      unfold f11_j1
      obtain ⟨n, o, g, hn, hx⟩ := f17_in a t ha ⟨h1, h2⟩ ⟨h3, h4⟩
      rw [g]
      exact .inr ⟨n, o, rfl, ⟨h3, h4⟩, hn, hx⟩
  · rw [e]; exact .inl ⟨4, rfl, by decide⟩
theorem f12_in (a : GNeg) (u : Bool) (c : Int) (b : Bool) : (∃ e, f12 a u c b = some (a, [], e) ∧ e ≠ 0) ∨ ∃ n o, f12 a u c b = some (n, o, 0) ∧ (0 ≤ c ∧ c ≤ 255) ∧ okN n ∧ oneOff a n c.toNat := by
  unfold f12
  rcases f15_eq a with ⟨ha, e⟩ | ⟨ha, e⟩
  rotate_left
  · rw [e]; exact .inl ⟨4, rfl, by decide⟩
  rw [e]
  simp only [Option.bind_some, decide_true, Bool.not_true, cond_false]
  unfold f12_j0
  by_cases h1 : c < 0
  · rw [decide_eq_true h1]; exact .inl ⟨1, rfl, by decide⟩
  rw [decide_eq_false h1]
  by_cases h2 : 255 < c
  · rw [decide_eq_true h2]; exact .inl ⟨1, rfl, by decide⟩
  rw [decide_eq_false h2]
  simp only [cond_false]
  unfold f12_j1
  have i1 : inR c 256 = some c.toNat := inR_of _ _ (by omega)
  have hlt : c.toNat < 256 := by omega
  have hu : (0 : Int) ≤ ((a.Us c.toNat).toNat : Int) ∧ ((a.Us c.toNat).toNat : Int) ≤ 5 := by have := (ha _ hlt).1; omega
  have hh : (0 : Int) ≤ ((a.Him c.toNat).toNat : Int) ∧ ((a.Him c.toNat).toNat : Int) ≤ 5 := by have := (ha _ hlt).2; omega
  simp only [i1, Option.bind_some]
  cases u
  · obtain ⟨y, g, r⟩ := f10_in _ b hh
    obtain ⟨o, p⟩ := f18_in false y.2.1 c
    simp only [cond_false, g, Option.bind_some]
    by_cases hz : y.2.2 = 0
    · rw [decide_eq_true hz]
      simp only [Bool.not_true, cond_false, p, Option.bind_some]
      exact .inr ⟨_, _, rfl, by omega, okN_him a ha _ _ r, .inr ⟨_, rfl⟩⟩
    · rw [decide_eq_false hz]; exact .inl ⟨_, rfl, hz⟩
  · obtain ⟨y, g, r⟩ := f10_in _ b hu
    obtain ⟨o, p⟩ := f18_in true y.2.1 c
    simp only [cond_true, g, Option.bind_some]
    by_cases hz : y.2.2 = 0
    · rw [decide_eq_true hz]
      simp only [Bool.not_true, cond_false, p, Option.bind_some]
      exact .inr ⟨_, _, rfl, by omega, okN_us a ha _ _ r, .inl ⟨_, rfl⟩⟩
    · rw [decide_eq_false hz]; exact .inl ⟨_, rfl, hz⟩
theorem zero_ok : okN ⟨fun _ => 0, fun _ => 0, fun i => ([2, 0, 0, 0] : List Int).getD i 0, fun _ => 0⟩ := fun i _ => ⟨(by decide : (0 : UInt8).toNat ≤ 5), (by decide : (0 : UInt8).toNat ≤ 5)⟩
theorem neg_lives : f9 = some true := by
  unfold f9 f11
  rcases f15_eq ⟨fun _ => 0, fun _ => 0, fun i => ([2, 0, 0, 0] : List Int).getD i 0, fun _ => 0⟩ with ⟨_, e⟩ | ⟨h, _⟩
  · rw [e]; kernel_rfl
  · exact absurd zero_ok h
theorem qnegAlone (a : GNeg) (t : GTok) (u : Bool) (c : Int) (b : Bool) : f7 a t u c b = some true := by
  have same : (rowEq 256 a.Us a.Us && (rowEq 256 a.Him a.Him && (rowEq 4 a.UsOk a.UsOk && (rowEq 4 a.HimOk a.HimOk && true)))) = true := by
    simp only [rowEq_same, Bool.and_self]
  have j1 : ∀ n o e, f12 a u c b = some (n, o, e) → f7_j1 a t u c b n e = some true := by
    intro n o e h
    unfold f7_j1
    rcases f12_in a u c b with ⟨e', h1, h2⟩ | ⟨n', o', h1, h2, h3, h4⟩
    · rw [h] at h1; cases h1
      rw [decide_eq_false h2]; rfl
    · rw [h] at h1; cases h1
      have i1 : inR c 256 = some c.toNat := inR_of _ _ (by omega)
      simp only [i1, Option.bind_some, decide_true, cond_true, off_eq h4, f13_eq n h3]
  have j0 : ∀ n o e n2 o2 e2, f11 a t = some (n, o, e) → f12 a u c b = some (n2, o2, e2) → f7_j0 a t u c b n e n2 e2 = some true := by
    intro n o e n2 o2 e2 h h'
    unfold f7_j0
    rcases f11_in a t with ⟨e', h1, h2⟩ | ⟨n', o', h1, h2, h3, h4⟩
    · rw [h] at h1; cases h1
      rw [decide_eq_false h2]; exact j1 _ _ _ h'
    · rw [h] at h1; cases h1
      have i1 : inR t.Opt 256 = some t.Opt.toNat := inR_of _ _ (by omega)
      have h5 : oneOff a n t.Opt.toNat := by
        rcases h4 with ⟨_, x⟩ | ⟨_, x⟩
        · exact .inl x
        · exact .inr x
      simp only [i1, Option.bind_some, decide_true, cond_true, off_eq h5, Bool.not_true, cond_false, f13_eq n h3, j1 _ _ _ h']
      rcases h4 with ⟨hc, x, rfl⟩ | ⟨hc, x, rfl⟩
      · rw [decide_eq_true hc, decide_eq_false (show ¬ t.Cmd < 253 by omega)]
        simp only [rowEq_same, Bool.and_self, Bool.not_true, cond_false, cond_true]
      · rw [decide_eq_false (show ¬ 253 ≤ t.Cmd by omega), decide_eq_true hc]
        simp only [rowEq_same, Bool.and_self, Bool.not_true, cond_false, cond_true]
  unfold f7
  rw [neg_lives]
  obtain ⟨n, o, e, h1, hs1⟩ : ∃ n o e, f11 a t = some (n, o, e) ∧ (e ≠ 0 → n = a ∧ o = []) := by
    rcases f11_in a t with ⟨e', h1, h2⟩ | ⟨n', o', h1, _⟩
    · exact ⟨_, _, _, h1, fun _ => ⟨rfl, rfl⟩⟩
    · exact ⟨_, _, _, h1, fun h => absurd rfl h⟩
  obtain ⟨n2, o2, e2, h2, hs2⟩ : ∃ n o e, f12 a u c b = some (n, o, e) ∧ (e ≠ 0 → n = a ∧ o = []) := by
    rcases f12_in a u c b with ⟨e', h1, h2⟩ | ⟨n', o', h1, _⟩
    · exact ⟨_, _, _, h1, fun _ => ⟨rfl, rfl⟩⟩
    · exact ⟨_, _, _, h1, fun h => absurd rfl h⟩
  have last := j0 n o e n2 o2 e2 h1 h2
  rw [h1, h2]
  simp only [Option.bind_some, Bool.not_true, cond_false]
  have second : (bif (!decide (e2 = 0)) then (bif (!(rowEq 256 n2.Us a.Us && (rowEq 256 n2.Him a.Him && (rowEq 4 n2.UsOk a.UsOk && (rowEq 4 n2.HimOk a.HimOk && true))))) then (some false) else (bif (!decide (o2 = ([] : List UInt8))) then (some false) else (f7_j0 a t u c b n e n2 e2))) else (f7_j0 a t u c b n e n2 e2)) = some true := by
    by_cases z : e2 = 0
    · rw [decide_eq_true z]; exact last
    · obtain ⟨rfl, rfl⟩ := hs2 z
      rw [decide_eq_false z, same]; exact last
  by_cases z : e = 0
  · rw [decide_eq_true z]; exact second
  · obtain ⟨rfl, rfl⟩ := hs1 z
    rw [decide_eq_false z, same]; exact second
theorem QnegAlone_walk (v0 v1 v2 v3 v4 : Value) (w : World) (h0 : Arg none Go.Proofs.Try.prog w 35 v0) (h1 : Arg none Go.Proofs.Try.prog w 37 v1) (h2 : Arg none Go.Proofs.Try.prog w 4 v2) (h3 : Arg none Go.Proofs.Try.prog w 3 v3) (h4 : Arg none Go.Proofs.Try.prog w 4 v4) :
    Calls Go.Proofs.Try.prog 7 #[v0, v1, v2, v3, v4] w fun e w' => e = .returned (.bool true) ∧ Below w.heap.size w w' :=
  QnegAlone_calls none (fun a t u c b _ _ _ _ _ => qnegAlone a t u c b) v0 v1 v2 v3 v4 w h0 h1 h2 h3 h4
end Go.Proofs.Ytddnpgmmlfbhfaa.Pm
