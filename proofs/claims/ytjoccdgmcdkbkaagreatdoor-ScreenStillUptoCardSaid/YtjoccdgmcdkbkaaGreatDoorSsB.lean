/- ScreenStill: tab stops, the cursor's acts, reports, modes. -/
import Derived.Test.YtjoccdgmcdkbkaaGreatDoorSsA
namespace Go.Proofs.YtjoccdgmcdkbkaaGreatDoor.Pm
open Go.Proofs.YtjoccdgmcdkbkaaGreatDoor.Args
open Go.ChangeShapes Go.WideShapes Go.ChangeAt Go.RowKit
set_option linter.unusedVariables false
set_option linter.unusedSimpArgs false
set_option maxRecDepth 100000
theorem tcol (c : Int) (h0 : 0 ≤ c) (h1 : c < 256) : (∃ m, inR (IntKind.i64.wrap (Int.tdiv c 64)) 4 = some m) ∧ 0 ≤ Int.tmod c 64 := by
  obtain ⟨n, rfl⟩ := Int.eq_ofNat_of_zero_le h0
  have e1 : Int.tdiv (n : Int) 64 = ((n / 64 : Nat) : Int) := by simp [Int.tdiv]
  have e2 : Int.tmod (n : Int) 64 = ((n % 64 : Nat) : Int) := by simp [Int.tmod]
  rw [e1, e2, i64w _ (by omega), inR_nat _ 4 (by omega)]
  exact ⟨⟨_, rfl⟩, by omega⟩
theorem has_ok (s : GStops) (c : Int) (h0 : 0 ≤ c) (h1 : c < 256) : ∃ b, f116 s c = some b := by
  obtain ⟨⟨m, hm⟩, hc⟩ := tcol c h0 h1
  unfold f116
  rw [hm, bs, chk_ok (dt hc), bs]
  simp only [Bool.cond_decide]
  split <;> exact ⟨_, rfl⟩
theorem next_ok (s : GStops) (c n w : Int) : ∃ r, f92 s c n w = some r := by
  unfold f92
  simp only [Bool.cond_decide]
  split
  · exact ⟨_, rfl⟩
  split
  · exact ⟨_, rfl⟩
  split
  · exact ⟨_, rfl⟩
  split
  · exact ⟨_, rfl⟩
  split
  · exact ⟨_, rfl⟩
  split
  · exact ⟨_, rfl⟩
  unfold f92_j0
  obtain ⟨r, hr, _⟩ := loopO_ind (body := f92_l1 s c n w) (fun k x => k = (w - x.2).toNat ∧ 0 ≤ x.2 ∧ x.2 < w ∧ x.1 ≤ 16383) (fun _ => True) (n := (w - c).toNat) (x := (n, c)) (fun k x hx => by
    obtain ⟨e, q0, q1, q2⟩ := hx
    unfold f92_l1
    by_cases hp : 0 < x.1
    case neg => right; rw [bcf (df hp)]; exact ⟨_, rfl, trivial⟩
    rw [bct (dt hp)]
    unfold f92_l1_j2
    rw [i64w (x.2 + 1) (by omega), i64w (w - 1) (by omega)]
    by_cases hw : w ≤ x.2 + 1
    · right; rw [bct (dt hw)]; exact ⟨_, rfl, trivial⟩
    rw [bcf (df hw)]
    unfold f92_l1_j3
    obtain ⟨b, hb⟩ := has_ok s (x.2 + 1) (by omega) (by omega)
    rw [hb, bs, i64w (x.1 - 1) (by omega)]
    cases b with
    | false => left; rw [cf]; exact ⟨_, (w - (x.2 + 1)).toNat, rfl, by omega, rfl, by show 0 ≤ x.2 + 1; omega, by show x.2 + 1 < w; omega, q2⟩
    | true =>
      rw [ct]
      by_cases h1 : x.1 - 1 = 0
      · right; rw [bct (dt h1)]; exact ⟨_, rfl, trivial⟩
      · left; rw [bcf (df h1)]; exact ⟨_, (w - (x.2 + 1)).toNat, rfl, by omega, rfl, by show 0 ≤ x.2 + 1; omega, by show x.2 + 1 < w; omega, by show x.1 - 1 ≤ 16383; omega⟩) ⟨rfl, by show 0 ≤ c; omega, by show c < w; omega, by show n ≤ 16383; omega⟩
  rw [hr, bs]
  cases r <;> exact ⟨_, rfl⟩
theorem back_ok (s : GStops) (c n : Int) : ∃ r, f119 s c n = some r := by
  unfold f119
  simp only [Bool.cond_decide]
  split
  · exact ⟨_, rfl⟩
  split
  · exact ⟨_, rfl⟩
  split
  · exact ⟨_, rfl⟩
  split
  · exact ⟨_, rfl⟩
  unfold f119_j0
  obtain ⟨r, hr, _⟩ := loopO_ind (body := f119_l1 s c n) (fun k x => k = x.2.toNat ∧ 0 ≤ x.2 ∧ x.2 < 256 ∧ x.1 ≤ 16383) (fun _ => True) (n := c.toNat) (x := (n, c)) (fun k x hx => by
    obtain ⟨e, q0, q1, q2⟩ := hx
    unfold f119_l1
    by_cases hp : 0 < x.1
    case neg => right; rw [bcf (df hp)]; exact ⟨_, rfl, trivial⟩
    rw [bct (dt hp)]
    unfold f119_l1_j2
    rw [i64w (x.2 - 1) (by omega)]
    by_cases hw : x.2 - 1 < 0
    · right; rw [bct (dt hw)]; exact ⟨_, rfl, trivial⟩
    rw [bcf (df hw)]
    unfold f119_l1_j3
    obtain ⟨b, hb⟩ := has_ok s (x.2 - 1) (by omega) (by omega)
    rw [hb, bs, i64w (x.1 - 1) (by omega)]
    cases b with
    | false => left; rw [cf]; exact ⟨_, (x.2 - 1).toNat, rfl, by omega, rfl, by show 0 ≤ x.2 - 1; omega, by show x.2 - 1 < 256; omega, q2⟩
    | true =>
      rw [ct]
      by_cases h1 : x.1 - 1 = 0
      · right; rw [bct (dt h1)]; exact ⟨_, rfl, trivial⟩
      · left; rw [bcf (df h1)]; exact ⟨_, (x.2 - 1).toNat, rfl, by omega, rfl, by show 0 ≤ x.2 - 1; omega, by show x.2 - 1 < 256; omega, by show x.1 - 1 ≤ 16383; omega⟩) ⟨rfl, by show 0 ≤ c; omega, by show c < 256; omega, by show n ≤ 16383; omega⟩
  rw [hr, bs]
  cases r <;> exact ⟨_, rfl⟩
theorem tset_ok (s : GStops) (c : Int) : ∃ r, f94 s c false = some r := by
  unfold f94
  simp only [Bool.cond_decide]
  split
  · exact ⟨_, rfl⟩
  split
  · exact ⟨_, rfl⟩
  unfold f94_j0
  obtain ⟨⟨m, hm⟩, hc⟩ := tcol c (by omega) (by omega)
  rw [hm, bs, chk_ok (dt hc), bs, bs, cf]
  exact ⟨_, rfl⟩
theorem get_ok (l : List Int) (i z : Int) : ∃ r, f101 l i z = some r := by
  unfold f101
  simp only [Bool.cond_decide]
  split
  · exact ⟨_, rfl⟩
  split
  · exact ⟨_, rfl⟩
  obtain ⟨n, rfl⟩ := Int.eq_ofNat_of_zero_le (show 0 ≤ i by omega)
  rw [idx_nat l n 0 (by omega), bs]
  split
  · exact ⟨_, rfl⟩
  · exact ⟨_, rfl⟩
theorem pos_ok (l : List Int) (i : Int) : ∃ r, f100 l i = some r := by
  unfold f100
  obtain ⟨r, hr⟩ := get_ok l i 1
  rw [hr, bs]
  exact ⟨_, rfl⟩
def inCC (c : Int) : Prop := c = 65 ∨ c = 66 ∨ c = 67 ∨ c = 68 ∨ c = 69 ∨ c = 70 ∨ c = 71 ∨ c = 96 ∨ c = 100 ∨ c = 72 ∨ c = 102 ∨ c = 73 ∨ c = 90 ∨ c = 115 ∨ c = 117
theorem cursor_ok (a : GAct) (n : Int) (t : Gterminal) : (inCC a.Code ∧ ∃ t', f102 a n t = some (t', true) ∧ KS (a.Code = 117) t t') ∨ (¬ inCC a.Code ∧ f102 a n t = some (t, false)) := by
  unfold f102 f102_j0 f102_j1 inCC
  have one : ∀ {o : Option Gterminal} {t1 t2 : Gterminal}, o = some t2 → KS False t1 t2 → (o.bind fun z64 => ((chk (decide (z64.Screen.Past.length = t1.Screen.Past.length))).bind fun _ => ((chk (decide (z64.Screen.Other.Cells.length = t1.Screen.Other.Cells.length))).bind fun _ => ((chk (decide (z64.Screen.Grid.Cells.length = t1.Screen.Grid.Cells.length))).bind fun _ => (some (z64, true)))))) = some (t2, true) := by
    intro o t1 t2 h k
    rw [h, bs, chk3 k.kt]
  by_cases h65 : a.Code = 65
  · left; obtain ⟨t', h, k⟩ := up_ok n t
    exact ⟨by omega, t', by rw [bct (dt h65)]; exact one h k, k.w False.elim⟩
  rw [bcf (df h65)]
  by_cases h66 : a.Code = 66
  · left; obtain ⟨t', h, k⟩ := up_ok (IntKind.i64.wrap (0 - n)) t
    exact ⟨by omega, t', by rw [bct (dt h66)]; exact one h k, k.w False.elim⟩
  rw [bcf (df h66)]
  by_cases h67 : a.Code = 67
  · left; obtain ⟨t', h, k⟩ := column_ok (IntKind.i64.wrap (t.Screen.Col + n)) t
    exact ⟨by omega, t', by rw [bct (dt h67)]; exact one h k, k.w False.elim⟩
  rw [bcf (df h67)]
  by_cases h68 : a.Code = 68
  · left; obtain ⟨t', h, k⟩ := column_ok (IntKind.i64.wrap (t.Screen.Col - n)) t
    exact ⟨by omega, t', by rw [bct (dt h68)]; exact one h k, k.w False.elim⟩
  rw [bcf (df h68)]
  by_cases h69 : a.Code = 69
  · left; obtain ⟨t1, h1, k1⟩ := up_ok (IntKind.i64.wrap (0 - n)) t
    obtain ⟨t', h, k⟩ := column_ok 0 t1
    exact ⟨by omega, t', by rw [bct (dt h69), h1, bs, chk3 k1.kt]; exact one h k, (k1.tr k).w False.elim⟩
  rw [bcf (df h69)]
  by_cases h70 : a.Code = 70
  · left; obtain ⟨t1, h1, k1⟩ := up_ok n t
    obtain ⟨t', h, k⟩ := column_ok 0 t1
    exact ⟨by omega, t', by rw [bct (dt h70), h1, bs, chk3 k1.kt]; exact one h k, (k1.tr k).w False.elim⟩
  rw [bcf (df h70), ct, cf]
  by_cases h71 : a.Code = 71
  · left; obtain ⟨t', h, k⟩ := column_ok (IntKind.i64.wrap (n - 1)) t
    exact ⟨by omega, t', by rw [bct (dt h71)]; exact one h k, k.w False.elim⟩
  rw [bcf (df h71)]
  by_cases h96 : a.Code = 96
  · left; obtain ⟨t', h, k⟩ := column_ok (IntKind.i64.wrap (n - 1)) t
    exact ⟨by omega, t', by rw [bct (dt h96)]; exact one h k, k.w False.elim⟩
  rw [bcf (df h96)]
  by_cases h100 : a.Code = 100
  · left; obtain ⟨t', h, k⟩ := move_ok (IntKind.i64.wrap (n - 1)) t.Screen.Col t
    exact ⟨by omega, t', by rw [bct (dt h100)]; exact one h k, k.w False.elim⟩
  rw [bcf (df h100), ct, cf]
  obtain ⟨m, hm⟩ := pos_ok a.Args 1
  by_cases h72 : a.Code = 72
  · left; obtain ⟨t', h, k⟩ := move_ok (IntKind.i64.wrap (n - 1)) (IntKind.i64.wrap (m - 1)) t
    exact ⟨by omega, t', by rw [bct (dt h72), hm, bs]; exact one h k, k.w False.elim⟩
  rw [bcf (df h72)]
  by_cases h102 : a.Code = 102
  · left; obtain ⟨t', h, k⟩ := move_ok (IntKind.i64.wrap (n - 1)) (IntKind.i64.wrap (m - 1)) t
    exact ⟨by omega, t', by rw [bct (dt h102), hm, bs]; exact one h k, k.w False.elim⟩
  rw [bcf (df h102)]
  by_cases h73 : a.Code = 73
  · left; obtain ⟨r, hr⟩ := next_ok t.Screen.Stops t.Screen.Col n t.Screen.Grid.Wide
    obtain ⟨t', h, k⟩ := column_ok r.1 t
    exact ⟨by omega, t', by rw [bct (dt h73), hr, bs]; exact one h k, k.w False.elim⟩
  rw [bcf (df h73)]
  by_cases h90 : a.Code = 90
  · left; obtain ⟨r, hr⟩ := back_ok t.Screen.Stops t.Screen.Col n
    obtain ⟨t', h, k⟩ := column_ok r.1 t
    exact ⟨by omega, t', by rw [bct (dt h90), hr, bs]; exact one h k, k.w False.elim⟩
  rw [bcf (df h90)]
  by_cases h115 : a.Code = 115
  · left; obtain ⟨t', h, k⟩ := save_ok t
    exact ⟨by omega, t', by rw [bct (dt h115)]; exact one h k, k.w False.elim⟩
  rw [bcf (df h115)]
  by_cases h117 : a.Code = 117
  · left; obtain ⟨t', h, k⟩ := restore_ok t
    exact ⟨by omega, t', by rw [bct (dt h117), h, bs, chk3 k.kt], k.w fun _ => h117⟩
  right
  exact ⟨by omega, by rw [bcf (df h117)]⟩
end Go.Proofs.YtjoccdgmcdkbkaaGreatDoor.Pm
