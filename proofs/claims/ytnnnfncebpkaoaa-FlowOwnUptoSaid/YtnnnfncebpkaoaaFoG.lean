/- Cut_eq cutK_pos sameRows sameLines flow_lives: what the typed functions compute, and the laws. -/
import Derived.Test.YtnnnfncebpkaoaaDFpZ
import Derived.Test.YtnnnfncebpkaoaaPb
namespace Go.Proofs.Ytnnnfncebpkaoaa.Pm
open Go.Proofs.Ytnnnfncebpkaoaa.Args
set_option linter.unusedVariables false
set_option linter.unusedSimpArgs false
set_option maxRecDepth 100000
open Go.ChangeShapes Go.WideShapes Go.ChangeAt Go.RowKit
theorem i64w (n : Int) (h : -9223372036854775808 ≤ n ∧ n ≤ 9223372036854775807) : IntKind.i64.wrap n = n := IntWalk.i64_in n h
theorem idx_get {α : Type} (l : List α) (i : Nat) (h : i < l.length) : idx l (i : Int) = some l[i] := by
  unfold idx; rw [if_pos (by omega)]; simp [h]
theorem in_total (a : Int) (l : List (Int × Int)) (hl : (l.length : Int) < 9223372036854775807) : ∃ b, f22 a l = some b := by
  unfold f22
  obtain ⟨r, h1, _⟩ := loopO_ind (body := f22_l0 a l) (fun n x => ∃ i : Nat, x = (i : Int) ∧ i ≤ l.length ∧ n = l.length - i) (fun _ => True) (by
    rintro n x ⟨i, rfl, hi, rfl⟩
    unfold f22_l0 f22_l0_j1 f22_l0_j2
    by_cases h : i < l.length
    · rw [decide_eq_true (p := (i : Int) < (l.length : Int)) (by omega)]
      simp only [cond_true, idx_get l i h, Option.bind_some, Bool.cond_decide, i64w ((i : Int) + 1) (by omega)]
      split
      · split
        · exact .inr ⟨_, rfl, trivial⟩
        · exact .inl ⟨((i + 1 : Nat) : Int), l.length - (i + 1), rfl, by omega, i + 1, rfl, by omega, rfl⟩
      · exact .inl ⟨((i + 1 : Nat) : Int), l.length - (i + 1), rfl, by omega, i + 1, rfl, by omega, rfl⟩
    · rw [decide_eq_false (p := (i : Int) < (l.length : Int)) (by omega)]
      exact .inr ⟨_, rfl, trivial⟩) (n := l.length) (x := 0) ⟨0, rfl, by omega, rfl⟩
  rw [h1]
  cases r with
  | inl u => exact ⟨_, rfl⟩
  | inr b => exact ⟨_, rfl⟩
theorem of_total (n : Int) : ∃ w, f21 n = some w ∧ 0 ≤ w ∧ w ≤ 2 := by
  have hj : ∀ b, ∃ w, f21_j0 n b = some w ∧ 0 ≤ w ∧ w ≤ 2 := by
    intro b
    unfold f21_j0
    cases b with
    | true => exact ⟨0, rfl, by omega, by omega⟩
    | false =>
      obtain ⟨c, hc⟩ := in_total n [(4352, 4447), (11904, 12350), (12353, 19903), (19968, 42191), (44032, 55203), (63744, 64255), (65072, 65135), (65280, 65376), (65504, 65510), (127744, 128591), (129280, 129535), (131072, 262141)] (by decide)
      simp only [cond_false, hc, Option.bind_some]
      cases c with
      | true => exact ⟨2, rfl, by omega, by omega⟩
      | false => exact ⟨1, rfl, by omega, by omega⟩
  unfold f21
  obtain ⟨c, hc⟩ := in_total n [(0, 31), (127, 159), (768, 879), (8203, 8207), (55296, 57343), (65024, 65039)] (by decide)
  simp only [Bool.cond_decide, hc, Option.bind_some]
  split
  · exact hj true
  · split
    · exact hj true
    · exact hj c
/-- How wide a rune is. -/
noncomputable def W (n : Int) : Int := (f21 n).getD 0
theorem of_eq (n : Int) : f21 n = some (W n) := by
  obtain ⟨w, h, _⟩ := of_total n
  unfold W; rw [h]; rfl
theorem W_rng (n : Int) : 0 ≤ W n ∧ W n ≤ 2 := by
  obtain ⟨w, h, h1⟩ := of_total n
  unfold W; rw [h]; exact h1
/-- How many runes fit. -/
noncomputable def cutK (n : Int) : Int → List Int → Nat
  | _, [] => 0
  | s, x :: t => if n < s + W x then 0 else 1 + cutK n (s + W x) t
theorem cutK_cons (n s x : Int) (t : List Int) : cutK n s (x :: t) = if n < s + W x then 0 else 1 + cutK n (s + W x) t := rfl
theorem cutK_le (n : Int) : ∀ (l : List Int) (s : Int), cutK n s l ≤ l.length
  | [], s => by unfold cutK; exact Nat.le_refl _
  | x :: t, s => by
    unfold cutK
    split
    · omega
    · have := cutK_le n t (s + W x); simp; omega
theorem cut_eq (l : List Int) (n : Int) (hn : 0 ≤ n ∧ n ≤ 160) (hl : (l.length : Int) < 9223372036854775000) : ∃ s, f20 l n = some ((cutK n 0 l : Int), s) := by
  unfold f20
  obtain ⟨r, h1, h2⟩ := loopO_ind (body := f20_l0 l n) (fun m x => ∃ (i : Nat) (s : Int), x = (s, (i : Int)) ∧ i ≤ l.length ∧ m = l.length - i ∧ 0 ≤ s ∧ s ≤ n ∧ cutK n 0 l = i + cutK n s (l.drop i))
    (fun r => (∃ s, r = .inl s ∧ cutK n 0 l = l.length) ∨ ∃ s, r = .inr ((cutK n 0 l : Int), s)) (by
    rintro m x ⟨i, s, rfl, hi, rfl, h0, hs, hk⟩
    unfold f20_l0 f20_l0_j1 f20_l0_j2
    by_cases h : i < l.length
    · rw [decide_eq_true (p := (s, (i : Int)).2 < (l.length : Int)) (by show (i : Int) < _; omega)]
      have hw := W_rng l[i]
      simp only [cond_true, idx_get l i h, Option.bind_some, of_eq, Bool.cond_decide]
      rw [i64w (s + W l[i]) (by omega), i64w ((i : Int) + 1) (by omega)]
      rw [List.drop_eq_getElem_cons h, cutK_cons] at hk
      by_cases hc : n < s + W l[i]
      · rw [if_pos hc] at hk ⊢
        right
        have hk' : cutK n 0 l = i := by omega
        exact ⟨_, rfl, .inr ⟨s, by rw [hk']⟩⟩
      · rw [if_neg hc] at hk ⊢
        left
        exact ⟨(s + W l[i], ((i + 1 : Nat) : Int)), l.length - (i + 1), rfl, by omega, i + 1, _, rfl, by omega, rfl, by omega, by omega, by rw [hk]; omega⟩
    · rw [decide_eq_false (p := (s, (i : Int)).2 < (l.length : Int)) (by show ¬ (i : Int) < _; omega)]
      have : i = l.length := by omega
      subst this
      rw [List.drop_length] at hk
      exact .inr ⟨_, rfl, .inl ⟨s, rfl, by simpa [cutK] using hk⟩⟩) (n := l.length) (x := (0, 0)) ⟨0, 0, rfl, by omega, rfl, by omega, hn.1, by simp⟩
  rw [h1]
  rcases h2 with ⟨s, rfl, hk⟩ | ⟨s, rfl⟩
  · exact ⟨s, by rw [hk]; rfl⟩
  · exact ⟨s, rfl⟩
theorem Cut_eq (l : List Int) (n : Int) (hn : 0 ≤ n ∧ n ≤ 160) (hl : l.length * 8 ≤ 140737488351232) : f14 l n = some (l.take (cutK n 0 l), l.drop (cutK n 0 l), 0) := by
  unfold f14 f14_j0
  rw [decide_eq_false (p := n < 0) (by omega), decide_eq_false (p := (160 : Int) < n) (by omega)]
  obtain ⟨s, hs⟩ := cut_eq l n hn (by omega)
  have hk := cutK_le n l 0
  generalize cutK n 0 l = k at *
  simp only [cond_false, hs, Option.bind_some]
  have e1 : sub? l 0 (k : Int) = some (l.take k) := by unfold sub?; rw [if_pos (by omega)]; simp
  have e2 : sub? l (k : Int) (l.length : Int) = some (l.drop k) := by unfold sub?; rw [if_pos (by omega)]; simp
  have e3 : ∀ x : List Int, x.length ≤ l.length → app? 8 [] x = some x := fun x hx => by unfold app?; rw [if_pos (by simp; omega)]; rfl
  simp only [e1, e2, Option.bind_some, e3 (l.take k) (by simp; omega), e3 (l.drop k) (by simp)]
/-- There is always one that fits. -/
theorem cutK_pos (n : Int) (hn : 2 ≤ n) (l : List Int) (h : l ≠ []) : 0 < cutK n 0 l := by
  cases l with
  | nil => exact absurd rfl h
  | cons x t =>
    unfold cutK
    have := W_rng x
    rw [if_neg (by omega)]; omega
/-- The rows of a line. -/
noncomputable def rowsOf (n : Int) (l : List Int) : List GRow :=
  if h : 0 < cutK n 0 l ∧ cutK n 0 l < l.length then GRow.mk (l.take (cutK n 0 l)) true :: rowsOf n (l.drop (cutK n 0 l)) else [GRow.mk l false]
termination_by l.length
decreasing_by simp; omega
theorem rowsOf_len (n : Int) : ∀ (l : List Int), (rowsOf n l).length ≤ l.length + 1 ∧ (l ≠ [] → (rowsOf n l).length ≤ l.length) ∧ 1 ≤ (rowsOf n l).length := by
  intro l
  induction hm : l.length using Nat.strongRecOn generalizing l with
  | ind m ih =>
    rw [rowsOf]
    split
    · rename_i h
      obtain ⟨a, b, c⟩ := ih (l.drop (cutK n 0 l)).length (by simp; omega) _ rfl
      have hne : l.drop (cutK n 0 l) ≠ [] := by intro e; have := congrArg List.length e; simp at this; omega
      have := b hne
      simp only [List.length_cons, List.length_drop] at *
      exact ⟨by omega, fun _ => by omega, by omega⟩
    · simp only [List.length_singleton]
      refine ⟨by omega, fun h => ?_, by omega⟩
      cases l with
      | nil => exact absurd rfl h
      | cons => simp at hm; omega
/-- The rows of a line, put behind others. -/
theorem inner_eq (a1 : List (List Int)) (n : Int) (hn : 2 ≤ n ∧ n ≤ 160) (i : Int) : ∀ (l : List Int) (out : List GRow), l.length ≤ 100000 → out.length + l.length ≤ 1000000 → loopO (f5_l3_l6 a1 n) (out, l, i) = some (out ++ rowsOf n l, i) := by
  intro l
  induction hm : l.length using Nat.strongRecOn generalizing l with
  | ind m ih =>
    intro out hl ho
    have hk := cutK_le n l 0
    have body : f5_l3_l6 a1 n (out, l, i) = if l.drop (cutK n 0 l) = [] then some (.inr (out ++ [GRow.mk (l.take (cutK n 0 l)) false], i)) else some (.inl (out ++ [GRow.mk (l.take (cutK n 0 l)) true], l.drop (cutK n 0 l), i)) := by
      unfold f5_l3_l6 f5_l3_l6_j7
      simp only [Cut_eq l n ⟨by omega, hn.2⟩ (by omega), Option.bind_some]
      have ha : ∀ r : GRow, app? 32 out [r] = some (out ++ [r]) := fun r => by unfold app?; rw [if_pos (by simp; omega)]
      simp only [ha, Option.bind_some]
      by_cases he : l.drop (cutK n 0 l) = []
      · rw [if_pos he, he]; rfl
      · rw [if_neg he]
        have h0 : 0 < (l.drop (cutK n 0 l)).length := List.length_pos_iff.2 he
        rw [decide_eq_true (p := (0 : Int) < ((l.drop (cutK n 0 l)).length : Int)) (by omega), decide_eq_false (p := ((l.drop (cutK n 0 l)).length : Int) = 0) (by omega)]
        rfl
    rw [rowsOf]
    by_cases he : l.drop (cutK n 0 l) = []
    · rw [if_pos he] at body
      have hkl : l.length ≤ cutK n 0 l := by have := congrArg List.length he; simp at this; omega
      rw [dif_neg (by omega), loopO_done body, List.take_of_length_le hkl]
    · rw [if_neg he] at body
      have hlt : cutK n 0 l < l.length := by
        apply Nat.lt_of_not_le; intro hge; exact he (List.drop_eq_nil_of_le hge)
      have hpos : 0 < cutK n 0 l := cutK_pos n hn.1 l (by rintro rfl; simp at hlt)
      rw [dif_pos ⟨hpos, hlt⟩]
      have := ih (l.drop (cutK n 0 l)).length (by simp; omega) (l.drop (cutK n 0 l)) rfl (out ++ [GRow.mk (l.take (cutK n 0 l)) true]) (by simp; omega) (by simp; omega)
      rw [loopO_next body this]
      simp
/-- The length of all. -/
def lenL (ls : List (List Int)) : Nat := (ls.map List.length).sum
theorem lenL_take (ls : List (List Int)) (i : Nat) (h : i < ls.length) : lenL (ls.take (i + 1)) = lenL (ls.take i) + ls[i].length := by
  unfold lenL; rw [List.take_add_one, List.map_append, List.sum_append, List.getElem?_eq_getElem h]; simp
theorem lenL_mono (ls : List (List Int)) (i : Nat) : lenL (ls.take i) ≤ lenL ls := by
  conv => rhs; rw [← List.take_append_drop i ls]
  unfold lenL; rw [List.map_append, List.sum_append]; omega
/-- The sum of all lengths. -/
theorem sum_eq (ls : List (List Int)) (n : Int) (hl : (ls.length : Int) < 1000) (hs : ∀ x ∈ ls, x.length ≤ 17592186044416) : loopO (f5_l8 ls n) (0, 0) = some (lenL ls : Int) := by
  have bound : ∀ i, i ≤ ls.length → lenL (ls.take i) ≤ i * 17592186044416 := by
    intro i
    induction i with
    | zero => intro _; simp [lenL]
    | succ i ih =>
      intro hi
      rw [lenL_take ls i (by omega)]
      have := ih (by omega)
      have := hs ls[i] (List.getElem_mem _)
      omega
  obtain ⟨r, h1, h2⟩ := loopO_ind (body := f5_l8 ls n) (fun m x => ∃ i : Nat, x = ((lenL (ls.take i) : Int), (i : Int)) ∧ i ≤ ls.length ∧ m = ls.length - i) (fun r => r = (lenL ls : Int)) (by
    rintro m x ⟨i, rfl, hi, rfl⟩
    unfold f5_l8 f5_l8_j9 f5_l8_j10
    by_cases h : i < ls.length
    · rw [decide_eq_true (p := ((lenL (ls.take i) : Int), (i : Int)).2 < (ls.length : Int)) (by show (i : Int) < _; omega)]
      have hb := bound i hi
      have hx := hs ls[i] (List.getElem_mem _)
      simp only [cond_true, idx_get ls i h, Option.bind_some]
      rw [i64w ((lenL (ls.take i) : Int) + (ls[i].length : Int)) (by omega), i64w ((i : Int) + 1) (by omega)]
      left
      refine ⟨((lenL (ls.take (i + 1)) : Int), ((i + 1 : Nat) : Int)), ls.length - (i + 1), ?_, by omega, i + 1, rfl, by omega, rfl⟩
      rw [lenL_take ls i h]; rfl
    · rw [decide_eq_false (p := ((lenL (ls.take i) : Int), (i : Int)).2 < (ls.length : Int)) (by show ¬ (i : Int) < _; omega)]
      right
      have : i = ls.length := by omega
      subst this
      exact ⟨_, rfl, by rw [List.take_length]⟩) (n := ls.length) (x := (0, 0)) ⟨0, by simp [lenL], by omega, rfl⟩
  rw [h1, h2]
/-- All rows. -/
noncomputable def rowsAll (n : Int) (ls : List (List Int)) : List GRow := ls.flatMap (rowsOf n)
theorem rowsAll_len (n : Int) (ls : List (List Int)) : (rowsAll n ls).length ≤ lenL ls + ls.length := by
  unfold rowsAll lenL
  induction ls with
  | nil => simp
  | cons l ls ih =>
    have := (rowsOf_len n l).1
    simp only [List.flatMap_cons, List.length_append, List.map_cons, List.sum_cons, List.length_cons]
    omega
theorem len_le {ls : List (List Int)} {l : List Int} (h : l ∈ ls) : l.length ≤ lenL ls := by
  unfold lenL
  induction ls with
  | nil => cases h
  | cons a ls ih =>
    simp only [List.map_cons, List.sum_cons]
    rcases List.mem_cons.1 h with rfl | h
    · omega
    · have := ih h; omega
theorem outer_eq (ls : List (List Int)) (n : Int) (hn : 2 ≤ n ∧ n ≤ 160) (hl : ls.length ≤ 500) (hs : lenL ls ≤ 4000) : loopO (f5_l3 ls n) ([], 0) = some (rowsAll n ls) := by
  obtain ⟨r, h1, h2⟩ := loopO_ind (body := f5_l3 ls n) (fun m x => ∃ i : Nat, x = (rowsAll n (ls.take i), (i : Int)) ∧ i ≤ ls.length ∧ m = ls.length - i) (fun r => r = rowsAll n ls) (by
    rintro m x ⟨i, rfl, hi, rfl⟩
    unfold f5_l3 f5_l3_j4 f5_l3_j5
    by_cases h : i < ls.length
    · rw [decide_eq_true (p := (rowsAll n (ls.take i), (i : Int)).2 < (ls.length : Int)) (by show (i : Int) < _; omega)]
      have hx := len_le (ls := ls) (List.getElem_mem h)
      have hr := rowsAll_len n (ls.take i)
      have hm := lenL_mono ls i
      rw [List.length_take] at hr
      simp only [cond_true, idx_get ls i h, Option.bind_some]
      rw [inner_eq ls n hn (i : Int) ls[i] (rowsAll n (ls.take i)) (by omega) (by omega)]
      simp only [Option.bind_some]
      rw [i64w ((i : Int) + 1) (by omega)]
      left
      refine ⟨(rowsAll n (ls.take (i + 1)), ((i + 1 : Nat) : Int)), ls.length - (i + 1), ?_, by omega, i + 1, rfl, by omega, rfl⟩
      unfold rowsAll
      rw [List.take_add_one, List.flatMap_append, List.getElem?_eq_getElem h]
      simp
    · rw [decide_eq_false (p := (rowsAll n (ls.take i), (i : Int)).2 < (ls.length : Int)) (by show ¬ (i : Int) < _; omega)]
      right
      have : i = ls.length := by omega
      subst this
      exact ⟨_, rfl, by rw [List.take_length]⟩) (n := ls.length) (x := ([], 0)) ⟨0, by simp [rowsAll], by omega, rfl⟩
  rw [h1, h2]
/-- What makes Flow say no. -/
def flowE (ls : List (List Int)) (n : Int) : Int := if n < 2 ∨ 160 < n then 1 else if 500 < ls.length ∨ 4000 < lenL ls then 2 else 0
/-- As long as lines may be (however many there are). -/
def fitL (ls : List (List Int)) : Prop := (ls.length : Int) < 9223372036854775000 ∧ ∀ x ∈ ls, x.length ≤ 17592186044416
theorem sum_total (ls : List (List Int)) (n : Int) (hl : (ls.length : Int) < 9223372036854775000) : ∃ s, loopO (f5_l8 ls n) (0, 0) = some s := by
  obtain ⟨r, h1, h2⟩ := loopO_ind (body := f5_l8 ls n) (fun m x => ∃ (i : Nat) (s : Int), x = (s, (i : Int)) ∧ i ≤ ls.length ∧ m = ls.length - i) (fun r => True) (by
    rintro m x ⟨i, s, rfl, hi, rfl⟩
    unfold f5_l8 f5_l8_j9 f5_l8_j10
    by_cases h : i < ls.length
    · rw [decide_eq_true (p := (s, (i : Int)).2 < (ls.length : Int)) (by show (i : Int) < _; omega)]
      simp only [cond_true, idx_get ls i h, Option.bind_some]
      rw [i64w ((i : Int) + 1) (by omega)]
      exact .inl ⟨_, ls.length - (i + 1), rfl, by omega, i + 1, _, rfl, by omega, rfl⟩
    · rw [decide_eq_false (p := (s, (i : Int)).2 < (ls.length : Int)) (by show ¬ (i : Int) < _; omega)]
      exact .inr ⟨_, rfl, trivial⟩) (n := ls.length) (x := (0, 0)) ⟨0, 0, rfl, by omega, rfl⟩
  exact ⟨r, h1⟩
theorem flow_eq (ls : List (List Int)) (n : Int) (hf : fitL ls) : f5 ls n = some (if flowE ls n = 0 then rowsAll n ls else [], flowE ls n) := by
  unfold f5
  simp only [Bool.cond_decide]
  by_cases h1 : n < 2
  · have e : flowE ls n = 1 := by unfold flowE; rw [if_pos (.inl h1)]
    rw [if_pos h1, e]; rfl
  · rw [if_neg h1]
    by_cases h2 : 160 < n
    · have e : flowE ls n = 1 := by unfold flowE; rw [if_pos (.inr h2)]
      rw [if_pos h2, e]; rfl
    · rw [if_neg h2]
      unfold f5_j0
      by_cases h3 : 500 < ls.length
      · obtain ⟨s, hs⟩ := sum_total ls n hf.1
        have e : flowE ls n = 2 := by unfold flowE; rw [if_neg (by omega), if_pos (.inl h3)]
        rw [hs, e]
        simp only [Option.bind_some]
        unfold f5_j1
        rw [decide_eq_true (p := (500 : Int) < (ls.length : Int)) (by omega)]; rfl
      · rw [sum_eq ls n (by omega) hf.2]
        simp only [Option.bind_some]
        unfold f5_j1
        rw [decide_eq_false (p := (500 : Int) < (ls.length : Int)) (by omega)]
        simp only [cond_false]
        by_cases h4 : 4000 < lenL ls
        · have e : flowE ls n = 2 := by unfold flowE; rw [if_neg (by omega), if_pos (.inr h4)]
          rw [decide_eq_true (p := (4000 : Int) < (lenL ls : Int)) (by omega), e]; rfl
        · have e : flowE ls n = 0 := by unfold flowE; rw [if_neg (by omega), if_neg (by omega)]
          rw [decide_eq_false (p := (4000 : Int) < (lenL ls : Int)) (by omega), e]
          simp only [cond_false]
          unfold f5_j2
          rw [outer_eq ls n (by omega) (by omega) (by omega)]; rfl

theorem eqInts (l : List Int) (hl : (l.length : Int) < 9223372036854775000) : f17 l l = some true := by
  unfold f17 f17_j0
  rw [decide_eq_true (rfl : (l.length : Int) = (l.length : Int))]
  obtain ⟨r, h1, h2⟩ := loopO_ind (body := f17_l1 l l) (fun m x => ∃ i : Nat, x = (i : Int) ∧ i ≤ l.length ∧ m = l.length - i) (fun r => r = .inl ()) (by
    rintro m x ⟨i, rfl, hi, rfl⟩
    unfold f17_l1 f17_l1_j2 f17_l1_j3
    by_cases h : i < l.length
    · rw [decide_eq_true (p := (i : Int) < (l.length : Int)) (by omega)]
      simp only [cond_true, idx_get l i h, Option.bind_some, decide_true, Bool.not_true, cond_false]
      rw [i64w ((i : Int) + 1) (by omega)]
      exact .inl ⟨_, l.length - (i + 1), rfl, by omega, i + 1, rfl, by omega, rfl⟩
    · rw [decide_eq_false (p := (i : Int) < (l.length : Int)) (by omega)]
      exact .inr ⟨_, rfl, rfl⟩) (n := l.length) (x := 0) ⟨0, rfl, by omega, rfl⟩
  rw [h1, h2]; rfl
theorem sameRows (l : List GRow) (hl : (l.length : Int) < 9223372036854775000) (hr : ∀ r ∈ l, (r.Runes.length : Int) < 9223372036854775000) : f11 l l = some true := by
  unfold f11 f18 f18_j0
  rw [decide_eq_true (rfl : (l.length : Int) = (l.length : Int))]
  obtain ⟨r, h1, h2⟩ := loopO_ind (body := f18_l1 l l) (fun m x => ∃ i : Nat, x = (i : Int) ∧ i ≤ l.length ∧ m = l.length - i) (fun r => r = .inl ()) (by
    rintro m x ⟨i, rfl, hi, rfl⟩
    unfold f18_l1 f18_l1_j2 f18_l1_j3
    by_cases h : i < l.length
    · rw [decide_eq_true (p := (i : Int) < (l.length : Int)) (by omega)]
      have e : f19 l[i] l[i] = some true := by unfold f19; rw [decide_eq_true rfl, eqInts _ (hr _ (List.getElem_mem h))]; rfl
      simp only [cond_true, idx_get l i h, Option.bind_some, e, Bool.not_true, cond_false]
      rw [i64w ((i : Int) + 1) (by omega)]
      exact .inl ⟨_, l.length - (i + 1), rfl, by omega, i + 1, rfl, by omega, rfl⟩
    · rw [decide_eq_false (p := (i : Int) < (l.length : Int)) (by omega)]
      exact .inr ⟨_, rfl, rfl⟩) (n := l.length) (x := 0) ⟨0, rfl, by omega, rfl⟩
  rw [h1, h2]; rfl
theorem sameLines (l : List (List Int)) (hl : (l.length : Int) < 9223372036854775000) (hr : ∀ r ∈ l, (r.length : Int) < 9223372036854775000) : f8 l l = some true := by
  unfold f8 f15 f15_j0
  rw [decide_eq_true (rfl : (l.length : Int) = (l.length : Int))]
  obtain ⟨r, h1, h2⟩ := loopO_ind (body := f15_l1 l l) (fun m x => ∃ i : Nat, x = (i : Int) ∧ i ≤ l.length ∧ m = l.length - i) (fun r => r = .inl ()) (by
    rintro m x ⟨i, rfl, hi, rfl⟩
    unfold f15_l1 f15_l1_j2 f15_l1_j3
    by_cases h : i < l.length
    · rw [decide_eq_true (p := (i : Int) < (l.length : Int)) (by omega)]
      have e : f16 l[i] l[i] = some true := by unfold f16; rw [eqInts _ (hr _ (List.getElem_mem h))]; rfl
      simp only [cond_true, idx_get l i h, Option.bind_some, e, Bool.not_true, cond_false]
      rw [i64w ((i : Int) + 1) (by omega)]
      exact .inl ⟨_, l.length - (i + 1), rfl, by omega, i + 1, rfl, by omega, rfl⟩
    · rw [decide_eq_false (p := (i : Int) < (l.length : Int)) (by omega)]
      exact .inr ⟨_, rfl, rfl⟩) (n := l.length) (x := 0) ⟨0, rfl, by omega, rfl⟩
  rw [h1, h2]; rfl
theorem W_of {n : Int} {L1 L2 : List (Int × Int)} (h0 : ¬ n < 0) (h1 : ¬ 1114111 < n) (e1 : f22 n [(0, 31), (127, 159), (768, 879), (8203, 8207), (55296, 57343), (65024, 65039)] = some false) (e2 : f22 n [(4352, 4447), (11904, 12350), (12353, 19903), (19968, 42191), (44032, 55203), (63744, 64255), (65072, 65135), (65280, 65376), (65504, 65510), (127744, 128591), (129280, 129535), (131072, 262141)] = some false) : W n = 1 := by
  unfold W f21 f21_j0
  rw [decide_eq_false h0, decide_eq_false h1]
  simp only [cond_false, e1, Option.bind_some, e2]; rfl
theorem no36 {n : Int} {L : List (Int × Int)} (h : loopF (f22_l0 n L) 20 0 = some (.inl ())) : f22 n L = some false := by
  unfold f22; rw [loopO_of h]; rfl
theorem W97 : W 97 = 1 := W_of (L1 := []) (L2 := []) (by decide) (by decide) (no36 (by kernel_rfl)) (no36 (by kernel_rfl))
theorem W98 : W 98 = 1 := W_of (L1 := []) (L2 := []) (by decide) (by decide) (no36 (by kernel_rfl)) (no36 (by kernel_rfl))
theorem W99 : W 99 = 1 := W_of (L1 := []) (L2 := []) (by decide) (by decide) (no36 (by kernel_rfl)) (no36 (by kernel_rfl))
theorem flow_lives : f6 = some true := by
  have hf : fitL [[97, 98, 99], []] := ⟨by decide, by decide⟩
  have e0 : flowE [[97, 98, 99], []] 2 = 0 := by decide
  have k1 : cutK 2 0 [97, 98, 99] = 2 := by simp [cutK, W97, W98, W99]
  have k2 : cutK 2 0 [99] = 1 := by simp [cutK, W99]
  have r2 : rowsOf 2 [99] = [GRow.mk [99] false] := by rw [rowsOf, dif_neg (by rw [k2]; simp)]
  have r3 : rowsOf 2 [] = [GRow.mk [] false] := by rw [rowsOf, dif_neg (by simp [cutK])]
  have r1 : rowsOf 2 [97, 98, 99] = [GRow.mk [97, 98] true, GRow.mk [99] false] := by
    rw [rowsOf, dif_pos (by rw [k1]; simp), k1]
    simp [r2]
  have ra : rowsAll 2 [[97, 98, 99], []] = [GRow.mk [97, 98] true, GRow.mk [99] false, GRow.mk [] false] := by
    unfold rowsAll; simp [r1, r3]
  unfold f6
  rw [flow_eq _ _ hf, e0, if_pos rfl, ra]
  simp only [Option.bind_some, decide_true, cond_true]
  rw [sameRows _ (by decide) (by decide)]; rfl
end Go.Proofs.Ytnnnfncebpkaoaa.Pm
