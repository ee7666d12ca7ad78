/- Flow: no row is wider than it may be, each soft one is full. -/
import Derived.Test.YtepegjihlppkcaaFlowQ
namespace Go.Proofs.Ytepegjihlppkcaa.Pm
open Go.Proofs.Ytepegjihlppkcaa.Args
open Go.ChangeShapes Go.WideShapes Go.ChangeAt Go.RowKit
set_option linter.unusedVariables false
set_option linter.unusedSimpArgs false
set_option maxRecDepth 100000
theorem sumW_cons (x : Int) (t : List Int) : sumW (x :: t) = W x + sumW t := by unfold sumW; simp
theorem cut_sum (n : Int) : ∀ (l : List Int) (s : Int), s ≤ n → s + sumW (l.take (cutK n s l)) ≤ n ∧ ∀ (h : cutK n s l < l.length), n < s + sumW (l.take (cutK n s l)) + W l[cutK n s l]
  | [], s, hs => by simp [cutK, sumW, hs]
  | x :: t, s, hs => by
    by_cases hc : n < s + W x
    · have e : cutK n s (x :: t) = 0 := by rw [cutK_cons, if_pos hc]
      simp only [e, List.take_zero]
      refine ⟨by simp [sumW, hs], fun h => ?_⟩
      simp [sumW]; exact hc
    · have e : cutK n s (x :: t) = cutK n (s + W x) t + 1 := by rw [cutK_cons, if_neg hc, Nat.add_comm]
      obtain ⟨a, b⟩ := cut_sum n t (s + W x) (by omega)
      simp only [e, List.take_succ_cons, sumW_cons]
      refine ⟨by omega, fun h => ?_⟩
      have h' : cutK n (s + W x) t < t.length := by simp at h; exact h
      have := b h'
      simp only [List.getElem_cons_succ]
      omega
/-- Rows that are right: wide enough, none too wide. -/
def okRows (n : Int) : List GRow → Prop
  | [] => True
  | r :: rs => sumW r.Runes ≤ n ∧ (r.Soft = true → ∃ q qs x t, rs = q :: qs ∧ q.Runes = x :: t ∧ n < sumW r.Runes + W x) ∧ okRows n rs
theorem head_rowsOf (n : Int) (hn : 2 ≤ n) (x : Int) (t : List Int) : ∃ q qs t', rowsOf n (x :: t) = q :: qs ∧ q.Runes = x :: t' := by
  rw [rowsOf]
  split
  · rename_i h
    obtain ⟨k, hk⟩ : ∃ k, cutK n 0 (x :: t) = k + 1 := ⟨cutK n 0 (x :: t) - 1, by omega⟩
    exact ⟨_, _, t.take k, rfl, by rw [hk]; rfl⟩
  · exact ⟨_, _, t, rfl, rfl⟩
theorem ok_rowsOf (n : Int) (hn : 2 ≤ n) (rest : List GRow) (hr : okRows n rest) : ∀ (l : List Int), okRows n (rowsOf n l ++ rest) := by
  intro l
  induction hm : l.length using Nat.strongRecOn generalizing l with
  | ind m ih =>
    obtain ⟨c1, c2⟩ := cut_sum n l 0 (by omega)
    rw [rowsOf]
    split
    · rename_i h
      have hd : l.drop (cutK n 0 l) = l[cutK n 0 l] :: l.drop (cutK n 0 l + 1) := List.drop_eq_getElem_cons h.2
      have i1 := ih (l.drop (cutK n 0 l)).length (by simp; omega) _ rfl
      refine ⟨by simp only; omega, fun _ => ?_, i1⟩
      obtain ⟨q, qs, t', e1, e2⟩ := head_rowsOf n hn l[cutK n 0 l] (l.drop (cutK n 0 l + 1))
      refine ⟨q, qs ++ rest, l[cutK n 0 l], t', ?_, e2, ?_⟩
      · rw [hd, e1]; rfl
      · have := c2 h.2; simp only; omega
    · rename_i h
      have hk := cutK_le n l 0
      have hall : l.take (cutK n 0 l) = l := by
        cases l with
        | nil => simp
        | cons x t =>
          have := cutK_pos n hn (x :: t) (by simp)
          exact List.take_of_length_le (by omega)
      rw [hall] at c1
      exact ⟨by simp only; omega, (fun hf => by cases hf), hr⟩
theorem ok_all (n : Int) (hn : 2 ≤ n) : ∀ ls : List (List Int), okRows n (rowsAll n ls)
  | [] => trivial
  | l :: ls => by
    unfold rowsAll
    rw [List.flatMap_cons]
    exact ok_rowsOf n hn _ (ok_all n hn ls) l
theorem all_more (n : Int) : ∀ ls : List (List Int), ls.length ≤ (rowsAll n ls).length
  | [] => Nat.le_refl _
  | l :: ls => by
    have := all_more n ls
    have := (rowsOf_len n l).2.2
    unfold rowsAll at *
    rw [List.flatMap_cons, List.length_append, List.length_cons]; omega
theorem sumW_rng : ∀ l : List Int, 0 ≤ sumW l ∧ sumW l ≤ 2 * l.length
  | [] => by simp [sumW]
  | x :: t => by
    have := W_rng x
    have := sumW_rng t
    rw [sumW_cons, List.length_cons]; omega
theorem sumW_take (l : List Int) (i : Nat) (h : i < l.length) : sumW (l.take (i + 1)) = sumW (l.take i) + W l[i] := by
  rw [List.take_add_one, List.getElem?_eq_getElem h, sumW_app]; simp [sumW_one]
theorem sum14 (l : List Int) (hl : l.length ≤ 1000000) : f14 l = some (sumW l) := by
  unfold f14
  obtain ⟨r, h1, h2⟩ := loopO_ind (body := f14_l0 l) (fun m x => ∃ i : Nat, x = (sumW (l.take i), (i : Int)) ∧ i ≤ l.length ∧ m = l.length - i) (fun r => r = sumW l) (by
    rintro m x ⟨i, rfl, hi, rfl⟩
    unfold f14_l0 f14_l0_j1 f14_l0_j2
    by_cases h : i < l.length
    · rw [decide_eq_true (p := (sumW (l.take i), (i : Int)).2 < (l.length : Int)) (by show (i : Int) < _; omega)]
      have hb := sumW_rng (l.take i)
      rw [List.length_take] at hb
      have hw := W_rng l[i]
      simp only [cond_true, idx_get l i h, Option.bind_some, of_eq]
      rw [i64w (sumW (l.take i) + W l[i]) (by omega), i64w ((i : Int) + 1) (by omega)]
      left
      refine ⟨(sumW (l.take (i + 1)), ((i + 1 : Nat) : Int)), l.length - (i + 1), ?_, by omega, i + 1, rfl, by omega, rfl⟩
      rw [sumW_take l i h]; rfl
    · rw [decide_eq_false (p := (sumW (l.take i), (i : Int)).2 < (l.length : Int)) (by show ¬ (i : Int) < _; omega)]
      right
      have : i = l.length := by omega
      subst this
      exact ⟨_, rfl, by rw [List.take_length]⟩) (n := l.length) (x := (0, 0)) ⟨0, by simp [sumW], by omega, rfl⟩
  rw [h1, h2]; rfl
theorem okRows_at (n : Int) : ∀ (rs : List GRow) (i : Nat) (h : i < rs.length), okRows n rs → sumW rs[i].Runes ≤ n ∧ (rs[i].Soft = true → ∃ (h2 : i + 1 < rs.length) (x : Int) (t : List Int), rs[i + 1].Runes = x :: t ∧ n < sumW rs[i].Runes + W x)
  | r :: rs, 0, h, ⟨a, b, c⟩ => ⟨a, fun hs => by
    obtain ⟨q, qs, x, t, e1, e2, e3⟩ := b hs
    subst e1
    exact ⟨by simp, x, t, by simpa using e2, by simpa using e3⟩⟩
  | r :: rs, i + 1, h, ⟨a, b, c⟩ => by
    have := okRows_at n rs i (by simpa using h) c
    refine ⟨by simpa using this.1, fun hs => ?_⟩
    obtain ⟨h2, x, t, e1, e2⟩ := this.2 (by simpa using hs)
    exact ⟨by simp; omega, x, t, by simpa using e1, by simpa using e2⟩
theorem inR_get (i n : Nat) (h : i < n) : inR (i : Int) n = some i := by unfold inR; rw [if_pos (by omega)]; simp
theorem fits_loop (ls : List (List Int)) (n : Int) (rs : List GRow) (hn : 2 ≤ n ∧ n ≤ 160) (hl : rs.length ≤ 4500) (hr : ∀ r ∈ rs, r.Runes.length ≤ 4000) (ho : okRows n rs) : loopO (f5_l1 ls n) (rs, (rs.length : Int), 0) = some (.inl rs) := by
  obtain ⟨r, h1, h2⟩ := loopO_ind (body := f5_l1 ls n) (fun m x => ∃ i : Nat, x = (rs, (rs.length : Int), (i : Int)) ∧ i ≤ rs.length ∧ m = rs.length - i) (fun r => r = .inl rs) (by
    rintro m x ⟨i, rfl, hi, rfl⟩
    unfold f5_l1 f5_l1_j2 f5_l1_j3
    by_cases h : i < rs.length
    · rw [decide_eq_true (p := (rs, (rs.length : Int), (i : Int)).2.2 < (rs, (rs.length : Int), (i : Int)).2.1) (by show (i : Int) < (rs.length : Int); omega)]
      obtain ⟨o1, o2⟩ := okRows_at n rs i h ho
      have hri := hr rs[i] (List.getElem_mem h)
      have hg : rs[i]? = some rs[i] := by simp [h]
      have hw : IntKind.i64.wrap ((i : Int) + 1) = ((i + 1 : Nat) : Int) := by rw [i64w _ (by omega)]; rfl
      simp only [cond_true, inR_get i rs.length h, hg, Option.bind_some, sum14 rs[i].Runes (by omega), decide_eq_false (show ¬ n < sumW rs[i].Runes by omega), cond_false, hw]
      left
      cases hs : rs[i].Soft with
      | false => exact ⟨_, rs.length - (i + 1), rfl, by omega, i + 1, rfl, by omega, rfl⟩
      | true =>
        obtain ⟨hh, x, t, e1, e2⟩ := o2 hs
        have hg2 : rs[i + 1]? = some rs[i + 1] := by simp [hh]
        have hx : idx rs[i + 1].Runes 0 = some x := by rw [e1]; rfl
        have hb := sumW_rng rs[i].Runes
        have hwx := W_rng x
        have hne : ¬ ((rs[i + 1].Runes.length : Int) = 0) := by rw [e1, List.length_cons]; omega
        simp only [cond_true, decide_eq_false (show ¬ ((i + 1 : Nat) : Int) = (rs.length : Int) by omega), cond_false, inR_get (i + 1) rs.length hh, hg2, Option.bind_some, decide_eq_false hne, hx, of_eq]
        rw [i64w (sumW rs[i].Runes + W x) (by omega), decide_eq_false (show ¬ sumW rs[i].Runes + W x ≤ n by omega)]
        exact ⟨_, rs.length - (i + 1), rfl, by omega, i + 1, rfl, by omega, rfl⟩
    · rw [decide_eq_false (p := (rs, (rs.length : Int), (i : Int)).2.2 < (rs, (rs.length : Int), (i : Int)).2.1) (by show ¬ (i : Int) < (rs.length : Int); omega)]
      exact .inr ⟨_, rfl, rfl⟩) (n := rs.length) (x := (rs, (rs.length : Int), 0)) ⟨0, rfl, by omega, rfl⟩
  rw [h1, h2]
theorem flowFits (ls : List (List Int)) (n : Int) (hf : fitL ls) : f5 ls n = some true := by
  unfold f5
  rw [flow_eq ls n hf]
  simp only [Option.bind_some, flow_lives, Bool.not_true, cond_false]
  by_cases h : flowE ls n = 0
  · rw [decide_eq_true h, if_pos h]
    simp only [Bool.not_true, cond_false]
    unfold f5_j0
    have h2 : (2 ≤ n ∧ n ≤ 160) ∧ ls.length ≤ 500 ∧ lenL ls ≤ 4000 := by
      unfold flowE at h
      split at h
      · cases h
      · split at h
        · cases h
        · omega
    have hfew := rowsAll_few n ls h2.2.1 h2.2.2
    have hrow : ∀ r ∈ rowsAll n ls, r.Runes.length ≤ 4000 := by
      intro r hr
      have hR := lenR_all n ls
      have : r.Runes.length ≤ lenR (rowsAll n ls) := by
        unfold lenR
        generalize rowsAll n ls = rs at hr
        clear hR hfew
        induction rs with
        | nil => cases hr
        | cons a rs ih =>
          simp only [List.map_cons, List.sum_cons]
          rcases List.mem_cons.1 hr with rfl | h
          · omega
          · have := ih h; omega
      omega
    rw [fits_loop ls n (rowsAll n ls) h2.1 hfew hrow (ok_all n h2.1.1 ls)]
    have hm := all_more n ls
    simp only [Option.bind_some, Sum.elim_inl]
    rw [decide_eq_true (p := (ls.length : Int) ≤ ((rowsAll n ls).length : Int)) (by omega)]; rfl
  · rw [decide_eq_false h]
    simp only [Bool.not_false, cond_true]
theorem FlowFits_walk (v0 v1 : Value) (w : World) (h0 : Arg none Go.Proofs.Try.prog w 34 v0) (h1 : Arg none Go.Proofs.Try.prog w 3 v1) :
    Calls Go.Proofs.Try.prog 5 #[v0, v1] w fun e w' => e = .returned (.bool true) ∧ Below w.heap.size w w' :=
  FlowFits_calls none (fun ls n hl _ => flowFits ls n (fit_lines none (.inl rfl) hl.1 fun x hx => (hl.2 x hx).1)) v0 v1 w h0 h1
end Go.Proofs.Ytepegjihlppkcaa.Pm
