/- Flow: lines that flow are the lines that they were; by way of another width. -/
import Derived.Test.YtepegjihlppkcaaFlowP
import Derived.Test.YtepegjihlppkcaaDFlowZ
namespace Go.Proofs.Ytepegjihlppkcaa.Pm
open Go.Proofs.Ytepegjihlppkcaa.Args
open Go.ChangeShapes Go.WideShapes Go.ChangeAt Go.RowKit
set_option linter.unusedVariables false
set_option linter.unusedSimpArgs false
set_option maxRecDepth 100000
def lenR (rs : List GRow) : Nat := (rs.map fun r => r.Runes.length).sum
theorem lenR_take (ls : List GRow) (i : Nat) (h : i < ls.length) : lenR (ls.take (i + 1)) = lenR (ls.take i) + ls[i].Runes.length := by
  unfold lenR; rw [List.take_add_one, List.map_append, List.sum_append, List.getElem?_eq_getElem h]; simp
theorem lenR_mono (ls : List GRow) (i : Nat) : lenR (ls.take i) ≤ lenR ls := by
  conv => rhs; rw [← List.take_append_drop i ls]
  unfold lenR; rw [List.map_append, List.sum_append]; omega
theorem lenR_app (a b : List GRow) : lenR (a ++ b) = lenR a + lenR b := by unfold lenR; rw [List.map_append, List.sum_append]
/-- The lines of rows; acc: what is open. -/
def lf : List Int → List GRow → List (List Int)
  | _, [] => []
  | acc, r :: rs => if r.Soft = true then lf (acc ++ r.Runes) rs else (acc ++ r.Runes) :: lf [] rs
/-- What is open behind rows. -/
def lo : List Int → List GRow → List Int
  | acc, [] => acc
  | acc, r :: rs => if r.Soft = true then lo (acc ++ r.Runes) rs else lo [] rs
theorem lf_snoc (r : GRow) : ∀ (rs : List GRow) (acc : List Int), lf acc (rs ++ [r]) = if r.Soft = true then lf acc rs else lf acc rs ++ [lo acc rs ++ r.Runes]
  | [], acc => by simp [lf, lo]
  | q :: rs, acc => by
    simp only [List.cons_append, lf, lo]
    split
    · exact lf_snoc r rs _
    · rw [lf_snoc r rs []]; split <;> simp
theorem lo_snoc (r : GRow) : ∀ (rs : List GRow) (acc : List Int), lo acc (rs ++ [r]) = if r.Soft = true then lo acc rs ++ r.Runes else []
  | [], acc => by simp [lo]
  | q :: rs, acc => by
    simp only [List.cons_append, lo]
    split
    · exact lo_snoc r rs _
    · exact lo_snoc r rs []
theorem lo_len : ∀ (rs : List GRow) (acc : List Int), (lo acc rs).length ≤ acc.length + lenR rs
  | [], acc => by simp [lo, lenR]
  | q :: rs, acc => by
    simp only [lo]
    have e : lenR (q :: rs) = q.Runes.length + lenR rs := by unfold lenR; simp
    rw [e]
    split
    · have := lo_len rs (acc ++ q.Runes); rw [List.length_append] at this; omega
    · have := lo_len rs []; simp only [List.length_nil] at this; omega
theorem lf_len : ∀ (rs : List GRow) (acc : List Int), (lf acc rs).length ≤ rs.length
  | [], acc => by simp [lf]
  | q :: rs, acc => by
    simp only [lf]
    split
    · have := lf_len rs (acc ++ q.Runes); simp; omega
    · have := lf_len rs []; simp; omega
theorem sumR_eq (rs : List GRow) (hl : (rs.length : Int) < 100000) (hs : ∀ x ∈ rs, x.Runes.length ≤ 17592186044416) : loopO (f21_l6 rs) (0, 0) = some (lenR rs : Int) := by
  have bound : ∀ i, i ≤ rs.length → lenR (rs.take i) ≤ i * 17592186044416 := by
    intro i
    induction i with
    | zero => intro _; simp [lenR]
    | succ i ih =>
      intro hi
      rw [lenR_take rs i (by omega)]
      have := ih (by omega)
      have := hs rs[i] (List.getElem_mem _)
      omega
  obtain ⟨r, h1, h2⟩ := loopO_ind (body := f21_l6 rs) (fun m x => ∃ i : Nat, x = ((lenR (rs.take i) : Int), (i : Int)) ∧ i ≤ rs.length ∧ m = rs.length - i) (fun r => r = (lenR rs : Int)) (by
    rintro m x ⟨i, rfl, hi, rfl⟩
    unfold f21_l6 f21_l6_j7 f21_l6_j8
    by_cases h : i < rs.length
    · rw [decide_eq_true (p := ((lenR (rs.take i) : Int), (i : Int)).2 < (rs.length : Int)) (by show (i : Int) < _; omega)]
      have hb := bound i hi
      have hx := hs rs[i] (List.getElem_mem _)
      simp only [cond_true, idx_get rs i h, Option.bind_some]
      rw [i64w ((lenR (rs.take i) : Int) + (rs[i].Runes.length : Int)) (by omega), i64w ((i : Int) + 1) (by omega)]
      left
      refine ⟨((lenR (rs.take (i + 1)) : Int), ((i + 1 : Nat) : Int)), rs.length - (i + 1), ?_, by omega, i + 1, rfl, by omega, rfl⟩
      rw [lenR_take rs i h]; rfl
    · rw [decide_eq_false (p := ((lenR (rs.take i) : Int), (i : Int)).2 < (rs.length : Int)) (by show ¬ (i : Int) < _; omega)]
      right
      have : i = rs.length := by omega
      subst this
      exact ⟨_, rfl, by rw [List.take_length]⟩) (n := rs.length) (x := (0, 0)) ⟨0, by simp [lenR], by omega, rfl⟩
  rw [h1, h2]
theorem clone_eq (l : List Int) (h : l.length ≤ 1000000) : f17 l = some l := by
  unfold f17 app?; rw [if_pos (by simp; omega)]; rfl
theorem linesLoop (rs : List GRow) (hl : rs.length ≤ 4500) (hs : lenR rs ≤ 4000) : loopO (f21_l3 rs) ([], [], 0) = some (lf [] rs) := by
  obtain ⟨r, h1, h2⟩ := loopO_ind (body := f21_l3 rs) (fun m x => ∃ i : Nat, x = (lf [] (rs.take i), lo [] (rs.take i), (i : Int)) ∧ i ≤ rs.length ∧ m = rs.length - i) (fun r => r = lf [] rs) (by
    rintro m x ⟨i, rfl, hi, rfl⟩
    unfold f21_l3 f21_l3_j4 f21_l3_j5
    by_cases h : i < rs.length
    · rw [decide_eq_true (p := (lf [] (rs.take i), lo [] (rs.take i), (i : Int)).2.2 < (rs.length : Int)) (by show (i : Int) < _; omega)]
      have h1 := lo_len (rs.take i) []
      have h2 := lf_len (rs.take i) []
      have h3 := lenR_mono rs (i + 1)
      rw [lenR_take rs i h] at h3
      rw [List.length_take] at h2
      have ht : rs.take (i + 1) = rs.take i ++ [rs[i]] := by rw [List.take_add_one, List.getElem?_eq_getElem h]; rfl
      simp only [List.length_nil] at h1
      have ha : app? 8 (lo [] (rs.take i)) rs[i].Runes = some (lo [] (rs.take i) ++ rs[i].Runes) := by unfold app?; rw [if_pos (by omega)]
      have hb : app? 24 (lf [] (rs.take i)) [lo [] (rs.take i) ++ rs[i].Runes] = some (lf [] (rs.take i) ++ [lo [] (rs.take i) ++ rs[i].Runes]) := by unfold app?; rw [if_pos (by simp only [List.length_singleton]; omega)]
      simp only [cond_true, idx_get rs i h, Option.bind_some, ha, clone_eq _ (show (lo [] (rs.take i) ++ rs[i].Runes).length ≤ 1000000 by rw [List.length_append]; omega), hb]
      rw [i64w ((i : Int) + 1) (by omega)]
      left
      refine ⟨(lf [] (rs.take (i + 1)), lo [] (rs.take (i + 1)), ((i + 1 : Nat) : Int)), rs.length - (i + 1), ?_, by omega, i + 1, rfl, by omega, rfl⟩
      rw [ht, lf_snoc, lo_snoc]
      cases hsf : rs[i].Soft <;> rfl
    · rw [decide_eq_false (p := (lf [] (rs.take i), lo [] (rs.take i), (i : Int)).2.2 < (rs.length : Int)) (by show ¬ (i : Int) < _; omega)]
      right
      have : i = rs.length := by omega
      subst this
      exact ⟨_, rfl, by rw [List.take_length]⟩) (n := rs.length) (x := ([], [], 0)) ⟨0, by simp [lf, lo], by omega, rfl⟩
  rw [h1, h2]
/-- Rows that are right. -/
theorem lines_eq (rs : List GRow) (hl : rs.length ≤ 4500) (hs : lenR rs ≤ 4000) (hlast : ∀ r, rs.getLast? = some r → r.Soft = false) : f21 rs = some (lf [] rs, 0) := by
  unfold f21
  have hx : ∀ x ∈ rs, x.Runes.length ≤ 17592186044416 := by
    intro x hx
    have : x.Runes.length ≤ lenR rs := by
      unfold lenR
      clear hs hl hlast
      induction rs with
      | nil => cases hx
      | cons a rs ih =>
        simp only [List.map_cons, List.sum_cons]
        rcases List.mem_cons.1 hx with rfl | h
        · omega
        · have := ih h; omega
    omega
  rw [sumR_eq rs (by omega) hx]
  simp only [Option.bind_some]
  unfold f21_j0 f21_j1
  rw [decide_eq_false (p := (4500 : Int) < (rs.length : Int)) (by omega), decide_eq_false (p := (4000 : Int) < (lenR rs : Int)) (by omega)]
  simp only [cond_false]
  have hj : f21_j2 rs = some (lf [] rs, 0) := by unfold f21_j2; rw [linesLoop rs hl hs]; rfl
  by_cases h0 : 0 < rs.length
  · rw [decide_eq_true (p := (0 : Int) < (rs.length : Int)) (by omega)]
    have e : IntKind.i64.wrap ((rs.length : Int) - 1) = ((rs.length - 1 : Nat) : Int) := by rw [i64w _ (by omega)]; omega
    simp only [cond_true, e, idx_get rs (rs.length - 1) (by omega), Option.bind_some]
    have hg : rs.getLast? = some rs[rs.length - 1] := by rw [List.getLast?_eq_getElem?]; simp [show rs.length - 1 < rs.length by omega]
    rw [hlast _ hg]
    simp only [cond_false, hj]
  · rw [decide_eq_false (p := (0 : Int) < (rs.length : Int)) (by omega)]
    simp only [cond_false, hj]
theorem lf_rowsOf (n : Int) (rest : List GRow) : ∀ (l acc : List Int), lf acc (rowsOf n l ++ rest) = (acc ++ l) :: lf [] rest := by
  intro l
  induction hm : l.length using Nat.strongRecOn generalizing l with
  | ind m ih =>
    intro acc
    rw [rowsOf]
    split
    · rename_i h
      simp only [List.cons_append, lf, if_true]
      rw [ih (l.drop (cutK n 0 l)).length (by simp; omega) _ rfl, List.append_assoc, List.take_append_drop]
    · simp [lf]
theorem lf_all (n : Int) : ∀ ls : List (List Int), lf [] (rowsAll n ls) = ls
  | [] => rfl
  | l :: ls => by
    unfold rowsAll
    rw [List.flatMap_cons, lf_rowsOf]
    show _ :: lf [] (rowsAll n ls) = _
    rw [lf_all n ls]; rfl
theorem lenR_rowsOf (n : Int) : ∀ (l : List Int), lenR (rowsOf n l) = l.length := by
  intro l
  induction hm : l.length using Nat.strongRecOn generalizing l with
  | ind m ih =>
    rw [rowsOf]
    split
    · rename_i h
      have := ih (l.drop (cutK n 0 l)).length (by simp; omega) _ rfl
      unfold lenR at *
      simp only [List.map_cons, List.sum_cons, this, List.length_drop, List.length_take]
      omega
    · simp [lenR, hm]
theorem lenR_all (n : Int) : ∀ ls : List (List Int), lenR (rowsAll n ls) = lenL ls
  | [] => rfl
  | l :: ls => by
    unfold rowsAll
    rw [List.flatMap_cons, lenR_app, lenR_rowsOf]
    show _ + lenR (rowsAll n ls) = _
    rw [lenR_all n ls]; unfold lenL; simp
theorem last_rowsOf (n : Int) : ∀ (l : List Int) (r : GRow), (rowsOf n l).getLast? = some r → r.Soft = false := by
  intro l
  induction hm : l.length using Nat.strongRecOn generalizing l with
  | ind m ih =>
    intro r hr
    rw [rowsOf] at hr
    split at hr
    · rename_i h
      have hne : rowsOf n (l.drop (cutK n 0 l)) ≠ [] := by
        intro e; have := (rowsOf_len n (l.drop (cutK n 0 l))).2.2; rw [e] at this; simp at this
      rw [List.getLast?_cons] at hr
      cases hg : (rowsOf n (l.drop (cutK n 0 l))).getLast? with
      | none => rw [List.getLast?_eq_none_iff] at hg; exact absurd hg hne
      | some q =>
        rw [hg] at hr
        simp at hr; subst hr
        exact ih (l.drop (cutK n 0 l)).length (by simp; omega) _ rfl q hg
    · simp at hr; subst hr; rfl
theorem last_all (n : Int) (ls : List (List Int)) (r : GRow) (h : (rowsAll n ls).getLast? = some r) : r.Soft = false := by
  rcases List.eq_nil_or_concat ls with rfl | ⟨xs, x, rfl⟩
  · simp [rowsAll] at h
  · unfold rowsAll at h
    rw [List.concat_eq_append, List.flatMap_append] at h
    simp only [List.flatMap_cons, List.flatMap_nil, List.append_nil] at h
    have hne : rowsOf n x ≠ [] := by
      intro e; have := (rowsOf_len n x).2.2; rw [e] at this; simp at this
    rw [List.getLast?_append] at h
    cases hg : (rowsOf n x).getLast? with
    | none => rw [List.getLast?_eq_none_iff] at hg; exact absurd hg hne
    | some q =>
      rw [hg] at h
      simp at h; subst h
      exact last_rowsOf n x q hg
theorem rowsAll_few (n : Int) (ls : List (List Int)) (hl : ls.length ≤ 500) (hs : lenL ls ≤ 4000) : (rowsAll n ls).length ≤ 4500 := by
  have := rowsAll_len n ls; omega
/-- The lines of the rows of lines. -/
theorem back_eq (n : Int) (ls : List (List Int)) (h : flowE ls n = 0) : f21 (rowsAll n ls) = some (ls, 0) := by
  have h2 : ls.length ≤ 500 ∧ lenL ls ≤ 4000 := by
    unfold flowE at h
    split at h
    · cases h
    · split at h
      · cases h
      · omega
  rw [lines_eq (rowsAll n ls) (rowsAll_few n ls h2.1 h2.2) (by rw [lenR_all]; exact h2.2) (last_all n ls), lf_all]
-- the same is the same
theorem eqInts (l : List Int) (hl : (l.length : Int) < 9223372036854775000) : f15 l l = some true := by
  unfold f15 f15_j0
  rw [decide_eq_true (rfl : (l.length : Int) = (l.length : Int))]
  obtain ⟨r, h1, h2⟩ := loopO_ind (body := f15_l1 l l) (fun m x => ∃ i : Nat, x = (i : Int) ∧ i ≤ l.length ∧ m = l.length - i) (fun r => r = .inl ()) (by
    rintro m x ⟨i, rfl, hi, rfl⟩
    unfold f15_l1 f15_l1_j2 f15_l1_j3
    by_cases h : i < l.length
    · rw [decide_eq_true (p := (i : Int) < (l.length : Int)) (by omega)]
      simp only [cond_true, idx_get l i h, Option.bind_some, decide_true, Bool.not_true, cond_false]
      rw [i64w ((i : Int) + 1) (by omega)]
      exact .inl ⟨_, l.length - (i + 1), rfl, by omega, i + 1, rfl, by omega, rfl⟩
    · rw [decide_eq_false (p := (i : Int) < (l.length : Int)) (by omega)]
      exact .inr ⟨_, rfl, rfl⟩) (n := l.length) (x := 0) ⟨0, rfl, by omega, rfl⟩
  rw [h1, h2]; rfl
theorem sameRows (l : List GRow) (hl : (l.length : Int) < 9223372036854775000) (hr : ∀ r ∈ l, (r.Runes.length : Int) < 9223372036854775000) : f24 l l = some true := by
  unfold f24 f39 f39_j0
  rw [decide_eq_true (rfl : (l.length : Int) = (l.length : Int))]
  obtain ⟨r, h1, h2⟩ := loopO_ind (body := f39_l1 l l) (fun m x => ∃ i : Nat, x = (i : Int) ∧ i ≤ l.length ∧ m = l.length - i) (fun r => r = .inl ()) (by
    rintro m x ⟨i, rfl, hi, rfl⟩
    unfold f39_l1 f39_l1_j2 f39_l1_j3
    by_cases h : i < l.length
    · rw [decide_eq_true (p := (i : Int) < (l.length : Int)) (by omega)]
      have e : f40 l[i] l[i] = some true := by unfold f40; rw [decide_eq_true rfl, eqInts _ (hr _ (List.getElem_mem h))]; rfl
      simp only [cond_true, idx_get l i h, Option.bind_some, e, Bool.not_true, cond_false]
      rw [i64w ((i : Int) + 1) (by omega)]
      exact .inl ⟨_, l.length - (i + 1), rfl, by omega, i + 1, rfl, by omega, rfl⟩
    · rw [decide_eq_false (p := (i : Int) < (l.length : Int)) (by omega)]
      exact .inr ⟨_, rfl, rfl⟩) (n := l.length) (x := 0) ⟨0, rfl, by omega, rfl⟩
  rw [h1, h2]; rfl
theorem sameLines (l : List (List Int)) (hl : (l.length : Int) < 9223372036854775000) (hr : ∀ r ∈ l, (r.length : Int) < 9223372036854775000) : f22 l l = some true := by
  unfold f22 f37 f37_j0
  rw [decide_eq_true (rfl : (l.length : Int) = (l.length : Int))]
  obtain ⟨r, h1, h2⟩ := loopO_ind (body := f37_l1 l l) (fun m x => ∃ i : Nat, x = (i : Int) ∧ i ≤ l.length ∧ m = l.length - i) (fun r => r = .inl ()) (by
    rintro m x ⟨i, rfl, hi, rfl⟩
    unfold f37_l1 f37_l1_j2 f37_l1_j3
    by_cases h : i < l.length
    · rw [decide_eq_true (p := (i : Int) < (l.length : Int)) (by omega)]
      have e : f38 l[i] l[i] = some true := by unfold f38; rw [eqInts _ (hr _ (List.getElem_mem h))]; rfl
      simp only [cond_true, idx_get l i h, Option.bind_some, e, Bool.not_true, cond_false]
      rw [i64w ((i : Int) + 1) (by omega)]
      exact .inl ⟨_, l.length - (i + 1), rfl, by omega, i + 1, rfl, by omega, rfl⟩
    · rw [decide_eq_false (p := (i : Int) < (l.length : Int)) (by omega)]
      exact .inr ⟨_, rfl, rfl⟩) (n := l.length) (x := 0) ⟨0, rfl, by omega, rfl⟩
  rw [h1, h2]; rfl
theorem W_of {n : Int} {L1 L2 : List (Int × Int)} (h0 : ¬ n < 0) (h1 : ¬ 1114111 < n) (e1 : f36 n [(0, 31), (127, 159), (768, 879), (8203, 8207), (55296, 57343), (65024, 65039)] = some false) (e2 : f36 n [(4352, 4447), (11904, 12350), (12353, 19903), (19968, 42191), (44032, 55203), (63744, 64255), (65072, 65135), (65280, 65376), (65504, 65510), (127744, 128591), (129280, 129535), (131072, 262141)] = some false) : W n = 1 := by
  unfold W f18 f18_j0
  rw [decide_eq_false h0, decide_eq_false h1]
  simp only [cond_false, e1, Option.bind_some, e2]; rfl
theorem no36 {n : Int} {L : List (Int × Int)} (h : loopF (f36_l0 n L) 20 0 = some (.inl ())) : f36 n L = some false := by
  unfold f36; rw [loopO_of h]; rfl
theorem W97 : W 97 = 1 := W_of (L1 := []) (L2 := []) (by decide) (by decide) (no36 (by kernel_rfl)) (no36 (by kernel_rfl))
theorem W98 : W 98 = 1 := W_of (L1 := []) (L2 := []) (by decide) (by decide) (no36 (by kernel_rfl)) (no36 (by kernel_rfl))
theorem W99 : W 99 = 1 := W_of (L1 := []) (L2 := []) (by decide) (by decide) (no36 (by kernel_rfl)) (no36 (by kernel_rfl))
theorem flow_lives : f20 = some true := by
  have hf : fitL [[97, 98, 99], []] := ⟨by decide, by decide⟩
  have e0 : flowE [[97, 98, 99], []] 2 = 0 := by decide
  have k1 : cutK 2 0 [97, 98, 99] = 2 := by simp [cutK, W97, W98, W99]
  have k2 : cutK 2 0 [99] = 1 := by simp [cutK, W99]
  have r2 : rowsOf 2 [99] = [GRow.mk [99] false] := by rw [rowsOf, dif_neg (by rw [k2]; simp)]
  have r3 : rowsOf 2 [] = [GRow.mk [] false] := by rw [rowsOf, dif_neg (by simp [cutK])]
  have r1 : rowsOf 2 [97, 98, 99] = [GRow.mk [97, 98] true, GRow.mk [99] false] := by
    rw [rowsOf, dif_pos (by rw [k1]; simp), k1]
    simp [r2]
  have ra : rowsAll 2 [[97, 98, 99], []] = [GRow.mk [97, 98] true, GRow.mk [99] false, GRow.mk [] false] := by
    unfold rowsAll; simp [r1, r3]
  unfold f20
  rw [flow_eq _ _ hf, e0, if_pos rfl, ra]
  simp only [Option.bind_some, decide_true, cond_true]
  rw [sameRows _ (by decide) (by decide)]; rfl
theorem fit_lines (m : Option Nat) (hm : m = none ∨ m = some 1048576) {ls : List (List Int)} (h1 : FitN m ls.length 24) (h2 : ∀ x ∈ ls, FitN m x.length 8) : fitL ls := by
  rcases hm with rfl | rfl
  · have h1 : ls.length * 24 ≤ 140737488351232 := h1
    refine ⟨by omega, fun x hx => ?_⟩
    have : x.length * 8 ≤ 140737488351232 := h2 x hx
    omega
  · have h1 : ls.length ≤ 1048576 := h1
    refine ⟨by omega, fun x hx => ?_⟩
    have : x.length ≤ 1048576 := h2 x hx
    omega
theorem flowBack (ls : List (List Int)) (n : Int) (hf : fitL ls) : f6 ls n = some true := by
  unfold f6
  rw [flow_eq ls n hf]
  simp only [Option.bind_some, flow_lives, Bool.not_true, cond_false]
  by_cases h : flowE ls n = 0
  · rw [decide_eq_true h, if_pos h]
    simp only [Bool.not_true, cond_false]
    unfold f6_j0
    rw [back_eq n ls h]
    simp only [Option.bind_some, decide_true, cond_true]
    rw [sameLines ls hf.1 (fun r hr => by have := hf.2 r hr; omega)]; rfl
  · rw [decide_eq_false h, if_neg h]
    simp only [Bool.not_false, cond_true]
    unfold f6_j1
    rw [flow_lives]; rfl
theorem again_eq (n a : Int) (ls : List (List Int)) (h : flowE ls a = 0) (hf : fitL ls) : f23 (rowsAll a ls) n = some (if flowE ls n = 0 then rowsAll n ls else [], flowE ls n) := by
  unfold f23 f23_j0
  rw [back_eq a ls h]
  simp only [Option.bind_some, decide_true, Bool.not_true, cond_false]
  rw [flow_eq ls n hf]; rfl
theorem again_nil (n : Int) : ∃ x, f23 [] n = some x := by
  unfold f23 f23_j0
  rw [lines_eq [] (by simp) (by simp [lenR]) (by simp)]
  simp only [Option.bind_some, decide_true, Bool.not_true, cond_false]
  rw [flow_eq _ n ⟨by simp [lf], by simp [lf]⟩]
  exact ⟨_, rfl⟩
theorem rowsAll_small (n : Int) (ls : List (List Int)) (h : flowE ls n = 0) : ((rowsAll n ls).length : Int) < 9223372036854775000 ∧ ∀ r ∈ rowsAll n ls, (r.Runes.length : Int) < 9223372036854775000 := by
  have h2 : ls.length ≤ 500 ∧ lenL ls ≤ 4000 := by
    unfold flowE at h
    split at h
    · cases h
    · split at h
      · cases h
      · omega
  have := rowsAll_few n ls h2.1 h2.2
  refine ⟨by omega, fun r hr => ?_⟩
  have hR := lenR_all n ls
  have : r.Runes.length ≤ lenR (rowsAll n ls) := by
    unfold lenR
    generalize rowsAll n ls = rs at hr
    clear hR
    induction rs with
    | nil => cases hr
    | cons a rs ih =>
      simp only [List.map_cons, List.sum_cons]
      rcases List.mem_cons.1 hr with rfl | h
      · omega
      · have := ih h; omega
  omega
theorem flowWays (ls : List (List Int)) (a b : Int) (hf : fitL ls) : f7 ls a b = some true := by
  unfold f7
  rw [flow_eq ls a hf]
  simp only [Option.bind_some]
  unfold f7_j0
  by_cases ha : flowE ls a = 0
  · rw [if_pos ha, again_eq b a ls ha hf]
    simp only [Option.bind_some, flow_lives, Bool.not_true, cond_false]
    rw [decide_eq_true ha]
    by_cases hb : flowE ls b = 0
    · rw [decide_eq_true hb, if_pos hb]
      simp only [Bool.not_true, cond_false]
      unfold f7_j1
      rw [flow_eq ls b hf]
      simp only [Option.bind_some]
      unfold f7_j2
      rw [again_eq a b ls hb hf, again_eq a a ls ha hf, if_pos ha, if_pos hb]
      simp only [Option.bind_some]
      rw [decide_eq_true hb, decide_eq_true ha]
      obtain ⟨s1, s2⟩ := rowsAll_small a ls ha
      obtain ⟨t1, t2⟩ := rowsAll_small b ls hb
      simp only [cond_true, sameRows _ s1 s2, sameRows _ t1 t2, Option.bind_some]
    · rw [decide_eq_false hb]; rfl
  · rw [if_neg ha]
    obtain ⟨x, hx⟩ := again_nil b
    rw [hx]
    simp only [Option.bind_some, flow_lives, Bool.not_true, cond_false]
    rw [decide_eq_false ha]; rfl
theorem FlowBack_walk (v0 v1 : Value) (w : World) (h0 : Arg none Go.Proofs.Try.prog w 34 v0) (h1 : Arg none Go.Proofs.Try.prog w 3 v1) :
    Calls Go.Proofs.Try.prog 6 #[v0, v1] w fun e w' => e = .returned (.bool true) ∧ Below w.heap.size w w' :=
  FlowBack_calls none (fun ls n hl _ => flowBack ls n (fit_lines none (.inl rfl) hl.1 fun x hx => (hl.2 x hx).1)) v0 v1 w h0 h1
theorem FlowWays_walk (v0 v1 v2 : Value) (w : World) (h0 : Arg none Go.Proofs.Try.prog w 34 v0) (h1 : Arg none Go.Proofs.Try.prog w 3 v1) (h2 : Arg none Go.Proofs.Try.prog w 3 v2) :
    Calls Go.Proofs.Try.prog 7 #[v0, v1, v2] w fun e w' => e = .returned (.bool true) ∧ Below w.heap.size w w' :=
  FlowWays_calls none (fun ls a b hl _ _ => flowWays ls a b (fit_lines none (.inl rfl) hl.1 fun x hx => (hl.2 x hx).1)) v0 v1 v2 w h0 h1 h2
end Go.Proofs.Ytepegjihlppkcaa.Pm
