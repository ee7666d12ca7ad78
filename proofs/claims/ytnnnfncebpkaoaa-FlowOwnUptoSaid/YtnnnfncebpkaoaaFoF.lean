/- flow: FlowOwn: the walk and what the machine tells, joined. (r29) -/
import Derived.Test.YtnnnfncebpkaoaaFoE
import Derived.Test.YtnnnfncebpkaoaaFoG
namespace Go.Proofs.Ytnnnfncebpkaoaa.Pm
open Go.Proofs.Ytnnnfncebpkaoaa.Args Go.RowKit Go.Proofs.Ytnnnfncebpkaoaa.Com
open Go.Proofs.Ytnnnfncebpkaoaa.Fo
set_option linter.unusedVariables false
abbrev ic (l : List Int) : List PD := (eInt .i64).cells l
abbrev vi (l : List Int) : List Value := l.map (Value.int .i64)
theorem ic_eq (l : List Int) : ic l = l.map (PD.int .i64) := cells_1 (eInt .i64) (PD.int .i64) (fun _ => rfl) l
theorem il_eq (ls : List (List Int)) : (eSl (eInt .i64)).cells ls = ls.map fun l => PD.sl l.length (ic l) := cells_1 (eSl (eInt .i64)) (fun l => PD.sl l.length (ic l)) (fun _ => rfl) ls
theorem ic_get (l : List Int) (j : Nat) : (ic l)[j]? = l[j]?.map (PD.int .i64) := by rw [ic_eq, List.getElem?_map]
theorem rep_on {E : Nat → Prop} {w W : World} {x : PD} {v : Value} (hB : Below w.heap.size w W) (h : RepD E w x v) : RepD NoX W x v :=
  RepD.keep ⟨hB.size, fun b hb _ => ⟨hB.block b hb, fun h => h.elim⟩⟩ x v h
theorem intl_rep {X : Nat → Prop} {w : World} {R : Ref → Value → Prop} : ∀ (l : List Int) {us : List Value}, RepL X w R ((l.map (PD.int .i64)).map .d) us → us = vi l
  | [], us, h => h
  | c :: cs, us, ⟨v, r, e, h1, h2⟩ => by
    have h1 : v = .int .i64 c := h1
    subst h1; subst e
    rw [intl_rep cs h2]; rfl
theorem own_ci {w w' : World} {φ1 β : Nat → Phys} {r : PV} {v s : Value} {φ0 : Nat → Phys} {l : List Int} {j : Nat} (ho : OutOk (fun _ => False) w w' φ0 [] r [] v φ1 β) (hm : (j, Blk.own 3 1 (ic l)) ∈ ownsAll r [])
    (hr : RefOut φ1 [] β (.own j 3 1 l.length (ic l)) s) : CI w' w.heap.size (vi l) s := by
  have hown := ho.own _ hm
  obtain ⟨_, hlen, hr⟩ := hr
  cases hβ : β j with
  | nil a =>
    simp only [hβ] at hr
    obtain ⟨rfl, hc⟩ := hr
    rw [ic_eq] at hc
    exact .inl ⟨by rw [List.map_eq_nil_iff.1 hc]; rfl, _, rfl⟩
  | blk b c =>
    simp only [hβ] at hr hown
    obtain ⟨rfl, hmc⟩ := hr
    obtain ⟨_, cur, xs, p1, p2, p3, p4, p5, p6, p7⟩ := hown
    rw [ic_eq] at p7
    have hx := intl_rep l p7
    exact .inr ⟨b, _, c, cur, rfl, List.length_map .., hmc, p3, (ho.new j b c hβ).1, p1, by rw [List.length_map, ← hx, ← p6, ic_eq, List.length_map], by omega⟩
theorem ci_fr {W : World} {B : Nat} {l : List Value} {s : Value} (h : CI W B l s) : FrI W B s := by
  rcases h with ⟨_, h⟩ | ⟨b, n, c, cur, h1, h2, h3, h4, h5, h6, h7, h8⟩
  · exact .inl h
  · exact .inr ⟨b, n, c, cur, h1, h5, h6, h8, h3, h4⟩
theorem ci_cur {l : List Int} {cur : Array Value} (h : cur.toList.take (vi l).length = vi l) {j : Nat} (hj : j < l.length) : ∃ z, l[j]? = some z ∧ cur[j]? = some (.int .i64 z) := by
  refine ⟨l[j], List.getElem?_eq_getElem hj, ?_⟩
  have : (vi l)[j]? = some (.int .i64 l[j]) := by rw [List.getElem?_map, List.getElem?_eq_getElem hj]; rfl
  rw [← h, List.getElem?_take, if_pos (by rw [List.length_map]; exact hj)] at this
  simpa using this
theorem ci_el {W : World} {B : Nat} {l : List Int} {s : Value} (h : CI W B (vi l) s) (hl : l.length ≤ 4000) : El W B W.heap.size s := by
  rcases h with ⟨_, h⟩ | ⟨b, n, c, cur, h1, h2, h3, h4, h5, h6, h7, h8⟩
  · exact .inl h
  · rw [List.length_map] at h2
    exact .inr ⟨b, n, c, cur, h1, h5, (Fo.RowAt.lt h6), h6, h8, h3, h4, by omega, fun j hj => by
      obtain ⟨z, _, q⟩ := ci_cur h7 (j := j) (by omega)
      exact ⟨z, q⟩⟩
theorem ci_q {W : World} {B B' : Nat} {l : List Int} {s : Value} (h : CI W B (vi l) s) : Q B' W l.length s := by
  rcases h with ⟨h0, a, rfl⟩ | ⟨b, n, c, cur, rfl, h2, h3, h4, h5, h6, h7, h8⟩
  · rw [List.map_eq_nil_iff] at h0
    subst h0
    exact ⟨a, 0, rfl, Nat.le_refl _, Nat.zero_le _, fun _ => rfl, .inl rfl⟩
  · rw [List.length_map] at h2
    subst h2
    obtain ⟨f, hf, _⟩ := id h6
    refine ⟨_, c, rfl, h3, h4, nofun, .inr ⟨b, 0, rfl, (Fo.RowAt.lt h6), .inr ⟨cur, f, hf⟩, fun j hj => ?_⟩⟩
    obtain ⟨z, _, q⟩ := ci_cur h7 (j := j) hj
    exact ⟨z, by rw [h6.cell, Nat.zero_add, q]⟩
theorem ci_rep {W : World} {B : Nat} {l : List Int} {s : Value} (h : CI W B (vi l) s) : RepD NoX W (.sl l.length (ic l)) s := by
  rcases h with ⟨h0, a, rfl⟩ | ⟨b, n, c, cur, rfl, h2, h3, h4, h5, h6, h7, h8⟩
  · rw [List.map_eq_nil_iff] at h0
    subst h0
    exact ⟨a, 0, rfl, Nat.le_refl _, Nat.zero_le _, fun _ => rfl, .inl rfl⟩
  · rw [List.length_map] at h2
    subst h2
    refine ⟨_, c, rfl, h3, h4, nofun, .inr ⟨b, 0, rfl, fun hx => hx.elim, (Fo.RowAt.lt h6), RepC.of fun j x hj => ?_⟩⟩
    rw [ic_get] at hj
    cases hz : l[j]? with
    | none => rw [hz] at hj; cases hj
    | some z =>
      rw [hz] at hj; cases hj
      obtain ⟨z', e, q⟩ := ci_cur h7 (j := j) (List.getElem?_eq_some_iff.1 hz).1
      rw [hz] at e; cases e
      exact ⟨_, by rw [Nat.zero_add, h6.cell, q], rfl⟩
theorem pick_list {P : Nat → Int → Prop} : ∀ n, (∀ j, j < n → ∃ z, P j z) → ∃ l : List Int, l.length = n ∧ ∀ (j : Nat) z, l[j]? = some z → P j z
  | 0, _ => ⟨[], rfl, fun j z h => by simp at h⟩
  | n + 1, h => by
    obtain ⟨l, hl, hp⟩ := pick_list n fun j hj => h j (by omega)
    obtain ⟨z, hz⟩ := h n (by omega)
    refine ⟨l ++ [z], by simp [hl], fun j y hy => ?_⟩
    rw [List.getElem?_append] at hy
    split at hy
    · exact hp j y hy
    · have := (List.getElem?_eq_some_iff.1 hy).1
      have e : j = n := by simp at this; omega
      subst e
      rw [hl, Nat.sub_self] at hy
      cases hy; exact hz
/-- A slice of numbers is data. -/
theorem q_rep {B : Nat} {W : World} {n : Nat} {v : Value} (h : Q B W n v) : ∃ l : List Int, l.length = n ∧ RepD NoX W (.sl l.length (ic l)) v := by
  obtain ⟨a, c, rfl, h1, h2, h3, h4⟩ := h
  rcases h4 with rfl | ⟨b, o, rfl, hb, _, hz⟩
  · exact ⟨[], rfl, a, c, rfl, h1, h2, h3, .inl rfl⟩
  · obtain ⟨l, hl, hp⟩ := pick_list n hz
    subst hl
    refine ⟨l, rfl, _, c, rfl, h1, h2, nofun, .inr ⟨b, o, rfl, fun hx => hx.elim, hb, RepC.of fun j x hj => ?_⟩⟩
    rw [ic_get] at hj
    cases hz : l[j]? with
    | none => rw [hz] at hj; cases hj
    | some z =>
      rw [hz] at hj; cases hj
      exact ⟨_, hp j z hz, rfl⟩
theorem rep_q {W : World} {l : List Int} {v : Value} (h : RepD NoX W (.sl l.length (ic l)) v) : Q W.heap.size W l.length v := by
  obtain ⟨a, c, rfl, h1, h2, h3, h4⟩ := h
  refine ⟨a, c, rfl, h1, h2, h3, ?_⟩
  rcases h4 with h4 | ⟨b, o, rfl, _, hb, hc⟩
  · rw [ic_eq] at h4
    exact .inl (by rw [List.map_eq_nil_iff.1 h4]; rfl)
  · refine .inr ⟨b, o, rfl, hb, .inl hb, fun j hj => ?_⟩
    obtain ⟨v, q1, q2⟩ := hc.get j (.int .i64 l[j]) (by rw [ic_get, List.getElem?_eq_getElem hj]; rfl)
    exact ⟨_, by rw [q1]; exact congrArg some q2⟩
theorem told_clone {l : List Int} (h : l.length * 8 ≤ 140737488355328) {W : World} {v : Value} (hv : RepD NoX W (.sl l.length (ic l)) v) :
    Calls Go.Proofs.Try.prog 9 #[v] W fun e W' => ∃ s, e = .returned s ∧ Below W.heap.size W W' ∧ CI W' W.heap.size (vi l) s := by
  have hc : f9 l = some l := by
    unfold f9
    have e : app? 8 ([] : List Int) l = some l := by unfold app?; rw [if_pos (by simp; omega)]; rfl
    rw [e]; rfl
  refine (lev_calls (base0_snd _) codes_ok (f9_ok base0 9 (by decide) l l hc) (vs := [v]) ⟨_, _, rfl, hv, rfl⟩).mono ?_
  rintro e w' ⟨v', φ1, β, rfl, hbl, ho⟩
  exact ⟨v', rfl, hbl, own_ci ho (by show _ ∈ [(0, Blk.own 3 1 (ic l))]; simp) ho.rep⟩
theorem told_cut {l : List Int} (n : Int) (hn : 0 ≤ n ∧ n ≤ 160) (hl : l.length * 8 ≤ 140737488351232) {W : World} {v : Value} (hv : RepD NoX W (.sl l.length (ic l)) v) :
    Calls Go.Proofs.Try.prog 14 #[v, .int .i64 n] W fun e W' => ∃ s1 s2, e = .returned (.tuple #[s1, s2, .int .i64 0]) ∧ Below W.heap.size W W' ∧ CI W' W.heap.size (vi (l.take (cutK n 0 l))) s1 ∧ CI W' W.heap.size (vi (l.drop (cutK n 0 l))) s2 := by
  refine (lev_calls (base0_snd _) codes_ok (f14_ok base0 9 (by decide) l n _ (Cut_eq l n hn hl)) (vs := [v, _]) ⟨_, _, rfl, hv, ⟨_, _, rfl, rfl, rfl⟩⟩).mono ?_
  rintro e w' ⟨v', φ1, β, rfl, hbl, ho⟩
  generalize l.take (cutK n 0 l) = l1 at ho ⊢
  generalize l.drop (cutK n 0 l) = l2 at ho ⊢
  have hr : RepV _ w' (RefOut φ1 [] β) (.tup [.r (.own 0 3 1 l1.length (ic l1)), .r (.own 1 3 1 l2.length (ic l2)), .d (.int .i64 0)]) v' := ho.rep
  obtain ⟨⟨l3⟩, rfl, v1, r1, e1, hv1, v2, r2, e2, hv2, v3, r3, e3, hv3, hr3⟩ := hr
  have hv3 : v3 = .int .i64 0 := hv3
  have hr3 : r3 = [] := hr3
  have e1 : l3 = v1 :: r1 := e1
  subst hr3 e3 e2 e1 hv3
  exact ⟨v1, v2, rfl, hbl, own_ci ho (by show _ ∈ [(0, Blk.own 3 1 (ic l1)), (1, Blk.own 3 1 (ic l2))]; simp) hv1, own_ci ho (by show _ ∈ [(0, Blk.own 3 1 (ic l1)), (1, Blk.own 3 1 (ic l2))]; simp) hv2⟩
theorem rows_at : ∀ (rs : List GRow) (i : Nat) (r : GRow), rs[i]? = some r → (e_GRow.cells rs)[i * 2]? = some (.sl r.Runes.length (ic r.Runes)) ∧ (e_GRow.cells rs)[i * 2 + 1]? = some (.bool r.Soft)
  | [], i, r, h => by simp at h
  | x :: xs, 0, r, h => by
    simp at h; subst h
    exact ⟨rfl, rfl⟩
  | x :: xs, i + 1, r, h => by
    have e : e_GRow.cells (x :: xs) = .sl x.Runes.length (ic x.Runes) :: .bool x.Soft :: e_GRow.cells xs := rfl
    have h' : xs[i]? = some r := by simpa using h
    rw [e, show (i + 1) * 2 = (i * 2 + 1) + 1 from by omega]
    exact rows_at xs i r h'
theorem rows_of : ∀ (rs : List GRow) (j : Nat) (x : PD), (e_GRow.cells rs)[j]? = some x → ∃ i r, rs[i]? = some r ∧ ((j = i * 2 ∧ x = .sl r.Runes.length (ic r.Runes)) ∨ (j = i * 2 + 1 ∧ x = .bool r.Soft))
  | [], j, x, h => by
    have e : e_GRow.cells ([] : List GRow) = [] := rfl
    rw [e] at h; simp at h
  | y :: ys, 0, x, h => by
    have e : e_GRow.cells (y :: ys) = .sl y.Runes.length (ic y.Runes) :: .bool y.Soft :: e_GRow.cells ys := rfl
    rw [e] at h; simp at h; subst h
    exact ⟨0, y, rfl, .inl ⟨rfl, rfl⟩⟩
  | y :: ys, 1, x, h => by
    have e : e_GRow.cells (y :: ys) = .sl y.Runes.length (ic y.Runes) :: .bool y.Soft :: e_GRow.cells ys := rfl
    rw [e] at h; simp at h; subst h
    exact ⟨0, y, rfl, .inr ⟨rfl, rfl⟩⟩
  | y :: ys, j + 2, x, h => by
    have e : e_GRow.cells (y :: ys) = .sl y.Runes.length (ic y.Runes) :: .bool y.Soft :: e_GRow.cells ys := rfl
    rw [e] at h
    obtain ⟨i, r, h1, h2⟩ := rows_of ys j x (by simpa using h)
    exact ⟨i + 1, r, by simpa using h1, h2.imp (fun ⟨a, b⟩ => ⟨by omega, b⟩) fun ⟨a, b⟩ => ⟨by omega, b⟩⟩
theorem own_cell {W : World} {e m : Nat} {xs : List Value} {g : Nat} {cur : Array Value} (q2 : W.heap[g]? = some (.cells cur e (0, 0))) (q6 : cur.toList.take m = xs) {j : Nat} {u : Value} (hu : xs[j]? = some u) : W.cell? ⟨g, 0 + j, none⟩ = some u := by
  rw [Nat.zero_add, cell_of_row _ _ _ _ _ _ q2]
  rw [← q6, List.getElem?_take] at hu
  split at hu
  · simpa using hu
  · cases hu
theorem ax_rep {W : World} {B : Nat} {v : Value} {ls : List (List Int)} {xs : List Value} (h : AX W B v ls.length (ls.map vi) xs) : RepD NoX W (.sl ls.length ((eSl (eInt .i64)).cells ls)) v := by
  have hl := h.1.1
  rcases h.1.2 with ⟨rfl, h0⟩ | ⟨g, cap, cur, rfl, q1, q2, q3, q4, q5, q6⟩
  · have : ls = [] := List.eq_nil_of_length_eq_zero h0
    subst this
    exact ⟨none, 0, rfl, Nat.le_refl _, Nat.zero_le _, fun _ => rfl, .inl rfl⟩
  · refine ⟨_, cap, rfl, q3, q4, nofun, .inr ⟨g, 0, rfl, fun hx => hx.elim, (Array.getElem?_eq_some_iff.1 q2).1, RepC.of fun j x hj => ?_⟩⟩
    rw [il_eq, List.getElem?_map] at hj
    cases hz : ls[j]? with
    | none => rw [hz] at hj; cases hj
    | some l =>
      rw [hz] at hj; cases hj
      have hjl := (List.getElem?_eq_some_iff.1 hz).1
      obtain ⟨u, hu⟩ : ∃ u, xs[j]? = some u := ⟨_, List.getElem?_eq_getElem (by omega)⟩
      obtain ⟨l', e1, e2⟩ := h.2.2 j u hu
      rw [List.getElem?_map, hz] at e1
      cases e1
      exact ⟨u, own_cell q2 q6 hu, ci_rep e2⟩
theorem bx_rep {W : World} {B : Nat} {v : Value} {rs : List GRow} {xs : List Value} (h : BX W B v rs.length (rs.map fun r => (vi r.Runes, r.Soft)) xs) : RepD NoX W (.sl rs.length (e_GRow.cells rs)) v := by
  have hl := h.1.1
  rcases h.1.2 with ⟨rfl, h0⟩ | ⟨g, cap, cur, rfl, q1, q2, q3, q4, q5, q6⟩
  · have : rs = [] := List.eq_nil_of_length_eq_zero h0
    subst this
    exact ⟨none, 0, rfl, Nat.le_refl _, Nat.zero_le _, fun _ => rfl, .inl rfl⟩
  · refine ⟨_, cap, rfl, q3, q4, nofun, .inr ⟨g, 0, rfl, fun hx => hx.elim, (Array.getElem?_eq_some_iff.1 q2).1, RepC.of fun j x hj => ?_⟩⟩
    obtain ⟨i, r, hr, h2⟩ := rows_of rs j x hj
    obtain ⟨u, u1, u2, u3⟩ := h.2.2 i (vi r.Runes, r.Soft) (by rw [List.getElem?_map, hr]; rfl)
    rcases h2 with ⟨rfl, rfl⟩ | ⟨rfl, rfl⟩
    · exact ⟨u, own_cell q2 q6 u1, ci_rep u3⟩
    · exact ⟨_, own_cell q2 q6 u2, rfl⟩
/-- What width.Cut tells, of any slice of numbers. -/
theorem cut_tells (wide : Int) (B : Nat) (W : World) (l : Nat) (v : Value) (hq : Q B W l v) (hl : l ≤ 1048576) (h2 : 2 ≤ wide) (h160 : wide ≤ 160) : Calls Go.Proofs.Try.prog 14 #[v, .int .i64 wide] W fun e W' => ∃ s1 s2 l2, e = .returned (.tuple #[s1, s2, .int .i64 0]) ∧ Below W.heap.size W W' ∧ FrI W' W.heap.size s1 ∧ Q B W' l2 s2 ∧ (l2 = 0 ∨ l2 < l) := by
  obtain ⟨xs, rfl, hr⟩ := q_rep hq
  refine (told_cut wide ⟨by omega, h160⟩ (by omega) hr).mono ?_
  rintro e W' ⟨s1, s2, rfl, h1, h3, h4⟩
  refine ⟨s1, s2, _, rfl, h1, ci_fr h3, ci_q h4, ?_⟩
  rw [List.length_drop]
  by_cases e : xs = []
  · subst e; exact .inl rfl
  · have := cutK_pos wide h2 xs e
    have := List.length_pos_iff.2 e
    exact .inr (by omega)
theorem clone_tells (w W : World) (T l : Nat) (v : Value) (hq : Q T W l v) (hl : l ≤ 4000) : Calls Go.Proofs.Try.prog 9 #[v] W fun e W' => ∃ s, e = .returned s ∧ Below W.heap.size W W' ∧ El W' W.heap.size W'.heap.size s := by
  obtain ⟨xs, rfl, hr⟩ := q_rep hq
  refine (told_clone (by omega) hr).mono ?_
  rintro e W' ⟨s, rfl, h1, h2⟩
  exact ⟨s, rfl, h1, ci_el h2 hl⟩
/-- The lines that came in, as the walks want them. -/
theorem lines_in {W : World} {ls : List (List Int)} (hs : ∀ l ∈ ls, l.length ≤ 1048576) {la : Option Addr} {c : Nat} (h : RepD NoX W (.sl ls.length ((eSl (eInt .i64)).cells ls)) (.slice la ls.length c)) :
    ∀ (i : Nat) l, ls[i]? = some l → ∃ b o v, la = some ⟨b, o, none⟩ ∧ b < W.heap.size ∧ W.cell? ⟨b, o + i, none⟩ = some v ∧ l.length ≤ 1048576 ∧ RepD NoX W (.sl l.length (ic l)) v := by
  intro i l hl
  obtain ⟨a, c', e, _, _, _, h4⟩ := h
  cases e
  rcases h4 with h4 | ⟨b, o, rfl, _, hb, hc⟩
  · rw [il_eq, List.map_eq_nil_iff] at h4
    subst h4; simp at hl
  · obtain ⟨v, q1, q2⟩ := hc.get i (.sl l.length (ic l)) (by rw [il_eq, List.getElem?_map, hl]; rfl)
    exact ⟨b, o, v, rfl, hb, q1, hs l (List.mem_of_getElem? hl), q2⟩
theorem rows_in {W : World} {rs : List GRow} (hs : ∀ r ∈ rs, r.Runes.length ≤ 1048576) {la : Option Addr} {c : Nat} (h : RepD NoX W (.sl rs.length (e_GRow.cells rs)) (.slice la rs.length c)) :
    ∀ (i : Nat) r, rs[i]? = some r → ∃ b o v, la = some ⟨b, o, none⟩ ∧ b < W.heap.size ∧ W.cell? ⟨b, o + i * 2, none⟩ = some v ∧ W.cell? ⟨b, o + i * 2 + 1, none⟩ = some (.bool r.Soft) ∧ r.Runes.length ≤ 1048576 ∧ RepD NoX W (.sl r.Runes.length (ic r.Runes)) v := by
  intro i r hr
  obtain ⟨a, c', e, _, _, _, h4⟩ := h
  cases e
  obtain ⟨p1, p2⟩ := rows_at rs i r hr
  rcases h4 with h4 | ⟨b, o, rfl, _, hb, hc⟩
  · rw [h4] at p1; simp at p1
  · obtain ⟨v, q1, q2⟩ := hc.get _ _ p1
    obtain ⟨v2, q3, q4⟩ := hc.get _ _ p2
    have q4 : v2 = .bool r.Soft := q4
    subst q4
    exact ⟨b, o, v, rfl, hb, q1, q3, hs r (List.mem_of_getElem? hr), q2⟩
theorem rep_sl {W : World} {n : Nat} {cs : List PD} {v : Value} (h : RepD NoX W (.sl n cs) v) : ∃ a c, v = .slice a n c := by
  obtain ⟨a, c, h, _⟩ := h; exact ⟨a, c, h⟩
set_option maxHeartbeats 4000000 in
theorem FlowOwn_walk (v0 v1 v2 : Value) (w : World) (h0 : Arg (some 1048576) Go.Proofs.Try.prog w 22 v0) (h1 : Arg (some 1048576) Go.Proofs.Try.prog w 23 v1) (h2 : Arg (some 1048576) Go.Proofs.Try.prog w 3 v2) : Calls Go.Proofs.Try.prog 4 #[v0, v1, v2] w fun e w' => e = .returned (.bool true) ∧ Below w.heap.size w w' := by
  obtain ⟨v0', rfl, g0, _⟩ := h0.slice rfl
  obtain ⟨x0, y0, r0⟩ := (opn_sl (P := Go.Proofs.Try.prog) (t := 22) (e := 32) rfl rfl (opn_sl (P := Go.Proofs.Try.prog) (t := 32) (e := 3) rfl rfl (opn_int (P := Go.Proofs.Try.prog) (t := 3) (k := .i64) rfl rfl) (Nat.le_of_ble_eq_true rfl)) (Nat.le_of_ble_eq_true rfl)).op (some 1048576) w _ g0
  obtain ⟨u0, _, e0, r0, q0⟩ := r0
  cases q0; cases e0
  obtain ⟨v1', rfl, g1, _⟩ := h1.slice rfl
  obtain ⟨x1, y1, r1⟩ := (opn_sl (P := Go.Proofs.Try.prog) (t := 23) (e := 35) rfl rfl opn35 (Nat.le_of_ble_eq_true rfl)).op (some 1048576) w _ g1
  obtain ⟨u1, _, e1, r1, q1⟩ := r1
  cases q1; cases e1
  obtain ⟨wide, rfl, _⟩ := h2.int rfl
  have hn : x0.length ≤ 1048576 := y0.1
  have hls : ∀ l ∈ x0, l.length ≤ 1048576 := fun l hl => (y0.2 l hl).1
  have hrn : x1.length ≤ 1048576 := y1.1
  have hrs : ∀ r ∈ x1, r.Runes.length ≤ 1048576 := fun r hr => (y1.2 r hr).1.1
  have r0 : RepD NoX w (.sl x0.length ((eSl (eInt .i64)).cells x0)) _ := r0
  have r1 : RepD NoX w (.sl x1.length (e_GRow.cells x1)) _ := r1
  obtain ⟨la, lc, e0⟩ := rep_sl r0
  obtain ⟨ra, rc, e1⟩ := rep_sl r1
  rw [e0] at r0 ⊢
  rw [e1] at r1 ⊢
  have hL := fun W (hW : Below w.heap.size w W) => lines_in hls (rep_on hW r0)
  have hR := fun W (hW : Below w.heap.size w W) => rows_in hrs (rep_on hW r1)
  have hln : ∀ i, i < x1.length → ((fun i => (x1[i]?.map fun r => r.Runes.length).getD 0) i) = (x1[i]?.map fun r => r.Runes.length).getD 0 := fun _ _ => rfl
  have hRq : ∀ W, Below w.heap.size w W → ∀ i, i < x1.length → ∃ b o v s, ra = some ⟨b, o, none⟩ ∧ b < W.heap.size ∧ W.cell? ⟨b, o + i * 2, none⟩ = some v ∧ W.cell? ⟨b, o + i * 2 + 1, none⟩ = some (.bool s) ∧ (x1[i]?.map fun r => r.Runes.length).getD 0 ≤ 1048576 ∧ Q W.heap.size W ((x1[i]?.map fun r => r.Runes.length).getD 0) v := by
    intro W hW i hi
    obtain ⟨b, o, v, p1, p2, p3, p4, p5, p6⟩ := hR W hW i x1[i] (List.getElem?_eq_getElem hi)
    rw [List.getElem?_eq_getElem hi]
    exact ⟨b, o, v, _, p1, p2, p3, p4, p5, rep_q p6⟩
  refine own_walk w la ra x0.length lc x1.length rc wide (x0.map vi) (x1.map fun r => (vi r.Runes, r.Soft)) hn hrn (List.length_map ..) (List.length_map ..) ?_ ?_ ?_ ?_ ?_ ?_ ?_ ?_
  · intro i l hl
    rw [List.getElem?_map] at hl
    cases hz : x0[i]? with
    | none => rw [hz] at hl; cases hl
    | some l' =>
      rw [hz] at hl; cases hl
      obtain ⟨b, o, v, p1, p2, p3, p4, p5⟩ := hL w (.refl _ _) i l' hz
      obtain ⟨a, c, rfl⟩ := rep_sl p5
      exact ⟨b, o, a, _, c, p1, p2, p3, fun W hW => told_clone (by omega) (rep_on hW p5)⟩
  · intro i r hr
    rw [List.getElem?_map] at hr
    cases hz : x1[i]? with
    | none => rw [hz] at hr; cases hr
    | some r' =>
      rw [hz] at hr; cases hr
      obtain ⟨b, o, v, p1, p2, p3, p4, p5, p6⟩ := hR w (.refl _ _) i r' hz
      obtain ⟨a, c, rfl⟩ := rep_sl p6
      exact ⟨b, o, a, _, c, p1, p2, p3, p4, fun W hW => told_clone (by omega) (rep_on hW p6)⟩
  · intro W hW
    refine flow_walk W la _ lc wide hn (fun i hi => ?_) (fun W2 l v _ hq => cut_tells wide _ W2 l v hq)
    obtain ⟨b, o, v, p1, p2, p3, p4, p5⟩ := hL W hW i x0[i] (List.getElem?_eq_getElem hi)
    exact ⟨b, o, v, _, p1, p2, p3, p4, rep_q p5⟩
  · intro W hW
    exact lines_walk W ra _ rc (fun i => (x1[i]?.map fun r => r.Runes.length).getD 0) hrn (hRq W hW) fun W2 T l v _ hq hl => clone_tells W W2 T l v hq hl
  · intro W hW
    exact again_walk W ra _ rc wide (fun i => (x1[i]?.map fun r => r.Runes.length).getD 0) hrn (hRq W hW) (fun W2 T l v _ hq hl => clone_tells W W2 T l v hq hl) fun B W2 l v hq => cut_tells wide B W2 l v hq
  · intro W v xs hW hv
    exact law_calls (base0_snd _) codes_ok (f8_ok base0 9 (by decide) x0 x0 true (sameLines x0 (by omega) fun r hr => by have := hls r hr; omega)) (vs := [_, _]) ⟨_, _, rfl, rep_on hW r0, ⟨_, _, rfl, ax_rep hv, rfl⟩⟩
  · intro W v xs hW hv
    exact law_calls (base0_snd _) codes_ok (f11_ok base0 9 (by decide) x1 x1 true (sameRows x1 (by omega) fun r hr => by have := hrs r hr; omega)) (vs := [_, _]) ⟨_, _, rfl, rep_on hW r1, ⟨_, _, rfl, bx_rep hv, rfl⟩⟩
  · intro W
    exact law_calls (base0_snd _) codes_ok (f6_ok base0 9 (by decide) true flow_lives) rfl
end Go.Proofs.Ytnnnfncebpkaoaa.Pm
