/- Pen: numbers in two goes do what they do at once. -/
import Derived.Test.YtphbfciikjkkfaaPenR
namespace Go.Proofs.Ytphbfciikjkkfaa.Pm
open Go.Proofs.Ytphbfciikjkkfaa.Args
open Go.ChangeShapes Go.WideShapes Go.ChangeAt Go.RowKit
set_option linter.unusedVariables false
set_option linter.unusedSimpArgs false
set_option maxRecDepth 100000
/-- What a round does, by the numbers that are left: a pen and how many are gone, or the end. -/
noncomputable def rs (p : GPen) : List Int → Option (GPen × Nat)
  | [] => none
  | x :: t => if x ≠ 38 ∧ x ≠ 48 then some ((f52 x p).getD p, 1) else match f53 t with
    | some (c, n) => if n = 0 then none else some (if x = 38 then GPen.mk p.Flags c p.Back else GPen.mk p.Flags p.Fore c, n.toNat + 1)
    | none => none
theorem rs_cons (p : GPen) (x : Int) (t : List Int) : rs p (x :: t) = if x ≠ 38 ∧ x ≠ 48 then some ((f52 x p).getD p, 1) else match f53 t with
    | some (c, n) => if n = 0 then none else some (if x = 38 then GPen.mk p.Flags c p.Back else GPen.mk p.Flags p.Fore c, n.toNat + 1)
    | none => none := rfl
theorem round_eq (a1 : GPen) (a2 : List Int) (p : GPen) (l : List Int) (i : Nat) (h : ∀ x ∈ l, argP x) (hl : l.length ≤ 1000) (hi : i ≤ l.length) :
    f32_l4 a1 a2 (p, l, (i : Int)) = some (match rs p (l.drop i) with | some (q, k) => .inl (q, l, ((i + k : Nat) : Int)) | none => .inr p) ∧ ∀ q k, rs p (l.drop i) = some (q, k) → 0 < k ∧ i + k ≤ l.length := by
  by_cases hlt : i < l.length
  rotate_left
  · have : i = l.length := by omega
    subst this
    rw [List.drop_length]
    exact ⟨end_ok a1 a2 p l, fun q k hk => by cases hk⟩
  have hdrop : l.drop i = l[i] :: l.drop (i + 1) := List.drop_eq_getElem_cons hlt
  have hin : inR (i : Int) l.length = some i := by unfold inR; rw [if_pos (by omega)]; simp
  have hg : l[i]? = some l[i] := by simp [hlt]
  have hw : IntKind.i64.wrap ((i : Int) + 1) = ((i + 1 : Nat) : Int) := by rw [i64w _ (by omega)]; rfl
  have hargs : ∀ x ∈ l.drop (i + 1), argP x := fun x hx => h x (List.mem_of_mem_drop hx)
  have hc : chk (decide (0 ≤ ((i + 1 : Nat) : Int)) && decide (((i + 1 : Nat) : Int) ≤ (l.length : Int)) && decide ((l.length : Int) ≤ (l.length : Int))) = some () := by
    unfold chk; rw [if_pos]; simp only [Bool.and_eq_true, decide_eq_true_eq]; omega
  have hp : part? l ((((i + 1 : Nat) : Int) : Int).toNat) (((l.length : Int) : Int).toNat - (((i + 1 : Nat) : Int) : Int).toNat) = some (l.drop (i + 1)) := by
    simp only [Int.toNat_natCast]
    unfold part?; rw [if_pos (by omega)]
    rw [List.take_of_length_le (by simp)]
  obtain ⟨c, n, e1, e2⟩ := ext_ok (l.drop (i + 1)) hargs (by simp; omega)
  rw [hdrop]
  unfold f32_l4
  rw [decide_eq_true (p := (p, l, (i : Int)).2.2 < (((p, l, (i : Int)).2.1.length : Nat) : Int)) (by show (i : Int) < (l.length : Int); omega)]
  simp only [cond_true]
  unfold f32_l4_j5
  simp only [hin, hg, Option.bind_some, hw, hc, hp, e1, rs_cons]
  by_cases h38 : l[i] = 38
  · rw [decide_eq_true h38, if_neg (show ¬ (l[i] ≠ 38 ∧ l[i] ≠ 48) from fun hh => hh.1 h38)]
    simp only [Bool.not_true, cond_false, e1, cond_true]
    rcases e2 with rfl | ⟨hn, hn2, hcol⟩
    · exact ⟨rfl, fun q k hk => by simp at hk⟩
    · simp at hn2
      have hne : n ≠ 0 := by omega
      have hj : IntKind.i64.wrap (IntKind.i64.wrap ((i : Int) + n) + 1) = (((i + (n.toNat + 1) : Nat)) : Int) := by
        rw [i64w ((i : Int) + n) (by omega), i64w ((i : Int) + n + 1) (by omega)]; omega
      simp only [decide_eq_false hne, cond_false, if_neg hne, hj, if_pos h38]
      exact ⟨trivial, fun q k hk => by cases hk; omega⟩
  · rw [decide_eq_false h38]
    simp only [Bool.not_false, cond_true]
    by_cases h48 : l[i] = 48
    · rw [decide_eq_true h48, if_neg (show ¬ (l[i] ≠ 38 ∧ l[i] ≠ 48) from fun hh => hh.2 h48)]
      simp only [Bool.not_true, cond_false, e1]
      rcases e2 with rfl | ⟨hn, hn2, hcol⟩
      · exact ⟨rfl, fun q k hk => by simp at hk⟩
      · simp at hn2
        have hne : n ≠ 0 := by omega
        have hj : IntKind.i64.wrap (IntKind.i64.wrap ((i : Int) + n) + 1) = (((i + (n.toNat + 1) : Nat)) : Int) := by
          rw [i64w ((i : Int) + n) (by omega), i64w ((i : Int) + n + 1) (by omega)]; omega
        simp only [decide_eq_false hne, cond_false, if_neg hne, hj, if_neg h38]
        exact ⟨trivial, fun q k hk => by cases hk; omega⟩
    · rw [decide_eq_false h48, if_pos ⟨h38, h48⟩]
      simp only [Bool.not_false, cond_true]
      obtain ⟨q, hq, hok, hz⟩ := one_ok l[i] p (h _ (List.getElem_mem hlt))
      rw [hq, Option.bind_some]
      exact ⟨rfl, fun q k hk => by cases hk; omega⟩
/-- It is no matter what lies ahead. -/
theorem shift (a1 b1 : GPen) (a2 b2 l l' : List Int) (h : ∀ x ∈ l, argP x) (h' : ∀ x ∈ l', argP x) (hl : l.length ≤ 1000) (hl' : l'.length ≤ 1000) : ∀ (n i i' : Nat) (p : GPen), i ≤ l.length → i' ≤ l'.length → l.drop i = l'.drop i' → l.length - i = n →
    ∃ q, loopO (f32_l4 a1 a2) (p, l, (i : Int)) = some q ∧ loopO (f32_l4 b1 b2) (p, l', (i' : Int)) = some q := by
  intro n
  induction n using Nat.strongRecOn with
  | ind n ih =>
    intro i i' p hi hi' hd hn
    have hlen : l.length - i = l'.length - i' := by have := congrArg List.length hd; simpa using this
    obtain ⟨e1, k1⟩ := round_eq a1 a2 p l i h hl hi
    obtain ⟨e2, k2⟩ := round_eq b1 b2 p l' i' h' hl' hi'
    rw [hd] at e1 k1
    cases hr : rs p (l'.drop i') with
    | none =>
      rw [hr] at e1 e2
      exact ⟨p, loopO_done e1, loopO_done e2⟩
    | some x =>
      obtain ⟨q, k⟩ := x
      rw [hr] at e1 e2
      obtain ⟨k0, kl⟩ := k1 q k hr
      obtain ⟨_, kl'⟩ := k2 q k hr
      obtain ⟨r, r1, r2⟩ := ih (l.length - (i + k)) (by omega) (i + k) (i' + k) q kl kl' (by rw [← List.drop_drop, ← List.drop_drop, hd]) rfl
      exact ⟨r, loopO_next e1 r1, loopO_next e2 r2⟩
/-- Numbers that ask for nothing behind them, one by one. -/
theorem ahead (a1 b1 : GPen) (a2 b2 a c : List Int) (h : ∀ x ∈ a ++ c, argP x) (hl : (a ++ c).length ≤ 1000) (h38 : ∀ x ∈ a, x ≠ 38 ∧ x ≠ 48) : ∀ (n i : Nat) (p : GPen), i ≤ a.length → a.length - i = n →
    ∃ x q, loopO (f32_l4 a1 a2) (p, a, (i : Int)) = some x ∧ loopO (f32_l4 b1 b2) (p, a ++ c, (i : Int)) = some q ∧ loopO (f32_l4 b1 b2) (x, a ++ c, (a.length : Int)) = some q := by
  have hla : a.length ≤ 1000 := by rw [List.length_append] at hl; omega
  have ha : ∀ x ∈ a, argP x := fun x hx => h x (List.mem_append_left _ hx)
  intro n
  induction n with
  | zero =>
    intro i p hi hn
    have : i = a.length := by omega
    subst this
    obtain ⟨q, hq, _⟩ := run_ok b1 b2 (a ++ c) h hl p a.length (by simp)
    exact ⟨p, q, loopO_done (end_ok a1 a2 p a), hq, hq⟩
  | succ n ih =>
    intro i p hi hn
    have hlt : i < a.length := by omega
    have hlt2 : i < (a ++ c).length := by rw [List.length_append]; omega
    have hx := h38 a[i] (List.getElem_mem hlt)
    obtain ⟨e1, _⟩ := round_eq a1 a2 p a i ha hla hi
    obtain ⟨e2, _⟩ := round_eq b1 b2 p (a ++ c) i h hl (by omega)
    have d1 : a.drop i = a[i] :: a.drop (i + 1) := List.drop_eq_getElem_cons hlt
    have d2 : (a ++ c).drop i = a[i] :: (a ++ c).drop (i + 1) := by rw [List.drop_eq_getElem_cons hlt2, List.getElem_append_left hlt]
    rw [d1] at e1
    rw [d2] at e2
    have r1 : ∀ t, rs p (a[i] :: t) = some ((f52 a[i] p).getD p, 1) := fun t => by rw [rs_cons, if_pos hx]
    rw [r1] at e1 e2
    obtain ⟨x, q, g1, g2, g3⟩ := ih (i + 1) ((f52 a[i] p).getD p) (by omega) (by omega)
    exact ⟨x, q, loopO_next e1 g1, loopO_next e2 g2, g3⟩
theorem contains_ok (l : List Int) (v : Int) (hl : (l.length : Int) < 9223372036854775807) : f35 l v = some (decide (v ∈ l)) := by
  unfold f35 f55
  obtain ⟨r, h1, h2⟩ := search (body := f55_l0 l v) (q := fun n => decide (v = n)) hl (fun i h => by
    unfold f55_l0 f55_l0_j1 f55_l0_j2
    rw [decide_eq_true (p := (i : Int) < (l.length : Int)) (by omega)]
    simp only [cond_true, idx_get l i h, Option.bind_some]
    generalize decide (v = l[i]) = b
    cases b <;> rfl) (by
    unfold f55_l0 f55_l0_j1
    simp only [Bool.cond_decide]
    rw [if_neg (by omega)]; rfl)
  have hv : (l.any fun n => decide (v = n)) = decide (v ∈ l) := by
    by_cases h : v ∈ l
    · rw [decide_eq_true h]; exact List.any_eq_true.2 ⟨v, h, by simp⟩
    · rw [decide_eq_false h, List.any_eq_false]; intro x hx; simp; rintro rfl; exact h hx
  rw [h1, ← hv]
  simp only [Option.bind_some]
  cases r with
  | inl u =>
    have : ¬ (l.any fun n => decide (v = n)) = true := fun h => by
      obtain ⟨i, _, hi⟩ := h2.2 h
      cases hi
    have e : (l.any fun n => decide (v = n)) = false := Bool.eq_false_iff.2 this
    rw [e]; rfl
  | inr i =>
    have hn : (l.any fun n => decide (v = n)) = true ↔ 0 ≤ i := by
      rw [← h2]; exact ⟨fun ⟨j, hj, e⟩ => by cases e; exact hj, fun h => ⟨i, h, rfl⟩⟩
    simp only [Sum.elim_inr, Option.bind_some, Bool.cond_decide]
    by_cases h : 0 ≤ i
    · rw [if_pos h, hn.2 h]
    · rw [if_neg h]
      have : (l.any fun n => decide (v = n)) = false := Bool.eq_false_iff.2 fun hh => h (hn.1 hh)
      rw [this]
theorem maxL_app (a b : List Int) : maxL (a ++ b) = maxL a ++ maxL b := by unfold maxL; rw [List.map_append]
theorem penJoins (p : GPen) (a b : List Int) (ha : a.length ≤ 1048576) (hb : b.length ≤ 1048576) : f13 p a b = some true := by
  unfold f13
  have b1 : ∀ (s : GPen) (l : List Int), (l.length : Int) < 9223372036854775807 → ∃ y, f32 s l = some y := fun s l hl => by
    rcases sgr_eq s l hl with ⟨e2, _⟩ | ⟨_, _, _, _, y, _, e2, _⟩
    · exact ⟨_, e2⟩
    · exact ⟨_, e2⟩
  have hab : app? 8 a b = some (a ++ b) := by unfold app?; rw [if_pos (by omega)]
  have h34 : f34 a = some a := by unfold f34 app?; rw [if_pos (by simp; omega)]; rfl
  have hl : ((a ++ b).length : Int) < 9223372036854775807 := by rw [List.length_append]; omega
  have rest : ∀ {z1 z2 z3 : GPen × Int}, f32 p a = some z1 → f32 z1.1 b = some z2 → f32 p (a ++ b) = some z3 → ((z1.2 = 0 → z2.2 = 0 → z3.2 = 0 → (38 : Int) ∉ a → (48 : Int) ∉ a → z2.1 = z3.1)) → f13 p a b = some true := by
    intro z1 z2 z3 e1 e2 e3 key
    unfold f13
    simp only [e1, e2, h34, hab, e3, lives, Option.bind_some, Bool.not_true, cond_false]
    by_cases c1 : z1.2 = 0
    · by_cases c2 : z2.2 = 0
      · by_cases c3 : z3.2 = 0
        · rw [decide_eq_true c1, decide_eq_true c2, decide_eq_true c3, contains_ok a 38 (by omega), contains_ok a 48 (by omega)]
          simp only [Bool.not_true, cond_false, Option.bind_some]
          by_cases m1 : (38 : Int) ∈ a
          · rw [decide_eq_true m1]; rfl
          · rw [decide_eq_false m1]
            simp only [cond_false]
            by_cases m2 : (48 : Int) ∈ a
            · rw [decide_eq_true m2]; rfl
            · rw [decide_eq_false m2, key c1 c2 c3 m1 m2]
              simp
        · rw [decide_eq_true c1, decide_eq_true c2, decide_eq_false c3]; rfl
      · rw [decide_eq_true c1, decide_eq_false c2]; rfl
    · rw [decide_eq_false c1]; rfl
  obtain ⟨z1, e1⟩ := b1 p a (by omega)
  obtain ⟨z2, e2⟩ := b1 z1.1 b (by omega)
  obtain ⟨z3, e3⟩ := b1 p (a ++ b) hl
  have fin := rest e1 e2 e3 (fun c1 c2 c3 m1 m2 => by
    rcases sgr_eq p a (by omega) with ⟨g1, n1⟩ | ⟨_, k1, l1, d1, x, g1, o1, _⟩
    · rw [e1] at g1; cases g1; exact absurd c1 n1
    · rw [e1] at o1; cases o1
      rcases sgr_eq x b (by omega) with ⟨g2, n2⟩ | ⟨_, k2, l2, d2, y, g2, o2, _⟩
      · rw [e2] at g2; cases g2; exact absurd c2 n2
      · rw [e2] at o2; cases o2
        rcases sgr_eq p (a ++ b) hl with ⟨g3, n3⟩ | ⟨_, k3, l3, d3, z, g3, o3, _⟩
        · rw [e3] at g3; cases g3; exact absurd c3 n3
        · rw [e3] at o3; cases o3
          have harg := maxL_arg d3
          have hml : (maxL (a ++ b)).length ≤ 1000 := by unfold maxL; rw [List.length_map]; omega
          have hmb : (maxL b).length ≤ 1000 := by unfold maxL; rw [List.length_map]; omega
          rw [maxL_app] at harg hml g3
          have hne : ∀ u ∈ maxL a, u ≠ 38 ∧ u ≠ 48 := by
            intro u hu
            obtain ⟨v, hv, rfl⟩ := List.mem_map.1 hu
            split
            · exact ⟨by decide, by decide⟩
            · exact ⟨fun e => m1 (e ▸ hv), fun e => m2 (e ▸ hv)⟩
          obtain ⟨x', q, r1, r2, r3⟩ := ahead p p a (a ++ b) (maxL a) (maxL b) harg hml hne _ 0 p (by omega) rfl
          rw [show ((0 : Nat) : Int) = 0 from rfl] at r1 r2
          rw [g1] at r1; cases r1
          rw [g3] at r2; cases r2
          obtain ⟨w, s1, s2⟩ := shift p x (a ++ b) b (maxL a ++ maxL b) (maxL b) harg (maxL_arg d2) hml hmb _ (maxL a).length 0 x (by simp) (by omega) (by simp) rfl
          rw [r3] at s1; cases s1
          rw [show ((0 : Nat) : Int) = 0 from rfl, g2] at s2
          cases s2; rfl)
  unfold f13 at fin
  exact fin
theorem PenJoins_walk (v0 v1 v2 : Value) (w : World) (h0 : Arg (some 1048576) Go.Proofs.Try.prog w 54 v0) (h1 : Arg (some 1048576) Go.Proofs.Try.prog w 55 v1) (h2 : Arg (some 1048576) Go.Proofs.Try.prog w 55 v2) :
    Calls Go.Proofs.Try.prog 13 #[v0, v1, v2] w fun e w' => e = .returned (.bool true) ∧ Below w.heap.size w w' :=
  PenJoins_calls (some 1048576) (fun p a b _ ha hb => penJoins p a b ha.1 hb.1) v0 v1 v2 w h0 h1 h2
end Go.Proofs.Ytphbfciikjkkfaa.Pm
