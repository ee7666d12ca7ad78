/- SlcAgree: two ends come to the same keys. -/
import Derived.Test.YtgokbjnpjjdboaaSlY
namespace Go.Proofs.Ytgokbjnpjjdboaa.Pm
open Go.Proofs.Ytgokbjnpjjdboaa.Args
open Go.ChangeShapes Go.WideShapes Go.ChangeAt Go.RowKit
open Go.Proofs.Ytgokbjnpjjdboaa.Sl (Ky tripleS takeL setK msg sayK F1 F2 F3 F4 endA endB takeL_msg msg_nil msg_len agree said)
set_option linter.unusedVariables false
set_option linter.unusedSimpArgs false
set_option maxRecDepth 100000
theorem setK_fine (k : Ky) (h : fine k) (f : Nat) (hf : 1 ≤ f) (l c : Int) (hl : l ≤ 2) : fine (setK k f l c) := by
  refine ⟨fun i hi => ?_, ?_, ?_⟩
  · have := h.1 i hi
    simp only [setK, Go.Proofs.Ytgokbjnpjjdboaa.Sl.upd]
    split <;> omega
  · have := h.2.1
    simp only [setK, Go.Proofs.Ytgokbjnpjjdboaa.Sl.upd]
    split <;> omega
  · have := h.2.2
    simp only [setK, Go.Proofs.Ytgokbjnpjjdboaa.Sl.upd]
    split <;> omega
theorem tripleS_fine (k : Ky) (h : fine k) (f g c : Int) (hg : 0 ≤ g) : fine (tripleS k f g c).1 := by
  unfold tripleS
  by_cases h1 : f < 1 ∨ 18 < f
  · rw [if_pos h1]; exact h
  · rw [if_neg h1]
    repeat' split
    all_goals first
      | exact h
      | exact setK_fine _ h _ (by omega) _ _ (by omega)
      | (simp only []; split <;> first | exact h | exact setK_fine _ h _ (by omega) _ _ (by omega))
theorem takeL_fine : ∀ (n : Nat) (L : List Int) (k : Ky), L.length ≤ n → fine k → (∀ x ∈ L, 0 ≤ x) → fine (takeL k L).1
  | 0, L, k, hn, h, _ => by
    have : L = [] := List.eq_nil_of_length_eq_zero (by omega)
    subst this; simpa [takeL] using h
  | n + 1, [], k, _, h, _ => by simpa [takeL] using h
  | n + 1, [_], k, _, h, _ => by simpa [takeL] using h
  | n + 1, [_, _], k, _, h, _ => by simpa [takeL] using h
  | n + 1, f :: g :: c :: r, k, hn, h, hx => by
    rw [takeL_cons]
    exact takeL_fine n r _ (by simp at hn; omega) (tripleS_fine k h f g c (hx g (by simp))) (fun x h => hx x (by simp [h]))
theorem nums_pos (L : List UInt8) : ∀ x ∈ nums L, 0 ≤ x := by
  intro x hx
  obtain ⟨b, _, rfl⟩ := List.mem_map.1 hx
  omega
theorem nums_len (L : List UInt8) : (nums L).length = L.length := by simp [nums]
def allB (a : GKeys) (i : Nat) : List UInt8 := (List.range' 1 i).flatMap fun (f : Nat) => [u8 (f : Int), a.Levels f, a.Chars f]
theorem allB_succ (a : GKeys) (i : Nat) : allB a (i + 1) = allB a i ++ [u8 ((i + 1 : Nat) : Int), a.Levels (i + 1), a.Chars (i + 1)] := by
  unfold allB
  rw [List.range'_1_concat, List.flatMap_append]
  simp [Nat.add_comm]
theorem allB_len (a : GKeys) : ∀ i, (allB a i).length = 3 * i
  | 0 => rfl
  | i + 1 => by rw [allB_succ, List.length_append, allB_len a i]; simp; omega
theorem f38_eq (a : GKeys) : f38 a = some (allB a 18) := by
  unfold f38
  obtain ⟨r, h1, h2⟩ := loopO_ind (body := f38_l0 a) (fun n x => ∃ i : Nat, x = (allB a i, ((i + 1 : Nat) : Int)) ∧ i ≤ 18 ∧ n = 18 - i) (fun r => r = allB a 18) (by
    rintro n x ⟨i, rfl, hi, rfl⟩
    by_cases hlt : i < 18
    · left
      refine ⟨(allB a (i + 1), ((i + 1 + 1 : Nat) : Int)), 18 - (i + 1), ?_, by omega, i + 1, rfl, by omega, rfl⟩
      have hl := allB_len a i
      have i1 : inR ((i + 1 : Nat) : Int) 19 = some (i + 1) := inR_nat _ _ (by omega)
      unfold f38_l0 f38_l0_j1
      rw [decide_eq_true (by show ((i + 1 : Nat) : Int) ≤ 18; omega)]
      simp only [cond_true, i1, Option.bind_some]
      have ha : app? 1 (allB a i) ([u8 ((i + 1 : Nat) : Int), a.Levels (i + 1), a.Chars (i + 1)] : List UInt8) = some (allB a (i + 1)) := by
        rw [allB_succ]; unfold app?; rw [if_pos (by simp only [List.length_cons, List.length_nil]; omega)]
      rw [ha, i64w _ (by omega)]; rfl
    · right
      have : i = 18 := by omega
      subst this
      exact ⟨_, rfl, rfl⟩) (n := 18) (x := ([], 1)) ⟨0, rfl, by omega, rfl⟩
  rw [h1, h2]; rfl
theorem nums_all (a : GKeys) : nums (allB a 18) = msg (F1 (ky a)) := by
  unfold nums allB msg
  rw [List.map_flatMap]
  apply Go.Proofs.Ytgokbjnpjjdboaa.Sl.flatMap_same
  intro f hf
  have := List.mem_range'_1.1 hf
  show [((u8 (f : Int)).toNat : Int), ((a.Levels f).toNat : Int), ((a.Chars f).toNat : Int)] = [(f : Int), ((a.Levels f).toNat : Int), ((a.Chars f).toNat : Int)]
  rw [u8_u8, show (f : Int) % 256 = (f : Int) by omega]
theorem one_take (a : GKeys) (L : List UInt8) (F : Nat → Option (Int × Int)) (ha : fine (ky a)) (hF : nums L = msg F) :
    ∃ k o, f26 a L = some (k, o, 0) ∧ ky k = sayK (ky a) F ∧ nums o = msg (fun f => (Go.Proofs.Ytgokbjnpjjdboaa.Sl.nextK (ky a) F f).2) ∧ fine (ky k) := by
  have hl := msg_len F
  rw [← hF, nums_len] at hl
  obtain ⟨k, o, e, h1, h2⟩ := f26_eq a L ha (by omega) hl.1
  have h3 := takeL_fine (nums L).length (nums L) (ky a) (Nat.le_refl _) ha (nums_pos L)
  rw [← h1] at h3
  rw [hF, takeL_msg] at h1 h2
  exact ⟨k, o, e, h1, h2, h3⟩
theorem nums_nil {L : List UInt8} : nums L = [] ↔ L = [] := by simp [nums]
theorem l2_end (a b x y u v : GKeys) (n : Int) : f29_l2 a b (x, y, u, v, n, []) = some (.inr (x, y, u, v, n)) := rfl
theorem l2_odd (a b x y u v x' : GKeys) (n : Int) (L o : List UInt8) (z : Int) (hL : L ≠ []) (hn : n = 1) (h : f26 x L = some (x', o, z)) : f29_l2 a b (x, y, u, v, n, L) = some (.inl (x', y, u, v, n + 1, o)) := by
  subst hn
  unfold f29_l2 f29_l2_j3 f29_l2_j4
  rw [decide_eq_false (by exact hL)]
  simp only [Bool.not_false, cond_true]
  rw [h]; rfl
theorem l2_even (a b x y u v y' : GKeys) (n : Int) (L o : List UInt8) (z : Int) (hL : L ≠ []) (hn : n = 0 ∨ n = 2) (h : f26 y L = some (y', o, z)) : f29_l2 a b (x, y, u, v, n, L) = some (.inl (x, y', u, v, n + 1, o)) := by
  unfold f29_l2 f29_l2_j3 f29_l2_j5
  rw [decide_eq_false (by exact hL)]
  simp only [Bool.not_false, cond_true]
  rcases hn with rfl | rfl
  · rw [h]; rfl
  · rw [h]; rfl
theorem meets (a b : GKeys) (u v : GKeys) (ha : fine (ky a)) (hb : fine (ky b)) (h4 : msg (F4 (ky a) (ky b)) = []) :
    ∃ x y n, loopO (f29_l2 a b) (a, b, u, v, 0, allB a 18) = some (x, y, u, v, n) ∧ 1 ≤ n ∧ n ≤ 3 ∧ ky x = endA (ky a) (ky b) ∧ ky y = endB (ky a) (ky b) ∧ fine (ky x) := by
  have hne : allB a 18 ≠ [] := fun h => by have := allB_len a 18; rw [h] at this; cases this
  obtain ⟨b1, o1, e1, k1, m1, f1⟩ := one_take b (allB a 18) (F1 (ky a)) hb (nums_all a)
  have m1 : nums o1 = msg (F2 (ky a) (ky b)) := m1
  have s1 := l2_even a b a b u v b1 0 _ o1 0 hne (.inl rfl) e1
  by_cases z1 : o1 = []
  · subst z1
    have g := msg_nil (ky a) (F2 (ky a) (ky b)) m1.symm
    have g3 : msg (F3 (ky a) (ky b)) = [] := g.2
    have g2 := msg_nil (sayK (ky b) (F1 (ky a))) (F3 (ky a) (ky b)) g3
    exact ⟨a, b1, 1, loopO_next s1 (loopO_done (l2_end a b a b1 u v 1)), by decide, by decide, g.1.symm, by rw [k1]; exact g2.1.symm, ha⟩
  obtain ⟨a1, o2, e2, k2, m2, f2⟩ := one_take a o1 (F2 (ky a) (ky b)) ha m1
  have m2 : nums o2 = msg (F3 (ky a) (ky b)) := m2
  have s2 := l2_odd a b a b1 u v a1 1 o1 o2 0 z1 rfl e2
  by_cases z2 : o2 = []
  · subst z2
    have g2 := msg_nil (sayK (ky b) (F1 (ky a))) (F3 (ky a) (ky b)) m2.symm
    exact ⟨a1, b1, 2, loopO_next s1 (loopO_next s2 (loopO_done (l2_end a b a1 b1 u v 2))), by decide, by decide, k2, by rw [k1]; exact g2.1.symm, f2⟩
  obtain ⟨b2, o3, e3, k3, m3, f3⟩ := one_take b1 o2 (F3 (ky a) (ky b)) f1 m2
  rw [k1] at k3 m3
  have m3 : nums o3 = msg (F4 (ky a) (ky b)) := m3
  have s3 := l2_even a b a1 b1 u v b2 2 o2 o3 0 z2 (.inr rfl) e3
  have z3 : o3 = [] := nums_nil.1 (m3.trans h4)
  subst z3
  exact ⟨a1, b2, 3, loopO_next s1 (loopO_next s2 (loopO_next s3 (loopO_done (l2_end a b a1 b2 u v 3)))), by decide, by decide, k2, k3, f2⟩
theorem slc_lives : f27 = some true := by
  unfold f27
  have e : f36 (GKeys.mk (fun _ => 0) (fun _ => 0)) = some 0 := by
    rcases f36_eq ⟨fun _ => 0, fun _ => 0⟩ with ⟨_, e⟩ | ⟨h, _⟩
    · exact e
    · exact absurd ⟨fun i _ => (by decide : ((0 : UInt8).toNat : Int) ≤ 2), rfl, rfl⟩ h
  have h : loopO (f26_l3 (GKeys.mk (fun _ => 0) (fun _ => 0)) [10, 2, 127]) (GKeys.mk (fun _ => 0) (fun _ => 0), GKeys.mk (fun _ => 0) (fun _ => 0), [], 0) = some (GKeys.mk (upd (fun _ => 0) 10 2) (upd (fun _ => 0) 10 127), GKeys.mk (fun _ => 0) (fun _ => 0), [10, 130, 127]) := loopO_of (n := 3) (by kernel_rfl)
  unfold f26
  rw [e]
  simp only [Option.bind_some, decide_true, Bool.not_true, cond_false]
  unfold f26_j0 f26_j1 f26_j2
  rw [h]; rfl
theorem compare (a b x y : GKeys) (n : Int) (H : ∀ f, 1 ≤ f → f < 19 → (ky x).lv f = (ky y).lv f ∧ (ky x).ch f = (ky y).ch f ∧ ((ky a).lv f = 1 → (ky b).lv f ≠ 1 → (ky x).lv f = 1 ∧ (ky x).ch f = (ky a).ch f) ∧ ((ky b).lv f = 1 → (ky a).lv f = 2 → (ky x).lv f = 1 ∧ (ky x).ch f = (ky b).ch f)) :
    loopO (f13_l2 a b) (x, y, n, 1) = some (.inl (x, n)) := by
  obtain ⟨r, h1, h2⟩ := loopO_ind (body := f13_l2 a b) (fun m z => ∃ i : Nat, z = (x, y, n, (i : Int)) ∧ 1 ≤ i ∧ i ≤ 19 ∧ m = 19 - i) (fun r => r = .inl (x, n)) (by
    rintro m z ⟨i, rfl, h1, hi, rfl⟩
    by_cases hlt : i < 19
    · left
      refine ⟨(x, y, n, ((i + 1 : Nat) : Int)), 19 - (i + 1), ?_, by omega, i + 1, rfl, by omega, by omega, rfl⟩
      have i1 : inR (i : Int) 19 = some i := inR_nat _ _ hlt
      obtain ⟨p1, p2, p3, p4⟩ := H i h1 hlt
      have p1 : ((x.Levels i).toNat : Int) = ((y.Levels i).toNat : Int) := p1
      have p2 : ((x.Chars i).toNat : Int) = ((y.Chars i).toNat : Int) := p2
      have p3 : ((a.Levels i).toNat : Int) = 1 → ((b.Levels i).toNat : Int) ≠ 1 → ((x.Levels i).toNat : Int) = 1 ∧ ((x.Chars i).toNat : Int) = ((a.Chars i).toNat : Int) := p3
      have p4 : ((b.Levels i).toNat : Int) = 1 → ((a.Levels i).toNat : Int) = 2 → ((x.Levels i).toNat : Int) = 1 ∧ ((x.Chars i).toNat : Int) = ((b.Chars i).toNat : Int) := p4
      have w : IntKind.i64.wrap ((i : Int) + 1) = ((i + 1 : Nat) : Int) := by rw [i64w _ (by omega)]; rfl
      unfold f13_l2
      rw [decide_eq_true (by show (i : Int) ≤ 18; omega)]
      simp only [cond_true]
      unfold f13_l2_j3
      simp only [i1, Option.bind_some, decide_eq_true p1, decide_eq_true p2, Bool.not_true, cond_false, w]
      by_cases c1 : ((a.Levels i).toNat : Int) = 1
      · have c3 : ¬ ((a.Levels i).toNat : Int) = 2 := by omega
        by_cases c2 : ((b.Levels i).toNat : Int) = 1
        · simp only [decide_eq_true c1, decide_eq_true c2, decide_eq_false c3, Bool.not_true, cond_true, cond_false]
        · obtain ⟨q1, q2⟩ := p3 c1 c2
          simp only [decide_eq_true c1, decide_eq_false c2, decide_eq_false c3, decide_eq_true q1, decide_eq_true q2, Bool.not_true, Bool.not_false, cond_true, cond_false]
      · by_cases c2 : ((b.Levels i).toNat : Int) = 1
        · by_cases c3 : ((a.Levels i).toNat : Int) = 2
          · obtain ⟨q1, q2⟩ := p4 c2 c3
            simp only [decide_eq_false c1, decide_eq_true c2, decide_eq_true c3, decide_eq_true q1, decide_eq_true q2, Bool.not_true, Bool.not_false, cond_true, cond_false]
          · simp only [decide_eq_false c1, decide_eq_true c2, decide_eq_false c3, Bool.not_true, cond_true, cond_false]
        · simp only [decide_eq_false c1, decide_eq_false c2, cond_false]
    · right
      have : i = 19 := by omega
      subst this
      exact ⟨_, rfl, rfl⟩) (n := 18) (x := (x, y, n, 1)) ⟨1, rfl, by omega, by omega, rfl⟩
  rw [h1, h2]
theorem slcAgree (a b : GKeys) : f13 a b = some true := by
  have no : ∀ z : Int, f13_j4 a b 0 = some true := fun _ => by
    unfold f13_j4; rw [slc_lives]; rfl
  unfold f13 f29 f29_j6
  rcases f36_eq a with ⟨ha, e⟩ | ⟨ha, e⟩
  rotate_left
  · rw [e, slc_lives]; exact no 0
  rw [e]
  simp only [Option.bind_some, decide_true, Bool.not_true, cond_false]
  unfold f29_j7
  rcases f36_eq b with ⟨hb, e2⟩ | ⟨hb, e2⟩
  rotate_left
  · rw [e2, slc_lives]; exact no 0
  rw [e2]
  simp only [Option.bind_some, decide_true, Bool.not_true, cond_false]
  unfold f29_j0
  rw [f38_eq]
  simp only [Option.bind_some]
  have pos : ∀ (k : GKeys) f, 0 ≤ (ky k).lv f := fun k f => Int.natCast_nonneg _
  obtain ⟨h4, H⟩ := agree (ky a) (ky b) (fun f _ h => ⟨pos a f, ha.1 f h⟩) (fun f _ h => ⟨pos b f, hb.1 f h⟩)
  obtain ⟨x, y, n, h, n1, n3, kx, kY, fx⟩ := meets a b ⟨fun _ => 0, fun _ => 0⟩ ⟨fun _ => 0, fun _ => 0⟩ ha hb h4
  rw [← kx, ← kY] at H
  rw [h, slc_lives]
  simp only [Option.bind_some, Bool.not_true, cond_false]
  unfold f29_j1
  simp only [Option.bind_some, decide_true, Bool.not_true, cond_false]
  unfold f13_j0
  rw [compare a b x y n H]
  simp only [Option.bind_some, Sum.elim_inl]
  unfold f13_j1
  rw [decide_eq_true n1, decide_eq_true n3, f28_eq x fx]; rfl
theorem SlcAgree_walk (v0 v1 : Value) (w : World) (h0 : Arg none Go.Proofs.Try.prog w 52 v0) (h1 : Arg none Go.Proofs.Try.prog w 52 v1) :
    Calls Go.Proofs.Try.prog 13 #[v0, v1] w fun e w' => e = .returned (.bool true) ∧ Below w.heap.size w w' :=
  SlcAgree_calls none (fun a b _ _ => slcAgree a b) v0 v1 w h0 h1
end Go.Proofs.Ytgokbjnpjjdboaa.Pm
