/- flow: Again, walked by hand. (r29) -/
import Derived.Test.YtnnnfncebpkaoaaFoC
namespace Go.Proofs.Ytnnnfncebpkaoaa.Fo
open Go Go.Proofs Go.RowKit Go.Proofs.Ytnnnfncebpkaoaa.Com Go.Proofs.Ytnnnfncebpkaoaa.Pm
set_option linter.unusedVariables false
theorem Rws.mono {W : World} {B B' n : Nat} {v : Value} {xs : List Value} (h : Rws W B v n xs) (hb : B' ≤ B) : Rws W B' v n xs :=
  ⟨⟨h.1.1, h.1.2.imp id fun ⟨g, cap, cur, q1, q2, q3⟩ => ⟨g, cap, cur, q1, Nat.le_trans hb q2, q3⟩⟩, fun i u hu => (h.2.1 i u hu).mono hb, h.2.2⟩
theorem own_sl {W : World} {B e s n : Nat} {v : Value} {xs : List Value} (h : W.ownsRow B e s v n xs) : ∃ a c, v = .slice a n c := by
  rcases h.2 with ⟨rfl, rfl⟩ | ⟨g, cap, cur, rfl, _⟩ <;> exact ⟨_, _, rfl⟩
set_option maxRecDepth 100000 in
set_option maxHeartbeats 4000000 in
/-- flow.Again. -/
theorem again_walk (w : World) (ra : Option Addr) (n c : Nat) (wide : Int) (ln : Nat → Nat) (hn : n ≤ 1048576)
    (hR : ∀ i, i < n → ∃ b o v s, ra = some ⟨b, o, none⟩ ∧ b < w.heap.size ∧ w.cell? ⟨b, o + i * 2, none⟩ = some v ∧ w.cell? ⟨b, o + i * 2 + 1, none⟩ = some (.bool s) ∧ ln i ≤ 1048576 ∧ Q w.heap.size w (ln i) v)
    (KCl : ∀ W T l v, Below w.heap.size w W → Q T W l v → l ≤ 4000 → Calls Go.Proofs.Try.prog 9 #[v] W fun e W' => ∃ s, e = .returned s ∧ Below W.heap.size W W' ∧ El W' W.heap.size W'.heap.size s)
    (KCut : ∀ B W l v, Q B W l v → l ≤ 1048576 → 2 ≤ wide → wide ≤ 160 → Calls Go.Proofs.Try.prog 14 #[v, .int .i64 wide] W fun e W' => ∃ s1 s2 l2, e = .returned (.tuple #[s1, s2, .int .i64 0]) ∧ Below W.heap.size W W' ∧ FrI W' W.heap.size s1 ∧ Q B W' l2 s2 ∧ (l2 = 0 ∨ l2 < l)) :
    Calls Go.Proofs.Try.prog 10 #[.slice ra n c, .int .i64 wide] w (FlowPost w) := by
  go_enter Go.Proofs.Try.func10, Go.Proofs.Try.ntmps10
  go_wp2_with fail
  refine (lines_walk w ra n c ln hn hR KCl).mono ?_
  rintro e w1 ⟨v, k, m, xs, rfl, b1, hm, hL⟩
  obtain ⟨va, vc, rfl⟩ := own_sl hL.1
  by_cases hk : k = 0
  · subst hk
    go_wp2_with fail
    refine (flow_walk w1 va m vc wide hm (fun i hi => ?_) (fun W l v _ hq => KCut _ W l v hq)).mono ?_
    · have hl := hL.1.1
      rcases hL.1.2 with ⟨_, rfl⟩ | ⟨g, cap, cur, e1, q1, q2, q3, q4, q5, q6⟩
      · omega
      · cases e1
        obtain ⟨u, hu⟩ : ∃ u, xs[i]? = some u := ⟨_, List.getElem?_eq_getElem (by omega)⟩
        obtain ⟨l, hl2, hq⟩ := (hL.2 u (List.mem_of_getElem? hu)).q (B' := w1.heap.size)
        exact ⟨g, 0, u, l, rfl, (Array.getElem?_eq_some_iff.1 q2).1, by rw [Nat.zero_add, World.ownsRow.cellAt hL.1 i (by omega)]; exact hu, by omega, hq⟩
    · rintro e w2 ⟨v2, k2, m2, xs2, rfl, b2, hR2, hm2⟩
      obtain ⟨wa, wc, rfl⟩ := own_sl hR2.1
      go_wp2
      exact bodyPost_ret (results_tmp2 rfl _ _ _) rfl ⟨_, _, m2, xs2, rfl, b1.trans (b2.mono b1.size), hR2.mono b1.size, hm2⟩
  · have hk2 : (k != 0) = true := by simp [hk]
    go_wp2
    exact bodyPost_ret (results_tmp2 rfl _ _ _) rfl ⟨_, _, 0, [], rfl, b1, ⟨World.ownsRow_nil .., fun i u hu => by simp at hu, fun i u hu => by simp at hu⟩, Nat.zero_le _⟩
end Go.Proofs.Ytnnnfncebpkaoaa.Fo
