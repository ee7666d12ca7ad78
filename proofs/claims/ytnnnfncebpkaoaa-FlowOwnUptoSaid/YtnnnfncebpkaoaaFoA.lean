/- flow: Flow, walked by hand: what is told is new. (r29) -/
import Derived.Test.YtnnnfncebpkaoaaCom
import Derived.Test.YtnnnfncebpkaoaaPb
import Derived.OwnWalk
import Derived.Maps.AppendAt
import Derived.Lib.BufferMore
import Derived.StillTactics
import Derived.Deep.QuietTactic
import Derived.BigQuiet
import Derived.Deep.DeepCutAuto
namespace Go.Proofs.Ytnnnfncebpkaoaa.Fo
open Go Go.Proofs Go.RowKit Go.Proofs.Ytnnnfncebpkaoaa.Com Go.Proofs.Ytnnnfncebpkaoaa.Pm
set_option linter.unusedVariables false
theorem RowAt.lt {w : World} {b : Nat} {cur : Array Value} {e : TypeId} (h : RowAt w b cur e) : b < w.heap.size := by
  obtain ⟨f, h1, _⟩ := h
  exact (Array.getElem?_eq_some_iff.1 h1).1
/-- A slice of numbers that is new from block B on, all its room there. -/
def FrI (W : World) (B : Nat) (s : Value) : Prop :=
  (∃ a, s = .slice a 0 0) ∨ ∃ b n c cur, s = .slice (some ⟨b, 0, none⟩) n c ∧ B ≤ b ∧ RowAt W b cur 3 ∧ cur.size = c ∧ n ≤ c ∧ c ≤ maxLen
/-- A slice of l numbers: below B, or in a block of numbers. -/
def Q (B : Nat) (W : World) (l : Nat) (v : Value) : Prop :=
  ∃ a c, v = .slice a l c ∧ l ≤ c ∧ c ≤ maxLen ∧ (a = none → c = 0) ∧ (l = 0 ∨ ∃ b o, a = some ⟨b, o, none⟩ ∧ b < W.heap.size ∧ (b < B ∨ ∃ cur f, W.heap[b]? = some (.cells cur 3 f)) ∧ ∀ j, j < l → ∃ z, W.cell? ⟨b, o + j, none⟩ = some (.int .i64 z))
theorem FrI.mono {W : World} {B B' : Nat} {s : Value} (h : FrI W B s) (hb : B' ≤ B) : FrI W B' s := by
  rcases h with h | ⟨b, n, c, cur, h1, h2, h3⟩
  · exact .inl h
  · exact .inr ⟨b, n, c, cur, h1, Nat.le_trans hb h2, h3⟩
/-- What is kept where no block of numbers turns, and nothing below B. -/
def Kp (B : Nat) (W W' : World) : Prop := W.heap.size ≤ W'.heap.size ∧ (∀ b, b < B → b < W.heap.size → W'.heap[b]? = W.heap[b]?) ∧ ∀ (b : Nat) cur f, W.heap[b]? = some (.cells cur 3 f) → W'.heap[b]? = some (.cells cur 3 f)
theorem Kp.below {B : Nat} {W W' : World} (h : Below W.heap.size W W') : Kp B W W' := ⟨h.size, fun b _ hb => h.block b hb, fun b cur f q => (h.block b (Array.getElem?_eq_some_iff.1 q).1).trans q⟩
theorem Kp.grown {B e size n : Nat} {W W' : World} {v : Value} {xs : List Value} (he : e ≠ 3) (hg : W.grownBy W' v.ownBlock) (h : W.ownsRow B e size v n xs) : Kp B W W' := by
  refine ⟨hg.size, fun b hb hbs => hg.block b hbs fun e => ?_, fun b cur f q => (hg.block b (Array.getElem?_eq_some_iff.1 q).1 fun e => ?_).trans q⟩
  · have := (h.lt b e.symm).1; omega
  · rcases h.2 with ⟨rfl, _⟩ | ⟨g, cap, cur', rfl, _, q3, _⟩
    · cases e
    · cases e; rw [q] at q3; cases q3; exact he rfl
theorem FrI.keep {B B' : Nat} {W W' : World} {s : Value} (h : FrI W B s) (hk : Kp B' W W') : FrI W' B s := by
  rcases h with h | ⟨b, n, c, cur, h1, h2, ⟨f, h3, h4⟩, h5⟩
  · exact .inl h
  · exact .inr ⟨b, n, c, cur, h1, h2, ⟨f, hk.2.2 _ _ _ h3, h4⟩, h5⟩
theorem Q.keep {B : Nat} {W W' : World} {l : Nat} {v : Value} (h : Q B W l v) (hk : Kp B W W') : Q B W' l v := by
  obtain ⟨a, c, h1, h2, h3, h4, h5⟩ := h
  refine ⟨a, c, h1, h2, h3, h4, h5.imp id fun ⟨b, o, q1, q2, q3, q4⟩ => ⟨b, o, q1, Nat.lt_of_lt_of_le q2 hk.1, q3.imp id (fun ⟨cur, f, q⟩ => ⟨cur, f, hk.2.2 _ _ _ q⟩), fun j hj => ?_⟩⟩
  obtain ⟨z, hz⟩ := q4 j hj
  refine ⟨z, (World.cell?_of_block (w := W) ?_).trans hz⟩
  rcases q3 with q3 | ⟨cur, f, q⟩
  · exact hk.2.1 b q3 q2
  · rw [hk.2.2 _ _ _ q]; exact q.symm
theorem Q.sl {B : Nat} {W : World} {l : Nat} {v : Value} (h : Q B W l v) : ∃ a c, v = .slice a l c := by
  obtain ⟨a, c, h1, _⟩ := h; exact ⟨a, c, h1⟩
/-- Rows of one's own, each with new numbers. -/
def Rws (W : World) (B : Nat) (v : Value) (n : Nat) (xs : List Value) : Prop := W.ownsRow B 35 2 v n xs ∧ (∀ (i : Nat) u, xs[i * 2]? = some u → FrI W B u) ∧ ∀ (i : Nat) u, xs[i * 2 + 1]? = some u → ∃ bb, u = .bool bb
theorem Rws.keep {W W' : World} {B n : Nat} {v : Value} {xs : List Value} (h : Rws W B v n xs) (hb : Below W.heap.size W W') : Rws W' B v n xs :=
  ⟨⟨h.1.1, h.1.2.imp id fun ⟨g, cap, cur, q1, q2, q3, q4⟩ => ⟨g, cap, cur, q1, q2, (hb.block _ (Array.getElem?_eq_some_iff.1 q3).1).trans q3, q4⟩⟩, fun i u hu => (h.2.1 i u hu).keep (B' := B) (Kp.below hb), h.2.2⟩
theorem Rws.app {W W' : World} {B n : Nat} {v v' s : Value} {bb : Bool} {xs : List Value} (h : Rws W B v n xs) (ho : W'.ownsRow B 35 2 v' (n + 1) (xs ++ [s, .bool bb])) (hg : W.grownBy W' v.ownBlock) (hs : FrI W B s) : Rws W' B v' (n + 1) (xs ++ [s, .bool bb]) := by
  have hk : Kp B W W' := Kp.grown (by decide) hg h.1
  have hl := h.1.1
  refine ⟨ho, fun i u hu => ?_, fun i u hu => ?_⟩
  · rw [List.getElem?_append] at hu
    split at hu
    · exact (h.2.1 i u hu).keep hk
    · have hi : i * 2 - xs.length = 0 := by
        have := (List.getElem?_eq_some_iff.1 hu).1
        simp at this; omega
      rw [hi] at hu
      cases hu
      exact hs.keep hk
  · rw [List.getElem?_append] at hu
    split at hu
    · exact h.2.2 i u hu
    · have hi : i * 2 + 1 - xs.length = 1 := by
        have := (List.getElem?_eq_some_iff.1 hu).1
        simp at this; omega
      rw [hi] at hu
      cases hu
      exact ⟨_, rfl⟩
def slen : Value → Nat
  | .slice _ n _ => n
  | _ => 0
theorem infoRow : (Go.Proofs.Try.prog.info? 35).map (fun i => (i.zero, i.size, i.bytes)) = some (some (.agg #[.slice none 0 0, .bool false]), 2, 32) := by kernel_rfl
theorem info_parts {z : Option Value} {s b : Nat} {o : Option TypeInfo} (h : o.map (fun i => (i.zero, i.size, i.bytes)) = some (z, s, b)) : ∃ i, o = some i ∧ i.zero = z ∧ i.size = s ∧ i.bytes = b := by
  cases o with
  | none => simp at h
  | some i => simp at h; exact ⟨i, rfl, h⟩
/-- What Flow tells: rows of its own. -/
def FlowPost (w : World) (e : Ending) (W : World) : Prop := ∃ v k m xs, e = .returned (.tuple #[v, .int .i64 k]) ∧ Below w.heap.size w W ∧ Rws W w.heap.size v m xs ∧ m ≤ 1099512676352
set_option maxRecDepth 100000 in
set_option maxHeartbeats 4000000 in
/-- flow.Flow. -/
theorem flow_walk (w : World) (la : Option Addr) (n c : Nat) (wide : Int) (hn : n ≤ 1048576)
    (hL : ∀ i, i < n → ∃ b o v l, la = some ⟨b, o, none⟩ ∧ b < w.heap.size ∧ w.cell? ⟨b, o + i, none⟩ = some v ∧ l ≤ 1048576 ∧ Q w.heap.size w l v)
    (KCut : ∀ W l v, Below w.heap.size w W → Q w.heap.size W l v → l ≤ 1048576 → 2 ≤ wide → wide ≤ 160 → Calls Go.Proofs.Try.prog 14 #[v, .int .i64 wide] W fun e W' => ∃ s1 s2 l2, e = .returned (.tuple #[s1, s2, .int .i64 0]) ∧ Below W.heap.size W W' ∧ FrI W' W.heap.size s1 ∧ Q w.heap.size W' l2 s2 ∧ (l2 = 0 ∨ l2 < l)) :
    Calls Go.Proofs.Try.prog 5 #[.slice la n c, .int .i64 wide] w (FlowPost w) := by
  go_enter Go.Proofs.Try.func5, Go.Proofs.Try.ntmps5
  have none0 : Rws w w.heap.size (.slice none 0 0) 0 [] := ⟨World.ownsRow_nil .., fun i u hu => by simp at hu, fun i u hu => by simp at hu⟩
  by_cases h2 : wide < 2
  · go_wp2_with fail
    exact bodyPost_ret (results_tmp2 rfl _ _ _) rfl ⟨_, _, 0, [], rfl, .refl _ _, none0, Nat.zero_le _⟩
  · by_cases h160 : 160 < wide
    · go_wp2_with fail
      exact bodyPost_ret (results_tmp2 rfl _ _ _) rfl ⟨_, _, 0, [], rfl, .refl _ _, none0, Nat.zero_le _⟩
    · go_wp2_with fail
      go_loopw [6, 23] (fun s i wr => (∃ z, s = .int .i64 z) ∧ ∃ k : Nat, k ≤ n ∧ i = .int .i64 k ∧ wr = w) (fun _ i _ => n - (intOf i).toNat)
      case atStart => first | exact ⟨⟨_, rfl⟩, 0, Nat.zero_le _, rfl, rfl⟩ | exact ⟨⟨_, rfl⟩, 0, Nat.zero_le _, rfl, trivial⟩
      case round =>
        obtain ⟨⟨z, rfl⟩, k, hk, rfl, hw⟩ := hrel
        have hw' := hw.symm
        subst hw'
        clear hw
        by_cases hlt : k < n
        · obtain ⟨b, o, v, l, rfl, hb, hc, hl, hq⟩ := hL k hlt
          obtain ⟨va, vc, rfl⟩ := hq.sl
          go_wp2_with fail
          go_roundw
          case rel => first | exact ⟨⟨_, rfl⟩, k + 1, hlt, by simp, trivial⟩ | exact ⟨⟨_, rfl⟩, k + 1, hlt, by simp, rfl⟩
          case measure => simp [intOf]; omega
        · obtain rfl : k = n := by omega
          by_cases h500 : (500 : Int) < (k : Int)
          · go_wp2_with fail
            exact bodyPost_ret (results_tmp2 rfl _ _ _) rfl ⟨_, _, 0, [], rfl, .refl _ _, none0, Nat.zero_le _⟩
          · by_cases hz : 4000 < z
            · go_wp2_with fail
              exact bodyPost_ret (results_tmp2 rfl _ _ _) rfl ⟨_, _, 0, [], rfl, .refl _ _, none0, Nat.zero_le _⟩
            · go_wp2_with fail
              go_loopw [9, 41] (fun o i wr => ∃ (j m : Nat) (xs : List Value), j ≤ k ∧ i = .int .i64 j ∧ Below w.heap.size w wr ∧ Rws wr w.heap.size o m xs ∧ m ≤ j * 1048577) (fun _ i _ => k - (intOf i).toNat)
              case atStart => exact ⟨0, 0, [], Nat.zero_le _, rfl, .refl _ _, none0, Nat.zero_le _⟩
              case round =>
                obtain ⟨j, m, xs, hj, rfl, hB, hR, hm⟩ := hrel
                by_cases hlj : j < k
                · obtain ⟨b, o, v, l, rfl, hb, hc, hl, hq⟩ := hL j hlj
                  obtain ⟨va, vc, rfl⟩ := hq.sl
                  have hc' := (hB.cell (p := ⟨b, o + j, none⟩) hb).trans hc
                  go_wp2_with fail
                  have h2' : 2 ≤ wide := by omega
                  have h160' : wide ≤ 160 := by omega
                  obtain ⟨io, hio, hz0, hz1, hz2⟩ := info_parts infoRow
                  go_loopw [9, 11] (fun o v wr => ∃ (l m : Nat) (xs : List Value), Q w.heap.size wr l v ∧ l ≤ 1048576 ∧ Below w.heap.size w wr ∧ Rws wr w.heap.size o m xs ∧ m + l ≤ j * 1048577 + 1048576) (fun _ v _ => slen v)
                  case atStart => exact ⟨l, m, xs, hq.keep ⟨hB.size, fun b hb _ => hB.block b hb, fun b cur f q => (hB.block b (Array.getElem?_eq_some_iff.1 q).1).trans q⟩, hl, hB, hR, by omega⟩
                  case round =>
                    obtain ⟨l, m, xs, hq, hl, hB, hR, hm⟩ := hrel
                    obtain ⟨va, vc, rfl⟩ := hq.sl
                    go_wp2_with fail
                    refine (KCut wr l _ hB hq hl h2' h160').mono ?_
                    rintro e w2 ⟨s1, s2, l2, rfl, b2, f1, q2, hl2⟩
                    have hB2 : Below w.heap.size w w2 := hB.trans (b2.mono hB.size)
                    have hR2 := hR.keep b2
                    have f1 := f1.mono hB.size
                    obtain ⟨sa, sn, sc, rfl⟩ : ∃ a n c, s1 = .slice a n c := by
                      rcases f1 with ⟨a, rfl⟩ | ⟨b, n, c, cur, rfl, _⟩ <;> exact ⟨_, _, _, rfl⟩
                    obtain ⟨ta, tc, rfl⟩ := q2.sl
                    have hle := hB2.size
                    have hrw : ∀ ob, (w2.alloc ob).ownsRow w.heap.size 35 2 _ m xs := fun ob => hR2.1.alloc ob
                    have hon : ∀ (bb : Bool), ∀ u ∈ [Value.slice sa sn sc, .bool bb], u.oneCell' = true := fun bb u hu => by
                      simp at hu; rcases hu with rfl | rfl <;> rfl
                    have hcn : ∀ (bb : Bool) (j : Nat) u, [Value.slice sa sn sc, .bool bb][j]? = some u → (w2.alloc (.cells #[.slice sa sn sc, .bool bb] 35)).cell? ((⟨w2.heap.size, 0, none⟩ : Addr).add j) = some u := fun bb j u hu => by
                      rw [show ((⟨w2.heap.size, 0, none⟩ : Addr).add j) = ⟨w2.heap.size, j, none⟩ from by unfold Addr.add; split <;> simp_all]
                      rw [cell_of_row _ _ _ _ _ _ (heap_alloc_new w2 _)]
                      simpa using hu
                    by_cases hz2l : l2 = 0
                    · subst hz2l
                      go_wp2_with (at_builtin; refine wpList_append_own _ rfl _ _ 23 rfl w.heap.size 35 io _ 2 32 Go.Proofs.Try.underlying23 hio hz0 hz1 hz2 rfl (by decide) _ _ _ rfl (hrw (.cells #[.slice sa sn sc, .bool false] 35)) ⟨w2.heap.size, 0, none⟩ 1 1 [.slice sa sn sc, .bool false] rfl rfl (hcn false) (hon false) (by unfold maxLen; omega) (by omega) (by rw [World.size_alloc]; omega) ?_; intro v' w6 hown' hgrow _)
                      have qg : w2.grownBy w6 _ := (World.grownBy_alloc w2 _ _).trans hgrow
                      have hR6 := Rws.app hR2 hown' qg f1
                      have hB6 : Below w.heap.size w w6 := hB2.grown qg hle (fun k e => (hR2.1.lt k e).1)
                      go_roundw
                      case rel => exact ⟨j + 1, m + 1, _, hlj, by simp, hB6, hR6, by omega⟩
                      case measure => simp [intOf]; omega
                    · have hp2 : 0 < l2 := by omega
                      have hp3 : ((l2 : Int) == 0) = false := by rw [beq_eq_false_iff_ne]; omega
                      go_wp2_with (at_builtin; refine wpList_append_own _ rfl _ _ 23 rfl w.heap.size 35 io _ 2 32 Go.Proofs.Try.underlying23 hio hz0 hz1 hz2 rfl (by decide) _ _ _ rfl (hrw (.cells #[.slice sa sn sc, .bool true] 35)) ⟨w2.heap.size, 0, none⟩ 1 1 [.slice sa sn sc, .bool true] rfl rfl (hcn true) (hon true) (by unfold maxLen; omega) (by omega) (by rw [World.size_alloc]; omega) ?_; intro v' w6 hown' hgrow _)
                      have qg : w2.grownBy w6 _ := (World.grownBy_alloc w2 _ _).trans hgrow
                      have hR6 := Rws.app hR2 hown' qg f1
                      have hB6 : Below w.heap.size w w6 := hB2.grown qg hle (fun k e => (hR2.1.lt k e).1)
                      have hq6 := q2.keep (Kp.grown (by decide) qg hR2.1)
                      go_roundw
                      case rel => exact ⟨l2, m + 1, _, hq6, by omega, hB6, hR6, by omega⟩
                      case measure => show l2 < l; omega
                · obtain rfl : j = k := by omega
                  go_wp2_with fail
                  exact bodyPost_ret (results_tmp2 rfl _ _ _) rfl ⟨_, _, m, xs, rfl, hB, hR, by omega⟩
end Go.Proofs.Ytnnnfncebpkaoaa.Fo
