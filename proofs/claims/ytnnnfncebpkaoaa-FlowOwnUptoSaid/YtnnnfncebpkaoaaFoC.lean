/- flow: Lines, walked by hand: what is told is new. (r29) -/
import Derived.Test.YtnnnfncebpkaoaaFoB
import Derived.Laws.AppendOwnNone
namespace Go.Proofs.Ytnnnfncebpkaoaa.Fo
open Go Go.Proofs Go.RowKit Go.Proofs.Ytnnnfncebpkaoaa.Com Go.Proofs.Ytnnnfncebpkaoaa.Pm
set_option linter.unusedVariables false
/-- A line that was told: new numbers, in a block between B and T. -/
def El (W : World) (B T : Nat) (u : Value) : Prop :=
  (∃ a, u = .slice a 0 0) ∨ ∃ b n c cur, u = .slice (some ⟨b, 0, none⟩) n c ∧ B ≤ b ∧ b < T ∧ RowAt W b cur 3 ∧ cur.size = c ∧ n ≤ c ∧ c ≤ maxLen ∧ n ≤ 4000 ∧ ∀ j, j < n → ∃ z, cur[j]? = some (.int .i64 z)
theorem El.keep {W W' : World} {B T T' : Nat} {u : Value} (h : El W B T u) (hT : T ≤ T') (hb : ∀ b, b < T → b < W.heap.size → W'.heap[b]? = W.heap[b]?) : El W' B T' u := by
  rcases h with h | ⟨b, n, c, cur, h1, h2, h3, h4, h5⟩
  · exact .inl h
  · exact .inr ⟨b, n, c, cur, h1, h2, Nat.lt_of_lt_of_le h3 hT, h4.keep (hb b h3 (RowAt.lt h4)), h5⟩
theorem El.fr {W : World} {B T : Nat} {u : Value} (h : El W B T u) : FrI W B u := by
  rcases h with h | ⟨b, n, c, cur, h1, h2, h3, h4, h5, h6, h7, _⟩
  · exact .inl h
  · exact .inr ⟨b, n, c, cur, h1, h2, h4, h5, h6, h7⟩
theorem El.q {W : World} {B B' T : Nat} {u : Value} (h : El W B T u) : ∃ l, l ≤ 4000 ∧ Q B' W l u := by
  rcases h with h | ⟨b, n, c, cur, h1, h2, h3, h4, h5, h6, h7, h8, h9⟩
  · obtain ⟨a, h⟩ := h
    exact ⟨0, Nat.zero_le _, a, 0, h, Nat.le_refl _, Nat.zero_le _, fun _ => rfl, .inl rfl⟩
  · obtain ⟨f, hf, _⟩ := id h4
    refine ⟨n, h8, _, c, h1, h6, h7, nofun, .inr ⟨b, 0, rfl, RowAt.lt h4, .inr ⟨cur, f, hf⟩, fun j hj => ?_⟩⟩
    obtain ⟨z, hz⟩ := h9 j hj
    exact ⟨z, by rw [h4.cell, Nat.zero_add, hz]⟩
/-- Lines of one's own, each of new numbers, all below T. -/
def Lns (W : World) (B T : Nat) (v : Value) (n : Nat) (xs : List Value) : Prop := W.ownsRow B 32 1 v n xs ∧ ∀ u ∈ xs, El W B T u
/-- A line that grows: numbers of one's own. -/
def Ln (W : World) (B : Nat) (v : Value) (n : Nat) : Prop := ∃ xs, W.ownsRow B 3 1 v n xs ∧ ∀ u ∈ xs, ∃ z, u = .int .i64 z
theorem Ln.q {W : World} {B : Nat} {v : Value} {n : Nat} (h : Ln W B v n) : Q B W n v := by
  obtain ⟨xs, ho, hx⟩ := h
  have hl := ho.1
  rcases ho.2 with ⟨rfl, rfl⟩ | ⟨g, cap, cur, rfl, q1, q2, q3, q4, q5, q6⟩
  · exact ⟨none, 0, rfl, Nat.le_refl _, Nat.zero_le _, fun _ => rfl, .inl rfl⟩
  · refine ⟨_, cap, rfl, q3, q4, nofun, .inr ⟨g, 0, rfl, (Array.getElem?_eq_some_iff.1 q2).1, .inr ⟨cur, _, q2⟩, fun j hj => ?_⟩⟩
    obtain ⟨u, hu⟩ : ∃ u, xs[j]? = some u := ⟨_, List.getElem?_eq_getElem (by omega)⟩
    obtain ⟨z, rfl⟩ := hx u (List.mem_of_getElem? hu)
    refine ⟨z, ?_⟩
    rw [cell_of_row _ _ _ _ _ _ q2, Nat.zero_add]
    rw [← q6, List.getElem?_take] at hu
    split at hu
    · simpa using hu
    · cases hu
theorem Q.news {B : Nat} {W : World} {l : Nat} {b o c : Nat} (h : Q B W l (.slice (some ⟨b, o, none⟩) l c)) : ∃ news : List Value, news.length = l ∧ (∀ (j : Nat) u, news[j]? = some u → W.cell? ((⟨b, o, none⟩ : Addr).add j) = some u) ∧ ∀ u ∈ news, ∃ z, u = .int .i64 z := by
  obtain ⟨a, c', e, _, _, _, h5⟩ := h
  cases e
  rcases h5 with rfl | ⟨b', o', e, _, _, q⟩
  · exact ⟨[], rfl, fun j u hu => by simp at hu, fun u hu => by cases hu⟩
  · cases e
    refine ⟨(List.range l).map fun j => (W.cell? ⟨b, o + j, none⟩).getD undef, by simp, fun j u hu => ?_, fun u hu => ?_⟩
    · rw [List.getElem?_map] at hu
      cases hr : (List.range l)[j]? with
      | none => rw [hr] at hu; cases hu
      | some i =>
        have hj := (List.getElem?_eq_some_iff.1 hr).1
        rw [List.length_range] at hj
        rw [List.getElem?_range hj] at hr
        cases hr
        rw [List.getElem?_range hj] at hu
        obtain ⟨z, hz⟩ := q j hj
        simp only [Option.map_some, hz, Option.getD_some] at hu
        cases hu
        rw [show ((⟨b, o, none⟩ : Addr).add j) = ⟨b, o + j, none⟩ from by unfold Addr.add; split <;> simp_all]
        exact hz
    · obtain ⟨j, hj, rfl⟩ := List.mem_map.1 hu
      rw [List.mem_range] at hj
      obtain ⟨z, hz⟩ := q j hj
      exact ⟨z, by rw [hz]; rfl⟩
/-- How many numbers the first rows have. -/
def sums (ln : Nat → Nat) : Nat → Nat
  | 0 => 0
  | k + 1 => sums ln k + ln k
theorem sums_le (ln : Nat → Nat) (n : Nat) (h : ∀ i, i < n → ln i ≤ 1048576) : ∀ k, k ≤ n → sums ln k ≤ k * 1048576
  | 0, _ => by simp [sums]
  | k + 1, hk => by
    have h1 := sums_le ln n h k (by omega)
    have h2 := h k (by omega)
    show sums ln k + ln k ≤ _
    omega
theorem sums_mono (ln : Nat → Nat) (k : Nat) : ∀ n, k ≤ n → sums ln k ≤ sums ln n
  | 0, h => by
    have : k = 0 := by omega
    subst this; exact Nat.le_refl _
  | n + 1, h => by
    by_cases e : k = n + 1
    · subst e; exact Nat.le_refl _
    · exact Nat.le_trans (sums_mono ln k n (by omega)) (Nat.le_add_right _ _)
theorem ownsRow_below {W W' : World} {base e size n : Nat} {v : Value} {xs : List Value} (h : W.ownsRow base e size v n xs) (hB : Below W.heap.size W W') : W'.ownsRow base e size v n xs :=
  ⟨h.1, h.2.imp id fun ⟨g, cap, cur, q1, q2, q3, q4⟩ => ⟨g, cap, cur, q1, q2, (hB.block _ (Array.getElem?_eq_some_iff.1 q3).1).trans q3, q4⟩⟩
theorem Lns.below {W W' : World} {B T n : Nat} {v : Value} {xs : List Value} (h : Lns W B T v n xs) (hb : Below W.heap.size W W') : Lns W' B T v n xs :=
  ⟨ownsRow_below h.1 hb, fun u hu => (h.2 u hu).keep (Nat.le_refl _) fun b _ hbs => hb.block b hbs⟩
theorem Ln.below {W W' : World} {B n : Nat} {v : Value} (h : Ln W B v n) (hb : Below W.heap.size W W') : Ln W' B v n := by
  obtain ⟨xs, h1, h2⟩ := h; exact ⟨xs, ownsRow_below h1 hb, h2⟩
theorem own_ne {W : World} {B B' e e' s s' n n' : Nat} {v v' : Value} {xs xs' : List Value} (he : e ≠ e') (h : W.ownsRow B e s v n xs) (h' : W.ownsRow B' e' s' v' n' xs') : v.ownBlock = none ∨ v.ownBlock ≠ v'.ownBlock := by
  rcases h.2 with ⟨rfl, _⟩ | ⟨g, cap, cur, rfl, _, q3, _⟩
  · exact .inl rfl
  · right
    rcases h'.2 with ⟨rfl, _⟩ | ⟨g', cap', cur', rfl, _, q3', _⟩
    · intro e; cases e
    · intro e; cases e; rw [q3] at q3'; cases q3'; exact he rfl
theorem Lns.grown {W W' : World} {B T n s m : Nat} {v ll : Value} {xs ys : List Value} (h : Lns W B T v n xs) (hl : W.ownsRow T 3 s ll m ys) (hg : W.grownBy W' ll.ownBlock) : Lns W' B T v n xs :=
  ⟨h.1.kept hg (own_ne (by decide) h.1 hl), fun u hu => (h.2 u hu).keep (Nat.le_refl _) fun b hb hbs => hg.block b hbs fun e => by have := (hl.lt b e.symm).1; omega⟩
theorem El.keepT {W W' : World} {B T T' : Nat} {u : Value} (h : El W B T u) (hT : T ≤ T') (hb : ∀ (b : Nat) cur f, W.heap[b]? = some (.cells cur 3 f) → W'.heap[b]? = some (.cells cur 3 f)) : El W' B T' u := by
  rcases h with h | ⟨b, n, c, cur, h1, h2, h3, ⟨f, h4, h6⟩, h5⟩
  · exact .inl h
  · exact .inr ⟨b, n, c, cur, h1, h2, Nat.lt_of_lt_of_le h3 hT, ⟨f, hb _ _ _ h4, h6⟩, h5⟩
theorem El.mono {W : World} {B B' T : Nat} {u : Value} (h : El W B T u) (hB : B' ≤ B) : El W B' T u := by
  rcases h with h | ⟨b, n, c, cur, h1, h2, h3⟩
  · exact .inl h
  · exact .inr ⟨b, n, c, cur, h1, Nat.le_trans hB h2, h3⟩
theorem El.one {W : World} {B T : Nat} {u : Value} (h : El W B T u) : u.oneCell' = true := by
  rcases h with ⟨a, rfl⟩ | ⟨b, n, c, cur, rfl, _⟩ <;> rfl
/-- A line more. -/
theorem Lns.app {W W' : World} {B T m : Nat} {o v' s : Value} {xs : List Value} (h : Lns W B T o m xs) (hT : T ≤ W.heap.size) (hs : El W B W.heap.size s) (ho : W'.ownsRow B 32 1 v' (m + 1) (xs ++ [s])) (hg : W.grownBy W' o.ownBlock) : Lns W' B W'.heap.size v' (m + 1) (xs ++ [s]) := by
  have hk := (Kp.grown (B := B) (by decide) hg h.1).2.2
  refine ⟨ho, fun u hu => ?_⟩
  rcases List.mem_append.1 hu with hu | hu
  · exact (h.2 u hu).keepT (Nat.le_trans hT hg.size) hk
  · have : u = s := by simpa using hu
    subst this
    exact hs.keepT hg.size hk
theorem box_bool {W W' : World} {T s m b : Nat} {ll x : Value} {ys : List Value} {bb : Bool} (ho : W.ownsRow T 3 s ll m ys) (hg : W.grownBy W' ll.ownBlock) (h : W.heap[b]? = some (.cells #[x, .bool bb] 35 (0, 0))) : W'.cell? ⟨b, 1, none⟩ = some (.bool bb) := by
  have h2 : W'.heap[b]? = some (.cells #[x, .bool bb] 35 (0, 0)) := (hg.block b (Array.getElem?_eq_some_iff.1 h).1 fun e => by
    rcases ho.2 with ⟨rfl, _⟩ | ⟨g, cap, cur, rfl, _, q3, _⟩
    · cases e
    · cases e; rw [h] at q3; cases q3).trans h
  rw [cell_of_row _ _ _ _ _ _ h2]; rfl
/-- What is known in the loop. -/
def LI (w : World) (ln : Nat → Nat) (o ll : Value) (j : Nat) (W : World) : Prop := ∃ (m ml T : Nat) (xs : List Value), Below w.heap.size w W ∧ T ≤ W.heap.size ∧ w.heap.size ≤ T ∧ Lns W w.heap.size T o m xs ∧ m ≤ j ∧ Ln W T ll ml ∧ ml ≤ sums ln j
theorem infoI : (Go.Proofs.Try.prog.info? 3).map (fun i => (i.zero, i.size, i.bytes)) = some (some (.int .i64 0), 1, 8) := by kernel_rfl
theorem infoS : (Go.Proofs.Try.prog.info? 32).map (fun i => (i.zero, i.size, i.bytes)) = some (some (.slice none 0 0), 1, 24) := by kernel_rfl
/-- What Lines tells. -/
def LinesPost (w : World) (e : Ending) (W : World) : Prop := ∃ v k m xs, e = .returned (.tuple #[v, .int .i64 k]) ∧ Below w.heap.size w W ∧ m ≤ 1048576 ∧ Lns W w.heap.size W.heap.size v m xs
set_option maxRecDepth 100000 in
set_option maxHeartbeats 4000000 in
/-- flow.Lines. -/
theorem lines_walk (w : World) (ra : Option Addr) (n c : Nat) (ln : Nat → Nat) (hn : n ≤ 1048576)
    (hR : ∀ i, i < n → ∃ b o v s, ra = some ⟨b, o, none⟩ ∧ b < w.heap.size ∧ w.cell? ⟨b, o + i * 2, none⟩ = some v ∧ w.cell? ⟨b, o + i * 2 + 1, none⟩ = some (.bool s) ∧ ln i ≤ 1048576 ∧ Q w.heap.size w (ln i) v)
    (KCl : ∀ W T l v, Below w.heap.size w W → Q T W l v → l ≤ 4000 → Calls Go.Proofs.Try.prog 9 #[v] W fun e W' => ∃ s, e = .returned s ∧ Below W.heap.size W W' ∧ El W' W.heap.size W'.heap.size s) :
    Calls Go.Proofs.Try.prog 7 #[.slice ra n c] w (LinesPost w) := by
  have hsl : ∀ k, k ≤ n → sums ln k ≤ k * 1048576 := sums_le ln n fun i hi => by obtain ⟨b, o, v, s, _, _, _, _, h, _⟩ := hR i hi; exact h
  have none0 : ∀ W, Lns W w.heap.size W.heap.size (.slice none 0 0) 0 [] := fun W => ⟨World.ownsRow_nil .., fun u hu => by cases hu⟩
  go_enter Go.Proofs.Try.func7, Go.Proofs.Try.ntmps7
  go_wp2_with fail
  go_loopw [4, 13] (fun s i wr => ∃ k : Nat, k ≤ n ∧ i = .int .i64 k ∧ s = .int .i64 (sums ln k : Int) ∧ Below w.heap.size w wr) (fun _ i _ => n - (intOf i).toNat)
  case atStart => exact ⟨0, Nat.zero_le _, rfl, rfl, .refl _ _⟩
  case round =>
    obtain ⟨k, hk, rfl, rfl, hB⟩ := hrel
    by_cases hlt : k < n
    · obtain ⟨b, o, v, s, rfl, hb, hc0, hc1, hl, hq⟩ := hR k hlt
      obtain ⟨va, vc, rfl⟩ := hq.sl
      have y0 := (hB.cell (p := ⟨b, o + k * 2, none⟩) hb).trans hc0
      have y1 := (hB.cell (p := ⟨b, o + k * 2 + 1, none⟩) hb).trans hc1
      have hs1 : sums ln k + ln k ≤ 2000000000000 := by have := hsl k (by omega); omega
      go_wp2_with fail
      go_roundw
      case rel => exact ⟨k + 1, hlt, by simp, by simp [sums], hB.alloc hB.size _⟩
      case measure => simp [intOf]; omega
    · obtain rfl : k = n := by omega
      by_cases h45 : (4500 : Int) < (k : Int)
      · go_wp2_with fail
        exact bodyPost_ret (results_tmp2 rfl _ _ _) rfl ⟨_, _, 0, [], rfl, hB, Nat.zero_le _, none0 _⟩
      · by_cases h40 : (4000 : Int) < (sums ln k : Int)
        · go_wp2_with fail
          exact bodyPost_ret (results_tmp2 rfl _ _ _) rfl ⟨_, _, 0, [], rfl, hB, Nat.zero_le _, none0 _⟩
        · have hdec : (∃ k', k = k' + 1 ∧ ∃ b o, ra = some ⟨b, o, none⟩ ∧ wr.cell? ⟨b, o + k' * 2 + 1, none⟩ = some (.bool true)) ∨ (k = 0 ∨ ∃ k', k = k' + 1 ∧ ∃ b o, ra = some ⟨b, o, none⟩ ∧ wr.cell? ⟨b, o + k' * 2 + 1, none⟩ = some (.bool false)) := by
            cases k with
            | zero => exact .inr (.inl rfl)
            | succ k' =>
              obtain ⟨b, o, v, s, rfl, hb, hc0, hc1, hl, hq⟩ := hR k' (by omega)
              have y1 := (hB.cell (p := ⟨b, o + k' * 2 + 1, none⟩) hb).trans hc1
              cases s
              · exact .inr (.inr ⟨k', rfl, b, o, rfl, y1⟩)
              · exact .inl ⟨k', rfl, b, o, rfl, y1⟩
          rcases hdec with ⟨k', rfl, b, o, rfl, y1⟩ | hdec
          · have hkb : k' ≤ 1048576 := by omega
            go_wp2_with fail
            exact bodyPost_ret (results_tmp2 rfl _ _ _) rfl ⟨_, _, 0, [], rfl, hB, Nat.zero_le _, none0 _⟩
          · have hS : sums ln k ≤ 4000 := by omega
            have hkn := hn
            have h0 : LI w ln (.slice none 0 0) (.slice none 0 0) 0 wr := ⟨0, 0, wr.heap.size, [], hB, Nat.le_refl _, hB.size, none0 wr, Nat.le_refl _, ⟨[], World.ownsRow_nil .., fun u hu => by cases hu⟩, Nat.zero_le _⟩
            have hdec2 : (decide (0 < k) = false ∧ k = 0) ∨ ∃ (b o : Nat), 0 < k ∧ ra = some ⟨b, o, none⟩ ∧ wr.cell? ⟨b, o + (k - 1) * 2 + 1, none⟩ = some (.bool false) := by
              rcases hdec with rfl | ⟨k', rfl, b, o, h1, h2⟩
              · exact .inl ⟨rfl, rfl⟩
              · exact .inr ⟨b, o, by omega, h1, h2⟩
            clear hdec
            rcases hdec2 with ⟨d0, dk⟩ | ⟨b, o, d0, rfl, y1⟩
            · go_wp2_with fail
              go_loopw [7, 8, 44] (fun o ll i wr => ∃ j : Nat, j ≤ k ∧ i = .int .i64 j ∧ LI w ln o ll j wr) (fun _ _ i _ => k - (intOf i).toNat)
              case atStart => exact ⟨0, Nat.zero_le _, rfl, h0⟩
              case round =>
                obtain ⟨j, hj, rfl, m, ml, T, xs, hBB, hT, hT0, hL, hm, hl, hml⟩ := hrel
                obtain rfl : j = k := by omega
                go_wp2_with fail
                exact bodyPost_ret (results_tmp2 rfl _ _ _) rfl ⟨_, _, m, xs, rfl, hBB, by omega, hL.1, fun u hu => (hL.2 u hu).keep hT fun b _ _ => rfl⟩
            · go_wp2_with fail
              go_loopw [7, 8, 44] (fun o ll i wr => ∃ j : Nat, j ≤ k ∧ i = .int .i64 j ∧ LI w ln o ll j wr) (fun _ _ i _ => k - (intOf i).toNat)
              case atStart => exact ⟨0, Nat.zero_le _, rfl, h0⟩
              case round =>
                obtain ⟨j, hj, rfl, m, ml, T, xs, hBB, hT, hT0, hL, hm, hl, hml⟩ := hrel
                by_cases hlj : j < k
                · obtain ⟨rb, ro, v, s, hra, hb, hc0, hc1, hl1, hq⟩ := hR j hlj
                  obtain ⟨va, vc, rfl⟩ := hq.sl
                  have x0 := (hBB.cell (p := ⟨rb, ro + j * 2, none⟩) hb).trans hc0
                  have x1 := (hBB.cell (p := ⟨rb, ro + j * 2 + 1, none⟩) hb).trans hc1
                  cases hra
                  obtain ⟨lj, hlje⟩ : ∃ x, ln j = x := ⟨_, rfl⟩
                  have hss : ml + ln j ≤ 4000 := by
                    have := sums_mono ln (j + 1) k hlj
                    have e : sums ln (j + 1) = sums ln j + ln j := rfl
                    omega
                  obtain ⟨vals, ho, hvi⟩ := hl
                  obtain ⟨io, hio, hz0, hz1, hz2⟩ := info_parts infoI
                  obtain ⟨iS, hiS, hs0, hs1, hs2⟩ := info_parts infoS
                  have hqj : Q w.heap.size wr (ln j) (.slice va (ln j) vc) := hq.keep ⟨hBB.size, fun b hb _ => hBB.block b hb, fun b cur f q => (hBB.block b (Array.getElem?_eq_some_iff.1 q).1).trans q⟩
                  have hob := ho.alloc (.cells #[.slice va (ln j) vc, .bool s] 35)
                  have hTb : T ≤ (wr.alloc (.cells #[.slice va (ln j) vc, .bool s] 35)).heap.size := by rw [World.size_alloc]; omega
                  rw [hlje] at hqj hob hTb hss hl1 x0
                  have hNb : Below wr.heap.size wr (wr.alloc (.cells #[.slice va lj vc, .bool s] 35)) := (Below.refl _ _).alloc (Nat.le_refl _) _
                  have hsj : sums ln (j + 1) = sums ln j + lj := by rw [← hlje]; rfl
                  cases va with
                  | none =>
                    obtain ⟨a', c', e, g1, g2, g3, _⟩ := hqj
                    cases e
                    have hvc : vc = 0 := g3 rfl
                    have hlz : lj = 0 := by omega
                    subst hvc; subst hlz
                    cases s
                    · go_wp2_with (at_builtin; refine wpList_append_own_none rfl _ _ 32 rfl T 3 io 1 Go.Proofs.Try.underlying32 hio _ _ _ rfl hob rfl ?_)
                      have hBc := hBB.trans (hNb.mono hBB.size)
                      have hLc : Ln _ T _ ml := ⟨vals, ownsRow_below ho hNb, hvi⟩
                      have hLns := hL.below hNb
                      have hTc := Nat.le_trans hT hNb.size
                      refine (KCl _ T _ _ hBc (Ln.q hLc) (by omega)).mono ?_
                      rintro e w7 ⟨s7, rfl, b7, el7⟩
                      obtain ⟨ya, yn, yc, rfl⟩ : ∃ a n c, s7 = .slice a n c := by
                        rcases el7 with ⟨_, rfl⟩ | ⟨b, n, c, cur, rfl, _⟩ <;> exact ⟨_, _, _, rfl⟩
                      have hB7 := hBc.trans (b7.mono hBc.size)
                      have hL7 := hLns.below b7
                      have hT7 : T ≤ w7.heap.size := Nat.le_trans hTc b7.size
                      have hr7 := hL7.1.alloc (.cells #[.slice ya yn yc] 32)
                      have h7s := hB7.size
                      have hon7 : ∀ u ∈ [Value.slice ya yn yc], u.oneCell' = true := fun u hu => by
                        rw [List.mem_singleton.1 hu]; rfl
                      go_wp2_with (at_builtin; refine wpList_append_own _ rfl _ _ 22 rfl w.heap.size 32 iS _ 1 24 Go.Proofs.Try.underlying22 hiS hs0 hs1 hs2 rfl (by decide) _ _ _ rfl hr7 ⟨w7.heap.size, 0, none⟩ 1 1 [.slice ya yn yc] rfl rfl (cell_one_new _ _ _) hon7 (by unfold maxLen; omega) (by omega) (by rw [World.size_alloc]; omega) ?_; intro o' w8 hown8 hgrow8 _)
                      have qg8 : w7.grownBy w8 _ := (World.grownBy_alloc w7 _ _).trans hgrow8
                      have hL8 := hL7.app hT7 (el7.mono hBc.size) hown8 qg8
                      have hB8 := hB7.grown qg8 h7s (fun k e => (hL7.1.lt k e).1)
                      go_roundw
                      case rel => exact ⟨j + 1, hlj, by simp, m + 1, 0, w8.heap.size, _, hB8, Nat.le_refl _, hB8.size, hL8, by omega, ⟨[], World.ownsRow_nil .., fun u hu => by cases hu⟩, Nat.zero_le _⟩
                      case measure => simp [intOf]; omega
                    · go_wp2_with (at_builtin; refine wpList_append_own_none rfl _ _ 32 rfl T 3 io 1 Go.Proofs.Try.underlying32 hio _ _ _ rfl hob rfl ?_)
                      go_roundw
                      case rel => exact ⟨j + 1, hlj, by simp, m, ml, T, xs, hBB.trans (hNb.mono hBB.size), Nat.le_trans hT hNb.size, hT0, hL.below hNb, by omega, ⟨vals, ownsRow_below ho hNb, hvi⟩, by omega⟩
                      case measure => simp [intOf]; omega
                  | some ad =>
                    obtain ⟨news, hnl0, hnc, hni⟩ : ∃ news : List Value, news.length = lj ∧ (∀ (i : Nat) u, news[i]? = some u → (wr.alloc (.cells #[.slice (some ad) lj vc, .bool s] 35)).cell? (ad.add i) = some u) ∧ ∀ u ∈ news, ∃ z, u = .int .i64 z := by
                      have hqb := hqj.keep (Kp.below (B := w.heap.size) hNb)
                      have hq2 := hqb
                      obtain ⟨a', c', e, _, _, _, h5⟩ := hqb
                      cases e
                      rcases h5 with h5 | ⟨b', o', e, _⟩
                      · exact ⟨[], h5.symm, fun i u hu => by simp at hu, fun u hu => by cases hu⟩
                      · cases e
                        exact hq2.news
                    have hnl : news.length = lj * 1 := by omega
                    have hn1 : ∀ u ∈ news, u.oneCell' = true := fun u hu => by obtain ⟨z, rfl⟩ := hni u hu; rfl
                    cases s
                    · go_wp2_with (at_builtin; refine wpList_append_own _ rfl _ _ 32 rfl T 3 io _ 1 8 Go.Proofs.Try.underlying32 hio hz0 hz1 hz2 rfl (by decide) _ _ _ rfl hob ad lj vc news rfl hnl hnc hn1 (by unfold maxLen; omega) (by omega) hTb ?_; intro ll' w6 hown' hgrow _; have hbx : w6.cell? ⟨wr.heap.size, 1, none⟩ = some (.bool false) := box_bool hob hgrow (heap_alloc_new wr _))
                      have hBc : Below w.heap.size w w6 := (hBB.trans (hNb.mono hBB.size)).grown hgrow (Nat.le_trans hBB.size hNb.size) (fun k e => Nat.le_trans hT0 (hob.lt k e).1)
                      have hLc : Ln w6 T ll' (ml + lj) := ⟨vals ++ news, hown', fun u hu => (List.mem_append.1 hu).elim (hvi u) (hni u)⟩
                      have hLns := (hL.below hNb).grown hob hgrow
                      have hTc : T ≤ w6.heap.size := Nat.le_trans hTb hgrow.size
                      refine (KCl _ T _ _ hBc (Ln.q hLc) (by omega)).mono ?_
                      rintro e w7 ⟨s7, rfl, b7, el7⟩
                      obtain ⟨ya, yn, yc, rfl⟩ : ∃ a n c, s7 = .slice a n c := by
                        rcases el7 with ⟨_, rfl⟩ | ⟨b, n, c, cur, rfl, _⟩ <;> exact ⟨_, _, _, rfl⟩
                      have hB7 := hBc.trans (b7.mono hBc.size)
                      have hL7 := hLns.below b7
                      have hT7 : T ≤ w7.heap.size := Nat.le_trans hTc b7.size
                      have hr7 := hL7.1.alloc (.cells #[.slice ya yn yc] 32)
                      have h7s := hB7.size
                      have hon7 : ∀ u ∈ [Value.slice ya yn yc], u.oneCell' = true := fun u hu => by
                        rw [List.mem_singleton.1 hu]; rfl
                      go_wp2_with (at_builtin; refine wpList_append_own _ rfl _ _ 22 rfl w.heap.size 32 iS _ 1 24 Go.Proofs.Try.underlying22 hiS hs0 hs1 hs2 rfl (by decide) _ _ _ rfl hr7 ⟨w7.heap.size, 0, none⟩ 1 1 [.slice ya yn yc] rfl rfl (cell_one_new _ _ _) hon7 (by unfold maxLen; omega) (by omega) (by rw [World.size_alloc]; omega) ?_; intro o' w8 hown8 hgrow8 _)
                      have qg8 : w7.grownBy w8 _ := (World.grownBy_alloc w7 _ _).trans hgrow8
                      have hL8 := hL7.app hT7 (el7.mono hBc.size) hown8 qg8
                      have hB8 := hB7.grown qg8 h7s (fun k e => (hL7.1.lt k e).1)
                      go_roundw
                      case rel => exact ⟨j + 1, hlj, by simp, m + 1, 0, w8.heap.size, _, hB8, Nat.le_refl _, hB8.size, hL8, by omega, ⟨[], World.ownsRow_nil .., fun u hu => by cases hu⟩, Nat.zero_le _⟩
                      case measure => simp [intOf]; omega
                    · go_wp2_with (at_builtin; refine wpList_append_own _ rfl _ _ 32 rfl T 3 io _ 1 8 Go.Proofs.Try.underlying32 hio hz0 hz1 hz2 rfl (by decide) _ _ _ rfl hob ad lj vc news rfl hnl hnc hn1 (by unfold maxLen; omega) (by omega) hTb ?_; intro ll' w6 hown' hgrow _; have hbx : w6.cell? ⟨wr.heap.size, 1, none⟩ = some (.bool true) := box_bool hob hgrow (heap_alloc_new wr _))
                      have hBc : Below w.heap.size w w6 := (hBB.trans (hNb.mono hBB.size)).grown hgrow (Nat.le_trans hBB.size hNb.size) (fun k e => Nat.le_trans hT0 (hob.lt k e).1)
                      have hLc : Ln w6 T ll' (ml + lj) := ⟨vals ++ news, hown', fun u hu => (List.mem_append.1 hu).elim (hvi u) (hni u)⟩
                      have hLns := (hL.below hNb).grown hob hgrow
                      have hTc : T ≤ w6.heap.size := Nat.le_trans hTb hgrow.size
                      go_roundw
                      case rel => exact ⟨j + 1, hlj, by simp, m, ml + lj, T, xs, hBc, hTc, hT0, hLns, by omega, hLc, by omega⟩
                      case measure => simp [intOf]; omega
                · obtain rfl : j = k := by omega
                  go_wp2_with fail
                  exact bodyPost_ret (results_tmp2 rfl _ _ _) rfl ⟨_, _, m, xs, rfl, hBB, by omega, hL.1, fun u hu => (hL.2 u hu).keep hT fun b _ _ => rfl⟩
end Go.Proofs.Ytnnnfncebpkaoaa.Fo
