/- The contract of slc.triple: it writes the keys at the block that it is given. -/
import Derived.Test.YtgokbjnpjjdboaaSlcA
namespace Go.Proofs.Ytgokbjnpjjdboaa.Slc
open Go.ChangeShapes Go.WideShapes Go.ChangeAt Go.RowKit
open Go.Proofs.Ytgokbjnpjjdboaa.Com Go.Proofs.Ytgokbjnpjjdboaa.Row
set_option maxRecDepth 100000
attribute [local go_sem ↓] loadKey storeKey allocKey load19

def numV (l : List Int) : List Value := l.map (Value.int .u8)
/-- The end of triple: bytes of its own are handed back; the keys at block g are now k'; nothing else has turned. -/
def Tri (g : Nat) (w : World) (k' : Ky) (l : List Int) (e : Ending) (w' : World) : Prop :=
  ∃ v, e = .returned v ∧ Own w' w.heap.size 5 v (numV l) ∧ (l = [] → v = .slice none 0 0) ∧ w'.heap[g]? = some (.cells (keyC k').toArray 52 (0, 0)) ∧ But g w w'

theorem own_new (w w0 : World) (l : List Value) (n : Nat) (hn : n = l.length) (hm : l.length ≤ maxLen) (h : w0.heap.size ≤ w.heap.size) : Own (w.alloc (.cells l.toArray 5)) w0.heap.size 5 (.slice (some ⟨w.heap.size, 0, none⟩) n n) l := by
  subst hn
  refine ⟨by simp, .inr ⟨w.heap.size, l.length, l.toArray, rfl, h, heap_alloc_new _ _, Nat.le_refl _, hm, by simp, ?_⟩⟩
  simp
theorem tri_nil (g : Nat) (w w' : World) (k' : Ky) (h : w'.heap[g]? = some (.cells (keyC k').toArray 52 (0, 0))) (hb : But g w w') : Tri g w k' [] (.returned (.slice none 0 0)) w' :=
  ⟨_, rfl, Own.nil _ _ _, fun _ => rfl, h, hb⟩
theorem tri_three (g : Nat) (w w' : World) (k' : Ky) (a b c : Int) (h : w'.heap[g]? = some (.cells (keyC k').toArray 52 (0, 0))) (hb : But g w w') :
    Tri g w k' [a, b, c] (.returned (.slice (some ⟨w'.heap.size, 0, none⟩) 3 3)) (w'.alloc (.cells #[.int .u8 a, .int .u8 b, .int .u8 c] 5)) :=
  ⟨_, rfl, own_new w' w (numV [a, b, c]) 3 rfl (by simp [numV, maxLen]) hb.size, (fun h => by cases h), (heap_alloc_old _ _ (heap_lt h)).trans h, hb.trans (But.of_below (below_alloc _ _))⟩

theorem tri_three' (g : Nat) (w w' : World) (k' : Ky) (a b c : Int) (N : Nat) (hN : N = w'.heap.size) (h : w'.heap[g]? = some (.cells (keyC k').toArray 52 (0, 0))) (hb : But g w w') :
    Tri g w k' [a, b, c] (.returned (.slice (some ⟨N, 0, none⟩) 3 3)) (w'.alloc (.cells #[.int .u8 a, .int .u8 b, .int .u8 c] 5)) := by
  subst hN; exact tri_three g w w' k' a b c h hb
theorem tri_drew {g : Nat} {w W : World} {k : Ky} {l : List Int} {e : Ending} (h : Tri g w k l e W) : Tri g w k l e W.drew := by
  obtain ⟨v, h1, h2, h3, h4, h5⟩ := h
  exact ⟨v, h1, h2.keep ((Below.refl _ _).drew), h3, h4, h5.trans (But.of_below ((Below.refl _ _).drew))⟩
/-- Behind two stores into the keys at block g. -/
theorem set_two (g : Nat) (w : World) (k : Ky) (f : Nat) (hf : f < 19) (x y : Int) (h : w.heap[g]? = some (.cells (keyC k).toArray 52 (0, 0))) :
    ((w.setCell ⟨g, f, none⟩ (.int .u8 x)).setCell ⟨g, 19 + f, none⟩ (.int .u8 y)).heap[g]? = some (.cells (keyC (setK k f x y)).toArray 52 (0, 0)) ∧
    But g w ((w.setCell ⟨g, f, none⟩ (.int .u8 x)).setCell ⟨g, 19 + f, none⟩ (.int .u8 y)) := by
  have h1 := heap_setCell_same w g f _ _ (.int .u8 x) h
  rw [keyC_set_lv k f hf] at h1
  have h2 := heap_setCell_same _ g (19 + f) _ _ (.int .u8 y) h1
  rw [keyC_set_ch] at h2
  exact ⟨h2, (But.set _ _ _ _).trans (But.set _ _ _ _)⟩

set_option maxHeartbeats 1000000 in
theorem triple_any (k : Ky) (hr : RngK k) (g : Nat) (f n c : Int) (f0 : 0 ≤ f) (f1 : f ≤ 255) (n0 : 0 ≤ n) (n1 : n ≤ 255) (c0 : 0 ≤ c) (c1 : c ≤ 255) (w : World)
    (hg : w.heap[g]? = some (.cells (keyC k).toArray 52 (0, 0))) :
    Calls Try.prog 37 #[.pointer (some ⟨g, 0, none⟩), .int .u8 f, .int .u8 n, .int .u8 c] w (Tri g w (tripleS k f n c).1 (tripleS k f n c).2) := by
  have HG := Lib.hid hg
  by_cases hf : f < 1 ∨ 18 < f
  · by_cases ha : 128 ≤ n
    · have HT : Hid (tripleS k f n c = (k, [])) := by show _ = _; unfold tripleS; rw [if_pos hf, if_pos ha]
      rw [HT.out]
      clear hg
      by_cases hf1 : f < 1
      · go_enter Try.func37, Try.ntmps37
        go_wp2_with fail
        go_ret
        exact tri_nil _ _ _ _ HG.out (But.refl _ _)
      · have hf2 : 18 < f := by omega
        go_enter Try.func37, Try.ntmps37
        go_wp2_with fail
        go_ret
        exact tri_nil _ _ _ _ HG.out (But.refl _ _)
    · have HT : Hid (tripleS k f n c = (k, [f, 0, 0])) := by show _ = _; unfold tripleS; rw [if_pos hf, if_neg ha]
      rw [HT.out]
      clear hg
      by_cases hf1 : f < 1
      · go_enter Try.func37, Try.ntmps37
        go_wp2_with fail
        go_ret
        exact tri_three _ _ _ _ _ _ _ HG.out (But.refl _ _)
      · have hf2 : 18 < f := by omega
        go_enter Try.func37, Try.ntmps37
        go_wp2_with fail
        go_ret
        exact tri_three _ _ _ _ _ _ _ HG.out (But.refl _ _)
  · have i1 : 1 ≤ f := by omega
    have i2 : f ≤ 18 := by omega
    have cl : w.cell? ⟨g, f.toNat, none⟩ = some (.int .u8 (k.lv f.toNat)) := by rw [cell_of_row _ _ _ _ _ _ hg]; simpa using keyC_lv k f.toNat (by omega)
    have cc : w.cell? ⟨g, 19 + f.toNat, none⟩ = some (.int .u8 (k.ch f.toNat)) := by rw [cell_of_row _ _ _ _ _ _ hg]; simpa using keyC_ch k f.toNat (by omega)
    have fl : w.frozen? ⟨g, f.toNat, none⟩ = false := frozen_of_row _ _ _ _ _ hg
    have fc : w.frozen? ⟨g, 19 + f.toNat, none⟩ = false := frozen_of_row _ _ _ _ _ hg
    have r0 := hr f.toNat
    have hset := fun x y => set_two g w k f.toNat (by omega) x y hg
    have HS := Lib.hid hset
    obtain ⟨l, hl⟩ : ∃ l, k.lv f.toNat = l := ⟨_, rfl⟩
    obtain ⟨q, hq⟩ : ∃ q, k.ch f.toNat = q := ⟨_, rfl⟩
    have hT : tripleS k f n c = if n % 4 = l ∧ c = q then (k, [])
        else if 128 ≤ n then (if n % 4 = 3 then k else setK k f.toNat (n % 4) c, [])
        else if n % 4 = 0 then (setK k f.toNat 0 c, [f, 128, c])
        else if n % 4 = 3 then (k, [f, l, q])
        else if l = 1 ∧ n % 4 = 1 then (setK k f.toNat 0 0, [f, 0, 0])
        else if l = 1 then (k, [f, 1, q])
        else (setK k f.toNat (n % 4) c, [f, 128 + n % 4, c]) := by unfold tripleS; rw [if_neg hf, hl, hq]
    rw [hl] at cl r0; rw [hq] at cc r0
    obtain ⟨l0, l1, q0, q1⟩ := r0
    rw [hT]
    have hgl := heap_lt hg
    clear hT hset hg hl hq hr hf
    obtain ⟨m, hm⟩ : ∃ m, n % 4 = m := ⟨_, rfl⟩
    have m0 : 0 ≤ m := by omega
    have m1 : m ≤ 3 := by omega
    rw [hm]
    have i3 : (f : Int) < 19 := by omega
    by_cases h1 : m = l ∧ c = q
    · rw [if_pos h1]
      obtain ⟨rfl, rfl⟩ := h1
      go_enter Try.func37, Try.ntmps37
      go_wp2_with fail
      go_ret
      exact tri_nil _ _ _ _ HG.out (But.refl _ _)
    · rw [if_neg h1]
      have hb : ((m == l) = true ∧ (c == q) = false) ∨ (m == l) = false := by
        by_cases e : m = l
        · exact .inl ⟨by simpa using e, by simpa using fun h => h1 ⟨e, h⟩⟩
        · exact .inr (by simpa using e)
      clear h1
      by_cases h2 : 128 ≤ n
      · rw [if_pos h2]
        by_cases h3 : m = 3
        · rw [if_pos h3]
          have b3 : (m == 3) = true := by simpa using h3
          clear h3
          rcases hb with ⟨b1, b2⟩ | b1
          all_goals
            go_enter Try.func37, Try.ntmps37
            go_wp2_with fail
            go_ret
            exact tri_nil _ _ _ _ HG.out (But.refl _ _)
        · rw [if_neg h3]
          have b3 : (m == 3) = false := by simpa using h3
          have b4 : (m != 3) = true := by simpa using h3
          clear h3
          rcases hb with ⟨b1, b2⟩ | b1
          all_goals
            go_enter Try.func37, Try.ntmps37
            go_wp2_with fail
            go_region
            go_wp2_with fail
            go_ret
            exact tri_drew (tri_nil _ _ _ _ (HS.out m c).1 (HS.out m c).2)
      · rw [if_neg h2]
        by_cases h3 : m = 0
        · rw [if_pos h3]
          have b3 : (m == 0) = true := by simpa using h3
          clear h3
          rcases hb with ⟨b1, b2⟩ | b1
          all_goals
            go_enter Try.func37, Try.ntmps37
            go_wp2_with fail
            go_region
            go_wp2_with fail
            go_ret
            exact tri_drew (tri_three' _ _ _ _ _ _ _ w.heap.size (by simp [World.setCell]) (HS.out 0 c).1 (HS.out 0 c).2)
        · rw [if_neg h3]
          have b3 : (m == 0) = false := by simpa using h3
          clear h3
          by_cases h4 : m = 3
          · rw [if_pos h4]
            have b4 : (m == 3) = true := by simpa using h4
            clear h4
            rcases hb with ⟨b1, b2⟩ | b1
            all_goals
              go_enter Try.func37, Try.ntmps37
              go_wp2_with fail
              go_region
              go_wp2_with fail
              go_ret
              exact tri_drew (tri_three _ _ _ _ _ _ _ HG.out (But.refl _ _))
          · rw [if_neg h4]
            have b4 : (m == 3) = false := by simpa using h4
            clear h4
            by_cases h5 : l = 1
            · have b5 : (l == 1) = true := by simpa using h5
              by_cases h6 : m = 1
              · rw [if_pos ⟨h5, h6⟩]
                have b6 : (m == 1) = true := by simpa using h6
                clear h5 h6
                rcases hb with ⟨b1, b2⟩ | b1
                all_goals
                  go_enter Try.func37, Try.ntmps37
                  go_wp2_with fail
                  go_region
                  go_wp2_with fail
                  go_ret
                  exact tri_drew (tri_three' _ _ _ _ _ _ _ w.heap.size (by simp [World.setCell]) (HS.out 0 0).1 (HS.out 0 0).2)
              · rw [if_neg (fun h => h6 h.2), if_pos h5]
                have b6 : (m == 1) = false := by simpa using h6
                clear h5 h6
                rcases hb with ⟨b1, b2⟩ | b1
                all_goals
                  go_enter Try.func37, Try.ntmps37
                  go_wp2_with fail
                  go_ret
                  exact tri_three _ _ _ _ _ _ _ HG.out (But.refl _ _)
            · have b5 : (l == 1) = false := by simpa using h5
              rw [if_neg (fun h => h5 h.1), if_neg h5]
              clear h5
              rcases hb with ⟨b1, b2⟩ | b1
              all_goals
                go_enter Try.func37, Try.ntmps37
                go_wp2_with fail
                go_region
                go_wp2_with fail
                go_ret
                exact tri_drew (tri_three' _ _ _ _ _ _ _ w.heap.size (by simp [World.setCell]) (HS.out m c).1 (HS.out m c).2)
end Go.Proofs.Ytgokbjnpjjdboaa.Slc
