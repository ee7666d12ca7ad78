/- Contracts of package width: in, Of. -/
import Derived.Test.YtepegjihlppkcaaRowB
namespace Go.Proofs.Ytepegjihlppkcaa.Width
open Go.ChangeShapes Go.WideShapes Go.ChangeAt Go.RowKit
open Go.Proofs.Ytepegjihlppkcaa.Com Go.Proofs.Ytepegjihlppkcaa.Row
set_option maxRecDepth 100000

theorem size2 : (Try.prog.info? 59).map (·.size) = some 2 := by kernel_rfl
theorem zero2 : (Try.prog.info? 59).bind (·.zero) = some (.agg #[.int .i64 0, .int .i64 0]) := by kernel_rfl
theorem load2 (v : Value) : Instr.loadAt 59 v = rowLoad 59 v := rfl
theorem store2 (p v : Value) : Instr.storeAt 59 p v = rowStore 59 p v := rfl
theorem alloc2 (b : Bool) (v : Value) : Instr.alloc 59 b v = rowAlloc 59 b v := rfl
attribute [local go_sem ↓] load2 store2 alloc2

def inP (n : Int) (p : Int × Int) : Bool := decide (p.1 ≤ n ∧ n ≤ p.2)
def inS (n : Int) (ps : List (Int × Int)) : Bool := ps.any (inP n)
/-- A table of ranges lies at block b. -/
def Tab (w : World) (b : Nat) (ps : List (Int × Int)) : Prop := ∀ j p, ps[j]? = some p → w.cell? ⟨b, j * 2, none⟩ = some (.int .i64 p.1) ∧ w.cell? ⟨b, j * 2 + 1, none⟩ = some (.int .i64 p.2)

theorem inS_step (n : Int) (ps : List (Int × Int)) (j : Nat) (p : Int × Int) (hp : ps[j]? = some p) : inS n (ps.take (j + 1)) = (inS n (ps.take j) || inP n p) := by
  unfold inS
  rw [List.take_add_one, hp]
  simp [List.any_append]
theorem inS_at (n : Int) (ps : List (Int × Int)) (j : Nat) (p : Int × Int) (hp : ps[j]? = some p) (h : inP n p = true) : inS n ps = true :=
  List.any_eq_true.2 ⟨p, List.mem_of_getElem? hp, h⟩
theorem load_pair (b j : Nat) (x y : Int) (wr : World) (c0 : wr.cell? ⟨b, j * 2, none⟩ = some (.int .i64 x)) (c1 : wr.cell? ⟨b, j * 2 + 1, none⟩ = some (.int .i64 y)) :
    (rowLoad 59 (.pointer (some ⟨b, j * 2, none⟩))).run Try.prog wr = .ok (.agg #[.int .i64 x, .int .i64 y]) wr :=
  run_rowLoad_part (P := Try.prog) 59 ⟨b, j * 2, none⟩ wr _ Try.underlying59 rfl [.int .i64 x, .int .i64 y] size2 (by
    intro i v hv
    match i, hv with
    | 0, hv => simp at hv; subst hv; exact c0
    | 1, hv => simp at hv; subst hv; exact c1
    | i+2, hv => simp at hv)
theorem box_pair (x y : Int) (W : World) : ∃ W', (rowStore 59 (.pointer (some ⟨W.heap.size, 0, none⟩)) (.agg #[.int .i64 x, .int .i64 y])).run Try.prog (W.alloc (.cells #[.int .i64 0, .int .i64 0] 59)) = .ok () W' ∧
    Below W.heap.size W W' ∧ W'.cell? ⟨W.heap.size, 0, none⟩ = some (.int .i64 x) ∧ W'.cell? ⟨W.heap.size, 1, none⟩ = some (.int .i64 y) := by
  have hz := heap_alloc_new W (.cells #[.int .i64 0, .int .i64 0] 59)
  refine ⟨_, run_rowStore 59 _ _ _ _ #[.int .i64 x, .int .i64 y] hz size2 rfl (by simp; exact ⟨rfl, rfl⟩), (below_alloc _ _).trans ((But.setRow _ _ _).below (Nat.le_refl _) (by simp)), ?_, ?_⟩
  · rw [cell_setRow_same _ _ _ _ _ _ _ hz]; rfl
  · rw [cell_setRow_same _ _ _ _ _ _ _ hz]; rfl
theorem alloc_pair (W : World) (v : Value) : (rowAlloc 59 true v).run Try.prog W = .ok (.pointer (some ⟨W.heap.size, 0, none⟩)) (W.alloc (.cells #[.int .i64 0, .int .i64 0] 59)) :=
  run_rowAlloc _ W v _ zero2

theorem in_any (n : Int) (ps : List (Int × Int)) (b L : Nat) (hL : L = ps.length) (hm : L ≤ 100) (w : World) (ht : Tab w b ps) :
    Calls Try.prog 36 #[.int .i64 n, .slice (some ⟨b, 0, none⟩) L L] w fun e w' => e = .returned (.bool (inS n ps)) ∧ Below w.heap.size w w' := by
  have HL := Lib.hid hL; clear hL
  go_enter Try.func36, Try.ntmps36
  go_wp2_with fail
  go_loopw [9] (fun i wr => ∃ j : Nat, j ≤ L ∧ i = .int .i64 j ∧ Hid (inS n (ps.take j) = false) ∧ Below w.heap.size w wr) (fun i _ => L - (intOf i).toNat)
  case atStart => exact ⟨0, Nat.zero_le _, rfl, rfl, Below.refl _ _⟩
  case round =>
    obtain ⟨j, hj, rfl, HN, hb⟩ := hrel
    by_cases hlt : j < L
    · have hp : ps[j]? = some ps[j] := List.getElem?_eq_getElem (by have := HL.out; omega)
      have HS := Lib.hid (inS_step n ps j _ hp)
      have HA := Lib.hid (inS_at n ps j _ hp)
      obtain ⟨c0, c1⟩ := ht j _ hp
      generalize ps[j] = p at *
      obtain ⟨x, y⟩ := p
      have hl := load_pair b j x y wr (cell_keep c0 hb) (cell_keep c1 hb)
      clear c0 c1 hp
      have ha := alloc_pair wr
      obtain ⟨W1, hs, L1, k0, k1⟩ := box_pair x y wr
      replace hb := hb.trans (L1.mono hb.size)
      clear L1
      by_cases hin : inP n (x, y) = true
      · have HR := Lib.hid (HA.out hin)
        obtain ⟨q0, q1⟩ : x ≤ n ∧ n ≤ y := by simpa [inP] using hin
        clear HA hin
        go_wp2_with fail
        go_ret
        exact ⟨by rw [HR.out]; rfl, hb⟩
      · have hin : inP n (x, y) = false := by simpa using hin
        have hq : n < x ∨ (x ≤ n ∧ y < n) := by simp [inP] at hin; omega
        have HR : Hid (inS n (List.take (j+1) ps) = false) := by show _ = _; rw [HS.out, HN.out, hin]; rfl
        clear HA hin HS HN
        rcases hq with q0 | ⟨q0, q1⟩
        all_goals
          go_wp2_with fail
          go_roundw
          case rel => exact ⟨j + 1, by omega, by simp, HR, hb⟩
          case measure => show L - ((j : Int) + 1).toNat < L - (j : Int).toNat; omega
    · obtain rfl : j = L := by omega
      have HR : Hid (inS n ps = false) := by show _ = _; rw [← HN.out, List.take_of_length_le (by have := HL.out; omega)]
      clear HN
      go_wp2_with fail
      go_ret
      exact ⟨by rw [HR.out]; rfl, hb⟩

/-! ### Of -/
def none6 : List (Int × Int) := [(0, 31), (127, 159), (768, 879), (8203, 8207), (55296, 57343), (65024, 65039)]
def two12 : List (Int × Int) := [(4352, 4447), (11904, 12350), (12353, 19903), (19968, 42191), (44032, 55203), (63744, 64255), (65072, 65135), (65280, 65376), (65504, 65510), (127744, 128591), (129280, 129535), (131072, 262141)]
def flatP (ps : List (Int × Int)) : List Value := ps.flatMap fun p => [.int .i64 p.1, .int .i64 p.2]
def ofS (r : Int) : Int := if r < 0 ∨ 1114111 < r ∨ inS r none6 = true then 0 else if inS r two12 = true then 2 else 1
def prs (ps : List (Int × Int)) : List (Nat × Value) := ps.zipIdx.map fun (p, i) => (i, .agg #[.int .i64 p.1, .int .i64 p.2])
theorem built6 : Try.prog.built 60 (prs none6) = some (flatP none6).toArray := by kernel_rfl
theorem built12 : Try.prog.built 61 (prs two12) = some (flatP two12).toArray := by kernel_rfl
theorem size6 : (Try.prog.info? 60).map (·.size) = some 12 := by kernel_rfl
theorem size12 : (Try.prog.info? 61).map (·.size) = some 24 := by kernel_rfl
def z6 : Array Value := (List.replicate 12 (Value.int .i64 0)).toArray
def z12 : Array Value := (List.replicate 24 (Value.int .i64 0)).toArray
theorem zero6 : (Try.prog.info? 60).bind (·.zero) = some (.agg z6) := by kernel_rfl
theorem zero12 : (Try.prog.info? 61).bind (·.zero) = some (.agg z12) := by kernel_rfl
theorem load6 (v : Value) : Instr.loadAt 60 v = rowLoad 60 v := rfl
theorem store6 (p v : Value) : Instr.storeAt 60 p v = rowStore 60 p v := rfl
theorem alloc6 (b : Bool) (v : Value) : Instr.alloc 60 b v = rowAlloc 60 b v := rfl
theorem load12 (v : Value) : Instr.loadAt 61 v = rowLoad 61 v := rfl
theorem store12 (p v : Value) : Instr.storeAt 61 p v = rowStore 61 p v := rfl
theorem alloc12 (b : Bool) (v : Value) : Instr.alloc 61 b v = rowAlloc 61 b v := rfl
attribute [local go_sem ↓] load6 store6 alloc6 load12 store12 alloc12
theorem flatP_one (ps : List (Int × Int)) : (flatP ps).toArray.all (·.oneCell') = true := by
  rw [Array.all_eq_true_iff_forall_mem]
  intro x hx
  simp [flatP] at hx
  obtain ⟨a, b, _, rfl | rfl⟩ := hx <;> rfl
theorem flatP_get : ∀ (ps : List (Int × Int)) (j : Nat) (p : Int × Int), ps[j]? = some p → (flatP ps)[j * 2]? = some (.int .i64 p.1) ∧ (flatP ps)[j * 2 + 1]? = some (.int .i64 p.2)
  | [], j, p, h => by simp at h
  | q :: ps, 0, p, h => by simp at h; subst h; simp [flatP]
  | q :: ps, j+1, p, h => by
    have := flatP_get ps j p (by simpa using h)
    have e : flatP (q :: ps) = .int .i64 q.1 :: .int .i64 q.2 :: flatP ps := by simp [flatP]
    rw [e, show (j + 1) * 2 = j * 2 + 2 by omega]
    simpa using this
theorem tab_of (W : World) (g : Nat) (t : TypeId) (ps : List (Int × Int)) (h : W.heap[g]? = some (.cells (flatP ps).toArray t (0, 0))) : Tab W g ps := by
  intro j p hj
  obtain ⟨h0, h1⟩ := flatP_get ps j p hj
  exact ⟨by rw [cell_of_row _ _ _ _ _ _ h]; simpa using h0, by rw [cell_of_row _ _ _ _ _ _ h]; simpa using h1⟩
theorem box6 (W : World) : ∃ W', (rowStore 60 (.pointer (some ⟨W.heap.size, 0, none⟩)) (.agg (flatP none6).toArray)).run Try.prog (W.alloc (.cells z6 60)) = .ok () W' ∧ Below W.heap.size W W' ∧ W'.heap.size = W.heap.size + 1 ∧ Tab W' W.heap.size none6 := by
  have hz := heap_alloc_new W (.cells z6 60)
  refine ⟨_, run_rowStore 60 _ _ _ _ (flatP none6).toArray hz (by rw [size6]; rfl) rfl (flatP_one _), (below_alloc _ _).trans ((But.setRow _ _ _).below (Nat.le_refl _) (by simp)), by simp [World.setRow], tab_of _ _ _ _ (setRow_heap _ _ _ _ _ _ hz)⟩
theorem box12 (W : World) : ∃ W', (rowStore 61 (.pointer (some ⟨W.heap.size, 0, none⟩)) (.agg (flatP two12).toArray)).run Try.prog (W.alloc (.cells z12 61)) = .ok () W' ∧ Below W.heap.size W W' ∧ Tab W' W.heap.size two12 := by
  have hz := heap_alloc_new W (.cells z12 61)
  refine ⟨_, run_rowStore 61 _ _ _ _ (flatP two12).toArray hz (by rw [size12]; rfl) rfl (flatP_one _), (below_alloc _ _).trans ((But.setRow _ _ _).below (Nat.le_refl _) (by simp)), tab_of _ _ _ _ (setRow_heap _ _ _ _ _ _ hz)⟩
theorem Tab.keep {w w' : World} {b : Nat} {ps : List (Int × Int)} (h : Tab w b ps) (hb : Below w.heap.size w w') : Tab w' b ps :=
  fun j p hj => ⟨cell_keep (h j p hj).1 hb, cell_keep (h j p hj).2 hb⟩

set_option maxHeartbeats 1600000 in
theorem of_any (r : Int) (w : World) : Calls Try.prog 18 #[.int .i64 r] w fun e w' => e = .returned (.int .i64 (ofS r)) ∧ Below w.heap.size w w' := by
  have B6 := Lib.hid built6; have B12 := Lib.hid built12
  have a6 := fun v => run_rowAlloc (P := Try.prog) 60 w v _ zero6
  obtain ⟨W1, s6, L1, z1, t1⟩ := box6 w
  have a12 := fun v => run_rowAlloc (P := Try.prog) 61 W1 v _ zero12
  obtain ⟨W2, s12, L2, t2⟩ := box12 W1
  have L := L1.trans (L2.mono L1.size)
  replace t1 := t1.keep L2
  clear L1 L2
  simp [flatP, none6] at s6
  simp [flatP, two12] at s12
  simp only [z1] at s12 a12 t2
  clear z1
  by_cases h0 : r < 0
  · have HR : Hid (ofS r = 0) := by show _ = _; unfold ofS; rw [if_pos (.inl h0)]
    go_enter Try.func18, Try.ntmps18
    go_wp2_with fail
    go_ret
    exact ⟨by rw [HR.out]; rfl, L⟩
  · by_cases h1 : 1114111 < r
    · have HR : Hid (ofS r = 0) := by show _ = _; unfold ofS; rw [if_pos (.inr (.inl h1))]
      go_enter Try.func18, Try.ntmps18
      go_wp2_with fail
      go_ret
      exact ⟨by rw [HR.out]; rfl, L⟩
    · have HO : Hid (ofS r = if inS r none6 = true then 0 else if inS r two12 = true then 2 else 1) := by
        show _ = _; unfold ofS; simp only [h0, h1, false_or]
      go_enter Try.func18, Try.ntmps18
      go_wp2_with fail
      refine (in_any r none6 w.heap.size 6 rfl (by decide) _ t1).mono ?_; rintro e w1 ⟨rfl, hb1⟩
      have L3 := L.trans (hb1.mono L.size)
      replace t2 := t2.keep hb1
      by_cases h2 : inS r none6 = true
      · have HR : Hid (ofS r = 0) := by show _ = _; rw [HO.out, if_pos h2]
        rw [h2]
        clear h2
        go_wp2_with fail
        go_ret
        exact ⟨by rw [HR.out]; rfl, L3⟩
      · rw [if_neg h2] at HO
        have h2 : inS r none6 = false := by simpa using h2
        rw [h2]
        clear h2
        go_wp2_with fail
        refine (in_any r two12 (w.heap.size + 1) 12 rfl (by decide) _ t2).mono ?_; rintro e w2 ⟨rfl, hb2⟩
        have L4 := L3.trans (hb2.mono L3.size)
        by_cases h3 : inS r two12 = true
        · have HR : Hid (ofS r = 2) := by show _ = _; rw [HO.out, if_pos h3]
          rw [h3]
          clear h3
          go_wp2_with fail
          go_ret
          exact ⟨by rw [HR.out]; rfl, L4⟩
        · have HR : Hid (ofS r = 1) := by show _ = _; rw [HO.out, if_neg h3]
          have h3 : inS r two12 = false := by simpa using h3
          rw [h3]
          clear h3
          go_wp2_with fail
          go_ret
          exact ⟨by rw [HR.out]; rfl, L4⟩
theorem ofS_rng (r : Int) : 0 ≤ ofS r ∧ ofS r ≤ 2 := by unfold ofS; split <;> (try split) <;> omega
end Go.Proofs.Ytepegjihlppkcaa.Width
