/- Contracts of the functions of package tabs: has, Next, Back, Usual, Set, tabsLives. -/
import Derived.Test.YtgokbjnpjjdboaaRows
import Derived.WalkKit
import Derived.ProofKit
import Derived.OpenShut
import Derived.Deep.QuietTactic
import Derived.Lib.Hide
namespace Go.Proofs.Ytgokbjnpjjdboaa.Tabs
open Go.ChangeShapes Go.WideShapes Go.ChangeAt Go.RowKit
set_option maxRecDepth 100000

def pick4 (b0 b1 b2 b3 : Int) : Nat → Int
  | 0 => b0 | 1 => b1 | 2 => b2 | _ => b3
def hasB (b : Nat → Int) (c : Int) : Bool := bits BinOp.and IntKind.u64 (b (c / 64).toNat / 2 ^ (c % 64).toNat) 1 == 1
def clr (x : Int) (c : Int) : Int := bits BinOp.andNot IntKind.u64 x (IntKind.u64.wrap (2 ^ (c % 64).toNat))
def setb (x : Int) (c : Int) : Int := bits BinOp.or IntKind.u64 x (IntKind.u64.wrap (2 ^ (c % 64).toNat))
def upd (x : Int) (c : Int) (on : Bool) : Int := if on then setb (clr x c) c else clr x c
def setB (b : Nat → Int) (c : Int) (on : Bool) (k : Nat) : Int := if (c / 64).toNat = k then upd (b k) c on else b k
def arr4 (b : Nat → Int) : Value := .agg #[.int .u64 (b 0), .int .u64 (b 1), .int .u64 (b 2), .int .u64 (b 3)]

theorem pick4_id (b : Nat → Int) (k : Nat) (h : k < 4) : pick4 (b 0) (b 1) (b 2) (b 3) k = b k := by
  match k, h with
  | 0, _ => rfl
  | 1, _ => rfl
  | 2, _ => rfl
  | 3, _ => rfl
theorem cell4 (w : World) (b0 b1 b2 b3 : Int) (T : TypeId) (k : Nat) (hk : k < 4) :
  (w.alloc (.cells #[.int .u64 b0, .int .u64 b1, .int .u64 b2, .int .u64 b3] T)).cell? ⟨w.heap.size, k, none⟩ = some (.int .u64 (pick4 b0 b1 b2 b3 k)) := by
  match k, hk with
  | 0, _ => simp [pick4]
  | 1, _ => simp [pick4]
  | 2, _ => simp [pick4]
  | 3, _ => simp [pick4]

theorem has_any (b : Nat → Int) (c : Int) (h0 : 0 ≤ c) (h1 : c ≤ 255) (w : World) :
    Calls Try.prog 31 #[arr4 b, .int .i64 c] w fun e w' => e = .returned (.bool (hasB b c)) ∧ Below w.heap.size w w' := by
  have hc := cell4 w (b 0) (b 1) (b 2) (b 3) 25 (c / 64).toNat (by omega)
  rw [pick4_id b _ (by omega)] at hc
  unfold arr4
  go_enter Try.func31, Try.ntmps31
  go_wp2
  go_ret
  exact ⟨rfl, (Below.refl _ _).alloc (Nat.le_refl _) _⟩
def nextL (s : Int → Bool) (wide : Int) : Nat → Int → Int → Int
  | 0, _, _ => wide - 1
  | f+1, c, n => if wide ≤ c + 1 then wide - 1 else if s (c+1) then (if n - 1 = 0 then c + 1 else nextL s wide f (c+1) (n-1)) else nextL s wide f (c+1) n

def nextV (s : Int → Bool) (col n wide : Int) : Int := if n ≤ 0 then col else nextL s wide (wide - col).toNat col n
def nextBad (col n wide : Int) : Prop := wide < 1 ∨ 160 < wide ∨ col < 0 ∨ wide ≤ col ∨ n < 0 ∨ 16383 < n


theorem bcell {B : Nat} {W w1 : World} (hb : Below B W w1) (b o : Nat) (h : b < B) : w1.cell? ⟨b, o, none⟩ = W.cell? ⟨b, o, none⟩ :=
  hb.cell (p := ⟨b, o, none⟩) h

theorem nextL_1 (s : Int → Bool) (wide x m : Int) (h : x < wide) (h1 : wide ≤ x + 1) : nextL s wide (wide - x).toNat x m = wide - 1 := by
  obtain ⟨f, hf⟩ : ∃ f, (wide - x).toNat = f + 1 := ⟨(wide - x).toNat - 1, by omega⟩
  rw [hf, nextL, if_pos h1]
theorem nextL_2 (s : Int → Bool) (wide x m : Int) (h1 : x + 1 < wide) (hs : s (x+1) = true) (hm : m - 1 = 0) : nextL s wide (wide - x).toNat x m = x + 1 := by
  obtain ⟨f, hf⟩ : ∃ f, (wide - x).toNat = f + 1 := ⟨(wide - x).toNat - 1, by omega⟩
  rw [hf, nextL, if_neg (by omega), if_pos hs, if_pos hm]
theorem nextL_3 (s : Int → Bool) (wide x m : Int) (h1 : x + 1 < wide) (hs : s (x+1) = true) (hm : m - 1 ≠ 0) : nextL s wide (wide - x).toNat x m = nextL s wide (wide - (x+1)).toNat (x + 1) (m-1) := by
  obtain ⟨f, hf⟩ : ∃ f, (wide - x).toNat = f + 1 := ⟨(wide - x).toNat - 1, by omega⟩
  rw [hf, nextL, if_neg (by omega), if_pos hs, if_neg hm, show (wide - (x+1)).toNat = f by omega]
theorem nextL_4 (s : Int → Bool) (wide x m : Int) (h1 : x + 1 < wide) (hs : s (x+1) = false) : nextL s wide (wide - x).toNat x m = nextL s wide (wide - (x+1)).toNat (x + 1) m := by
  obtain ⟨f, hf⟩ : ∃ f, (wide - x).toNat = f + 1 := ⟨(wide - x).toNat - 1, by omega⟩
  rw [hf, nextL, if_neg (by omega), if_neg (by simp [hs]), show (wide - (x+1)).toNat = f by omega]

set_option maxHeartbeats 400000 in
theorem next_ok (b : Nat → Int) (col n wide : Int) (h : ¬ nextBad col n wide) (w : World) :
    Calls Try.prog 15 #[arr4 b, .int .i64 col, .int .i64 n, .int .i64 wide] w fun e w' => e = .returned (.tuple #[.int .i64 (nextV (hasB b) col n wide), .int .i64 0]) ∧ Below w.heap.size w w' := by
  unfold nextBad at h
  have a1 : 1 ≤ wide := by omega
  have a2 : wide ≤ 160 := by omega
  have a3 : 0 ≤ col := by omega
  have a4 : col < wide := by omega
  have a5 : 0 ≤ n := by omega
  have a6 : n ≤ 16383 := by omega
  have d1 : decide (wide < 1) = false := decide_eq_false (by omega)
  have d2 : decide (160 < wide) = false := decide_eq_false (by omega)
  have d3 : decide (col < 0) = false := decide_eq_false (by omega)
  have d4 : decide (wide ≤ col) = false := decide_eq_false (by omega)
  have d5 : decide (n < 0) = false := decide_eq_false (by omega)
  have d6 : decide (16383 < n) = false := decide_eq_false (by omega)
  clear h
  unfold arr4
  by_cases hn : n = 0
  · subst hn
    go_enter Try.func15, Try.ntmps15
    go_wp2
    go_loopw [2, 10] (fun n' c' wr => n' = .int .i64 0 ∧ c' = .int .i64 col ∧ wr = (w.alloc (.cells #[.int .u64 (b 0), .int .u64 (b 1), .int .u64 (b 2), .int .u64 (b 3)] 25))) (fun _ _ _ => 0)
    case atStart => exact ⟨rfl, rfl, rfl⟩
    case round =>
      obtain ⟨rfl, rfl, rfl⟩ := hrel
      go_wp2_with fail
      go_ret2
      exact ⟨rfl, (Below.refl _ _).alloc (Nat.le_refl _) _⟩
  · have a7 : 1 ≤ n := by omega
    clear hn
    have HR : Hid (nextV (hasB b) col n wide = nextL (hasB b) wide (wide - col).toNat col n) := by
      show _ = _
      rw [nextV, if_neg (by omega)]
    go_enter Try.func15, Try.ntmps15
    go_wp2
    go_loopw [2, 10] (fun n' c' wr => ∃ m x : Int, n' = .int .i64 m ∧ c' = .int .i64 x ∧ 1 ≤ m ∧ m ≤ 16383 ∧ 0 ≤ x ∧ x < wide ∧ Hid (nextL (hasB b) wide (wide - x).toNat x m = nextV (hasB b) col n wide) ∧
        Below (w.heap.size + 1) (w.alloc (.cells #[.int .u64 (b 0), .int .u64 (b 1), .int .u64 (b 2), .int .u64 (b 3)] 25)) wr) (fun _ c' _ => (wide - intOf c').toNat)
    case atStart => exact ⟨n, col, rfl, rfl, a7, a6, a3, a4, HR.out.symm, Below.refl _ _⟩
    case round =>
      obtain ⟨m, x, rfl, rfl, b1, b2, b3, b4, HL, hb⟩ := hrel
      have c0 := bcell hb w.heap.size 0 (by omega)
      have c1 := bcell hb w.heap.size 1 (by omega)
      have c2 := bcell hb w.heap.size 2 (by omega)
      have c3 := bcell hb w.heap.size 3 (by omega)
      simp at c0 c1 c2 c3
      by_cases hw : wide ≤ x + 1
      · have L := nextL_1 (hasB b) wide x m b4 hw
        have HL' : Hid (nextV (hasB b) col n wide = wide - 1) := by show _ = _; rw [← HL.out, L]
        clear L
        go_wp2_with fail
        go_ret2
        exact ⟨by rw [HL'.out]; rfl, ((Below.refl _ _).alloc (Nat.le_refl _) _).trans (hb.mono (by omega))⟩
      · by_cases hs : hasB b (x + 1) = true
        · by_cases hm : m - 1 = 0
          · have HL' : Hid (nextV (hasB b) col n wide = x + 1) := by show _ = _; rw [← HL.out, nextL_2 (hasB b) wide x m (by omega) hs hm]
            obtain rfl : m = 1 := by omega
            clear hm
            go_wp2_with (go_at_call 31; refine (has_any b _ (by omega) (by omega) _).mono ?_; rintro e w' ⟨rfl, hb'⟩)
            go_ret2
            exact ⟨by rw [HL'.out]; rfl, (((Below.refl _ _).alloc (Nat.le_refl _) _).trans (hb.mono (by omega))).trans (hb'.mono (by have := hb.size; simp at this; omega))⟩
          · have HL' : Hid (nextL (hasB b) wide (wide - (x+1)).toNat (x + 1) (m-1) = nextV (hasB b) col n wide) := by show _ = _; rw [← HL.out, nextL_3 (hasB b) wide x m (by omega) hs hm]
            go_wp2_with (go_at_call 31; refine (has_any b _ (by omega) (by omega) _).mono ?_; rintro e w' ⟨rfl, hb'⟩)
            go_roundw
            case rel => exact ⟨m - 1, x + 1, rfl, rfl, by omega, by omega, by omega, by omega, HL', hb.trans (hb'.mono (by have := hb.size; simp at this; omega))⟩
            case measure => simp [intOf]; omega
        · have hs' : hasB b (x + 1) = false := by simpa using hs
          clear hs
          have HL' : Hid (nextL (hasB b) wide (wide - (x+1)).toNat (x + 1) m = nextV (hasB b) col n wide) := by show _ = _; rw [← HL.out, nextL_4 (hasB b) wide x m (by omega) hs']
          go_wp2_with (go_at_call 31; refine (has_any b _ (by omega) (by omega) _).mono ?_; rintro e w' ⟨rfl, hb'⟩)
          go_roundw
          case rel => exact ⟨m, x + 1, rfl, rfl, by omega, by omega, by omega, by omega, HL', hb.trans (hb'.mono (by have := hb.size; simp at this; omega))⟩
          case measure => simp [intOf]; omega

theorem next_bad (b : Nat → Int) (col n wide : Int) (h : nextBad col n wide) (w : World) :
    Calls Try.prog 15 #[arr4 b, .int .i64 col, .int .i64 n, .int .i64 wide] w fun e w' => e = .returned (.tuple #[.int .i64 0, .int .i64 1]) ∧ Below w.heap.size w w' := by
  unfold nextBad at h
  unfold arr4
  go_enter Try.func15, Try.ntmps15
  go_wp2
  all_goals go_ret2
  all_goals exact ⟨rfl, (Below.refl _ _).alloc (Nat.le_refl _) _⟩

def backL (s : Int → Bool) : Nat → Int → Int → Int
  | 0, _, _ => 0
  | f+1, c, n => if c - 1 < 0 then 0 else if s (c-1) then (if n - 1 = 0 then c - 1 else backL s f (c-1) (n-1)) else backL s f (c-1) n

def backV (s : Int → Bool) (col n : Int) : Int := if n ≤ 0 then col else backL s (col+1).toNat col n
def backBad (col n : Int) : Prop := col < 0 ∨ 255 < col ∨ n < 0 ∨ 16383 < n

theorem backL_1 (s : Int → Bool) (x m : Int) (h : 0 ≤ x) (h1 : x - 1 < 0) : backL s (x + 1).toNat x m = 0 := by
  obtain ⟨f, hf⟩ : ∃ f, (x + 1).toNat = f + 1 := ⟨(x + 1).toNat - 1, by omega⟩
  rw [hf, backL, if_pos h1]
theorem backL_2 (s : Int → Bool) (x m : Int) (h1 : 0 ≤ x - 1) (hs : s (x-1) = true) (hm : m - 1 = 0) : backL s (x + 1).toNat x m = x - 1 := by
  obtain ⟨f, hf⟩ : ∃ f, (x + 1).toNat = f + 1 := ⟨(x + 1).toNat - 1, by omega⟩
  rw [hf, backL, if_neg (by omega), if_pos hs, if_pos hm]
theorem backL_3 (s : Int → Bool) (x m : Int) (h1 : 0 ≤ x - 1) (hs : s (x-1) = true) (hm : m - 1 ≠ 0) : backL s (x + 1).toNat x m = backL s (x - 1 + 1).toNat (x - 1) (m-1) := by
  obtain ⟨f, hf⟩ : ∃ f, (x + 1).toNat = f + 1 := ⟨(x + 1).toNat - 1, by omega⟩
  rw [hf, backL, if_neg (by omega), if_pos hs, if_neg hm, show (x - 1 + 1).toNat = f by omega]
theorem backL_4 (s : Int → Bool) (x m : Int) (h1 : 0 ≤ x - 1) (hs : s (x-1) = false) : backL s (x + 1).toNat x m = backL s (x - 1 + 1).toNat (x - 1) m := by
  obtain ⟨f, hf⟩ : ∃ f, (x + 1).toNat = f + 1 := ⟨(x + 1).toNat - 1, by omega⟩
  rw [hf, backL, if_neg (by omega), if_neg (by simp [hs]), show (x - 1 + 1).toNat = f by omega]

set_option maxHeartbeats 400000 in
theorem back_ok (b : Nat → Int) (col n : Int) (h : ¬ backBad col n) (w : World) :
    Calls Try.prog 16 #[arr4 b, .int .i64 col, .int .i64 n] w fun e w' => e = .returned (.tuple #[.int .i64 (backV (hasB b) col n), .int .i64 0]) ∧ Below w.heap.size w w' := by
  unfold backBad at h
  have a2 : col ≤ 255 := by omega
  have a3 : 0 ≤ col := by omega
  have a5 : 0 ≤ n := by omega
  have a6 : n ≤ 16383 := by omega
  have d2 : decide (255 < col) = false := decide_eq_false (by omega)
  have d3 : decide (col < 0) = false := decide_eq_false (by omega)
  have d5 : decide (n < 0) = false := decide_eq_false (by omega)
  have d6 : decide (16383 < n) = false := decide_eq_false (by omega)
  clear h
  unfold arr4
  by_cases hn : n = 0
  · subst hn
    go_enter Try.func16, Try.ntmps16
    go_wp2
    go_loopw [2, 8] (fun n' c' wr => n' = .int .i64 0 ∧ c' = .int .i64 col ∧ wr = (w.alloc (.cells #[.int .u64 (b 0), .int .u64 (b 1), .int .u64 (b 2), .int .u64 (b 3)] 25))) (fun _ _ _ => 0)
    case atStart => exact ⟨rfl, rfl, rfl⟩
    case round =>
      obtain ⟨rfl, rfl, rfl⟩ := hrel
      go_wp2_with fail
      go_ret2
      exact ⟨rfl, (Below.refl _ _).alloc (Nat.le_refl _) _⟩
  · have a7 : 1 ≤ n := by omega
    clear hn
    have HR : Hid (backV (hasB b) col n = backL (hasB b) (col + 1).toNat col n) := by
      show _ = _
      rw [backV, if_neg (by omega)]
    go_enter Try.func16, Try.ntmps16
    go_wp2
    go_loopw [2, 8] (fun n' c' wr => ∃ m x : Int, n' = .int .i64 m ∧ c' = .int .i64 x ∧ 1 ≤ m ∧ m ≤ 16383 ∧ 0 ≤ x ∧ x ≤ 255 ∧ Hid (backL (hasB b) (x + 1).toNat x m = backV (hasB b) col n) ∧
        Below (w.heap.size + 1) (w.alloc (.cells #[.int .u64 (b 0), .int .u64 (b 1), .int .u64 (b 2), .int .u64 (b 3)] 25)) wr) (fun _ c' _ => (intOf c').toNat)
    case atStart => exact ⟨n, col, rfl, rfl, a7, a6, a3, a2, HR.out.symm, Below.refl _ _⟩
    case round =>
      obtain ⟨m, x, rfl, rfl, b1, b2, b3, b4, HL, hb⟩ := hrel
      have c0 := bcell hb w.heap.size 0 (by omega)
      have c1 := bcell hb w.heap.size 1 (by omega)
      have c2 := bcell hb w.heap.size 2 (by omega)
      have c3 := bcell hb w.heap.size 3 (by omega)
      simp at c0 c1 c2 c3
      by_cases hw : x - 1 < 0
      · have L := backL_1 (hasB b) x m b3 hw
        have HL' : Hid (backV (hasB b) col n = 0) := by show _ = _; rw [← HL.out, L]
        clear L
        go_wp2_with fail
        go_ret2
        exact ⟨by rw [HL'.out]; rfl, ((Below.refl _ _).alloc (Nat.le_refl _) _).trans (hb.mono (by omega))⟩
      · by_cases hs : hasB b (x - 1) = true
        · by_cases hm : m - 1 = 0
          · have HL' : Hid (backV (hasB b) col n = x - 1) := by show _ = _; rw [← HL.out, backL_2 (hasB b) x m (by omega) hs hm]
            obtain rfl : m = 1 := by omega
            clear hm
            go_wp2_with (go_at_call 31; refine (has_any b _ (by omega) (by omega) _).mono ?_; rintro e w' ⟨rfl, hb'⟩)
            go_ret2
            exact ⟨by rw [HL'.out]; rfl, (((Below.refl _ _).alloc (Nat.le_refl _) _).trans (hb.mono (by omega))).trans (hb'.mono (by have := hb.size; simp at this; omega))⟩
          · have HL' : Hid (backL (hasB b) (x - 1 + 1).toNat (x - 1) (m-1) = backV (hasB b) col n) := by show _ = _; rw [← HL.out, backL_3 (hasB b) x m (by omega) hs hm]
            go_wp2_with (go_at_call 31; refine (has_any b _ (by omega) (by omega) _).mono ?_; rintro e w' ⟨rfl, hb'⟩)
            go_roundw
            case rel => exact ⟨m - 1, x - 1, rfl, rfl, by omega, by omega, by omega, by omega, HL', hb.trans (hb'.mono (by have := hb.size; simp at this; omega))⟩
            case measure => simp [intOf]; omega
        · have hs' : hasB b (x - 1) = false := by simpa using hs
          clear hs
          have HL' : Hid (backL (hasB b) (x - 1 + 1).toNat (x - 1) m = backV (hasB b) col n) := by show _ = _; rw [← HL.out, backL_4 (hasB b) x m (by omega) hs']
          go_wp2_with (go_at_call 31; refine (has_any b _ (by omega) (by omega) _).mono ?_; rintro e w' ⟨rfl, hb'⟩)
          go_roundw
          case rel => exact ⟨m, x - 1, rfl, rfl, by omega, by omega, by omega, by omega, HL', hb.trans (hb'.mono (by have := hb.size; simp at this; omega))⟩
          case measure => simp [intOf]; omega

theorem back_bad (b : Nat → Int) (col n : Int) (h : backBad col n) (w : World) :
    Calls Try.prog 16 #[arr4 b, .int .i64 col, .int .i64 n] w fun e w' => e = .returned (.tuple #[.int .i64 0, .int .i64 1]) ∧ Below w.heap.size w w' := by
  unfold backBad at h
  unfold arr4
  go_enter Try.func16, Try.ntmps16
  go_wp2
  all_goals go_ret2
  all_goals exact ⟨rfl, (Below.refl _ _).alloc (Nat.le_refl _) _⟩

/-! ### Usual: the loop over the 31 usual stops -/
def tb : Nat → Nat → Int
  | 0, _ => 0
  | k+1, j => if (8 * (k+1)) / 64 = j then bits BinOp.or IntKind.u64 (tb k j) (IntKind.u64.wrap (2 ^ ((8 * (k+1)) % 64))) else tb k j


theorem below_drewN' {B : Nat} {a w : World} {n : Nat} (h : Below B a w) : Below B a (w.drewN n) := ⟨h.os, h.tape, h.output, h.size, h.block⟩
theorem tb_same (k j : Nat) (h : 8 * (k + 1) / 64 = j) (c : Int) (hc : c = 8 * (k+1)) : tb (k+1) j = bits BinOp.or IntKind.u64 (tb k j) (IntKind.u64.wrap (2 ^ (c % 64).toNat)) := by
  subst hc
  rw [tb, if_pos h, show ((8 * ((k:Int)+1)) % 64).toNat = (8 * (k+1)) % 64 by omega]
theorem tb_other (k j : Nat) (h : 8 * (k + 1) / 64 ≠ j) : tb (k+1) j = tb k j := by
  rw [tb, if_neg h]

theorem usual_any (w : World) :
    Calls Try.prog 30 #[] w fun e w' => e = .returned (arr4 (tb 31)) ∧ Below w.heap.size w w' := by
  unfold arr4
  go_enter Try.func30, Try.ntmps30
  go_wp2
  go_loopw [2] (fun c' wr => ∃ (k n : Nat) (c : Int) (t0 t1 t2 t3 : Int), k ≤ 31 ∧ c' = .int .i64 c ∧ Hid (c = 8 * (k+1)) ∧ Hid (t0 = tb k 0 ∧ t1 = tb k 1 ∧ t2 = tb k 2 ∧ t3 = tb k 3) ∧ wr = ((w.alloc (.cells #[.int .u64 0, .int .u64 0, .int .u64 0, .int .u64 0] 25)).alloc (.cells #[.int .u64 t0, .int .u64 t1, .int .u64 t2, .int .u64 t3] 25)).drewN n) (fun c' _ => (1000 - intOf c').toNat)
  case atStart => exact ⟨0, 0, 8, 0, 0, 0, 0, by omega, rfl, rfl, ⟨rfl, rfl, rfl, rfl⟩, rfl⟩
  case round =>
    obtain ⟨k, n, c, t0, t1, t2, t3, hk, rfl, HC, HT, rfl⟩ := hrel
    have hsd : ∀ (n : Nat) (a : Addr) (v : Value) (w : World), (w.drewN n).setCell a v = (w.setCell a v).drewN n := fun _ _ _ _ => rfl
    by_cases hlt : k < 31
    · have l1 : 8 ≤ c := by have := HC.out; omega
      have l2 : c ≤ 248 := by have := HC.out; omega
      have hcase : c / 64 = 0 ∨ c / 64 = 1 ∨ c / 64 = 2 ∨ c / 64 = 3 := by omega
      have HC1 : Hid (c + 8 = 8 * (((k + 1 : Nat) : Int)+1)) := by have := HC.out; show _ = _; omega
      rcases hcase with hq | hq | hq | hq
      · have hj : 8 * (k + 1) / 64 = 0 := by have := HC.out; omega
        have HJ := Lib.hid hj; clear hj
        go_wp2; go_region; go_wp2
        go_roundw
        case rel => exact ⟨k+1, n+1, c+8, _, t1, t2, t3, by omega, rfl, HC1, ⟨by rw [tb_same k 0 HJ.out c HC.out, ← HT.out.1], by rw [tb_other k 1 (by rw [HJ.out]; omega)]; exact HT.out.2.1, by rw [tb_other k 2 (by rw [HJ.out]; omega)]; exact HT.out.2.2.1, by rw [tb_other k 3 (by rw [HJ.out]; omega)]; exact HT.out.2.2.2⟩, rfl⟩
        case measure => simp [intOf]; omega
      · have hj : 8 * (k + 1) / 64 = 1 := by have := HC.out; omega
        have HJ := Lib.hid hj; clear hj
        go_wp2; go_region; go_wp2
        go_roundw
        case rel => exact ⟨k+1, n+1, c+8, t0, _, t2, t3, by omega, rfl, HC1, ⟨by rw [tb_other k 0 (by rw [HJ.out]; omega)]; exact HT.out.1, by rw [tb_same k 1 HJ.out c HC.out, ← HT.out.2.1], by rw [tb_other k 2 (by rw [HJ.out]; omega)]; exact HT.out.2.2.1, by rw [tb_other k 3 (by rw [HJ.out]; omega)]; exact HT.out.2.2.2⟩, rfl⟩
        case measure => simp [intOf]; omega
      · have hj : 8 * (k + 1) / 64 = 2 := by have := HC.out; omega
        have HJ := Lib.hid hj; clear hj
        go_wp2; go_region; go_wp2
        go_roundw
        case rel => exact ⟨k+1, n+1, c+8, t0, t1, _, t3, by omega, rfl, HC1, ⟨by rw [tb_other k 0 (by rw [HJ.out]; omega)]; exact HT.out.1, by rw [tb_other k 1 (by rw [HJ.out]; omega)]; exact HT.out.2.1, by rw [tb_same k 2 HJ.out c HC.out, ← HT.out.2.2.1], by rw [tb_other k 3 (by rw [HJ.out]; omega)]; exact HT.out.2.2.2⟩, rfl⟩
        case measure => simp [intOf]; omega
      · have hj : 8 * (k + 1) / 64 = 3 := by have := HC.out; omega
        have HJ := Lib.hid hj; clear hj
        go_wp2; go_region; go_wp2
        go_roundw
        case rel => exact ⟨k+1, n+1, c+8, t0, t1, t2, _, by omega, rfl, HC1, ⟨by rw [tb_other k 0 (by rw [HJ.out]; omega)]; exact HT.out.1, by rw [tb_other k 1 (by rw [HJ.out]; omega)]; exact HT.out.2.1, by rw [tb_other k 2 (by rw [HJ.out]; omega)]; exact HT.out.2.2.1, by rw [tb_same k 3 HJ.out c HC.out, ← HT.out.2.2.2]⟩, rfl⟩
        case measure => simp [intOf]; omega
    · have HC1 : Hid (c = 256) := by have := HC.out; show _ = _; omega
      have l1 : 256 ≤ c := by have := HC.out; omega
      obtain rfl : k = 31 := by omega
      go_wp2
      obtain ⟨e0, e1, e2, e3⟩ := HT.out
      subst e0 e1 e2 e3
      refine bodyPost_ret (v := .agg #[.int .u64 (tb 31 0), .int .u64 (tb 31 1), .int .u64 (tb 31 2), .int .u64 (tb 31 3)]) (by simp [results, Try.results30, go_sem]) rfl ⟨rfl, ?_⟩
      exact below_drewN' ((((Below.refl _ _).alloc (Nat.le_refl _) _).alloc (by simp) _))

set_option maxHeartbeats 400000 in
theorem lives (w : World) :
    Calls Try.prog 14 #[] w fun e w' => e = .returned (.bool true) ∧ Below w.heap.size w w' := by
  have n1 := fun w => next_ok (tb 31) 5 2 80 (by unfold nextBad; omega) w
  have e1 : nextV (hasB (tb 31)) 5 2 80 = 16 := by decide +kernel
  rw [e1] at n1
  have n2 := fun w => back_ok (tb 31) 16 1 (by unfold backBad; omega) w
  have e2 : backV (hasB (tb 31)) 16 1 = 8 := by decide +kernel
  rw [e2] at n2
  clear e1 e2
  have N1 := Lib.hid n1; have N2 := Lib.hid n2; clear n1 n2
  go_enter Try.func14, Try.ntmps14
  go_wp2_with fail
  refine (usual_any _).mono ?_; rintro e w1 ⟨rfl, hb1⟩
  go_wp2_with fail
  refine (N1.out _).mono ?_; rintro e w2 ⟨rfl, hb2⟩
  go_wp2_with fail
  refine (usual_any _).mono ?_; rintro e w3 ⟨rfl, hb3⟩
  go_wp2_with fail
  refine (N2.out _).mono ?_; rintro e w4 ⟨rfl, hb4⟩
  go_wp2_with fail
  go_ret
  have s1 := hb1.size; have s2 := hb2.size; have s3 := hb3.size
  exact ⟨rfl, hb1.trans ((hb2.mono s1).trans ((hb3.mono (by omega)).trans (hb4.mono (by omega))))⟩

theorem set_bad (b : Nat → Int) (c : Int) (on : Bool) (h : c < 0 ∨ 255 < c) (w : World) :
    Calls Try.prog 17 #[arr4 b, .int .i64 c, .bool on] w fun e w' => e = .returned (.tuple #[arr4 b, .int .i64 1]) ∧ Below w.heap.size w w' := by
  unfold arr4
  go_enter Try.func17, Try.ntmps17
  go_wp2
  all_goals
    refine bodyPost_ret (v := .tuple #[.agg #[.int .u64 (b 0), .int .u64 (b 1), .int .u64 (b 2), .int .u64 (b 3)], .int .i64 1]) (by simp [results, Try.results17, go_sem]) rfl ⟨rfl, ?_⟩
    exact (((Below.refl _ _).alloc (Nat.le_refl _) _).alloc (by simp) _)

set_option maxHeartbeats 400000 in
theorem set_ok (b : Nat → Int) (c : Int) (on : Bool) (h0 : 0 ≤ c) (h1 : c ≤ 255) (w : World) :
    Calls Try.prog 17 #[arr4 b, .int .i64 c, .bool on] w fun e w' => e = .returned (.tuple #[arr4 (setB b c on), .int .i64 0]) ∧ Below w.heap.size w w' := by
  unfold arr4
  have hcase : c / 64 = 0 ∨ c / 64 = 1 ∨ c / 64 = 2 ∨ c / 64 = 3 := by omega
  rcases hcase with hq | hq | hq | hq
  all_goals
    cases on
    · go_enter Try.func17, Try.ntmps17
      go_wp2; go_region; go_wp2
      refine bodyPost_ret (v := .tuple #[.agg #[.int .u64 (setB b c false 0), .int .u64 (setB b c false 1), .int .u64 (setB b c false 2), .int .u64 (setB b c false 3)], .int .i64 0]) (by simp [results, Try.results17, go_sem, setB, hq, upd, clr]) rfl ⟨rfl, ?_⟩
      exact below_drewN' (n := 1) (((Below.refl _ _).alloc (Nat.le_refl _) _).alloc (by simp) _)
    · go_enter Try.func17, Try.ntmps17
      go_wp2; go_region; go_wp2; go_region; go_wp2
      refine bodyPost_ret (v := .tuple #[.agg #[.int .u64 (setB b c true 0), .int .u64 (setB b c true 1), .int .u64 (setB b c true 2), .int .u64 (setB b c true 3)], .int .i64 0]) (by simp [results, Try.results17, go_sem, setB, hq, upd, clr, setb]) rfl ⟨rfl, ?_⟩
      exact below_drewN' (n := 2) (((Below.refl _ _).alloc (Nat.le_refl _) _).alloc (by simp) _)
end Go.Proofs.Ytgokbjnpjjdboaa.Tabs
