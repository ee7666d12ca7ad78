/- Contracts of the functions of package page: of, Known, Rune, Byte, and the constant case pageLives. -/
import Derived.Test.YtgokbjnpjjdboaaRows
import Derived.WalkKit
import Derived.ProofKit
import Derived.OpenShut
import Derived.Deep.QuietTactic
import Derived.Lib.Hide
import Derived.WalkSpells
import Derived.Deep.DeepCutAuto
import Derived.Great.BuildSlice
import Derived.WalkLawsBesides
namespace Go.Proofs.Ytgokbjnpjjdboaa.Page
open Go.ChangeShapes Go.WideShapes Go.ChangeAt Go.RowKit
set_option maxRecDepth 100000

def lines : List Int := [160, 9670, 9618, 9225, 9228, 9229, 9226, 176, 177, 9252, 9227, 9496, 9488, 9484, 9492, 9532, 9146, 9147, 9472, 9148, 9149, 9500, 9508, 9524, 9516, 9474, 8804, 8805, 960, 8800, 163, 183]
def ofS (p b : Int) : Int := if p = 2 then b else if 127 < b then 65533 else if p = 4 ∧ b = 35 then 163 else if p = 3 ∧ 95 ≤ b ∧ b ≤ 126 then lines.getD (b - 95).toNat 0 else b

/-- The table lies at block k. -/
def Tab (k : Nat) (w : World) : Prop := ∀ j, j < 32 → w.cell? ⟨k, j, none⟩ = some (.int .i64 (lines.getD j 0))

theorem of_any (p b : Int) (h0 : 0 ≤ b) (h1 : b ≤ 255) (w : World) :
    Calls Try.prog 33 #[.int .i64 p, .int .u8 b] w fun e w' => e = .returned (.int .i64 (ofS p b)) ∧ Below w.heap.size w w' := by
  go_enter Try.func33, Try.ntmps33
  go_upto_region 1 with (fail)
  go_cut [5] (fun s5 wx => s5 = .pointer (some ⟨w.heap.size, 0, none⟩) ∧ Tab w.heap.size wx ∧ Below w.heap.size w wx)
  case first =>
    apply wp_region_lit
    refine wpList_buildFlatArrTo rfl 75 3 32 _ rfl .i64 lines (some 6) rfl (by as_aux_lemma => kernel_rfl) (by as_aux_lemma => kernel_rfl) (by as_aux_lemma => kernel_rfl) (by as_aux_lemma => kernel_rfl) ?_
    go_wp2_with (refine wpList_store_rowTo rfl 75 (.tmp 5) (.tmp 6) rfl rfl w.heap.size (lines.map (Value.int .i64)).toArray rfl rfl 75 _ (heap_alloc_new _ _) (by as_aux_lemma => kernel_rfl) (by as_aux_lemma => kernel_rfl) (by as_aux_lemma => kernel_rfl) ?_)
    go_meet
    case rel => exact ⟨rfl, fun j hj => by rw [cell_setRow_same _ _ _ _ _ _ _ (heap_alloc_new _ _)]; simp [List.getD, List.getElem?_eq_getElem (show j < lines.length from hj)], ((Below.refl _ _).alloc (Nat.le_refl _) _).trans ⟨rfl, rfl, rfl, by simp [World.setRow], fun k hk => setRow_other _ _ _ _ (by omega)⟩⟩
  case rest =>
    obtain ⟨rfl, ht, hb⟩ := hcut
    by_cases h3 : p = 3 ∧ 95 ≤ b ∧ b ≤ 126
    · obtain ⟨rfl, h4, h5⟩ := h3
      have e : Hid (ofS 3 b = lines.getD (b - 95).toNat 0) := by
        show _ = _
        unfold ofS
        rw [if_neg (by omega), if_neg (by omega), if_neg (by omega), if_pos ⟨rfl, h4, h5⟩]
      have hc := ht (b - 95).toNat (by omega)
      generalize lines.getD (b - 95).toNat 0 = r at *
      go_wp2
      go_ret
      exact ⟨by rw [e.out]; rfl, hb⟩
    · have hr : Hid (ofS p b = if p = 2 then b else if 127 < b then 65533 else if p = 4 ∧ b = 35 then 163 else b) := by
        show _ = _
        unfold ofS
        split
        · rfl
        · split
          · rfl
          · split
            · rfl
            · first | rfl | rw [if_neg h3]
      by_cases p2 : p = 2
      · subst p2
        go_wp2
        go_ret
        exact ⟨by rw [hr.out]; rfl, hb⟩
      · have q2 : (p == 2) = false := by simpa using p2
        by_cases hb1 : 127 < b
        · have hr' : Hid (ofS p b = 65533) := by show _ = _; rw [hr.out, if_neg p2, if_pos hb1]
          clear p2 h3
          go_wp2
          go_ret
          exact ⟨by rw [hr'.out]; rfl, hb⟩
        · by_cases hb2 : p = 4 ∧ b = 35
          · have hr' : Hid (ofS p b = 163) := by show _ = _; rw [hr.out, if_neg p2, if_neg hb1, if_pos hb2]
            obtain ⟨rfl, rfl⟩ := hb2
            clear p2 h3
            go_wp2
            go_ret
            exact ⟨by rw [hr'.out]; rfl, hb⟩
          · have hr' : Hid (ofS p b = b) := by show _ = _; rw [hr.out, if_neg p2, if_neg hb1, if_neg hb2]
            by_cases p4 : p = 4
            · subst p4
              have q5 : (b == 35) = false := by simp; omega
              clear p2 h3 hb2
              go_wp2
              go_ret
              exact ⟨by rw [hr'.out]; rfl, hb⟩
            · have q4 : (p == 4) = false := by simpa using p4
              by_cases p3 : p = 3
              · subst p3
                clear p2 hb2
                by_cases c1 : b < 95
                · go_wp2
                  go_ret
                  exact ⟨by rw [hr'.out]; rfl, hb⟩
                · have c2 : 126 < b := by omega
                  go_wp2
                  go_ret
                  exact ⟨by rw [hr'.out]; rfl, hb⟩
              · have q3 : (p == 3) = false := by simpa using p3
                clear p2 hb2 h3 p3 p4
                go_wp2
                go_ret
                exact ⟨by rw [hr'.out]; rfl, hb⟩

theorem known_yes (p : Int) (h0 : 1 ≤ p) (h1 : p ≤ 4) (w : World) : Calls Try.prog 32 #[.int .i64 p] w fun e w' => e = .returned (.bool true) ∧ w = w' := by
  go_enter Try.func32, Try.ntmps32
  go_wp2
  go_ret
  exact ⟨by simp, rfl⟩
theorem known_no (p : Int) (h : p < 1 ∨ 4 < p) (w : World) : Calls Try.prog 32 #[.int .i64 p] w fun e w' => e = .returned (.bool false) ∧ w = w' := by
  by_cases h1 : 1 ≤ p
  · have h2 : 4 < p := by omega
    go_enter Try.func32, Try.ntmps32
    go_wp2
    go_ret
    exact ⟨by simp; omega, rfl⟩
  · go_enter Try.func32, Try.ntmps32
    go_wp2
    go_ret
    exact ⟨by simp, rfl⟩

theorem rune_ok (p b : Int) (h0 : 1 ≤ p) (h1 : p ≤ 4) (b0 : 0 ≤ b) (b1 : b ≤ 255) (w : World) :
    Calls Try.prog 18 #[.int .i64 p, .int .u8 b] w fun e w' => e = .returned (.tuple #[.int .i64 (ofS p b), .int .i64 0]) ∧ Below w.heap.size w w' := by
  go_enter Try.func18, Try.ntmps18
  go_wp2_with (first | (go_at_call 32; refine (known_yes _ h0 h1 _).mono ?_; rintro e w' ⟨rfl, rfl⟩) | (go_at_call 33; refine (of_any _ _ b0 b1 _).mono ?_; rintro e w' ⟨rfl, hb⟩))
  go_ret2
  exact ⟨rfl, hb⟩

def most (p : Int) : Nat := if p = 2 then 256 else 128
def byteS (p r : Int) : Option Nat := (List.range (most p)).find? (fun j => ofS p j == r)

theorem byteS_some (p r : Int) (k : Nat) (hk : k < most p) (hno : ∀ j, j < k → ofS p j ≠ r) (h : ofS p k = r) : byteS p r = some k := by
  unfold byteS
  rw [List.find?_range_eq_some]
  exact ⟨by simpa using h, by simpa using hk, fun j hj => by simpa using hno j hj⟩
theorem byteS_none (p r : Int) (hno : ∀ j, j < most p → ofS p j ≠ r) : byteS p r = none := by
  unfold byteS
  rw [List.find?_range_eq_none]
  intro i hi
  simpa using hno i hi

/-- What Byte hands back. -/
def byteR (p r : Int) : Value := match byteS p r with | some k => .tuple #[.int .u8 (k : Nat), .int .i64 0] | none => .tuple #[.int .u8 0, .int .i64 6]

/-- No byte below k has the rune r. -/
def NoneYet (p r : Int) (k : Nat) : Prop := ∀ j : Nat, j < k → ofS p j ≠ r

theorem byte_ok (p r : Int) (h0 : 1 ≤ p) (h1 : p ≤ 4) (w : World) :
    Calls Try.prog 34 #[.int .i64 p, .int .i64 r] w fun e w' => e = .returned (byteR p r) ∧ Below w.heap.size w w' := by
  have hcase : ∃ M : Nat, most p = M ∧ (((p == 2) = true ∧ M = 256) ∨ ((p == 2) = false ∧ M = 128)) := ⟨_, rfl, by unfold most; split <;> simp_all⟩
  obtain ⟨M, hM, hcase⟩ := hcase
  have HM := Lib.hid hM; clear hM
  rcases hcase with ⟨q2, rfl⟩ | ⟨q2, rfl⟩
  all_goals
    go_enter Try.func34, Try.ntmps34
    go_wp2_with (go_at_call 32; refine (known_yes _ (by omega) (by omega) _).mono ?_; rintro e w' ⟨rfl, rfl⟩)
    go_loopw [14] (fun i wr => ∃ k : Nat, k ≤ most p ∧ i = .int .i64 k ∧ NoneYet p r k ∧ Below w.heap.size w wr) (fun i _ => (256 - intOf i).toNat)
    case atStart => exact ⟨0, Nat.zero_le _, rfl, fun j hj => absurd hj (Nat.not_lt_zero j), Below.refl _ _⟩
    case round =>
      obtain ⟨k, hk, rfl, hno, hb⟩ := hrel
      rw [HM.out] at hk
      have HN := Lib.hid hno; clear hno
      by_cases hlt : (k : Int) < most p
      · rw [HM.out] at hlt
        have hlt' : k < most p := by rw [HM.out]; omega
        have HL := Lib.hid hlt'; clear hlt'
        by_cases heq : ofS p k = r
        · have HR : Hid (byteR p r = .tuple #[.int .u8 (k : Nat), .int .i64 0]) := by
            show _ = _
            unfold byteR
            rw [byteS_some p r k HL.out HN.out heq]
          have q3 : (ofS p k == r) = true := by simpa using heq
          clear heq
          go_wp2_with (go_at_call 33; refine (of_any p k (by omega) (by omega) _).mono ?_; rintro e w1 ⟨rfl, hb1⟩)
          go_ret2
          exact ⟨by rw [HR.out]; rfl, hb.trans (hb1.mono hb.size)⟩
        · have q3 : (ofS p k == r) = false := by simpa using heq
          have HN' : Hid (NoneYet p r (k+1)) := fun j hj => by
            by_cases e : j = k
            · subst e; exact heq
            · exact HN.out j (by omega)
          clear heq
          go_wp2_with (go_at_call 33; refine (of_any p k (by omega) (by omega) _).mono ?_; rintro e w1 ⟨rfl, hb1⟩)
          go_roundw
          case rel => exact ⟨k + 1, HL.out, by go_num, HN'.out, hb.trans (hb1.mono hb.size)⟩
          case measure => simp [intOf]; omega
      · have HR : Hid (byteR p r = .tuple #[.int .u8 0, .int .i64 6]) := by
          show _ = _
          unfold byteR
          rw [byteS_none p r (fun j hj => HN.out j (by omega))]
        rw [HM.out] at hlt
        go_wp2_with fail
        go_ret2
        exact ⟨by rw [HR.out]; rfl, hb⟩

theorem lives (w : World) : Calls Try.prog 19 #[] w fun e w' => e = .returned (.bool true) ∧ Below w.heap.size w w' := by
  have e1 : ofS 3 113 = 9472 := by decide +kernel
  have e2 : byteR 3 9472 = .tuple #[.int .u8 113, .int .i64 0] := by
    unfold byteR
    rw [show byteS 3 9472 = some 113 by decide +kernel]
    rfl
  have n1 := fun w => rune_ok 3 113 (by omega) (by omega) (by omega) (by omega) w
  have n2 := fun w => byte_ok 3 9472 (by omega) (by omega) w
  rw [e1] at n1
  rw [e2] at n2
  clear e1 e2
  have N1 := Lib.hid n1; have N2 := Lib.hid n2; clear n1 n2
  go_enter Try.func19, Try.ntmps19
  go_wp2_with fail
  refine (N1.out _).mono ?_; rintro e w1 ⟨rfl, hb1⟩
  go_wp2_with fail
  refine (N2.out _).mono ?_; rintro e w2 ⟨rfl, hb2⟩
  go_wp2_with fail
  go_ret
  exact ⟨rfl, hb1.trans (hb2.mono hb1.size)⟩
end Go.Proofs.Ytgokbjnpjjdboaa.Page
