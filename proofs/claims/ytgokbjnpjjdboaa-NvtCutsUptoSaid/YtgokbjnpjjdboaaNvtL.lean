/- The laws NvtBack and NvtCuts: the walks (all arguments together at most 1048576 bytes). -/
import Derived.Test.YtgokbjnpjjdboaaNvtB
import Derived.Test.YtgokbjnpjjdboaaArg
namespace Go.Proofs.Ytgokbjnpjjdboaa.Nvt
open Go.ChangeShapes Go.WideShapes Go.ChangeAt Go.RowKit
open Go.Proofs.Ytgokbjnpjjdboaa.Com Go.Proofs.Ytgokbjnpjjdboaa.Args
set_option maxRecDepth 100000

/-! ### plain laws -/
theorem fold_app (l : List UInt8) : ∀ (c : Bool) (o : List UInt8), l.foldl inB (c, o) = ((l.foldl inB (c, [])).1, o ++ (l.foldl inB (c, [])).2) := by
  induction l with
  | nil => intro c o; simp
  | cons x r ih =>
    intro c o
    simp only [List.foldl_cons]
    have key : inB (c, o) x = ((inB (c, []) x).1, o ++ (inB (c, []) x).2) := by
      unfold inB
      cases c <;> by_cases h1 : x = 10 <;> by_cases h2 : x = 0 <;> by_cases h3 : x = 13 <;> simp [h1, h2, h3]
    rw [key]
    generalize inB (c, []) x = st
    obtain ⟨c1, o1⟩ := st
    simp only []
    rw [ih c1 (o ++ o1), ih c1 o1]
    simp
theorem in_cuts (cr : Bool) (a b : List UInt8) : inS cr (a ++ b) = ((inS (inS cr a).1 b).1, (inS cr a).2 ++ (inS (inS cr a).1 b).2) := by
  unfold inS
  rw [List.foldl_append]
  generalize a.foldl inB (cr, []) = st
  obtain ⟨c1, o1⟩ := st
  rw [fold_app b c1 o1]
theorem in_out (l : List UInt8) : inS false (outS l) = (false, l) := by
  have : ∀ (l : List UInt8) (o : List UInt8), (outS l).foldl inB (false, o) = (false, o ++ l) := by
    intro l
    induction l with
    | nil => intro o; simp [outS]
    | cons x r ih =>
      intro o
      have e : outS (x :: r) = outB x ++ outS r := by simp [outS]
      rw [e, List.foldl_append]
      have key : (outB x).foldl inB (false, o) = (false, o ++ [x]) := by
        unfold outB
        by_cases h1 : x = 10
        · simp [h1, inB]
        · by_cases h2 : x = 13
          · simp [h2, inB]
          · simp [h1, h2, inB]
      rw [key, ih]; simp
  have := this l []; simpa [inS] using this
theorem str_app (l m : List UInt8) : (⟨l.toArray⟩ : ByteArray) ++ ⟨m.toArray⟩ = ⟨(l ++ m).toArray⟩ := by
  apply ByteArray.ext; simp
theorem str_id (s : ByteArray) : (⟨s.data.toList.toArray⟩ : ByteArray) = s := by
  apply ByteArray.ext; simp
theorem app_list (a b : ByteArray) : (a ++ b).data.toList = a.data.toList ++ b.data.toList := by simp

theorem lives (w : World) : Calls Try.prog 25 #[] w fun e w' => e = .returned (.bool true) ∧ Below w.heap.size w w' := by
  have n1 := fun w => in_any false ⟨#[97, 13, 10, 98, 13, 0, 13]⟩ (by decide) w
  have n2 := fun w => out_any ⟨#[10, 13]⟩ (by decide) w
  rw [show inS false (⟨#[97, 13, 10, 98, 13, 0, 13]⟩ : ByteArray).data.toList = (true, [97, 10, 98, 13]) by decide] at n1
  rw [show outS (⟨#[10, 13]⟩ : ByteArray).data.toList = [13, 10, 13, 0] by decide] at n2
  have N1 := Lib.hid n1; have N2 := Lib.hid n2; clear n1 n2
  go_enter Try.func25, Try.ntmps25
  go_wp2_with fail
  refine (N1.out _).mono ?_; rintro e w1 ⟨rfl, hb1⟩
  go_wp2_with fail
  refine (N2.out _).mono ?_; rintro e w2 ⟨rfl, hb2⟩
  go_wp2_with fail
  go_ret
  exact ⟨rfl, hb1.trans (hb2.mono hb1.size)⟩

theorem back_walk (v0 v1 : Value) (w : World) (h0 : Arg (some 1048576) Try.prog w 9 v0) (h1 : Arg (some 1048576) Try.prog w 4 v1) :
    Calls Try.prog 8 #[v0, v1] w fun e w' => e = .returned (.bool true) ∧ Below w.heap.size w w' := by
  obtain ⟨s, rfl, _, hfit⟩ := h0.string Try.underlying9
  obtain ⟨b, rfl⟩ := h1.bool Try.underlying4
  have hs : s.size ≤ 1048576 := hfit
  clear h0 h1 hfit
  cases b
  · obtain ⟨S, hS⟩ : ∃ S : ByteArray, S = ⟨(outS s.data.toList).toArray⟩ := ⟨_, rfl⟩
    have hsz : S.size ≤ 2097152 := by
      have := outS_len s.data.toList
      rw [hS]; show ((outS s.data.toList).toArray).size ≤ _
      rw [List.size_toArray]; simp at this; omega
    have hin : inS false S.data.toList = (false, s.data.toList) := by rw [hS]; exact in_out _
    have n1 := fun w => in_any false S (by omega) w
    rw [hin, str_id] at n1
    have N1 := Lib.hid n1; have HS := Lib.hid hS; clear n1 hS hin
    go_enter Try.func8, Try.ntmps8
    go_wp2_with fail
    refine (out_any s (by omega) _).mono ?_; rintro e w1 ⟨rfl, hb1⟩
    rw [← HS.out]
    go_wp2_with fail
    refine (N1.out _).mono ?_; rintro e w2 ⟨rfl, hb2⟩
    have L2 := hb1.trans (hb2.mono hb1.size)
    go_wp2_with fail
    refine (lives _).mono ?_; rintro e w3 ⟨rfl, hb3⟩
    go_wp2_with fail
    go_ret
    exact ⟨rfl, L2.trans (hb3.mono L2.size)⟩
  · have he : (⟨#[]⟩ : ByteArray) ++ s = s := by apply ByteArray.ext; simp
    have n1 := fun w => in_bin false s (by omega) w
    rw [show (if false = true then (⟨#[13]⟩ : ByteArray) else ⟨#[]⟩) = ⟨#[]⟩ from rfl, he] at n1
    have N1 := Lib.hid n1; clear n1 he
    go_enter Try.func8, Try.ntmps8
    go_wp2_with fail
    refine (out_bin s _).mono ?_; rintro e w1 ⟨rfl, hb1⟩
    go_wp2_with fail
    refine (N1.out _).mono ?_; rintro e w2 ⟨rfl, hb2⟩
    have L2 := hb1.trans (hb2.mono hb1.size)
    go_wp2_with fail
    refine (lives _).mono ?_; rintro e w3 ⟨rfl, hb3⟩
    go_wp2_with fail
    go_ret
    exact ⟨rfl, L2.trans (hb3.mono L2.size)⟩

set_option maxHeartbeats 400000 in
theorem cuts_walk (v0 v1 v2 v3 : Value) (w : World) (h0 : Arg (some 1048576) Try.prog w 4 v0) (h1 : Arg (some 1048576) Try.prog w 9 v1) (h2 : Arg (some 1048576) Try.prog w 9 v2) (h3 : Arg (some 1048576) Try.prog w 4 v3) :
    Calls Try.prog 9 #[v0, v1, v2, v3] w fun e w' => e = .returned (.bool true) ∧ Below w.heap.size w w' := by
  obtain ⟨cr, rfl⟩ := h0.bool Try.underlying4
  obtain ⟨a, rfl, _, hfa⟩ := h1.string Try.underlying9
  obtain ⟨b, rfl, _, hfb⟩ := h2.string Try.underlying9
  obtain ⟨bin, rfl⟩ := h3.bool Try.underlying4
  have ha : a.size ≤ 1048576 := hfa
  have hb : b.size ≤ 1048576 := hfb
  clear h0 h1 h2 h3 hfa hfb
  have hab : (a ++ b).size ≤ 2097152 := by simp; omega
  cases bin
  · have k := in_cuts cr a.data.toList b.data.toList
    rw [← app_list] at k
    have l1 := inS_len cr a.data.toList
    have l2 := inS_len (inS cr a.data.toList).1 b.data.toList
    have n1 := fun w => in_any cr a (by omega) w
    have n3 := fun w => in_any cr (a ++ b) (by omega) w
    rw [k] at n3
    obtain ⟨x, s, hx⟩ : ∃ x s, inS cr a.data.toList = (x, s) := ⟨_, _, rfl⟩
    rw [hx] at n1 n3 l1 l2
    simp only [] at n1 n3 l1 l2
    have n2 := fun w => in_any x b (by omega) w
    obtain ⟨y, t, hy⟩ : ∃ y t, inS x b.data.toList = (y, t) := ⟨_, _, rfl⟩
    rw [hy] at n2 n3 l2
    simp only [] at n2 n3 l2
    have ea : a.data.toList.length = a.size := by simp
    have eb : b.data.toList.length = b.size := by simp
    rw [ea] at l1; rw [eb] at l2
    rw [← str_app] at n3
    obtain ⟨S, hS⟩ : ∃ S : ByteArray, S = ⟨s.toArray⟩ := ⟨_, rfl⟩
    obtain ⟨T, hT⟩ : ∃ S : ByteArray, S = ⟨t.toArray⟩ := ⟨_, rfl⟩
    have sS : S.size ≤ 2097152 := by rw [hS]; show s.toArray.size ≤ _; rw [List.size_toArray]; omega
    have sT : T.size ≤ 2097152 := by rw [hT]; show t.toArray.size ≤ _; rw [List.size_toArray]; omega
    rw [← hS] at n1 n3
    rw [← hT] at n2 n3
    have N1 := Lib.hid n1; have N2 := Lib.hid n2; have N3 := Lib.hid n3
    clear n1 n2 n3 hS hT hx hy k l1 l2 ea eb
    go_enter Try.func9, Try.ntmps9
    go_wp2_with fail
    refine (N1.out _).mono ?_; rintro e w1 ⟨rfl, hb1⟩
    go_wp2_with fail
    refine (N2.out _).mono ?_; rintro e w2 ⟨rfl, hb2⟩
    have L2 := hb1.trans (hb2.mono hb1.size)
    go_wp2_with fail
    refine (N3.out _).mono ?_; rintro e w3 ⟨rfl, hb3⟩
    have L3 := L2.trans (hb3.mono L2.size)
    go_wp2_with fail
    refine (lives _).mono ?_; rintro e w4 ⟨rfl, hb4⟩
    go_wp2_with fail
    go_ret
    exact ⟨rfl, L3.trans (hb4.mono L3.size)⟩
  · obtain ⟨F, hF, hF1⟩ : ∃ F : ByteArray, F = (if cr = true then (⟨#[13]⟩ : ByteArray) else ⟨#[]⟩) ∧ F.size ≤ 1 := ⟨_, rfl, by cases cr <;> decide⟩
    have n1 := fun w => in_bin cr a (by omega) w
    have n2 := fun w => in_bin false b (by omega) w
    have n3 := fun w => in_bin cr (a ++ b) (by omega) w
    have he : (⟨#[]⟩ : ByteArray) ++ b = b := by apply ByteArray.ext; simp
    rw [show (if false = true then (⟨#[13]⟩ : ByteArray) else ⟨#[]⟩) = ⟨#[]⟩ from rfl, he] at n2
    rw [← hF] at n1 n3
    rw [show F ++ (a ++ b) = F ++ a ++ b by apply ByteArray.ext; simp] at n3
    have N1 := Lib.hid n1; have N2 := Lib.hid n2; have N3 := Lib.hid n3
    clear n1 n2 n3 hF he
    have hfa : (F ++ a).size ≤ 1048577 := by simp; omega
    go_enter Try.func9, Try.ntmps9
    go_wp2_with fail
    refine (N1.out _).mono ?_; rintro e w1 ⟨rfl, hb1⟩
    go_wp2_with fail
    refine (N2.out _).mono ?_; rintro e w2 ⟨rfl, hb2⟩
    have L2 := hb1.trans (hb2.mono hb1.size)
    go_wp2_with fail
    refine (N3.out _).mono ?_; rintro e w3 ⟨rfl, hb3⟩
    have L3 := L2.trans (hb3.mono L2.size)
    go_wp2_with fail
    refine (lives _).mono ?_; rintro e w4 ⟨rfl, hb4⟩
    go_wp2_with fail
    go_ret
    exact ⟨rfl, L3.trans (hb4.mono L3.size)⟩
end Go.Proofs.Ytgokbjnpjjdboaa.Nvt
