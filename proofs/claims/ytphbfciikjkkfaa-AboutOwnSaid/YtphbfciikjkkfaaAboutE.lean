/- The constant case; the law AboutBack. -/
import Derived.Test.YtphbfciikjkkfaaAboutD
namespace Go.Proofs.Ytphbfciikjkkfaa.About
open Go.ChangeShapes Go.WideShapes Go.ChangeAt Go.RowKit
open Go.Proofs.Ytphbfciikjkkfaa.Com Go.Proofs.Ytphbfciikjkkfaa.Reg Go.Proofs.Ytphbfciikjkkfaa.Args Go.Proofs.Ytphbfciikjkkfaa.Row
set_option maxRecDepth 100000

def xterm : ByteArray := ⟨#[88, 84, 69, 82, 77]⟩
def vt100 : ByteArray := ⟨#[86, 84, 49, 48, 48]⟩
theorem lives_walk : walkS [xterm, vt100] 5 = [xterm, vt100, vt100, xterm, vt100] := by decide
theorem name_x : nameS xterm = true := by decide
theorem name_v : nameS vt100 = true := by decide
theorem x_ne_v : xterm ≠ vt100 := by decide
theorem lives_check : checkS [xterm, vt100] 0 = 0 := by
  refine check_of (by decide) (by decide) ⟨?_, ?_⟩ (by decide) (by decide)
  · intro x hx
    simp at hx
    rcases hx with rfl | rfl
    · exact name_x
    · exact name_v
  · simp [x_ne_v]
theorem strs_eq_sv (l : List ByteArray) : EqStr.strs l = sv l := rfl

set_option maxHeartbeats 2000000 in
theorem lives (w : World) : Calls Try.prog 22 #[] w fun e w' => e = .returned (.bool true) ∧ Below w.heap.size w w' := by
  have hA := Lib.hid (fun W => Sl.new W 9 (sv [xterm, vt100]) 2 rfl (by simp [sv, maxLen]))
  have hB := Lib.hid (fun W => Rs.new W 9 (sv [xterm, vt100, vt100, xterm, vt100]) 5 rfl (by simp [sv, maxLen]))
  have e1 : sizeS 80 300 = ⟨#[0, 80, 1, 44]⟩ := by decide
  have E1 := Lib.hid e1
  have E2 := Lib.hid lives_walk
  clear e1
  go_enter Try.func22, Try.ntmps22
  go_wp2_with fail
  refine (write_ok 80 300 (by decide) (by decide) _).mono ?_; rintro e w1 ⟨rfl, hb1⟩
  rw [E1.out]
  go_wp2_with fail
  refine (walk_ok _ 2 2 [xterm, vt100] 5 _ (hA.out w1) (by intro x hx; simp at hx; rcases hx with rfl | rfl <;> simp [xterm, vt100, ByteArray.size, maxLen]) lives_check (by decide)).mono ?_
  rintro e w2 ⟨v2, rfl, ho2, hb2⟩
  rw [E2.out] at ho2
  have L2 : Below w.heap.size w w2 := (hb1.trans ((below_alloc _ _).mono hb1.size)).trans (hb2.mono (by have := hb1.size; simp; omega))
  go_wp2_with fail
  refine (EqStr.eq_strs v2 _ _ [xterm, vt100, vt100, xterm, vt100] _ (ho2.rs.keep (below_alloc _ _)) (hB.out w2)).mono ?_
  rintro e w3 ⟨rfl, hb3⟩
  rw [decide_eq_true rfl]
  have L3 : Below w.heap.size w w3 := (L2.trans ((below_alloc _ _).mono L2.size)).trans (hb3.mono (by have := L2.size; simp; omega))
  go_wp2_with fail
  go_ret
  exact ⟨rfl, L3⟩

theorem read_write (x : Nat) (hx : x ≤ 65535) : readS (UInt8.ofNat (x / 256)) (UInt8.ofNat x) = x := by
  unfold readS
  simp; omega
theorem write_read (a b c d : UInt8) : sizeS (readS a b) (readS c d) = ⟨#[a, b, c, d]⟩ := by
  have key : ∀ u v : UInt8, UInt8.ofNat (readS u v / 256) = u ∧ UInt8.ofNat (readS u v) = v := by
    intro u v
    have hu := u.toNat_lt; have hv := v.toNat_lt
    unfold readS
    constructor <;> apply UInt8.toNat_inj.1 <;> simp <;> omega
  unfold sizeS
  rw [(key a b).1, (key a b).2, (key c d).1, (key c d).2]
theorem read_le (a b : UInt8) : readS a b ≤ 65535 := by
  have := a.toNat_lt; have := b.toNat_lt
  unfold readS; omega
theorem four (s : ByteArray) (h : s.size = 4) : ∃ a b c d, s = ⟨#[a, b, c, d]⟩ := by
  obtain ⟨⟨l⟩⟩ := s
  match l, h with
  | [a, b, c, d], _ => exact ⟨a, b, c, d, rfl⟩

set_option maxHeartbeats 4000000 in
theorem back_walk (v0 v1 v2 : Value) (w : World) (h0 : Arg none Try.prog w 3 v0) (h1 : Arg none Try.prog w 3 v1) (h2 : Arg none Try.prog w 9 v2) :
    Calls Try.prog 9 #[v0, v1, v2] w fun e w' => e = .returned (.bool true) ∧ Below w.heap.size w w' := by
  obtain ⟨x, rfl, _⟩ := h0.int Try.underlying3
  obtain ⟨y, rfl, _⟩ := h1.int Try.underlying3
  obtain ⟨s, rfl, hs, _⟩ := h2.string Try.underlying9
  clear h0 h1 h2
  have part : ∃ e0 : Unit, True := ⟨(), trivial⟩
  clear part
  by_cases hb : x < 0 ∨ 65535 < x ∨ y < 0 ∨ 65535 < y
  · have hs4 : s.size < 4 ∨ 4 < s.size ∨ s.size = 4 := by omega
    go_enter Try.func9, Try.ntmps9
    go_wp2_with fail
    refine (write_no x y hb _).mono ?_; rintro e w1 ⟨rfl, rfl⟩
    clear hb
    rcases hs4 with h4 | h4 | h4
    · go_wp2_with fail
      refine (read_short s h4 _).mono ?_; rintro e w1 ⟨rfl, rfl⟩
      go_wp2_with fail
      refine (write_ok 0 0 (by decide) (by decide) _).mono ?_; rintro e w1 ⟨rfl, hb1⟩
      go_wp2_with fail
      refine (lives _).mono ?_; rintro e w2 ⟨rfl, hb2⟩
      go_wp2_with fail
      go_ret
      exact ⟨rfl, bt hb1 hb2⟩
    · go_wp2_with fail
      refine (read_long s h4 hs _).mono ?_; rintro e w1 ⟨rfl, rfl⟩
      go_wp2_with fail
      refine (write_ok 0 0 (by decide) (by decide) _).mono ?_; rintro e w1 ⟨rfl, hb1⟩
      go_wp2_with fail
      refine (lives _).mono ?_; rintro e w2 ⟨rfl, hb2⟩
      go_wp2_with fail
      go_ret
      exact ⟨rfl, bt hb1 hb2⟩
    · obtain ⟨a, b, c, d, h⟩ := four s h4
      have q := str_eq (a := s) (b := s) rfl
      have H := Lib.hid h
      clear h h4
      go_wp2_with fail
      refine (read_ok s a b c d H.out _).mono ?_; rintro e w1 ⟨rfl, hb1⟩
      go_wp2_with fail
      refine (write_ok (readS a b) (readS c d) (read_le a b) (read_le c d) _).mono ?_; rintro e w2 ⟨rfl, hb2⟩
      rw [write_read, ← H.out]
      go_wp2_with fail
      refine (lives _).mono ?_; rintro e w3 ⟨rfl, hb3⟩
      go_wp2_with fail
      go_ret
      exact ⟨rfl, bt (bt hb1 hb2) hb3⟩
  · obtain ⟨m, rfl⟩ : ∃ m : Nat, x = (m : Int) := ⟨x.toNat, by omega⟩
    obtain ⟨n, rfl⟩ : ∃ n : Nat, y = (n : Int) := ⟨y.toNat, by omega⟩
    have hm : m ≤ 65535 := by omega
    have hn : n ≤ 65535 := by omega
    have z1 : ((m : Int) != m) = false := by simp
    have z2 : ((n : Int) != n) = false := by simp
    clear hb
    have hs4 : s.size < 4 ∨ 4 < s.size ∨ s.size = 4 := by omega
    go_enter Try.func9, Try.ntmps9
    go_wp2_with fail
    refine (write_ok m n hm hn _).mono ?_; rintro e w1 ⟨rfl, hb1⟩
    go_wp2_with fail
    refine (read_ok (sizeS m n) _ _ _ _ rfl _).mono ?_; rintro e w2 ⟨rfl, hb2⟩
    rw [read_write m hm, read_write n hn]
    have L2 := bt hb1 hb2
    clear hb1 hb2
    rcases hs4 with h4 | h4 | h4
    · go_wp2_with fail
      refine (read_short s h4 _).mono ?_; rintro e w3 ⟨rfl, rfl⟩
      go_wp2_with fail
      refine (write_ok 0 0 (by decide) (by decide) _).mono ?_; rintro e w3 ⟨rfl, hb3⟩
      go_wp2_with fail
      refine (lives _).mono ?_; rintro e w4 ⟨rfl, hb4⟩
      go_wp2_with fail
      go_ret
      exact ⟨rfl, bt (bt L2 hb3) hb4⟩
    · go_wp2_with fail
      refine (read_long s h4 hs _).mono ?_; rintro e w3 ⟨rfl, rfl⟩
      go_wp2_with fail
      refine (write_ok 0 0 (by decide) (by decide) _).mono ?_; rintro e w3 ⟨rfl, hb3⟩
      go_wp2_with fail
      refine (lives _).mono ?_; rintro e w4 ⟨rfl, hb4⟩
      go_wp2_with fail
      go_ret
      exact ⟨rfl, bt (bt L2 hb3) hb4⟩
    · obtain ⟨a, b, c, d, h⟩ := four s h4
      have q := str_eq (a := s) (b := s) rfl
      have H := Lib.hid h
      clear h h4
      go_wp2_with fail
      refine (read_ok s a b c d H.out _).mono ?_; rintro e w3 ⟨rfl, hb3⟩
      go_wp2_with fail
      refine (write_ok (readS a b) (readS c d) (read_le a b) (read_le c d) _).mono ?_; rintro e w4 ⟨rfl, hb4⟩
      rw [write_read, ← H.out]
      go_wp2_with fail
      refine (lives _).mono ?_; rintro e w5 ⟨rfl, hb5⟩
      go_wp2_with fail
      go_ret
      exact ⟨rfl, bt (bt (bt L2 hb3) hb4) hb5⟩
end Go.Proofs.Ytphbfciikjkkfaa.About
