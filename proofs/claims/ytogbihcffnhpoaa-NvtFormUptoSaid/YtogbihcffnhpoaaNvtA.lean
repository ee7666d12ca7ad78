/- Contracts of package nvt: Flush, Out, In, and the constant case nvtLives. -/
import Derived.Test.YtogbihcffnhpoaaCom
import Derived.BigQuiet
namespace Go.Proofs.Ytogbihcffnhpoaa.Nvt
open Go.ChangeShapes Go.WideShapes Go.ChangeAt Go.RowKit
open Go.Proofs.Ytogbihcffnhpoaa.Com
set_option maxRecDepth 100000

theorem infoByte : (Try.prog.info? 5).map (fun i => (i.zero, i.size, i.bytes)) = some (some (.int .u8 0), 1, 1) := by kernel_rfl

/-! ### what is computed -/
def outB (c : UInt8) : List UInt8 := if c = 10 then [13, 10] else if c = 13 then [13, 0] else [c]
def outS (l : List UInt8) : List UInt8 := l.flatMap outB
def inB (st : Bool × List UInt8) (c : UInt8) : Bool × List UInt8 :=
  if st.1 = true ∧ c = 10 then (false, st.2 ++ [10])
  else if st.1 = true ∧ c = 0 then (false, st.2 ++ [13])
  else if c = 13 then (true, if st.1 then st.2 ++ [13] else st.2)
  else (false, (if st.1 then st.2 ++ [13] else st.2) ++ [c])
def inS (cr : Bool) (l : List UInt8) : Bool × List UInt8 := l.foldl inB (cr, [])
theorem outS_snoc (l : List UInt8) (c : UInt8) : outS (l ++ [c]) = outS l ++ outB c := by simp [outS]
theorem inS_snoc (cr : Bool) (l : List UInt8) (c : UInt8) : inS cr (l ++ [c]) = inB (inS cr l) c := by simp [inS]
theorem outS_len (l : List UInt8) : (outS l).length ≤ 2 * l.length := by
  induction l with
  | nil => simp [outS]
  | cons c r ih =>
    have h1 : (outB c).length ≤ 2 := by
      unfold outB
      split
      · simp
      · split <;> simp
    have h2 : outS (c :: r) = outB c ++ outS r := by simp [outS]
    rw [h2, List.length_append, List.length_cons]; omega
theorem inB_len (st : Bool × List UInt8) (c : UInt8) : (inB st c).2.length ≤ st.2.length + 2 := by
  unfold inB
  split
  · simp
  · split
    · simp
    · split
      · simp only []; split <;> simp
      · simp only [List.length_append]; split <;> simp
theorem inS_len (cr : Bool) (l : List UInt8) : (inS cr l).2.length ≤ 2 * l.length := by
  have : ∀ (l : List UInt8) (st : Bool × List UInt8), (l.foldl inB st).2.length ≤ st.2.length + 2 * l.length := by
    intro l
    induction l with
    | nil => intro st; simp
    | cons c r ih => intro st; have h1 := ih (inB st c); have h2 := inB_len st c; simp only [List.foldl_cons, List.length_cons]; omega
  have := this l (cr, []); simpa [inS] using this

/-! ### the walks -/
theorem flush_any (cr : Bool) (w : World) : Calls Try.prog 11 #[.bool cr] w fun e w' => e = .returned (.string (if cr then ⟨#[13]⟩ else ⟨#[]⟩)) ∧ w = w' := by
  cases cr
  all_goals
    go_enter Try.func11, Try.ntmps11
    go_wp2
    go_ret
    exact ⟨rfl, rfl⟩

theorem out_bin (s : ByteArray) (w : World) : Calls Try.prog 4 #[.string s, .bool true] w fun e w' => e = .returned (.string s) ∧ Below w.heap.size w w' := by
  go_enter Try.func4, Try.ntmps4
  go_wp2
  go_ret
  exact ⟨rfl, Below.refl _ _⟩

theorem out_any (s : ByteArray) (hs : s.size ≤ 4194304) (w : World) :
    Calls Try.prog 4 #[.string s, .bool false] w fun e w' => e = .returned (.string ⟨(outS s.data.toList).toArray⟩) ∧ Below w.heap.size w w' := by
  obtain ⟨i0, hi, hz0, hz1, hz2⟩ := info_parts infoByte
  go_enter Try.func4, Try.ntmps4
  go_wp2_with fail
  go_loopw [5, 11] (fun v i wr => ∃ k : Nat, k ≤ s.size ∧ i = .int .i64 k ∧ Own wr w.heap.size 5 v (bytesV (outS (s.data.toList.take k))) ∧ Below w.heap.size w wr) (fun _ i _ => s.size - (intOf i).toNat)
  case atStart => exact ⟨0, Nat.zero_le _, rfl, Own.nil _ _ _, Below.refl _ _⟩
  case round =>
    obtain ⟨k, hk, rfl, hown, hb⟩ := hrel
    by_cases hlt : k < s.size
    · have HT : Hid (bytesV (outS (s.data.toList.take (k + 1))) = bytesV (outS (s.data.toList.take k)) ++ bytesV (outB s[k])) := by
        show _ = _; rw [take_snocB s k hlt, outS_snoc, bytesV_app]
      have hl : (bytesV (outS (s.data.toList.take k))).length ≤ 2 * s.size := by
        rw [bytesV_len]; have := outS_len (s.data.toList.take k); simp at this; omega
      have HL := Lib.hid hl; clear hl
      by_cases h10 : s[k] = 10
      · have q1 : (((s[k]).toNat : Int) == 10) = true := by rw [h10]; rfl
        have e1 : bytesV (outB s[k]) = [.int .u8 13, .int .u8 10] := by rw [h10]; rfl
        rw [e1] at HT
        clear e1 h10
        go_wp2_with (at_builtin; refine wpList_app rfl _ _ 26 5 rfl w.heap.size i0 _ 1 Try.underlying26 hi hz0 hz1 hz2 rfl _ _ rfl hown [.int .u8 13, .int .u8 10] 2 rfl rfl (fun x hx => by simp at hx; rcases hx with rfl | rfl <;> rfl) (by omega) (by have := HL.out; simp only [List.length_cons, List.length_nil]; omega) _ hb (Nat.le_refl _) ?_; intro v' w2 hown2 L2)
        rw [← HT.out] at hown2
        clear hown hb
        go_wp2_with fail
        go_roundw
        case rel => exact ⟨k + 1, by omega, by go_num, hown2, L2⟩
        case measure => simp [intOf]; omega
      · have n10 : (s[k]).toNat ≠ 10 := fun h => h10 (UInt8.toNat_inj.1 h)
        have q1 : (((s[k]).toNat : Int) == 10) = false := by simp; omega
        by_cases h13 : s[k] = 13
        · have q2 : (((s[k]).toNat : Int) == 13) = true := by rw [h13]; rfl
          have e1 : bytesV (outB s[k]) = [.int .u8 13, .int .u8 0] := by rw [h13]; rfl
          rw [e1] at HT
          clear e1 h10 h13 n10
          go_wp2_with (at_builtin; refine wpList_app rfl _ _ 26 5 rfl w.heap.size i0 _ 1 Try.underlying26 hi hz0 hz1 hz2 rfl _ _ rfl hown [.int .u8 13, .int .u8 0] 2 rfl rfl (fun x hx => by simp at hx; rcases hx with rfl | rfl <;> rfl) (by omega) (by have := HL.out; simp only [List.length_cons, List.length_nil]; omega) _ hb (Nat.le_refl _) ?_; intro v' w2 hown2 L2)
          rw [← HT.out] at hown2
          clear hown hb
          go_wp2_with fail
          go_roundw
          case rel => exact ⟨k + 1, by omega, by go_num, hown2, L2⟩
          case measure => simp [intOf]; omega
        · have n13 : (s[k]).toNat ≠ 13 := fun h => h13 (UInt8.toNat_inj.1 h)
          have q2 : (((s[k]).toNat : Int) == 13) = false := by simp; omega
          have e1 : bytesV (outB s[k]) = [.int .u8 (s[k]).toNat] := by unfold outB; rw [if_neg h10, if_neg h13]; rfl
          rw [e1] at HT
          clear e1 h10 h13 n10 n13
          go_wp2_with (at_builtin; refine wpList_app rfl _ _ 26 5 rfl w.heap.size i0 _ 1 Try.underlying26 hi hz0 hz1 hz2 rfl _ _ rfl hown [.int .u8 (s[k]).toNat] 1 rfl rfl (fun x hx => by simp at hx; subst hx; rfl) (by omega) (by have := HL.out; simp only [List.length_cons, List.length_nil]; omega) _ hb (Nat.le_refl _) ?_; intro v' w2 hown2 L2)
          rw [← HT.out] at hown2
          clear hown hb
          go_wp2_with fail
          go_roundw
          case rel => exact ⟨k + 1, by omega, by go_num, hown2, L2⟩
          case measure => simp [intOf]; omega
    · obtain rfl : k = s.size := by omega
      rw [take_all] at hown
      have hconv := conv_bytes (P := Try.prog) wr 26 9 5 Try.underlying26 Try.underlying5 Try.underlying9 _ _ hown.rs
      go_wp2_with fail
      go_ret
      exact ⟨rfl, hb⟩
end Go.Proofs.Ytogbihcffnhpoaa.Nvt
