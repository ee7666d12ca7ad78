/- The contract of nvt.In; the constant case nvtLives. -/
import Derived.Test.YtogbihcffnhpoaaNvtA
namespace Go.Proofs.Ytogbihcffnhpoaa.Nvt
open Go.ChangeShapes Go.WideShapes Go.ChangeAt Go.RowKit
open Go.Proofs.Ytogbihcffnhpoaa.Com
set_option maxRecDepth 100000

theorem in_bin (cr : Bool) (s : ByteArray) (hs : s.size ≤ 8388608) (w : World) :
    Calls Try.prog 7 #[.bool cr, .string s, .bool true] w fun e w' => e = .returned (.tuple #[.bool false, .string ((if cr then ⟨#[13]⟩ else ⟨#[]⟩) ++ s)]) ∧ Below w.heap.size w w' := by
  cases cr
  all_goals
    go_enter Try.func7, Try.ntmps7
    go_wp2_with (go_at_call 11; refine (flush_any _ _).mono ?_; rintro e w' ⟨rfl, rfl⟩)

    go_ret2
    exact ⟨rfl, Below.refl _ _⟩

set_option maxHeartbeats 800000 in
theorem in_any (cr : Bool) (s : ByteArray) (hs : s.size ≤ 8388608) (w : World) :
    Calls Try.prog 7 #[.bool cr, .string s, .bool false] w fun e w' => e = .returned (.tuple #[.bool (inS cr s.data.toList).1, .string ⟨(inS cr s.data.toList).2.toArray⟩]) ∧ Below w.heap.size w w' := by
  obtain ⟨i0, hi, hz0, hz1, hz2⟩ := info_parts infoByte
  go_enter Try.func7, Try.ntmps7
  go_wp2_with fail
  go_loopw [0, 8, 18] (fun c v i wr => ∃ k : Nat, k ≤ s.size ∧ i = .int .i64 k ∧ c = .bool (inS cr (s.data.toList.take k)).1 ∧ Own wr w.heap.size 5 v (bytesV (inS cr (s.data.toList.take k)).2) ∧ Below w.heap.size w wr) (fun _ _ i _ => s.size - (intOf i).toNat)
  case atStart => exact ⟨0, Nat.zero_le _, rfl, rfl, Own.nil _ _ _, Below.refl _ _⟩
  case round =>
    obtain ⟨k, hk, rfl, rfl, hown, hb⟩ := hrel
    by_cases hlt : k < s.size
    · have hst : inS cr (s.data.toList.take (k + 1)) = inB (inS cr (s.data.toList.take k)) s[k] := by rw [take_snocB s k hlt, inS_snoc]
      have hl : (bytesV (inS cr (s.data.toList.take k)).2).length ≤ 2 * s.size := by
        rw [bytesV_len]; have := inS_len cr (s.data.toList.take k); simp at this; omega
      obtain ⟨c0, o0, hco⟩ : ∃ c o, inS cr (s.data.toList.take k) = (c, o) := ⟨_, _, rfl⟩
      rw [hco] at hown hl hst ⊢
      simp only [] at hown hl ⊢
      have HL := Lib.hid hl; clear hl
      have HS := Lib.hid hst; clear hst
      have hne : (s[k]).toNat = (s[k]).toNat := rfl
      clear hco
      by_cases h10 : s[k] = 10
      · have hv : ((s[k]).toNat : Int) = 10 := by rw [h10]; rfl
        have HE : Hid (s[k] = 10) := h10
        clear h10
        cases c0
        · have HC : Hid ((inS cr (s.data.toList.take (k + 1))).1 = false) := by show _ = _; rw [HS.out]; simp [inB, HE.out]
          have HT : Hid ((inS cr (s.data.toList.take (k + 1))).2 = o0 ++ [10]) := by show _ = _; rw [HS.out]; simp [inB, HE.out]
          go_wp2_with (at_builtin; refine wpList_app rfl _ _ 26 5 rfl w.heap.size i0 _ 1 Try.underlying26 hi hz0 hz1 hz2 rfl _ _ rfl hown [.int .u8 10] 1 rfl rfl (fun x hx => by simp at hx; subst hx; rfl) (by omega) (by have := HL.out; simp only [List.length_append, List.length_cons, List.length_nil]; omega) _ hb (Nat.le_refl _) ?_; intro v2 w2 hown2 L2)
          clear hown hb
          go_wp2_with fail
          go_roundw
          case rel => exact ⟨k + 1, by omega, by go_num, by rw [HC.out], by rw [HT.out]; simpa [bytesV] using hown2, L2⟩
          case measure => simp [intOf]; omega
        · have HC : Hid ((inS cr (s.data.toList.take (k + 1))).1 = false) := by show _ = _; rw [HS.out]; simp [inB, HE.out]
          have HT : Hid ((inS cr (s.data.toList.take (k + 1))).2 = o0 ++ [10]) := by show _ = _; rw [HS.out]; simp [inB, HE.out]
          go_wp2_with (at_builtin; refine wpList_app rfl _ _ 26 5 rfl w.heap.size i0 _ 1 Try.underlying26 hi hz0 hz1 hz2 rfl _ _ rfl hown [.int .u8 10] 1 rfl rfl (fun x hx => by simp at hx; subst hx; rfl) (by omega) (by have := HL.out; simp only [List.length_append, List.length_cons, List.length_nil]; omega) _ hb (Nat.le_refl _) ?_; intro v2 w2 hown2 L2)
          clear hown hb
          go_wp2_with fail
          go_roundw
          case rel => exact ⟨k + 1, by omega, by go_num, by rw [HC.out], by rw [HT.out]; simpa [bytesV] using hown2, L2⟩
          case measure => simp [intOf]; omega
      · by_cases h0 : s[k] = 0
        · have hv : ((s[k]).toNat : Int) = 0 := by rw [h0]; rfl
          have HE : Hid (s[k] = 0) := h0
          clear h0 h10
          cases c0
          · have HC : Hid ((inS cr (s.data.toList.take (k + 1))).1 = false) := by show _ = _; rw [HS.out]; simp [inB, HE.out]
            have HT : Hid ((inS cr (s.data.toList.take (k + 1))).2 = o0 ++ [0]) := by show _ = _; rw [HS.out]; simp [inB, HE.out]
            go_wp2_with (at_builtin; refine wpList_app rfl _ _ 26 5 rfl w.heap.size i0 _ 1 Try.underlying26 hi hz0 hz1 hz2 rfl _ _ rfl hown [.int .u8 0] 1 rfl rfl (fun x hx => by simp at hx; subst hx; rfl) (by omega) (by have := HL.out; simp only [List.length_append, List.length_cons, List.length_nil]; omega) _ hb (Nat.le_refl _) ?_; intro v2 w2 hown2 L2)
            clear hown hb
            go_wp2_with fail
            go_roundw
            case rel => exact ⟨k + 1, by omega, by go_num, by rw [HC.out], by rw [HT.out]; simpa [bytesV] using hown2, L2⟩
            case measure => simp [intOf]; omega
          · have HC : Hid ((inS cr (s.data.toList.take (k + 1))).1 = false) := by show _ = _; rw [HS.out]; simp [inB, HE.out]
            have HT : Hid ((inS cr (s.data.toList.take (k + 1))).2 = o0 ++ [13]) := by show _ = _; rw [HS.out]; simp [inB, HE.out]
            go_wp2_with (at_builtin; refine wpList_app rfl _ _ 26 5 rfl w.heap.size i0 _ 1 Try.underlying26 hi hz0 hz1 hz2 rfl _ _ rfl hown [.int .u8 13] 1 rfl rfl (fun x hx => by simp at hx; subst hx; rfl) (by omega) (by have := HL.out; simp only [List.length_append, List.length_cons, List.length_nil]; omega) _ hb (Nat.le_refl _) ?_; intro v2 w2 hown2 L2)
            clear hown hb
            go_wp2_with fail
            go_roundw
            case rel => exact ⟨k + 1, by omega, by go_num, by rw [HC.out], by rw [HT.out]; simpa [bytesV] using hown2, L2⟩
            case measure => simp [intOf]; omega
        · by_cases h13 : s[k] = 13
          · have hv : ((s[k]).toNat : Int) = 13 := by rw [h13]; rfl
            have HE : Hid (s[k] = 13) := h13
            clear h0 h10 h13
            cases c0
            · have HC : Hid ((inS cr (s.data.toList.take (k + 1))).1 = true) := by show _ = _; rw [HS.out]; simp [inB, HE.out]
              have HT : Hid ((inS cr (s.data.toList.take (k + 1))).2 = o0) := by show _ = _; rw [HS.out]; simp [inB, HE.out]
              go_wp2_with fail
              go_roundw
              case rel => exact ⟨k + 1, by omega, by go_num, by rw [HC.out], by rw [HT.out]; exact hown, hb⟩
              case measure => simp [intOf]; omega
            · have HC : Hid ((inS cr (s.data.toList.take (k + 1))).1 = true) := by show _ = _; rw [HS.out]; simp [inB, HE.out]
              have HT : Hid ((inS cr (s.data.toList.take (k + 1))).2 = o0 ++ [13]) := by show _ = _; rw [HS.out]; simp [inB, HE.out]
              go_wp2_with (at_builtin; refine wpList_app rfl _ _ 26 5 rfl w.heap.size i0 _ 1 Try.underlying26 hi hz0 hz1 hz2 rfl _ _ rfl hown [.int .u8 13] 1 rfl rfl (fun x hx => by simp at hx; subst hx; rfl) (by omega) (by have := HL.out; simp only [List.length_append, List.length_cons, List.length_nil]; omega) _ hb (Nat.le_refl _) ?_; intro v2 w2 hown2 L2)
              clear hown hb
              go_wp2_with fail
              go_roundw
              case rel => exact ⟨k + 1, by omega, by go_num, by rw [HC.out], by rw [HT.out]; simpa [bytesV] using hown2, L2⟩
              case measure => simp [intOf]; omega
          · have n10 : (s[k]).toNat ≠ 10 := fun h => h10 (UInt8.toNat_inj.1 h)
            have n0 : (s[k]).toNat ≠ 0 := fun h => h0 (UInt8.toNat_inj.1 h)
            have n13 : (s[k]).toNat ≠ 13 := fun h => h13 (UInt8.toNat_inj.1 h)
            have q10 : (((s[k]).toNat : Int) == 10) = false := by simp; omega
            have q0 : (((s[k]).toNat : Int) == 0) = false := by simp; omega
            have q13 : (((s[k]).toNat : Int) == 13) = false := by simp; omega
            have HE : Hid (s[k] ≠ 10 ∧ s[k] ≠ 0 ∧ s[k] ≠ 13) := ⟨h10, h0, h13⟩
            clear h0 h10 h13 n10 n0 n13
            cases c0
            · have HC : Hid ((inS cr (s.data.toList.take (k + 1))).1 = false) := by show _ = _; rw [HS.out]; simp [inB, HE.out.1, HE.out.2.1, HE.out.2.2]
              have HT : Hid ((inS cr (s.data.toList.take (k + 1))).2 = o0 ++ [s[k]]) := by show _ = _; rw [HS.out]; simp [inB, HE.out.1, HE.out.2.1, HE.out.2.2]
              go_wp2_with (at_builtin; refine wpList_app rfl _ _ 26 5 rfl w.heap.size i0 _ 1 Try.underlying26 hi hz0 hz1 hz2 rfl _ _ rfl hown [.int .u8 (s[k]).toNat] 1 rfl rfl (fun x hx => by simp at hx; subst hx; rfl) (by omega) (by have := HL.out; simp only [List.length_append, List.length_cons, List.length_nil]; omega) _ hb (Nat.le_refl _) ?_; intro v2 w2 hown2 L2)
              clear hown hb
              go_wp2_with fail
              go_roundw
              case rel => exact ⟨k + 1, by omega, by go_num, by rw [HC.out], by rw [HT.out]; simpa [bytesV] using hown2, L2⟩
              case measure => simp [intOf]; omega
            · have HC : Hid ((inS cr (s.data.toList.take (k + 1))).1 = false) := by show _ = _; rw [HS.out]; simp [inB, HE.out.1, HE.out.2.1, HE.out.2.2]
              have HT : Hid ((inS cr (s.data.toList.take (k + 1))).2 = o0 ++ [13] ++ [s[k]]) := by show _ = _; rw [HS.out]; simp [inB, HE.out.1, HE.out.2.1, HE.out.2.2]
              go_wp2_with (first | (at_builtin; refine wpList_app rfl (.tmp 36) (.tmp 37) 26 5 rfl w.heap.size i0 _ 1 Try.underlying26 hi hz0 hz1 hz2 rfl _ _ rfl hown [.int .u8 13] 1 rfl rfl (fun x hx => by simp at hx; subst hx; rfl) (by omega) (by have := HL.out; simp only [List.length_append, List.length_cons, List.length_nil]; omega) _ hb (Nat.le_refl _) ?_; intro v2 w2 hown2 L2) | (at_builtin; refine wpList_app rfl (.tmp 41) (.tmp 43) 26 5 rfl w.heap.size i0 _ 1 Try.underlying26 hi hz0 hz1 hz2 rfl _ _ rfl hown2 [.int .u8 (s[k]).toNat] 1 rfl rfl (fun x hx => by simp at hx; subst hx; rfl) (by omega) (by have := HL.out; simp only [List.length_append, List.length_cons, List.length_nil]; omega) _ L2 (Nat.le_refl _) ?_; intro v3 w3 hown3 L3))
              clear hown hb hown2 L2
              go_wp2_with fail
              go_roundw
              case rel => exact ⟨k + 1, by omega, by go_num, by rw [HC.out], by rw [HT.out]; simpa [bytesV] using hown3, L3⟩
              case measure => simp [intOf]; omega
    · obtain rfl : k = s.size := by omega
      rw [take_all] at *
      have hconv := fun n => conv_bytes (P := Try.prog) (wr.drewN n) 26 9 5 Try.underlying26 Try.underlying5 Try.underlying9 _ _ (hown.rs.keep (Joins.below_draws _ _ n))
      go_wp2_with fail
      go_quiet (fail)
      go_wp2_with fail
      go_ret2
      exact ⟨rfl, hb.trans (Joins.below_draws _ _ _)⟩
end Go.Proofs.Ytogbihcffnhpoaa.Nvt
