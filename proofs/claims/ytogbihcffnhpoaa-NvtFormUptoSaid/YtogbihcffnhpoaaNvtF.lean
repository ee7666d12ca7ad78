/- The law NvtForm (the argument of at most 1048576 bytes). -/
import Derived.Test.YtogbihcffnhpoaaNvtV
import Derived.Lib.Strings
import Derived.Lib.Slices
import Derived.Lib.Walk
import Derived.Lib.Bytealg
namespace Go.Proofs.Ytogbihcffnhpoaa.Nvt
open Go.ChangeShapes Go.WideShapes Go.ChangeAt Go.RowKit
open Go.Proofs.Ytogbihcffnhpoaa.Com Go.Proofs.Ytogbihcffnhpoaa.Args
set_option maxRecDepth 100000

theorem count_any (s : ByteArray) (c : UInt8) (w : World) :
    Calls Try.prog 6 #[.string s, .string ⟨#[c]⟩] w fun e w' => e = .returned (.int .i64 (Lib.countByte s.data.toList c)) ∧ w = w' := by
  go_enter Try.func6, Try.ntmps6
  go_wp2
  rw [run_callFunc_extern Try.func9 (by kernel_rfl) (by kernel_rfl) (by kernel_rfl) (e := Extern.BytealgCount.count) (by kernel_rfl), Lib.run_countString]
  simp only [Result.andThen]
  rw [Oper.upon_value]
  go_wp2
  go_ret
  exact ⟨rfl, rfl⟩
theorem out_form (l : List UInt8) : ∀ (i : Nat) (c : UInt8), (outS l)[i]? = some c → (c = 13 → ∃ d, (outS l)[i + 1]? = some d ∧ (d = 10 ∨ d = 0)) ∧ (c = 10 → ∃ j, i = j + 1 ∧ (outS l)[j]? = some 13) := by
  induction l with
  | nil => intro i c h; simp [outS] at h
  | cons x r ih =>
    have e : outS (x :: r) = outB x ++ outS r := by simp [outS]
    rw [e]
    intro i c h
    by_cases h1 : x = 10
    · subst h1
      have eb : outB 10 = [13, 10] := rfl
      rw [eb] at h ⊢
      match i, h with
      | 0, h => simp at h; subst h; exact ⟨fun _ => ⟨10, rfl, .inl rfl⟩, fun h => absurd h (by decide)⟩
      | 1, h => simp at h; subst h; exact ⟨fun h => absurd h (by decide), fun _ => ⟨0, rfl, rfl⟩⟩
      | i+2, h =>
        obtain ⟨a, b⟩ := ih i c (by simpa using h)
        exact ⟨fun q => by simpa using a q, fun q => by obtain ⟨j, rfl, hj⟩ := b q; exact ⟨j + 2, rfl, by simpa using hj⟩⟩
    · by_cases h2 : x = 13
      · subst h2
        have eb : outB 13 = [13, 0] := rfl
        rw [eb] at h ⊢
        match i, h with
        | 0, h => simp at h; subst h; exact ⟨fun _ => ⟨0, rfl, .inr rfl⟩, fun h => absurd h (by decide)⟩
        | 1, h => simp at h; subst h; exact ⟨fun h => absurd h (by decide), fun h => absurd h (by decide)⟩
        | i+2, h =>
          obtain ⟨a, b⟩ := ih i c (by simpa using h)
          exact ⟨fun q => by simpa using a q, fun q => by obtain ⟨j, rfl, hj⟩ := b q; exact ⟨j + 2, rfl, by simpa using hj⟩⟩
      · have eb : outB x = [x] := by simp [outB, h1, h2]
        rw [eb] at h ⊢
        match i, h with
        | 0, h => simp at h; subst h; exact ⟨fun h => absurd h h2, fun h => absurd h h1⟩
        | i+1, h =>
          obtain ⟨a, b⟩ := ih i c (by simpa using h)
          exact ⟨fun q => by simpa using a q, fun q => by obtain ⟨j, rfl, hj⟩ := b q; exact ⟨j + 1, rfl, by simpa using hj⟩⟩
theorem out_count (l : List UInt8) : (outS l).length = l.length + Lib.countByte l 13 + Lib.countByte l 10 := by
  unfold Lib.countByte
  induction l with
  | nil => rfl
  | cons x r ih =>
    have e : outS (x :: r) = outB x ++ outS r := by simp [outS]
    rw [e, List.length_append, ih, List.count_cons, List.count_cons]
    by_cases h1 : x = 10
    · subst h1; simp [outB]; omega
    · by_cases h2 : x = 13
      · subst h2; simp [outB]; omega
      · simp [outB, h1, h2]; omega
theorem at_list (t : ByteArray) (k : Nat) (h : k < t.size) : t.data.toList[k]? = some t[k] := by
  rw [List.getElem?_eq_getElem (by simpa using h)]
  simp [ByteArray.getElem_eq_getElem_data]

set_option maxHeartbeats 4000000 in
theorem form_walk (v0 : Value) (w : World) (h0 : Arg (some 1048576) Try.prog w 9 v0) :
    Calls Try.prog 3 #[v0] w fun e w' => e = .returned (.bool true) ∧ Below w.heap.size w w' := by
  obtain ⟨s, rfl, hs, hf⟩ := h0.string Try.underlying9
  have hf' : s.size ≤ 1048576 := hf
  clear h0 hs hf
  have hc := out_count s.data.toList
  have hsl : s.data.toList.length = s.size := by simp
  have hol := outS_len s.data.toList
  have OF := Lib.hid (out_form s.data.toList)
  rw [hsl] at hc hol
  have HO := Lib.hid (out_any s (by omega) w)
  obtain ⟨t, ht⟩ : ∃ t : ByteArray, t = ⟨(outS s.data.toList).toArray⟩ := ⟨_, rfl⟩
  have htl : t.data.toList = outS s.data.toList := by rw [ht]
  have htz : t.size = (outS s.data.toList).length := by rw [← htl]; simp
  rw [← ht] at HO
  have HTL := Lib.hid htl
  rw [← htz] at hc hol
  clear ht htl htz hsl
  generalize hn13 : Lib.countByte s.data.toList 13 = n13 at *
  generalize hn10 : Lib.countByte s.data.toList 10 = n10 at *
  have H13 := Lib.hid hn13; have H10 := Lib.hid hn10; have HC := Lib.hid hc
  clear hn13 hn10
  have b13 : n13 ≤ 2097152 := by omega
  have b10 : n10 ≤ 2097152 := by omega
  clear hc
  go_enter Try.func3, Try.ntmps3
  go_wp2_with fail
  refine HO.out.mono ?_; rintro e w1 ⟨rfl, hb1⟩
  go_wp2_with fail
  go_loopw [9] (fun ii wr => ∃ k : Nat, k ≤ t.size ∧ ii = .int .i64 k ∧ wr = w1) (fun ii _ => t.size - (intOf ii).toNat)
  case atStart => exact ⟨0, Nat.zero_le _, rfl, rfl⟩
  case round =>
    obtain ⟨k, hk, rfl, rfl⟩ := hrel
    by_cases hlt : k < t.size
    · have hf := OF.out k t[k] (by rw [← HTL.out]; exact at_list t k hlt)
      by_cases h13 : t[k] = 13
      · obtain ⟨d, hd, hd2⟩ := hf.1 h13
        rw [← HTL.out] at hd
        have hk1 : k + 1 < t.size := by have := (List.getElem?_eq_some_iff.1 hd).1; simpa using this
        have e1 : t[k + 1] = d := by have := at_list t (k + 1) hk1; rw [hd] at this; simpa using this.symm
        have hv : ((t[k]).toNat : Int) = 13 := by rw [h13]; rfl
        clear hf hd h13
        rcases hd2 with rfl | rfl
        · have hv2 : ((t[k + 1]).toNat : Int) = 10 := by rw [e1]; rfl
          clear e1
          go_wp2_with fail
          go_roundw
          case rel => exact ⟨k + 1, by omega, by go_num, by trivial⟩
          case measure => simp [intOf]; omega
        · have hv2 : ((t[k + 1]).toNat : Int) = 0 := by rw [e1]; rfl
          clear e1
          go_wp2_with fail
          go_roundw
          case rel => exact ⟨k + 1, by omega, by go_num, by trivial⟩
          case measure => simp [intOf]; omega
      · by_cases h10 : t[k] = 10
        · obtain ⟨j, rfl, hj⟩ := hf.2 h10
          rw [← HTL.out] at hj
          have hj1 : j < t.size := by omega
          have e1 : t[j] = 13 := by have := at_list t j hj1; rw [hj] at this; simpa using this.symm
          have hv : ((t[j + 1]).toNat : Int) = 10 := by rw [h10]; rfl
          have hv2 : ((t[j]).toNat : Int) = 13 := by rw [e1]; rfl
          clear e1 hf hj h13 h10
          go_wp2_with fail
          go_roundw
          case rel => exact ⟨j + 1 + 1, by omega, by go_num, by trivial⟩
          case measure => simp [intOf]; omega
        · have q13 : (((t[k]).toNat : Int) == 13) = false := by
            have : (t[k]).toNat ≠ 13 := fun h => h13 (UInt8.toNat_inj.1 h)
            simp; omega
          have q10 : (((t[k]).toNat : Int) == 10) = false := by
            have : (t[k]).toNat ≠ 10 := fun h => h10 (UInt8.toNat_inj.1 h)
            simp; omega
          clear hf h13 h10
          go_wp2_with fail
          go_roundw
          case rel => exact ⟨k + 1, by omega, by go_num, by trivial⟩
          case measure => simp [intOf]; omega
    · go_wp2_with fail
      refine (lives _).mono ?_; rintro e w2 ⟨rfl, hb2⟩
      go_wp2_with fail
      refine (count_any s 13 _).mono ?_; rintro e w3 ⟨rfl, rfl⟩
      rw [H13.out]
      go_wp2_with fail
      refine (count_any s 10 _).mono ?_; rintro e w3 ⟨rfl, rfl⟩
      rw [H10.out]
      have z : ((t.size : Int) == (s.size : Int) + n13 + n10) = true := by simp; have := HC.out; omega
      go_wp2_with fail
      go_ret
      exact ⟨rfl, hb1.trans (hb2.mono hb1.size)⟩
end Go.Proofs.Ytogbihcffnhpoaa.Nvt
