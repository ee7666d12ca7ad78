/- Contracts of page.Read and page.Write. -/
import Derived.Test.YtgokbjnpjjdboaaPageA
import Derived.Test.YtgokbjnpjjdboaaCom
namespace Go.Proofs.Ytgokbjnpjjdboaa.Page
open Go.ChangeShapes Go.WideShapes Go.ChangeAt Go.RowKit
open Go.Proofs.Ytgokbjnpjjdboaa.Com
set_option maxRecDepth 100000

theorem infoInt : (Try.prog.info? 3).map (fun i => (i.zero, i.size, i.bytes)) = some (some (.int .i64 0), 1, 8) := by kernel_rfl
theorem infoByte : (Try.prog.info? 5).map (fun i => (i.zero, i.size, i.bytes)) = some (some (.int .u8 0), 1, 1) := by kernel_rfl

/-- The runes of the first bytes. -/
def runesOf (p : Int) (l : List UInt8) : List Value := l.map fun b => .int .i64 (ofS p b.toNat)
theorem runesOf_len (p : Int) (l : List UInt8) : (runesOf p l).length = l.length := by simp [runesOf]
theorem runesOf_snoc (p : Int) (l : List UInt8) (b : UInt8) : runesOf p (l ++ [b]) = runesOf p l ++ [.int .i64 (ofS p b.toNat)] := by simp [runesOf]

theorem read_bad (p : Int) (s : ByteArray) (h : p < 1 ∨ 4 < p) (w : World) :
    Calls Try.prog 21 #[.int .i64 p, .string s] w fun e w' => e = .returned (.tuple #[.slice none 0 0, .int .i64 6]) ∧ Below w.heap.size w w' := by
  go_enter Try.func21, Try.ntmps21
  go_wp2_with (go_at_call 32; refine (known_no _ h _).mono ?_; rintro e w' ⟨rfl, rfl⟩)
  go_ret2
  exact ⟨rfl, Below.refl _ _⟩

theorem read_ok (p : Int) (s : ByteArray) (h0 : 1 ≤ p) (h1 : p ≤ 4) (hs : s.size * 8 ≤ 140737488355328) (w : World) :
    Calls Try.prog 21 #[.int .i64 p, .string s] w fun e w' => ∃ v, e = .returned (.tuple #[v, .int .i64 0]) ∧ Own w' w.heap.size 3 v (runesOf p s.data.toList) ∧ Below w.heap.size w w' := by
  obtain ⟨i0, hi, hz0, hz1, hz2⟩ := info_parts infoInt
  go_enter Try.func21, Try.ntmps21
  go_wp2_with (go_at_call 32; refine (known_yes _ h0 h1 _).mono ?_; rintro e w' ⟨rfl, rfl⟩)
  go_loopw [6, 13] (fun v i wr => ∃ k : Nat, k ≤ s.size ∧ i = .int .i64 k ∧ Own wr w.heap.size 3 v (runesOf p (s.data.toList.take k)) ∧ Below w.heap.size w wr) (fun _ i _ => s.size - (intOf i).toNat)
  case atStart => exact ⟨0, Nat.zero_le _, rfl, Own.nil _ _ _, Below.refl _ _⟩
  case round =>
    obtain ⟨k, hk, rfl, hown, hb⟩ := hrel
    by_cases hlt : k < s.size
    · have hts := take_snocB s k hlt
      have HT : Hid (runesOf p (s.data.toList.take (k + 1)) = runesOf p (s.data.toList.take k) ++ [.int .i64 (ofS p (s[k]).toNat)]) := by
        show _ = _; rw [hts, runesOf_snoc]
      clear hts
      have hx := (s[k]).toNat_lt
      have HX : Hid (ofS p (s[k]).toNat = ofS p (s[k]).toNat) := rfl
      have hl : (runesOf p (s.data.toList.take k)).length = k := by rw [runesOf_len]; simp; omega
      have HL := Lib.hid hl; clear hl
      go_wp2_with fail
      refine (of_any p _ (by omega) (by omega) _).mono ?_; rintro e w1 ⟨rfl, hb1⟩
      generalize ofS p (s[k]).toNat = r at *
      have hown1 := hown.keep hb1
      have L1 := hb.trans (hb1.mono hb.size)
      have hsz1 := L1.size
      clear hown hb hb1
      go_wp2_with (at_builtin; refine wpList_append_own _ rfl _ _ 35 rfl w.heap.size 3 i0 (.int .i64 0) 1 8 Try.underlying35 hi hz0 hz1 hz2 rfl (by decide) _ _ _ rfl (hown1.alloc _) ⟨w1.heap.size, 0, none⟩ 1 1 [.int .i64 r] rfl rfl (cell_one_new _ _ _) (fun x hx => by simp at hx; subst hx; rfl) (by rw [HL.out]; unfold maxLen; omega) (by rw [HL.out]; omega) (by simp; omega) ?_; intro v' w2 hown2 hgrow _)
      have L2 := below_app L1 (Nat.le_refl _) hown1 hgrow
      have hown3 : Own w2 w.heap.size 3 v' (runesOf p (s.data.toList.take (k + 1))) := by
        unfold Own; rw [HT.out]; simpa using hown2
      clear hown1 hown2 hgrow L1
      go_wp2_with fail
      go_roundw
      case rel => exact ⟨k + 1, by omega, by go_num, hown3, L2⟩
      case measure => simp [intOf]; omega
    · have hk2 : k = s.size := by omega
      have HT : Hid (s.data.toList.take k = s.data.toList) := by
        show _ = _; rw [hk2]; apply List.take_of_length_le; simp
      clear hk2
      go_wp2_with fail
      go_ret2
      exact ⟨_, rfl, by rw [← HT.out]; exact hown, hb⟩

def ints (xs : List Int) : List Value := xs.map (Value.int .i64)
def wbyte (p r : Int) : Nat := match byteS p r with | some k => k | none => 63
def lost (p r : Int) : Nat := match byteS p r with | some _ => 0 | none => 1
def wb (p r : Int) : UInt8 := UInt8.ofNat (wbyte p r)
def wbytes (p : Int) (xs : List Int) : List Value := bytesV (xs.map (wb p))
def losts (p : Int) (xs : List Int) : Nat := (xs.map (lost p)).sum
theorem losts_le (p : Int) (xs : List Int) : losts p xs ≤ xs.length := by
  induction xs with
  | nil => simp [losts]
  | cons a l ih =>
    have : lost p a ≤ 1 := by unfold lost; split <;> omega
    simp [losts] at *; omega
theorem wbytes_snoc (p : Int) (xs : List Int) (r : Int) : wbytes p (xs ++ [r]) = wbytes p xs ++ [.int .u8 ((wb p r).toNat : Int)] := by simp [wbytes, bytesV]
theorem losts_snoc (p : Int) (xs : List Int) (r : Int) : losts p (xs ++ [r]) = losts p xs + lost p r := by simp [losts]
theorem take_snoc' (xs : List Int) (k : Nat) (h : k < xs.length) : xs.take (k + 1) = xs.take k ++ [xs[k]] := List.take_succ_eq_append_getElem h
theorem byteS_lt (p r : Int) (k : Nat) (h : byteS p r = some k) : k < 256 := by
  unfold byteS at h
  rw [List.find?_range_eq_some] at h
  have := h.2.1
  have hm : most p ≤ 256 := by unfold most; split <;> omega
  simp at this; omega

set_option maxHeartbeats 400000 in
theorem write_ok (p : Int) (v : Value) (xs : List Int) (h0 : 1 ≤ p) (h1 : p ≤ 4) (w : World) (hv : Rs w v (ints xs)) (hs : xs.length ≤ 140737488355328) :
    Calls Try.prog 22 #[.int .i64 p, v] w fun e w' => e = .returned (.tuple #[.string ⟨(xs.map (wb p)).toArray⟩, .int .i64 (losts p xs : Nat), .int .i64 0]) ∧ Below w.heap.size w w' := by
  obtain ⟨i0, hi, hz0, hz1, hz2⟩ := info_parts infoByte
  rcases hv with ⟨hx, a, cap, rfl⟩ | ⟨b, off, cap, rfl, hc1, hc2, hcell⟩
  · have : xs = [] := by simpa [ints] using hx
    subst this
    go_enter Try.func22, Try.ntmps22
    go_wp2_with (go_at_call 32; refine (known_yes _ h0 h1 _).mono ?_; rintro e w' ⟨rfl, rfl⟩)
    go_loopw [7, 8, 18] (fun v n i wr => v = .slice none 0 0 ∧ n = .int .i64 0 ∧ i = .int .i64 0 ∧ wr = w) (fun _ _ _ _ => 0)
    case atStart => exact ⟨rfl, rfl, rfl, rfl⟩
    case round =>
      obtain ⟨rfl, rfl, rfl, rfl⟩ := hrel
      have hconv := conv_bytes (P := Try.prog) wr 55 9 5 Try.underlying55 Try.underlying5 Try.underlying9 _ [] (.inl ⟨rfl, none, 0, rfl⟩)
      go_wp2_with fail
      go_ret3
      exact ⟨rfl, Below.refl _ _⟩
  · have hlen : (ints xs).length = xs.length := by simp [ints]
    rw [hlen] at hc1 ⊢
    go_enter Try.func22, Try.ntmps22
    go_wp2_with (go_at_call 32; refine (known_yes _ h0 h1 _).mono ?_; rintro e w' ⟨rfl, rfl⟩)
    go_loopw [7, 8, 18] (fun v n i wr => ∃ k : Nat, k ≤ xs.length ∧ i = .int .i64 k ∧ n = .int .i64 (losts p (xs.take k) : Nat) ∧ Own wr w.heap.size 5 v (wbytes p (xs.take k)) ∧ Below w.heap.size w wr) (fun _ _ i _ => xs.length - (intOf i).toNat)
    case atStart => exact ⟨0, Nat.zero_le _, rfl, rfl, Own.nil _ _ _, Below.refl _ _⟩
    case round =>
      obtain ⟨k, hk, rfl, rfl, hown, hb⟩ := hrel
      by_cases hlt : k < xs.length
      · have hts := take_snoc' xs k hlt
        have hcx : w.cell? ⟨b, off + k, none⟩ = some (.int .i64 xs[k]) := hcell k _ (by simp [ints, hlt])
        have hcx' := cell_keep hcx (hb.mono (Nat.le_refl _))
        generalize xs[k] = r at *
        have HT : Hid (wbytes p (xs.take (k + 1)) = wbytes p (xs.take k) ++ [.int .u8 ((wb p r).toNat : Int)]) := by
          show _ = _; rw [hts, wbytes_snoc]
        have HT2 : Hid (losts p (xs.take (k + 1)) = losts p (xs.take k) + lost p r) := by
          show _ = _; rw [hts, losts_snoc]
        clear hts
        have hl : (wbytes p (xs.take k)).length = k := by simp [wbytes, bytesV]; omega
        have HL := Lib.hid hl; clear hl
        have hll : losts p (xs.take k) ≤ k := by have := losts_le p (xs.take k); simp at this; omega
        have HC := Lib.hid hcell; clear hcell
        cases hbs : byteS p r with
        | some j =>
          have hj := byteS_lt p r j hbs
          have HR : Hid (byteR p r = .tuple #[.int .u8 (j : Nat), .int .i64 0]) := by show _ = _; unfold byteR; rw [hbs]
          have e1 : ((wb p r).toNat : Int) = j := by unfold wb wbyte; rw [hbs]; simp; omega
          have e2 : lost p r = 0 := by unfold lost; rw [hbs]
          rw [e1] at HT; rw [e2] at HT2
          clear e1 e2 hbs
          go_wp2_with fail
          refine (byte_ok p r h0 h1 _).mono ?_; rintro e w1 ⟨rfl, hb1⟩
          rw [HR.out]
          have hown1 := hown.keep hb1
          have L1 := hb.trans (hb1.mono hb.size)
          have hsz1 := L1.size
          clear hown hb hb1
          go_wp2_with (at_builtin; refine wpList_append_own _ rfl _ _ 55 rfl w.heap.size 5 i0 (.int .u8 0) 1 1 Try.underlying55 hi hz0 hz1 hz2 rfl (by decide) _ _ _ rfl (hown1.alloc _) ⟨w1.heap.size, 0, none⟩ 1 1 [.int .u8 j] rfl rfl (cell_one_new _ _ _) (fun x hx => by simp at hx; subst hx; rfl) (by rw [HL.out]; unfold maxLen; omega) (by rw [HL.out]; omega) (by simp; omega) ?_; intro v' w2 hown2 hgrow _)
          have L2 := below_app L1 (Nat.le_refl _) hown1 hgrow
          have hown3 : Own w2 w.heap.size 5 v' (wbytes p (xs.take (k + 1))) := by
            unfold Own; rw [HT.out]; simpa using hown2
          clear hown1 hown2 hgrow L1
          go_wp2_with fail
          go_roundw
          case rel => exact ⟨k + 1, by omega, by go_num, by rw [HT2.out]; rfl, hown3, L2⟩
          case measure => simp [intOf]; omega
        | none =>
          have HR : Hid (byteR p r = .tuple #[.int .u8 0, .int .i64 6]) := by show _ = _; unfold byteR; rw [hbs]
          have e1 : ((wb p r).toNat : Int) = 63 := by unfold wb wbyte; rw [hbs]; rfl
          have e2 : lost p r = 1 := by unfold lost; rw [hbs]
          rw [e1] at HT; rw [e2] at HT2
          clear e1 e2 hbs
          go_wp2_with fail
          refine (byte_ok p r h0 h1 _).mono ?_; rintro e w1 ⟨rfl, hb1⟩
          rw [HR.out]
          have hown1 := hown.keep hb1
          have L1 := hb.trans (hb1.mono hb.size)
          have hsz1 := L1.size
          clear hown hb hb1
          go_wp2_with (at_builtin; refine wpList_append_own _ rfl _ _ 55 rfl w.heap.size 5 i0 (.int .u8 0) 1 1 Try.underlying55 hi hz0 hz1 hz2 rfl (by decide) _ _ _ rfl (hown1.alloc _) ⟨w1.heap.size, 0, none⟩ 1 1 [.int .u8 63] rfl rfl (cell_one_new _ _ _) (fun x hx => by simp at hx; subst hx; rfl) (by rw [HL.out]; unfold maxLen; omega) (by rw [HL.out]; omega) (by simp; omega) ?_; intro v' w2 hown2 hgrow _)
          have L2 := below_app L1 (Nat.le_refl _) hown1 hgrow
          have hown3 : Own w2 w.heap.size 5 v' (wbytes p (xs.take (k + 1))) := by
            unfold Own; rw [HT.out]; simpa using hown2
          clear hown1 hown2 hgrow L1
          go_wp2_with fail
          go_roundw
          case rel => exact ⟨k + 1, by omega, by go_num, by rw [HT2.out]; go_num, hown3, L2⟩
          case measure => simp [intOf]; omega
      · obtain rfl : k = xs.length := by omega
        simp only [List.take_length] at *
        have hconv := conv_bytes (P := Try.prog) wr 55 9 5 Try.underlying55 Try.underlying5 Try.underlying9 _ _ hown.rs
        go_wp2_with fail
        go_ret3
        exact ⟨rfl, hb⟩
end Go.Proofs.Ytgokbjnpjjdboaa.Page
