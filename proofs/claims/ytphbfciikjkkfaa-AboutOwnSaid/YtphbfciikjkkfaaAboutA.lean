/- Contracts of package about: Name, WriteSize, ReadSize. -/
import Derived.Test.YtphbfciikjkkfaaMem
import Derived.Test.YtphbfciikjkkfaaReg
import Derived.Test.YtphbfciikjkkfaaArg
import Derived.BigQuiet
namespace Go.Proofs.Ytphbfciikjkkfaa.About
open Go.ChangeShapes Go.WideShapes Go.ChangeAt Go.RowKit
open Go.Proofs.Ytphbfciikjkkfaa.Com Go.Proofs.Ytphbfciikjkkfaa.Reg Go.Proofs.Ytphbfciikjkkfaa.Args
set_option maxRecDepth 100000

def okc (c : UInt8) : Bool := decide (33 ≤ c.toNat ∧ c.toNat ≤ 126)
def nameS (s : ByteArray) : Bool := s.data.toList.all okc && decide (1 ≤ s.size ∧ s.size ≤ 40)

theorem name_any (s : ByteArray) (hs : s.size ≤ maxLen) (w : World) : Calls Try.prog 59 #[.string s] w fun e w' => e = .returned (.bool (nameS s)) ∧ w = w' := by
  unfold maxLen at hs
  go_enter Try.func59, Try.ntmps59
  go_wp2_with fail
  go_loopw [6] (fun i wr => ∃ k : Nat, k ≤ s.size ∧ i = .int .i64 k ∧ Hid ((s.data.toList.take k).all okc = true) ∧ wr = w) (fun i _ => s.size - (intOf i).toNat)
  case atStart => exact ⟨0, Nat.zero_le _, rfl, rfl, rfl⟩
  case round =>
    obtain ⟨k, hk, rfl, HT, rfl⟩ := hrel
    by_cases hlt : k < s.size
    · have HS := Lib.hid (take_snocB s k hlt)
      have hmem : s[k] ∈ s.data.toList := by simp [ByteArray.getElem_eq_getElem_data]
      have HM := Lib.hid hmem
      clear hmem
      by_cases hc : okc s[k] = true
      · have HT2 : Hid ((s.data.toList.take (k + 1)).all okc = true) := by show _ = _; rw [HS.out, List.all_append, HT.out]; simp [hc]
        obtain ⟨c1, c2⟩ : 33 ≤ s[k].toNat ∧ s[k].toNat ≤ 126 := by simpa [okc] using hc
        clear hc
        go_wp2_with fail
        go_roundw
        case rel => exact ⟨k + 1, by omega, by go_num, HT2, by trivial⟩
        case measure => simp [intOf]; omega
      · have HF : Hid (nameS s = false) := by
          show _ = _
          unfold nameS
          rw [Bool.and_eq_false_iff]
          left
          rw [Bool.eq_false_iff]
          intro h
          exact hc (List.all_eq_true.1 h _ HM.out)
        have hq : s[k].toNat < 33 ∨ (33 ≤ s[k].toNat ∧ 126 < s[k].toNat) := by simp [okc] at hc; omega
        clear hc
        rcases hq with c1 | ⟨c1, c2⟩
        all_goals
          go_wp2_with fail
          go_ret
          exact ⟨by rw [HF.out]; rfl, rfl⟩
    · obtain rfl : k = s.size := by omega
      have HA : Hid (s.data.toList.all okc = true) := by have := HT.out; rwa [take_all] at this
      clear HT
      by_cases h0 : s.size = 0
      · have HF : Hid (nameS s = false) := by show _ = _; unfold nameS; rw [HA.out]; simp; omega
        have e0 : s.toList = [] := by rw [ByteArray.toList_eq]; apply List.eq_nil_of_length_eq_zero; simpa using h0
        have e1 : s.toList.isEmpty = true := by rw [e0]; rfl
        go_wp2_with fail
        go_ret
        exact ⟨by rw [HF.out]; rfl, rfl⟩
      · have e0 : ¬ s.toList = [] := by rw [ByteArray.toList_eq]; intro h; have := congrArg List.length h; simp at this; exact h0 (by simp [ByteArray.size, this])
        have e1 : s.toList.isEmpty = false := by simp [e0]
        by_cases h4 : s.size ≤ 40
        · have HF : Hid (nameS s = true) := by show _ = _; unfold nameS; rw [HA.out]; simp; omega
          have z : decide ((s.size : Int) ≤ 40) = true := decide_eq_true (by omega)
          go_wp2_with fail
          go_ret
          exact ⟨by rw [HF.out]; rfl, rfl⟩
        · have HF : Hid (nameS s = false) := by show _ = _; unfold nameS; rw [HA.out]; simp; omega
          have z : decide ((s.size : Int) ≤ 40) = false := decide_eq_false (by omega)
          go_wp2_with fail
          go_ret
          exact ⟨by rw [HF.out]; rfl, rfl⟩

/-! ### sizes -/
theorem write_no (x y : Int) (h : x < 0 ∨ 65535 < x ∨ y < 0 ∨ 65535 < y) (w : World) : Calls Try.prog 27 #[.int .i64 x, .int .i64 y] w fun e w' => e = .returned (.tuple #[.string ⟨#[]⟩, .int .i64 1]) ∧ w = w' := by
  have hq : x < 0 ∨ (0 ≤ x ∧ 65535 < x) ∨ (0 ≤ x ∧ x ≤ 65535 ∧ y < 0) ∨ (0 ≤ x ∧ x ≤ 65535 ∧ 0 ≤ y ∧ 65535 < y) := by omega
  clear h
  rcases hq with h | ⟨h1, h2⟩ | ⟨h1, h2, h3⟩ | ⟨h1, h2, h3, h4⟩
  all_goals
    go_enter Try.func27, Try.ntmps27
    go_wp2_with fail
    go_ret2
    exact ⟨rfl, rfl⟩
def sizeS (x y : Nat) : ByteArray := ⟨#[UInt8.ofNat (x / 256), UInt8.ofNat x, UInt8.ofNat (y / 256), UInt8.ofNat y]⟩
theorem write_ok (x y : Nat) (hx : x ≤ 65535) (hy : y ≤ 65535) (w : World) : Calls Try.prog 27 #[.int .i64 x, .int .i64 y] w fun e w' => e = .returned (.tuple #[.string (sizeS x y), .int .i64 0]) ∧ Below w.heap.size w w' := by
  have h1 : (0 : Int) ≤ x := by omega
  have h2 : (0 : Int) ≤ y := by omega
  have hcs : bytesV [UInt8.ofNat (x / 256), UInt8.ofNat x, UInt8.ofNat (y / 256), UInt8.ofNat y] = [.int .u8 ((x : Int) / 256), .int .u8 ((x : Int) % 256), .int .u8 ((y : Int) / 256), .int .u8 ((y : Int) % 256)] := by
    simp [bytesV]; omega
  have hc := conv_bytes (P := Try.prog) (w.alloc (.cells (bytesV [UInt8.ofNat (x / 256), UInt8.ofNat x, UInt8.ofNat (y / 256), UInt8.ofNat y]).toArray 5)) 69 9 5 Try.underlying69 Try.underlying5 Try.underlying9 _ _ (Rs.new w 5 _ 4 rfl (by simp [bytesV, maxLen]))
  rw [hcs] at hc
  clear hcs
  go_enter Try.func27, Try.ntmps27
  go_wp2_with fail
  go_ret2
  exact ⟨rfl, below_alloc _ _⟩
theorem read_short (s : ByteArray) (h : s.size < 4) (w : World) : Calls Try.prog 28 #[.string s] w fun e w' => e = .returned (.tuple #[.int .i64 0, .int .i64 0, .int .i64 3]) ∧ w = w' := by
  go_enter Try.func28, Try.ntmps28
  go_wp2_with fail
  go_ret3
  exact ⟨rfl, rfl⟩
theorem read_long (s : ByteArray) (h : 4 < s.size) (hs : s.size ≤ maxLen) (w : World) : Calls Try.prog 28 #[.string s] w fun e w' => e = .returned (.tuple #[.int .i64 0, .int .i64 0, .int .i64 4]) ∧ w = w' := by
  unfold maxLen at hs
  go_enter Try.func28, Try.ntmps28
  go_wp2_with fail
  go_ret3
  exact ⟨rfl, rfl⟩
def readS (a b : UInt8) : Nat := a.toNat * 256 + b.toNat
theorem or16 (a b : UInt8) : bits BinOp.or IntKind.i64 (wrap64 (wrap64 (a.toNat : Int) * 256)) (wrap64 (b.toNat : Int)) = ((readS a b : Nat) : Int) := by
  have ha := a.toNat_lt
  have hb := b.toNat_lt
  have e1 : wrap64 (a.toNat : Int) = a.toNat := by unfold wrap64; omega
  have e2 : wrap64 (b.toNat : Int) = b.toNat := by unfold wrap64; omega
  have e3 : wrap64 ((a.toNat : Int) * 256) = (a.toNat : Int) * 256 := by unfold wrap64; omega
  rw [e1, e2, e3, bits_join .i64 16 (by decide) (fun n h0 h1 => by rw [IntKind.wrap_i64]; omega) 8 _ _ (by omega) (by omega) (by omega) (by omega) (by omega) (by omega)]
  unfold readS; omega
theorem read_ok (s : ByteArray) (a b c d : UInt8) (h : s = ⟨#[a, b, c, d]⟩) (w : World) : Calls Try.prog 28 #[.string s] w fun e w' => e = .returned (.tuple #[.int .i64 (readS a b), .int .i64 (readS c d), .int .i64 0]) ∧ Below w.heap.size w w' := by
  have hz : s.size = 4 := by rw [h]; rfl
  have g0 : s[0] = a := by subst h; rfl
  have g1 : s[1] = b := by subst h; rfl
  have g2 : s[2] = c := by subst h; rfl
  have g3 : s[3] = d := by subst h; rfl
  have H := Lib.hid h
  clear h
  go_enter Try.func28, Try.ntmps28
  go_wp2_with fail
  go_quiet (fail)
  go_wp2_with fail
  go_ret3
  exact ⟨by rw [or16, or16]; rfl, Joins.below_draws _ _ _⟩
end Go.Proofs.Ytphbfciikjkkfaa.About
