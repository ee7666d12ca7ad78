/- The law PageBack: the walk (the string has at most 1048576 bytes). -/
import Derived.Test.YtgokbjnpjjdboaaPageN
namespace Go.Proofs.Ytgokbjnpjjdboaa.Page
open Go.ChangeShapes Go.WideShapes Go.ChangeAt Go.RowKit
open Go.Proofs.Ytgokbjnpjjdboaa.Com Go.Proofs.Ytgokbjnpjjdboaa.Args
set_option maxRecDepth 100000

/-- The runes of a text, as numbers. -/
def rn (p : Int) (l : List UInt8) : List Int := l.map fun b => ofS p b.toNat
theorem rn_ints (p : Int) (l : List UInt8) : runesOf p l = ints (rn p l) := by simp [runesOf, rn, ints]

theorem shapeOf {w : World} {v : Value} {p : Int} {l : List UInt8} (h : Rs w v (ints (rn p l))) : ∃ a c, v = .slice a l.length c := by
  have hl : (ints (rn p l)).length = l.length := by simp [ints, rn]
  rcases h with ⟨h0, a, c, rfl⟩ | ⟨b, o, c, rfl, _⟩
  · rw [h0] at hl
    exact ⟨a, c, by rw [← hl]; rfl⟩
  · exact ⟨_, c, by rw [hl]⟩
theorem rn_get (p : Int) (s : ByteArray) (k : Nat) (h : k < s.size) (h' : k < (rn p s.data.toList).length) : (rn p s.data.toList)[k] = ofS p (s[k]).toNat := by
  simp only [rn, List.getElem_map]
  rfl

set_option maxHeartbeats 400000 in
theorem back_walk (v0 v1 : Value) (w : World) (h0 : Arg (some 1048576) Try.prog w 3 v0) (h1 : Arg (some 1048576) Try.prog w 9 v1) :
    Calls Try.prog 6 #[v0, v1] w fun e w' => e = .returned (.bool true) ∧ Below w.heap.size w w' := by
  obtain ⟨p, rfl, hwf⟩ := h0.int Try.underlying3
  obtain ⟨s, rfl, _, hfit⟩ := h1.string Try.underlying9
  have hs : s.size ≤ 1048576 := hfit
  clear h0 h1 hfit hwf
  by_cases hp : p < 1 ∨ 4 < p
  · go_enter Try.func6, Try.ntmps6
    go_wp2_with fail
    refine (read_bad p s hp _).mono ?_; rintro e w1 ⟨rfl, hb1⟩
    go_wp2_with fail
    refine (lives _).mono ?_; rintro e w2 ⟨rfl, hb2⟩
    have L2 := hb1.trans (hb2.mono hb1.size)
    go_wp2_with fail
    refine (lives _).mono ?_; rintro e w3 ⟨rfl, hb3⟩
    by_cases hp1 : p < 1
    · go_wp2_with fail
      go_ret
      exact ⟨rfl, L2.trans (hb3.mono L2.size)⟩
    · have hp2 : 4 < p := by omega
      go_wp2_with fail
      go_ret
      exact ⟨rfl, L2.trans (hb3.mono L2.size)⟩
  · have p0 : 1 ≤ p := by omega
    have p1 : p ≤ 4 := by omega
    clear hp
    have hrl : (rn p s.data.toList).length = s.size := by simp [rn]
    obtain ⟨S, hS⟩ : ∃ S : ByteArray, S = ⟨((rn p s.data.toList).map (wb p)).toArray⟩ := ⟨_, rfl⟩
    have hsz : S.size = s.size := by rw [hS]; show (((rn p s.data.toList).map (wb p)).toArray).size = _; rw [List.size_toArray, List.length_map, hrl]
    have hget : ∀ k (h : k < s.size) (h' : k < S.size), S[k] = wb p (ofS p (s[k]).toNat) := by
      intro k h h'
      subst hS
      show (((rn p s.data.toList).map (wb p)).toArray)[k]'_ = _
      rw [List.getElem_toArray, List.getElem_map, rn_get p s k h]
    have hls : ∀ k (h : k < s.size), losts p ((rn p s.data.toList).take (k+1)) = losts p ((rn p s.data.toList).take k) + lost p (ofS p (s[k]).toNat) := by
      intro k h
      rw [take_snoc' _ k (by omega), losts_snoc, rn_get p s k h]
    have hlb : ∀ k, k ≤ s.size → losts p ((rn p s.data.toList).take k) ≤ k := by
      intro k hk
      have := losts_le p ((rn p s.data.toList).take k); simp at this; omega
    have HS := Lib.hid hS; have HG := Lib.hid hget; have HL := Lib.hid hls; have HB := Lib.hid hlb; have HR := Lib.hid hrl
    have hszI : (S.size : Int) = s.size := by omega
    have hwr := fun W v hv => write_ok p v (rn p s.data.toList) p0 p1 W hv (by rw [HR.out]; omega)
    have HW := Lib.hid hwr
    clear hS hget hls hlb hrl hwr
    go_enter Try.func6, Try.ntmps6
    go_wp2_with fail
    refine (read_ok p s p0 p1 (by omega) _).mono ?_; rintro e w1 ⟨vl, rfl, hown, hb1⟩
    rw [rn_ints] at hown
    have hr1 := hown.rs
    obtain ⟨al, cl, hvl⟩ := shapeOf hr1
    rw [show s.data.toList.length = s.size by simp] at hvl
    subst hvl
    clear hown
    go_wp2_with fail
    refine (lives _).mono ?_; rintro e w2 ⟨rfl, hb2⟩
    have L2 := hb1.trans (hb2.mono hb1.size)
    have hr2 := hr1.keep hb2
    clear hb1 hb2 hr1
    go_wp2_with fail
    refine (HW.out _ _ hr2).mono ?_; rintro e w3 ⟨rfl, hb3⟩
    have L3 := L2.trans (hb3.mono L2.size)
    rw [← HS.out]
    clear L2 hb3 hr2 HW HS
    have hT : Hid (losts p (rn p s.data.toList) = losts p ((rn p s.data.toList).take s.size)) := by
      show _ = _; rw [List.take_of_length_le (by rw [HR.out]; exact Nat.le_refl _)]
    have hT2 := HB.out s.size (Nat.le_refl _)
    rw [hT.out]
    go_wp2_with fail
    go_loopw [10, 58] (fun l i wr => ∃ k : Nat, k ≤ s.size ∧ i = .int .i64 k ∧ l = .int .i64 (losts p ((rn p s.data.toList).take k) : Nat) ∧ Below w.heap.size w wr) (fun _ i _ => s.size - (intOf i).toNat)
    case atStart => exact ⟨0, Nat.zero_le _, rfl, rfl, L3⟩
    case round =>
      obtain ⟨k, hk, rfl, rfl, hb⟩ := hrel
      have hll := HB.out k hk
      by_cases hlt : k < s.size
      · have hlt' : k < S.size := by omega
        have hlI : (k : Int) < s.size := by omega
        have hlI' : (k : Int) < S.size := by omega
        have hk0 : (0 : Int) ≤ k := by omega
        have hcase := back_byte p p0 p1 (s[k]).toNat (s[k]).toNat_lt
        rw [← HG.out k hlt hlt'] at hcase
        have HT := Lib.hid (HL.out k hlt)
        rcases hcase with ⟨q1, q2, q3⟩ | ⟨q1, q3⟩
        · rw [q3] at HT
          have t3 : ((S[k]).toNat : Int) = (s[k]).toNat := by omega
          by_cases hb127 : 127 < (s[k]).toNat
          · have hp2 : p = 2 := by
              by_cases h : p = 2
              · exact h
              · exact absurd ⟨hb127, h⟩ q1
            have t4 : (127 : Int) < (s[k]).toNat := by omega
            have t5 : (p != 2) = false := by simp [hp2]
            have t6 : (p == 2) = true := by simp [hp2]
            clear q1 q2 q3 hb127 hp2
            go_wp2_with fail
            go_quiet (fail)
            go_wp2_with fail
            go_roundw
            case rel => exact ⟨k + 1, by omega, by go_num, by rw [HT.out]; rfl, hb.trans (Joins.below_draws _ _ _)⟩
            case measure => simp [intOf]; omega
          · have t4 : ((s[k]).toNat : Int) ≤ 127 := by omega
            clear q1 q2 q3 hb127
            go_wp2_with fail
            go_quiet (fail)
            go_wp2_with fail
            go_roundw
            case rel => exact ⟨k + 1, by omega, by go_num, by rw [HT.out]; rfl, hb.trans (Joins.below_draws _ _ _)⟩
            case measure => simp [intOf]; omega
        · rw [q3] at HT
          have t4 : (127 : Int) < (s[k]).toNat := by omega
          have t5 : (p != 2) = true := by simpa using q1.2
          have t6 : (p == 2) = false := by simpa using q1.2
          clear q1 q3
          go_wp2_with fail
          go_roundw
          case rel => exact ⟨k + 1, by omega, by go_num, by rw [HT.out]; go_num, hb⟩
          case measure => simp [intOf]; omega
      · obtain rfl : k = s.size := by omega
        go_wp2_with fail
        go_ret
        exact ⟨rfl, hb⟩
end Go.Proofs.Ytgokbjnpjjdboaa.Page
