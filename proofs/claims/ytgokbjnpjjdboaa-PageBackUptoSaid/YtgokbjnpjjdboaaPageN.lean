/- The law PageRunes: the walk. -/
import Derived.Test.YtgokbjnpjjdboaaPageM
namespace Go.Proofs.Ytgokbjnpjjdboaa.Page
open Go.ChangeShapes Go.WideShapes Go.ChangeAt Go.RowKit
open Go.Proofs.Ytgokbjnpjjdboaa.Com Go.Proofs.Ytgokbjnpjjdboaa.Args
set_option maxRecDepth 100000

set_option maxHeartbeats 400000 in
theorem runes_walk (v0 v1 : Value) (w : World) (h0 : Arg none Try.prog w 3 v0) (h1 : Arg none Try.prog w 35 v1) :
    Calls Try.prog 7 #[v0, v1] w fun e w' => e = .returned (.bool true) ∧ Below w.heap.size w w' := by
  obtain ⟨p, rfl, hwf⟩ := h0.int Try.underlying3
  obtain ⟨v, rfl, hr, al, ll, cl, rfl⟩ := h1.slice Try.underlying35
  obtain ⟨xs, hrs, _, hfit⟩ := hr.ints Try.underlying35 Try.underlying3 (by kernel_rfl)
  have hv : Rs w (.slice al ll cl) (ints xs) := hrs
  have hlen : xs.length * 8 ≤ 140737488351232 := by
    have : Try.prog.bytesOf 3 = 8 := by kernel_rfl
    rw [this] at hfit
    exact hfit
  have hll : ll = xs.length := by
    rcases hv with ⟨h, a, c, h2⟩ | ⟨b, o, c, h2, _⟩
    · have : xs = [] := by simpa [ints] using h
      cases h2; rw [this]; rfl
    · cases h2; simp [ints]
  clear h0 h1 hr hrs hfit hwf
  by_cases hp : p < 1 ∨ 4 < p
  · go_enter Try.func7, Try.ntmps7
    go_wp2_with fail
    refine (write_bad p _ hp _).mono ?_; rintro e w1 ⟨rfl, hb1⟩
    go_wp2_with fail
    refine (lives _).mono ?_; rintro e w2 ⟨rfl, hb2⟩
    have L2 := hb1.trans (hb2.mono hb1.size)
    go_wp2_with fail
    refine (lives _).mono ?_; rintro e w3 ⟨rfl, hb3⟩
    go_wp2_with fail
    go_ret
    exact ⟨rfl, L2.trans (hb3.mono L2.size)⟩
  · have p0 : 1 ≤ p := by omega
    have p1 : p ≤ 4 := by omega
    clear hp
    subst hll
    obtain ⟨S, hS⟩ : ∃ S : ByteArray, S = ⟨(xs.map (wb p)).toArray⟩ := ⟨_, rfl⟩
    have hsz : S.size = xs.length := by rw [hS]; simp [ByteArray.size]
    have hdat : runesOf p S.data.toList = ints (xs.map fun r => ofS p ((wb p r).toNat : Int)) := by rw [hS]; simp [runesOf, ints]
    have hget : ∀ k (h : k < xs.length) (h' : k < S.size), S[k] = wb p xs[k] := by
      intro k h h'
      subst hS
      show (xs.map (wb p)).toArray[k]'_ = _
      simp
    have HS := Lib.hid hS; have HD := Lib.hid hdat; have HG := Lib.hid hget; have HZ := Lib.hid hsz
    clear hS hdat hget
    have hw1 := fun W => write_ok p (.slice al xs.length cl) xs p0 p1 W
    have hszI : (S.size : Int) = xs.length := by omega
    have HV := Lib.hid hv; clear hv
    go_enter Try.func7, Try.ntmps7
    go_wp2_with fail
    refine (hw1 _ HV.out (by omega)).mono ?_; rintro e w1 ⟨rfl, hb1⟩
    rw [← HS.out]
    clear hw1
    go_wp2_with fail
    refine (lives _).mono ?_; rintro e w2 ⟨rfl, hb2⟩
    have L2 := hb1.trans (hb2.mono hb1.size)
    clear hb1 hb2
    go_wp2_with fail
    refine (read_ok p S p0 p1 (by omega) _).mono ?_; rintro e w3 ⟨vl, rfl, hown, hb3⟩
    have L3 := L2.trans (hb3.mono L2.size)
    rw [HD.out] at hown
    have hrl := hown.rs
    clear L2 hb3 hown
    have hlw : (ints (xs.map fun r => ofS p ((wb p r).toNat : Int))).length = xs.length := by simp [ints]
    by_cases hz : xs.length = 0
    · obtain ⟨a2, c2, rfl⟩ : ∃ a c, vl = .slice a 0 c := by
        rcases hrl with ⟨_, a, c, h⟩ | ⟨b, o, c, h, _⟩
        · exact ⟨a, c, h⟩
        · exact ⟨_, c, by rw [h, hlw, hz]⟩
      have hl0 : Hid (losts p xs = 0) := by show _ = _; rw [List.eq_nil_of_length_eq_zero hz]; rfl
      rw [hz, hl0.out]
      clear hrl hlw HD HG HS hl0 HV HZ
      go_wp2_with fail
      go_loopw [10, 52] (fun l i wr => l = .int .i64 0 ∧ i = .int .i64 0 ∧ wr = w3) (fun _ _ _ => 0)
      case atStart => exact ⟨rfl, rfl, rfl⟩
      case round =>
        obtain ⟨rfl, rfl, rfl⟩ := hrel
        go_wp2_with fail
        go_ret
        exact ⟨rfl, L3⟩
    · rcases hrl with ⟨h', _⟩ | ⟨b2, o2, c2, rfl, _, _, hcell2⟩
      · rw [h'] at hlw; simp at hlw; omega
      rcases HV.out with ⟨h', _⟩ | ⟨b1, o1, c1, hv1, hcc, hcm, hcell1⟩
      · exact absurd (by simpa [ints] using h') (fun e : xs = [] => hz (by rw [e]; rfl))
      have e1 : (ints xs).length = xs.length := by simp [ints]
      rw [e1] at hv1 hcc
      cases hv1
      rw [hlw]
      have hb13 : Below w.heap.size w w3 := L3
      have H1 : Hid (∀ wx, Below w.heap.size w wx → ∀ k (h : k < xs.length), wx.cell? ⟨b1, o1 + k, none⟩ = some (.int .i64 xs[k])) := fun wx hx k h =>
        cell_keep (hcell1 k _ (by simp [ints, h])) hx
      have H2 : Hid (∀ wx, Below w3.heap.size w3 wx → ∀ k (h : k < xs.length), wx.cell? ⟨b2, o2 + k, none⟩ = some (.int .i64 (ofS p ((wb p xs[k]).toNat : Int)))) := fun wx hx k h =>
        cell_keep (hcell2 k _ (by simp [ints, h])) hx
      clear hcell1 hcell2 HD HS HV hlw
      have hz1 : 1 ≤ xs.length := by omega
      go_wp2_with fail
      go_loopw [10, 52] (fun l i wr => ∃ k : Nat, k ≤ xs.length ∧ i = .int .i64 k ∧ l = .int .i64 (losts p (xs.take k) : Nat) ∧ Below w3.heap.size w3 wr) (fun _ i _ => xs.length - (intOf i).toNat)
      case atStart => exact ⟨0, Nat.zero_le _, rfl, rfl, Below.refl _ _⟩
      case round =>
        obtain ⟨k, hk, rfl, rfl, hb⟩ := hrel
        by_cases hlt : k < xs.length
        · have hlt' : k < S.size := by omega
          have g1 := H1.out wr (L3.trans (hb.mono L3.size)) k hlt
          have g2 := H2.out wr hb k hlt
          have hT : losts p (xs.take (k+1)) = losts p (xs.take k) + lost p xs[k] := by rw [take_snoc' xs k hlt, losts_snoc]
          have hg := HG.out k hlt hlt'
          have hll : losts p (xs.take k) ≤ k := by have := losts_le p (xs.take k); simp at this; omega
          have hcase := back_rune p xs[k] p0 p1
          rw [← hg] at g2 hcase
          have HT := Lib.hid hT; clear hT hg
          generalize xs[k] = r at *
          rcases hcase with ⟨q1, q2⟩ | ⟨q1, q2, q3⟩
          · rw [q1] at g2
            rw [q2] at HT
            clear q1 q2
            go_wp2_with fail
            go_roundw
            case rel => exact ⟨k + 1, by omega, by go_num, by rw [HT.out]; rfl, hb⟩
            case measure => simp [intOf]; omega
          · rw [q3] at HT
            rw [show ofS p ((S[k]).toNat : Int) = ofS p 63 by rw [q2]; rfl, of63 p p0 p1] at g2 q1
            have t1 : ((63 : Int) != r) = true := by simpa using q1
            have t2 : ((63 : Int) == r) = false := by simpa using q1
            have t3 : ((S[k]).toNat : Int) = 63 := by omega
            clear q1 q2 q3
            go_wp2_with fail
            go_roundw
            case rel => exact ⟨k + 1, by omega, by go_num, by rw [HT.out]; go_num, hb⟩
            case measure => simp [intOf]; omega
        · obtain rfl : k = xs.length := by omega
          simp only [List.take_length] at *
          go_wp2_with fail
          go_ret
          exact ⟨rfl, L3.trans (hb.mono L3.size)⟩
end Go.Proofs.Ytgokbjnpjjdboaa.Page
