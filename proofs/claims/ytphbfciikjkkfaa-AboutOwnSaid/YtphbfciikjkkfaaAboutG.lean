/- Contracts of the document's answer: Between; SortsRight, where all is right. -/
import Derived.Test.YtphbfciikjkkfaaAboutF
import Derived.Lib.ConvBytes
namespace Go.Proofs.Ytphbfciikjkkfaa.About
open Go.ChangeShapes Go.WideShapes Go.ChangeAt Go.RowKit
open Go.Proofs.Ytphbfciikjkkfaa.Com Go.Proofs.Ytphbfciikjkkfaa.Reg Go.Proofs.Ytphbfciikjkkfaa.Args Go.Proofs.Ytphbfciikjkkfaa.Row
set_option maxRecDepth 100000

theorem between_yes (x lo hi : Int) (h1 : lo ≤ x) (h2 : x ≤ hi) (w : World) : Calls Try.prog 44 #[.int .i64 x, .int .i64 lo, .int .i64 hi] w fun e w' => e = .returned (.bool true) ∧ w = w' := by
  have q1 : decide (lo ≤ x) = true := decide_eq_true h1
  have q2 : decide (x ≤ hi) = true := decide_eq_true h2
  go_enter Try.func44, Try.ntmps44
  go_wp2_with fail
  go_ret
  exact ⟨rfl, rfl⟩
theorem conv_str (w : World) (s : ByteArray) : ∃ c w', (convert 9 69 (.string s)).run Try.prog w = .ok (.slice (some ⟨w.heap.size, 0, none⟩) s.size c) w' ∧ Below w.heap.size w w' ∧ ∀ (j : Nat) (h : j < s.size), w'.cell? ⟨w.heap.size, j, none⟩ = some (.int .u8 (s[j].toNat : Int)) := by
  refine ⟨_, _, Lib.run_convert_string_bytes w 9 69 5 s Try.underlying9 Try.underlying69 Try.underlying5, ?_, ?_⟩
  · exact ⟨rfl, rfl, rfl, by rw [Lib.bytesWorld_size]; omega, fun k hk => Lib.bytesWorld_at_old w _ s k hk⟩
  · intro j h
    rw [Lib.bytesWorld_cell w _ s j h]
    congr 1
    simp [h, ByteArray.getElem_eq_getElem_data]
theorem nodup_idx {l : List ByteArray} (h : l.Nodup) {i k : Nat} {x : ByteArray} (h1 : l[i]? = some x) (h2 : l[k]? = some x) : i = k := by
  have hi := (List.getElem?_eq_some_iff.1 h1).1
  exact (List.getElem?_inj hi h).1 (h1.trans h2.symm)

set_option maxHeartbeats 8000000 in
theorem right_yes (a : Option Addr) (n c : Nat) (l : List ByteArray) (at_ : Int) (w : World) (hv : Sl w 1 a n c (sv l)) (hck : checkS l at_ = 0) :
    Calls Try.prog 26 #[.agg #[.slice a n c, .int .i64 at_]] w fun e w' => e = .returned (.int .i64 0) ∧ Below w.heap.size w w' := by
  obtain ⟨n1, n8, hfine, a0, a1⟩ := check_zero hck
  have hn : n = l.length := by have := hv.len; rw [sv_len] at this; omega
  rw [← hn] at n1 n8 a1
  have HN := Lib.hid hn
  have HV := Lib.hid (hv.keep (below_alloc w (.cells #[.slice a n c, .int .i64 at_] 43)))
  have HB := Lib.hid (Blk.new w #[.slice a n c, .int .i64 at_] 43)
  have HF := Lib.hid hfine
  have L0 := below_alloc w (.cells #[.slice a n c, .int .i64 at_] 43)
  clear hv hn hfine hck
  obtain ⟨b, o, rfl, hc⟩ := HV.out.at_ (by omega)
  have HC := Lib.hid hc
  clear hc
  go_enter Try.func26, Try.ntmps26
  go_wp2_with fail
  refine (between_yes _ _ _ (by omega) (by omega) _).mono ?_; rintro e w1 ⟨rfl, rfl⟩
  go_wp2_with fail
  generalize w.alloc (.cells #[.slice (some ⟨b, o, none⟩) n c, .int .i64 at_] 43) = W0 at *
  go_loopw [18] (fun ii wr => ∃ i : Nat, i ≤ n ∧ ii = .int .i64 i ∧ Below W0.heap.size W0 wr) (fun ii _ => n - (intOf ii).toNat)
  case atStart => exact ⟨0, by omega, rfl, Below.refl _ _⟩
  case round =>
    obtain ⟨i, hin, rfl, hb⟩ := hrel
    obtain ⟨g0, g1, f0, f1⟩ := (HB.out.keep hb).c2
    by_cases hlt : i < n
    · obtain ⟨x, hx⟩ : ∃ x, l[i]? = some x := ⟨_, List.getElem?_eq_getElem (show i < l.length by have := HN.out; omega)⟩
      have cx := cell_keep (HC.out i _ (sv_get hx)) hb
      have hxm := HF.out.1 x (List.mem_of_getElem? hx)
      have hx40 := name_le hxm
      have hx1 : 1 ≤ x.size := by unfold nameS at hxm; simp at hxm; omega
      have HXC : Hid (∀ u ∈ x.data.toList, okc u = true) := by
        show ∀ u ∈ x.data.toList, okc u = true
        unfold nameS at hxm
        have h1 := (Bool.and_eq_true _ _ ▸ hxm).1
        exact List.all_eq_true.1 h1
      have HX := Lib.hid hx
      have HI := Lib.hid (sidx_any (some ⟨b, o, none⟩) n c l x wr (HV.out.keep hb))
      clear hx hxm
      go_wp2_with fail
      refine (between_yes _ _ _ (by omega) (by omega) _).mono ?_; rintro e w1 ⟨rfl, rfl⟩
      go_wp2_with fail
      refine HI.out.mono ?_; rintro e w2 ⟨r, rfl, HR, hr, HR2, hb2⟩
      obtain ⟨k, rfl⟩ : ∃ k : Nat, r = (k : Int) := ⟨r.toNat, by have := HR.out.2 (List.mem_of_getElem? HX.out); omega⟩
      obtain rfl : i = k := nodup_idx HF.out.2 HX.out (HR2.out k rfl).1
      have q1 : ((i : Int) == i) = true := by simp
      have hb3 := bt hb hb2
      obtain ⟨cc, w3, hcv, hb4, hcb⟩ := conv_str w2 x
      have hb5 := bt hb3 hb4
      have HCB := Lib.hid hcb
      clear hcb HR HR2 g0 g1 f0 f1 cx HI
      go_wp2_with fail
      go_loopw [6, 37] (fun tt jj wr' => ∃ j : Nat, j ≤ x.size ∧ jj = .int .i64 j ∧ tt = .bool true ∧ Below w3.heap.size w3 wr') (fun _ jj _ => x.size - (intOf jj).toNat)
      case atStart => exact ⟨0, by omega, rfl, rfl, Below.refl _ _⟩
      case round =>
        obtain ⟨j, hj, rfl, rfl, hb6⟩ := hrel
        by_cases hjl : j < x.size
        · have cb := cell_keep (HCB.out j hjl) hb6
          have hok := HXC.out x[j] (by simp [ByteArray.getElem_eq_getElem_data])
          obtain ⟨o1, o2⟩ : 33 ≤ x[j].toNat ∧ x[j].toNat ≤ 126 := by simpa [okc] using hok
          clear hok
          generalize x[j].toNat = y at *
          have wy : wrap64 (y : Int) = y := by unfold wrap64; omega
          go_wp2_with fail
          refine (between_yes _ _ _ (by omega) (by omega) _).mono ?_; rintro e w4 ⟨rfl, rfl⟩
          go_wp2_with fail
          go_roundw
          case rel => exact ⟨j + 1, by omega, by go_num, by trivial, hb6⟩
          case measure => simp [intOf]; omega
        · go_wp2_with fail
          go_roundw
          case rel => exact ⟨i + 1, by omega, by go_num, bt hb5 hb6⟩
          case measure => simp [intOf]; omega
    · go_wp2_with fail
      refine (between_yes _ _ _ (by omega) (by omega) _).mono ?_; rintro e w4 ⟨rfl, rfl⟩
      go_wp2_with fail
      go_ret
      exact ⟨rfl, L0.trans (hb.mono L0.size)⟩
end Go.Proofs.Ytphbfciikjkkfaa.About
