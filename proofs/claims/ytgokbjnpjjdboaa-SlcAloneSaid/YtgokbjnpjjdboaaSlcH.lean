/- The law SlcAlone: the walk. -/
import Derived.Test.YtgokbjnpjjdboaaSlcR
namespace Go.Proofs.Ytgokbjnpjjdboaa.Slc
open Go.ChangeShapes Go.WideShapes Go.ChangeAt Go.RowKit
open Go.Proofs.Ytgokbjnpjjdboaa.Com Go.Proofs.Ytgokbjnpjjdboaa.Row Go.Proofs.Ytgokbjnpjjdboaa.Args
set_option maxRecDepth 100000
theorem allocNamed (b : Bool) (v : Value) : Instr.alloc 57 b v = rowAlloc 57 b v := rfl
attribute [local go_sem ↓] loadKey storeKey allocKey load19 allocNamed
attribute [local go_sem] keys_guard

/-- A row of names. -/
def boF (f : Nat → Bool) : Nat → Value := fun i => .bool (f i)
theorem boF_upd (f : Nat → Bool) (i : Nat) (x : Bool) : upd (boF f) i (.bool x) = boF (upd f i x) := by
  funext j; simp only [upd, boF]; split <;> rfl
theorem zeroNamed : (Try.prog.info? 57).bind (·.zero) = some (.agg (rowF 256 (boF fun _ => false)).toArray) := by kernel_rfl
theorem named_set (W : World) (g : Nat) (f : Nat → Bool) (i : Nat) (h : W.heap[g]? = some (.cells (rowF 256 (boF f)).toArray 57 (0, 0))) :
    (W.setCell ⟨g, i, none⟩ (.bool true)).heap[g]? = some (.cells (rowF 256 (boF (upd f i true))).toArray 57 (0, 0)) := by
  have h1 := heap_setCell_same W g i _ _ (.bool true) h
  rw [h1]
  congr 2
  apply Array.ext'
  simp only [Array.toList_setIfInBounds]
  rw [rowF_set, boF_upd]
theorem named_cell (W : World) (g : Nat) (f : Nat → Bool) (i : Nat) (hi : i < 256) (h : W.heap[g]? = some (.cells (rowF 256 (boF f)).toArray 57 (0, 0))) : W.cell? ⟨g, i, none⟩ = some (.bool (f i)) := by
  rw [cell_of_row _ _ _ _ _ _ h]
  simpa [boF] using rowF_get 256 (boF f) i hi

/-- What the two loops find in the heap: the keys of both, and the names. -/
structure Hs (W : World) (g1 g2 g3 : Nat) (k x : Ky) (f : Nat → Bool) : Prop where
  a : W.heap[g1]? = some (.cells (keyC k).toArray 52 (0, 0))
  b : W.heap[g2]? = some (.cells (keyC x).toArray 52 (0, 0))
  c : W.heap[g3]? = some (.cells (rowF 256 (boF f)).toArray 57 (0, 0))
theorem Hs.keep {W W' : World} {g1 g2 g3 : Nat} {k x : Ky} {f : Nat → Bool} (h : Hs W g1 g2 g3 k x f) (hb : Below W.heap.size W W') : Hs W' g1 g2 g3 k x f :=
  ⟨heap_keep hb h.a, heap_keep hb h.b, heap_keep hb h.c⟩
theorem Hs.set_ {W : World} {g1 g2 g3 : Nat} {k x : Ky} {f : Nat → Bool} (h : Hs W g1 g2 g3 k x f) (h1 : g1 ≠ g3) (h2 : g2 ≠ g3) (i : Nat) : Hs (W.setCell ⟨g3, i, none⟩ (.bool true)) g1 g2 g3 k x (upd f i true) :=
  ⟨((But.set g3 i W _).block _ (heap_lt h.a) h1).trans h.a, ((But.set g3 i W _).block _ (heap_lt h.b) h2).trans h.b, named_set _ _ _ _ h.c⟩

set_option maxHeartbeats 6000000 in
theorem alone_walk (v0 v1 : Value) (w : World) (h0 : Arg none Try.prog w 52 v0) (h1 : Arg none Try.prog w 9 v1) :
    Calls Try.prog 11 #[v0, v1] w fun e w' => e = .returned (.bool true) ∧ Below w.heap.size w w' := by
  obtain ⟨k, hr, rfl⟩ := keys_arg h0
  obtain ⟨s, rfl, hs, fs⟩ := h1.string Try.underlying9
  clear h0 h1 fs
  have T1 := fun W => take_any k hr s hs W
  have hN := heap_alloc_new w (.cells (keyC k).toArray 52)
  have L0 : Below w.heap.size w (w.alloc (.cells (keyC k).toArray 52)) := (Below.refl _ _).alloc (Nat.le_refl _) _
  obtain ⟨W0, hW0⟩ : ∃ W0, W0 = w.alloc (.cells (keyC k).toArray 52) := ⟨_, rfl⟩
  rw [← hW0] at hN L0
  have HW := Lib.hid hW0; clear hW0
  have hl := loadK w.heap.size k W0 hN
  have hok := takeS_ok k s
  have hno := takeS_no k s
  generalize hx : takeS k s = ta at *
  obtain ⟨x, o, er⟩ := ta
  simp only [] at *
  have HT1 := Lib.hid T1; have HOK := Lib.hid hok; have HNO := Lib.hid hno; have HX := Lib.hid hx
  have HR := Lib.hid hr
  clear T1 hok hno hx hr
  have hs1 : (⟨(nb o).toArray⟩ : ByteArray).size = o.length := by show (nb o).toArray.size = _; simp [nb]
  generalize hst : (⟨(nb o).toArray⟩ : ByteArray) = st at *
  have HST := Lib.hid hst; clear hst
  go_enter Try.func11, Try.ntmps11
  go_upto_region 1 with (fail)
  rw [← HW.out]
  go_wp2_with fail
  refine (HT1.out _).mono ?_; rintro e w1 ⟨rfl, hb1⟩
  obtain ⟨W1, hW1, LW1, hN1, _, st1⟩ := boxed w1 x
  have al1 := fun v => allocK w1 v
  have L1 : Below w.heap.size w W1 := below_box0 L0 hb1 LW1
  have hne : w.heap.size ≠ w1.heap.size := by have := hb1.size; have := heap_lt hN; omega
  replace hN := keep_box0 hb1 LW1 hN
  clear hW1 hb1 LW1 hl
  go_wp2_with fail
  refine (lives _).mono ?_; rintro e w2 ⟨rfl, hb2⟩
  clear al1 st1
  replace hN := heap_keep hb2 hN
  replace hN1 := heap_keep hb2 hN1
  replace L1 := L1.trans (hb2.mono L1.size)
  clear hb2
  by_cases he : er = 0
  · subst he
    obtain ⟨htk, hfine, h3, h300⟩ : (x = (takeN k (dI s) (s.size / 3)).1 ∧ o = (takeN k (dI s) (s.size / 3)).2) ∧ Fine k ∧ s.size % 3 = 0 ∧ s.size ≤ 300 := by
      have := HOK.out rfl
      exact ⟨by have := this.1; simpa using this, this.2⟩
    have HF : Hid (Fine x) := by show Fine x; rw [htk.1]; exact takeN_fine k hfine _ (fun i => (dI_range s i).1) _
    have HL : Hid (o.length % 3 = 0 ∧ o.length ≤ s.size) := by
      show _ ∧ _
      rw [htk.2]
      have := takeN_len k (dI s) (s.size / 3)
      exact ⟨takeN_three _ _ _, by omega⟩
    have HL2 : Hid (st.size % 3 = 0 ∧ st.size ≤ s.size) := by show _ ∧ _; rw [hs1]; exact HL.out
    clear hs1 HL
    have HA : Hid (∀ i : Nat, (∀ j, j < s.size / 3 → (i : Int) ≠ dI s (3 * j)) → x.lv i = k.lv i ∧ x.ch i = k.ch i) := by
      show ∀ i, _; intro i hi; rw [htk.1]; exact takeN_alone k (dI s) i _ hi
    have HM : Hid (s.size = 3 * (s.size / 3)) := by show _ = _; omega
    generalize s.size / 3 = m at *
    clear htk hfine h3
    have H0 : Hs (w2.alloc (.cells (rowF 256 (boF fun _ => false)).toArray 57)) w.heap.size w1.heap.size w2.heap.size k x (fun _ => false) :=
      ⟨(heap_alloc_old _ _ (heap_lt hN)).trans hN, (heap_alloc_old _ _ (heap_lt hN1)).trans hN1, heap_alloc_new _ _⟩
    have n1 : w.heap.size ≠ w2.heap.size := by have := heap_lt hN; omega
    have n2 : w1.heap.size ≠ w2.heap.size := by have := heap_lt hN1; omega
    have nle : w.heap.size ≤ w2.heap.size := L1.size
    have L2 : Below w.heap.size w (w2.alloc (.cells (rowF 256 (boF fun _ => false)).toArray 57)) := L1.alloc L1.size _
    have al := fun v => run_rowAlloc (P := Try.prog) 57 w2 v _ zeroNamed
    clear hN hN1
    go_upto_region 5 with (fail)
    clear al
    generalize w2.alloc (.cells (rowF 256 (boF fun _ => false)).toArray 57) = w3 at *
    generalize w2.heap.size = g3 at *
    generalize w1.heap.size = g2 at *
    go_wp2_with fail
    go_loopw [9] (fun i wr => ∃ (j n : Nat) (f : Nat → Bool), j ≤ m ∧ i = .int .i64 n ∧ Hid (n = 3 * j) ∧ Hs wr w.heap.size g2 g3 k x f ∧ Hid (∀ l, l < j → f (dI s (3 * l)).toNat = true) ∧ Below w.heap.size w wr) (fun i _ => s.size - (intOf i).toNat)
    case atStart => exact ⟨0, 0, _, Nat.zero_le _, rfl, rfl, H0, fun l hl => absurd hl (Nat.not_lt_zero l), L2⟩
    case round =>
      obtain ⟨j, n, f, hj, rfl, HJ, hh, HN, L⟩ := hrel
      by_cases hlt : j < m
      · have b0 : n < s.size := by have := HM.out; have := HJ.out; omega
        have b0' : (n : Int) < s.size := by omega
        have x0 := (s[n]).toNat_lt
        have x1 : ((s[n]).toNat : Int) < 256 := by omega
        have cd := named_cell wr g3 f (s[n]).toNat (by omega) hh.c
        have fd : wr.frozen? ⟨g3, (s[n]).toNat, none⟩ = false := frozen_of_row _ _ _ _ _ hh.c
        have HE : Hid (dI s (3 * j) = ((s[n]).toNat : Int)) := by show _ = _; rw [← HJ.out]; exact dI_get s n b0
        have h' := hh.set_ n1 n2 (s[n]).toNat
        have L' : Below w.heap.size w (wr.setCell ⟨g3, (s[n]).toNat, none⟩ (.bool true)) := L.setCell nle _
        have HH := Lib.hid hh; clear hh
        go_wp2_with fail
        go_roundw
        case rel => exact ⟨j + 1, n + 3, _, hlt, by go_num, (show n + 3 = 3 * (j + 1) by have := HJ.out; omega), h', (fun l hl => by
          by_cases e : l = j
          · subst e; rw [HE.out]; simp [upd]
          · have := HN.out l (by omega); simp only [upd]; split <;> simp_all), L'⟩
        case measure => simp [intOf]; omega
      · obtain rfl : j = m := by omega
        have b0' : (s.size : Int) ≤ n := by have := HM.out; have := HJ.out; omega
        have b0 : s.size ≤ n := by omega
        clear H0 L2
        go_wp2_with fail
        go_loopw [44] (fun i wq => ∃ n : Nat, n ≤ 19 ∧ i = .int .i64 n ∧ Hs wq w.heap.size g2 g3 k x f ∧ Below w.heap.size w wq) (fun i _ => (19 - intOf i).toNat)
        case atStart => exact ⟨0, Nat.zero_le _, rfl, hh, L⟩
        case round =>
          obtain ⟨i, hi, rfl, hh, L⟩ := hrel
          have HH := Lib.hid hh
          by_cases hlt : i < 19
          · have hltI : (i : Int) < 19 := by omega
            have hltJ : (i : Int) < 256 := by omega
            have cf := named_cell wr g3 f i (by omega) hh.c
            by_cases hf : f i = true
            · rw [hf] at cf
              clear hh hf
              go_wp2_with fail
              go_quiet (fail)
              go_wp2_with fail
              go_roundw
              case rel => exact ⟨i + 1, by omega, by go_num, HH.out.keep (Joins.below_draws _ _ _), L.trans ((Joins.below_draws _ _ _).mono L.size)⟩
              case measure => simp [intOf]; omega
            · replace hf : f i = false := by simpa using hf
              rw [hf] at cf
              obtain ⟨e1, e2⟩ := HA.out i (fun l hl e => by
                have := HN.out l hl
                rw [← e] at this
                simp [hf] at this)
              have ca : wr.cell? ⟨w.heap.size, i, none⟩ = some (.int .u8 (k.lv i)) := by rw [cell_of_row _ _ _ _ _ _ hh.a]; simpa using keyC_lv k i hlt
              have cb : wr.cell? ⟨w.heap.size, 19 + i, none⟩ = some (.int .u8 (k.ch i)) := by rw [cell_of_row _ _ _ _ _ _ hh.a]; simpa using keyC_ch k i hlt
              have cc : wr.cell? ⟨g2, i, none⟩ = some (.int .u8 (k.lv i)) := by rw [cell_of_row _ _ _ _ _ _ hh.b, ← e1]; simpa using keyC_lv x i hlt
              have ce : wr.cell? ⟨g2, 19 + i, none⟩ = some (.int .u8 (k.ch i)) := by rw [cell_of_row _ _ _ _ _ _ hh.b, ← e2]; simpa using keyC_ch x i hlt
              have q1 : (k.lv i != k.lv i) = false := by simp
              have q2 : (k.ch i != k.ch i) = false := by simp
              clear hh hf e1 e2
              go_wp2_with fail
              go_quiet (fail)
              go_wp2_with fail
              go_roundw
              case rel => exact ⟨i + 1, by omega, by go_num, HH.out.keep (Joins.below_draws _ _ _), L.trans ((Joins.below_draws _ _ _).mono L.size)⟩
              case measure => simp [intOf]; omega
          · obtain rfl : i = 19 := by omega
            have q : ((st.size : Int) % 3 == 0) = true := by have := HL2.out; simp; omega
            have q1 : (st.size : Int) ≤ s.size := by have := HL2.out; omega
            have q2 : st.size ≤ s.size := by omega
            have hl2 := loadK g2 x wr hh.b
            clear hh
            go_wp2_with fail
            refine (right_fine x HF.out _).mono ?_; rintro e w4 ⟨rfl, hb4⟩
            go_wp2_with fail
            go_ret
            exact ⟨rfl, L.trans (hb4.mono L.size)⟩
  · obtain ⟨rfl, rfl⟩ := HNO.out he
    have q : (er != 0) = true := by simpa using he
    have hE := eqK x
    have he0 : st = ⟨#[]⟩ := by rw [← HST.out]; rfl
    subst he0
    go_wp2_with fail
    refine (lives _).mono ?_; rintro e w3 ⟨rfl, hb3⟩
    have l1 := loadK w.heap.size x w3 (heap_keep hb3 hN)
    have l2 := loadK w1.heap.size x w3 (heap_keep hb3 hN1)
    replace L1 := L1.trans (hb3.mono L1.size)
    clear hb3 hN hN1
    go_wp2_with fail
    go_ret
    exact ⟨rfl, L1⟩
end Go.Proofs.Ytgokbjnpjjdboaa.Slc
