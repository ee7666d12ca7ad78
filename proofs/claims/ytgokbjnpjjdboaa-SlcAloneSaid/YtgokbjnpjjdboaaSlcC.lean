/- The contract of slc.Take. -/
import Derived.Test.YtgokbjnpjjdboaaSlcB
import Derived.Test.YtgokbjnpjjdboaaAppS
import Derived.StillTailTactics
import Derived.Deep.RegionLaw
namespace Go.Proofs.Ytgokbjnpjjdboaa.Slc
open Go.ChangeShapes Go.WideShapes Go.ChangeAt Go.RowKit
open Go.Proofs.Ytgokbjnpjjdboaa.Com Go.Proofs.Ytgokbjnpjjdboaa.Row
set_option maxRecDepth 100000
attribute [local go_sem ↓] loadKey storeKey allocKey load19

/-! ### what is computed -/
def dI (s : ByteArray) (i : Nat) : Int := (s.data.toList[i]?.map fun b => (b.toNat : Int)).getD 0
theorem dI_get (s : ByteArray) (i : Nat) (h : i < s.size) : dI s i = ((s[i]).toNat : Int) := by
  unfold dI
  have : s.data.toList[i]? = some s[i] := by
    rw [List.getElem?_eq_getElem (by simpa using h)]; rfl
  rw [this]; rfl
theorem dI_range (s : ByteArray) (i : Nat) : 0 ≤ dI s i ∧ dI s i ≤ 255 := by
  unfold dI
  cases h : s.data.toList[i]? with
  | none => simp
  | some b => have := b.toNat_lt; simp; omega
def takeN (k : Ky) (d : Nat → Int) : Nat → Ky × List Int
  | 0 => (k, [])
  | j+1 => ((tripleS (takeN k d j).1 (d (3*j)) (d (3*j+1)) (d (3*j+2))).1, (takeN k d j).2 ++ (tripleS (takeN k d j).1 (d (3*j)) (d (3*j+1)) (d (3*j+2))).2)
theorem setK_rng (k : Ky) (h : RngK k) (f : Nat) (l c : Int) (hl : 0 ≤ l ∧ l ≤ 255) (hc : 0 ≤ c ∧ c ≤ 255) : RngK (setK k f l c) := by
  intro i
  have := h i
  simp only [setK, upd]
  split <;> omega
theorem tripleS_rng (k : Ky) (h : RngK k) (f g c : Int) (hg : 0 ≤ g ∧ g ≤ 255) (hc : 0 ≤ c ∧ c ≤ 255) : RngK (tripleS k f g c).1 := by
  unfold tripleS
  split
  · exact h
  · split
    · exact h
    · split
      · simp only []
        split
        · exact h
        · exact setK_rng _ h _ _ _ (by omega) hc
      · split
        · exact setK_rng _ h _ _ _ (by omega) hc
        · split
          · exact h
          · split
            · exact setK_rng _ h _ _ _ (by omega) (by omega)
            · split
              · exact h
              · exact setK_rng _ h _ _ _ (by omega) hc
theorem tripleS_len (k : Ky) (f g c : Int) : (tripleS k f g c).2.length ≤ 3 := by
  unfold tripleS
  repeat' split
  all_goals simp
theorem takeN_rng (k : Ky) (h : RngK k) (d : Nat → Int) (hd : ∀ i, 0 ≤ d i ∧ d i ≤ 255) : ∀ j, RngK (takeN k d j).1
  | 0 => h
  | j+1 => tripleS_rng _ (takeN_rng k h d hd j) _ _ _ (hd _) (hd _)
theorem takeN_len (k : Ky) (d : Nat → Int) : ∀ j, (takeN k d j).2.length ≤ 3 * j
  | 0 => by simp [takeN]
  | j+1 => by
    have := takeN_len k d j
    have h2 := tripleS_len (takeN k d j).1 (d (3*j)) (d (3*j+1)) (d (3*j+2))
    simp only [takeN, List.length_append]; omega
/-- Bytes of numbers. -/
def nb (l : List Int) : List UInt8 := l.map fun x => UInt8.ofNat x.toNat
theorem nb_V (l : List Int) (h : ∀ x ∈ l, 0 ≤ x ∧ x ≤ 255) : bytesV (nb l) = numV l := by
  unfold bytesV nb numV
  rw [List.map_map]
  refine List.map_congr_left fun x hx => ?_
  have := h x hx
  simp only [Function.comp, UInt8.toNat_ofNat']
  congr 1
  omega
theorem tripleS_bytes (k : Ky) (h : RngK k) (f g c : Int) (hf : 0 ≤ f ∧ f ≤ 255) (hg : 0 ≤ g ∧ g ≤ 255) (hc : 0 ≤ c ∧ c ≤ 255) : ∀ x ∈ (tripleS k f g c).2, 0 ≤ x ∧ x ≤ 255 := by
  have r := h f.toNat
  unfold tripleS
  repeat' split
  all_goals
    intro x hx
    simp at hx
  all_goals
    first | (rcases hx with rfl | rfl | rfl <;> omega) | (rcases hx with rfl | rfl <;> omega) | omega
theorem takeN_bytes (k : Ky) (h : RngK k) (d : Nat → Int) (hd : ∀ i, 0 ≤ d i ∧ d i ≤ 255) : ∀ j, ∀ x ∈ (takeN k d j).2, 0 ≤ x ∧ x ≤ 255
  | 0 => by simp [takeN]
  | j+1 => by
    intro x hx
    simp only [takeN, List.mem_append] at hx
    rcases hx with hx | hx
    · exact takeN_bytes k h d hd j x hx
    · exact tripleS_bytes _ (takeN_rng k h d hd j) _ _ _ (hd _) (hd _) (hd _) x hx

theorem own_nilcap {w : World} {B : Nat} {e : TypeId} {v : Value} {xs : List Value} (h : Own w B e v xs) : ∀ c, v = .slice none 0 c → c = 0 := by
  intro c hc
  subst hc
  rcases h.2 with ⟨h, _⟩ | ⟨k, cap, cur, h, _⟩
  · simpa using h
  · simp at h
theorem numV_one (l : List Int) : ∀ u ∈ numV l, u.oneCell' = true := by
  intro u hu
  simp only [numV, List.mem_map] at hu
  obtain ⟨a, _, rfl⟩ := hu
  rfl
theorem numV_len (l : List Int) : (numV l).length = l.length := by simp [numV]
theorem numV_app (a b : List Int) : numV (a ++ b) = numV a ++ numV b := by simp [numV]

theorem take_start (k : Ky) (w : World) : ∃ W0, W0 = (w.alloc (.cells (keyC k).toArray 52)).alloc (.cells zKey 52) ∧ Below w.heap.size w W0 ∧ W0.heap.size = w.heap.size + 2 ∧
    W0.heap[w.heap.size]? = some (.cells (keyC k).toArray 52 (0, 0)) ∧ W0.heap[w.heap.size + 1]? = some (.cells zKey 52 (0, 0)) := by
  refine ⟨_, rfl, ((Below.refl _ _).alloc (Nat.le_refl _) _).alloc (by simp) _, by simp, ?_, ?_⟩
  · rw [heap_alloc_old _ _ (by simp)]; exact heap_alloc_new _ _
  · have := heap_alloc_new (w.alloc (.cells (keyC k).toArray 52)) (.cells zKey 52)
    simpa using this

/-- The end of a Take that is refused with e. -/
theorem take_no (k : Ky) (hr : RngK k) (s : ByteArray) (hs : s.size ≤ maxLen) (er : Int) (h : (checkE k = 4 ∧ er = 4) ∨ (checkE k = 0 ∧ s.size % 3 ≠ 0 ∧ er = 4) ∨ (checkE k = 0 ∧ s.size % 3 = 0 ∧ 300 < s.size ∧ er = 2)) (w : World) :
    Calls Try.prog 26 #[.agg (keyC k).toArray, .string s] w fun e w' => e = .returned (.tuple #[.agg (keyC k).toArray, .string ⟨#[]⟩, .int .i64 er]) ∧ Below w.heap.size w w' := by
  unfold maxLen at hs
  obtain ⟨W0, hW0, L0, hs0, hN, hZ⟩ := take_start k w
  have HW := Lib.hid hW0; have HZ := Lib.hid hZ
  have hl0 := loadK w.heap.size k W0 hN
  have hal := fun v => allocK (w.alloc (.cells (keyC k).toArray 52)) v
  clear hW0 hZ
  have HH := Lib.hid h; clear h
  go_enter Try.func26, Try.ntmps26
  go_upto_region 1 with (fail)
  rw [← HW.out]
  clear hal
  go_wp2_with fail
  refine (check_any k hr _).mono ?_; rintro e w1 ⟨rfl, hb1⟩
  have hN1 := heap_keep hb1 hN
  have hZ1 := heap_keep hb1 HZ.out
  have L1 := L0.trans (hb1.mono L0.size)
  have hl1 := loadK w.heap.size k w1 hN1
  have hs1 := storeK (w.heap.size + 1) k w1 _ hZ1 zKey_size
  have HF := Lib.hid (setRow_heap w1 (w.heap.size + 1) _ (keyC k).toArray _ _ hZ1)
  have L2 : Below w.heap.size w (w1.setRow (w.heap.size + 1) (keyC k).toArray) := L1.trans ((But.setRow _ w1 _).below (by omega) L1.size)
  clear hN hN1 hZ1 hl0 hb1 hs0
  rcases HH.out with ⟨h1, rfl⟩ | ⟨h1, h2, rfl⟩ | ⟨h1, h2, h3, rfl⟩
  · rw [h1]
    clear HH
    go_wp2_with fail
    exact bodyPost_ret (results_row3 (P := Try.prog) rfl _ _ (w.heap.size + 1) 52 (keyC k).toArray (0, 0) _ rfl HF.out Try.underlying52 rfl (by rw [keyA_size]; exact sizeKey)) rfl ⟨rfl, L2⟩
  · rw [h1]
    clear HH h1
    have q : ((s.size : Int) % 3 != 0) = true := by simp; omega
    have q2 : ((s.size : Int) % 3 == 0) = false := by simp; omega
    clear h2
    go_wp2_with fail
    exact bodyPost_ret (results_row3 (P := Try.prog) rfl _ _ (w.heap.size + 1) 52 (keyC k).toArray (0, 0) _ rfl HF.out Try.underlying52 rfl (by rw [keyA_size]; exact sizeKey)) rfl ⟨rfl, L2⟩
  · rw [h1]
    clear HH h1
    have q : ((s.size : Int) % 3 != 0) = false := by simp; omega
    have q2 : ((s.size : Int) % 3 == 0) = true := by simp; omega
    have q3 : (300 : Int) < s.size := by omega
    clear h2 h3
    go_wp2_with fail
    exact bodyPost_ret (results_row3 (P := Try.prog) rfl _ _ (w.heap.size + 1) 52 (keyC k).toArray (0, 0) _ rfl HF.out Try.underlying52 rfl (by rw [keyA_size]; exact sizeKey)) rfl ⟨rfl, L2⟩

set_option maxHeartbeats 400000 in
theorem take_ok (k : Ky) (hr : RngK k) (s : ByteArray) (m : Nat) (hm : s.size = 3 * m) (hs : s.size ≤ 300) (hk : checkE k = 0) (w : World) :
    Calls Try.prog 26 #[.agg (keyC k).toArray, .string s] w fun e w' => e = .returned (.tuple #[.agg (keyC (takeN k (dI s) m).1).toArray, .string ⟨(nb (takeN k (dI s) m).2).toArray⟩, .int .i64 0]) ∧ Below w.heap.size w w' := by
  obtain ⟨i0, hi, hz0, hz1, hz2⟩ := info_parts infoByte
  obtain ⟨W0, hW0, L0, hs0, hN, hZ⟩ := take_start k w
  have HW := Lib.hid hW0; have HZ := Lib.hid hZ
  have hl0 := loadK w.heap.size k W0 hN
  have hal := fun v => allocK (w.alloc (.cells (keyC k).toArray 52)) v
  clear hW0 hZ
  have q : ((s.size : Int) % 3 != 0) = false := by simp; omega
  have q2 : ((s.size : Int) % 3 == 0) = true := by simp; omega
  have q3 : (s.size : Int) ≤ 300 := by omega
  have q4 : decide ((300 : Int) < s.size) = false := decide_eq_false (by omega)
  have HM := Lib.hid hm; clear hm
  go_enter Try.func26, Try.ntmps26
  go_upto_region 1 with (fail)
  rw [← HW.out]
  clear hal
  go_wp2_with fail
  refine (check_any k hr _).mono ?_; rintro e w1 ⟨rfl, hb1⟩
  rw [hk]
  have hN1 := heap_keep hb1 hN
  have hZ1 := heap_keep hb1 HZ.out
  have L1 := L0.trans (hb1.mono L0.size)
  have hsz1 : w.heap.size + 2 ≤ w1.heap.size := by have := hb1.size; omega
  have HN1 := Lib.hid hN1; have HZ1 := Lib.hid hZ1
  clear hN hN1 hZ1 hl0 hb1 hs0 HW HZ hk L0
  go_wp2_with fail
  go_loopw [8, 9] (fun v i wr => ∃ j n : Nat, j ≤ m ∧ i = .int .i64 n ∧ Hid (n = 3 * j) ∧ Own wr (w.heap.size + 2) 5 v (numV (takeN k (dI s) j).2) ∧ Hid (wr.heap[w.heap.size]? = some (.cells (keyC (takeN k (dI s) j).1).toArray 52 (0, 0))) ∧
      Hid (wr.heap[w.heap.size + 1]? = some (.cells zKey 52 (0, 0))) ∧ Below w.heap.size w wr ∧ w.heap.size + 2 ≤ wr.heap.size) (fun _ i _ => s.size - (intOf i).toNat)
  case atStart => exact ⟨0, 0, Nat.zero_le _, rfl, rfl, Own.nil _ _ _, HN1, HZ1, L1, hsz1⟩
  case round =>
    obtain ⟨j, n, hj, rfl, HJ, hown, HK, HZ, hb, hsz⟩ := hrel
    by_cases hlt : j < m
    · have b0 : n < s.size := by have := HM.out; have := HJ.out; omega
      have b1 : n + 1 < s.size := by have := HM.out; have := HJ.out; omega
      have b2 : n + 2 < s.size := by have := HM.out; have := HJ.out; omega
      have b0' : (n : Int) < s.size := by omega
      have b1' : (n : Int) + 1 < s.size := by omega
      have b2' : (n : Int) + 2 < s.size := by omega
      have n0 : (0 : Int) ≤ n := by omega
      go_wp2_with fail
      have wr1 : IntKind.i64.wrap ((n : Int) + 1) = n + 1 := IntWalk.i64_in _ (by omega)
      have wr2 : IntKind.i64.wrap ((n : Int) + 2) = n + 2 := IntWalk.i64_in _ (by omega)
      have tn1 : ((n : Int) + 1).toNat = n + 1 := by omega
      have tn2 : ((n : Int) + 2).toNat = n + 2 := by omega
      have p1 : (0 : Int) ≤ n + 1 := by omega
      have p2 : (0 : Int) ≤ n + 2 := by omega
      have e0 : dI s (3 * j) = ((s[n]).toNat : Int) := by rw [← HJ.out]; exact dI_get s n b0
      have e1 : dI s (3 * j + 1) = ((s[n + 1]).toNat : Int) := by rw [← HJ.out]; exact dI_get s (n + 1) b1
      have e2 : dI s (3 * j + 2) = ((s[n + 2]).toNat : Int) := by rw [← HJ.out]; exact dI_get s (n + 2) b2
      have HT : Hid (takeN k (dI s) (j+1) = ((tripleS (takeN k (dI s) j).1 ((s[n]).toNat : Int) ((s[n + 1]).toNat : Int) ((s[n + 2]).toNat : Int)).1, (takeN k (dI s) j).2 ++ (tripleS (takeN k (dI s) j).1 ((s[n]).toNat : Int) ((s[n + 1]).toNat : Int) ((s[n + 2]).toNat : Int)).2)) := by
        show _ = _; rw [takeN, e0, e1, e2]
      have hkr := takeN_rng k hr (dI s) (dI_range s) j
      have hol := takeN_len k (dI s) j
      have x0 := (s[n]).toNat_lt
      have x1 := (s[n + 1]).toNat_lt
      have x2 := (s[n + 2]).toNat_lt
      clear e0 e1 e2
      generalize takeN k (dI s) j = st at *
      obtain ⟨kj, oj⟩ := st
      simp only [] at hown HK HT hkr hol
      have hownD := hown.keep ((Below.refl wr.heap.size wr).drew)
      have htb := tripleS_bytes kj hkr ((s[n]).toNat : Int) ((s[n + 1]).toNat : Int) ((s[n + 2]).toNat : Int) (by omega) (by omega) (by omega)
      have htl := tripleS_len kj ((s[n]).toNat : Int) ((s[n + 1]).toNat : Int) ((s[n + 2]).toNat : Int)
      have HKR := Lib.hid hkr; clear hkr
      have hbyt : ((numV oj).length + (numV (tripleS kj ((s[n]).toNat : Int) ((s[n + 1]).toNat : Int) ((s[n + 2]).toNat : Int)).2).length) * 1 ≤ 140737488355328 := by
        have := HM.out
        simp only [numV_len]; omega
      have HR : ∀ w2 w3 v', w2.heap[w.heap.size]? = some (.cells (keyC (tripleS kj ((s[n]).toNat : Int) ((s[n + 1]).toNat : Int) ((s[n + 2]).toNat : Int)).1).toArray 52 (0, 0)) → But w.heap.size wr.drew w2 → Below (w.heap.size + 2) w2 w3 →
          Own w3 (w.heap.size + 2) 5 v' (numV oj ++ numV (tripleS kj ((s[n]).toNat : Int) ((s[n + 1]).toNat : Int) ((s[n + 2]).toNat : Int)).2) →
          Own w3 (w.heap.size + 2) 5 v' (numV (takeN k (dI s) (j+1)).2) ∧ Hid (w3.heap[w.heap.size]? = some (.cells (keyC (takeN k (dI s) (j+1)).1).toArray 52 (0, 0))) ∧
            Hid (w3.heap[w.heap.size + 1]? = some (.cells zKey 52 (0, 0))) ∧ Below w.heap.size w w3 ∧ w.heap.size + 2 ≤ w3.heap.size := by
        intro w2 w3 v' k2 bu b3 ow
        rw [HT.out]
        have s2 : w.heap.size + 2 ≤ w2.heap.size := Nat.le_trans hsz bu.size
        refine ⟨?_, ?_, ?_, ?_, ?_⟩
        · rw [numV_app]; exact ow
        · exact (b3.block _ (by omega)).trans k2
        · exact (b3.block _ (by omega)).trans ((bu.block (w.heap.size + 1) hsz (by omega)).trans HZ.out)
        · exact ((hb.drew.trans (bu.below (Nat.le_refl _) hb.size)).trans (b3.mono (by omega)))
        · exact Nat.le_trans s2 b3.size
      go_region_law (first
        | (refine step_app_src rfl (.tmp 31) (.tmp 43) 55 5 rfl (w.heap.size + 2) i0 _ 1 Try.underlying55 hi hz0 hz1 hz2 rfl _ _ rfl hown2 _ _ rfl hsrc2 hncap hone (Nat.le_refl _) hbyt hsz2 ?_; intro v' w3 hown3 hb3)
        | (go_simp; go_at_call 37; refine (triple_any kj HKR.out w.heap.size _ _ _ (by omega) (by omega) (by omega) (by omega) (by omega) (by omega) wr.drew HK.out).mono ?_; rintro e w2 ⟨v, rfl, hov, hvn, hk2, hbut⟩;
           have hown2 := hbut.own hownD (show w.heap.size < w.heap.size + 2 by omega); have hsrc2 := hov.rs; have hncap := own_nilcap hov; have hone := numV_one (tripleS kj ((s[n]).toNat : Int) ((s[n + 1]).toNat : Int) ((s[n + 2]).toNat : Int)).2; have hsz2 : w.heap.size + 2 ≤ w2.heap.size := Nat.le_trans hsz hbut.size))
      all_goals
        obtain ⟨r1, r2, r3, r4, r5⟩ := HR w2 w3 _ hk2 hbut hb3 hown3
        go_wp2_with fail
        exact ⟨⟨j + 1, n + 3, hlt, by simp, (show n + 3 = 3 * (j + 1) by have := HJ.out; omega), r1, r2, r3, r4, r5⟩, by show s.size - ((n : Int) + 3).toNat < s.size - (n : Int).toNat; omega⟩
    · obtain rfl : j = m := by omega
      have b0 : ¬ (n : Int) < s.size := by have := HM.out; have := HJ.out; omega
      have b0' : (s.size : Int) ≤ n := by omega
      have hkr := takeN_rng k hr (dI s) (dI_range s) j
      have hol := takeN_len k (dI s) j
      have htb := takeN_bytes k hr (dI s) (dI_range s) j
      generalize hst : takeN k (dI s) j = st at *
      obtain ⟨kj, oj⟩ := st
      simp only [] at hown HK hkr hol htb
      have HE := Lib.hid hst; clear hst
      go_wp2_with fail
      have hlK := loadK w.heap.size kj wr.drew HK.out
      have hsK := storeK (w.heap.size + 1) kj wr.drew _ HZ.out zKey_size
      have HF := Lib.hid (setRow_heap wr.drew (w.heap.size + 1) _ (keyC kj).toArray _ _ HZ.out)
      have hcv := conv_bytes (P := Try.prog) wr.drew 55 9 5 Try.underlying55 Try.underlying5 Try.underlying9 _ (nb oj) (by rw [nb_V _ htb]; exact hown.rs.keep ((Below.refl wr.heap.size wr).drew))
      have hcv2 := conv_bytes (P := Try.prog) (wr.drew.setRow (w.heap.size + 1) (keyC kj).toArray) 55 9 5 Try.underlying55 Try.underlying5 Try.underlying9 _ (nb oj) (by rw [nb_V _ htb]; exact ((But.setRow (w.heap.size + 1) wr.drew _).own (hown.keep ((Below.refl wr.heap.size wr).drew)) (by omega)).rs)
      go_region
      go_wp2_with fail
      refine bodyPost_ret (results_row3 (P := Try.prog) rfl _ _ (w.heap.size + 1) 52 (keyC kj).toArray (0, 0) _ rfl HF.out Try.underlying52 rfl (by rw [keyA_size]; exact sizeKey)) rfl ⟨by rw [HE.out]; rfl, ?_⟩
      exact hb.drew.trans ((But.setRow _ _ _).below (by omega) hb.drew.size)
end Go.Proofs.Ytgokbjnpjjdboaa.Slc
