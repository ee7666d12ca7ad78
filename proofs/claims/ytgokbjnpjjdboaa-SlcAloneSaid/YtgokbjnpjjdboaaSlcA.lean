/- Contracts of package slc: Check, triple. -/
import Derived.Test.YtgokbjnpjjdboaaRowB
import Derived.BigQuiet
namespace Go.Proofs.Ytgokbjnpjjdboaa.Slc
open Go.ChangeShapes Go.WideShapes Go.ChangeAt Go.RowKit
open Go.Proofs.Ytgokbjnpjjdboaa.Com Go.Proofs.Ytgokbjnpjjdboaa.Row
set_option maxRecDepth 100000

theorem infoByte : (Try.prog.info? 5).map (fun i => (i.zero, i.size, i.bytes)) = some (some (.int .u8 0), 1, 1) := by kernel_rfl

/-! ### the keys -/
structure Ky where
  lv : Nat → Int
  ch : Nat → Int
def u8F (f : Nat → Int) : Nat → Value := fun i => .int .u8 (f i)
def keyC (k : Ky) : List Value := rowF 19 (u8F k.lv) ++ rowF 19 (u8F k.ch)
theorem keyC_len (k : Ky) : (keyC k).length = 38 := by simp [keyC, rowF_len]
theorem keyC_lv (k : Ky) (i : Nat) (h : i < 19) : (keyC k)[i]? = some (.int .u8 (k.lv i)) := by
  unfold keyC
  rw [List.getElem?_append_left (by rw [rowF_len]; exact h), rowF_get _ _ _ h]; rfl
theorem keyC_ch (k : Ky) (i : Nat) (h : i < 19) : (keyC k)[19 + i]? = some (.int .u8 (k.ch i)) := by
  unfold keyC
  rw [List.getElem?_append_right (by rw [rowF_len]; omega), rowF_len, show 19 + i - 19 = i by omega, rowF_get _ _ _ h]; rfl
theorem u8F_upd (f : Nat → Int) (i : Nat) (x : Int) : upd (u8F f) i (.int .u8 x) = u8F (upd f i x) := by
  funext j; simp only [upd, u8F]; split <;> rfl
theorem keyC_set_lv (k : Ky) (i : Nat) (h : i < 19) (x : Int) : (keyC k).toArray.setIfInBounds i (.int .u8 x) = (keyC { k with lv := upd k.lv i x }).toArray := by
  apply Array.ext'
  simp only [Array.toList_setIfInBounds, keyC]
  rw [List.set_append_left _ _ (by rw [rowF_len]; exact h), rowF_set, u8F_upd]
theorem keyC_set_ch (k : Ky) (i : Nat) (x : Int) : (keyC k).toArray.setIfInBounds (19 + i) (.int .u8 x) = (keyC { k with ch := upd k.ch i x }).toArray := by
  apply Array.ext'
  simp only [Array.toList_setIfInBounds, keyC]
  rw [List.set_append_right _ _ (by rw [rowF_len]; omega), rowF_len, show 19 + i - 19 = i by omega, rowF_set, u8F_upd]
def setK (k : Ky) (f : Nat) (l c : Int) : Ky := { lv := upd k.lv f l, ch := upd k.ch f c }
def RngK (k : Ky) : Prop := ∀ i, 0 ≤ k.lv i ∧ k.lv i ≤ 255 ∧ 0 ≤ k.ch i ∧ k.ch i ≤ 255

/-- What a triple comes to: the keys, and the bytes of the answer. -/
def tripleS (k : Ky) (f g c : Int) : Ky × List Int :=
  if f < 1 ∨ 18 < f then (k, if 128 ≤ g then [] else [f, 0, 0])
  else if g % 4 = k.lv f.toNat ∧ c = k.ch f.toNat then (k, [])
  else if 128 ≤ g then (if g % 4 = 3 then k else setK k f.toNat (g % 4) c, [])
  else if g % 4 = 0 then (setK k f.toNat 0 c, [f, 128, c])
  else if g % 4 = 3 then (k, [f, k.lv f.toNat, k.ch f.toNat])
  else if k.lv f.toNat = 1 ∧ g % 4 = 1 then (setK k f.toNat 0 0, [f, 0, 0])
  else if k.lv f.toNat = 1 then (k, [f, 1, k.ch f.toNat])
  else (setK k f.toNat (g % 4) c, [f, 128 + g % 4, c])

theorem sizeKey : (Try.prog.info? 52).map (·.size) = some 38 := by kernel_rfl
theorem size19 : (Try.prog.info? 50).map (·.size) = some 19 := by kernel_rfl
def zKey : Array Value := (List.replicate 38 (Value.int .u8 0)).toArray
theorem zKey_size : zKey.size = 38 := by simp [zKey]
theorem zeroKey : (Try.prog.info? 52).bind (·.zero) = some (.agg zKey) := by kernel_rfl
theorem loadKey (v : Value) : Instr.loadAt 52 v = rowLoad 52 v := rfl
theorem storeKey (p v : Value) : Instr.storeAt 52 p v = rowStore 52 p v := rfl
theorem allocKey (b : Bool) (v : Value) : Instr.alloc 52 b v = rowAlloc 52 b v := rfl
theorem load19 (v : Value) : Instr.loadAt 50 v = rowLoad 50 v := rfl
attribute [local go_sem ↓] loadKey storeKey allocKey load19

theorem keyA_size (k : Ky) : (keyC k).toArray.size = 38 := by simp [keyC_len]
theorem keyA_one (k : Ky) : (keyC k).toArray.all (·.oneCell') = true := by
  rw [Array.all_eq_true_iff_forall_mem]
  intro x hx
  simp [keyC, rowF, u8F] at hx
  rcases hx with ⟨_, _, rfl⟩ | ⟨_, _, rfl⟩ <;> rfl
theorem loadK (g : Nat) (k : Ky) (W : World) (h : W.heap[g]? = some (.cells (keyC k).toArray 52 (0, 0))) :
    (rowLoad 52 (.pointer (some ⟨g, 0, none⟩))).run Try.prog W = .ok (.agg (keyC k).toArray) W :=
  run_rowLoad _ _ W _ _ _ _ h Try.underlying52 rfl (by rw [keyA_size]; exact sizeKey)
theorem storeK (g : Nat) (k : Ky) (W : World) (old : Array Value) (h : W.heap[g]? = some (.cells old 52 (0, 0))) (ho : old.size = 38) :
    (rowStore 52 (.pointer (some ⟨g, 0, none⟩)) (.agg (keyC k).toArray)).run Try.prog W = .ok () (W.setRow g (keyC k).toArray) :=
  run_rowStore _ _ W _ _ _ h (by rw [keyA_size]; exact sizeKey) (by rw [keyA_size, ho]) (keyA_one k)
theorem allocK (W : World) (v : Value) : (rowAlloc 52 true v).run Try.prog W = .ok (.pointer (some ⟨W.heap.size, 0, none⟩)) (W.alloc (.cells zKey 52)) :=
  run_rowAlloc _ W v zKey zeroKey

/-! ### Check -/
def lvOk (k : Ky) (n : Nat) : Prop := ∀ i, i < n → k.lv i ≤ 2
def checkE (k : Ky) : Int := if ((List.range 19).all fun i => decide (k.lv i ≤ 2)) = true ∧ k.lv 0 = 0 ∧ k.ch 0 = 0 then 0 else 4
theorem checkE_ok (k : Ky) (h : lvOk k 19) (h0 : k.lv 0 = 0) (h1 : k.ch 0 = 0) : checkE k = 0 := by
  unfold checkE; rw [if_pos ⟨by simpa [List.all_eq_true, lvOk] using h, h0, h1⟩]
theorem checkE_lv (k : Ky) (i : Nat) (hi : i < 19) (h : 2 < k.lv i) : checkE k = 4 := by
  unfold checkE
  rw [if_neg]
  rintro ⟨h1, _⟩
  have h1 : ∀ i, i < 19 → k.lv i ≤ 2 := by simpa [List.all_eq_true] using h1
  have := h1 i hi
  omega
theorem checkE_0 (k : Ky) (h : k.lv 0 ≠ 0 ∨ k.ch 0 ≠ 0) : checkE k = 4 := by
  unfold checkE
  rw [if_neg]
  rintro ⟨_, h1, h2⟩
  rcases h with h | h
  · exact h h1
  · exact h h2
theorem checkE_zero (k : Ky) (h : checkE k = 0) : lvOk k 19 ∧ k.lv 0 = 0 ∧ k.ch 0 = 0 := by
  unfold checkE at h
  split at h
  · rename_i hh; exact ⟨by simpa [List.all_eq_true, lvOk] using hh.1, hh.2⟩
  · omega

theorem check_any (k : Ky) (hr : RngK k) (w : World) :
    Calls Try.prog 36 #[.agg (keyC k).toArray] w fun e w' => e = .returned (.int .i64 (checkE k)) ∧ Below w.heap.size w w' := by
  obtain ⟨W0, hW0⟩ : ∃ W0, W0 = w.alloc (.cells (keyC k).toArray 52) := ⟨_, rfl⟩
  have hg : W0.heap[w.heap.size]? = some (.cells (keyC k).toArray 52 (0, 0)) := by rw [hW0]; exact heap_alloc_new _ _
  have L0 : Below w.heap.size w W0 := by rw [hW0]; exact below_alloc _ _
  have hl := run_rowLoad_part (P := Try.prog) 50 ⟨w.heap.size, 0, none⟩ W0 _ Try.underlying50 rfl (rowF 19 (u8F k.lv)) (by rw [rowF_len]; exact size19) (fun j v hj => by
    have hlt : j < 19 := by
      rcases Nat.lt_or_ge j 19 with h' | h'
      · exact h'
      · rw [List.getElem?_eq_none (by rw [rowF_len]; exact h')] at hj; cases hj
    rw [rowF_get _ _ _ hlt] at hj
    have hp : (⟨w.heap.size, 0, none⟩ : Addr).add j = ⟨w.heap.size, j, none⟩ := by unfold Addr.add; split <;> simp_all
    rw [hp, cell_of_row _ _ _ _ _ _ hg]
    simpa using (keyC_lv k j hlt).trans hj)
  have c0 : W0.cell? ⟨w.heap.size, 0, none⟩ = some (.int .u8 (k.lv 0)) := by rw [cell_of_row _ _ _ _ _ _ hg]; simpa using keyC_lv k 0 (by omega)
  have c1 : W0.cell? ⟨w.heap.size, 19, none⟩ = some (.int .u8 (k.ch 0)) := by rw [cell_of_row _ _ _ _ _ _ hg]; simpa using keyC_ch k 0 (by omega)
  have hin := fun (i : Nat) (hi : i < 19) => run_index_agg (P := Try.prog) (w := W0) 50 5 19 (rowF 19 (u8F k.lv)).toArray .i64 i (.int .u8 (k.lv i)) _ Try.underlying50 Try.underlying5 rfl (by kernel_rfl) (by omega) (by omega) (by simpa [u8F] using rowF_get 19 (u8F k.lv) i hi)
  have HI := Lib.hid hin; have HW := Lib.hid hW0; have HR := Lib.hid hr
  clear hin hW0 hg hr
  go_enter Try.func36, Try.ntmps36
  go_upto_region 1 with (fail)
  rw [← HW.out]
  go_wp2_with fail
  go_loopw [7] (fun i wr => ∃ n : Nat, n ≤ 19 ∧ i = .int .i64 n ∧ Hid (lvOk k n) ∧ wr = W0) (fun i _ => (19 - intOf i).toNat)
  case atStart => exact ⟨0, Nat.zero_le _, rfl, fun j hj => absurd hj (Nat.not_lt_zero j), rfl⟩
  case round =>
    obtain ⟨n, hn, rfl, hall, rfl⟩ := hrel
    by_cases hlt : n < 19
    · have hi := HI.out n hlt
      have hltI : (n : Int) < 19 := by omega
      by_cases h2 : 2 < k.lv n
      · have HE : Hid (checkE k = 4) := checkE_lv k n hlt h2
        go_wp2_with fail
        go_ret
        exact ⟨by rw [HE.out]; rfl, L0⟩
      · have HA : Hid (lvOk k (n+1)) := fun j hj => by
          by_cases e : j = n
          · subst e; omega
          · exact hall.out j (by omega)
        go_wp2_with fail
        go_roundw
        case rel => exact ⟨n + 1, by omega, by go_num, HA, by first | trivial | rfl⟩
        case measure => simp [intOf]; omega
    · obtain rfl : n = 19 := by omega
      by_cases h0 : k.lv 0 = 0
      · by_cases h1 : k.ch 0 = 0
        · have HE : Hid (checkE k = 0) := checkE_ok k hall.out h0 h1
          rw [h0] at c0; rw [h1] at c1
          clear h0 h1
          go_wp2_with fail
          go_ret
          exact ⟨by rw [HE.out]; rfl, L0⟩
        · have HE : Hid (checkE k = 4) := checkE_0 k (.inr h1)
          rw [h0] at c0
          have q : (k.ch 0 != 0) = true := by simpa using h1
          have q2 : (k.ch 0 == 0) = false := by simpa using h1
          clear h0 h1
          go_wp2_with fail
          go_ret
          exact ⟨by rw [HE.out]; rfl, L0⟩
      · have HE : Hid (checkE k = 4) := checkE_0 k (.inl h0)
        have q : (k.lv 0 != 0) = true := by simpa using h0
        have q2 : (k.lv 0 == 0) = false := by simpa using h0
        clear h0
        go_wp2_with fail
        go_ret
        exact ⟨by rw [HE.out]; rfl, L0⟩
end Go.Proofs.Ytgokbjnpjjdboaa.Slc
