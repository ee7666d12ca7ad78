/- slc: Keys as an argument, Take of any keys and any bytes, the constant case. -/
import Derived.Test.YtgokbjnpjjdboaaSlcC
import Derived.Test.YtgokbjnpjjdboaaArg
namespace Go.Proofs.Ytgokbjnpjjdboaa.Slc
open Go.ChangeShapes Go.WideShapes Go.ChangeAt Go.RowKit
open Go.Proofs.Ytgokbjnpjjdboaa.Com Go.Proofs.Ytgokbjnpjjdboaa.Row Go.Proofs.Ytgokbjnpjjdboaa.Args
set_option maxRecDepth 100000
attribute [local go_sem ↓] loadKey storeKey allocKey load19

/-- An array of numbers that is handed in. -/
theorem rd_row {m : Option Nat} {P : Program} {w : World} {t e : TypeId} {n : Nat} {k : IntKind} {cs : List Value} (ht : P.underlying t = some (.array n e)) (he : P.underlying e = some (.int k)) (hc : P.cellsOf e = 1) (hct : P.cellsOf t = n)
    (h : Rd m P w t cs) : ∃ f : Nat → Int, cs = rowF n (fun i => .int k (f i)) ∧ ∀ i, i < n → (Lit.int k (f i)).wf = true := by
  obtain ⟨hl, hi⟩ := h.array ht
  rw [hct] at hl
  have h1 : ∀ i, i < n → ∃ x, cs[i]? = some (.int k x) ∧ (Lit.int k x).wf = true := by
    intro i hin
    obtain ⟨x, hx, hw⟩ := (hi i hin).int he
    refine ⟨x, ?_, hw⟩
    rw [hc] at hx
    have := congrArg (·[0]?) hx
    simpa [List.getElem?_take, List.getElem?_drop] using this
  refine ⟨fun i => match cs[i]? with | some (.int _ x) => x | _ => 0, ?_, ?_⟩
  · apply List.ext_getElem?
    intro i
    by_cases hin : i < n
    · obtain ⟨x, hx, _⟩ := h1 i hin
      rw [rowF_get _ _ _ hin]; simp [hx]
    · rw [List.getElem?_eq_none (by omega), List.getElem?_eq_none (by rw [rowF_len]; omega)]
  · intro i hin
    obtain ⟨x, hx, hw⟩ := h1 i hin
    simpa [hx] using hw

theorem c19 : Try.prog.cellsOf 50 = 19 := by kernel_rfl
theorem c1 : Try.prog.cellsOf 5 = 1 := by kernel_rfl
theorem c38 : Try.prog.cellsOf 52 = 38 := by kernel_rfl
theorem keys_arg {m : Option Nat} {w : World} {v : Value} (h : Arg m Try.prog w 52 v) : ∃ k, RngK k ∧ v = .agg (keyC k).toArray := by
  obtain ⟨cs, rfl, hr⟩ := h.agg (.inl ⟨_, Try.underlying52⟩)
  obtain ⟨hl, hf⟩ := hr.struct Try.underlying52
  obtain ⟨f, hf0, hw0⟩ := rd_row Try.underlying50 Try.underlying5 c1 c19 (hf 0 _ rfl)
  obtain ⟨g, hf1, hw1⟩ := rd_row Try.underlying50 Try.underlying5 c1 c19 (hf 1 _ rfl)
  rw [c38] at hl
  replace hf0 : (cs.toList.drop 0).take (Try.prog.cellsOf 50) = _ := hf0
  replace hf1 : (cs.toList.drop 19).take (Try.prog.cellsOf 50) = _ := hf1
  rw [c19] at hf0 hf1
  refine ⟨⟨fun i => if i < 19 then f i else 0, fun i => if i < 19 then g i else 0⟩, ?_, ?_⟩
  · intro i
    simp only []
    by_cases hi : i < 19
    · have a := wf_u8 (hw0 i hi); have b := wf_u8 (hw1 i hi)
      simp only [hi, if_true]; omega
    · simp [hi]
  · congr 1
    apply Array.ext'
    have e0 : rowF 19 (u8F fun i => if i < 19 then f i else 0) = rowF 19 (fun i => .int .u8 (f i)) := rowF_congr _ _ _ (fun i hi => by simp [u8F, hi])
    have e1 : rowF 19 (u8F fun i => if i < 19 then g i else 0) = rowF 19 (fun i => .int .u8 (g i)) := rowF_congr _ _ _ (fun i hi => by simp [u8F, hi])
    simp only [keyC]
    rw [e0, e1, ← hf0, ← hf1]
    simp only [List.drop_zero]
    conv => lhs; rw [← List.take_append_drop 19 cs.toList]
    congr 1
    exact (List.take_of_length_le (by simp at hl ⊢; omega)).symm

/-- What Take comes to. -/
def takeS (k : Ky) (s : ByteArray) : Ky × List Int × Int :=
  if checkE k = 4 then (k, [], 4) else if s.size % 3 ≠ 0 then (k, [], 4) else if 300 < s.size then (k, [], 2) else ((takeN k (dI s) (s.size / 3)).1, (takeN k (dI s) (s.size / 3)).2, 0)
theorem checkE_or (k : Ky) : checkE k = 4 ∨ checkE k = 0 := by unfold checkE; split <;> simp
theorem take_any (k : Ky) (hr : RngK k) (s : ByteArray) (hs : s.size ≤ maxLen) (w : World) :
    Calls Try.prog 26 #[.agg (keyC k).toArray, .string s] w fun e w' => e = .returned (.tuple #[.agg (keyC (takeS k s).1).toArray, .string ⟨(nb (takeS k s).2.1).toArray⟩, .int .i64 (takeS k s).2.2]) ∧ Below w.heap.size w w' := by
  unfold takeS
  by_cases h : checkE k = 4
  · rw [if_pos h]; exact take_no k hr s hs 4 (.inl ⟨h, rfl⟩) w
  · have h0 : checkE k = 0 := (checkE_or k).resolve_left h
    rw [if_neg h]
    by_cases h1 : s.size % 3 ≠ 0
    · rw [if_pos h1]; exact take_no k hr s hs 4 (.inr (.inl ⟨h0, h1, rfl⟩)) w
    · rw [if_neg h1]
      by_cases h2 : 300 < s.size
      · rw [if_pos h2]; exact take_no k hr s hs 2 (.inr (.inr ⟨h0, by omega, h2, rfl⟩)) w
      · rw [if_neg h2]; exact take_ok k hr s (s.size / 3) (by omega) (by omega) h0 w
theorem takeS_rng (k : Ky) (hr : RngK k) (s : ByteArray) : RngK (takeS k s).1 := by
  unfold takeS
  split
  · exact hr
  · split
    · exact hr
    · split
      · exact hr
      · exact takeN_rng k hr _ (dI_range s) _

/-! ### slcLives -/
def k0 : Ky := ⟨fun _ => 0, fun _ => 0⟩
theorem k0_built : Try.prog.built 52 [] = some (keyC k0).toArray := by kernel_rfl
theorem lives (w : World) : Calls Try.prog 27 #[] w fun e w' => e = .returned (.bool true) ∧ Below w.heap.size w w' := by
  have hr : RngK k0 := fun i => ⟨by simp [k0], by simp [k0], by simp [k0], by simp [k0]⟩
  have ht := fun w => take_any k0 hr ⟨#[10, 2, 127]⟩ (by decide) w
  have e1 : takeS k0 ⟨#[10, 2, 127]⟩ = (setK k0 10 2 127, [10, 130, 127], 0) := by
    have h1 : takeN k0 (dI ⟨#[10, 2, 127]⟩) 1 = (setK k0 10 2 127, [10, 130, 127]) := by
      rw [takeN, takeN]; rfl
    have h2 : takeS k0 ⟨#[10, 2, 127]⟩ = ((takeN k0 (dI ⟨#[10, 2, 127]⟩) 1).1, (takeN k0 (dI ⟨#[10, 2, 127]⟩) 1).2, 0) := by
      unfold takeS
      rw [if_neg (by decide), if_neg (by decide), if_neg (by decide)]; rfl
    rw [h2, h1]
  rw [e1] at ht
  rw [show (nb [10, 130, 127]).toArray = #[10, 130, 127] by decide] at ht
  generalize hn1 : setK k0 10 2 127 = n1 at *
  have hu : n1.lv 10 = 2 := by rw [← hn1]; rfl
  have hv : n1.ch 10 = 127 := by rw [← hn1]; rfl
  have HT := Lib.hid ht; have HN := Lib.hid k0_built
  clear ht hr hn1 e1
  have HU := Lib.hid hu; have HV := Lib.hid hv; clear hu hv
  go_enter Try.func27, Try.ntmps27
  go_wp2_with (with_reducible show wpList _ _ _ (Oper.mk _ (Op.build 52 _) _ _ _ _ :: _) _ _; refine wpList_buildTo rfl 52 _ rfl none rfl (keyC k0).toArray ?_ ?_; simp only [List.map_toArray, List.map_cons, List.map_nil]; go_simp; exact HN.out)
  refine (HT.out _).mono ?_; rintro e w1 ⟨rfl, hb1⟩
  have ha := fun v => allocK w1 v
  have hz := heap_alloc_new w1 (.cells zKey 52)
  have hs := storeK w1.heap.size n1 (w1.alloc (.cells zKey 52)) _ hz zKey_size
  have hc : ((w1.alloc (.cells zKey 52)).setRow w1.heap.size (keyC n1).toArray).cell? ⟨w1.heap.size, 10, none⟩ = some (.int .u8 2) := by
    rw [cell_setRow_same _ _ _ _ _ _ _ hz]
    have := keyC_lv n1 10 (by omega)
    rw [HU.out] at this
    simpa using this
  have hc2 : ((w1.alloc (.cells zKey 52)).setRow w1.heap.size (keyC n1).toArray).cell? ⟨w1.heap.size, 29, none⟩ = some (.int .u8 127) := by
    rw [cell_setRow_same _ _ _ _ _ _ _ hz]
    have := keyC_ch n1 10 (by omega)
    rw [HV.out] at this
    simpa using this
  have L1 : Below w.heap.size w ((w1.alloc (.cells zKey 52)).setRow w1.heap.size (keyC n1).toArray) :=
    (hb1.alloc hb1.size _).trans ((But.setRow _ _ _).below hb1.size (by have := hb1.size; simp; omega))
  clear hb1 hz
  go_wp2_with fail
  go_ret
  exact ⟨rfl, L1⟩
end Go.Proofs.Ytgokbjnpjjdboaa.Slc
