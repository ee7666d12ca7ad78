/- The law SlcAlone: what Take leaves alone (plain). -/
import Derived.Test.YtgokbjnpjjdboaaSlcF
namespace Go.Proofs.Ytgokbjnpjjdboaa.Slc
open Go.ChangeShapes Go.WideShapes Go.ChangeAt Go.RowKit
open Go.Proofs.Ytgokbjnpjjdboaa.Com Go.Proofs.Ytgokbjnpjjdboaa.Row Go.Proofs.Ytgokbjnpjjdboaa.Args
set_option maxRecDepth 100000
attribute [local go_sem ↓] loadKey storeKey allocKey load19

theorem tripleS_three (k : Ky) (f g c : Int) : (tripleS k f g c).2.length % 3 = 0 := by
  unfold tripleS
  repeat' split
  all_goals simp
theorem takeN_three (k : Ky) (d : Nat → Int) : ∀ j, (takeN k d j).2.length % 3 = 0
  | 0 => by simp [takeN]
  | j+1 => by
    have := takeN_three k d j
    have h2 := tripleS_three (takeN k d j).1 (d (3*j)) (d (3*j+1)) (d (3*j+2))
    simp only [takeN, List.length_append]; omega
/-- Keys that are right. -/
def Fine (k : Ky) : Prop := lvOk k 19 ∧ k.lv 0 = 0 ∧ k.ch 0 = 0
theorem setK_fine (k : Ky) (h : Fine k) (f : Nat) (hf : 1 ≤ f) (l c : Int) (hl : l ≤ 2) : Fine (setK k f l c) := by
  refine ⟨fun i hi => ?_, ?_, ?_⟩
  · have := h.1 i hi
    simp only [setK, upd]
    split <;> omega
  · have := h.2.1
    simp only [setK, upd]
    split <;> omega
  · have := h.2.2
    simp only [setK, upd]
    split <;> omega
theorem tripleS_fine (k : Ky) (h : Fine k) (f g c : Int) (hg : 0 ≤ g) : Fine (tripleS k f g c).1 := by
  unfold tripleS
  by_cases h1 : f < 1 ∨ 18 < f
  · rw [if_pos h1]; exact h
  · rw [if_neg h1]
    repeat' split
    all_goals first
      | exact h
      | exact setK_fine _ h _ (by omega) _ _ (by omega)
      | (simp only []; split <;> first | exact h | exact setK_fine _ h _ (by omega) _ _ (by omega))
theorem takeN_fine (k : Ky) (h : Fine k) (d : Nat → Int) (hd : ∀ i, 0 ≤ d i) : ∀ j, Fine (takeN k d j).1
  | 0 => h
  | j+1 => tripleS_fine _ (takeN_fine k h d hd j) _ _ _ (hd _)
theorem setK_alone (k : Ky) (f : Nat) (l c : Int) (i : Nat) (hi : i ≠ f) : (setK k f l c).lv i = k.lv i ∧ (setK k f l c).ch i = k.ch i := by
  simp [setK, upd, hi]
theorem tripleS_alone (k : Ky) (f g c : Int) (i : Nat) (hi : (i : Int) ≠ f) : (tripleS k f g c).1.lv i = k.lv i ∧ (tripleS k f g c).1.ch i = k.ch i := by
  unfold tripleS
  by_cases h1 : f < 1 ∨ 18 < f
  · rw [if_pos h1]; exact ⟨rfl, rfl⟩
  · rw [if_neg h1]
    have := fun l c => setK_alone k f.toNat l c i (by omega)
    repeat' split
    all_goals first
      | exact ⟨rfl, rfl⟩
      | exact this _ _
      | (simp only []; split <;> first | exact ⟨rfl, rfl⟩ | exact this _ _)
theorem takeN_alone (k : Ky) (d : Nat → Int) (i : Nat) : ∀ j, (∀ x, x < j → (i : Int) ≠ d (3 * x)) → (takeN k d j).1.lv i = k.lv i ∧ (takeN k d j).1.ch i = k.ch i
  | 0, _ => ⟨rfl, rfl⟩
  | j+1, h => by
    have a := takeN_alone k d i j (fun x hx => h x (by omega))
    have b := tripleS_alone (takeN k d j).1 (d (3*j)) (d (3*j+1)) (d (3*j+2)) i (h j (by omega))
    simp only [takeN]
    exact ⟨b.1.trans a.1, b.2.trans a.2⟩
theorem takeS_ok (k : Ky) (s : ByteArray) (h : (takeS k s).2.2 = 0) :
    takeS k s = ((takeN k (dI s) (s.size / 3)).1, (takeN k (dI s) (s.size / 3)).2, 0) ∧ Fine k ∧ s.size % 3 = 0 ∧ s.size ≤ 300 := by
  unfold takeS at *
  split at h
  · simp at h
  · rename_i c
    split at h
    · simp at h
    · split at h
      · simp at h
      · rename_i a b
        rw [if_neg c, if_neg a, if_neg b]
        exact ⟨rfl, checkE_zero k ((checkE_or k).resolve_left c), by omega, by omega⟩
theorem takeS_no (k : Ky) (s : ByteArray) (h : (takeS k s).2.2 ≠ 0) : (takeS k s).1 = k ∧ (takeS k s).2.1 = [] := by
  unfold takeS at *
  repeat' split
  all_goals first | exact ⟨rfl, rfl⟩ | skip
  exfalso
  rename_i a b c
  rw [if_neg a, if_neg b, if_neg c] at h
  exact h rfl
end Go.Proofs.Ytgokbjnpjjdboaa.Slc
