/- client.New where the kernel runs the small machine. -/
import Derived.Test.YtobkkblijfhpoaaGreatDoorMpC
import Derived.Test.YtobkkblijfhpoaaGreatDoorKrz
namespace Go.Proofs.YtobkkblijfhpoaaGreatDoor.Mp
open Go Go.Proofs Go.RowKit Go.Proofs.YtobkkblijfhpoaaGreatDoor.Pm Go.Maps
set_option linter.unusedVariables false
noncomputable def newB (br : List Nat) : Option PCode :=
 match compC Go.Proofs.Tryz.prog br 76 (fs newBody) with
 | some a => match compC Go.Proofs.Tryz.prog br 76 (fs (sn newBody)) with
  | some b => match compC Go.Proofs.Tryz.prog br 76 (fs (sn (sn newBody))) with
   | some c => match compC Go.Proofs.Tryz.prog br 76 (fs (sn (sn (sn newBody)))) with
    | some d => match compC Go.Proofs.Tryz.prog br 76 (fs (sn (sn (sn (sn newBody))))) with
     | some e => match compC Go.Proofs.Tryz.prog br 76 (fs (sn (sn (sn (sn (sn newBody)))))) with
      | some f => match compC Go.Proofs.Tryz.prog br 76 (sn (sn (sn (sn (sn (sn (sn newBody))))))) with
       | some g => some (.seq a (.seq b (.seq c (.seq d (.seq e (.seq f (.seq pL g)))))))
       | none => none
      | none => none
     | none => none
    | none => none
   | none => none
  | none => none
 | none => none
theorem part {br : List Nat} {c : Code} {p : PCode} (h : compC Go.Proofs.Tryz.prog br 76 c = some p) : Refines Go.Proofs.Tryz.prog 76 c p :=
 Refines.code (by rw [compC_erase _ _ h]; exact h)
theorem newB_ok {br : List Nat} {p : PCode} (h : newB br = some p) : Refines Go.Proofs.Tryz.prog 76 newBody p := by
 unfold newB at h
 split at h
 ·rename_i a ha
  split at h
  ·rename_i b hb
   split at h
   ·rename_i c hc
    split at h
    ·rename_i d hd
     split at h
     ·rename_i e he
      split at h
      ·rename_i f hf
       split at h
       ·rename_i g hg
        cases h
        exact sq (c1 := fs newBody) (c2 := sn newBody) (by kernel_rfl) rfl (part ha) (sq (c1 := fs (sn newBody)) (c2 := sn (sn newBody)) (by kernel_rfl) rfl (part hb)
         (sq (c1 := fs (sn (sn newBody))) (c2 := sn (sn (sn newBody))) (by kernel_rfl) rfl (part hc) (sq (c1 := fs (sn (sn (sn newBody)))) (c2 := sn (sn (sn (sn newBody)))) (by kernel_rfl) rfl (part hd)
         (sq (c1 := fs (sn (sn (sn (sn newBody))))) (c2 := sn (sn (sn (sn (sn newBody))))) (by kernel_rfl) rfl (part he) (sq (c1 := fs (sn (sn (sn (sn (sn newBody)))))) (c2 := sn (sn (sn (sn (sn (sn newBody)))))) (by kernel_rfl) rfl (part hf)
         (sq (c1 := newL) (c2 := sn (sn (sn (sn (sn (sn (sn newBody))))))) (by kernel_rfl) rfl ref_L (part hg)))))))
       ·cases h
      ·cases h
     ·cases h
    ·cases h
   ·cases h
  ·cases h
 ·cases h
noncomputable def newK (br : List Nat) : Option FCode := match newB br with
 | some b => match compR Go.Proofs.Tryz.prog Go.Proofs.Tryz.f11.results.toList with
  | some r => some ⟨76, b, r, none, false⟩
  | none => none
 | none => none
noncomputable def codesM (br : List Nat) (k : Nat → Option FCode) (f : Nat) : Option FCode := match Nat.beq f 11 with
 | true => newK br
 | false => k f
theorem codesM_ok {br br' : List Nat} {k : Nat → Option FCode} (hk : ∀ f fc, k f = some fc → OkF Go.Proofs.Tryz.prog br' f fc) (f : Nat) (fc : FCode) (h : codesM br k f = some fc) : OkF Go.Proofs.Tryz.prog br' f fc := by
 unfold codesM at h
 split at h
 ·rename_i hf
  have := Nat.eq_of_beq_eq_true hf
  subst this
  unfold newK at h
  split at h
  ·rename_i b hb
   split at h
   ·rename_i r hr
    cases h
    exact new_ok rfl hr (newB_ok hb)
   ·cases h
  ·cases h
 ·exact hk f fc h
end Go.Proofs.YtobkkblijfhpoaaGreatDoor.Mp
