/- client.New where the kernel runs the small machine. -/
import Derived.Test.YtimbfadnabfabaaGreatDoorMpC
import Derived.Test.YtimbfadnabfabaaGreatDoorKrz
namespace Go.Proofs.YtimbfadnabfabaaGreatDoor.Mp
open Go Go.Proofs Go.RowKit Go.Proofs.YtimbfadnabfabaaGreatDoor.Pm Go.Maps
set_option linter.unusedVariables false
noncomputable def apm(br:List Nat):Option aj:=
 match ew Go.Proofs.Tryz.prog br 76 (fs eE) with
 | some a=>match ew Go.Proofs.Tryz.prog br 76 (fs (sn eE)) with
  | some b=>match ew Go.Proofs.Tryz.prog br 76 (fs (sn (sn eE))) with
   | some c=>match ew Go.Proofs.Tryz.prog br 76 (fs (sn (sn (sn eE)))) with
    | some d=>match ew Go.Proofs.Tryz.prog br 76 (fs (sn (sn (sn (sn eE))))) with
     | some e=>match ew Go.Proofs.Tryz.prog br 76 (fs (sn (sn (sn (sn (sn eE)))))) with
      | some f=>match ew Go.Proofs.Tryz.prog br 76 (sn (sn (sn (sn (sn (sn (sn eE))))))) with
       | some g=>some (.seq a (.seq b (.seq c (.seq d (.seq e (.seq f (.seq pL g)))))))
       | none=>none
      | none=>none
     | none=>none
    | none=>none
   | none=>none
  | none=>none
 | none=>none
theorem part{br:List Nat}{c:Code}{p:aj}(h:ew Go.Proofs.Tryz.prog br 76 c=some p):fH Go.Proofs.Tryz.prog 76 c p:=
 fH.code (by rw [iX _ _ h];exact h)
theorem apn{br:List Nat}{p:aj}(h:apm br=some p):fH Go.Proofs.Tryz.prog 76 eE p:=by
 unfold apm at h
 split at h
 ·rename_i a ha
  split at h
  ·rename_i b hb
   split at h
   ·rename_i c hc
    split at h
    ·rename_i d hd
     split at h
     ·rename_i e he
      split at h
      ·rename_i f hf
       split at h
       ·rename_i g hg
        cases h
        exact sq (c1:=fs eE) (c2:=sn eE) (by kernel_rfl) rfl (part ha) (sq (c1:=fs (sn eE)) (c2:=sn (sn eE)) (by kernel_rfl) rfl (part hb)
         (sq (c1:=fs (sn (sn eE))) (c2:=sn (sn (sn eE))) (by kernel_rfl) rfl (part hc) (sq (c1:=fs (sn (sn (sn eE)))) (c2:=sn (sn (sn (sn eE)))) (by kernel_rfl) rfl (part hd)
         (sq (c1:=fs (sn (sn (sn (sn eE))))) (c2:=sn (sn (sn (sn (sn eE))))) (by kernel_rfl) rfl (part he) (sq (c1:=fs (sn (sn (sn (sn (sn eE)))))) (c2:=sn (sn (sn (sn (sn (sn eE)))))) (by kernel_rfl) rfl (part hf)
         (sq (c1:=ac_) (c2:=sn (sn (sn (sn (sn (sn (sn eE))))))) (by kernel_rfl) rfl aAj (part hg)))))))
       ·cases h
      ·cases h
     ·cases h
    ·cases h
   ·cases h
  ·cases h
 ·cases h
noncomputable def aw8(br:List Nat):Option aK:=match apm br with
 | some b=>match qU Go.Proofs.Tryz.prog Go.Proofs.Tryz.f33.results.toList with
  | some r=>some ⟨76,b,r,none,false⟩
  | none=>none
 | none=>none
noncomputable def Q9(br:List Nat)(k:Nat→Option aK)(f:Nat):Option aK:=match Nat.beq f 33 with
 | true=>aw8 br
 | false=>k f
theorem Y1{br br':List Nat}{k:Nat→Option aK}(hk: ∀f fc,k f=some fc→wQ Go.Proofs.Tryz.prog br' f fc)(f:Nat)(fc:aK)(h:Q9 br k f=some fc):wQ Go.Proofs.Tryz.prog br' f fc:=by
 unfold Q9 at h
 split at h
 ·rename_i hf
  have:=Nat.eq_of_beq_eq_true hf
  subst this
  unfold aw8 at h
  split at h
  ·rename_i b hb
   split at h
   ·rename_i r hr
    cases h
    exact avA rfl hr (apn hb)
   ·cases h
  ·cases h
 ·exact hk f fc h
end Go.Proofs.YtimbfadnabfabaaGreatDoor.Mp
