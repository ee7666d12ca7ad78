/- client.New where the kernel runs the small machine. -/
import Derived.Test.YtimbfadnabfabaaGreatDoorMpC
import Derived.Test.YtimbfadnabfabaaGreatDoorKrz
namespace Go.Proofs.YtimbfadnabfabaaGreatDoor.Mp
open Go Go.Proofs Go.RowKit Go.Proofs.YtimbfadnabfabaaGreatDoor.Pm Go.Maps
set_option linter.unusedVariables false
noncomputable def asn(br:List Nat):Option ak:=
 match ew Go.Proofs.Tryz.prog br 76 (fs eG) with
 | some a=>match ew Go.Proofs.Tryz.prog br 76 (fs (sn eG)) with
  | some b=>match ew Go.Proofs.Tryz.prog br 76 (fs (sn (sn eG))) with
   | some c=>match ew Go.Proofs.Tryz.prog br 76 (fs (sn (sn (sn eG)))) with
    | some d=>match ew Go.Proofs.Tryz.prog br 76 (fs (sn (sn (sn (sn eG))))) with
     | some e=>match ew Go.Proofs.Tryz.prog br 76 (fs (sn (sn (sn (sn (sn eG)))))) with
      | some f=>match ew Go.Proofs.Tryz.prog br 76 (sn (sn (sn (sn (sn (sn (sn eG))))))) with
       | some g=>some (.seq a (.seq b (.seq c (.seq d (.seq e (.seq f (.seq pL g)))))))
       | none=>none
      | none=>none
     | none=>none
    | none=>none
   | none=>none
  | none=>none
 | none=>none
theorem part{br:List Nat}{c:Code}{p:ak}(h:ew Go.Proofs.Tryz.prog br 76 c=some p):fL Go.Proofs.Tryz.prog 76 c p:=
 fL.code (by rw [jg _ _ h];exact h)
theorem aso{br:List Nat}{p:ak}(h:asn br=some p):fL Go.Proofs.Tryz.prog 76 eG p:=by
 unfold asn at h
 split at h
 ·rename_i a ha
  split at h
  ·rename_i b hb
   split at h
   ·rename_i c hc
    split at h
    ·rename_i d hd
     split at h
     ·rename_i e he
      split at h
      ·rename_i f hf
       split at h
       ·rename_i g hg
        cases h
        exact sq (c1:=fs eG) (c2:=sn eG) (by kernel_rfl) rfl (part ha) (sq (c1:=fs (sn eG)) (c2:=sn (sn eG)) (by kernel_rfl) rfl (part hb)
         (sq (c1:=fs (sn (sn eG))) (c2:=sn (sn (sn eG))) (by kernel_rfl) rfl (part hc) (sq (c1:=fs (sn (sn (sn eG)))) (c2:=sn (sn (sn (sn eG)))) (by kernel_rfl) rfl (part hd)
         (sq (c1:=fs (sn (sn (sn (sn eG))))) (c2:=sn (sn (sn (sn (sn eG))))) (by kernel_rfl) rfl (part he) (sq (c1:=fs (sn (sn (sn (sn (sn eG)))))) (c2:=sn (sn (sn (sn (sn (sn eG)))))) (by kernel_rfl) rfl (part hf)
         (sq (c1:=aeR) (c2:=sn (sn (sn (sn (sn (sn (sn eG))))))) (by kernel_rfl) rfl aBB (part hg)))))))
       ·cases h
      ·cases h
     ·cases h
    ·cases h
   ·cases h
  ·cases h
 ·cases h
noncomputable def ay5(br:List Nat):Option aK:=match asn br with
 | some b=>match rU Go.Proofs.Tryz.prog Go.Proofs.Tryz.f33.results.toList with
  | some r=>some ⟨76,b,r,none,false⟩
  | none=>none
 | none=>none
noncomputable def RO(br:List Nat)(k:Nat→Option aK)(f:Nat):Option aK:=match Nat.beq f 33 with
 | true=>ay5 br
 | false=>k f
theorem ZC{br br':List Nat}{k:Nat→Option aK}(hk: ∀f fc,k f=some fc→yo Go.Proofs.Tryz.prog br' f fc)(f:Nat)(fc:aK)(h:RO br k f=some fc):yo Go.Proofs.Tryz.prog br' f fc:=by
 unfold RO at h
 split at h
 ·rename_i hf
  have:=Nat.eq_of_beq_eq_true hf
  subst this
  unfold ay5 at h
  split at h
  ·rename_i b hb
   split at h
   ·rename_i r hr
    cases h
    exact axw rfl hr (aso hb)
   ·cases h
  ·cases h
 ·exact hk f fc h
end Go.Proofs.YtimbfadnabfabaaGreatDoor.Mp
