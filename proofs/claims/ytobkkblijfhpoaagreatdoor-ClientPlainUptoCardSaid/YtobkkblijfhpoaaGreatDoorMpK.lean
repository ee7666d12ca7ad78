/- client.New where the kernel runs the small machine. -/
import Derived.Test.YtobkkblijfhpoaaGreatDoorMpC
import Derived.Test.YtobkkblijfhpoaaGreatDoorKrz
namespace Go.Proofs.YtobkkblijfhpoaaGreatDoor.Mp
open Go Go.Proofs Go.RowKit Go.Proofs.YtobkkblijfhpoaaGreatDoor.Pm Go.Maps
set_option linter.unusedVariables false
noncomputable def Wx(br:List Nat):Option aj:=
 match eA Go.Proofs.Tryz.prog br 76 (fs cB) with
 | some a=>match eA Go.Proofs.Tryz.prog br 76 (fs (sn cB)) with
  | some b=>match eA Go.Proofs.Tryz.prog br 76 (fs (sn (sn cB))) with
   | some c=>match eA Go.Proofs.Tryz.prog br 76 (fs (sn (sn (sn cB)))) with
    | some d=>match eA Go.Proofs.Tryz.prog br 76 (fs (sn (sn (sn (sn cB))))) with
     | some e=>match eA Go.Proofs.Tryz.prog br 76 (fs (sn (sn (sn (sn (sn cB)))))) with
      | some f=>match eA Go.Proofs.Tryz.prog br 76 (sn (sn (sn (sn (sn (sn (sn cB))))))) with
       | some g=>some (.seq a (.seq b (.seq c (.seq d (.seq e (.seq f (.seq pL g)))))))
       | none=>none
      | none=>none
     | none=>none
    | none=>none
   | none=>none
  | none=>none
 | none=>none
theorem part{br:List Nat}{c:Code}{p:aj}(h:eA Go.Proofs.Tryz.prog br 76 c=some p):dO Go.Proofs.Tryz.prog 76 c p:=
 dO.code (by rw [iL _ _ h];exact h)
theorem arF{br:List Nat}{p:aj}(h:Wx br=some p):dO Go.Proofs.Tryz.prog 76 cB p:=by
 unfold Wx at h
 split at h
 ·rename_i a ha
  split at h
  ·rename_i b hb
   split at h
   ·rename_i c hc
    split at h
    ·rename_i d hd
     split at h
     ·rename_i e he
      split at h
      ·rename_i f hf
       split at h
       ·rename_i g hg
        cases h
        exact sq (c1:=fs cB) (c2:=sn cB) (by kernel_rfl) rfl (part ha) (sq (c1:=fs (sn cB)) (c2:=sn (sn cB)) (by kernel_rfl) rfl (part hb)
         (sq (c1:=fs (sn (sn cB))) (c2:=sn (sn (sn cB))) (by kernel_rfl) rfl (part hc) (sq (c1:=fs (sn (sn (sn cB)))) (c2:=sn (sn (sn (sn cB)))) (by kernel_rfl) rfl (part hd)
         (sq (c1:=fs (sn (sn (sn (sn cB))))) (c2:=sn (sn (sn (sn (sn cB))))) (by kernel_rfl) rfl (part he) (sq (c1:=fs (sn (sn (sn (sn (sn cB)))))) (c2:=sn (sn (sn (sn (sn (sn cB)))))) (by kernel_rfl) rfl (part hf)
         (sq (c1:=aa1) (c2:=sn (sn (sn (sn (sn (sn (sn cB))))))) (by kernel_rfl) rfl aku (part hg)))))))
       ·cases h
      ·cases h
     ·cases h
    ·cases h
   ·cases h
  ·cases h
 ·cases h
noncomputable def aw4(br:List Nat):Option aO:=match Wx br with
 | some b=>match qE Go.Proofs.Tryz.prog Go.Proofs.Tryz.f11.results.toList with
  | some r=>some ⟨76,b,r,none,false⟩
  | none=>none
 | none=>none
noncomputable def Sn(br:List Nat)(k:Nat→Option aO)(f:Nat):Option aO:=match Nat.beq f 11 with
 | true=>aw4 br
 | false=>k f
theorem aao{br br':List Nat}{k:Nat→Option aO}(hk: ∀f fc,k f=some fc→uw Go.Proofs.Tryz.prog br' f fc)(f:Nat)(fc:aO)(h:Sn br k f=some fc):uw Go.Proofs.Tryz.prog br' f fc:=by
 unfold Sn at h
 split at h
 ·rename_i hf
  have:=Nat.eq_of_beq_eq_true hf
  subst this
  unfold aw4 at h
  split at h
  ·rename_i b hb
   split at h
   ·rename_i r hr
    cases h
    exact I_ rfl hr (arF hb)
   ·cases h
  ·cases h
 ·exact hk f fc h
end Go.Proofs.YtobkkblijfhpoaaGreatDoor.Mp
