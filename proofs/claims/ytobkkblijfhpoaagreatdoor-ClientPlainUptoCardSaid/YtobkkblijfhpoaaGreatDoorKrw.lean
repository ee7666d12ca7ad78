/- Calls whose arguments are known, and copies of a slice that may be nil: the kernel runs the small machine. No program is named here. -/
import Derived.Test.YtobkkblijfhpoaaGreatDoorKrz
namespace Go.Proofs.YtobkkblijfhpoaaGreatDoor.Pm
open Go.RowKit
set_option linter.unusedVariables false
def aen(f:Nat)(o:List PV→List cj→Option (PV×List cj)):cX:=fun g args bs=>match Nat.beq g f with
 | true=>o args bs
 | false=>none
def zed(f:Nat)(o:List PV→List cj→Option (PV×List cj))(ar:List PV)(bs:List cj):Option (PV×List cj):=
 match TH [f] (aen f o) f (.iG false 0 []::ar) bs with
 | some (.d (.sl 0 []),[])=>(match TH [f] (aen f o) f (.iG true 0 []::ar) bs with
  | some (.d (.sl 0 []),[])=>some (.d (.sl 0 []),[])
  | _=>none)
 | _=>none
noncomputable def Gd(F:List Nat)(az:Nat→Option aO)(base:cX)(n:Nat):Nat→cX
 | 0,f,args,bs=>base f args bs
 | d+1,f,args,bs=>match az f with
  | some fc=>if fc.z=true then (match args with
   | .d (.sl 0 [])::ar=>zed f (sx (TH F (Gd F az base n d)) n fc) ar bs
   | .d (.sl (m+1) cs)::ar=>sx (TH F (Gd F az base n d)) n fc (.iG false (m+1) cs::ar) bs
   | _=>none) else sx (TH F (Gd F az base n d)) n fc args bs
  | none=>base f args bs
theorem Bb{P:Program}{W:World}{Φ:Nat→cJ}{br:List Nat}{F:List Nat}{az:Nat→Option aO}{base:cX}{k:Nat}(hb:nI P base W Φ)(hc: ∀f fc,az f=some fc→uw P br f fc): ∀n,nI P (Gd F az base k n) W Φ
 | 0=>hb
 | n+1=>by
  intro f args bs r b_ h
  simp only [Gd] at h
  split at h
  ·rename_i fc XD
   split at h
   ·split at h
    ·rename_i ar
     have h1:nI P (aen f (sx (TH F (Gd F az base k n)) k fc)) W Φ:=by
      intro g args' XC r1 bs2 hh
      unfold aen at hh
      split at hh
      ·rename_i hg
       have hg':=Nat.eq_of_beq_eq_true hg
       exact qh (yF (Bb hb hc n)) (hc g fc (hg'▸XD)) hh
      ·cases hh
     unfold zed at h
     split at h
     ·rename_i e1
      split at h
      ·rename_i e2
       cases h
       have s1:=(yF (F:= [f]) h1) _ _ _ _ _ e1
       have s2:=(yF (F:= [f]) h1) _ _ _ _ _ e2
       refine ⟨s1.1,fun E w aS vs hL hE hp hr=>?_⟩
       obtain ⟨v,rest,rfl,hv,CO⟩:=hr
       have hv:dQ E w (.sl 0 []) v:=hv
       obtain ⟨a,c,e1,h1,h2,h3,h4⟩:=hv
       cases a with
       | some ad=>exact s1.2 E w aS _ hL hE hp ⟨v,rest,rfl,⟨⟨some ad,c,e1,h1,h2,h3,h4⟩,some ad,c,e1,rfl⟩,CO⟩
       | none=>exact s2.2 E w aS _ hL hE hp ⟨v,rest,rfl,⟨⟨none,c,e1,h1,h2,h3,.inl rfl⟩,none,c,e1,rfl⟩,CO⟩
      ·cases h
     ·cases h
    ·rename_i m cs ar
     have s1:=qh (yF (Bb hb hc n)) (hc f fc XD) h
     refine ⟨s1.1,fun E w aS vs hL hE hp hr=>?_⟩
     obtain ⟨v,rest,rfl,hv,CO⟩:=hr
     have hv:dQ E w (.sl (m+1) cs) v:=hv
     obtain ⟨a,c,e1,h1,h2,h3,h4⟩:=hv
     cases a with
     | some ad=>exact s1.2 E w aS _ hL hE hp ⟨v,rest,rfl,⟨⟨some ad,c,e1,h1,h2,h3,h4⟩,some ad,c,e1,rfl⟩,CO⟩
     | none=>exact absurd (h3 rfl) (by omega)
    ·cases h
   ·exact qh (yF (Bb hb hc n)) (hc f fc XD) h
  ·exact hb f args bs r b_ h
theorem Wy{P:Program}{W:World}{Φ:Nat→cJ}{br F:List Nat}{az:Nat→Option aO}{base:cX}{k n f:Nat}(hc: ∀f fc,az f=some fc→uw P br f fc)(hb: ∀w aS,jg W Φ w aS→nI P base w (fun _=> .nil none))(h:Gd F az base k n f [] []=some (.d (.bool true),[])):tL P W Φ (f,Ja jO):=by
 have s: ∀w aS,jg W Φ w aS→nI P (Gd F az base k n) w (fun _=> .nil none):=fun w aS hL=>Bb (hb w aS hL) hc n
 refine ⟨((s W Φ .refl) f [] [] _ [] h).1,fun args r hr E w aS R vs hL hE ha=>?_⟩
 cases args with
 | cons a tl=>cases hr
 | nil=>
  have jZ:r= .d (.bool true):=by
   simp only [Ja,jO,Option.map_some,Option.some.injEq] at hr;exact hr.symm
  subst jZ
  have Qi:vs= []:=ha
  subst Qi
  have uk:Passed (fun _=>False) w (fun _=> .nil none) []:=⟨by simp,(fun i b c h=>by cases h),(fun i j b c c' h=>by cases h),(fun i b h=>by simp at h)⟩
  refine (((s w aS hL) f [] [] _ [] h).2 _ w (fun _=> .nil none) [] .refl (fun _ h=>h.elim) uk rfl).mono ?_
  rintro e w' ⟨v,dz,β,rfl,hb,ho⟩
  have hv:v= .bool true:=ho.rep
  subst hv
  exact ⟨_,rfl,rfl,⟨hb.os,hb.tape,hb.out,hb.size,fun k hk=>hb.blk k hk (fun i c h=>by cases h)⟩⟩
end Go.Proofs.YtobkkblijfhpoaaGreatDoor.Pm

namespace Go.Proofs.YtobkkblijfhpoaaGreatDoor.Pm
open Go.RowKit
set_option linter.unusedVariables false
noncomputable def JJ(ov:List (Nat×aO))(k:Nat→Option aO)(f:Nat):Option aO:=match ov with
 | []=>k f
 | x::t=>match Nat.beq f x.1 with
  | true=>some x.2
  | false=>JJ t k f
theorem MV{P:Program}{br:List Nat}{k:Nat→Option aO}(hk: ∀f fc,k f=some fc→uw P br f fc): ∀{ov:List (Nat×aO)},(∀x∈ov,uw P br x.1 x.2)→ ∀(f:Nat) (fc:aO),JJ ov k f=some fc→uw P br f fc
 | [],_,f,fc,h=>hk f fc h
 | x::t,ho,f,fc,h=>by
  unfold JJ at h
  split at h
  ·rename_i hf
   have:=Nat.eq_of_beq_eq_true hf
   subst this
   cases h
   exact ho x (List.mem_cons_self ..)
  ·exact MV hk (fun y hy=>ho y (List.mem_cons_of_mem _ hy)) f fc h
end Go.Proofs.YtobkkblijfhpoaaGreatDoor.Pm

