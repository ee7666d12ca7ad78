/- Calls whose arguments are known, and copies of a slice that may be nil: the kernel runs the small machine. No program is named here. -/
import Derived.Test.YtimbfadnabfabaaGreatDoorKrz
namespace Go.Proofs.YtimbfadnabfabaaGreatDoor.Pm
open Go.RowKit
set_option linter.unusedVariables false
def aeU(f:Nat)(o:List PV→List bM→Option (PV×List bM)):dZ:=fun g args bs=>match Nat.beq g f with
 | true=>o args bs
 | false=>none
def zed(f:Nat)(o:List PV→List bM→Option (PV×List bM))(ar:List PV)(bs:List bM):Option (PV×List bM):=
 match S4 [f] (aeU f o) f (.jv false 0 []::ar) bs with
 | some (.d (.sl 0 []),[])=>(match S4 [f] (aeU f o) f (.jv true 0 []::ar) bs with
  | some (.d (.sl 0 []),[])=>some (.d (.sl 0 []),[])
  | _=>none)
 | _=>none
noncomputable def Fl(F:List Nat)(ay:Nat→Option aK)(base:dZ)(n:Nat):Nat→dZ
 | 0,f,args,bs=>base f args bs
 | d+1,f,args,bs=>match ay f with
  | some fc=>if fc.z=true then (match args with
   | .d (.sl 0 [])::ar=>zed f (tK (S4 F (Fl F ay base n d)) n fc) ar bs
   | .d (.sl (m+1) cs)::ar=>tK (S4 F (Fl F ay base n d)) n fc (.jv false (m+1) cs::ar) bs
   | _=>none) else tK (S4 F (Fl F ay base n d)) n fc args bs
  | none=>base f args bs
theorem Bj{P:Program}{W:World}{Φ:Nat→cr}{br:List Nat}{F:List Nat}{ay:Nat→Option aK}{base:dZ}{k:Nat}(hb:oo P base W Φ)(hc: ∀f fc,ay f=some fc→yo P br f fc): ∀n,oo P (Fl F ay base k n) W Φ
 | 0=>hb
 | n+1=>by
  intro f args bs r bL h
  simp only [Fl] at h
  split at h
  ·rename_i fc Wv
   split at h
   ·split at h
    ·rename_i ar
     have h1:oo P (aeU f (tK (S4 F (Fl F ay base k n)) k fc)) W Φ:=by
      intro g args' Wu r1 bs2 hh
      unfold aeU at hh
      split at hh
      ·rename_i hg
       have hg':=Nat.eq_of_beq_eq_true hg
       exact rB (yU (Bj hb hc n)) (hc g fc (hg'▸Wv)) hh
      ·cases hh
     unfold zed at h
     split at h
     ·rename_i e1
      split at h
      ·rename_i e2
       cases h
       have s1:=(yU (F:= [f]) h1) _ _ _ _ _ e1
       have s2:=(yU (F:= [f]) h1) _ _ _ _ _ e2
       refine ⟨s1.1,fun E w aQ vs hL hE hp hr=>?_⟩
       obtain ⟨v,rest,rfl,hv,CF⟩:=hr
       have hv:dS E w (.sl 0 []) v:=hv
       obtain ⟨a,c,e1,h1,h2,h3,h4⟩:=hv
       cases a with
       | some ad=>exact s1.2 E w aQ _ hL hE hp ⟨v,rest,rfl,⟨⟨some ad,c,e1,h1,h2,h3,h4⟩,some ad,c,e1,rfl⟩,CF⟩
       | none=>exact s2.2 E w aQ _ hL hE hp ⟨v,rest,rfl,⟨⟨none,c,e1,h1,h2,h3,.inl rfl⟩,none,c,e1,rfl⟩,CF⟩
      ·cases h
     ·cases h
    ·rename_i m cs ar
     have s1:=rB (yU (Bj hb hc n)) (hc f fc Wv) h
     refine ⟨s1.1,fun E w aQ vs hL hE hp hr=>?_⟩
     obtain ⟨v,rest,rfl,hv,CF⟩:=hr
     have hv:dS E w (.sl (m+1) cs) v:=hv
     obtain ⟨a,c,e1,h1,h2,h3,h4⟩:=hv
     cases a with
     | some ad=>exact s1.2 E w aQ _ hL hE hp ⟨v,rest,rfl,⟨⟨some ad,c,e1,h1,h2,h3,h4⟩,some ad,c,e1,rfl⟩,CF⟩
     | none=>exact absurd (h3 rfl) (by omega)
    ·cases h
   ·exact rB (yU (Bj hb hc n)) (hc f fc Wv) h
  ·exact hb f args bs r bL h
theorem VJ{P:Program}{W:World}{Φ:Nat→cr}{br F:List Nat}{ay:Nat→Option aK}{base:dZ}{k n f:Nat}(hc: ∀f fc,ay f=some fc→yo P br f fc)(hb: ∀w aQ,gY W Φ w aQ→oo P base w (fun _=> .nil none))(h:Fl F ay base k n f [] []=some (.d (.bool true),[])):oD P W Φ (f,Ik oG):=by
 have s: ∀w aQ,gY W Φ w aQ→oo P (Fl F ay base k n) w (fun _=> .nil none):=fun w aQ hL=>Bj (hb w aQ hL) hc n
 refine ⟨((s W Φ .refl) f [] [] _ [] h).1,fun args r hr E w aQ R vs hL hE ha=>?_⟩
 cases args with
 | cons a tl=>cases hr
 | nil=>
  have kB:r= .d (.bool true):=by
   simp only [Ik,oG,Option.map_some,Option.some.injEq] at hr;exact hr.symm
  subst kB
  have Sg:vs= []:=ha
  subst Sg
  have uM:Passed (fun _=>False) w (fun _=> .nil none) []:=⟨by simp,(fun i b c h=>by cases h),(fun i j b c c' h=>by cases h),(fun i b h=>by simp at h)⟩
  refine (((s w aQ hL) f [] [] _ [] h).2 _ w (fun _=> .nil none) [] .refl (fun _ h=>h.elim) uM rfl).mono ?_
  rintro e w' ⟨v,dz,β,rfl,hb,ho⟩
  have hv:v= .bool true:=ho.rep
  subst hv
  exact ⟨_,rfl,rfl,⟨hb.os,hb.tape,hb.out,hb.size,fun k hk=>hb.blk k hk (fun i c h=>by cases h)⟩⟩
end Go.Proofs.YtimbfadnabfabaaGreatDoor.Pm

namespace Go.Proofs.YtimbfadnabfabaaGreatDoor.Pm
open Go.RowKit
set_option linter.unusedVariables false
noncomputable def I0(ov:List (Nat×aK))(k:Nat→Option aK)(f:Nat):Option aK:=match ov with
 | []=>k f
 | x::t=>match Nat.beq f x.1 with
  | true=>some x.2
  | false=>I0 t k f
theorem L4{P:Program}{br:List Nat}{k:Nat→Option aK}(hk: ∀f fc,k f=some fc→yo P br f fc): ∀{ov:List (Nat×aK)},(∀x∈ov,yo P br x.1 x.2)→ ∀(f:Nat) (fc:aK),I0 ov k f=some fc→yo P br f fc
 | [],_,f,fc,h=>hk f fc h
 | x::t,ho,f,fc,h=>by
  unfold I0 at h
  split at h
  ·rename_i hf
   have:=Nat.eq_of_beq_eq_true hf
   subst this
   cases h
   exact ho x (List.mem_cons_self ..)
  ·exact L4 hk (fun y hy=>ho y (List.mem_cons_of_mem _ hy)) f fc h
end Go.Proofs.YtimbfadnabfabaaGreatDoor.Pm

