/- Calls whose arguments are known, and copies of a slice that may be nil: the kernel runs the small machine. No program is named here. -/
import Derived.Test.YtimbfadnabfabaaGreatDoorKrz
namespace Go.Proofs.YtimbfadnabfabaaGreatDoor.Pm
open Go.RowKit
set_option linter.unusedVariables false
def ade(f:Nat)(o:List PV→List bH→Option (PV×List bH)):ek:=fun g args bs=>match Nat.beq g f with
 | true=>o args bs
 | false=>none
def zed(f:Nat)(o:List PV→List bH→Option (PV×List bH))(ar:List PV)(bs:List bH):Option (PV×List bH):=
 match Sq [f] (ade f o) f (.jo false 0 []::ar) bs with
 | some (.d (.sl 0 []),[])=>(match Sq [f] (ade f o) f (.jo true 0 []::ar) bs with
  | some (.d (.sl 0 []),[])=>some (.d (.sl 0 []),[])
  | _=>none)
 | _=>none
noncomputable def EC(F:List Nat)(av:Nat→Option aK)(base:ek)(n:Nat):Nat→ek
 | 0,f,args,bs=>base f args bs
 | d+1,f,args,bs=>match av f with
  | some fc=>if fc.z=true then (match args with
   | .d (.sl 0 [])::ar=>zed f (sV (Sq F (EC F av base n d)) n fc) ar bs
   | .d (.sl (m+1) cs)::ar=>sV (Sq F (EC F av base n d)) n fc (.jo false (m+1) cs::ar) bs
   | _=>none) else sV (Sq F (EC F av base n d)) n fc args bs
  | none=>base f args bs
theorem Ag{P:Program}{W:World}{Φ:Nat→cg}{br:List Nat}{F:List Nat}{av:Nat→Option aK}{base:ek}{k:Nat}(hb:nS P base W Φ)(hc: ∀f fc,av f=some fc→wQ P br f fc): ∀n,nS P (EC F av base k n) W Φ
 | 0=>hb
 | n+1=>by
  intro f args bs r bJ h
  simp only [EC] at h
  split at h
  ·rename_i fc VX
   split at h
   ·split at h
    ·rename_i ar
     have h1:nS P (ade f (sV (Sq F (EC F av base k n)) k fc)) W Φ:=by
      intro g args' VW r1 bs2 hh
      unfold ade at hh
      split at hh
      ·rename_i hg
       have hg':=Nat.eq_of_beq_eq_true hg
       exact qB (xw (Ag hb hc n)) (hc g fc (hg'▸VX)) hh
      ·cases hh
     unfold zed at h
     split at h
     ·rename_i e1
      split at h
      ·rename_i e2
       cases h
       have s1:=(xw (F:= [f]) h1) _ _ _ _ _ e1
       have s2:=(xw (F:= [f]) h1) _ _ _ _ _ e2
       refine ⟨s1.1,fun E w aP vs hL hE hp hr=>?_⟩
       obtain ⟨v,rest,rfl,hv,BF⟩:=hr
       have hv:dR E w (.sl 0 []) v:=hv
       obtain ⟨a,c,e1,h1,h2,h3,h4⟩:=hv
       cases a with
       | some ad=>exact s1.2 E w aP _ hL hE hp ⟨v,rest,rfl,⟨⟨some ad,c,e1,h1,h2,h3,h4⟩,some ad,c,e1,rfl⟩,BF⟩
       | none=>exact s2.2 E w aP _ hL hE hp ⟨v,rest,rfl,⟨⟨none,c,e1,h1,h2,h3,.inl rfl⟩,none,c,e1,rfl⟩,BF⟩
      ·cases h
     ·cases h
    ·rename_i m cs ar
     have s1:=qB (xw (Ag hb hc n)) (hc f fc VX) h
     refine ⟨s1.1,fun E w aP vs hL hE hp hr=>?_⟩
     obtain ⟨v,rest,rfl,hv,BF⟩:=hr
     have hv:dR E w (.sl (m+1) cs) v:=hv
     obtain ⟨a,c,e1,h1,h2,h3,h4⟩:=hv
     cases a with
     | some ad=>exact s1.2 E w aP _ hL hE hp ⟨v,rest,rfl,⟨⟨some ad,c,e1,h1,h2,h3,h4⟩,some ad,c,e1,rfl⟩,BF⟩
     | none=>exact absurd (h3 rfl) (by omega)
    ·cases h
   ·exact qB (xw (Ag hb hc n)) (hc f fc VX) h
  ·exact hb f args bs r bJ h
theorem Vc{P:Program}{W:World}{Φ:Nat→cg}{br F:List Nat}{av:Nat→Option aK}{base:ek}{k n f:Nat}(hc: ∀f fc,av f=some fc→wQ P br f fc)(hb: ∀w aP,gV W Φ w aP→nS P base w (fun _=> .nil none))(h:EC F av base k n f [] []=some (.d (.bool true),[])):n_ P W Φ (f,He oc):=by
 have s: ∀w aP,gV W Φ w aP→nS P (EC F av base k n) w (fun _=> .nil none):=fun w aP hL=>Ag (hb w aP hL) hc n
 refine ⟨((s W Φ .refl) f [] [] _ [] h).1,fun args r hr E w aP R vs hL hE ha=>?_⟩
 cases args with
 | cons a tl=>cases hr
 | nil=>
  have kn:r= .d (.bool true):=by
   simp only [He,oc,Option.map_some,Option.some.injEq] at hr;exact hr.symm
  subst kn
  have RB:vs= []:=ha
  subst RB
  have tU:Passed (fun _=>False) w (fun _=> .nil none) []:=⟨by simp,(fun i b c h=>by cases h),(fun i j b c c' h=>by cases h),(fun i b h=>by simp at h)⟩
  refine (((s w aP hL) f [] [] _ [] h).2 _ w (fun _=> .nil none) [] .refl (fun _ h=>h.elim) tU rfl).mono ?_
  rintro e w' ⟨v,dA,β,rfl,hb,ho⟩
  have hv:v= .bool true:=ho.rep
  subst hv
  exact ⟨_,rfl,rfl,⟨hb.os,hb.tape,hb.out,hb.size,fun k hk=>hb.blk k hk (fun i c h=>by cases h)⟩⟩
end Go.Proofs.YtimbfadnabfabaaGreatDoor.Pm

namespace Go.Proofs.YtimbfadnabfabaaGreatDoor.Pm
open Go.RowKit
set_option linter.unusedVariables false
noncomputable def HL(ov:List (Nat×aK))(k:Nat→Option aK)(f:Nat):Option aK:=match ov with
 | []=>k f
 | x::t=>match Nat.beq f x.1 with
  | true=>some x.2
  | false=>HL t k f
theorem Lc{P:Program}{br:List Nat}{k:Nat→Option aK}(hk: ∀f fc,k f=some fc→wQ P br f fc): ∀{ov:List (Nat×aK)},(∀x∈ov,wQ P br x.1 x.2)→ ∀(f:Nat) (fc:aK),HL ov k f=some fc→wQ P br f fc
 | [],_,f,fc,h=>hk f fc h
 | x::t,ho,f,fc,h=>by
  unfold HL at h
  split at h
  ·rename_i hf
   have:=Nat.eq_of_beq_eq_true hf
   subst this
   cases h
   exact ho x (List.mem_cons_self ..)
  ·exact Lc hk (fun y hy=>ho y (List.mem_cons_of_mem _ hy)) f fc h
end Go.Proofs.YtimbfadnabfabaaGreatDoor.Pm

