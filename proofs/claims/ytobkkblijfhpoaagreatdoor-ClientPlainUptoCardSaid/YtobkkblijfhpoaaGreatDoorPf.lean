/- The small machine: code and functions; what a run of it says of the program. No program is named here. -/
import Derived.Test.YtobkkblijfhpoaaGreatDoorPj
import Derived.Below
namespace Go.Proofs.YtobkkblijfhpoaaGreatDoor.Pm
open Go.RowKit

inductive aj where
 | skip
 | ai (pos:List PO)
 | eF (pos:List PO) (fP:List (Nat×Nat))
 | seq (a b:aj)
 | cond (c:Operand) (t e:aj)
 | block (id:Nat) (c:aj)
 | loop (c:aj)
 | exit (id:Nat)
 | ret
 | keep (L:List Nat) (B:List (Nat×Loc)) (A:List NA) (c:aj)
 deriving Inhabited
inductive PX where
 | normal
 | exit (id:Nat)
 | ret
def iter(f:St→Option (PX×St)):Nat→St→Option (PX×St)
 | 0,_=>none
 | n+1,st=>match f st with
  | some (.normal,bX)=>iter f n bX
  | r=>r
def blk(id:Nat):Option (PX×St)→Option (PX×St)
 | some (.exit i,st)=>if i=id then some (.normal,st) else some (.exit i,st)
 | r=>r
def prun(γ:cX)(n:Nat):aj→St→Option (PX×St)
 | .skip,st=>some (.normal,st)
 | .ai pos,st=>match oH γ pos st with | some bX=>some (.normal,bX) | none=>none
 | .eF pos fP,st=>match fS γ pos st with
  | some (outs,bX)=>if fP.all (fun x=>apart (Nc outs x.1) (Nc outs x.2))=true then some (.normal,bX) else none
  | none=>none
 | .seq a b,st=>match prun γ n a st with
  | some (.normal,bX)=>prun γ n b bX
  | r=>r
 | .cond c t e,st=>match (cK st.s c).bool? with
  | some b=>if b then prun γ n t st else prun γ n e st
  | none=>none
 | .block id c,st=>blk id (prun γ n c st)
 | .loop c,st=>iter (prun γ n c) n st
 | .exit id,st=>some (.exit id,st)
 | .ret,st=>some (.ret,st)
 | .keep L B A c,st=>prun γ n c (aA L B A st)
def erase:aj→aj
 | .seq a b=> .seq (erase a) (erase b)
 | .cond c t e=> .cond c (erase t) (erase e)
 | .block id c=> .block id (erase c)
 | .loop c=> .loop (erase c)
 | .keep _ _ _ c=>erase c
 | c=>c
def eA(P:Program)(br:List Nat)(N:Nat):Code→Option aj
 | .skip=>some .skip
 | .label _=>some .skip
 | .region _ ops draw=>match vS P br N ops ops.toList with
  | some pos=>if draw then
    (let A:=awd ops.toList []
     if Nd A ops.toList 0=true∧I1 A pos=true∧P.follows .mixedOrders=true then some (.eF pos (DO A pos)) else none)
   else some (.ai pos)
  | none=>none
 | .seq a b=>match eA P br N a,eA P br N b with
  | some x,some y=>some (.seq x y)
  | _,_=>none
 | .cond c t e=>match eA P br N t,eA P br N e with
  | some x,some y=>some (.cond c x y)
  | _,_=>none
 | .block id c=>match eA P br N c with
  | some x=>some (.block id x)
  | none=>none
 | .loop c=>match eA P br N c with
  | some x=>some (.loop x)
  | none=>none
 | .exit id=>some (.exit id)
 | .ret=>some .ret
 | _=>none
inductive PR where
 | tmp (t:Nat)
 | cell (a:Nat) (agg:Bool) (n:Nat)
structure aO where
 N:Nat
 body:aj
 res:List PR
 fin:Option (List Nat×List (Nat×Loc)×List NA):=none
 z:Bool:=false
def aU(fc:aO):aO:=⟨fc.N,erase fc.body,fc.res,none,false⟩
def dZ(f:Option (List Nat×List (Nat×Loc)×List NA))(st:St):St:=match f with | some (L,B,A)=>if L.any (Nat.beq 3000000)=true then st else aA L B A st | none=>st
def qE(P:Program):List ResultVar→Option (List PR)
 | []=>some []
 | .tmp t::r=>(qE P r).map (.tmp t:: ·)
 | .cell a t::r=>match P.underlying t,gS P t with
  | some _,some n=>if gb P t=false→n=1 then (qE P r).map (.cell a (gb P t) n:: ·) else none
  | _,_=>none
def brF(br:List Nat)(f:Nat):List Nat:=(if br.any (Nat.beq (f+300000)) then [300000] else [])++(if br.any (Nat.beq (f+200000)) then 200000::br else br)
def bz(P:Program)(br:List Nat)(f:Nat):Option aO:=
 match P.funcs[f]? with
 | some fn=>match fn.body with
  | some c=>if fn.name== "runtime.NumGoroutine" then none else (match eA P (brF br f) fn.ntmps c,qE P fn.results.toList with
   | some b,some r=>some ⟨fn.ntmps,b,r,none,false⟩
   | _,_=>none)
  | none=>none
 | none=>none
mutual
def kg(H:Nat→cL)(m:Nat):PV→List Nat→Option (PV×List Nat)
 | .d x,ids=>some (.d x,ids)
 | .nil,ids=>some (.nil,ids)
 | .un,ids=>some (.un,ids)
 | .agg cs,ids=>match lM H m cs ids with | some (l,i)=>some (.agg l,i) | none=>none
 | .bZ cs,ids=>match lM H m cs ids with | some (l,i)=>some (.bZ l,i) | none=>none
 | .r (.ptr i g o),ids=>match look H i g with
  | some _=>if i<m then some (.r (.ptr i 0 o),ids) else none
  | none=>some (.un,ids)
 | .r (.aI i g l n),ids=>match look H i g with
  | some (.own e k cs)=>if i<m then some (.r (.aI i 0 l n),ids) else if l=0∧cs.length=n*k∧ids.any (Nat.beq i)=false then some (.r (.own ids.length e k n cs),ids++ [i]) else none
  | _=>some (.un,ids)
 | _,_=>none
def lM(H:Nat→cL)(m:Nat):List PV→List Nat→Option (List PV×List Nat)
 | [],ids=>some ([],ids)
 | p::ps,ids=>match kg H m p ids with
  | some (x,i)=>match lM H m ps i with
   | some (l,j)=>some (x::l,j)
   | none=>none
  | none=>none
end
def OJ(H:Nat→cL)(m:Nat):cj→List Nat→Option (cj×List Nat)
 | .box cs,ids=>match lM H m cs ids with
  | some (l,i)=>some (.box l,i)
  | none=>none
 | b,ids=>some (b,ids)
def vU(H:Nat→cL)(m:Nat):List Nat→List Nat→Option (List cj×List Nat)
 | [],ids=>some ([],ids)
 | i::is,ids=>match (H i).b with
  | some b=>match OJ H m b ids with
   | some (x,j)=>match vU H m is j with
    | some (l,k)=>some (x::l,k)
    | none=>none
   | none=>none
  | none=>none
def HR(st:St):List PR→Option (List PV)
 | []=>some []
 | .tmp t::r=>match HR st r with | some l=>some (st.s t::l) | none=>none
 | .cell a agg n::r=>match aD (fun _ _ _=>none) st.h 0 (cK st.s) (.load agg n (.tmp a)),HR st r with
  | some (p,_),some l=>some (p::l)
  | _,_=>none
def aaM(l:List PV):PV:=match l with
 | [p]=>p
 | l=> .bZ l
def bA(st:St)(m:Nat)(rs:List PR):Option (PV×List cj):=
 match vU st.h m (List.range m) [] with
 | some (bs,ids)=>match HR st rs with
  | some l=>match kg st.h m (aaM l) ids with | some (x,_)=>some (x,bs) | none=>none
  | none=>none
 | none=>none
def rX(args:List PV)(bs:List cj):St:=⟨fun t=>args.getD t .un,H0 bs⟩
def Kq(f:Option (List Nat×List (Nat×Loc)×List NA)):Bool:=match f with | some (L,_,_)=>L.any (Nat.beq 2000000) | none=>false
def GL(h:Nat→cL)(m:Nat):Bool:=(List.range m).all fun i=>Nat.beq (h i).g 0
def DT(fx:Bool)(st:St)(m:Nat)(rs:List PR):Option (PV×List cj):=
 match fx with
 | true=>(match bA st m rs with | some (r,bs)=>if GL st.h m=true then some (r,bs++ [.box []]) else none | none=>none)
 | false=>bA st m rs
def sx(γ:cX)(n:Nat)(fc:aO)(args:List PV)(bs:List cj):Option (PV×List cj):=
 if args.length≤fc.N then
  match prun γ n fc.body (rX args bs) with
  | some (.normal,st)=>DT (Kq fc.fin) (dZ fc.fin st) bs.length fc.res
  | some (.ret,st)=>DT (Kq fc.fin) (dZ fc.fin st) bs.length fc.res
  | _=>none
 else none
open Classical in
noncomputable def yq(γ:cX)(fc:aO)(args:List PV)(bs:List cj):Option (PV×List cj):=if h: ∃n r,sx γ n fc args bs=some r then some h.choose_spec.choose else none
open Classical in
noncomputable def Qu(γ:cX)(fc:aO)(args:List PV)(bs:List cj):Option (PV×List cj):=
 if fc.z=true then
  match args with
  | .d (.sl m cs)::ar=>match yq γ fc (.iG false m cs::ar) bs with
   | some r=>if m≠0∨yq γ fc (.iG true 0 []::ar) bs=some r then some r else none
   | none=>none
  | _=>none
 else yq γ fc args bs
noncomputable def cg(az:Nat→Option aO)(base:cX):Nat→cX
 | 0,f,args,bs=>base f args bs
 | n+1,f,args,bs=>match az f with
  | some fc=>Qu (cg az base n) fc args bs
  | none=>base f args bs
theorem CL{f g:St→Option (PX×St)}(h: ∀st r,f st=some r→g st=some r): ∀(n m:Nat) (st:St) (r:PX×St),n≤m→iter f n st=some r→iter g m st=some r
 | 0,_,_,_,_,h=>by cases h
 | n+1,0,_,_,hl,_=>by omega
 | n+1,m+1,st,r,hl,hi=>by
  simp only [iter] at hi ⊢
  split at hi
  ·rename_i bX hs
   rw [h _ _ hs]
   exact CL h n m bX r (by omega) hi
  ·rename_i hne
   rw [h _ _ hi]
   obtain ⟨e,s⟩:=r
   cases e with
   | normal=>exact absurd hi (hne s)
   | _=>rfl
theorem fh{γ:cX}{n m:Nat}(hl:n≤m): ∀(c:aj) (st:St) (r:PX×St),prun γ n c st=some r→prun γ m c st=some r
 | .skip,_,_,h=>h
 | .ai _,_,_,h=>h
 | .eF ..,_,_,h=>h
 | .exit _,_,_,h=>h
 | .ret,_,_,h=>h
 | .keep L B A c,st,r,h=>fh hl c _ r h
 | .seq a b,st,r,h=>by
  simp only [prun] at h ⊢
  split at h
  ·rename_i bX hs
   rw [fh hl a _ _ hs]
   exact fh hl b _ _ h
  ·rename_i hne
   rw [fh hl a _ _ h]
   obtain ⟨e,s⟩:=r
   cases e with
   | normal=>exact absurd h (hne s)
   | _=>rfl
 | .cond c t e,st,r,h=>by
  simp only [prun] at h ⊢
  split at h
  ·rename_i b hb
   split at h
   ·rename_i hb2;subst hb2
    simp only [hb,if_true]
    exact fh hl t _ _ h
   ·rename_i hb2
    have:b=false:=by simpa using hb2
    subst this
    simp only [hb,Bool.false_eq_true,if_false]
    exact fh hl e _ _ h
  ·cases h
 | .block id c,st,r,h=>by
  simp only [prun] at h ⊢
  cases hq:prun γ n c st with
  | none=>rw [hq] at h;cases h
  | some q=>rw [hq] at h;rw [fh hl c _ _ hq];exact h
 | .loop c,st,r,h=>by
  simp only [prun] at h ⊢
  exact CL (fun st r=>fh hl c st r) n m st r hl h
theorem Kr{γ:cX}{n m:Nat}(hl:n≤m){fc:aO}{args:List PV}{bs:List cj}{r:PV×List cj}(h:sx γ n fc args bs=some r):sx γ m fc args bs=some r:=by
 unfold sx at h ⊢
 split at h
 ·rename_i hlen
  rw [if_pos hlen]
  split at h
  ·rename_i st hs;rw [fh hl _ _ _ hs];exact h
  ·rename_i st hs;rw [fh hl _ _ _ hs];exact h
  ·cases h
 ·cases h
theorem yu{γ:cX}{fc:aO}{args:List PV}{bs:List cj}{r:PV×List cj}(h:yq γ fc args bs=some r): ∃n,sx γ n fc args bs=some r:=by
 unfold yq at h
 split at h
 ·rename_i hx
  refine ⟨hx.choose,?_⟩
  rw [hx.choose_spec.choose_spec];exact h
 ·cases h
theorem afa{γ:cX}{n:Nat}{fc:aO}{args:List PV}{bs:List cj}{r:PV×List cj}(h:sx γ n fc args bs=some r):yq γ fc args bs=some r:=by
 have hx: ∃n r,sx γ n fc args bs=some r:=⟨n,r,h⟩
 unfold yq
 rw [dif_pos hx]
 have h2:=hx.choose_spec.choose_spec
 have a:=Kr (Nat.le_max_left n hx.choose) h
 have b:=Kr (Nat.le_max_right n hx.choose) h2
 rw [a] at b
 exact b.symm

section
variable {P : Program} {br : List Nat} {E : Nat → Prop} {m : List cj} {aS : Nat → cJ} {w0 : World} {N : Nat} {γ : cX}
def aj5:PX→Exit
 | .normal=> .normal
 | .exit id=> .exit id
 | .ret=> .ret
theorem Tl{st:St}{a:Act}{w:World}(f:Option (List Nat×List (Nat×Loc)×List NA))(hr:Rel E m aS w0 N st a w):Rel E m aS w0 N (dZ f st) a w:=by
 unfold dZ
 split
 ·split
  ·exact hr
  ·exact GK _ _ _ hr
 ·exact hr
theorem BB{n:Nat}{r:PX×St}{a:Act}{w:World}: ∀(pc:aj) (st:St),prun γ n pc st=some r→Rel E m aS w0 N st a w→
  ∃pW bX,(∀L B A c,pW≠ .keep L B A c)∧erase pW=erase pc∧prun γ n pW bX=some r∧Rel E m aS w0 N bX a w
 | .keep L B A c,st,h,hr=>BB c (aA L B A st) h (GK L B A hr)
 | .skip,st,h,hr=>⟨_,st,(fun _ _ _ _ h=>by cases h),rfl,h,hr⟩
 | .ai _,st,h,hr=>⟨_,st,(fun _ _ _ _ h=>by cases h),rfl,h,hr⟩
 | .eF ..,st,h,hr=>⟨_,st,(fun _ _ _ _ h=>by cases h),rfl,h,hr⟩
 | .seq ..,st,h,hr=>⟨_,st,(fun _ _ _ _ h=>by cases h),rfl,h,hr⟩
 | .cond ..,st,h,hr=>⟨_,st,(fun _ _ _ _ h=>by cases h),rfl,h,hr⟩
 | .block ..,st,h,hr=>⟨_,st,(fun _ _ _ _ h=>by cases h),rfl,h,hr⟩
 | .loop ..,st,h,hr=>⟨_,st,(fun _ _ _ _ h=>by cases h),rfl,h,hr⟩
 | .exit _,st,h,hr=>⟨_,st,(fun _ _ _ _ h=>by cases h),rfl,h,hr⟩
 | .ret,st,h,hr=>⟨_,st,(fun _ _ _ _ h=>by cases h),rfl,h,hr⟩
theorem Tm(kV:nI P γ w0 aS)(n:Nat): ∀{c:Code} {pc:aj} {st bX:St} {e:PX} {a:Act} {w:World} {Q:Exit→Act→World→Prop},eA P br N c=some (erase pc)→prun γ n pc st=some (e,bX)→Rel E m aS w0 N st a w→(∀a' w',Rel E m aS w0 N bX a' w'→Q (aj5 e) a' w')→c.wp P Q a w:=by
 intro c
 induction c with
 | skip=>
  intro pc st bX e a w Q hc he hr hQ
  obtain ⟨pW,s0,hne,yw,he,hr⟩:=BB pc st he hr
  rw [←yw] at hc
  cases pW<;>simp only [eA,erase,Option.some.injEq,reduceCtorEq] at hc
  ·simp only [prun,Option.some.injEq,Prod.mk.injEq] at he
   obtain ⟨rfl,rfl⟩:=he
   exact wp_skip (hQ _ _ hr)
  ·exact absurd rfl (hne _ _ _ _)
 | label l=>
  intro pc st bX e a w Q hc he hr hQ
  obtain ⟨pW,s0,hne,yw,he,hr⟩:=BB pc st he hr
  rw [←yw] at hc
  cases pW<;>simp only [eA,erase,Option.some.injEq,reduceCtorEq] at hc
  ·simp only [prun,Option.some.injEq,Prod.mk.injEq] at he
   obtain ⟨rfl,rfl⟩:=he
   exact wp_label (hQ _ _ hr)
  ·exact absurd rfl (hne _ _ _ _)
 | exit id=>
  intro pc st bX e a w Q hc he hr hQ
  obtain ⟨pW,s0,hne,yw,he,hr⟩:=BB pc st he hr
  rw [←yw] at hc
  cases pW<;>simp only [eA,erase,Option.some.injEq,reduceCtorEq] at hc
  ·cases hc
   simp only [prun,Option.some.injEq,Prod.mk.injEq] at he
   obtain ⟨rfl,rfl⟩:=he
   exact wp_exit (hQ _ _ hr)
  ·exact absurd rfl (hne _ _ _ _)
 | ret=>
  intro pc st bX e a w Q hc he hr hQ
  obtain ⟨pW,s0,hne,yw,he,hr⟩:=BB pc st he hr
  rw [←yw] at hc
  cases pW<;>simp only [eA,erase,Option.some.injEq,reduceCtorEq] at hc
  ·simp only [prun,Option.some.injEq,Prod.mk.injEq] at he
   obtain ⟨rfl,rfl⟩:=he
   exact wp_ret (hQ _ _ hr)
  ·exact absurd rfl (hne _ _ _ _)
 | region id ops draw=>
  intro pc st bX e a w Q hc he hr hQ
  obtain ⟨pW,s0,hne,yw,he,hr⟩:=BB pc st he hr
  rw [←yw] at hc
  simp only [eA] at hc
  split at hc
  ·rename_i pos ajx
   cases draw with
   | false=>
    simp only [Bool.false_eq_true,if_false,Option.some.injEq] at hc
    cases pW<;>simp only [erase,reduceCtorEq] at hc
    ·cases hc
     simp only [prun] at he
     split at he
     ·rename_i s hs
      simp only [Option.some.injEq,Prod.mk.injEq] at he
      obtain ⟨rfl,rfl⟩:=he
      exact wp_region_list (S_ kV ajx hs hr hQ)
     ·cases he
    ·exact absurd rfl (hne _ _ _ _)
   | true=>
    simp only [if_true] at hc
    split at hc
    ·rename_i hh
     simp only [Option.some.injEq] at hc
     cases pW<;>simp only [erase,reduceCtorEq] at hc
     ·cases hc
      simp only [prun] at he
      split at he
      ·rename_i outs s hs
       split at he
       ·rename_i hap
        simp only [Option.some.injEq,Prod.mk.injEq] at he
        obtain ⟨rfl,rfl⟩:=he
        exact ae8 kV hh.2.2 ajx hh.1 hh.2.1 hs hap hr hQ
       ·cases he
      ·cases he
     ·exact absurd rfl (hne _ _ _ _)
    ·cases hc
  ·cases hc
 | seq x y ihx ihy=>
  intro pc st bX e a w Q hc he hr hQ
  obtain ⟨pW,s0,hne,yw,he,hr⟩:=BB pc st he hr
  rw [←yw] at hc
  simp only [eA] at hc
  split at hc
  ·rename_i px py h1 h2
   simp only [Option.some.injEq] at hc
   cases pW<;>simp only [erase,reduceCtorEq] at hc
   ·cases hc
    simp only [prun] at he
    refine wp_seq ?_
    split at he
    ·rename_i s hs
     exact ihx h1 hs hr fun a' w' jZ=>ihy h2 he jZ hQ
    ·rename_i hne
     refine ihx h1 he hr fun a' w' jZ=>?_
     cases e with
     | normal=>exact absurd he (hne _)
     | exit id=>exact hQ _ _ jZ
     | ret=>exact hQ _ _ jZ
   ·exact absurd rfl (hne _ _ _ _)
  ·cases hc
 | cond cc x y ihx ihy=>
  intro pc st bX e a w Q hc he hr hQ
  obtain ⟨pW,s0,hne,yw,he,hr⟩:=BB pc st he hr
  rw [←yw] at hc
  simp only [eA] at hc
  split at hc
  ·rename_i px py h1 h2
   simp only [Option.some.injEq] at hc
   cases pW<;>simp only [erase,reduceCtorEq] at hc
   ·cases hc
    simp only [prun] at he
    split at he
    ·rename_i b hb
     obtain ⟨φ,hm,hs⟩:=hr.all
     have xP:=ue hb (Kf hs cc)
     cases b with
     | true=>exact wp_cond_true xP (ihx h1 (by simpa using he) hr hQ)
     | false=>exact wp_cond_false xP (ihy h2 (by simpa using he) hr hQ)
    ·cases he
   ·exact absurd rfl (hne _ _ _ _)
  ·cases hc
 | block id c ih=>
  intro pc st bX e a w Q hc he hr hQ
  obtain ⟨pW,s0,hne,yw,he,hr⟩:=BB pc st he hr
  rw [←yw] at hc
  simp only [eA] at hc
  split at hc
  ·rename_i px h1
   simp only [Option.some.injEq] at hc
   cases pW<;>simp only [erase,reduceCtorEq] at hc
   rotate_left
   ·exact absurd rfl (hne _ _ _ _)
   rename_i id' pW
   cases hc
   simp only [prun] at he
   refine wp_block ?_
   cases hq:prun γ n pW s0 with
   | none=>rw [hq] at he;cases he
   | some q=>
    obtain ⟨e',s⟩:=q
    rw [hq] at he
    refine ih h1 hq hr fun a' w' jZ=>?_
    cases e' with
    | normal=>
     simp only [blk,Option.some.injEq,Prod.mk.injEq] at he
     obtain ⟨rfl,rfl⟩:=he
     exact hQ _ _ jZ
    | ret=>
     simp only [blk,Option.some.injEq,Prod.mk.injEq] at he
     obtain ⟨rfl,rfl⟩:=he
     exact hQ _ _ jZ
    | exit i=>
     simp only [blk] at he
     simp only [aj5,Exit.inBlock]
     split at he
     ·rename_i hi
      simp only [Option.some.injEq,Prod.mk.injEq] at he
      obtain ⟨rfl,rfl⟩:=he
      rw [if_pos hi];exact hQ _ _ jZ
     ·rename_i hi
      simp only [Option.some.injEq,Prod.mk.injEq] at he
      obtain ⟨rfl,rfl⟩:=he
      rw [if_neg hi];exact hQ _ _ jZ
  ·cases hc
 | loop c ih=>
  intro pc st bX e a w Q hc he hr hQ
  obtain ⟨pW,s0,hne,yw,he,hr⟩:=BB pc st he hr
  rw [←yw] at hc
  simp only [eA] at hc
  split at hc
  ·rename_i px0 h1
   simp only [Option.some.injEq] at hc
   cases pW<;>simp only [erase,reduceCtorEq] at hc
   rotate_left
   ·exact absurd rfl (hne _ _ _ _)
   rename_i px
   cases hc
   simp only [prun] at he
   have key: ∀a w,(∃k s,iter (prun γ n px) k s=some (e,bX)∧Rel E m aS w0 N s a w)→ ∃k,(∃s,iter (prun γ n px) k s=some (e,bX)∧Rel E m aS w0 N s a w)∧ ∀j,(∃s,iter (prun γ n px) j s=some (e,bX)∧Rel E m aS w0 N s a w)→k≤j:=by
    intro a w ⟨k,s,h⟩
    induction k using Nat.strongRecOn generalizing s with
    | ind k ihk=>
     by_cases aaG: ∀j,(∃s,iter (prun γ n px) j s=some (e,bX)∧Rel E m aS w0 N s a w)→k≤j
     ·exact ⟨k,⟨s,h⟩,aaG⟩
     ·simp only [Classical.not_forall] at aaG
      obtain ⟨j,⟨s2,h2⟩,hj⟩:=aaG
      exact ihk j (by omega) s2 h2
   classical
   let μ:Act→World→Nat:=fun a w=>if h: ∃k s,iter (prun γ n px) k s=some (e,bX)∧Rel E m aS w0 N s a w then (key a w h).choose else 0
   refine wp_loop (fun a w=> ∃k s,iter (prun γ n px) k s=some (e,bX)∧Rel E m aS w0 N s a w) μ ⟨n,s0,he,hr⟩ ?_
   intro a w hI
   have hμ:μ a w=(key a w hI).choose:=dif_pos hI
   obtain ⟨⟨s,hs,hrs⟩,_⟩:=(key a w hI).choose_spec
   rw [←hμ] at hs
   cases hk:μ a w with
   | zero=>rw [hk] at hs;cases hs
   | succ k=>
    rw [hk] at hs
    simp only [iter] at hs
    split at hs
    ·rename_i s1 hs1
     refine ih h1 hs1 hrs fun a' w' jZ=>?_
     have hI': ∃k s,iter (prun γ n px) k s=some (e,bX)∧Rel E m aS w0 N s a' w':=⟨k,s1,hs,jZ⟩
     refine ⟨hI',?_⟩
     have az9:μ a' w'=(key a' w' hI').choose:=dif_pos hI'
     have:=(key a' w' hI').choose_spec.2 k ⟨s1,hs,jZ⟩
     rw [az9];omega
    ·rename_i hne
     refine ih h1 hs hrs fun a' w' jZ=>?_
     cases e with
     | normal=>exact absurd hs (hne _)
     | exit id=>exact hQ _ _ jZ
     | ret=>exact hQ _ _ jZ
  ·cases hc
 | _=>intro pc st bX e a w Q hc;simp [eA] at hc
def Qv(tmps:Array Value):ResultVar→Sem Value
 | .tmp t=>pure (tmps.getD t undef)
 | .cell b t=>do loadVar t (←asAddr (tmps.getD b undef))
theorem Ks{st:St}{a:Act}{w:World}{φ:Nat→cJ}(hm:Mem E m aS w0 φ st.h w)(hs: ∀t,cT (dr E φ) w (bu φ st.h) (st.s t) (a.eval (.tmp t))): ∀{rs:List ResultVar} {pr:List PR} {l:List PV},qE P rs=some pr→HR st pr=some l→
  ∃vs,(rs.mapM (Qv a.tmps)).run P w= .ok vs w∧aZ (dr E φ) w (bu φ st.h) l vs
 | [],pr,l,hc,he=>by
  simp only [qE,Option.some.injEq] at hc;subst hc
  simp only [HR,Option.some.injEq] at he;subst he
  exact ⟨[],rfl,rfl⟩
 | .tmp t::rs,pr,l,hc,he=>by
  simp only [qE,Option.map_eq_some_iff] at hc
  obtain ⟨q,hq,rfl⟩:=hc
  simp only [HR] at he
  split at he
  ·rename_i l' hl'
   simp only [Option.some.injEq] at he;subst he
   obtain ⟨vs,h1,h2⟩:=Ks hm hs hq hl'
   refine ⟨a.tmps.getD t undef::vs,?_,⟨_,_,rfl,hs t,h2⟩⟩
   simp only [List.mapM_cons,Qv,Sem.run_bind,Sem.run_pure,Result.andThen_ok,h1]
  ·cases he
 | .cell b t::rs,pr,l,hc,he=>by
  simp only [qE] at hc
  split at hc
  ·rename_i dd n hd hn
   split at hc
   ·rename_i Qh
    simp only [Option.map_eq_some_iff] at hc
    obtain ⟨q,hq,rfl⟩:=hc
    simp only [HR] at he
    split at he
    ·rename_i p aH l' hp hl'
     simp only [Option.some.injEq] at he;subst he
     obtain ⟨vs,h1,h2⟩:=Ks hm hs hq hl'
     have ajs:aH= []:=by
      simp only [aD] at hp
      repeat' split at hp
      all_goals first | (cases hp;done) | (cases hp;rfl)
     subst ajs
     have ajN:=J1 (P:=P) (γ:=fun _ _ _=>none) (d:=0) (ev:=a.eval) hm (Kf hs) hd hn Qh hp
     have: ∃v,(Instr.loadAt t (a.eval (.tmp b))).run P w= .ok v w∧cT (dr E φ) w (bu φ st.h) p v:=by
      simp only [aD] at hp
      have hb:=hs b
      have fin: ∀{cs:List PV} {us:List Value} {bb o0 o:Nat},aZ (dr E φ) w (bu φ st.h) cs us→(∀j u,us[j]?=some u→w.cell? ⟨bb,o0+j,none⟩=some u)→Pm.part (gb P t) cs o n=some p→a.eval (.tmp b)= .pointer (some ⟨bb,o0+o,none⟩)→
        ∃v,(Instr.loadAt t (a.eval (.tmp b))).run P w= .ok v w∧cT (dr E φ) w (bu φ st.h) p v:=by
       intro cs us bb o0 o hr hcc hpp xP
       obtain ⟨q1,q2⟩:=Ap hpp Qh hr
       rw [xP]
       exact ⟨_,J0 hd hn Qh q1 (Ox hcc o n),q2⟩
      split at hp
      ·rename_i i g o e
       have e:st.s b= .r (.ptr i g o):=e
       rw [e] at hb
       split at hp
       ·rename_i cs hl
        split at hp
        ·rename_i kU
         obtain ⟨bb,c,hpp,hv,us,r1,r2⟩:=hm.cells (fun cs' h=>by cases h;exact kU) hl hb
         split at hp
         ·rename_i q hq;cases hp
          exact fin (o0:=off c) r1 r2 hq hv
         ·cases hp
        ·cases hp
       ·rename_i e' k cs hl
        obtain ⟨bb,c,hpp,hv,us,r1,r2⟩:=hm.cells (fun cs' h=>by cases h) hl hb
        split at hp
        ·rename_i q hq;cases hp
         rw [oG] at hq
         exact fin (o0:=off c) r1 r2 hq hv
        ·cases hp
       ·cases hp
      ·rename_i cs e
       have e:st.s b= .cS cs:=e
       rw [e] at hb
       obtain ⟨bb,o,hv,_,_,hcc⟩:=hb
       obtain ⟨us,r1,r2⟩:=hcc.vals (R:=bu φ st.h)
       split at hp
       ·rename_i q hq;cases hp
        rw [oG] at hq
        exact fin (o0:=o) r1 r2 hq (by rw [hv,Nat.add_zero])
       ·cases hp
      ·cases hp
     obtain ⟨v,hv,hpv⟩:=this
     have hrun:(do loadVar t (←asAddr (a.tmps.getD b undef)):Sem Value).run P w= .ok v w:=by
      have e:a.eval (.tmp b)=a.tmps.getD b undef:=rfl
      rw [e] at hv
      unfold Instr.loadAt at hv
      generalize a.tmps.getD b undef=x at hv ⊢
      cases x with
      | pointer q=>
       cases q with
       | none=>simp [Instr.sureAddr] at hv
       | some q=>simpa [Instr.sureAddr,asAddr] using hv
      | _=>simp [Instr.sureAddr] at hv
     refine ⟨v::vs,?_,⟨_,_,rfl,hpv,h2⟩⟩
     simp only [List.mapM_cons,Qv,Sem.run_bind] at hrun ⊢
     simp only [hrun,Result.andThen_ok,h1,Sem.run_pure]
    ·cases he
   ·cases hc
  ·cases hc
end
end Go.Proofs.YtobkkblijfhpoaaGreatDoor.Pm
