/- The small machine: code and functions; what a run of it says of the program. No program is named here. -/
import Derived.Test.YtimbfadnabfabaaGreatDoorPj
import Derived.Below
namespace Go.Proofs.YtimbfadnabfabaaGreatDoor.Pm
open Go.RowKit

inductive aj where
 | skip
 | ai (pos:List PO)
 | cU (pos:List PO) (gi:List (Nat×Nat))
 | seq (a b:aj)
 | cond (c:Operand) (t e:aj)
 | block (id:Nat) (c:aj)
 | loop (c:aj)
 | exit (id:Nat)
 | ret
 | keep (L:List Nat) (B:List (Nat×Loc)) (A:List NA) (c:aj)
 deriving Inhabited
inductive PX where
 | normal
 | exit (id:Nat)
 | ret
def iter(f:St→Option (PX×St)):Nat→St→Option (PX×St)
 | 0,_=>none
 | n+1,st=>match f st with
  | some (.normal,bl)=>iter f n bl
  | r=>r
def blk(id:Nat):Option (PX×St)→Option (PX×St)
 | some (.exit i,st)=>if i=id then some (.normal,st) else some (.exit i,st)
 | r=>r
def prun(γ:ek)(n:Nat):aj→St→Option (PX×St)
 | .skip,st=>some (.normal,st)
 | .ai pos,st=>match oN γ pos st with | some bl=>some (.normal,bl) | none=>none
 | .cU pos gi,st=>match gb γ pos st with
  | some (outs,bl)=>if gi.all (fun x=>apart (Li outs x.1) (Li outs x.2))=true then some (.normal,bl) else none
  | none=>none
 | .seq a b,st=>match prun γ n a st with
  | some (.normal,bl)=>prun γ n b bl
  | r=>r
 | .cond c t e,st=>match (bU st.s c).bool? with
  | some b=>if b then prun γ n t st else prun γ n e st
  | none=>none
 | .block id c,st=>blk id (prun γ n c st)
 | .loop c,st=>iter (prun γ n c) n st
 | .exit id,st=>some (.exit id,st)
 | .ret,st=>some (.ret,st)
 | .keep L B A c,st=>prun γ n c (au L B A st)
def erase:aj→aj
 | .seq a b=> .seq (erase a) (erase b)
 | .cond c t e=> .cond c (erase t) (erase e)
 | .block id c=> .block id (erase c)
 | .loop c=> .loop (erase c)
 | .keep _ _ _ c=>erase c
 | c=>c
def ew(P:Program)(br:List Nat)(N:Nat):Code→Option aj
 | .skip=>some .skip
 | .label _=>some .skip
 | .region _ ops draw=>match u_ P br N ops ops.toList with
  | some pos=>if draw then
    (let A:=avS ops.toList []
     if Lj A ops.toList 0=true∧G6 A pos=true∧P.follows .mixedOrders=true then some (.cU pos (CS A pos)) else none)
   else some (.ai pos)
  | none=>none
 | .seq a b=>match ew P br N a,ew P br N b with
  | some x,some y=>some (.seq x y)
  | _,_=>none
 | .cond c t e=>match ew P br N t,ew P br N e with
  | some x,some y=>some (.cond c x y)
  | _,_=>none
 | .block id c=>match ew P br N c with
  | some x=>some (.block id x)
  | none=>none
 | .loop c=>match ew P br N c with
  | some x=>some (.loop x)
  | none=>none
 | .exit id=>some (.exit id)
 | .ret=>some .ret
 | _=>none
inductive PR where
 | tmp (t:Nat)
 | cell (a:Nat) (agg:Bool) (n:Nat)
structure aK where
 N:Nat
 body:aj
 res:List PR
 fin:Option (List Nat×List (Nat×Loc)×List NA):=none
 z:Bool:=false
def aO(fc:aK):aK:=⟨fc.N,erase fc.body,fc.res,none,false⟩
def dY(f:Option (List Nat×List (Nat×Loc)×List NA))(st:St):St:=match f with | some (L,B,A)=>if L.any (Nat.beq 3000000)=true then st else au L B A st | none=>st
def qU(P:Program):List ResultVar→Option (List PR)
 | []=>some []
 | .tmp t::r=>(qU P r).map (.tmp t:: ·)
 | .cell a t::r=>match P.underlying t,iG P t with
  | some _,some n=>if f_ P t=false→n=1 then (qU P r).map (.cell a (f_ P t) n:: ·) else none
  | _,_=>none
def brF(br:List Nat)(f:Nat):List Nat:=(if br.any (Nat.beq (f+300000)) then [300000] else [])++(if br.any (Nat.beq (f+200000)) then 200000::br else br)
def aW(P:Program)(br:List Nat)(f:Nat):Option aK:=
 match P.funcs[f]? with
 | some fn=>match fn.body with
  | some c=>if fn.name== "runtime.NumGoroutine" then none else (match ew P (brF br f) fn.ntmps c,qU P fn.results.toList with
   | some b,some r=>some ⟨fn.ntmps,b,r,none,false⟩
   | _,_=>none)
  | none=>none
 | none=>none
mutual
def kB(H:Nat→cq)(m:Nat):PV→List Nat→Option (PV×List Nat)
 | .d x,ids=>some (.d x,ids)
 | .nil,ids=>some (.nil,ids)
 | .un,ids=>some (.un,ids)
 | .agg cs,ids=>match lz H m cs ids with | some (l,i)=>some (.agg l,i) | none=>none
 | .bE cs,ids=>match lz H m cs ids with | some (l,i)=>some (.bE l,i) | none=>none
 | .r (.ptr i g o),ids=>match look H i g with
  | some _=>if i<m then some (.r (.ptr i 0 o),ids) else none
  | none=>some (.un,ids)
 | .r (.aJ i g l n),ids=>match look H i g with
  | some (.own e k cs)=>if i<m then some (.r (.aJ i 0 l n),ids) else if l=0∧cs.length=n*k∧ids.any (Nat.beq i)=false then some (.r (.own ids.length e k n cs),ids++ [i]) else none
  | _=>some (.un,ids)
 | _,_=>none
def lz(H:Nat→cq)(m:Nat):List PV→List Nat→Option (List PV×List Nat)
 | [],ids=>some ([],ids)
 | p::ps,ids=>match kB H m p ids with
  | some (x,i)=>match lz H m ps i with
   | some (l,j)=>some (x::l,j)
   | none=>none
  | none=>none
end
def MV(H:Nat→cq)(m:Nat):bH→List Nat→Option (bH×List Nat)
 | .box cs,ids=>match lz H m cs ids with
  | some (l,i)=>some (.box l,i)
  | none=>none
 | b,ids=>some (b,ids)
def vg(H:Nat→cq)(m:Nat):List Nat→List Nat→Option (List bH×List Nat)
 | [],ids=>some ([],ids)
 | i::is,ids=>match (H i).b with
  | some b=>match MV H m b ids with
   | some (x,j)=>match vg H m is j with
    | some (l,k)=>some (x::l,k)
    | none=>none
   | none=>none
  | none=>none
def FL(st:St):List PR→Option (List PV)
 | []=>some []
 | .tmp t::r=>match FL st r with | some l=>some (st.s t::l) | none=>none
 | .cell a agg n::r=>match az (fun _ _ _=>none) st.h 0 (bU st.s) (.load agg n (.tmp a)),FL st r with
  | some (p,_),some l=>some (p::l)
  | _,_=>none
def Zi(l:List PV):PV:=match l with
 | [p]=>p
 | l=> .bE l
def cP(st:St)(m:Nat)(rs:List PR):Option (PV×List bH):=
 match vg st.h m (List.range m) [] with
 | some (bs,ids)=>match FL st rs with
  | some l=>match kB st.h m (Zi l) ids with | some (x,_)=>some (x,bs) | none=>none
  | none=>none
 | none=>none
def qV(args:List PV)(bs:List bH):St:=⟨fun t=>args.getD t .un,H0 bs⟩
def Lk(f:Option (List Nat×List (Nat×Loc)×List NA)):Bool:=match f with | some (L,_,_)=>L.any (Nat.beq 2000000) | none=>false
def ID(h:Nat→cq)(m:Nat):Bool:=(List.range m).all fun i=>Nat.beq (h i).g 0
def xk(fx:Bool)(st:St)(m:Nat)(rs:List PR):Option (PV×List bH):=
 match fx with
 | true=>(match cP st m rs with | some (r,bs)=>if ID st.h m=true then some (r,bs++ [.box []]) else none | none=>none)
 | false=>cP st m rs
def sV(γ:ek)(n:Nat)(fc:aK)(args:List PV)(bs:List bH):Option (PV×List bH):=
 if args.length≤fc.N then
  match prun γ n fc.body (qV args bs) with
  | some (.normal,st)=>xk (Lk fc.fin) (dY fc.fin st) bs.length fc.res
  | some (.ret,st)=>xk (Lk fc.fin) (dY fc.fin st) bs.length fc.res
  | _=>none
 else none
open Classical in
noncomputable def xl(γ:ek)(fc:aK)(args:List PV)(bs:List bH):Option (PV×List bH):=if h: ∃n r,sV γ n fc args bs=some r then some h.choose_spec.choose else none
open Classical in
noncomputable def OW(γ:ek)(fc:aK)(args:List PV)(bs:List bH):Option (PV×List bH):=
 if fc.z=true then
  match args with
  | .d (.sl m cs)::ar=>match xl γ fc (.jo false m cs::ar) bs with
   | some r=>if m≠0∨xl γ fc (.jo true 0 []::ar) bs=some r then some r else none
   | none=>none
  | _=>none
 else xl γ fc args bs
noncomputable def bW(av:Nat→Option aK)(base:ek):Nat→ek
 | 0,f,args,bs=>base f args bs
 | n+1,f,args,bs=>match av f with
  | some fc=>OW (bW av base n) fc args bs
  | none=>base f args bs
theorem BC{f g:St→Option (PX×St)}(h: ∀st r,f st=some r→g st=some r): ∀(n m:Nat) (st:St) (r:PX×St),n≤m→iter f n st=some r→iter g m st=some r
 | 0,_,_,_,_,h=>by cases h
 | n+1,0,_,_,hl,_=>by omega
 | n+1,m+1,st,r,hl,hi=>by
  simp only [iter] at hi ⊢
  split at hi
  ·rename_i bl hs
   rw [h _ _ hs]
   exact BC h n m bl r (by omega) hi
  ·rename_i hne
   rw [h _ _ hi]
   obtain ⟨e,s⟩:=r
   cases e with
   | normal=>exact absurd hi (hne s)
   | _=>rfl
theorem eZ{γ:ek}{n m:Nat}(hl:n≤m): ∀(c:aj) (st:St) (r:PX×St),prun γ n c st=some r→prun γ m c st=some r
 | .skip,_,_,h=>h
 | .ai _,_,_,h=>h
 | .cU ..,_,_,h=>h
 | .exit _,_,_,h=>h
 | .ret,_,_,h=>h
 | .keep L B A c,st,r,h=>eZ hl c _ r h
 | .seq a b,st,r,h=>by
  simp only [prun] at h ⊢
  split at h
  ·rename_i bl hs
   rw [eZ hl a _ _ hs]
   exact eZ hl b _ _ h
  ·rename_i hne
   rw [eZ hl a _ _ h]
   obtain ⟨e,s⟩:=r
   cases e with
   | normal=>exact absurd h (hne s)
   | _=>rfl
 | .cond c t e,st,r,h=>by
  simp only [prun] at h ⊢
  split at h
  ·rename_i b hb
   split at h
   ·rename_i hb2;subst hb2
    simp only [hb,if_true]
    exact eZ hl t _ _ h
   ·rename_i hb2
    have:b=false:=by simpa using hb2
    subst this
    simp only [hb,Bool.false_eq_true,if_false]
    exact eZ hl e _ _ h
  ·cases h
 | .block id c,st,r,h=>by
  simp only [prun] at h ⊢
  cases hq:prun γ n c st with
  | none=>rw [hq] at h;cases h
  | some q=>rw [hq] at h;rw [eZ hl c _ _ hq];exact h
 | .loop c,st,r,h=>by
  simp only [prun] at h ⊢
  exact BC (fun st r=>eZ hl c st r) n m st r hl h
theorem IE{γ:ek}{n m:Nat}(hl:n≤m){fc:aK}{args:List PV}{bs:List bH}{r:PV×List bH}(h:sV γ n fc args bs=some r):sV γ m fc args bs=some r:=by
 unfold sV at h ⊢
 split at h
 ·rename_i hlen
  rw [if_pos hlen]
  split at h
  ·rename_i st hs;rw [eZ hl _ _ _ hs];exact h
  ·rename_i st hs;rw [eZ hl _ _ _ hs];exact h
  ·cases h
 ·cases h
theorem xm{γ:ek}{fc:aK}{args:List PV}{bs:List bH}{r:PV×List bH}(h:xl γ fc args bs=some r): ∃n,sV γ n fc args bs=some r:=by
 unfold xl at h
 split at h
 ·rename_i hx
  refine ⟨hx.choose,?_⟩
  rw [hx.choose_spec.choose_spec];exact h
 ·cases h
theorem adM{γ:ek}{n:Nat}{fc:aK}{args:List PV}{bs:List bH}{r:PV×List bH}(h:sV γ n fc args bs=some r):xl γ fc args bs=some r:=by
 have hx: ∃n r,sV γ n fc args bs=some r:=⟨n,r,h⟩
 unfold xl
 rw [dif_pos hx]
 have h2:=hx.choose_spec.choose_spec
 have a:=IE (Nat.le_max_left n hx.choose) h
 have b:=IE (Nat.le_max_right n hx.choose) h2
 rw [a] at b
 exact b.symm

section
variable {P : Program} {br : List Nat} {E : Nat → Prop} {m : List bH} {aP : Nat → cg} {w0 : World} {N : Nat} {γ : ek}
def ah3:PX→Exit
 | .normal=> .normal
 | .exit id=> .exit id
 | .ret=> .ret
theorem R9{st:St}{a:Act}{w:World}(f:Option (List Nat×List (Nat×Loc)×List NA))(hr:Rel E m aP w0 N st a w):Rel E m aP w0 N (dY f st) a w:=by
 unfold dY
 split
 ·split
  ·exact hr
  ·exact EY _ _ _ hr
 ·exact hr
theorem Ax{n:Nat}{r:PX×St}{a:Act}{w:World}: ∀(pc:aj) (st:St),prun γ n pc st=some r→Rel E m aP w0 N st a w→
  ∃qa bl,(∀L B A c,qa≠ .keep L B A c)∧erase qa=erase pc∧prun γ n qa bl=some r∧Rel E m aP w0 N bl a w
 | .keep L B A c,st,h,hr=>Ax c (au L B A st) h (EY L B A hr)
 | .skip,st,h,hr=>⟨_,st,(fun _ _ _ _ h=>by cases h),rfl,h,hr⟩
 | .ai _,st,h,hr=>⟨_,st,(fun _ _ _ _ h=>by cases h),rfl,h,hr⟩
 | .cU ..,st,h,hr=>⟨_,st,(fun _ _ _ _ h=>by cases h),rfl,h,hr⟩
 | .seq ..,st,h,hr=>⟨_,st,(fun _ _ _ _ h=>by cases h),rfl,h,hr⟩
 | .cond ..,st,h,hr=>⟨_,st,(fun _ _ _ _ h=>by cases h),rfl,h,hr⟩
 | .block ..,st,h,hr=>⟨_,st,(fun _ _ _ _ h=>by cases h),rfl,h,hr⟩
 | .loop ..,st,h,hr=>⟨_,st,(fun _ _ _ _ h=>by cases h),rfl,h,hr⟩
 | .exit _,st,h,hr=>⟨_,st,(fun _ _ _ _ h=>by cases h),rfl,h,hr⟩
 | .ret,st,h,hr=>⟨_,st,(fun _ _ _ _ h=>by cases h),rfl,h,hr⟩
theorem R_(kL:nS P γ w0 aP)(n:Nat): ∀{c:Code} {pc:aj} {st bl:St} {e:PX} {a:Act} {w:World} {Q:Exit→Act→World→Prop},ew P br N c=some (erase pc)→prun γ n pc st=some (e,bl)→Rel E m aP w0 N st a w→(∀a' w',Rel E m aP w0 N bl a' w'→Q (ah3 e) a' w')→c.wp P Q a w:=by
 intro c
 induction c with
 | skip=>
  intro pc st bl e a w Q hc he hr hQ
  obtain ⟨qa,s0,hne,xo,he,hr⟩:=Ax pc st he hr
  rw [←xo] at hc
  cases qa<;>simp only [ew,erase,Option.some.injEq,reduceCtorEq] at hc
  ·simp only [prun,Option.some.injEq,Prod.mk.injEq] at he
   obtain ⟨rfl,rfl⟩:=he
   exact wp_skip (hQ _ _ hr)
  ·exact absurd rfl (hne _ _ _ _)
 | label l=>
  intro pc st bl e a w Q hc he hr hQ
  obtain ⟨qa,s0,hne,xo,he,hr⟩:=Ax pc st he hr
  rw [←xo] at hc
  cases qa<;>simp only [ew,erase,Option.some.injEq,reduceCtorEq] at hc
  ·simp only [prun,Option.some.injEq,Prod.mk.injEq] at he
   obtain ⟨rfl,rfl⟩:=he
   exact wp_label (hQ _ _ hr)
  ·exact absurd rfl (hne _ _ _ _)
 | exit id=>
  intro pc st bl e a w Q hc he hr hQ
  obtain ⟨qa,s0,hne,xo,he,hr⟩:=Ax pc st he hr
  rw [←xo] at hc
  cases qa<;>simp only [ew,erase,Option.some.injEq,reduceCtorEq] at hc
  ·cases hc
   simp only [prun,Option.some.injEq,Prod.mk.injEq] at he
   obtain ⟨rfl,rfl⟩:=he
   exact wp_exit (hQ _ _ hr)
  ·exact absurd rfl (hne _ _ _ _)
 | ret=>
  intro pc st bl e a w Q hc he hr hQ
  obtain ⟨qa,s0,hne,xo,he,hr⟩:=Ax pc st he hr
  rw [←xo] at hc
  cases qa<;>simp only [ew,erase,Option.some.injEq,reduceCtorEq] at hc
  ·simp only [prun,Option.some.injEq,Prod.mk.injEq] at he
   obtain ⟨rfl,rfl⟩:=he
   exact wp_ret (hQ _ _ hr)
  ·exact absurd rfl (hne _ _ _ _)
 | region id ops draw=>
  intro pc st bl e a w Q hc he hr hQ
  obtain ⟨qa,s0,hne,xo,he,hr⟩:=Ax pc st he hr
  rw [←xo] at hc
  simp only [ew] at hc
  split at hc
  ·rename_i pos ahu
   cases draw with
   | false=>
    simp only [Bool.false_eq_true,if_false,Option.some.injEq] at hc
    cases qa<;>simp only [erase,reduceCtorEq] at hc
    ·cases hc
     simp only [prun] at he
     split at he
     ·rename_i s hs
      simp only [Option.some.injEq,Prod.mk.injEq] at he
      obtain ⟨rfl,rfl⟩:=he
      exact wp_region_list (RU kL ahu hs hr hQ)
     ·cases he
    ·exact absurd rfl (hne _ _ _ _)
   | true=>
    simp only [if_true] at hc
    split at hc
    ·rename_i hh
     simp only [Option.some.injEq] at hc
     cases qa<;>simp only [erase,reduceCtorEq] at hc
     ·cases hc
      simp only [prun] at he
      split at he
      ·rename_i outs s hs
       split at he
       ·rename_i hap
        simp only [Option.some.injEq,Prod.mk.injEq] at he
        obtain ⟨rfl,rfl⟩:=he
        exact adJ kL hh.2.2 ahu hh.1 hh.2.1 hs hap hr hQ
       ·cases he
      ·cases he
     ·exact absurd rfl (hne _ _ _ _)
    ·cases hc
  ·cases hc
 | seq x y ihx ihy=>
  intro pc st bl e a w Q hc he hr hQ
  obtain ⟨qa,s0,hne,xo,he,hr⟩:=Ax pc st he hr
  rw [←xo] at hc
  simp only [ew] at hc
  split at hc
  ·rename_i px py h1 h2
   simp only [Option.some.injEq] at hc
   cases qa<;>simp only [erase,reduceCtorEq] at hc
   ·cases hc
    simp only [prun] at he
    refine wp_seq ?_
    split at he
    ·rename_i s hs
     exact ihx h1 hs hr fun a' w' kn=>ihy h2 he kn hQ
    ·rename_i hne
     refine ihx h1 he hr fun a' w' kn=>?_
     cases e with
     | normal=>exact absurd he (hne _)
     | exit id=>exact hQ _ _ kn
     | ret=>exact hQ _ _ kn
   ·exact absurd rfl (hne _ _ _ _)
  ·cases hc
 | cond cc x y ihx ihy=>
  intro pc st bl e a w Q hc he hr hQ
  obtain ⟨qa,s0,hne,xo,he,hr⟩:=Ax pc st he hr
  rw [←xo] at hc
  simp only [ew] at hc
  split at hc
  ·rename_i px py h1 h2
   simp only [Option.some.injEq] at hc
   cases qa<;>simp only [erase,reduceCtorEq] at hc
   ·cases hc
    simp only [prun] at he
    split at he
    ·rename_i b hb
     obtain ⟨φ,hm,hs⟩:=hr.all
     have wO:=tO hb (Ip hs cc)
     cases b with
     | true=>exact wp_cond_true wO (ihx h1 (by simpa using he) hr hQ)
     | false=>exact wp_cond_false wO (ihy h2 (by simpa using he) hr hQ)
    ·cases he
   ·exact absurd rfl (hne _ _ _ _)
  ·cases hc
 | block id c ih=>
  intro pc st bl e a w Q hc he hr hQ
  obtain ⟨qa,s0,hne,xo,he,hr⟩:=Ax pc st he hr
  rw [←xo] at hc
  simp only [ew] at hc
  split at hc
  ·rename_i px h1
   simp only [Option.some.injEq] at hc
   cases qa<;>simp only [erase,reduceCtorEq] at hc
   rotate_left
   ·exact absurd rfl (hne _ _ _ _)
   rename_i id' qa
   cases hc
   simp only [prun] at he
   refine wp_block ?_
   cases hq:prun γ n qa s0 with
   | none=>rw [hq] at he;cases he
   | some q=>
    obtain ⟨e',s⟩:=q
    rw [hq] at he
    refine ih h1 hq hr fun a' w' kn=>?_
    cases e' with
    | normal=>
     simp only [blk,Option.some.injEq,Prod.mk.injEq] at he
     obtain ⟨rfl,rfl⟩:=he
     exact hQ _ _ kn
    | ret=>
     simp only [blk,Option.some.injEq,Prod.mk.injEq] at he
     obtain ⟨rfl,rfl⟩:=he
     exact hQ _ _ kn
    | exit i=>
     simp only [blk] at he
     simp only [ah3,Exit.inBlock]
     split at he
     ·rename_i hi
      simp only [Option.some.injEq,Prod.mk.injEq] at he
      obtain ⟨rfl,rfl⟩:=he
      rw [if_pos hi];exact hQ _ _ kn
     ·rename_i hi
      simp only [Option.some.injEq,Prod.mk.injEq] at he
      obtain ⟨rfl,rfl⟩:=he
      rw [if_neg hi];exact hQ _ _ kn
  ·cases hc
 | loop c ih=>
  intro pc st bl e a w Q hc he hr hQ
  obtain ⟨qa,s0,hne,xo,he,hr⟩:=Ax pc st he hr
  rw [←xo] at hc
  simp only [ew] at hc
  split at hc
  ·rename_i px0 h1
   simp only [Option.some.injEq] at hc
   cases qa<;>simp only [erase,reduceCtorEq] at hc
   rotate_left
   ·exact absurd rfl (hne _ _ _ _)
   rename_i px
   cases hc
   simp only [prun] at he
   have key: ∀a w,(∃k s,iter (prun γ n px) k s=some (e,bl)∧Rel E m aP w0 N s a w)→ ∃k,(∃s,iter (prun γ n px) k s=some (e,bl)∧Rel E m aP w0 N s a w)∧ ∀j,(∃s,iter (prun γ n px) j s=some (e,bl)∧Rel E m aP w0 N s a w)→k≤j:=by
    intro a w ⟨k,s,h⟩
    induction k using Nat.strongRecOn generalizing s with
    | ind k ihk=>
     by_cases Zb: ∀j,(∃s,iter (prun γ n px) j s=some (e,bl)∧Rel E m aP w0 N s a w)→k≤j
     ·exact ⟨k,⟨s,h⟩,Zb⟩
     ·simp only [Classical.not_forall] at Zb
      obtain ⟨j,⟨s2,h2⟩,hj⟩:=Zb
      exact ihk j (by omega) s2 h2
   classical
   let μ:Act→World→Nat:=fun a w=>if h: ∃k s,iter (prun γ n px) k s=some (e,bl)∧Rel E m aP w0 N s a w then (key a w h).choose else 0
   refine wp_loop (fun a w=> ∃k s,iter (prun γ n px) k s=some (e,bl)∧Rel E m aP w0 N s a w) μ ⟨n,s0,he,hr⟩ ?_
   intro a w hI
   have hμ:μ a w=(key a w hI).choose:=dif_pos hI
   obtain ⟨⟨s,hs,hrs⟩,_⟩:=(key a w hI).choose_spec
   rw [←hμ] at hs
   cases hk:μ a w with
   | zero=>rw [hk] at hs;cases hs
   | succ k=>
    rw [hk] at hs
    simp only [iter] at hs
    split at hs
    ·rename_i s1 hs1
     refine ih h1 hs1 hrs fun a' w' kn=>?_
     have hI': ∃k s,iter (prun γ n px) k s=some (e,bl)∧Rel E m aP w0 N s a' w':=⟨k,s1,hs,kn⟩
     refine ⟨hI',?_⟩
     have aBw:μ a' w'=(key a' w' hI').choose:=dif_pos hI'
     have:=(key a' w' hI').choose_spec.2 k ⟨s1,hs,kn⟩
     rw [aBw];omega
    ·rename_i hne
     refine ih h1 hs hrs fun a' w' kn=>?_
     cases e with
     | normal=>exact absurd hs (hne _)
     | exit id=>exact hQ _ _ kn
     | ret=>exact hQ _ _ kn
  ·cases hc
 | _=>intro pc st bl e a w Q hc;simp [ew] at hc
def OX(tmps:Array Value):ResultVar→Sem Value
 | .tmp t=>pure (tmps.getD t undef)
 | .cell b t=>do loadVar t (←asAddr (tmps.getD b undef))
theorem IG{st:St}{a:Act}{w:World}{φ:Nat→cg}(hm:Mem E m aP w0 φ st.h w)(hs: ∀t,cJ (cV E φ) w (bh φ st.h) (st.s t) (a.eval (.tmp t))): ∀{rs:List ResultVar} {pr:List PR} {l:List PV},qU P rs=some pr→FL st pr=some l→
  ∃vs,(rs.mapM (OX a.tmps)).run P w= .ok vs w∧aY (cV E φ) w (bh φ st.h) l vs
 | [],pr,l,hc,he=>by
  simp only [qU,Option.some.injEq] at hc;subst hc
  simp only [FL,Option.some.injEq] at he;subst he
  exact ⟨[],rfl,rfl⟩
 | .tmp t::rs,pr,l,hc,he=>by
  simp only [qU,Option.map_eq_some_iff] at hc
  obtain ⟨q,hq,rfl⟩:=hc
  simp only [FL] at he
  split at he
  ·rename_i l' hl'
   simp only [Option.some.injEq] at he;subst he
   obtain ⟨vs,h1,h2⟩:=IG hm hs hq hl'
   refine ⟨a.tmps.getD t undef::vs,?_,⟨_,_,rfl,hs t,h2⟩⟩
   simp only [List.mapM_cons,OX,Sem.run_bind,Sem.run_pure,Result.andThen_ok,h1]
  ·cases he
 | .cell b t::rs,pr,l,hc,he=>by
  simp only [qU] at hc
  split at hc
  ·rename_i dd n hd hn
   split at hc
   ·rename_i OH
    simp only [Option.map_eq_some_iff] at hc
    obtain ⟨q,hq,rfl⟩:=hc
    simp only [FL] at he
    split at he
    ·rename_i p aD l' hp hl'
     simp only [Option.some.injEq] at he;subst he
     obtain ⟨vs,h1,h2⟩:=IG hm hs hq hl'
     have ahq:aD= []:=by
      simp only [az] at hp
      repeat' split at hp
      all_goals first | (cases hp;done) | (cases hp;rfl)
     subst ahq
     have ahL:=H_ (P:=P) (γ:=fun _ _ _=>none) (d:=0) (ev:=a.eval) hm (Ip hs) hd hn OH hp
     have: ∃v,(Instr.loadAt t (a.eval (.tmp b))).run P w= .ok v w∧cJ (cV E φ) w (bh φ st.h) p v:=by
      simp only [az] at hp
      have hb:=hs b
      have fin: ∀{cs:List PV} {us:List Value} {bb o0 o:Nat},aY (cV E φ) w (bh φ st.h) cs us→(∀j u,us[j]?=some u→w.cell? ⟨bb,o0+j,none⟩=some u)→Pm.part (f_ P t) cs o n=some p→a.eval (.tmp b)= .pointer (some ⟨bb,o0+o,none⟩)→
        ∃v,(Instr.loadAt t (a.eval (.tmp b))).run P w= .ok v w∧cJ (cV E φ) w (bh φ st.h) p v:=by
       intro cs us bb o0 o hr hcc hpp wO
       obtain ⟨q1,q2⟩:=yZ hpp OH hr
       rw [wO]
       exact ⟨_,H9 hd hn OH q1 (MJ hcc o n),q2⟩
      split at hp
      ·rename_i i g o e
       have e:st.s b= .r (.ptr i g o):=e
       rw [e] at hb
       split at hp
       ·rename_i cs hl
        split at hp
        ·rename_i kK
         obtain ⟨bb,c,hpp,hv,us,r1,r2⟩:=hm.cells (fun cs' h=>by cases h;exact kK) hl hb
         split at hp
         ·rename_i q hq;cases hp
          exact fin (o0:=off c) r1 r2 hq hv
         ·cases hp
        ·cases hp
       ·rename_i e' k cs hl
        obtain ⟨bb,c,hpp,hv,us,r1,r2⟩:=hm.cells (fun cs' h=>by cases h) hl hb
        split at hp
        ·rename_i q hq;cases hp
         rw [oM] at hq
         exact fin (o0:=off c) r1 r2 hq hv
        ·cases hp
       ·cases hp
      ·rename_i cs e
       have e:st.s b= .cD cs:=e
       rw [e] at hb
       obtain ⟨bb,o,hv,_,_,hcc⟩:=hb
       obtain ⟨us,r1,r2⟩:=hcc.vals (R:=bh φ st.h)
       split at hp
       ·rename_i q hq;cases hp
        rw [oM] at hq
        exact fin (o0:=o) r1 r2 hq (by rw [hv,Nat.add_zero])
       ·cases hp
      ·cases hp
     obtain ⟨v,hv,hpv⟩:=this
     have hrun:(do loadVar t (←asAddr (a.tmps.getD b undef)):Sem Value).run P w= .ok v w:=by
      have e:a.eval (.tmp b)=a.tmps.getD b undef:=rfl
      rw [e] at hv
      unfold Instr.loadAt at hv
      generalize a.tmps.getD b undef=x at hv ⊢
      cases x with
      | pointer q=>
       cases q with
       | none=>simp [Instr.sureAddr] at hv
       | some q=>simpa [Instr.sureAddr,asAddr] using hv
      | _=>simp [Instr.sureAddr] at hv
     refine ⟨v::vs,?_,⟨_,_,rfl,hpv,h2⟩⟩
     simp only [List.mapM_cons,OX,Sem.run_bind] at hrun ⊢
     simp only [hrun,Result.andThen_ok,h1,Sem.run_pure]
    ·cases he
   ·cases hc
  ·cases hc
end
end Go.Proofs.YtimbfadnabfabaaGreatDoor.Pm
