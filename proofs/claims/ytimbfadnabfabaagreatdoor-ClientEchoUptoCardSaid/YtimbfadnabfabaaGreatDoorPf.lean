/- The small machine: code and functions; what a run of it says of the program. No program is named here. -/
import Derived.Test.YtimbfadnabfabaaGreatDoorPj
import Derived.Below
namespace Go.Proofs.YtimbfadnabfabaaGreatDoor.Pm
open Go.RowKit

inductive ak where
 | skip
 | ai (pos:List PO)
 | cU (pos:List PO) (gy:List (Nat×Nat))
 | seq (a b:ak)
 | cond (c:Operand) (t e:ak)
 | block (id:Nat) (c:ak)
 | loop (c:ak)
 | exit (id:Nat)
 | ret
 | keep (L:List Nat) (B:List (Nat×Loc)) (A:List NA) (c:ak)
 deriving Inhabited
inductive PX where
 | normal
 | exit (id:Nat)
 | ret
def iter(f:St→Option (PX×St)):Nat→St→Option (PX×St)
 | 0,_=>none
 | n+1,st=>match f st with
  | some (.normal,bl)=>iter f n bl
  | r=>r
def blk(id:Nat):Option (PX×St)→Option (PX×St)
 | some (.exit i,st)=>if i=id then some (.normal,st) else some (.exit i,st)
 | r=>r
def prun(γ:dZ)(n:Nat):ak→St→Option (PX×St)
 | .skip,st=>some (.normal,st)
 | .ai pos,st=>match pU γ pos st with | some bl=>some (.normal,bl) | none=>none
 | .cU pos gy,st=>match gp γ pos st with
  | some (outs,bl)=>if gy.all (fun x=>apart (Mb outs x.1) (Mb outs x.2))=true then some (.normal,bl) else none
  | none=>none
 | .seq a b,st=>match prun γ n a st with
  | some (.normal,bl)=>prun γ n b bl
  | r=>r
 | .cond c t e,st=>match (b8 st.s c).bool? with
  | some b=>if b then prun γ n t st else prun γ n e st
  | none=>none
 | .block id c,st=>blk id (prun γ n c st)
 | .loop c,st=>iter (prun γ n c) n st
 | .exit id,st=>some (.exit id,st)
 | .ret,st=>some (.ret,st)
 | .keep L B A c,st=>prun γ n c (au L B A st)
def erase:ak→ak
 | .seq a b=> .seq (erase a) (erase b)
 | .cond c t e=> .cond c (erase t) (erase e)
 | .block id c=> .block id (erase c)
 | .loop c=> .loop (erase c)
 | .keep _ _ _ c=>erase c
 | c=>c
def ew(P:Program)(br:List Nat)(N:Nat):Code→Option ak
 | .skip=>some .skip
 | .label _=>some .skip
 | .region _ ops draw=>match wF P br N ops ops.toList with
  | some pos=>if draw then
    (let A:=axN ops.toList []
     if Mc A ops.toList 0=true∧Ie A pos=true∧P.follows .mixedOrders=true then some (.cU pos (DB A pos)) else none)
   else some (.ai pos)
  | none=>none
 | .seq a b=>match ew P br N a,ew P br N b with
  | some x,some y=>some (.seq x y)
  | _,_=>none
 | .cond c t e=>match ew P br N t,ew P br N e with
  | some x,some y=>some (.cond c x y)
  | _,_=>none
 | .block id c=>match ew P br N c with
  | some x=>some (.block id x)
  | none=>none
 | .loop c=>match ew P br N c with
  | some x=>some (.loop x)
  | none=>none
 | .exit id=>some (.exit id)
 | .ret=>some .ret
 | _=>none
inductive PR where
 | tmp (t:Nat)
 | cell (a:Nat) (agg:Bool) (n:Nat)
structure aK where
 N:Nat
 body:ak
 res:List PR
 fin:Option (List Nat×List (Nat×Loc)×List NA):=none
 z:Bool:=false
def aP(fc:aK):aK:=⟨fc.N,erase fc.body,fc.res,none,false⟩
def dV(f:Option (List Nat×List (Nat×Loc)×List NA))(st:St):St:=match f with | some (L,B,A)=>if L.any (Nat.beq 3000000)=true then st else au L B A st | none=>st
def rU(P:Program):List ResultVar→Option (List PR)
 | []=>some []
 | .tmp t::r=>(rU P r).map (.tmp t:: ·)
 | .cell a t::r=>match P.underlying t,iI P t with
  | some _,some n=>if gm P t=false→n=1 then (rU P r).map (.cell a (gm P t) n:: ·) else none
  | _,_=>none
def brF(br:List Nat)(f:Nat):List Nat:=(if br.any (Nat.beq (f+300000)) then [300000] else [])++(if br.any (Nat.beq (f+200000)) then 200000::br else br)
def aW(P:Program)(br:List Nat)(f:Nat):Option aK:=
 match P.funcs[f]? with
 | some fn=>match fn.body with
  | some c=>if fn.name== "runtime.NumGoroutine" then none else (match ew P (brF br f) fn.ntmps c,rU P fn.results.toList with
   | some b,some r=>some ⟨fn.ntmps,b,r,none,false⟩
   | _,_=>none)
  | none=>none
 | none=>none
mutual
def kI(H:Nat→cw)(m:Nat):PV→List Nat→Option (PV×List Nat)
 | .d x,ids=>some (.d x,ids)
 | .nil,ids=>some (.nil,ids)
 | .un,ids=>some (.un,ids)
 | .agg cs,ids=>match lZ H m cs ids with | some (l,i)=>some (.agg l,i) | none=>none
 | .bH cs,ids=>match lZ H m cs ids with | some (l,i)=>some (.bH l,i) | none=>none
 | .r (.ptr i g o),ids=>match look H i g with
  | some _=>if i<m then some (.r (.ptr i 0 o),ids) else none
  | none=>some (.un,ids)
 | .r (.aL i g l n),ids=>match look H i g with
  | some (.own e k cs)=>if i<m then some (.r (.aL i 0 l n),ids) else if l=0∧cs.length=n*k∧ids.any (Nat.beq i)=false then some (.r (.own ids.length e k n cs),ids++ [i]) else none
  | _=>some (.un,ids)
 | _,_=>none
def lZ(H:Nat→cw)(m:Nat):List PV→List Nat→Option (List PV×List Nat)
 | [],ids=>some ([],ids)
 | p::ps,ids=>match kI H m p ids with
  | some (x,i)=>match lZ H m ps i with
   | some (l,j)=>some (x::l,j)
   | none=>none
  | none=>none
end
def NK(H:Nat→cw)(m:Nat):bM→List Nat→Option (bM×List Nat)
 | .box cs,ids=>match lZ H m cs ids with
  | some (l,i)=>some (.box l,i)
  | none=>none
 | b,ids=>some (b,ids)
def wH(H:Nat→cw)(m:Nat):List Nat→List Nat→Option (List bM×List Nat)
 | [],ids=>some ([],ids)
 | i::is,ids=>match (H i).b with
  | some b=>match NK H m b ids with
   | some (x,j)=>match wH H m is j with
    | some (l,k)=>some (x::l,k)
    | none=>none
   | none=>none
  | none=>none
def GC(st:St):List PR→Option (List PV)
 | []=>some []
 | .tmp t::r=>match GC st r with | some l=>some (st.s t::l) | none=>none
 | .cell a agg n::r=>match az (fun _ _ _=>none) st.h 0 (b8 st.s) (.load agg n (.tmp a)),GC st r with
  | some (p,_),some l=>some (p::l)
  | _,_=>none
def ZZ(l:List PV):PV:=match l with
 | [p]=>p
 | l=> .bH l
def cN(st:St)(m:Nat)(rs:List PR):Option (PV×List bM):=
 match wH st.h m (List.range m) [] with
 | some (bs,ids)=>match GC st rs with
  | some l=>match kI st.h m (ZZ l) ids with | some (x,_)=>some (x,bs) | none=>none
  | none=>none
 | none=>none
def tC(args:List PV)(bs:List bM):St:=⟨fun t=>args.getD t .un,H0 bs⟩
def Md(f:Option (List Nat×List (Nat×Loc)×List NA)):Bool:=match f with | some (L,_,_)=>L.any (Nat.beq 2000000) | none=>false
def JC(h:Nat→cw)(m:Nat):Bool:=(List.range m).all fun i=>Nat.beq (h i).g 0
def yN(fx:Bool)(st:St)(m:Nat)(rs:List PR):Option (PV×List bM):=
 match fx with
 | true=>(match cN st m rs with | some (r,bs)=>if JC st.h m=true then some (r,bs++ [.box []]) else none | none=>none)
 | false=>cN st m rs
def tK(γ:dZ)(n:Nat)(fc:aK)(args:List PV)(bs:List bM):Option (PV×List bM):=
 if args.length≤fc.N then
  match prun γ n fc.body (tC args bs) with
  | some (.normal,st)=>yN (Md fc.fin) (dV fc.fin st) bs.length fc.res
  | some (.ret,st)=>yN (Md fc.fin) (dV fc.fin st) bs.length fc.res
  | _=>none
 else none
open Classical in
noncomputable def yO(γ:dZ)(fc:aK)(args:List PV)(bs:List bM):Option (PV×List bM):=if h: ∃n r,tK γ n fc args bs=some r then some h.choose_spec.choose else none
open Classical in
noncomputable def PK(γ:dZ)(fc:aK)(args:List PV)(bs:List bM):Option (PV×List bM):=
 if fc.z=true then
  match args with
  | .d (.sl m cs)::ar=>match yO γ fc (.jv false m cs::ar) bs with
   | some r=>if m≠0∨yO γ fc (.jv true 0 []::ar) bs=some r then some r else none
   | none=>none
  | _=>none
 else yO γ fc args bs
noncomputable def bZ(ay:Nat→Option aK)(base:dZ):Nat→dZ
 | 0,f,args,bs=>base f args bs
 | n+1,f,args,bs=>match ay f with
  | some fc=>PK (bZ ay base n) fc args bs
  | none=>base f args bs
theorem CD{f g:St→Option (PX×St)}(h: ∀st r,f st=some r→g st=some r): ∀(n m:Nat) (st:St) (r:PX×St),n≤m→iter f n st=some r→iter g m st=some r
 | 0,_,_,_,_,h=>by cases h
 | n+1,0,_,_,hl,_=>by omega
 | n+1,m+1,st,r,hl,hi=>by
  simp only [iter] at hi ⊢
  split at hi
  ·rename_i bl hs
   rw [h _ _ hs]
   exact CD h n m bl r (by omega) hi
  ·rename_i hne
   rw [h _ _ hi]
   obtain ⟨e,s⟩:=r
   cases e with
   | normal=>exact absurd hi (hne s)
   | _=>rfl
theorem fq{γ:dZ}{n m:Nat}(hl:n≤m): ∀(c:ak) (st:St) (r:PX×St),prun γ n c st=some r→prun γ m c st=some r
 | .skip,_,_,h=>h
 | .ai _,_,_,h=>h
 | .cU ..,_,_,h=>h
 | .exit _,_,_,h=>h
 | .ret,_,_,h=>h
 | .keep L B A c,st,r,h=>fq hl c _ r h
 | .seq a b,st,r,h=>by
  simp only [prun] at h ⊢
  split at h
  ·rename_i bl hs
   rw [fq hl a _ _ hs]
   exact fq hl b _ _ h
  ·rename_i hne
   rw [fq hl a _ _ h]
   obtain ⟨e,s⟩:=r
   cases e with
   | normal=>exact absurd h (hne s)
   | _=>rfl
 | .cond c t e,st,r,h=>by
  simp only [prun] at h ⊢
  split at h
  ·rename_i b hb
   split at h
   ·rename_i hb2;subst hb2
    simp only [hb,if_true]
    exact fq hl t _ _ h
   ·rename_i hb2
    have:b=false:=by simpa using hb2
    subst this
    simp only [hb,Bool.false_eq_true,if_false]
    exact fq hl e _ _ h
  ·cases h
 | .block id c,st,r,h=>by
  simp only [prun] at h ⊢
  cases hq:prun γ n c st with
  | none=>rw [hq] at h;cases h
  | some q=>rw [hq] at h;rw [fq hl c _ _ hq];exact h
 | .loop c,st,r,h=>by
  simp only [prun] at h ⊢
  exact CD (fun st r=>fq hl c st r) n m st r hl h
theorem JD{γ:dZ}{n m:Nat}(hl:n≤m){fc:aK}{args:List PV}{bs:List bM}{r:PV×List bM}(h:tK γ n fc args bs=some r):tK γ m fc args bs=some r:=by
 unfold tK at h ⊢
 split at h
 ·rename_i hlen
  rw [if_pos hlen]
  split at h
  ·rename_i st hs;rw [fq hl _ _ _ hs];exact h
  ·rename_i st hs;rw [fq hl _ _ _ hs];exact h
  ·cases h
 ·cases h
theorem yP{γ:dZ}{fc:aK}{args:List PV}{bs:List bM}{r:PV×List bM}(h:yO γ fc args bs=some r): ∃n,tK γ n fc args bs=some r:=by
 unfold yO at h
 split at h
 ·rename_i hx
  refine ⟨hx.choose,?_⟩
  rw [hx.choose_spec.choose_spec];exact h
 ·cases h
theorem afq{γ:dZ}{n:Nat}{fc:aK}{args:List PV}{bs:List bM}{r:PV×List bM}(h:tK γ n fc args bs=some r):yO γ fc args bs=some r:=by
 have hx: ∃n r,tK γ n fc args bs=some r:=⟨n,r,h⟩
 unfold yO
 rw [dif_pos hx]
 have h2:=hx.choose_spec.choose_spec
 have a:=JD (Nat.le_max_left n hx.choose) h
 have b:=JD (Nat.le_max_right n hx.choose) h2
 rw [a] at b
 exact b.symm

section
variable {P : Program} {br : List Nat} {E : Nat → Prop} {m : List bM} {aQ : Nat → cr} {w0 : World} {N : Nat} {γ : dZ}
def ajG:PX→Exit
 | .normal=> .normal
 | .exit id=> .exit id
 | .ret=> .ret
theorem SK{st:St}{a:Act}{w:World}(f:Option (List Nat×List (Nat×Loc)×List NA))(hr:Rel E m aQ w0 N st a w):Rel E m aQ w0 N (dV f st) a w:=by
 unfold dV
 split
 ·split
  ·exact hr
  ·exact FL _ _ _ hr
 ·exact hr
theorem BB{n:Nat}{r:PX×St}{a:Act}{w:World}: ∀(pc:ak) (st:St),prun γ n pc st=some r→Rel E m aQ w0 N st a w→
  ∃qT bl,(∀L B A c,qT≠ .keep L B A c)∧erase qT=erase pc∧prun γ n qT bl=some r∧Rel E m aQ w0 N bl a w
 | .keep L B A c,st,h,hr=>BB c (au L B A st) h (FL L B A hr)
 | .skip,st,h,hr=>⟨_,st,(fun _ _ _ _ h=>by cases h),rfl,h,hr⟩
 | .ai _,st,h,hr=>⟨_,st,(fun _ _ _ _ h=>by cases h),rfl,h,hr⟩
 | .cU ..,st,h,hr=>⟨_,st,(fun _ _ _ _ h=>by cases h),rfl,h,hr⟩
 | .seq ..,st,h,hr=>⟨_,st,(fun _ _ _ _ h=>by cases h),rfl,h,hr⟩
 | .cond ..,st,h,hr=>⟨_,st,(fun _ _ _ _ h=>by cases h),rfl,h,hr⟩
 | .block ..,st,h,hr=>⟨_,st,(fun _ _ _ _ h=>by cases h),rfl,h,hr⟩
 | .loop ..,st,h,hr=>⟨_,st,(fun _ _ _ _ h=>by cases h),rfl,h,hr⟩
 | .exit _,st,h,hr=>⟨_,st,(fun _ _ _ _ h=>by cases h),rfl,h,hr⟩
 | .ret,st,h,hr=>⟨_,st,(fun _ _ _ _ h=>by cases h),rfl,h,hr⟩
theorem SL(k5:oo P γ w0 aQ)(n:Nat): ∀{c:Code} {pc:ak} {st bl:St} {e:PX} {a:Act} {w:World} {Q:Exit→Act→World→Prop},ew P br N c=some (erase pc)→prun γ n pc st=some (e,bl)→Rel E m aQ w0 N st a w→(∀a' w',Rel E m aQ w0 N bl a' w'→Q (ajG e) a' w')→c.wp P Q a w:=by
 intro c
 induction c with
 | skip=>
  intro pc st bl e a w Q hc he hr hQ
  obtain ⟨qT,s0,hne,yQ,he,hr⟩:=BB pc st he hr
  rw [←yQ] at hc
  cases qT<;>simp only [ew,erase,Option.some.injEq,reduceCtorEq] at hc
  ·simp only [prun,Option.some.injEq,Prod.mk.injEq] at he
   obtain ⟨rfl,rfl⟩:=he
   exact wp_skip (hQ _ _ hr)
  ·exact absurd rfl (hne _ _ _ _)
 | label l=>
  intro pc st bl e a w Q hc he hr hQ
  obtain ⟨qT,s0,hne,yQ,he,hr⟩:=BB pc st he hr
  rw [←yQ] at hc
  cases qT<;>simp only [ew,erase,Option.some.injEq,reduceCtorEq] at hc
  ·simp only [prun,Option.some.injEq,Prod.mk.injEq] at he
   obtain ⟨rfl,rfl⟩:=he
   exact wp_label (hQ _ _ hr)
  ·exact absurd rfl (hne _ _ _ _)
 | exit id=>
  intro pc st bl e a w Q hc he hr hQ
  obtain ⟨qT,s0,hne,yQ,he,hr⟩:=BB pc st he hr
  rw [←yQ] at hc
  cases qT<;>simp only [ew,erase,Option.some.injEq,reduceCtorEq] at hc
  ·cases hc
   simp only [prun,Option.some.injEq,Prod.mk.injEq] at he
   obtain ⟨rfl,rfl⟩:=he
   exact wp_exit (hQ _ _ hr)
  ·exact absurd rfl (hne _ _ _ _)
 | ret=>
  intro pc st bl e a w Q hc he hr hQ
  obtain ⟨qT,s0,hne,yQ,he,hr⟩:=BB pc st he hr
  rw [←yQ] at hc
  cases qT<;>simp only [ew,erase,Option.some.injEq,reduceCtorEq] at hc
  ·simp only [prun,Option.some.injEq,Prod.mk.injEq] at he
   obtain ⟨rfl,rfl⟩:=he
   exact wp_ret (hQ _ _ hr)
  ·exact absurd rfl (hne _ _ _ _)
 | region id ops draw=>
  intro pc st bl e a w Q hc he hr hQ
  obtain ⟨qT,s0,hne,yQ,he,hr⟩:=BB pc st he hr
  rw [←yQ] at hc
  simp only [ew] at hc
  split at hc
  ·rename_i pos ai8
   cases draw with
   | false=>
    simp only [Bool.false_eq_true,if_false,Option.some.injEq] at hc
    cases qT<;>simp only [erase,reduceCtorEq] at hc
    ·cases hc
     simp only [prun] at he
     split at he
     ·rename_i s hs
      simp only [Option.some.injEq,Prod.mk.injEq] at he
      obtain ⟨rfl,rfl⟩:=he
      exact wp_region_list (Sw k5 ai8 hs hr hQ)
     ·cases he
    ·exact absurd rfl (hne _ _ _ _)
   | true=>
    simp only [if_true] at hc
    split at hc
    ·rename_i hh
     simp only [Option.some.injEq] at hc
     cases qT<;>simp only [erase,reduceCtorEq] at hc
     ·cases hc
      simp only [prun] at he
      split at he
      ·rename_i outs s hs
       split at he
       ·rename_i hap
        simp only [Option.some.injEq,Prod.mk.injEq] at he
        obtain ⟨rfl,rfl⟩:=he
        exact afo k5 hh.2.2 ai8 hh.1 hh.2.1 hs hap hr hQ
       ·cases he
      ·cases he
     ·exact absurd rfl (hne _ _ _ _)
    ·cases hc
  ·cases hc
 | seq x y ihx ihy=>
  intro pc st bl e a w Q hc he hr hQ
  obtain ⟨qT,s0,hne,yQ,he,hr⟩:=BB pc st he hr
  rw [←yQ] at hc
  simp only [ew] at hc
  split at hc
  ·rename_i px py h1 h2
   simp only [Option.some.injEq] at hc
   cases qT<;>simp only [erase,reduceCtorEq] at hc
   ·cases hc
    simp only [prun] at he
    refine wp_seq ?_
    split at he
    ·rename_i s hs
     exact ihx h1 hs hr fun a' w' kB=>ihy h2 he kB hQ
    ·rename_i hne
     refine ihx h1 he hr fun a' w' kB=>?_
     cases e with
     | normal=>exact absurd he (hne _)
     | exit id=>exact hQ _ _ kB
     | ret=>exact hQ _ _ kB
   ·exact absurd rfl (hne _ _ _ _)
  ·cases hc
 | cond cc x y ihx ihy=>
  intro pc st bl e a w Q hc he hr hQ
  obtain ⟨qT,s0,hne,yQ,he,hr⟩:=BB pc st he hr
  rw [←yQ] at hc
  simp only [ew] at hc
  split at hc
  ·rename_i px py h1 h2
   simp only [Option.some.injEq] at hc
   cases qT<;>simp only [erase,reduceCtorEq] at hc
   ·cases hc
    simp only [prun] at he
    split at he
    ·rename_i b hb
     obtain ⟨φ,hm,hs⟩:=hr.all
     have yj:=uG hb (Jr hs cc)
     cases b with
     | true=>exact wp_cond_true yj (ihx h1 (by simpa using he) hr hQ)
     | false=>exact wp_cond_false yj (ihy h2 (by simpa using he) hr hQ)
    ·cases he
   ·exact absurd rfl (hne _ _ _ _)
  ·cases hc
 | block id c ih=>
  intro pc st bl e a w Q hc he hr hQ
  obtain ⟨qT,s0,hne,yQ,he,hr⟩:=BB pc st he hr
  rw [←yQ] at hc
  simp only [ew] at hc
  split at hc
  ·rename_i px h1
   simp only [Option.some.injEq] at hc
   cases qT<;>simp only [erase,reduceCtorEq] at hc
   rotate_left
   ·exact absurd rfl (hne _ _ _ _)
   rename_i id' qT
   cases hc
   simp only [prun] at he
   refine wp_block ?_
   cases hq:prun γ n qT s0 with
   | none=>rw [hq] at he;cases he
   | some q=>
    obtain ⟨e',s⟩:=q
    rw [hq] at he
    refine ih h1 hq hr fun a' w' kB=>?_
    cases e' with
    | normal=>
     simp only [blk,Option.some.injEq,Prod.mk.injEq] at he
     obtain ⟨rfl,rfl⟩:=he
     exact hQ _ _ kB
    | ret=>
     simp only [blk,Option.some.injEq,Prod.mk.injEq] at he
     obtain ⟨rfl,rfl⟩:=he
     exact hQ _ _ kB
    | exit i=>
     simp only [blk] at he
     simp only [ajG,Exit.inBlock]
     split at he
     ·rename_i hi
      simp only [Option.some.injEq,Prod.mk.injEq] at he
      obtain ⟨rfl,rfl⟩:=he
      rw [if_pos hi];exact hQ _ _ kB
     ·rename_i hi
      simp only [Option.some.injEq,Prod.mk.injEq] at he
      obtain ⟨rfl,rfl⟩:=he
      rw [if_neg hi];exact hQ _ _ kB
  ·cases hc
 | loop c ih=>
  intro pc st bl e a w Q hc he hr hQ
  obtain ⟨qT,s0,hne,yQ,he,hr⟩:=BB pc st he hr
  rw [←yQ] at hc
  simp only [ew] at hc
  split at hc
  ·rename_i px0 h1
   simp only [Option.some.injEq] at hc
   cases qT<;>simp only [erase,reduceCtorEq] at hc
   rotate_left
   ·exact absurd rfl (hne _ _ _ _)
   rename_i px
   cases hc
   simp only [prun] at he
   have key: ∀a w,(∃k s,iter (prun γ n px) k s=some (e,bl)∧Rel E m aQ w0 N s a w)→ ∃k,(∃s,iter (prun γ n px) k s=some (e,bl)∧Rel E m aQ w0 N s a w)∧ ∀j,(∃s,iter (prun γ n px) j s=some (e,bl)∧Rel E m aQ w0 N s a w)→k≤j:=by
    intro a w ⟨k,s,h⟩
    induction k using Nat.strongRecOn generalizing s with
    | ind k ihk=>
     by_cases ZQ: ∀j,(∃s,iter (prun γ n px) j s=some (e,bl)∧Rel E m aQ w0 N s a w)→k≤j
     ·exact ⟨k,⟨s,h⟩,ZQ⟩
     ·simp only [Classical.not_forall] at ZQ
      obtain ⟨j,⟨s2,h2⟩,hj⟩:=ZQ
      exact ihk j (by omega) s2 h2
   classical
   let μ:Act→World→Nat:=fun a w=>if h: ∃k s,iter (prun γ n px) k s=some (e,bl)∧Rel E m aQ w0 N s a w then (key a w h).choose else 0
   refine wp_loop (fun a w=> ∃k s,iter (prun γ n px) k s=some (e,bl)∧Rel E m aQ w0 N s a w) μ ⟨n,s0,he,hr⟩ ?_
   intro a w hI
   have hμ:μ a w=(key a w hI).choose:=dif_pos hI
   obtain ⟨⟨s,hs,hrs⟩,_⟩:=(key a w hI).choose_spec
   rw [←hμ] at hs
   cases hk:μ a w with
   | zero=>rw [hk] at hs;cases hs
   | succ k=>
    rw [hk] at hs
    simp only [iter] at hs
    split at hs
    ·rename_i s1 hs1
     refine ih h1 hs1 hrs fun a' w' kB=>?_
     have hI': ∃k s,iter (prun γ n px) k s=some (e,bl)∧Rel E m aQ w0 N s a' w':=⟨k,s1,hs,kB⟩
     refine ⟨hI',?_⟩
     have aCO:μ a' w'=(key a' w' hI').choose:=dif_pos hI'
     have:=(key a' w' hI').choose_spec.2 k ⟨s1,hs,kB⟩
     rw [aCO];omega
    ·rename_i hne
     refine ih h1 hs hrs fun a' w' kB=>?_
     cases e with
     | normal=>exact absurd hs (hne _)
     | exit id=>exact hQ _ _ kB
     | ret=>exact hQ _ _ kB
  ·cases hc
 | _=>intro pc st bl e a w Q hc;simp [ew] at hc
def PL(tmps:Array Value):ResultVar→Sem Value
 | .tmp t=>pure (tmps.getD t undef)
 | .cell b t=>do loadVar t (←asAddr (tmps.getD b undef))
theorem JE{st:St}{a:Act}{w:World}{φ:Nat→cr}(hm:Mem E m aQ w0 φ st.h w)(hs: ∀t,cK (cW E φ) w (bk φ st.h) (st.s t) (a.eval (.tmp t))): ∀{rs:List ResultVar} {pr:List PR} {l:List PV},rU P rs=some pr→GC st pr=some l→
  ∃vs,(rs.mapM (PL a.tmps)).run P w= .ok vs w∧aY (cW E φ) w (bk φ st.h) l vs
 | [],pr,l,hc,he=>by
  simp only [rU,Option.some.injEq] at hc;subst hc
  simp only [GC,Option.some.injEq] at he;subst he
  exact ⟨[],rfl,rfl⟩
 | .tmp t::rs,pr,l,hc,he=>by
  simp only [rU,Option.map_eq_some_iff] at hc
  obtain ⟨q,hq,rfl⟩:=hc
  simp only [GC] at he
  split at he
  ·rename_i l' hl'
   simp only [Option.some.injEq] at he;subst he
   obtain ⟨vs,h1,h2⟩:=JE hm hs hq hl'
   refine ⟨a.tmps.getD t undef::vs,?_,⟨_,_,rfl,hs t,h2⟩⟩
   simp only [List.mapM_cons,PL,Sem.run_bind,Sem.run_pure,Result.andThen_ok,h1]
  ·cases he
 | .cell b t::rs,pr,l,hc,he=>by
  simp only [rU] at hc
  split at hc
  ·rename_i dd n hd hn
   split at hc
   ·rename_i Pw
    simp only [Option.map_eq_some_iff] at hc
    obtain ⟨q,hq,rfl⟩:=hc
    simp only [GC] at he
    split at he
    ·rename_i p aD l' hp hl'
     simp only [Option.some.injEq] at he;subst he
     obtain ⟨vs,h1,h2⟩:=JE hm hs hq hl'
     have ai4:aD= []:=by
      simp only [az] at hp
      repeat' split at hp
      all_goals first | (cases hp;done) | (cases hp;rfl)
     subst ai4
     have ajo:=Je (P:=P) (γ:=fun _ _ _=>none) (d:=0) (ev:=a.eval) hm (Jr hs) hd hn Pw hp
     have: ∃v,(Instr.loadAt t (a.eval (.tmp b))).run P w= .ok v w∧cK (cW E φ) w (bk φ st.h) p v:=by
      simp only [az] at hp
      have hb:=hs b
      have fin: ∀{cs:List PV} {us:List Value} {bb o0 o:Nat},aY (cW E φ) w (bk φ st.h) cs us→(∀j u,us[j]?=some u→w.cell? ⟨bb,o0+j,none⟩=some u)→Pm.part (gm P t) cs o n=some p→a.eval (.tmp b)= .pointer (some ⟨bb,o0+o,none⟩)→
        ∃v,(Instr.loadAt t (a.eval (.tmp b))).run P w= .ok v w∧cK (cW E φ) w (bk φ st.h) p v:=by
       intro cs us bb o0 o hr hcc hpp yj
       obtain ⟨q1,q2⟩:=Aj hpp Pw hr
       rw [yj]
       exact ⟨_,Jd hd hn Pw q1 (Nx hcc o n),q2⟩
      split at hp
      ·rename_i i g o e
       have e:st.s b= .r (.ptr i g o):=e
       rw [e] at hb
       split at hp
       ·rename_i cs hl
        split at hp
        ·rename_i kZ
         obtain ⟨bb,c,hpp,hv,us,r1,r2⟩:=hm.cells (fun cs' h=>by cases h;exact kZ) hl hb
         split at hp
         ·rename_i q hq;cases hp
          exact fin (o0:=off c) r1 r2 hq hv
         ·cases hp
        ·cases hp
       ·rename_i e' k cs hl
        obtain ⟨bb,c,hpp,hv,us,r1,r2⟩:=hm.cells (fun cs' h=>by cases h) hl hb
        split at hp
        ·rename_i q hq;cases hp
         rw [pT] at hq
         exact fin (o0:=off c) r1 r2 hq hv
        ·cases hp
       ·cases hp
      ·rename_i cs e
       have e:st.s b= .cD cs:=e
       rw [e] at hb
       obtain ⟨bb,o,hv,_,_,hcc⟩:=hb
       obtain ⟨us,r1,r2⟩:=hcc.vals (R:=bk φ st.h)
       split at hp
       ·rename_i q hq;cases hp
        rw [pT] at hq
        exact fin (o0:=o) r1 r2 hq (by rw [hv,Nat.add_zero])
       ·cases hp
      ·cases hp
     obtain ⟨v,hv,hpv⟩:=this
     have hrun:(do loadVar t (←asAddr (a.tmps.getD b undef)):Sem Value).run P w= .ok v w:=by
      have e:a.eval (.tmp b)=a.tmps.getD b undef:=rfl
      rw [e] at hv
      unfold Instr.loadAt at hv
      generalize a.tmps.getD b undef=x at hv ⊢
      cases x with
      | pointer q=>
       cases q with
       | none=>simp [Instr.sureAddr] at hv
       | some q=>simpa [Instr.sureAddr,asAddr] using hv
      | _=>simp [Instr.sureAddr] at hv
     refine ⟨v::vs,?_,⟨_,_,rfl,hpv,h2⟩⟩
     simp only [List.mapM_cons,PL,Sem.run_bind] at hrun ⊢
     simp only [hrun,Result.andThen_ok,h1,Sem.run_pure]
    ·cases he
   ·cases hc
  ·cases hc
end
end Go.Proofs.YtimbfadnabfabaaGreatDoor.Pm
