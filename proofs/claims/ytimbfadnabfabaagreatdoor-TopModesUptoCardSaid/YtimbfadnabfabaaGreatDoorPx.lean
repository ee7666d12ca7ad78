/- The small machine: what an operation looks at. No program is named here. -/
import Derived.Test.YtimbfadnabfabaaGreatDoorPw
namespace Go.Proofs.YtimbfadnabfabaaGreatDoor.Pm
open Go.RowKit

def oL:Option Operand→List Operand
 | some x=> [x]
 | none=> []
def cw:kj→List Operand
 | .Cx x | .un _ x | .ku _ x | .sS x | .Ri x | .Rj x | .box _ x | .load _ _ x | .Mw x | .Rk _ x | .Rl _ _ _ x | .Rm _ _ x | .Oy _ _ x | .ext x _ | .len _ x | .isN _ x | .isE _ x | .ahf x | .HN _ x | .Vj x | .OA x=> [x]
 | .FC .. | .alloc _ | .uV _=> []
 | .pick c a b=> [c,a,b]
 | .qK _ x y | .sh _ x y | .sQ _ x y | .jD _ x y | .eqB _ x y | .Vi _ _ x y | .store _ x y | .sN _ _ x y | .jz _ _ x y | .GH _ _ _ x y | .iw x y | .app _ _ _ x y | .Oz _ _ _ _ x y | .Cy _ x y=> [x,y]
 | .build _ ps | .wU _ _ _ _ ps=>ps.map (·.2.2)
 | .uW _ _ x lo hi | .Ox _ _ x lo hi | .HP _ _ x lo hi | .uX x lo hi=>x::oL lo++oL hi
 | .mkF _ cs | .call _ cs | .fO _ cs | .jd _ cs | .mx cs | .mn cs=>cs
 | .lU x cs=>x::cs

section
variable {γ : ek} {H H' : Nat → cq} {ρ ρ' : Operand → PV} {d : Nat}
theorem BB: ∀(ps:List (Nat×Nat×Operand)) (cs:List PV),(∀x∈ps.map (·.2.2),ρ x=ρ' x)→pG ρ cs ps=pG ρ' cs ps
 | [],cs,_=>rfl
 | (o,n,x)::r,cs,h=>by
  simp only [pG,h x (by simp)]
  split
  ·split
   ·exact BB r _ (fun y hy=>h y (by simp at hy ⊢;exact .inr hy))
   ·rfl
  ·rfl
theorem ET: ∀(xs:List Operand),(∀x∈xs,ρ x=ρ' x)→ints ρ xs=ints ρ' xs
 | [],_=>rfl
 | x::xs,h=>by simp only [ints,h x (by simp),ET xs (fun y hy=>h y (by simp [hy]))]
theorem oO(n:Nat)(x:Option Operand)(h: ∀y∈oL x,ρ y=ρ' y):jP ρ n x=jP ρ' n x:=by
 cases x with
 | none=>rfl
 | some x=>simp only [jP,h x (by simp [oL])]
theorem fG{i:Nat}(h:H i=H' i)(g:Nat):look H i g=look H' i g:=by simp only [look,h]
theorem CQ{p:PV}(h: ∀i∈dw p,H i=H' i):fJ H p=fJ H' p:=by
 unfold fJ
 split
 ·rfl
 ·rfl
 ·rfl
 ·rename_i i g l n;rw [fG (h i (by simp [dw]))]
 ·rfl
theorem ahM{k:Nat}{p:PV}(h: ∀i∈dw p,H i=H' i):Re H k p=Re H' k p:=by
 unfold Re
 split
 ·rfl
 ·exact CQ h
mutual
theorem VI: ∀(p:PV),(∀i∈dw p,H i=H' i)→gA H p=gA H' p
 | .d _,_=>rfl
 | .agg cs,h=>by simp only [gA,ve cs h]
 | .fn f cs,h=>by simp only [gA,ve cs h]
 | .cD _,_=>rfl
 | .nil,_=>rfl
 | .jo ..,_=>rfl
 | .un,_=>rfl
 | .bE _,_=>rfl
 | .r (.ptr i g o),h=>by simp only [gA,fG (h i (by simp [dw])) g]
 | .r (.aJ i g l n),h=>by simp only [gA,fG (h i (by simp [dw])) g]
 | .r (.own ..),_=>rfl
theorem ve: ∀(ps:List PV),(∀i∈bA ps,H i=H' i)→gU H ps=gU H' ps
 | [],_=>rfl
 | p::ps,h=>by simp only [gU,VI p (fun i hi=>h i (by simp [bA,hi])),ve ps (fun i hi=>h i (by simp [bA,hi]))]
end
mutual
theorem RV: ∀(p:PV),(∀x∈owns p,H (aZ d x.1)=H' (aZ d x.1))→Ah H d p=Ah H' d p
 | .d _,_=>rfl
 | .agg cs,h=>by simp only [Ah,CR cs h]
 | .bE cs,h=>by simp only [Ah,CR cs h]
 | .fn f cs,h=>by simp only [Ah,CR cs h]
 | .cD _,_=>rfl
 | .nil,_=>rfl
 | .jo ..,_=>rfl
 | .un,_=>rfl
 | .r (.ptr i g o),h=>rfl
 | .r (.aJ i g l n),h=>rfl
 | .r (.own j e k n cs),h=>by simp only [Ah,h (j,.own e k cs) (by simp [owns])]
theorem CR: ∀(ps:List PV),(∀x∈eB ps,H (aZ d x.1)=H' (aZ d x.1))→Rh H d ps=Rh H' d ps
 | [],_=>rfl
 | p::ps,h=>by simp only [Rh,RV p (fun x hx=>h x (by simp [eB,hx])),CR ps (fun x hx=>h x (by simp [eB,hx]))]
end
theorem w_{f:Nat}{args:List PV}(h1: ∀i∈bA args,H i=H' i)(h2: ∀j,j<8→H (aZ d j)=H' (aZ d j)):jq γ H d f args=jq γ H' d f args:=by
 unfold jq
 rw [ve args h1]
 split
 ·rfl
 ·split
  ·rfl
  ·rename_i r _
   split
   ·rename_i hc
    simp only [Bool.and_eq_true,List.all_eq_true,decide_eq_true_eq] at hc
    rw [RV r (fun x hx=>h2 _ (hc.2 x hx))]
    congr 2
    apply List.map_congr_left
    intro x hx
    simp only [nw,h2 _ (hc.2 x hx)]
   ·rfl
mutual
theorem ahN{ids:List Nat}(h: ∀i∈ids,H i=H' i): ∀(p:PV),HQ ids H p=HQ ids H' p
 | .d _=>rfl
 | .agg cs=>by simp only [HQ,tX h cs]
 | .bE cs=>by simp only [HQ,tX h cs]
 | .fn f cs=>by simp only [HQ,tX h cs]
 | .cD _=>rfl
 | .nil=>rfl
 | .jo .. =>rfl
 | .un=>rfl
 | .r (.own ..)=>rfl
 | .r (.ptr i g o)=>by
  simp only [HQ]
  cases hp:posOf ids i with
  | none=>cases look H i g<;>cases look H' i g<;>rfl
  | some q=>rw [fG (h i (List.mem_of_getElem? (qP hp))) g]
 | .r (.aJ i g l n)=>by
  simp only [HQ]
  cases hp:posOf ids i with
  | none=>cases look H i g<;>cases look H' i g<;>rfl
  | some q=>rw [fG (h i (List.mem_of_getElem? (qP hp))) g]
theorem tX{ids:List Nat}(h: ∀i∈ids,H i=H' i): ∀(ps:List PV),wN ids H ps=wN ids H' ps
 | []=>rfl
 | p::ps=>by simp only [wN,ahN h p,tX h ps]
end
theorem ahO{ids:List Nat}(h: ∀i∈ids,H i=H' i)(b:bH):nQ ids H b=nQ ids H' b:=by
 cases b with
 | box cs=>simp only [nQ,tX h cs]
 | own=>rfl
mutual
theorem RX{fx:Bool}{ids:List Nat}(h: ∀i∈ids,H i=H' i): ∀(p:PV),(∀x∈owns p,H (aZ d x.1)=H' (aZ d x.1))→qL fx ids H d p=qL fx ids H' d p
 | .d _,_=>rfl
 | .agg cs,h2=>by simp only [qL,xb h cs h2]
 | .bE cs,h2=>by simp only [qL,xb h cs h2]
 | .fn f cs,h2=>by simp only [qL,xb h cs h2]
 | .cD _,_=>rfl
 | .nil,_=>rfl
 | .jo ..,_=>rfl
 | .un,_=>rfl
 | .r (.own j e k n cs),h2=>by simp only [qL,h2 (j,.own e k cs) (by simp [owns])]
 | .r (.ptr p g o),_=>by
  simp only [qL]
  cases hi:ids[p]? with
  | none=>rfl
  | some i=>simp only [pU,h i (List.mem_of_getElem? hi)]
 | .r (.aJ p g l n),_=>by
  simp only [qL]
  cases hi:ids[p]? with
  | none=>rfl
  | some i=>simp only [pU,h i (List.mem_of_getElem? hi)]
theorem xb{fx:Bool}{ids:List Nat}(h: ∀i∈ids,H i=H' i): ∀(ps:List PV),(∀x∈eB ps,H (aZ d x.1)=H' (aZ d x.1))→OB fx ids H d ps=OB fx ids H' d ps
 | [],_=>rfl
 | p::ps,h2=>by simp only [OB,RX h p (fun x hx=>h2 x (by simp [eB,hx])),xb h ps (fun x hx=>h2 x (by simp [eB,hx]))]
end
theorem MS{fx:Bool}{all:List Nat}(h: ∀i∈all,H i=H' i): ∀(is:List Nat) (bs:List bH),(∀i∈is,i∈all)→(∀b∈bs,∀x∈wV b,H (aZ d x.1)=H' (aZ d x.1))→j7 fx H all d is bs=j7 fx H' all d is bs
 | [],_,_,_=>rfl
 | i::is,[],_,_=>rfl
 | i::is,b::bs,hi,h2=>by
  have e1:Lg fx all H d b=Lg fx all H' d b:=by
   cases b with
   | box cs=>have:=xb (fx:=fx) (d:=d) h cs (h2 (.box cs) (by simp));simp only [Lg,this]
   | own=>rfl
  simp only [j7,e1,pU,h i (hi i (by simp)),MS h is bs (fun j hj=>hi j (by simp [hj])) (fun b hb=>h2 b (by simp [hb]))]
theorem FJ: ∀{ids:List Nat},(∀i∈ids,H i=H' i)→gH H ids=gH H' ids
 | [],_=>rfl
 | i::ids,h=>by simp only [gH,h i (by simp),FJ (ids:=ids) (fun j hj=>h j (by simp [hj]))]
theorem Iq{args:List PV}(h: ∀i∈bA args,H i=H' i):fK H args=fK H' args:=by
 have: ∀(l:List Nat),(∀i∈l,H i=H' i)→(l.flatMap fun i=>Vk (H i).b)=l.flatMap fun i=>Vk (H' i).b:=by
  intro l
  induction l with
  | nil=>intro _;rfl
  | cons x l ih=>intro h;simp only [List.flatMap_cons,h x (by simp),ih (fun i hi=>h i (by simp [hi]))]
 unfold fK
 rw [this _ h]
theorem Ir{H H':Nat→cq}: ∀{ids:List Nat} {bs:List bH},(∀i∈ids,H i=H' i)→iy H ids bs=iy H' ids bs
 | [],_,_=>by simp [iy]
 | _::_,[],_=>by simp [iy]
 | i::ids,b::bs,h=>by simp only [iy,h i (by simp),Ir (ids:=ids) (bs:=bs) (fun j hj=>h j (by simp [hj]))]
theorem OS{f:Nat}{args:List PV}(h0: ∀i∈bA args,H i=H' i)(h1: ∀i∈fK H args,H i=H' i)(h2: ∀j,j<8→H (aZ d j)=H' (aZ d j)):mR γ H d f args=mR γ H' d f args:=by
 have e:=Iq h0
 unfold mR
 rw [←e]
 generalize fK H args=ids at h1
 rw [FJ h1]
 split
 ·rfl
 ·rename_i bs _
  have e2:bs.map (nQ ids H)=bs.map (nQ ids H'):=List.map_congr_left fun b _=>ahO h1 b
  rw [tX h1,e2]
  split
  ·rfl
  ·rename_i r bJ _
   have e3:Lh H ids bJ=Lh H' ids bJ:=by unfold Lh;rw [Ir h1]
   rw [e3]
   split
   ·rename_i hc
    simp only [Bool.and_eq_true,List.all_eq_true,decide_eq_true_eq] at hc
    have ho: ∀x∈cA r bJ,H (aZ d x.1)=H' (aZ d x.1):=fun x hx=>h2 _ (hc.2 x hx).1
    rw [RX h1 r (fun x hx=>ho x (List.mem_append.2 (.inl hx))),MS h1 ids bJ (fun _ h=>h) (fun b hb x hx=>ho x (List.mem_append.2 (.inr (List.mem_flatMap.2 ⟨b,hb,hx⟩))))]
    congr 3
    apply List.map_congr_left
    intro x hx
    simp only [nw,ho x hx]
   ·rfl
theorem Iu: ∀(a b:List PV),bA (a++b)=bA a++bA b
 | [],_=>rfl
 | p::a,b=>by simp [bA,Iu a b]
theorem qR{i:Nat}: ∀{l:List PV},i∈bA l↔ ∃p∈l,i∈dw p
 | []=>by simp [bA]
 | p::l=>by simp [bA,qR (l:=l)]
theorem RY{p:PV}{l:List PV}(h:p.cells?=some l){i:Nat}(hi:i∈bA l):i∈dw p:=by
 cases p<;>simp only [PV.cells?,Option.some.injEq] at h<;>first | cases h;done | (subst h;have:=hi;rw [show∀p:PV,bA [p]=dw p from fun p=>by rw [bA,bA,List.append_nil]] at this;exact this) | (subst h;exact hi)
theorem xd: ∀(ps:List (Nat×Nat×Operand)) (cs cs':List PV),pG ρ cs ps=some cs'→ ∀i∈bA cs',i∈bA cs∨i∈bA (ps.map fun x=>ρ x.2.2)
 | [],cs,cs',h,i,hi=>by cases h;exact .inl hi
 | (o,n,x)::r,cs,cs',h,i,hi=>by
  simp only [pG] at h
  split at h
  ·rename_i new hn
   split at h
   ·rcases xd r _ _ h i hi with h1 | h1
    ·obtain ⟨p,hp,hip⟩:=qR.1 h1
     simp only [bZ,List.mem_append] at hp
     rcases hp with (hp | hp) | hp
     ·exact .inl (qR.2 ⟨p,List.mem_of_mem_take hp,hip⟩)
     ·exact .inr (by simp only [List.map_cons,bA,List.mem_append];exact .inl (RY hn (qR.2 ⟨p,hp,hip⟩)))
     ·exact .inl (qR.2 ⟨p,List.mem_of_mem_drop hp,hip⟩)
    ·exact .inr (by simp only [List.map_cons,bA,List.mem_append];exact .inr h1)
   ·cases h
  ·cases h
theorem xe: ∀(z:List (Nat×Value)),bA (jc z)= []
 | []=>rfl
 | (n,v)::r=>by
  simp only [jc,Iu,xe r,List.append_nil]
  have hv:dw (ofConst v)= []:=by unfold ofConst;split<;>rfl
  induction n with
  | zero=>rfl
  | succ n ih=>simp [List.replicate_succ,bA,hv,ih]
mutual
theorem adI(D:Nat→Bool): ∀(p:PV),(∀i∈dw p,H i=H' i)→mj D H p=mj D H' p
 | .d _,_=>rfl
 | .agg cs,h=>by simp only [mj,qA D cs h]
 | .bE cs,h=>by simp only [mj,qA D cs h]
 | .fn f cs,h=>by simp only [mj,qA D cs h]
 | .cD _,_=>rfl
 | .nil,_=>rfl
 | .jo ..,_=>rfl
 | .un,_=>rfl
 | .r (.ptr i g o),h=>rfl
 | .r (.aJ i g l n),h=>by simp only [mj,fG (h i (by simp [dw])) g]
 | .r (.own ..),_=>rfl
theorem qA(D:Nat→Bool): ∀(ps:List PV),(∀i∈bA ps,H i=H' i)→jO D H ps=jO D H' ps
 | [],_=>rfl
 | p::ps,h=>by simp only [jO,adI D p (fun i hi=>h i (by simp [bA,hi])),qA D ps (fun i hi=>h i (by simp [bA,hi]))]
end
mutual
theorem VJ(D:Nat→Bool)(H:Nat→cq): ∀(p:PV),(∀i∈dw p,D i=true)→dw (mj D H p)= []
 | .d _,_=>rfl
 | .agg cs,h=>by simp only [mj,dw];exact qT D H cs h
 | .bE cs,h=>by simp only [mj,dw];exact qT D H cs h
 | .fn f cs,h=>by simp only [mj,dw];exact qT D H cs h
 | .cD _,_=>rfl
 | .nil,_=>rfl
 | .jo ..,_=>rfl
 | .un,_=>rfl
 | .r (.ptr i g o),h=>by simp only [mj,h i (by simp [dw]),if_true];rfl
 | .r (.aJ i g l n),h=>by
  simp only [mj,h i (by simp [dw]),if_true]
  split<;>rfl
 | .r (.own ..),_=>rfl
theorem qT(D:Nat→Bool)(H:Nat→cq): ∀(ps:List PV),(∀i∈bA ps,D i=true)→bA (jO D H ps)= []
 | [],_=>rfl
 | p::ps,h=>by simp only [jO,bA,VJ D H p (fun i hi=>h i (by simp [bA,hi])),qT D H ps (fun i hi=>h i (by simp [bA,hi])),List.append_nil]
end
theorem VK{pop:kj}(h1: ∀x∈cw pop,ρ x=ρ' x)(h2: ∀a∈bT ρ H d pop,H a.1=H' a.1):az γ H d ρ pop=az γ H' d ρ' pop:=by
 have rf: ∀{p:PV} {c:Bool},(∀a∈(dw p).map (fun i=>(i,c)),H a.1=H' a.1)→ ∀i∈dw p,H i=H' i:=fun h i hi=>h (i,_) (List.mem_map_of_mem hi)
 cases pop with
 | FC e k=>simp only [az,nw,h2 (aZ d 0,true) (by simp [bT])]
 | alloc z=>simp only [az,nw,h2 (aZ d 0,true) (by simp [bT])]
 | uV z=>simp only [az,nw,h2 (aZ d 0,true) (by simp [bT])]
 | box n x=>simp only [az,nw,h2 (aZ d 0,true) (by simp [bT]),h1 x (by simp [cw])]
 | wU e k n z ps=>
  simp only [az,←BB ps _ h1]
  cases hf:pG ρ (jc z) ps with
  | none=>rfl
  | some cs=>
   have hs: ∀i∈bA cs,H i=H' i:=fun i hi=>by
    rcases xd ps _ _ hf i hi with h | h
    ·rw [xe] at h;cases h
    ·exact h2 (i,true) (by simp only [bT,List.mem_cons];exact .inr (List.mem_map_of_mem h))
   have e1:(bA cs).map (fun i=>(i,(⟨(H i).g+1,none⟩:cq)))=(bA cs).map (fun i=>(i,(⟨(H' i).g+1,none⟩:cq))):=List.map_congr_left fun i hi=>by rw [hs i hi]
   simp only [qA _ cs hs,e1,nw,h2 (aZ d 0,true) (by simp [bT])]
 | Rm e k x=>
  have hx:=h1 x (by simp [cw])
  have:=CQ (rf (p:=ρ x) (c:=false) (fun a ha=>h2 a (by simp only [bT,rd,List.mem_cons];exact .inr ha)))
  simp only [az,nw,h2 (aZ d 0,true) (by simp [bT]),←hx,this]
 | sS x=>
  have hx:=h1 x (by simp [cw])
  have:=CQ (rf (p:=ρ x) (c:=false) h2)
  simp only [az,←hx,this]
 | load a n x=>
  have hx:=h1 x (by simp [cw])
  have hr:=rf (p:=ρ x) (c:=false) h2
  simp only [az,←hx]
  split<;>first | rfl | (rename_i e;rw [e] at hr;rw [fG (hr _ (by simp [dw]))])
 | Mw x=>simp only [az,←h1 x (by simp [cw])]
 | Rk o x=>simp only [az,←h1 x (by simp [cw])]
 | sN len k x i=>simp only [az,←h1 x (by simp [cw]),←h1 i (by simp [cw])]
 | jz e k x i=>
  have hx:=h1 x (by simp [cw])
  have hi:=h1 i (by simp [cw])
  have hr:=rf (p:=ρ x) (c:=false) h2
  simp only [az,←hx,←hi]
  split<;>first | rfl | (rename_i e _;rw [e] at hr;rw [fG (hr _ (by simp [dw]))])
 | uW e k x lo hi=>
  have hx:=h1 x (by simp [cw])
  have hr:=rf (p:=ρ x) (c:=false) h2
  have hl:=fun n=>oO (ρ:=ρ) (ρ':=ρ') n lo (fun y hy=>h1 y (by simp [cw,hy]))
  have hh:=fun n=>oO (ρ:=ρ) (ρ':=ρ') n hi (fun y hy=>h1 y (by simp [cw,hy]))
  simp only [az,←hx,←hl,←hh]
  split<;>first | rfl | (rename_i e;rw [e] at hr;rw [fG (hr _ (by simp [dw]))])
 | Ox n k x lo hi=>
  have hx:=h1 x (by simp [cw])
  have hr:=rf (p:=ρ x) (c:=true) h2
  have hl:=fun n=>oO (ρ:=ρ) (ρ':=ρ') n lo (fun y hy=>h1 y (by simp [cw,hy]))
  have hh:=fun n=>oO (ρ:=ρ) (ρ':=ρ') n hi (fun y hy=>h1 y (by simp [cw,hy]))
  simp only [az,←hx,←hl,←hh]
  split<;>first | rfl | (rename_i e;rw [e] at hr;rw [fG (hr _ (by simp [dw]))])
 | Oy k z x=>
  have hx:=h1 x (by simp [cw])
  have hr:=rf (p:=ρ x) (c:=true) h2
  simp only [az,←hx]
  split<;>first | rfl | (rename_i e;rw [e] at hr;rw [fG (hr _ (by simp [dw]))])
 | HP e k x lo hi=>
  have hx:=h1 x (by simp [cw])
  have hr:=rf (p:=ρ x) (c:=true) h2
  have hl:=fun n=>oO (ρ:=ρ) (ρ':=ρ') n lo (fun y hy=>h1 y (by simp [cw,hy]))
  have hh:=fun n=>oO (ρ:=ρ) (ρ':=ρ') n hi (fun y hy=>h1 y (by simp [cw,hy]))
  simp only [az,←hx,←hl,←hh]
  split<;>first | rfl | (rename_i e;rw [e] at hr;rw [fG (hr _ (by simp [dw]))])
 | Oz e k b z l c=>simp only [az,nw,h2 (aZ d 0,true) (by simp [bT]),h1 l (by simp [cw]),h1 c (by simp [cw])]
 | Vj x=>simp only [az,nw,h2 (aZ d 0,true) (by simp [bT]),h1 x (by simp [cw])]
 | OA x=>
  have hx:=h1 x (by simp [cw])
  have hr:=rf (p:=ρ x) (c:=true) h2
  simp only [az,←hx]
  split<;>first | rfl | (rename_i e;rw [e] at hr;rw [fG (hr _ (by simp [dw]))])
 | Cy k x y=>
  have hx:=h1 x (by simp [cw])
  have hy:=h1 y (by simp [cw])
  have hrx:=rf (p:=ρ x) (c:=true) (fun a ha=>h2 a (by simp only [bT,List.mem_append];exact .inl ha))
  have hry:=rf (p:=ρ y) (c:=false) (fun a ha=>h2 a (by simp only [bT,rd,List.mem_append];exact .inr ha))
  simp only [az,←hx,←hy,CQ hry]
  split<;>first | rfl | (rename_i e _;rw [e] at hrx;rw [fG (hrx _ (by simp [dw]))])
 | len s x=>
  have hx:=h1 x (by simp [cw])
  have hr:=rf (p:=ρ x) (c:=false) h2
  cases s
  ·simp only [az,←hx]
   split<;>first | rfl | (rename_i e;rw [e] at hr;rw [fG (hr _ (by simp [dw]))])
  ·simp only [az,←hx]
 | store n x y=>
  have hx:=h1 x (by simp [cw])
  have hy:=h1 y (by simp [cw])
  have hr:=rf (p:=ρ x) (c:=true) h2
  simp only [az,←hx,←hy]
  split<;>first | rfl | (rename_i e _;rw [e] at hr;rw [fG (hr _ (by simp [dw]))])
 | app e k b x y=>
  have hx:=h1 x (by simp [cw])
  have hy:=h1 y (by simp [cw])
  have hrx:=rf (p:=ρ x) (c:=true) (fun a ha=>h2 a (by simp only [bT,List.mem_cons,List.mem_append,List.cons_append];exact .inr (.inl ha)))
  have hry:=rf (p:=ρ y) (c:=false) (fun a ha=>h2 a (by simp only [bT,rd,List.mem_cons,List.mem_append,List.cons_append];exact .inr (.inr ha)))
  simp only [az,←hx,←hy,ahM hry,h2 (aZ d 0,true) (by simp [bT])]
  split
  ·rfl
  ·split
   ·split<;>first | rfl | (rename_i e;rw [e] at hrx;rw [fG (hrx _ (by simp [dw]))])
   ·rfl
 | call f xs=>
  have hx:xs.map ρ'=xs.map ρ:=List.map_congr_left fun x hx=>(h1 x hx).symm
  simp only [az,hx]
  exact w_ (fun i hi=>h2 (i,false) (by simp only [bT,List.mem_append];exact .inl (List.mem_map_of_mem hi))) (fun j hj=>h2 (aZ d j,true) (by simp only [bT,List.mem_append];exact .inr (List.mem_map_of_mem (f:=fun j=>(aZ d j,true)) (List.mem_range.2 hj))))
 | jd f xs=>
  have hx:xs.map ρ'=xs.map ρ:=List.map_congr_left fun x hx=>(h1 x hx).symm
  have hr: ∀i∈bA (xs.map ρ),H i=H' i:=fun i hi=>h2 (i,true) (by simp only [bT,List.mem_append];exact .inl (List.mem_map_of_mem hi))
  have hb: ∀j,j<8→H (aZ d j)=H' (aZ d j):=fun j hj=>h2 (aZ d j,true) (by simp only [bT,List.mem_append];exact .inr (List.mem_map_of_mem (f:=fun j=>(aZ d j,true)) (List.mem_range.2 hj)))
  simp only [az,hx,tN]
  have e1:ig H (bA (xs.map ρ))=ig H' (bA (xs.map ρ)):=List.map_congr_left fun i hi=>by rw [hr i hi]
  rw [←qA _ _ hr,←e1]
  split
  ·rename_i hall
   have e2:jq γ (wW H (ig H (bA (xs.map ρ)))) d f (jO (kr (bA (xs.map ρ))) H (xs.map ρ))=jq γ (wW H' (ig H (bA (xs.map ρ)))) d f (jO (kr (bA (xs.map ρ))) H (xs.map ρ)):=by
    refine w_ (fun i hi=>?_) (fun j hj=>?_)
    ·rw [qT _ H _ (fun i hi=>by simp only [kr,List.any_eq_true];exact ⟨i,hi,by simp⟩)] at hi;cases hi
    ·rw [CN,CN]
     have hn: ∀y∈ig H (bA (xs.map ρ)),y.1≠aZ d j:=by
      intro y hy e
      obtain ⟨i,hi,rfl⟩:=List.mem_map.1 hy
      have:=List.all_eq_true.1 hall i hi
      simp only [Bool.and_eq_true,List.all_eq_true,List.mem_range] at this
      have:=this.2 j hj
      simp only at e
      rw [e] at this;simp at this
     rw [jt _ _ _ hn,jt _ _ _ hn,hb j hj]
   rw [e2]
  ·rfl
 | fO f xs=>
  have hx:xs.map ρ'=xs.map ρ:=List.map_congr_left fun x hx=>(h1 x hx).symm
  simp only [az,hx]
  exact OS (fun i hi=>h2 (i,false) (by simp only [bT,List.mem_append];exact .inl (.inr (List.mem_map_of_mem hi)))) (fun i hi=>h2 (i,true) (by simp only [bT,List.mem_append];exact .inl (.inl (List.mem_map_of_mem hi)))) (fun j hj=>h2 (aZ d j,true) (by simp only [bT,List.mem_append];exact .inr (List.mem_map_of_mem (f:=fun j=>(aZ d j,true)) (List.mem_range.2 hj))))
 | lU x xs=>
  have hy:=h1 x (by simp [cw])
  have hx:xs.map ρ'=xs.map ρ:=List.map_congr_left fun y hy=>(h1 y (by simp [cw,hy])).symm
  simp only [az,hx,←hy]
  split
  ·rename_i f cs e
   refine w_ (fun i hi=>?_) (fun j hj=>h2 (aZ d j,true) (by simp only [bT,List.mem_append];exact .inr (List.mem_map_of_mem (f:=fun j=>(aZ d j,true)) (List.mem_range.2 hj))))
   have aBd: ∀(l r:List PV),bA (l++r)=bA l++bA r:=by
    intro l r
    induction l with
    | nil=>rfl
    | cons p l ih=>simp [bA,ih]
   rw [aBd,List.mem_append] at hi
   rcases hi with hi | hi
   ·exact h2 (i,false) (by simp only [bT,List.mem_append];exact .inl (.inl (List.mem_map_of_mem hi)))
   ·exact h2 (i,false) (by simp only [bT,List.mem_append,rd,e];exact .inl (.inr (List.mem_map_of_mem (show i∈dw (.fn f cs) from hi))))
  ·rfl
 | Cx x=>simp only [az,h1 x (by simp [cw])]
 | pick c a b=>simp only [az,h1 c (by simp [cw]),h1 a (by simp [cw]),h1 b (by simp [cw])]
 | qK op x y=>simp only [az,h1 x (by simp [cw]),h1 y (by simp [cw])]
 | sh op x y=>simp only [az,h1 x (by simp [cw]),h1 y (by simp [cw])]
 | sQ op x y=>simp only [az,h1 x (by simp [cw]),h1 y (by simp [cw])]
 | jD op x y=>simp only [az,h1 x (by simp [cw]),h1 y (by simp [cw])]
 | eqB op x y=>simp only [az,h1 x (by simp [cw]),h1 y (by simp [cw])]
 | Vi op ks x y=>simp only [az,h1 x (by simp [cw]),h1 y (by simp [cw])]
 | isN op x=>simp only [az,h1 x (by simp [cw])]
 | isE op x=>simp only [az,h1 x (by simp [cw])]
 | ahf x=>simp only [az,h1 x (by simp [cw])]
 | HN e x=>simp only [az,nw,h1 x (by simp [cw]),h2 (aZ d 0,true) (by simp [bT])]
 | un op x=>simp only [az,h1 x (by simp [cw])]
 | ku k x=>simp only [az,h1 x (by simp [cw])]
 | Ri x=>simp only [az,h1 x (by simp [cw])]
 | Rj x=>simp only [az,h1 x (by simp [cw])]
 | build z ps=>simp only [az,BB ps _ h1]
 | Rl a o n x=>simp only [az,h1 x (by simp [cw])]
 | GH a l k x i=>simp only [az,h1 x (by simp [cw]),h1 i (by simp [cw])]
 | iw x i=>simp only [az,h1 x (by simp [cw]),h1 i (by simp [cw])]
 | uX x lo hi=>
  have hl:=fun n=>oO (ρ:=ρ) (ρ':=ρ') n lo (fun y hy=>h1 y (by simp [cw,hy]))
  have hh:=fun n=>oO (ρ:=ρ) (ρ':=ρ') n hi (fun y hy=>h1 y (by simp [cw,hy]))
  simp only [az,h1 x (by simp [cw]),hl,hh]
 | ext x i=>simp only [az,h1 x (by simp [cw])]
 | mkF f cs=>
  have hx:cs.map ρ'=cs.map ρ:=List.map_congr_left fun x hx=>(h1 x hx).symm
  simp only [az,hx]
 | mx xs=>simp only [az,ET xs h1]
 | mn xs=>simp only [az,ET xs h1]
theorem VL{pop:kj}{p:PV}{aD:eu}(h:az γ H d ρ pop=some (p,aD)): ∀x∈aD,(x.1,true)∈bT ρ H d pop:=by
 have dc': ∀{H:Nat→cq} {f:Nat} {args:List PV} {p:PV} {aD:eu},jq γ H d f args=some (p,aD)→ ∀x∈aD,(x.1,true)∈(List.range 8).map fun j=>(aZ d j,true):=by
  intro H f args p aD h x hx
  unfold jq at h
  split at h
  ·cases h
  ·split at h
   ·cases h
   ·split at h
    ·rename_i hc
     simp only [Option.some.injEq,Prod.mk.injEq] at h
     obtain ⟨rfl,rfl⟩:=h
     simp only [Bool.and_eq_true,List.all_eq_true,decide_eq_true_eq] at hc
     obtain ⟨y,hy,rfl⟩:=List.mem_map.1 hx
     exact List.mem_map.2 ⟨y.1,List.mem_range.2 (hc.2 y hy),rfl⟩
    ·cases h
 have dc: ∀{f:Nat} {args:List PV},jq γ H d f args=some (p,aD)→ ∀x∈aD,(x.1,true)∈(List.range 8).map fun j=>(aZ d j,true):=fun h=>dc' h
 cases pop with
 | call f xs=>
  simp only [az] at h
  intro x hx;simp only [bT,List.mem_append];exact .inr (dc h x hx)
 | jd f xs=>
  simp only [az,tN] at h
  intro x hx
  split at h
  ·split at h
   ·rename_i p' nJ hc
    simp only [Option.some.injEq,Prod.mk.injEq] at h
    obtain ⟨rfl,rfl⟩:=h
    simp only [bT,List.mem_append]
    rcases List.mem_append.1 hx with hx | hx
    ·obtain ⟨i,hi,rfl⟩:=List.mem_map.1 hx
     exact .inl (List.mem_map_of_mem hi)
    ·exact .inr (dc' hc x hx)
   ·cases h
  ·cases h
 | fO f xs=>
  simp only [az] at h
  intro x hx
  unfold mR at h
  split at h
  ·cases h
  ·split at h
   ·cases h
   ·split at h
    ·rename_i hc
     simp only [Option.some.injEq,Prod.mk.injEq] at h
     obtain ⟨rfl,rfl⟩:=h
     simp only [Bool.and_eq_true,List.all_eq_true,decide_eq_true_eq] at hc
     simp only [bT,List.mem_append]
     rcases List.mem_append.1 hx with hx | hx
     ·exact .inl (.inl (List.mem_map.2 ⟨_,y9 _ _ _ hx,rfl⟩))
     ·obtain ⟨y,hy,rfl⟩:=List.mem_map.1 hx
      exact .inr (List.mem_map.2 ⟨y.1,List.mem_range.2 (hc.2 y hy).1,rfl⟩)
    ·cases h
 | lU y xs=>
  simp only [az] at h
  split at h
  ·intro x hx;simp only [bT,List.mem_append];exact .inr (dc h x hx)
  ·cases h
 | wU e k n z ps=>
  simp only [az] at h
  split at h
  ·rename_i cs hf
   split at h
   ·split at h
    ·split at h
     ·cases h
      intro x hx
      rcases List.mem_append.1 hx with hx | hx
      ·obtain ⟨i,hi,rfl⟩:=List.mem_map.1 hx
       rcases xd ps _ _ hf i hi with h | h
       ·rw [xe] at h;cases h
       ·simp only [bT,List.mem_cons];exact .inr (List.mem_map_of_mem h)
      ·simp only [nw,List.mem_singleton] at hx;subst hx;simp [bT]
     ·cases h
    ·cases h
   ·cases h
  ·cases h
 | len s x=>
  cases s
  all_goals
   simp only [az] at h
   repeat' split at h
   all_goals first | (cases h;done) | skip
   all_goals
    cases h
    intro z hz
    cases hz
 | Ox n k x lo hi=>
  simp only [az] at h
  repeat' split at h
  all_goals first | (cases h;done) | skip
  all_goals
   cases h
   intro z hz
   simp only [List.mem_singleton] at hz
   subst hz
   simp only [bT,‹ρ x=_›,dw,List.map_cons,List.map_nil,List.mem_singleton]
 | Oy k z x=>
  simp only [az] at h
  repeat' split at h
  all_goals first | (cases h;done) | skip
  all_goals
   cases h
   intro z hz
   simp only [List.mem_singleton] at hz
   subst hz
   simp only [bT,‹ρ x=_›,dw,List.map_cons,List.map_nil,List.mem_singleton]
 | HP n k x lo hi=>
  simp only [az] at h
  repeat' split at h
  all_goals first | (cases h;done) | skip
  all_goals
   cases h
   intro z hz
   simp only [List.mem_singleton] at hz
   subst hz
   simp only [bT,‹ρ x=_›,dw,List.map_cons,List.map_nil,List.mem_singleton]
 | OA x=>
  simp only [az] at h
  repeat' split at h
  all_goals first | (cases h;done) | skip
  all_goals
   cases h
   intro z hz
   first
    | (cases hz;done)
    | (simp only [List.mem_singleton] at hz
       subst hz
       simp only [bT,‹ρ x=_›,dw,List.map_cons,List.map_nil,List.mem_singleton])
 | Cy k x y=>
  simp only [az] at h
  repeat' split at h
  all_goals first | (cases h;done) | skip
  all_goals
   cases h
   intro z hz
   simp only [List.mem_singleton] at hz
   subst hz
   simp only [bT,‹ρ x=_›,dw,List.map_cons,List.map_nil,List.mem_append,List.mem_singleton,true_or]
 | store n x y=>
  simp only [az] at h
  repeat' split at h
  all_goals first | (cases h;done) | skip
  all_goals
   cases h
   intro z hz
   simp only [List.mem_singleton] at hz
   subst hz
   simp only [bT,‹ρ x=_›,dw,List.map_cons,List.map_nil,List.mem_singleton]
 | app e k b x y=>
  simp only [az] at h
  repeat' split at h
  all_goals first | (cases h;done) | skip
  all_goals
   cases h
   intro z hz
   simp only [List.mem_singleton] at hz
   subst hz
   simp only [bT,‹ρ x=_›,dw,List.map_cons,List.map_nil,List.mem_cons,List.cons_append,List.mem_append,true_or,or_true]
 | _=>
  simp only [az] at h
  repeat' split at h
  all_goals first | (cases h;done) | skip
  all_goals
   cases h
   intro z hz
   first
    | (cases hz;done)
    | (simp only [nw,List.mem_singleton] at hz;subst hz;simp [bT])
end
end Go.Proofs.YtimbfadnabfabaaGreatDoor.Pm
