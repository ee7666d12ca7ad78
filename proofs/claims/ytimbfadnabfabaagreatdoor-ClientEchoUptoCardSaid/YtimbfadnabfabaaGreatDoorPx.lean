/- The small machine: what an operation looks at. No program is named here. -/
import Derived.Test.YtimbfadnabfabaaGreatDoorPw
namespace Go.Proofs.YtimbfadnabfabaaGreatDoor.Pm
open Go.RowKit

def oL:Option Operand→List Operand
 | some x=> [x]
 | none=> []
def cB:kA→List Operand
 | .Dh x | .un _ x | .kF _ x | .tI x | .RX x | .RY x | .box _ x | .load _ _ x | .Ni x | .RZ _ x | .R1 _ _ _ x | .R2 _ _ x | .Pk _ _ x | .ext x _ | .len _ x | .isN _ x | .isE _ x | .aiT x | .I2 _ x | .VP x | .Po x=> [x]
 | .Gu .. | .alloc _ | .wo _=> []
 | .pick c a b=> [c,a,b]
 | .rL _ x y | .sh _ x y | .tH _ x y | .jJ _ x y | .eqB _ x y | .L9 _ _ x y | .store _ x y | .tA _ _ x y | .jc _ _ x y | .HE _ _ _ x y | .iy x y | .app _ _ _ x y | .Pn _ _ _ _ x y | .Di _ x y=> [x,y]
 | .build _ ps | .yy _ _ _ _ ps=>ps.map (·.2.2)
 | .wq _ _ x lo hi | .Pj _ _ x lo hi | .I3 _ _ x lo hi | .wu x lo hi=>x::oL lo++oL hi
 | .mkF _ cs | .call _ cs | .fU _ cs | .jn _ cs | .mx cs | .mn cs=>cs
 | .lM x cs=>x::cs

section
variable {γ : dZ} {H H' : Nat → cw} {ρ ρ' : Operand → PV} {d : Nat}
theorem CC: ∀(ps:List (Nat×Nat×Operand)) (cs:List PV),(∀x∈ps.map (·.2.2),ρ x=ρ' x)→qx ρ cs ps=qx ρ' cs ps
 | [],cs,_=>rfl
 | (o,n,x)::r,cs,h=>by
  simp only [qx,h x (by simp)]
  split
  ·split
   ·exact CC r _ (fun y hy=>h y (by simp at hy ⊢;exact .inr hy))
   ·rfl
  ·rfl
theorem FH: ∀(xs:List Operand),(∀x∈xs,ρ x=ρ' x)→ints ρ xs=ints ρ' xs
 | [],_=>rfl
 | x::xs,h=>by simp only [ints,h x (by simp),FH xs (fun y hy=>h y (by simp [hy]))]
theorem pV(n:Nat)(x:Option Operand)(h: ∀y∈oL x,ρ y=ρ' y):jW ρ n x=jW ρ' n x:=by
 cases x with
 | none=>rfl
 | some x=>simp only [jW,h x (by simp [oL])]
theorem fK{i:Nat}(h:H i=H' i)(g:Nat):look H i g=look H' i g:=by simp only [look,h]
theorem Dy{p:PV}(h: ∀i∈dr p,H i=H' i):fP H p=fP H' p:=by
 unfold fP
 split
 ·rfl
 ·rfl
 ·rfl
 ·rename_i i g l n;rw [fK (h i (by simp [dr]))]
 ·rfl
theorem ajp{k:Nat}{p:PV}(h: ∀i∈dr p,H i=H' i):RT H k p=RT H' k p:=by
 unfold RT
 split
 ·rfl
 ·exact Dy h
mutual
theorem Wf: ∀(p:PV),(∀i∈dr p,H i=H' i)→gH H p=gH H' p
 | .d _,_=>rfl
 | .agg cs,h=>by simp only [gH,wG cs h]
 | .fn f cs,h=>by simp only [gH,wG cs h]
 | .cD _,_=>rfl
 | .nil,_=>rfl
 | .jv ..,_=>rfl
 | .un,_=>rfl
 | .bH _,_=>rfl
 | .r (.ptr i g o),h=>by simp only [gH,fK (h i (by simp [dr])) g]
 | .r (.aL i g l n),h=>by simp only [gH,fK (h i (by simp [dr])) g]
 | .r (.own ..),_=>rfl
theorem wG: ∀(ps:List PV),(∀i∈bB ps,H i=H' i)→gX H ps=gX H' ps
 | [],_=>rfl
 | p::ps,h=>by simp only [gX,Wf p (fun i hi=>h i (by simp [bB,hi])),wG ps (fun i hi=>h i (by simp [bB,hi]))]
end
mutual
theorem Sx: ∀(p:PV),(∀x∈owns p,H (aZ d x.1)=H' (aZ d x.1))→Bk H d p=Bk H' d p
 | .d _,_=>rfl
 | .agg cs,h=>by simp only [Bk,Dz cs h]
 | .bH cs,h=>by simp only [Bk,Dz cs h]
 | .fn f cs,h=>by simp only [Bk,Dz cs h]
 | .cD _,_=>rfl
 | .nil,_=>rfl
 | .jv ..,_=>rfl
 | .un,_=>rfl
 | .r (.ptr i g o),h=>rfl
 | .r (.aL i g l n),h=>rfl
 | .r (.own j e k n cs),h=>by simp only [Bk,h (j,.own e k cs) (by simp [owns])]
theorem Dz: ∀(ps:List PV),(∀x∈eC ps,H (aZ d x.1)=H' (aZ d x.1))→RV H d ps=RV H' d ps
 | [],_=>rfl
 | p::ps,h=>by simp only [RV,Sx p (fun x hx=>h x (by simp [eC,hx])),Dz ps (fun x hx=>h x (by simp [eC,hx]))]
end
theorem yG{f:Nat}{args:List PV}(h1: ∀i∈bB args,H i=H' i)(h2: ∀j,j<8→H (aZ d j)=H' (aZ d j)):jx γ H d f args=jx γ H' d f args:=by
 unfold jx
 rw [wG args h1]
 split
 ·rfl
 ·split
  ·rfl
  ·rename_i r _
   split
   ·rename_i hc
    simp only [Bool.and_eq_true,List.all_eq_true,decide_eq_true_eq] at hc
    rw [Sx r (fun x hx=>h2 _ (hc.2 x hx))]
    congr 2
    apply List.map_congr_left
    intro x hx
    simp only [nw,h2 _ (hc.2 x hx)]
   ·rfl
mutual
theorem ajq{ids:List Nat}(h: ∀i∈ids,H i=H' i): ∀(p:PV),I4 ids H p=I4 ids H' p
 | .d _=>rfl
 | .agg cs=>by simp only [I4,uP h cs]
 | .bH cs=>by simp only [I4,uP h cs]
 | .fn f cs=>by simp only [I4,uP h cs]
 | .cD _=>rfl
 | .nil=>rfl
 | .jv .. =>rfl
 | .un=>rfl
 | .r (.own ..)=>rfl
 | .r (.ptr i g o)=>by
  simp only [I4]
  cases hp:posOf ids i with
  | none=>cases look H i g<;>cases look H' i g<;>rfl
  | some q=>rw [fK (h i (List.mem_of_getElem? (rQ hp))) g]
 | .r (.aL i g l n)=>by
  simp only [I4]
  cases hp:posOf ids i with
  | none=>cases look H i g<;>cases look H' i g<;>rfl
  | some q=>rw [fK (h i (List.mem_of_getElem? (rQ hp))) g]
theorem uP{ids:List Nat}(h: ∀i∈ids,H i=H' i): ∀(ps:List PV),yh ids H ps=yh ids H' ps
 | []=>rfl
 | p::ps=>by simp only [yh,ajq h p,uP h ps]
end
theorem ajr{ids:List Nat}(h: ∀i∈ids,H i=H' i)(b:bM):om ids H b=om ids H' b:=by
 cases b with
 | box cs=>simp only [om,uP h cs]
 | own=>rfl
mutual
theorem Sy{fx:Bool}{ids:List Nat}(h: ∀i∈ids,H i=H' i): ∀(p:PV),(∀x∈owns p,H (aZ d x.1)=H' (aZ d x.1))→rM fx ids H d p=rM fx ids H' d p
 | .d _,_=>rfl
 | .agg cs,h2=>by simp only [rM,yH h cs h2]
 | .bH cs,h2=>by simp only [rM,yH h cs h2]
 | .fn f cs,h2=>by simp only [rM,yH h cs h2]
 | .cD _,_=>rfl
 | .nil,_=>rfl
 | .jv ..,_=>rfl
 | .un,_=>rfl
 | .r (.own j e k n cs),h2=>by simp only [rM,h2 (j,.own e k cs) (by simp [owns])]
 | .r (.ptr p g o),_=>by
  simp only [rM]
  cases hi:ids[p]? with
  | none=>rfl
  | some i=>simp only [qJ,h i (List.mem_of_getElem? hi)]
 | .r (.aL p g l n),_=>by
  simp only [rM]
  cases hi:ids[p]? with
  | none=>rfl
  | some i=>simp only [qJ,h i (List.mem_of_getElem? hi)]
theorem yH{fx:Bool}{ids:List Nat}(h: ∀i∈ids,H i=H' i): ∀(ps:List PV),(∀x∈eC ps,H (aZ d x.1)=H' (aZ d x.1))→Pp fx ids H d ps=Pp fx ids H' d ps
 | [],_=>rfl
 | p::ps,h2=>by simp only [Pp,Sy h p (fun x hx=>h2 x (by simp [eC,hx])),yH h ps (fun x hx=>h2 x (by simp [eC,hx]))]
end
theorem NH{fx:Bool}{all:List Nat}(h: ∀i∈all,H i=H' i): ∀(is:List Nat) (bs:List bM),(∀i∈is,i∈all)→(∀b∈bs,∀x∈yz b,H (aZ d x.1)=H' (aZ d x.1))→kn fx H all d is bs=kn fx H' all d is bs
 | [],_,_,_=>rfl
 | i::is,[],_,_=>rfl
 | i::is,b::bs,hi,h2=>by
  have e1:L_ fx all H d b=L_ fx all H' d b:=by
   cases b with
   | box cs=>have:=yH (fx:=fx) (d:=d) h cs (h2 (.box cs) (by simp));simp only [L_,this]
   | own=>rfl
  simp only [kn,e1,qJ,h i (hi i (by simp)),NH h is bs (fun j hj=>hi j (by simp [hj])) (fun b hb=>h2 b (by simp [hb]))]
theorem Gz: ∀{ids:List Nat},(∀i∈ids,H i=H' i)→gN H ids=gN H' ids
 | [],_=>rfl
 | i::ids,h=>by simp only [gN,h i (by simp),Gz (ids:=ids) (fun j hj=>h j (by simp [hj]))]
theorem Js{args:List PV}(h: ∀i∈bB args,H i=H' i):fQ H args=fQ H' args:=by
 have: ∀(l:List Nat),(∀i∈l,H i=H' i)→(l.flatMap fun i=>VQ (H i).b)=l.flatMap fun i=>VQ (H' i).b:=by
  intro l
  induction l with
  | nil=>intro _;rfl
  | cons x l ih=>intro h;simp only [List.flatMap_cons,h x (by simp),ih (fun i hi=>h i (by simp [hi]))]
 unfold fQ
 rw [this _ h]
theorem Jt{H H':Nat→cw}: ∀{ids:List Nat} {bs:List bM},(∀i∈ids,H i=H' i)→iz H ids bs=iz H' ids bs
 | [],_,_=>by simp [iz]
 | _::_,[],_=>by simp [iz]
 | i::ids,b::bs,h=>by simp only [iz,h i (by simp),Jt (ids:=ids) (bs:=bs) (fun j hj=>h j (by simp [hj]))]
theorem PF{f:Nat}{args:List PV}(h0: ∀i∈bB args,H i=H' i)(h1: ∀i∈fQ H args,H i=H' i)(h2: ∀j,j<8→H (aZ d j)=H' (aZ d j)):nB γ H d f args=nB γ H' d f args:=by
 have e:=Js h0
 unfold nB
 rw [←e]
 generalize fQ H args=ids at h1
 rw [Gz h1]
 split
 ·rfl
 ·rename_i bs _
  have e2:bs.map (om ids H)=bs.map (om ids H'):=List.map_congr_left fun b _=>ajr h1 b
  rw [uP h1,e2]
  split
  ·rfl
  ·rename_i r bL _
   have e3:Ma H ids bL=Ma H' ids bL:=by unfold Ma;rw [Jt h1]
   rw [e3]
   split
   ·rename_i hc
    simp only [Bool.and_eq_true,List.all_eq_true,decide_eq_true_eq] at hc
    have ho: ∀x∈cE r bL,H (aZ d x.1)=H' (aZ d x.1):=fun x hx=>h2 _ (hc.2 x hx).1
    rw [Sy h1 r (fun x hx=>ho x (List.mem_append.2 (.inl hx))),NH h1 ids bL (fun _ h=>h) (fun b hb x hx=>ho x (List.mem_append.2 (.inr (List.mem_flatMap.2 ⟨b,hb,hx⟩))))]
    congr 3
    apply List.map_congr_left
    intro x hx
    simp only [nw,ho x hx]
   ·rfl
theorem Ju: ∀(a b:List PV),bB (a++b)=bB a++bB b
 | [],_=>rfl
 | p::a,b=>by simp [bB,Ju a b]
theorem rS{i:Nat}: ∀{l:List PV},i∈bB l↔ ∃p∈l,i∈dr p
 | []=>by simp [bB]
 | p::l=>by simp [bB,rS (l:=l)]
theorem Sz{p:PV}{l:List PV}(h:p.cells?=some l){i:Nat}(hi:i∈bB l):i∈dr p:=by
 cases p<;>simp only [PV.cells?,Option.some.injEq] at h<;>first | cases h;done | (subst h;have:=hi;rw [show∀p:PV,bB [p]=dr p from fun p=>by rw [bB,bB,List.append_nil]] at this;exact this) | (subst h;exact hi)
theorem yI: ∀(ps:List (Nat×Nat×Operand)) (cs cs':List PV),qx ρ cs ps=some cs'→ ∀i∈bB cs',i∈bB cs∨i∈bB (ps.map fun x=>ρ x.2.2)
 | [],cs,cs',h,i,hi=>by cases h;exact .inl hi
 | (o,n,x)::r,cs,cs',h,i,hi=>by
  simp only [qx] at h
  split at h
  ·rename_i new hn
   split at h
   ·rcases yI r _ _ h i hi with h1 | h1
    ·obtain ⟨p,hp,hip⟩:=rS.1 h1
     simp only [cg,List.mem_append] at hp
     rcases hp with (hp | hp) | hp
     ·exact .inl (rS.2 ⟨p,List.mem_of_mem_take hp,hip⟩)
     ·exact .inr (by simp only [List.map_cons,bB,List.mem_append];exact .inl (Sz hn (rS.2 ⟨p,hp,hip⟩)))
     ·exact .inl (rS.2 ⟨p,List.mem_of_mem_drop hp,hip⟩)
    ·exact .inr (by simp only [List.map_cons,bB,List.mem_append];exact .inr h1)
   ·cases h
  ·cases h
theorem yJ: ∀(z:List (Nat×Value)),bB (jm z)= []
 | []=>rfl
 | (n,v)::r=>by
  simp only [jm,Ju,yJ r,List.append_nil]
  have hv:dr (ofConst v)= []:=by unfold ofConst;split<;>rfl
  induction n with
  | zero=>rfl
  | succ n ih=>simp [List.replicate_succ,bB,hv,ih]
mutual
theorem afn(D:Nat→Bool): ∀(p:PV),(∀i∈dr p,H i=H' i)→mP D H p=mP D H' p
 | .d _,_=>rfl
 | .agg cs,h=>by simp only [mP,rA D cs h]
 | .bH cs,h=>by simp only [mP,rA D cs h]
 | .fn f cs,h=>by simp only [mP,rA D cs h]
 | .cD _,_=>rfl
 | .nil,_=>rfl
 | .jv ..,_=>rfl
 | .un,_=>rfl
 | .r (.ptr i g o),h=>rfl
 | .r (.aL i g l n),h=>by simp only [mP,fK (h i (by simp [dr])) g]
 | .r (.own ..),_=>rfl
theorem rA(D:Nat→Bool): ∀(ps:List PV),(∀i∈bB ps,H i=H' i)→jV D H ps=jV D H' ps
 | [],_=>rfl
 | p::ps,h=>by simp only [jV,afn D p (fun i hi=>h i (by simp [bB,hi])),rA D ps (fun i hi=>h i (by simp [bB,hi]))]
end
mutual
theorem Wh(D:Nat→Bool)(H:Nat→cw): ∀(p:PV),(∀i∈dr p,D i=true)→dr (mP D H p)= []
 | .d _,_=>rfl
 | .agg cs,h=>by simp only [mP,dr];exact rT D H cs h
 | .bH cs,h=>by simp only [mP,dr];exact rT D H cs h
 | .fn f cs,h=>by simp only [mP,dr];exact rT D H cs h
 | .cD _,_=>rfl
 | .nil,_=>rfl
 | .jv ..,_=>rfl
 | .un,_=>rfl
 | .r (.ptr i g o),h=>by simp only [mP,h i (by simp [dr]),if_true];rfl
 | .r (.aL i g l n),h=>by
  simp only [mP,h i (by simp [dr]),if_true]
  split<;>rfl
 | .r (.own ..),_=>rfl
theorem rT(D:Nat→Bool)(H:Nat→cw): ∀(ps:List PV),(∀i∈bB ps,D i=true)→bB (jV D H ps)= []
 | [],_=>rfl
 | p::ps,h=>by simp only [jV,bB,Wh D H p (fun i hi=>h i (by simp [bB,hi])),rT D H ps (fun i hi=>h i (by simp [bB,hi])),List.append_nil]
end
theorem Wi{pop:kA}(h1: ∀x∈cB pop,ρ x=ρ' x)(h2: ∀a∈bY ρ H d pop,H a.1=H' a.1):az γ H d ρ pop=az γ H' d ρ' pop:=by
 have rf: ∀{p:PV} {c:Bool},(∀a∈(dr p).map (fun i=>(i,c)),H a.1=H' a.1)→ ∀i∈dr p,H i=H' i:=fun h i hi=>h (i,_) (List.mem_map_of_mem hi)
 cases pop with
 | Gu e k=>simp only [az,nw,h2 (aZ d 0,true) (by simp [bY])]
 | alloc z=>simp only [az,nw,h2 (aZ d 0,true) (by simp [bY])]
 | wo z=>simp only [az,nw,h2 (aZ d 0,true) (by simp [bY])]
 | box n x=>simp only [az,nw,h2 (aZ d 0,true) (by simp [bY]),h1 x (by simp [cB])]
 | yy e k n z ps=>
  simp only [az,←CC ps _ h1]
  cases hf:qx ρ (jm z) ps with
  | none=>rfl
  | some cs=>
   have hs: ∀i∈bB cs,H i=H' i:=fun i hi=>by
    rcases yI ps _ _ hf i hi with h | h
    ·rw [yJ] at h;cases h
    ·exact h2 (i,true) (by simp only [bY,List.mem_cons];exact .inr (List.mem_map_of_mem h))
   have e1:(bB cs).map (fun i=>(i,(⟨(H i).g+1,none⟩:cw)))=(bB cs).map (fun i=>(i,(⟨(H' i).g+1,none⟩:cw))):=List.map_congr_left fun i hi=>by rw [hs i hi]
   simp only [rA _ cs hs,e1,nw,h2 (aZ d 0,true) (by simp [bY])]
 | R2 e k x=>
  have hx:=h1 x (by simp [cB])
  have:=Dy (rf (p:=ρ x) (c:=false) (fun a ha=>h2 a (by simp only [bY,rd,List.mem_cons];exact .inr ha)))
  simp only [az,nw,h2 (aZ d 0,true) (by simp [bY]),←hx,this]
 | tI x=>
  have hx:=h1 x (by simp [cB])
  have:=Dy (rf (p:=ρ x) (c:=false) h2)
  simp only [az,←hx,this]
 | load a n x=>
  have hx:=h1 x (by simp [cB])
  have hr:=rf (p:=ρ x) (c:=false) h2
  simp only [az,←hx]
  split<;>first | rfl | (rename_i e;rw [e] at hr;rw [fK (hr _ (by simp [dr]))])
 | Ni x=>simp only [az,←h1 x (by simp [cB])]
 | RZ o x=>simp only [az,←h1 x (by simp [cB])]
 | tA len k x i=>simp only [az,←h1 x (by simp [cB]),←h1 i (by simp [cB])]
 | jc e k x i=>
  have hx:=h1 x (by simp [cB])
  have hi:=h1 i (by simp [cB])
  have hr:=rf (p:=ρ x) (c:=false) h2
  simp only [az,←hx,←hi]
  split<;>first | rfl | (rename_i e _;rw [e] at hr;rw [fK (hr _ (by simp [dr]))])
 | wq e k x lo hi=>
  have hx:=h1 x (by simp [cB])
  have hr:=rf (p:=ρ x) (c:=false) h2
  have hl:=fun n=>pV (ρ:=ρ) (ρ':=ρ') n lo (fun y hy=>h1 y (by simp [cB,hy]))
  have hh:=fun n=>pV (ρ:=ρ) (ρ':=ρ') n hi (fun y hy=>h1 y (by simp [cB,hy]))
  simp only [az,←hx,←hl,←hh]
  split<;>first | rfl | (rename_i e;rw [e] at hr;rw [fK (hr _ (by simp [dr]))])
 | Pj n k x lo hi=>
  have hx:=h1 x (by simp [cB])
  have hr:=rf (p:=ρ x) (c:=true) h2
  have hl:=fun n=>pV (ρ:=ρ) (ρ':=ρ') n lo (fun y hy=>h1 y (by simp [cB,hy]))
  have hh:=fun n=>pV (ρ:=ρ) (ρ':=ρ') n hi (fun y hy=>h1 y (by simp [cB,hy]))
  simp only [az,←hx,←hl,←hh]
  split<;>first | rfl | (rename_i e;rw [e] at hr;rw [fK (hr _ (by simp [dr]))])
 | Pk k z x=>
  have hx:=h1 x (by simp [cB])
  have hr:=rf (p:=ρ x) (c:=true) h2
  simp only [az,←hx]
  split<;>first | rfl | (rename_i e;rw [e] at hr;rw [fK (hr _ (by simp [dr]))])
 | I3 e k x lo hi=>
  have hx:=h1 x (by simp [cB])
  have hr:=rf (p:=ρ x) (c:=true) h2
  have hl:=fun n=>pV (ρ:=ρ) (ρ':=ρ') n lo (fun y hy=>h1 y (by simp [cB,hy]))
  have hh:=fun n=>pV (ρ:=ρ) (ρ':=ρ') n hi (fun y hy=>h1 y (by simp [cB,hy]))
  simp only [az,←hx,←hl,←hh]
  split<;>first | rfl | (rename_i e;rw [e] at hr;rw [fK (hr _ (by simp [dr]))])
 | Pn e k b z l c=>simp only [az,nw,h2 (aZ d 0,true) (by simp [bY]),h1 l (by simp [cB]),h1 c (by simp [cB])]
 | VP x=>simp only [az,nw,h2 (aZ d 0,true) (by simp [bY]),h1 x (by simp [cB])]
 | Po x=>
  have hx:=h1 x (by simp [cB])
  have hr:=rf (p:=ρ x) (c:=true) h2
  simp only [az,←hx]
  split<;>first | rfl | (rename_i e;rw [e] at hr;rw [fK (hr _ (by simp [dr]))])
 | Di k x y=>
  have hx:=h1 x (by simp [cB])
  have hy:=h1 y (by simp [cB])
  have hrx:=rf (p:=ρ x) (c:=true) (fun a ha=>h2 a (by simp only [bY,List.mem_append];exact .inl ha))
  have hry:=rf (p:=ρ y) (c:=false) (fun a ha=>h2 a (by simp only [bY,rd,List.mem_append];exact .inr ha))
  simp only [az,←hx,←hy,Dy hry]
  split<;>first | rfl | (rename_i e _;rw [e] at hrx;rw [fK (hrx _ (by simp [dr]))])
 | len s x=>
  have hx:=h1 x (by simp [cB])
  have hr:=rf (p:=ρ x) (c:=false) h2
  cases s
  ·simp only [az,←hx]
   split<;>first | rfl | (rename_i e;rw [e] at hr;rw [fK (hr _ (by simp [dr]))])
  ·simp only [az,←hx]
 | store n x y=>
  have hx:=h1 x (by simp [cB])
  have hy:=h1 y (by simp [cB])
  have hr:=rf (p:=ρ x) (c:=true) h2
  simp only [az,←hx,←hy]
  split<;>first | rfl | (rename_i e _;rw [e] at hr;rw [fK (hr _ (by simp [dr]))])
 | app e k b x y=>
  have hx:=h1 x (by simp [cB])
  have hy:=h1 y (by simp [cB])
  have hrx:=rf (p:=ρ x) (c:=true) (fun a ha=>h2 a (by simp only [bY,List.mem_cons,List.mem_append,List.cons_append];exact .inr (.inl ha)))
  have hry:=rf (p:=ρ y) (c:=false) (fun a ha=>h2 a (by simp only [bY,rd,List.mem_cons,List.mem_append,List.cons_append];exact .inr (.inr ha)))
  simp only [az,←hx,←hy,ajp hry,h2 (aZ d 0,true) (by simp [bY])]
  split
  ·rfl
  ·split
   ·split<;>first | rfl | (rename_i e;rw [e] at hrx;rw [fK (hrx _ (by simp [dr]))])
   ·rfl
 | call f xs=>
  have hx:xs.map ρ'=xs.map ρ:=List.map_congr_left fun x hx=>(h1 x hx).symm
  simp only [az,hx]
  exact yG (fun i hi=>h2 (i,false) (by simp only [bY,List.mem_append];exact .inl (List.mem_map_of_mem hi))) (fun j hj=>h2 (aZ d j,true) (by simp only [bY,List.mem_append];exact .inr (List.mem_map_of_mem (f:=fun j=>(aZ d j,true)) (List.mem_range.2 hj))))
 | jn f xs=>
  have hx:xs.map ρ'=xs.map ρ:=List.map_congr_left fun x hx=>(h1 x hx).symm
  have hr: ∀i∈bB (xs.map ρ),H i=H' i:=fun i hi=>h2 (i,true) (by simp only [bY,List.mem_append];exact .inl (List.mem_map_of_mem hi))
  have hb: ∀j,j<8→H (aZ d j)=H' (aZ d j):=fun j hj=>h2 (aZ d j,true) (by simp only [bY,List.mem_append];exact .inr (List.mem_map_of_mem (f:=fun j=>(aZ d j,true)) (List.mem_range.2 hj)))
  simp only [az,hx,uF]
  have e1:iq H (bB (xs.map ρ))=iq H' (bB (xs.map ρ)):=List.map_congr_left fun i hi=>by rw [hr i hi]
  rw [←rA _ _ hr,←e1]
  split
  ·rename_i hall
   have e2:jx γ (yA H (iq H (bB (xs.map ρ)))) d f (jV (kE (bB (xs.map ρ))) H (xs.map ρ))=jx γ (yA H' (iq H (bB (xs.map ρ)))) d f (jV (kE (bB (xs.map ρ))) H (xs.map ρ)):=by
    refine yG (fun i hi=>?_) (fun j hj=>?_)
    ·rw [rT _ H _ (fun i hi=>by simp only [kE,List.any_eq_true];exact ⟨i,hi,by simp⟩)] at hi;cases hi
    ·rw [Dv,Dv]
     have hn: ∀y∈iq H (bB (xs.map ρ)),y.1≠aZ d j:=by
      intro y hy e
      obtain ⟨i,hi,rfl⟩:=List.mem_map.1 hy
      have:=List.all_eq_true.1 hall i hi
      simp only [Bool.and_eq_true,List.all_eq_true,List.mem_range] at this
      have:=this.2 j hj
      simp only at e
      rw [e] at this;simp at this
     rw [jB _ _ _ hn,jB _ _ _ hn,hb j hj]
   rw [e2]
  ·rfl
 | fU f xs=>
  have hx:xs.map ρ'=xs.map ρ:=List.map_congr_left fun x hx=>(h1 x hx).symm
  simp only [az,hx]
  exact PF (fun i hi=>h2 (i,false) (by simp only [bY,List.mem_append];exact .inl (.inr (List.mem_map_of_mem hi)))) (fun i hi=>h2 (i,true) (by simp only [bY,List.mem_append];exact .inl (.inl (List.mem_map_of_mem hi)))) (fun j hj=>h2 (aZ d j,true) (by simp only [bY,List.mem_append];exact .inr (List.mem_map_of_mem (f:=fun j=>(aZ d j,true)) (List.mem_range.2 hj))))
 | lM x xs=>
  have hy:=h1 x (by simp [cB])
  have hx:xs.map ρ'=xs.map ρ:=List.map_congr_left fun y hy=>(h1 y (by simp [cB,hy])).symm
  simp only [az,hx,←hy]
  split
  ·rename_i f cs e
   refine yG (fun i hi=>?_) (fun j hj=>h2 (aZ d j,true) (by simp only [bY,List.mem_append];exact .inr (List.mem_map_of_mem (f:=fun j=>(aZ d j,true)) (List.mem_range.2 hj))))
   have aCv: ∀(l r:List PV),bB (l++r)=bB l++bB r:=by
    intro l r
    induction l with
    | nil=>rfl
    | cons p l ih=>simp [bB,ih]
   rw [aCv,List.mem_append] at hi
   rcases hi with hi | hi
   ·exact h2 (i,false) (by simp only [bY,List.mem_append];exact .inl (.inl (List.mem_map_of_mem hi)))
   ·exact h2 (i,false) (by simp only [bY,List.mem_append,rd,e];exact .inl (.inr (List.mem_map_of_mem (show i∈dr (.fn f cs) from hi))))
  ·rfl
 | Dh x=>simp only [az,h1 x (by simp [cB])]
 | pick c a b=>simp only [az,h1 c (by simp [cB]),h1 a (by simp [cB]),h1 b (by simp [cB])]
 | rL op x y=>simp only [az,h1 x (by simp [cB]),h1 y (by simp [cB])]
 | sh op x y=>simp only [az,h1 x (by simp [cB]),h1 y (by simp [cB])]
 | tH op x y=>simp only [az,h1 x (by simp [cB]),h1 y (by simp [cB])]
 | jJ op x y=>simp only [az,h1 x (by simp [cB]),h1 y (by simp [cB])]
 | eqB op x y=>simp only [az,h1 x (by simp [cB]),h1 y (by simp [cB])]
 | L9 op ks x y=>simp only [az,h1 x (by simp [cB]),h1 y (by simp [cB])]
 | isN op x=>simp only [az,h1 x (by simp [cB])]
 | isE op x=>simp only [az,h1 x (by simp [cB])]
 | aiT x=>simp only [az,h1 x (by simp [cB])]
 | I2 e x=>simp only [az,nw,h1 x (by simp [cB]),h2 (aZ d 0,true) (by simp [bY])]
 | un op x=>simp only [az,h1 x (by simp [cB])]
 | kF k x=>simp only [az,h1 x (by simp [cB])]
 | RX x=>simp only [az,h1 x (by simp [cB])]
 | RY x=>simp only [az,h1 x (by simp [cB])]
 | build z ps=>simp only [az,CC ps _ h1]
 | R1 a o n x=>simp only [az,h1 x (by simp [cB])]
 | HE a l k x i=>simp only [az,h1 x (by simp [cB]),h1 i (by simp [cB])]
 | iy x i=>simp only [az,h1 x (by simp [cB]),h1 i (by simp [cB])]
 | wu x lo hi=>
  have hl:=fun n=>pV (ρ:=ρ) (ρ':=ρ') n lo (fun y hy=>h1 y (by simp [cB,hy]))
  have hh:=fun n=>pV (ρ:=ρ) (ρ':=ρ') n hi (fun y hy=>h1 y (by simp [cB,hy]))
  simp only [az,h1 x (by simp [cB]),hl,hh]
 | ext x i=>simp only [az,h1 x (by simp [cB])]
 | mkF f cs=>
  have hx:cs.map ρ'=cs.map ρ:=List.map_congr_left fun x hx=>(h1 x hx).symm
  simp only [az,hx]
 | mx xs=>simp only [az,FH xs h1]
 | mn xs=>simp only [az,FH xs h1]
theorem Wj{pop:kA}{p:PV}{aD:eu}(h:az γ H d ρ pop=some (p,aD)): ∀x∈aD,(x.1,true)∈bY ρ H d pop:=by
 have dc': ∀{H:Nat→cw} {f:Nat} {args:List PV} {p:PV} {aD:eu},jx γ H d f args=some (p,aD)→ ∀x∈aD,(x.1,true)∈(List.range 8).map fun j=>(aZ d j,true):=by
  intro H f args p aD h x hx
  unfold jx at h
  split at h
  ·cases h
  ·split at h
   ·cases h
   ·split at h
    ·rename_i hc
     simp only [Option.some.injEq,Prod.mk.injEq] at h
     obtain ⟨rfl,rfl⟩:=h
     simp only [Bool.and_eq_true,List.all_eq_true,decide_eq_true_eq] at hc
     obtain ⟨y,hy,rfl⟩:=List.mem_map.1 hx
     exact List.mem_map.2 ⟨y.1,List.mem_range.2 (hc.2 y hy),rfl⟩
    ·cases h
 have dc: ∀{f:Nat} {args:List PV},jx γ H d f args=some (p,aD)→ ∀x∈aD,(x.1,true)∈(List.range 8).map fun j=>(aZ d j,true):=fun h=>dc' h
 cases pop with
 | call f xs=>
  simp only [az] at h
  intro x hx;simp only [bY,List.mem_append];exact .inr (dc h x hx)
 | jn f xs=>
  simp only [az,uF] at h
  intro x hx
  split at h
  ·split at h
   ·rename_i p' od hc
    simp only [Option.some.injEq,Prod.mk.injEq] at h
    obtain ⟨rfl,rfl⟩:=h
    simp only [bY,List.mem_append]
    rcases List.mem_append.1 hx with hx | hx
    ·obtain ⟨i,hi,rfl⟩:=List.mem_map.1 hx
     exact .inl (List.mem_map_of_mem hi)
    ·exact .inr (dc' hc x hx)
   ·cases h
  ·cases h
 | fU f xs=>
  simp only [az] at h
  intro x hx
  unfold nB at h
  split at h
  ·cases h
  ·split at h
   ·cases h
   ·split at h
    ·rename_i hc
     simp only [Option.some.injEq,Prod.mk.injEq] at h
     obtain ⟨rfl,rfl⟩:=h
     simp only [Bool.and_eq_true,List.all_eq_true,decide_eq_true_eq] at hc
     simp only [bY,List.mem_append]
     rcases List.mem_append.1 hx with hx | hx
     ·exact .inl (.inl (List.mem_map.2 ⟨_,Ao _ _ _ hx,rfl⟩))
     ·obtain ⟨y,hy,rfl⟩:=List.mem_map.1 hx
      exact .inr (List.mem_map.2 ⟨y.1,List.mem_range.2 (hc.2 y hy).1,rfl⟩)
    ·cases h
 | lM y xs=>
  simp only [az] at h
  split at h
  ·intro x hx;simp only [bY,List.mem_append];exact .inr (dc h x hx)
  ·cases h
 | yy e k n z ps=>
  simp only [az] at h
  split at h
  ·rename_i cs hf
   split at h
   ·split at h
    ·split at h
     ·cases h
      intro x hx
      rcases List.mem_append.1 hx with hx | hx
      ·obtain ⟨i,hi,rfl⟩:=List.mem_map.1 hx
       rcases yI ps _ _ hf i hi with h | h
       ·rw [yJ] at h;cases h
       ·simp only [bY,List.mem_cons];exact .inr (List.mem_map_of_mem h)
      ·simp only [nw,List.mem_singleton] at hx;subst hx;simp [bY]
     ·cases h
    ·cases h
   ·cases h
  ·cases h
 | len s x=>
  cases s
  all_goals
   simp only [az] at h
   repeat' split at h
   all_goals first | (cases h;done) | skip
   all_goals
    cases h
    intro z hz
    cases hz
 | Pj n k x lo hi=>
  simp only [az] at h
  repeat' split at h
  all_goals first | (cases h;done) | skip
  all_goals
   cases h
   intro z hz
   simp only [List.mem_singleton] at hz
   subst hz
   simp only [bY,‹ρ x=_›,dr,List.map_cons,List.map_nil,List.mem_singleton]
 | Pk k z x=>
  simp only [az] at h
  repeat' split at h
  all_goals first | (cases h;done) | skip
  all_goals
   cases h
   intro z hz
   simp only [List.mem_singleton] at hz
   subst hz
   simp only [bY,‹ρ x=_›,dr,List.map_cons,List.map_nil,List.mem_singleton]
 | I3 n k x lo hi=>
  simp only [az] at h
  repeat' split at h
  all_goals first | (cases h;done) | skip
  all_goals
   cases h
   intro z hz
   simp only [List.mem_singleton] at hz
   subst hz
   simp only [bY,‹ρ x=_›,dr,List.map_cons,List.map_nil,List.mem_singleton]
 | Po x=>
  simp only [az] at h
  repeat' split at h
  all_goals first | (cases h;done) | skip
  all_goals
   cases h
   intro z hz
   first
    | (cases hz;done)
    | (simp only [List.mem_singleton] at hz
       subst hz
       simp only [bY,‹ρ x=_›,dr,List.map_cons,List.map_nil,List.mem_singleton])
 | Di k x y=>
  simp only [az] at h
  repeat' split at h
  all_goals first | (cases h;done) | skip
  all_goals
   cases h
   intro z hz
   simp only [List.mem_singleton] at hz
   subst hz
   simp only [bY,‹ρ x=_›,dr,List.map_cons,List.map_nil,List.mem_append,List.mem_singleton,true_or]
 | store n x y=>
  simp only [az] at h
  repeat' split at h
  all_goals first | (cases h;done) | skip
  all_goals
   cases h
   intro z hz
   simp only [List.mem_singleton] at hz
   subst hz
   simp only [bY,‹ρ x=_›,dr,List.map_cons,List.map_nil,List.mem_singleton]
 | app e k b x y=>
  simp only [az] at h
  repeat' split at h
  all_goals first | (cases h;done) | skip
  all_goals
   cases h
   intro z hz
   simp only [List.mem_singleton] at hz
   subst hz
   simp only [bY,‹ρ x=_›,dr,List.map_cons,List.map_nil,List.mem_cons,List.cons_append,List.mem_append,true_or,or_true]
 | _=>
  simp only [az] at h
  repeat' split at h
  all_goals first | (cases h;done) | skip
  all_goals
   cases h
   intro z hz
   first
    | (cases hz;done)
    | (simp only [nw,List.mem_singleton] at hz;subst hz;simp [bY])
end
end Go.Proofs.YtimbfadnabfabaaGreatDoor.Pm
