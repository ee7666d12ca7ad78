/- The small machine: what an operation looks at. No program is named here. -/
import Derived.Test.YtobkkblijfhpoaaGreatDoorPw
namespace Go.Proofs.YtobkkblijfhpoaaGreatDoor.Pm
open Go.RowKit

def oL:Option Operand→List Operand
 | some x=> [x]
 | none=> []
def cN:gP→List Operand
 | .jG x | .un _ x | .xY _ x | .su x | .SC x | .SD x | .box _ x | .load _ _ x | .Og x | .Qa _ x | .SE _ _ _ x | .SF _ _ x | .Qc _ _ x | .ext x _ | .len _ x | .isN _ x | .isE _ x | .ajh x | .Ds _ x | .WU x | .Qd x=> [x]
 | .HF .. | .alloc _ | .vL _=> []
 | .pick c a b=> [c,a,b]
 | .WT _ x y | .sh _ x y | .a_ _ x y | .lI _ x y | .eqB _ x y | .CD _ _ x y | .store _ x y | .xZ _ _ x y | .fQ _ _ x y | .M_ _ _ _ x y | .j9 x y | .app _ _ _ x y | .JP _ _ _ _ x y | .Dt _ x y=> [x,y]
 | .build _ ps | .tC _ _ _ _ ps=>ps.map (·.2.2)
 | .tD _ _ x lo hi | .Qb _ _ x lo hi | .JO _ _ x lo hi | .tE x lo hi=>x::oL lo++oL hi
 | .mkF _ cs | .call _ cs | .er _ cs | .eR _ cs | .mx cs | .mn cs=>cs
 | .nQ x cs=>x::cs

section
variable {γ : cX} {H H' : Nat → cL} {ρ ρ' : Operand → PV} {d : Nat}
theorem CK: ∀(ps:List (Nat×Nat×Operand)) (cs:List PV),(∀x∈ps.map (·.2.2),ρ x=ρ' x)→pz ρ cs ps=pz ρ' cs ps
 | [],cs,_=>rfl
 | (o,n,x)::r,cs,h=>by
  simp only [pz,h x (by simp)]
  split
  ·split
   ·exact CK r _ (fun y hy=>h y (by simp at hy ⊢;exact .inr hy))
   ·rfl
  ·rfl
theorem GG: ∀(xs:List Operand),(∀x∈xs,ρ x=ρ' x)→ints ρ xs=ints ρ' xs
 | [],_=>rfl
 | x::xs,h=>by simp only [ints,h x (by simp),GG xs (fun y hy=>h y (by simp [hy]))]
theorem oI(n:Nat)(x:Option Operand)(h: ∀y∈oL x,ρ y=ρ' y):jH ρ n x=jH ρ' n x:=by
 cases x with
 | none=>rfl
 | some x=>simp only [jH,h x (by simp [oL])]
theorem fG{i:Nat}(h:H i=H' i)(g:Nat):look H i g=look H' i g:=by simp only [look,h]
theorem DM{p:PV}(h: ∀i∈dH p,H i=H' i):gm H p=gm H' p:=by
 unfold gm
 split
 ·rfl
 ·rfl
 ·rfl
 ·rename_i i g l n;rw [fG (h i (by simp [dH]))]
 ·rfl
theorem ajO{k:Nat}{p:PV}(h: ∀i∈dH p,H i=H' i):SA H k p=SA H' k p:=by
 unfold SA
 split
 ·rfl
 ·exact DM h
mutual
theorem Xo: ∀(p:PV),(∀i∈dH p,H i=H' i)→gp H p=gp H' p
 | .d _,_=>rfl
 | .agg cs,h=>by simp only [gp,vT cs h]
 | .fn f cs,h=>by simp only [gp,vT cs h]
 | .cS _,_=>rfl
 | .nil,_=>rfl
 | .iG ..,_=>rfl
 | .un,_=>rfl
 | .bZ _,_=>rfl
 | .r (.ptr i g o),h=>by simp only [gp,fG (h i (by simp [dH])) g]
 | .r (.aI i g l n),h=>by simp only [gp,fG (h i (by simp [dH])) g]
 | .r (.own ..),_=>rfl
theorem vT: ∀(ps:List PV),(∀i∈bQ ps,H i=H' i)→gH H ps=gH H' ps
 | [],_=>rfl
 | p::ps,h=>by simp only [gH,Xo p (fun i hi=>h i (by simp [bQ,hi])),vT ps (fun i hi=>h i (by simp [bQ,hi]))]
end
mutual
theorem Ta: ∀(p:PV),(∀x∈owns p,H (bf d x.1)=H' (bf d x.1))→Be H d p=Be H' d p
 | .d _,_=>rfl
 | .agg cs,h=>by simp only [Be,DN cs h]
 | .bZ cs,h=>by simp only [Be,DN cs h]
 | .fn f cs,h=>by simp only [Be,DN cs h]
 | .cS _,_=>rfl
 | .nil,_=>rfl
 | .iG ..,_=>rfl
 | .un,_=>rfl
 | .r (.ptr i g o),h=>rfl
 | .r (.aI i g l n),h=>rfl
 | .r (.own j e k n cs),h=>by simp only [Be,h (j,.own e k cs) (by simp [owns])]
theorem DN: ∀(ps:List PV),(∀x∈eD ps,H (bf d x.1)=H' (bf d x.1))→SB H d ps=SB H' d ps
 | [],_=>rfl
 | p::ps,h=>by simp only [SB,Ta p (fun x hx=>h x (by simp [eD,hx])),DN ps (fun x hx=>h x (by simp [eD,hx]))]
end
theorem yc{f:Nat}{args:List PV}(h1: ∀i∈bQ args,H i=H' i)(h2: ∀j,j<8→H (bf d j)=H' (bf d j)):ja γ H d f args=ja γ H' d f args:=by
 unfold ja
 rw [vT args h1]
 split
 ·rfl
 ·split
  ·rfl
  ·rename_i r _
   split
   ·rename_i hc
    simp only [Bool.and_eq_true,List.all_eq_true,decide_eq_true_eq] at hc
    rw [Ta r (fun x hx=>h2 _ (hc.2 x hx))]
    congr 2
    apply List.map_congr_left
    intro x hx
    simp only [nw,h2 _ (hc.2 x hx)]
   ·rfl
mutual
theorem ajP{ids:List Nat}(h: ∀i∈ids,H i=H' i): ∀(p:PV),JQ ids H p=JQ ids H' p
 | .d _=>rfl
 | .agg cs=>by simp only [JQ,uq h cs]
 | .bZ cs=>by simp only [JQ,uq h cs]
 | .fn f cs=>by simp only [JQ,uq h cs]
 | .cS _=>rfl
 | .nil=>rfl
 | .iG .. =>rfl
 | .un=>rfl
 | .r (.own ..)=>rfl
 | .r (.ptr i g o)=>by
  simp only [JQ]
  cases hp:posOf ids i with
  | none=>cases look H i g<;>cases look H' i g<;>rfl
  | some q=>rw [fG (h i (List.mem_of_getElem? (qA hp))) g]
 | .r (.aI i g l n)=>by
  simp only [JQ]
  cases hp:posOf ids i with
  | none=>cases look H i g<;>cases look H' i g<;>rfl
  | some q=>rw [fG (h i (List.mem_of_getElem? (qA hp))) g]
theorem uq{ids:List Nat}(h: ∀i∈ids,H i=H' i): ∀(ps:List PV),xO ids H ps=xO ids H' ps
 | []=>rfl
 | p::ps=>by simp only [xO,ajP h p,uq h ps]
end
theorem ajQ{ids:List Nat}(h: ∀i∈ids,H i=H' i)(b:cj):pR ids H b=pR ids H' b:=by
 cases b with
 | box cs=>simp only [pR,uq h cs]
 | own=>rfl
mutual
theorem Tb{fx:Bool}{ids:List Nat}(h: ∀i∈ids,H i=H' i): ∀(p:PV),(∀x∈owns p,H (bf d x.1)=H' (bf d x.1))→tF fx ids H d p=tF fx ids H' d p
 | .d _,_=>rfl
 | .agg cs,h2=>by simp only [tF,ye h cs h2]
 | .bZ cs,h2=>by simp only [tF,ye h cs h2]
 | .fn f cs,h2=>by simp only [tF,ye h cs h2]
 | .cS _,_=>rfl
 | .nil,_=>rfl
 | .iG ..,_=>rfl
 | .un,_=>rfl
 | .r (.own j e k n cs),h2=>by simp only [tF,h2 (j,.own e k cs) (by simp [owns])]
 | .r (.ptr p g o),_=>by
  simp only [tF]
  cases hi:ids[p]? with
  | none=>rfl
  | some i=>simp only [pQ,h i (List.mem_of_getElem? hi)]
 | .r (.aI p g l n),_=>by
  simp only [tF]
  cases hi:ids[p]? with
  | none=>rfl
  | some i=>simp only [pQ,h i (List.mem_of_getElem? hi)]
theorem ye{fx:Bool}{ids:List Nat}(h: ∀i∈ids,H i=H' i): ∀(ps:List PV),(∀x∈eD ps,H (bf d x.1)=H' (bf d x.1))→Qe fx ids H d ps=Qe fx ids H' d ps
 | [],_=>rfl
 | p::ps,h2=>by simp only [Qe,Tb h p (fun x hx=>h2 x (by simp [eD,hx])),ye h ps (fun x hx=>h2 x (by simp [eD,hx]))]
end
theorem OG{fx:Bool}{all:List Nat}(h: ∀i∈all,H i=H' i): ∀(is:List Nat) (bs:List cj),(∀i∈is,i∈all)→(∀b∈bs,∀x∈x6 b,H (bf d x.1)=H' (bf d x.1))→lB fx H all d is bs=lB fx H' all d is bs
 | [],_,_,_=>rfl
 | i::is,[],_,_=>rfl
 | i::is,b::bs,hi,h2=>by
  have e1:Na fx all H d b=Na fx all H' d b:=by
   cases b with
   | box cs=>have:=ye (fx:=fx) (d:=d) h cs (h2 (.box cs) (by simp));simp only [Na,this]
   | own=>rfl
  simp only [lB,e1,pQ,h i (hi i (by simp)),OG h is bs (fun j hj=>hi j (by simp [hj])) (fun b hb=>h2 b (by simp [hb]))]
theorem HP: ∀{ids:List Nat},(∀i∈ids,H i=H' i)→gQ H ids=gQ H' ids
 | [],_=>rfl
 | i::ids,h=>by simp only [gQ,h i (by simp),HP (ids:=ids) (fun j hj=>h j (by simp [hj]))]
theorem Kg{args:List PV}(h: ∀i∈bQ args,H i=H' i):gB H args=gB H' args:=by
 have: ∀(l:List Nat),(∀i∈l,H i=H' i)→(l.flatMap fun i=>WV (H i).b)=l.flatMap fun i=>WV (H' i).b:=by
  intro l
  induction l with
  | nil=>intro _;rfl
  | cons x l ih=>intro h;simp only [List.flatMap_cons,h x (by simp),ih (fun i hi=>h i (by simp [hi]))]
 unfold gB
 rw [this _ h]
theorem Kh{H H':Nat→cL}: ∀{ids:List Nat} {bs:List cj},(∀i∈ids,H i=H' i)→iA H ids bs=iA H' ids bs
 | [],_,_=>by simp [iA]
 | _::_,[],_=>by simp [iA]
 | i::ids,b::bs,h=>by simp only [iA,h i (by simp),Kh (ids:=ids) (bs:=bs) (fun j hj=>h j (by simp [hj]))]
theorem Qr{f:Nat}{args:List PV}(h0: ∀i∈bQ args,H i=H' i)(h1: ∀i∈gB H args,H i=H' i)(h2: ∀j,j<8→H (bf d j)=H' (bf d j)):mY γ H d f args=mY γ H' d f args:=by
 have e:=Kg h0
 unfold mY
 rw [←e]
 generalize gB H args=ids at h1
 rw [HP h1]
 split
 ·rfl
 ·rename_i bs _
  have e2:bs.map (pR ids H)=bs.map (pR ids H'):=List.map_congr_left fun b _=>ajQ h1 b
  rw [uq h1,e2]
  split
  ·rfl
  ·rename_i r b_ _
   have e3:Nb H ids b_=Nb H' ids b_:=by unfold Nb;rw [Kh h1]
   rw [e3]
   split
   ·rename_i hc
    simp only [Bool.and_eq_true,List.all_eq_true,decide_eq_true_eq] at hc
    have ho: ∀x∈cY r b_,H (bf d x.1)=H' (bf d x.1):=fun x hx=>h2 _ (hc.2 x hx).1
    rw [Tb h1 r (fun x hx=>ho x (List.mem_append.2 (.inl hx))),OG h1 ids b_ (fun _ h=>h) (fun b hb x hx=>ho x (List.mem_append.2 (.inr (List.mem_flatMap.2 ⟨b,hb,hx⟩))))]
    congr 3
    apply List.map_congr_left
    intro x hx
    simp only [nw,ho x hx]
   ·rfl
theorem Ki: ∀(a b:List PV),bQ (a++b)=bQ a++bQ b
 | [],_=>rfl
 | p::a,b=>by simp [bQ,Ki a b]
theorem qC{i:Nat}: ∀{l:List PV},i∈bQ l↔ ∃p∈l,i∈dH p
 | []=>by simp [bQ]
 | p::l=>by simp [bQ,qC (l:=l)]
theorem Tc{p:PV}{l:List PV}(h:p.cells?=some l){i:Nat}(hi:i∈bQ l):i∈dH p:=by
 cases p<;>simp only [PV.cells?,Option.some.injEq] at h<;>first | cases h;done | (subst h;have:=hi;rw [show∀p:PV,bQ [p]=dH p from fun p=>by rw [bQ,bQ,List.append_nil]] at this;exact this) | (subst h;exact hi)
theorem yf: ∀(ps:List (Nat×Nat×Operand)) (cs cs':List PV),pz ρ cs ps=some cs'→ ∀i∈bQ cs',i∈bQ cs∨i∈bQ (ps.map fun x=>ρ x.2.2)
 | [],cs,cs',h,i,hi=>by cases h;exact .inl hi
 | (o,n,x)::r,cs,cs',h,i,hi=>by
  simp only [pz] at h
  split at h
  ·rename_i new hn
   split at h
   ·rcases yf r _ _ h i hi with h1 | h1
    ·obtain ⟨p,hp,hip⟩:=qC.1 h1
     simp only [cI,List.mem_append] at hp
     rcases hp with (hp | hp) | hp
     ·exact .inl (qC.2 ⟨p,List.mem_of_mem_take hp,hip⟩)
     ·exact .inr (by simp only [List.map_cons,bQ,List.mem_append];exact .inl (Tc hn (qC.2 ⟨p,hp,hip⟩)))
     ·exact .inl (qC.2 ⟨p,List.mem_of_mem_drop hp,hip⟩)
    ·exact .inr (by simp only [List.map_cons,bQ,List.mem_append];exact .inr h1)
   ·cases h
  ·cases h
theorem yg: ∀(z:List (Nat×Value)),bQ (iV z)= []
 | []=>rfl
 | (n,v)::r=>by
  simp only [iV,Ki,yg r,List.append_nil]
  have hv:dH (ofConst v)= []:=by unfold ofConst;split<;>rfl
  induction n with
  | zero=>rfl
  | succ n ih=>simp [List.replicate_succ,bQ,hv,ih]
mutual
theorem ae7(D:Nat→Bool): ∀(p:PV),(∀i∈dH p,H i=H' i)→jf D H p=jf D H' p
 | .d _,_=>rfl
 | .agg cs,h=>by simp only [jf,qg D cs h]
 | .bZ cs,h=>by simp only [jf,qg D cs h]
 | .fn f cs,h=>by simp only [jf,qg D cs h]
 | .cS _,_=>rfl
 | .nil,_=>rfl
 | .iG ..,_=>rfl
 | .un,_=>rfl
 | .r (.ptr i g o),h=>rfl
 | .r (.aI i g l n),h=>by simp only [jf,fG (h i (by simp [dH])) g]
 | .r (.own ..),_=>rfl
theorem qg(D:Nat→Bool): ∀(ps:List PV),(∀i∈bQ ps,H i=H' i)→gW D H ps=gW D H' ps
 | [],_=>rfl
 | p::ps,h=>by simp only [gW,ae7 D p (fun i hi=>h i (by simp [bQ,hi])),qg D ps (fun i hi=>h i (by simp [bQ,hi]))]
end
mutual
theorem Xp(D:Nat→Bool)(H:Nat→cL): ∀(p:PV),(∀i∈dH p,D i=true)→dH (jf D H p)= []
 | .d _,_=>rfl
 | .agg cs,h=>by simp only [jf,dH];exact qD D H cs h
 | .bZ cs,h=>by simp only [jf,dH];exact qD D H cs h
 | .fn f cs,h=>by simp only [jf,dH];exact qD D H cs h
 | .cS _,_=>rfl
 | .nil,_=>rfl
 | .iG ..,_=>rfl
 | .un,_=>rfl
 | .r (.ptr i g o),h=>by simp only [jf,h i (by simp [dH]),if_true];rfl
 | .r (.aI i g l n),h=>by
  simp only [jf,h i (by simp [dH]),if_true]
  split<;>rfl
 | .r (.own ..),_=>rfl
theorem qD(D:Nat→Bool)(H:Nat→cL): ∀(ps:List PV),(∀i∈bQ ps,D i=true)→bQ (gW D H ps)= []
 | [],_=>rfl
 | p::ps,h=>by simp only [gW,bQ,Xp D H p (fun i hi=>h i (by simp [bQ,hi])),qD D H ps (fun i hi=>h i (by simp [bQ,hi])),List.append_nil]
end
theorem Xq{pop:gP}(h1: ∀x∈cN pop,ρ x=ρ' x)(h2: ∀a∈cE ρ H d pop,H a.1=H' a.1):aD γ H d ρ pop=aD γ H' d ρ' pop:=by
 have rf: ∀{p:PV} {c:Bool},(∀a∈(dH p).map (fun i=>(i,c)),H a.1=H' a.1)→ ∀i∈dH p,H i=H' i:=fun h i hi=>h (i,_) (List.mem_map_of_mem hi)
 cases pop with
 | HF e k=>simp only [aD,nw,h2 (bf d 0,true) (by simp [cE])]
 | alloc z=>simp only [aD,nw,h2 (bf d 0,true) (by simp [cE])]
 | vL z=>simp only [aD,nw,h2 (bf d 0,true) (by simp [cE])]
 | box n x=>simp only [aD,nw,h2 (bf d 0,true) (by simp [cE]),h1 x (by simp [cN])]
 | tC e k n z ps=>
  simp only [aD,←CK ps _ h1]
  cases hf:pz ρ (iV z) ps with
  | none=>rfl
  | some cs=>
   have hs: ∀i∈bQ cs,H i=H' i:=fun i hi=>by
    rcases yf ps _ _ hf i hi with h | h
    ·rw [yg] at h;cases h
    ·exact h2 (i,true) (by simp only [cE,List.mem_cons];exact .inr (List.mem_map_of_mem h))
   have e1:(bQ cs).map (fun i=>(i,(⟨(H i).g+1,none⟩:cL)))=(bQ cs).map (fun i=>(i,(⟨(H' i).g+1,none⟩:cL))):=List.map_congr_left fun i hi=>by rw [hs i hi]
   simp only [qg _ cs hs,e1,nw,h2 (bf d 0,true) (by simp [cE])]
 | SF e k x=>
  have hx:=h1 x (by simp [cN])
  have:=DM (rf (p:=ρ x) (c:=false) (fun a ha=>h2 a (by simp only [cE,rd,List.mem_cons];exact .inr ha)))
  simp only [aD,nw,h2 (bf d 0,true) (by simp [cE]),←hx,this]
 | su x=>
  have hx:=h1 x (by simp [cN])
  have:=DM (rf (p:=ρ x) (c:=false) h2)
  simp only [aD,←hx,this]
 | load a n x=>
  have hx:=h1 x (by simp [cN])
  have hr:=rf (p:=ρ x) (c:=false) h2
  simp only [aD,←hx]
  split<;>first | rfl | (rename_i e;rw [e] at hr;rw [fG (hr _ (by simp [dH]))])
 | Og x=>simp only [aD,←h1 x (by simp [cN])]
 | Qa o x=>simp only [aD,←h1 x (by simp [cN])]
 | xZ len k x i=>simp only [aD,←h1 x (by simp [cN]),←h1 i (by simp [cN])]
 | fQ e k x i=>
  have hx:=h1 x (by simp [cN])
  have hi:=h1 i (by simp [cN])
  have hr:=rf (p:=ρ x) (c:=false) h2
  simp only [aD,←hx,←hi]
  split<;>first | rfl | (rename_i e _;rw [e] at hr;rw [fG (hr _ (by simp [dH]))])
 | tD e k x lo hi=>
  have hx:=h1 x (by simp [cN])
  have hr:=rf (p:=ρ x) (c:=false) h2
  have hl:=fun n=>oI (ρ:=ρ) (ρ':=ρ') n lo (fun y hy=>h1 y (by simp [cN,hy]))
  have hh:=fun n=>oI (ρ:=ρ) (ρ':=ρ') n hi (fun y hy=>h1 y (by simp [cN,hy]))
  simp only [aD,←hx,←hl,←hh]
  split<;>first | rfl | (rename_i e;rw [e] at hr;rw [fG (hr _ (by simp [dH]))])
 | Qb n k x lo hi=>
  have hx:=h1 x (by simp [cN])
  have hr:=rf (p:=ρ x) (c:=true) h2
  have hl:=fun n=>oI (ρ:=ρ) (ρ':=ρ') n lo (fun y hy=>h1 y (by simp [cN,hy]))
  have hh:=fun n=>oI (ρ:=ρ) (ρ':=ρ') n hi (fun y hy=>h1 y (by simp [cN,hy]))
  simp only [aD,←hx,←hl,←hh]
  split<;>first | rfl | (rename_i e;rw [e] at hr;rw [fG (hr _ (by simp [dH]))])
 | Qc k z x=>
  have hx:=h1 x (by simp [cN])
  have hr:=rf (p:=ρ x) (c:=true) h2
  simp only [aD,←hx]
  split<;>first | rfl | (rename_i e;rw [e] at hr;rw [fG (hr _ (by simp [dH]))])
 | JO e k x lo hi=>
  have hx:=h1 x (by simp [cN])
  have hr:=rf (p:=ρ x) (c:=true) h2
  have hl:=fun n=>oI (ρ:=ρ) (ρ':=ρ') n lo (fun y hy=>h1 y (by simp [cN,hy]))
  have hh:=fun n=>oI (ρ:=ρ) (ρ':=ρ') n hi (fun y hy=>h1 y (by simp [cN,hy]))
  simp only [aD,←hx,←hl,←hh]
  split<;>first | rfl | (rename_i e;rw [e] at hr;rw [fG (hr _ (by simp [dH]))])
 | JP e k b z l c=>simp only [aD,nw,h2 (bf d 0,true) (by simp [cE]),h1 l (by simp [cN]),h1 c (by simp [cN])]
 | WU x=>simp only [aD,nw,h2 (bf d 0,true) (by simp [cE]),h1 x (by simp [cN])]
 | Qd x=>
  have hx:=h1 x (by simp [cN])
  have hr:=rf (p:=ρ x) (c:=true) h2
  simp only [aD,←hx]
  split<;>first | rfl | (rename_i e;rw [e] at hr;rw [fG (hr _ (by simp [dH]))])
 | Dt k x y=>
  have hx:=h1 x (by simp [cN])
  have hy:=h1 y (by simp [cN])
  have hrx:=rf (p:=ρ x) (c:=true) (fun a ha=>h2 a (by simp only [cE,List.mem_append];exact .inl ha))
  have hry:=rf (p:=ρ y) (c:=false) (fun a ha=>h2 a (by simp only [cE,rd,List.mem_append];exact .inr ha))
  simp only [aD,←hx,←hy,DM hry]
  split<;>first | rfl | (rename_i e _;rw [e] at hrx;rw [fG (hrx _ (by simp [dH]))])
 | len s x=>
  have hx:=h1 x (by simp [cN])
  have hr:=rf (p:=ρ x) (c:=false) h2
  cases s
  ·simp only [aD,←hx]
   split<;>first | rfl | (rename_i e;rw [e] at hr;rw [fG (hr _ (by simp [dH]))])
  ·simp only [aD,←hx]
 | store n x y=>
  have hx:=h1 x (by simp [cN])
  have hy:=h1 y (by simp [cN])
  have hr:=rf (p:=ρ x) (c:=true) h2
  simp only [aD,←hx,←hy]
  split<;>first | rfl | (rename_i e _;rw [e] at hr;rw [fG (hr _ (by simp [dH]))])
 | app e k b x y=>
  have hx:=h1 x (by simp [cN])
  have hy:=h1 y (by simp [cN])
  have hrx:=rf (p:=ρ x) (c:=true) (fun a ha=>h2 a (by simp only [cE,List.mem_cons,List.mem_append,List.cons_append];exact .inr (.inl ha)))
  have hry:=rf (p:=ρ y) (c:=false) (fun a ha=>h2 a (by simp only [cE,rd,List.mem_cons,List.mem_append,List.cons_append];exact .inr (.inr ha)))
  simp only [aD,←hx,←hy,ajO hry,h2 (bf d 0,true) (by simp [cE])]
  split
  ·rfl
  ·split
   ·split<;>first | rfl | (rename_i e;rw [e] at hrx;rw [fG (hrx _ (by simp [dH]))])
   ·rfl
 | call f xs=>
  have hx:xs.map ρ'=xs.map ρ:=List.map_congr_left fun x hx=>(h1 x hx).symm
  simp only [aD,hx]
  exact yc (fun i hi=>h2 (i,false) (by simp only [cE,List.mem_append];exact .inl (List.mem_map_of_mem hi))) (fun j hj=>h2 (bf d j,true) (by simp only [cE,List.mem_append];exact .inr (List.mem_map_of_mem (f:=fun j=>(bf d j,true)) (List.mem_range.2 hj))))
 | eR f xs=>
  have hx:xs.map ρ'=xs.map ρ:=List.map_congr_left fun x hx=>(h1 x hx).symm
  have hr: ∀i∈bQ (xs.map ρ),H i=H' i:=fun i hi=>h2 (i,true) (by simp only [cE,List.mem_append];exact .inl (List.mem_map_of_mem hi))
  have hb: ∀j,j<8→H (bf d j)=H' (bf d j):=fun j hj=>h2 (bf d j,true) (by simp only [cE,List.mem_append];exact .inr (List.mem_map_of_mem (f:=fun j=>(bf d j,true)) (List.mem_range.2 hj)))
  simp only [aD,hx,ud]
  have e1:gM H (bQ (xs.map ρ))=gM H' (bQ (xs.map ρ)):=List.map_congr_left fun i hi=>by rw [hr i hi]
  rw [←qg _ _ hr,←e1]
  split
  ·rename_i hall
   have e2:ja γ (x7 H (gM H (bQ (xs.map ρ)))) d f (gW (j8 (bQ (xs.map ρ))) H (xs.map ρ))=ja γ (x7 H' (gM H (bQ (xs.map ρ)))) d f (gW (j8 (bQ (xs.map ρ))) H (xs.map ρ)):=by
    refine yc (fun i hi=>?_) (fun j hj=>?_)
    ·rw [qD _ H _ (fun i hi=>by simp only [j8,List.any_eq_true];exact ⟨i,hi,by simp⟩)] at hi;cases hi
    ·rw [DJ,DJ]
     have hn: ∀y∈gM H (bQ (xs.map ρ)),y.1≠bf d j:=by
      intro y hy e
      obtain ⟨i,hi,rfl⟩:=List.mem_map.1 hy
      have:=List.all_eq_true.1 hall i hi
      simp only [Bool.and_eq_true,List.all_eq_true,List.mem_range] at this
      have:=this.2 j hj
      simp only at e
      rw [e] at this;simp at this
     rw [jh _ _ _ hn,jh _ _ _ hn,hb j hj]
   rw [e2]
  ·rfl
 | er f xs=>
  have hx:xs.map ρ'=xs.map ρ:=List.map_congr_left fun x hx=>(h1 x hx).symm
  simp only [aD,hx]
  exact Qr (fun i hi=>h2 (i,false) (by simp only [cE,List.mem_append];exact .inl (.inr (List.mem_map_of_mem hi)))) (fun i hi=>h2 (i,true) (by simp only [cE,List.mem_append];exact .inl (.inl (List.mem_map_of_mem hi)))) (fun j hj=>h2 (bf d j,true) (by simp only [cE,List.mem_append];exact .inr (List.mem_map_of_mem (f:=fun j=>(bf d j,true)) (List.mem_range.2 hj))))
 | nQ x xs=>
  have hy:=h1 x (by simp [cN])
  have hx:xs.map ρ'=xs.map ρ:=List.map_congr_left fun y hy=>(h1 y (by simp [cN,hy])).symm
  simp only [aD,hx,←hy]
  split
  ·rename_i f cs e
   refine yc (fun i hi=>?_) (fun j hj=>h2 (bf d j,true) (by simp only [cE,List.mem_append];exact .inr (List.mem_map_of_mem (f:=fun j=>(bf d j,true)) (List.mem_range.2 hj))))
   have azQ: ∀(l r:List PV),bQ (l++r)=bQ l++bQ r:=by
    intro l r
    induction l with
    | nil=>rfl
    | cons p l ih=>simp [bQ,ih]
   rw [azQ,List.mem_append] at hi
   rcases hi with hi | hi
   ·exact h2 (i,false) (by simp only [cE,List.mem_append];exact .inl (.inl (List.mem_map_of_mem hi)))
   ·exact h2 (i,false) (by simp only [cE,List.mem_append,rd,e];exact .inl (.inr (List.mem_map_of_mem (show i∈dH (.fn f cs) from hi))))
  ·rfl
 | jG x=>simp only [aD,h1 x (by simp [cN])]
 | pick c a b=>simp only [aD,h1 c (by simp [cN]),h1 a (by simp [cN]),h1 b (by simp [cN])]
 | WT op x y=>simp only [aD,h1 x (by simp [cN]),h1 y (by simp [cN])]
 | sh op x y=>simp only [aD,h1 x (by simp [cN]),h1 y (by simp [cN])]
 | a_ op x y=>simp only [aD,h1 x (by simp [cN]),h1 y (by simp [cN])]
 | lI op x y=>simp only [aD,h1 x (by simp [cN]),h1 y (by simp [cN])]
 | eqB op x y=>simp only [aD,h1 x (by simp [cN]),h1 y (by simp [cN])]
 | CD op ks x y=>simp only [aD,h1 x (by simp [cN]),h1 y (by simp [cN])]
 | isN op x=>simp only [aD,h1 x (by simp [cN])]
 | isE op x=>simp only [aD,h1 x (by simp [cN])]
 | ajh x=>simp only [aD,h1 x (by simp [cN])]
 | Ds e x=>simp only [aD,nw,h1 x (by simp [cN]),h2 (bf d 0,true) (by simp [cE])]
 | un op x=>simp only [aD,h1 x (by simp [cN])]
 | xY k x=>simp only [aD,h1 x (by simp [cN])]
 | SC x=>simp only [aD,h1 x (by simp [cN])]
 | SD x=>simp only [aD,h1 x (by simp [cN])]
 | build z ps=>simp only [aD,CK ps _ h1]
 | SE a o n x=>simp only [aD,h1 x (by simp [cN])]
 | M_ a l k x i=>simp only [aD,h1 x (by simp [cN]),h1 i (by simp [cN])]
 | j9 x i=>simp only [aD,h1 x (by simp [cN]),h1 i (by simp [cN])]
 | tE x lo hi=>
  have hl:=fun n=>oI (ρ:=ρ) (ρ':=ρ') n lo (fun y hy=>h1 y (by simp [cN,hy]))
  have hh:=fun n=>oI (ρ:=ρ) (ρ':=ρ') n hi (fun y hy=>h1 y (by simp [cN,hy]))
  simp only [aD,h1 x (by simp [cN]),hl,hh]
 | ext x i=>simp only [aD,h1 x (by simp [cN])]
 | mkF f cs=>
  have hx:cs.map ρ'=cs.map ρ:=List.map_congr_left fun x hx=>(h1 x hx).symm
  simp only [aD,hx]
 | mx xs=>simp only [aD,GG xs h1]
 | mn xs=>simp only [aD,GG xs h1]
theorem Xr{pop:gP}{p:PV}{aH:eo}(h:aD γ H d ρ pop=some (p,aH)): ∀x∈aH,(x.1,true)∈cE ρ H d pop:=by
 have dc': ∀{H:Nat→cL} {f:Nat} {args:List PV} {p:PV} {aH:eo},ja γ H d f args=some (p,aH)→ ∀x∈aH,(x.1,true)∈(List.range 8).map fun j=>(bf d j,true):=by
  intro H f args p aH h x hx
  unfold ja at h
  split at h
  ·cases h
  ·split at h
   ·cases h
   ·split at h
    ·rename_i hc
     simp only [Option.some.injEq,Prod.mk.injEq] at h
     obtain ⟨rfl,rfl⟩:=h
     simp only [Bool.and_eq_true,List.all_eq_true,decide_eq_true_eq] at hc
     obtain ⟨y,hy,rfl⟩:=List.mem_map.1 hx
     exact List.mem_map.2 ⟨y.1,List.mem_range.2 (hc.2 y hy),rfl⟩
    ·cases h
 have dc: ∀{f:Nat} {args:List PV},ja γ H d f args=some (p,aH)→ ∀x∈aH,(x.1,true)∈(List.range 8).map fun j=>(bf d j,true):=fun h=>dc' h
 cases pop with
 | call f xs=>
  simp only [aD] at h
  intro x hx;simp only [cE,List.mem_append];exact .inr (dc h x hx)
 | eR f xs=>
  simp only [aD,ud] at h
  intro x hx
  split at h
  ·split at h
   ·rename_i p' gN hc
    simp only [Option.some.injEq,Prod.mk.injEq] at h
    obtain ⟨rfl,rfl⟩:=h
    simp only [cE,List.mem_append]
    rcases List.mem_append.1 hx with hx | hx
    ·obtain ⟨i,hi,rfl⟩:=List.mem_map.1 hx
     exact .inl (List.mem_map_of_mem hi)
    ·exact .inr (dc' hc x hx)
   ·cases h
  ·cases h
 | er f xs=>
  simp only [aD] at h
  intro x hx
  unfold mY at h
  split at h
  ·cases h
  ·split at h
   ·cases h
   ·split at h
    ·rename_i hc
     simp only [Option.some.injEq,Prod.mk.injEq] at h
     obtain ⟨rfl,rfl⟩:=h
     simp only [Bool.and_eq_true,List.all_eq_true,decide_eq_true_eq] at hc
     simp only [cE,List.mem_append]
     rcases List.mem_append.1 hx with hx | hx
     ·exact .inl (.inl (List.mem_map.2 ⟨_,Av _ _ _ hx,rfl⟩))
     ·obtain ⟨y,hy,rfl⟩:=List.mem_map.1 hx
      exact .inr (List.mem_map.2 ⟨y.1,List.mem_range.2 (hc.2 y hy).1,rfl⟩)
    ·cases h
 | nQ y xs=>
  simp only [aD] at h
  split at h
  ·intro x hx;simp only [cE,List.mem_append];exact .inr (dc h x hx)
  ·cases h
 | tC e k n z ps=>
  simp only [aD] at h
  split at h
  ·rename_i cs hf
   split at h
   ·split at h
    ·split at h
     ·cases h
      intro x hx
      rcases List.mem_append.1 hx with hx | hx
      ·obtain ⟨i,hi,rfl⟩:=List.mem_map.1 hx
       rcases yf ps _ _ hf i hi with h | h
       ·rw [yg] at h;cases h
       ·simp only [cE,List.mem_cons];exact .inr (List.mem_map_of_mem h)
      ·simp only [nw,List.mem_singleton] at hx;subst hx;simp [cE]
     ·cases h
    ·cases h
   ·cases h
  ·cases h
 | len s x=>
  cases s
  all_goals
   simp only [aD] at h
   repeat' split at h
   all_goals first | (cases h;done) | skip
   all_goals
    cases h
    intro z hz
    cases hz
 | Qb n k x lo hi=>
  simp only [aD] at h
  repeat' split at h
  all_goals first | (cases h;done) | skip
  all_goals
   cases h
   intro z hz
   simp only [List.mem_singleton] at hz
   subst hz
   simp only [cE,‹ρ x=_›,dH,List.map_cons,List.map_nil,List.mem_singleton]
 | Qc k z x=>
  simp only [aD] at h
  repeat' split at h
  all_goals first | (cases h;done) | skip
  all_goals
   cases h
   intro z hz
   simp only [List.mem_singleton] at hz
   subst hz
   simp only [cE,‹ρ x=_›,dH,List.map_cons,List.map_nil,List.mem_singleton]
 | JO n k x lo hi=>
  simp only [aD] at h
  repeat' split at h
  all_goals first | (cases h;done) | skip
  all_goals
   cases h
   intro z hz
   simp only [List.mem_singleton] at hz
   subst hz
   simp only [cE,‹ρ x=_›,dH,List.map_cons,List.map_nil,List.mem_singleton]
 | Qd x=>
  simp only [aD] at h
  repeat' split at h
  all_goals first | (cases h;done) | skip
  all_goals
   cases h
   intro z hz
   first
    | (cases hz;done)
    | (simp only [List.mem_singleton] at hz
       subst hz
       simp only [cE,‹ρ x=_›,dH,List.map_cons,List.map_nil,List.mem_singleton])
 | Dt k x y=>
  simp only [aD] at h
  repeat' split at h
  all_goals first | (cases h;done) | skip
  all_goals
   cases h
   intro z hz
   simp only [List.mem_singleton] at hz
   subst hz
   simp only [cE,‹ρ x=_›,dH,List.map_cons,List.map_nil,List.mem_append,List.mem_singleton,true_or]
 | store n x y=>
  simp only [aD] at h
  repeat' split at h
  all_goals first | (cases h;done) | skip
  all_goals
   cases h
   intro z hz
   simp only [List.mem_singleton] at hz
   subst hz
   simp only [cE,‹ρ x=_›,dH,List.map_cons,List.map_nil,List.mem_singleton]
 | app e k b x y=>
  simp only [aD] at h
  repeat' split at h
  all_goals first | (cases h;done) | skip
  all_goals
   cases h
   intro z hz
   simp only [List.mem_singleton] at hz
   subst hz
   simp only [cE,‹ρ x=_›,dH,List.map_cons,List.map_nil,List.mem_cons,List.cons_append,List.mem_append,true_or,or_true]
 | _=>
  simp only [aD] at h
  repeat' split at h
  all_goals first | (cases h;done) | skip
  all_goals
   cases h
   intro z hz
   first
    | (cases hz;done)
    | (simp only [nw,List.mem_singleton] at hz;subst hz;simp [cE])
end
end Go.Proofs.YtobkkblijfhpoaaGreatDoor.Pm
