/- The small machine: its operations are the language's: cells, elements, slices. No program is named here. -/
import Derived.Test.YtobkkblijfhpoaaGreatDoorPr
namespace Go.Proofs.YtobkkblijfhpoaaGreatDoor.Pm
open Go.RowKit

section
variable {P : Program} {E : Nat → Prop} {m : List cj} {aS φ : Nat → cJ} {H : Nat → cL} {w0 w : World}
variable {ρ : Operand → PV} {ev : Operand → Value} {γ : cX} {d : Nat}

theorem JZ{t:TypeId}{n:Nat}(h:gS P t=some n): ∃i,P.info? t=some i∧i.size=n:=by
 unfold gS at h
 cases hi:P.info? t with
 | none=>simp [hi] at h
 | some i=>simp [hi] at h;exact ⟨i,rfl,h⟩
theorem fe{t:TypeId}{n:Nat}(h:gS P t=some n)(w:World):(sizeOf t).run P w= .ok n w:=by
 obtain ⟨i,h1,h2⟩:=JZ h
 simp [sizeOf,typeInfo,h1,h2]
theorem Ow{t:TypeId}{dd:TypeDesc}(h:P.underlying t=some dd)(w:World):(isAgg t).run P w= .ok (gb P t) w:=by
 unfold isAgg gb
 rw [Sem.run_bind,run_underlying h w,h]
 cases dd<;>rfl
theorem J0{t:TypeId}{dd:TypeDesc}{n b o:Nat}{us:List Value}(hd:P.underlying t=some dd)(hn:gS P t=some n)(h1:gb P t=false→n=1)(hl:us.length=n)(hc: ∀j u,us[j]?=some u→w.cell? ⟨b,o+j,none⟩=some u):
  (Instr.loadAt t (.pointer (some ⟨b,o,none⟩))).run P w= .ok (if gb P t then .agg us.toArray else us.headD undef) w:=by
 unfold Instr.loadAt Instr.sureAddr loadVar
 simp only [Sem.run_bind,Sem.run_pure,Result.andThen_ok,Ow hd]
 split
 ·have:=run_loadCells_list (P:=P) w ⟨b,o,none⟩ us (fun j v hv=>by rw [iH];exact hc j v hv)
  rw [hl] at this
  simp only [Sem.run_bind,fe hn,Result.andThen_ok,this,Sem.run_pure]
 ·rename_i hf
  have h1:=h1 (by simpa using hf)
  match us,hl with
  | [u],_=>
   have:=hc 0 u rfl
   simp only [Nat.add_zero] at this
   simp [this]
  | [],hl=>simp at hl;omega
  | _::_::_,hl=>simp at hl;omega
theorem Ap{X:Nat→Prop}{R:Ref→Value→Prop}{agg:Bool}{cs:List PV}{o n:Nat}{p:PV}{vs:List Value}(hp:part agg cs o n=some p)(h1:agg=false→n=1)(h:aZ X w R cs vs):
  ((vs.drop o).take n).length=n∧cT X w R p (if agg then .agg ((vs.drop o).take n).toArray else ((vs.drop o).take n).headD undef):=by
 have hlen:=h.len
 unfold Pm.part at hp
 split at hp
 ·rename_i ha;subst ha
  split at hp
  ·rename_i hl;cases hp
   refine ⟨by simp;omega,?_⟩
   exact ⟨_,rfl,by simpa using (h.drop o).take n⟩
  ·cases hp
 ·rename_i ha
  have ha:agg=false:=by simpa using ha
  subst ha
  have h1:=h1 rfl
  subst h1
  obtain ⟨v,hv,q⟩:=h.get o p hp
  have:o<vs.length:=(List.getElem?_eq_some_iff.1 hv).1
  refine ⟨by simp;omega,?_⟩
  have e:(vs.drop o).take 1= [v]:=by
   rw [List.drop_eq_getElem_cons this,List.take_succ_cons,List.take_zero]
   rw [List.getElem?_eq_getElem this] at hv;cases hv;rfl
  rw [e];exact q
theorem oG(agg:Bool)(cs:List PD)(o n:Nat):nP agg cs o n=Pm.part agg (cs.map .d) o n:=by
 unfold nP Pm.part
 simp [List.map_take,List.map_drop]
theorem Ox{vs:List Value}{b o0:Nat}(hc: ∀j u,vs[j]?=some u→w.cell? ⟨b,o0+j,none⟩=some u)(o n:Nat): ∀j u,((vs.drop o).take n)[j]?=some u→w.cell? ⟨b,o0+o+j,none⟩=some u:=by
 intro j u hu
 rw [List.getElem?_take] at hu
 split at hu
 ·rw [List.getElem?_drop] at hu
  rw [Nat.add_assoc];exact hc _ u hu
 ·cases hu
theorem fq.vals{X:Nat→Prop}{R:Ref→Value→Prop}{b:Nat}: ∀{cs:List PD} {o:Nat},fq X w cs b o→ ∃us,aZ X w R (cs.map .d) us∧ ∀j u,us[j]?=some u→w.cell? ⟨b,o+j,none⟩=some u
 | [],o,_=>⟨[],rfl,fun j u hu=>by simp at hu⟩
 | x::ds,o,⟨⟨u,q1,q2⟩,q3⟩=>by
  obtain ⟨us,r1,r2⟩:=fq.vals (R:=R) q3
  refine ⟨u::us,⟨u,us,rfl,q2,r1⟩,fun j u' hu=>?_⟩
  cases j with
  | zero=>simp at hu;subst hu;exact q1
  | succ j=>have:=r2 j u' (by simpa using hu);rwa [show o+(j+1)=o+1+j by omega]
theorem SL: ∀{cs:List PV} {ds:List PD},pP cs=some ds→gL cs=true:=by
 intro cs ds h
 unfold gL
 split
 ·simp [pP,toD] at h
 ·simp [pP,toD] at h
 ·simp [pP,toD] at h
 ·simp [pP,toD] at h
 ·rfl
theorem Mem.cells(hm:Mem E m aS w0 φ H w){i g o:Nat}{b:cj}{v:Value}(hk: ∀cs,b= .box cs→gL cs=true)(hl:look H i g=some b)(hv:bu φ H (.ptr i g o) v):
  ∃x c,φ i= .blk x c∧v= .pointer (some ⟨x,off c+o,none⟩)∧ ∃us,aZ (dr E φ) w (bu φ H) (match b with | .box cs=>cs | .own _ _ cs=>cs.map .d) us∧ ∀j u,us[j]?=some u→w.cell? ⟨x,off c+j,none⟩=some u:=by
 obtain ⟨hg,hb⟩:=hm.gR hl
 obtain ⟨_,_,q⟩:=hv
 obtain ⟨x,c,hp,rfl⟩:=q hg (by rw [hb];rfl)
 have dG:=hm.rep i b hb
 rw [hp] at dG
 refine ⟨x,c,hp,rfl,?_⟩
 cases b with
 | box cs=>
  obtain ⟨vs,T,⟨r1,r0⟩,r2⟩:=dG
  rw [l6 T (hk cs rfl) r2] at r1
  exact ⟨vs.toList,r2,fun j u hu=>by rw [r0,Nat.zero_add,cell_of_row w x j vs T (0,0) r1];simpa using hu⟩
 | own e k cs=>
  obtain ⟨q0,cur,xs,r1,r2,r3,r4,r5,r6,r7⟩:=dG
  refine ⟨xs,r7,fun j u hu=>?_⟩
  rw [r1.cell]
  rw [←r6,List.getElem?_take] at hu
  split at hu
  ·rw [List.getElem?_drop] at hu
   simpa using hu
  ·cases hu
theorem J1{t:TypeId}{dd:TypeDesc}{n:Nat}{x:Operand}{p:PV}{aH:eo}(hm:Mem E m aS w0 φ H w)(b8:eW E φ H w ρ ev)(hd:P.underlying t=some dd)(hn:gS P t=some n)(h1:gb P t=false→n=1)
  (he:aD γ H d ρ (.load (gb P t) n x)=some (p,aH)):Does P E m aS w0 φ H w p aH (do pure (.value (←Instr.loadAt t (ev x)))):=by
 have hx:=b8 x
 simp only [aD] at he
 have fin: ∀{cs:List PV} {us:List Value} {b o0 o:Nat},aZ (dr E φ) w (bu φ H) cs us→(∀j u,us[j]?=some u→w.cell? ⟨b,o0+j,none⟩=some u)→Pm.part (gb P t) cs o n=some p→ev x= .pointer (some ⟨b,o0+o,none⟩)→aH= []→
   Does P E m aS w0 φ H w p aH (do pure (.value (←Instr.loadAt t (ev x)))):=by
  intro cs us b o0 o hr hc hp xP hu
  subst hu
  obtain ⟨q1,q2⟩:=Ap hp h1 hr
  rw [xP]
  exact dY hm (J0 hd hn h1 q1 (Ox hc o n)) q2
 split at he
 ·rename_i i g o e
  rw [e] at hx
  split at he
  ·rename_i cs hl
   split at he
   ·rename_i kU
    obtain ⟨b,c,hp,hv,us,r1,r2⟩:=hm.cells (fun cs h=>by cases h;exact kU) hl hx
    split at he
    ·rename_i q hq;cases he
     exact fin (o0:=off c) r1 r2 hq hv rfl
    ·cases he
   ·cases he
  ·rename_i e' k cs hl
   obtain ⟨b,c,hp,hv,us,r1,r2⟩:=hm.cells (fun cs h=>by cases h) hl hx
   split at he
   ·rename_i q hq;cases he
    rw [oG] at hq
    exact fin (o0:=off c) r1 r2 hq hv rfl
   ·cases he
  ·cases he
 ·rename_i cs e
  rw [e] at hx
  obtain ⟨b,o,hv,_,_,hc⟩:=hx
  obtain ⟨us,r1,r2⟩:=hc.vals (R:=bu φ H)
  split at he
  ·rename_i q hq;cases he
   rw [oG] at hq
   exact fin (o0:=o) r1 r2 hq (by rw [hv,Nat.add_zero]) rfl
  ·cases he
 ·cases he
theorem toD_rep{X:Nat→Prop}{R:Ref→Value→Prop}{p:PV}{x:PD}{v:Value}(h:toD p=some x)(q:cT X w R p v):dQ X w x v:=by
 unfold toD at h
 split at h
 ·cases h;exact q
 ·cases h
  obtain ⟨a,rfl⟩:=q
  exact ⟨a,0,rfl,Nat.le_refl _,by simp,fun _=>rfl,.inl rfl⟩
 ·cases h;exact q.1
 ·cases h
theorem qd{X:Nat→Prop}{R:Ref→Value→Prop}: ∀{ps:List PV} {ds:List PD} {vs:List Value},pP ps=some ds→aZ X w R ps vs→aZ X w R (ds.map .d) vs∧ds.length=ps.length∧ ∀u∈vs,u.oneCell'=true
 | [],ds,vs,h,q=>by cases h;have:vs= []:=q;subst this;exact ⟨rfl,rfl,fun u hu=>by cases hu⟩
 | p::ps,ds,vs,h,⟨v,r,e,q1,q2⟩=>by
  subst e
  unfold pP at h
  split at h
  ·rename_i x xs h1 h2;cases h
   have h3:=toD_rep h1 q1
   obtain ⟨r1,r2,r3⟩:=qd h2 q2
   refine ⟨⟨v,r,rfl,h3,r1⟩,by simp [r2],fun u hu=>?_⟩
   rcases List.mem_cons.1 hu with rfl | hu
   ·exact dQ.one h3
   ·exact r3 u hu
  ·cases h
theorem SM{t:TypeId}{n:Nat}{x y:Operand}{p:PV}{aH:eo}(hm:Mem E m aS w0 φ H w)(b8:eW E φ H w ρ ev)(hn:gS P t=some n)(h0:0<n)
  (he:aD γ H d ρ (.store n x y)=some (p,aH)):Does P E m aS w0 φ H w p aH (do Instr.storeAt t (ev x) (ev y);pure .skip):=by
 have hx:=b8 x
 have hy:=b8 y
 simp only [aD] at he
 split at he
 ·rename_i i g o new e uf
  rw [e] at hx
  obtain ⟨hr,x9⟩:=Gq uf hy
  have fin: ∀{b b':cj} {new:List PV},aZ (dr E φ) w (bu φ H) new (ev y).cells.toList→look H i g=some b→(∀u∈(ev y).cells.toList,u.oneCell'=true)→new.length=n→
    ((∃cs,b= .box cs∧b'= .box (cI cs o new)∧o+new.length≤cs.length∧gL cs=true∧gL (cI cs o new)=true)∨(∃e k cs ds,b= .own e k cs∧b'= .own e k (cI cs o ds)∧new=ds.map .d∧o+new.length≤cs.length))→
    p= .un→aH= [(i,⟨g,some b'⟩)]→Does P E m aS w0 φ H w p aH (do Instr.storeAt t (ev x) (ev y);pure .skip):=by
   intro b b' new hr hl h1 hlen WX hp hu
   have hnl:=hr.len
   subst hp;subst hu
   obtain ⟨hg,hb⟩:=hm.gR hl
   obtain ⟨x1,c,ey,w',hrun,m1,t1⟩:=hm.ajm hb hr h1 (by omega) o WX P
   obtain ⟨_,_,q⟩:=hx
   obtain ⟨b1,c1,hp1,hv⟩:=q hg (by rw [hb];rfl)
   rw [ey] at hp1;cases hp1
   refine .inr (.inl ⟨w',?_,φ,?_,?_,trivial⟩)
   ·rw [hv]
    have hs:(ev y).cells.size=n:=by simp at hnl;omega
    refine axa ?_
    unfold Instr.storeAt Instr.sureAddr storeVar
    simp [fe hn,hs,hrun]
   ·show Mem _ _ _ _ _ (up H i _) _;rw [hg];exact m1
   ·show Tr _ _ _ _ _ (up H i _) _;rw [hg];exact t1
  split at he
  ·rename_i cs hl
   split at he
   ·rename_i hh;cases he
    exact fin hr hl (x9 hh.2.2.1) hh.1 (.inl ⟨cs,rfl,rfl,by omega,hh.2.2.2⟩) rfl rfl
   ·cases he
  ·rename_i e' k cs hl
   split at he
   ·rename_i ds Gz
    split at he
    ·rename_i hh;cases he
     obtain ⟨r1,r2,r3⟩:=qd Gz hr
     exact fin r1 hl r3 (by simpa using hh.1) (.inr ⟨e',k,cs,ds,rfl,rfl,rfl,by simpa [hh.1] using hh.2⟩) rfl rfl
    ·cases he
   ·cases he
  ·cases he
 ·cases he

theorem W6{x:Operand}{p:PV}{aH:eo}(hm:Mem E m aS w0 φ H w)(b8:eW E φ H w ρ ev){f:Value→Sem Next}(hf: ∀a v,v= .pointer (some a)→(f v).run P w= .ok (.value v) w)
  (he:aD γ H d ρ (.Og x)=some (p,aH)):Does P E m aS w0 φ H w p aH (f (ev x)):=by
 have hx:=b8 x
 simp only [aD] at he
 split at he
 ·rename_i i g o e
  rw [e] at hx
  cases he
  obtain ⟨b1,_,hv⟩:=hx.1
  exact Gv hm (hf _ _ hv) hx
 ·rename_i cs e;cases he
  rw [e] at hx
  obtain ⟨b,o,hv,h⟩:=hx
  exact Gv hm (hf _ _ hv) ⟨b,o,hv,h⟩
 ·cases he
theorem mZ{t:TypeId}{fs:Array Field}{f:Nat}{fd:Field}(hu:P.underlying t=some (.struct fs))(hf:fs[f]?=some fd){n:Nat}(hn:gS P fd.type=some n)(h0:n≠0)(b o:Nat):
  (Instr.fieldAt t (.pointer (some ⟨b,o,none⟩)) f).run P w= .ok (.pointer (some ⟨b,o+fd.offset,none⟩)) w:=by
 unfold Instr.fieldAt
 simp [run_underlying hu,hf,Instr.sureAddr,fieldPlace,fe hn,h0,iH]
theorem aeN{t:TypeId}{fs:Array Field}{f:Nat}{fd:Field}{x:Operand}{p:PV}{aH:eo}(hm:Mem E m aS w0 φ H w)(b8:eW E φ H w ρ ev)(hu:P.underlying t=some (.struct fs))(hf:fs[f]?=some fd){n:Nat}(hn:gS P fd.type=some n)(h0:n≠0)
  (he:aD γ H d ρ (.Qa fd.offset x)=some (p,aH)):Does P E m aS w0 φ H w p aH (do pure (.value (←Instr.fieldAt t (ev x) f))):=by
 have hx:=b8 x
 simp only [aD] at he
 split at he
 ·rename_i i g o e
  rw [e] at hx
  cases he
  obtain ⟨b1,o1,hv⟩:=hx.1
  rw [hv] at hx ⊢
  refine dY hm (mZ hu hf hn h0 b1 o1) ⟨⟨_,_,rfl⟩,hx.2.1,fun hg hs=>?_⟩
  obtain ⟨b2,c2,h1,h2⟩:=hx.2.2 hg hs
  injection h2 with h2;injection h2 with h2;injection h2 with h2 h3
  subst h2;subst h3
  exact ⟨b1,c2,h1,by rw [Nat.add_assoc]⟩
 ·rename_i cs e;cases he
  rw [e] at hx
  obtain ⟨b,o,hv,h1,h2,h3⟩:=hx
  rw [hv]
  exact dY hm (mZ hu hf hn h0 b o) ⟨b,_,rfl,h1,h2,h3.drop _⟩
 ·cases he
theorem Oy{t:TypeId}{dd:TypeDesc}{n:Nat}(hd:P.underlying t=some dd)(hn:gS P t=some n)(h1:gb P t=false→n=1){vs:Array Value}{o:Nat}(hl:((vs.toList.drop o).take n).length=n):
  (Go.part t vs o).run P w= .ok (if gb P t then .agg ((vs.toList.drop o).take n).toArray else ((vs.toList.drop o).take n).headD undef) w:=by
 unfold Go.part
 rw [Sem.run_bind,Ow hd]
 simp only [Result.andThen_ok]
 split
 ·simp only [Sem.run_bind,fe hn,Result.andThen_ok,Sem.run_pure]
  congr 2
  apply Array.ext'
  simp [List.extract_eq_take_drop]
 ·rename_i hf
  have h1:=h1 (by simpa using hf)
  subst h1
  have ho:o<vs.size:=by simp at hl;omega
  have:vs[o]?=some vs[o]:=by simp [ho]
  rw [this]
  have e:(vs.toList.drop o).take 1= [vs[o]]:=by
   rw [List.drop_eq_getElem_cons (by simpa using ho),List.take_succ_cons,List.take_zero];rfl
  rw [e];rfl
theorem W7{t:TypeId}{fs:Array Field}{f:Nat}{fd:Field}{x:Operand}{p:PV}{aH:eo}(hm:Mem E m aS w0 φ H w)(b8:eW E φ H w ρ ev)(hu:P.underlying t=some (.struct fs))(hf:fs[f]?=some fd){dd:TypeDesc}(hd:P.underlying fd.type=some dd){n:Nat}(hn:gS P fd.type=some n)(h1:gb P fd.type=false→n=1)
  (he:aD γ H d ρ (.SE (gb P fd.type) fd.offset n x)=some (p,aH)):Does P E m aS w0 φ H w p aH (do pure (.value (←Instr.field t (ev x) f))):=by
 have hx:=b8 x
 simp only [aD] at he
 split at he
 ·rename_i cs e
  rw [e] at hx
  obtain ⟨vs,hv,hr⟩:=hx
  split at he
  ·rename_i q hq;cases he
   obtain ⟨q1,q2⟩:=Ap hq h1 hr
   rw [hv]
   refine dY hm ?_ q2
   unfold Instr.field
   simp only [Sem.run_bind,run_underlying hu,Result.andThen_ok,hf,asAgg,Sem.run_pure]
   exact Oy hd hn h1 q1
  ·cases he
 ·cases he
theorem DA{t e:TypeId}{len k:Nat}(hu:P.underlying t=some (.array len e))(hk:gS P e=some k)(b o:Nat)(kk:IntKind)(j:Int)(h:0≤j∧j<len):
  (Instr.indexAt t (.pointer (some ⟨b,o,none⟩)) (.int kk j)).run P w= .ok (.pointer (some ⟨b,o+j.toNat*k,none⟩)) w:=by
 unfold Instr.indexAt
 simp [asIntOf,run_underlying hu,Instr.sureAddr,h,fe hk,iH]
theorem SN{t e:TypeId}{k:Nat}(hu:P.underlying t=some (.slice e))(hk:gS P e=some k)(b o n c:Nat)(kk:IntKind)(j:Int)(h:0≤j∧j<n):
  (Instr.indexAt t (.slice (some ⟨b,o,none⟩) n c) (.int kk j)).run P w= .ok (.pointer (some ⟨b,o+j.toNat*k,none⟩)) w:=by
 unfold Instr.indexAt
 simp [asIntOf,run_underlying hu,h,fe hk,iH]
theorem aeO{t e:TypeId}{len k:Nat}{x i:Operand}{p:PV}{aH:eo}(hm:Mem E m aS w0 φ H w)(b8:eW E φ H w ρ ev)(hu:P.underlying t=some (.array len e))(hk:gS P e=some k)
  (he:aD γ H d ρ (.xZ len k x i)=some (p,aH)):Does P E m aS w0 φ H w p aH (do pure (.value (←Instr.indexAt t (ev x) (ev i)))):=by
 have hx:=b8 x
 have hi:=b8 i
 simp only [aD] at he
 split at he
 ·rename_i b g o kk j e1 e2
  rw [e1] at hx
  rw [jT e2 hi]
  split at he
  ·rename_i hj;cases he
   obtain ⟨b1,o1,hv⟩:=hx.1
   rw [hv] at hx ⊢
   refine dY hm (DA hu hk b1 o1 kk j hj) ⟨⟨_,_,rfl⟩,hx.2.1,fun hg hs=>?_⟩
   obtain ⟨b2,c2,h1,h2⟩:=hx.2.2 hg hs
   injection h2 with h2;injection h2 with h2;injection h2 with h2 h3
   subst h2;subst h3
   exact ⟨b1,c2,h1,by rw [Nat.add_assoc]⟩
  ·cases he
 ·rename_i cs kk j e1 e2
  rw [e1] at hx
  rw [jT e2 hi]
  split at he
  ·rename_i hj;cases he
   obtain ⟨b,o,hv,h1,h2,h3⟩:=hx
   rw [hv]
   exact dY hm (DA hu hk b o kk j hj) ⟨b,_,rfl,h1,h2,h3.drop _⟩
  ·cases he
 ·cases he
theorem aeP{t e:TypeId}{k:Nat}{x i:Operand}{p:PV}{aH:eo}(hm:Mem E m aS w0 φ H w)(b8:eW E φ H w ρ ev)(hu:P.underlying t=some (.slice e))(hk:gS P e=some k)
  (he:aD γ H d ρ (.fQ e k x i)=some (p,aH)):Does P E m aS w0 φ H w p aH (do pure (.value (←Instr.indexAt t (ev x) (ev i)))):=by
 have hx:=b8 x
 have hi:=b8 i
 simp only [aD] at he
 split at he
 ·rename_i n cs kk j e1 e2
  rw [e1] at hx
  rw [jT e2 hi]
  split at he
  ·rename_i hj;cases he
   obtain ⟨a,c,hv,h1,h2,h3,h4⟩:=hx
   obtain ⟨b,o,rfl,h5,h6,h7⟩:=h4.resolve_left hj.2.2
   rw [hv]
   exact dY hm (SN hu hk b o n c kk j ⟨hj.1,hj.2.1⟩) ⟨b,_,rfl,h5,h6,h7.drop _⟩
  ·cases he
 ·rename_i b g l n kk j e1 e2
  rw [e1] at hx
  rw [jT e2 hi]
  split at he
  ·rename_i hj
   split at he
   ·rename_i e' k' cs hl
    split at he
    ·rename_i pE;subst pE;cases he
     obtain ⟨hg,hb⟩:=hm.gR hl
     obtain ⟨_,hle,hx2⟩:=hx
     obtain ⟨pU,hlen,hp⟩:=hx2 hg _ _ _ hb
     cases ey:φ b with
     | nil a=>
      rw [ey] at hp
      omega
     | blk b1 c1=>
      rw [ey] at hp
      obtain ⟨a,c',hv,h1,h2,h3,h4,h5⟩:=hp
      rw [hv,h3 (by omega)]
      have e3:l*k'+j.toNat*k'=(l+j.toNat)*k':=by rw [Nat.add_mul]
      have hr:=SN (P:=P) (w:=w) hu hk b1 (off c1+l*k') n c' kk j hj
      rw [Nat.add_assoc,e3] at hr
      exact dY hm hr ⟨⟨_,_,rfl⟩,hle,fun _ _=>⟨b1,c1,ey,rfl⟩⟩
    ·cases he
   ·cases he
  ·cases he
 ·cases he
theorem aeQ{t e:TypeId}{len k:Nat}{x i:Operand}{p:PV}{aH:eo}(hm:Mem E m aS w0 φ H w)(b8:eW E φ H w ρ ev)(hu:P.underlying t=some (.array len e)){dd:TypeDesc}(hd:P.underlying e=some dd)(hk:gS P e=some k)(h1:gb P e=false→k=1)
  (he:aD γ H d ρ (.M_ (gb P e) len k x i)=some (p,aH)):Does P E m aS w0 φ H w p aH (do pure (.value (←Instr.index t (ev x) (ev i)))):=by
 have hx:=b8 x
 have hi:=b8 i
 simp only [aD] at he
 split at he
 ·rename_i cs kk j e1 e2
  rw [e1] at hx
  rw [jT e2 hi]
  obtain ⟨vs,hv,hr⟩:=hx
  split at he
  ·rename_i hj
   split at he
   ·rename_i q hq;cases he
    obtain ⟨q1,q2⟩:=Ap hq h1 hr
    rw [hv]
    refine dY hm ?_ q2
    unfold Instr.index
    simp only [Sem.run_bind,asIntOf,Sem.run_pure,run_underlying hu,Result.andThen_ok,if_pos hj,fe hk]
    exact Oy hd hk h1 q1
   ·cases he
  ·cases he
 ·cases he
theorem SP{t:TypeId}{x i:Operand}{p:PV}{aH:eo}(hm:Mem E m aS w0 φ H w)(b8:eW E φ H w ρ ev)(hu:P.underlying t=some .string)
  (he:aD γ H d ρ (.j9 x i)=some (p,aH)):Does P E m aS w0 φ H w p aH (do pure (.value (←Instr.index t (ev x) (ev i)))):=by
 have hx:=b8 x
 have hi:=b8 i
 simp only [aD] at he
 split at he
 ·rename_i s kk j e1 e2
  rw [vM e1 hx,jT e2 hi]
  split at he
  ·rename_i hj;cases he
   refine dY hm ?_ rfl
   rw [run_index_string w t _ kk j hu,dif_pos (by rw [ug];exact hj)]
   have h2:j.toNat<s.length:=by omega
   have e:(⟨s.toArray⟩:ByteArray)[j.toNat]'(by rw [ug];exact h2)=s.getD j.toNat 0:=by
    simp [List.getD,List.getElem?_eq_getElem h2];rfl
   rw [e]
  ·cases he
 ·cases he
end
end Go.Proofs.YtobkkblijfhpoaaGreatDoor.Pm
