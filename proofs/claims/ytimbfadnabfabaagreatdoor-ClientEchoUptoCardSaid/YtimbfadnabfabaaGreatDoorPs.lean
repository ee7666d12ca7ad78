/- The small machine: its operations are the language's: cells, elements, slices. No program is named here. -/
import Derived.Test.YtimbfadnabfabaaGreatDoorPr
namespace Go.Proofs.YtimbfadnabfabaaGreatDoor.Pm
open Go.RowKit

section
variable {P : Program} {E : Nat → Prop} {m : List bM} {aQ φ : Nat → cr} {H : Nat → cw} {w0 w : World}
variable {ρ : Operand → PV} {ev : Operand → Value} {γ : dZ} {d : Nat}

theorem Jc{t:TypeId}{n:Nat}(h:iI P t=some n): ∃i,P.info? t=some i∧i.size=n:=by
 unfold iI at h
 cases hi:P.info? t with
 | none=>simp [hi] at h
 | some i=>simp [hi] at h;exact ⟨i,rfl,h⟩
theorem fE{t:TypeId}{n:Nat}(h:iI P t=some n)(w:World):(sizeOf t).run P w= .ok n w:=by
 obtain ⟨i,h1,h2⟩:=Jc h
 simp [sizeOf,typeInfo,h1,h2]
theorem Nw{t:TypeId}{dd:TypeDesc}(h:P.underlying t=some dd)(w:World):(isAgg t).run P w= .ok (gm P t) w:=by
 unfold isAgg gm
 rw [Sem.run_bind,run_underlying h w,h]
 cases dd<;>rfl
theorem Jd{t:TypeId}{dd:TypeDesc}{n b o:Nat}{us:List Value}(hd:P.underlying t=some dd)(hn:iI P t=some n)(h1:gm P t=false→n=1)(hl:us.length=n)(hc: ∀j u,us[j]?=some u→w.cell? ⟨b,o+j,none⟩=some u):
  (Instr.loadAt t (.pointer (some ⟨b,o,none⟩))).run P w= .ok (if gm P t then .agg us.toArray else us.headD undef) w:=by
 unfold Instr.loadAt Instr.sureAddr loadVar
 simp only [Sem.run_bind,Sem.run_pure,Result.andThen_ok,Nw hd]
 split
 ·have:=run_loadCells_list (P:=P) w ⟨b,o,none⟩ us (fun j v hv=>by rw [gC];exact hc j v hv)
  rw [hl] at this
  simp only [Sem.run_bind,fE hn,Result.andThen_ok,this,Sem.run_pure]
 ·rename_i hf
  have h1:=h1 (by simpa using hf)
  match us,hl with
  | [u],_=>
   have:=hc 0 u rfl
   simp only [Nat.add_zero] at this
   simp [this]
  | [],hl=>simp at hl;omega
  | _::_::_,hl=>simp at hl;omega
theorem Aj{X:Nat→Prop}{R:Ref→Value→Prop}{agg:Bool}{cs:List PV}{o n:Nat}{p:PV}{vs:List Value}(hp:part agg cs o n=some p)(h1:agg=false→n=1)(h:aY X w R cs vs):
  ((vs.drop o).take n).length=n∧cK X w R p (if agg then .agg ((vs.drop o).take n).toArray else ((vs.drop o).take n).headD undef):=by
 have hlen:=h.len
 unfold Pm.part at hp
 split at hp
 ·rename_i ha;subst ha
  split at hp
  ·rename_i hl;cases hp
   refine ⟨by simp;omega,?_⟩
   exact ⟨_,rfl,by simpa using (h.drop o).take n⟩
  ·cases hp
 ·rename_i ha
  have ha:agg=false:=by simpa using ha
  subst ha
  have h1:=h1 rfl
  subst h1
  obtain ⟨v,hv,q⟩:=h.get o p hp
  have:o<vs.length:=(List.getElem?_eq_some_iff.1 hv).1
  refine ⟨by simp;omega,?_⟩
  have e:(vs.drop o).take 1= [v]:=by
   rw [List.drop_eq_getElem_cons this,List.take_succ_cons,List.take_zero]
   rw [List.getElem?_eq_getElem this] at hv;cases hv;rfl
  rw [e];exact q
theorem pT(agg:Bool)(cs:List PD)(o n:Nat):oh agg cs o n=Pm.part agg (cs.map .d) o n:=by
 unfold oh Pm.part
 simp [List.map_take,List.map_drop]
theorem Nx{vs:List Value}{b o0:Nat}(hc: ∀j u,vs[j]?=some u→w.cell? ⟨b,o0+j,none⟩=some u)(o n:Nat): ∀j u,((vs.drop o).take n)[j]?=some u→w.cell? ⟨b,o0+o+j,none⟩=some u:=by
 intro j u hu
 rw [List.getElem?_take] at hu
 split at hu
 ·rw [List.getElem?_drop] at hu
  rw [Nat.add_assoc];exact hc _ u hu
 ·cases hu
theorem fu.vals{X:Nat→Prop}{R:Ref→Value→Prop}{b:Nat}: ∀{cs:List PD} {o:Nat},fu X w cs b o→ ∃us,aY X w R (cs.map .d) us∧ ∀j u,us[j]?=some u→w.cell? ⟨b,o+j,none⟩=some u
 | [],o,_=>⟨[],rfl,fun j u hu=>by simp at hu⟩
 | x::ds,o,⟨⟨u,q1,q2⟩,q3⟩=>by
  obtain ⟨us,r1,r2⟩:=fu.vals (R:=R) q3
  refine ⟨u::us,⟨u,us,rfl,q2,r1⟩,fun j u' hu=>?_⟩
  cases j with
  | zero=>simp at hu;subst hu;exact q1
  | succ j=>have:=r2 j u' (by simpa using hu);rwa [show o+(j+1)=o+1+j by omega]
theorem R9: ∀{cs:List PV} {ds:List PD},qI cs=some ds→gW cs=true:=by
 intro cs ds h
 unfold gW
 split
 ·simp [qI,toD] at h
 ·simp [qI,toD] at h
 ·simp [qI,toD] at h
 ·simp [qI,toD] at h
 ·rfl
theorem Mem.cells(hm:Mem E m aQ w0 φ H w){i g o:Nat}{b:bM}{v:Value}(hk: ∀cs,b= .box cs→gW cs=true)(hl:look H i g=some b)(hv:bk φ H (.ptr i g o) v):
  ∃x c,φ i= .blk x c∧v= .pointer (some ⟨x,off c+o,none⟩)∧ ∃us,aY (cW E φ) w (bk φ H) (match b with | .box cs=>cs | .own _ _ cs=>cs.map .d) us∧ ∀j u,us[j]?=some u→w.cell? ⟨x,off c+j,none⟩=some u:=by
 obtain ⟨hg,hb⟩:=hm.iA hl
 obtain ⟨_,_,q⟩:=hv
 obtain ⟨x,c,hp,rfl⟩:=q hg (by rw [hb];rfl)
 have dy:=hm.rep i b hb
 rw [hp] at dy
 refine ⟨x,c,hp,rfl,?_⟩
 cases b with
 | box cs=>
  obtain ⟨vs,T,⟨r1,r0⟩,r2⟩:=dy
  rw [mo T (hk cs rfl) r2] at r1
  exact ⟨vs.toList,r2,fun j u hu=>by rw [r0,Nat.zero_add,cell_of_row w x j vs T (0,0) r1];simpa using hu⟩
 | own e k cs=>
  obtain ⟨q0,cur,xs,r1,r2,r3,r4,r5,r6,r7⟩:=dy
  refine ⟨xs,r7,fun j u hu=>?_⟩
  rw [r1.cell]
  rw [←r6,List.getElem?_take] at hu
  split at hu
  ·rw [List.getElem?_drop] at hu
   simpa using hu
  ·cases hu
theorem Je{t:TypeId}{dd:TypeDesc}{n:Nat}{x:Operand}{p:PV}{aD:eu}(hm:Mem E m aQ w0 φ H w)(bO:eO E φ H w ρ ev)(hd:P.underlying t=some dd)(hn:iI P t=some n)(h1:gm P t=false→n=1)
  (he:az γ H d ρ (.load (gm P t) n x)=some (p,aD)):Does P E m aQ w0 φ H w p aD (do pure (.value (←Instr.loadAt t (ev x)))):=by
 have hx:=bO x
 simp only [az] at he
 have fin: ∀{cs:List PV} {us:List Value} {b o0 o:Nat},aY (cW E φ) w (bk φ H) cs us→(∀j u,us[j]?=some u→w.cell? ⟨b,o0+j,none⟩=some u)→Pm.part (gm P t) cs o n=some p→ev x= .pointer (some ⟨b,o0+o,none⟩)→aD= []→
   Does P E m aQ w0 φ H w p aD (do pure (.value (←Instr.loadAt t (ev x)))):=by
  intro cs us b o0 o hr hc hp yj hu
  subst hu
  obtain ⟨q1,q2⟩:=Aj hp h1 hr
  rw [yj]
  exact dQ hm (Jd hd hn h1 q1 (Nx hc o n)) q2
 split at he
 ·rename_i i g o e
  rw [e] at hx
  split at he
  ·rename_i cs hl
   split at he
   ·rename_i kZ
    obtain ⟨b,c,hp,hv,us,r1,r2⟩:=hm.cells (fun cs h=>by cases h;exact kZ) hl hx
    split at he
    ·rename_i q hq;cases he
     exact fin (o0:=off c) r1 r2 hq hv rfl
    ·cases he
   ·cases he
  ·rename_i e' k cs hl
   obtain ⟨b,c,hp,hv,us,r1,r2⟩:=hm.cells (fun cs h=>by cases h) hl hx
   split at he
   ·rename_i q hq;cases he
    rw [pT] at hq
    exact fin (o0:=off c) r1 r2 hq hv rfl
   ·cases he
  ·cases he
 ·rename_i cs e
  rw [e] at hx
  obtain ⟨b,o,hv,_,_,hc⟩:=hx
  obtain ⟨us,r1,r2⟩:=hc.vals (R:=bk φ H)
  split at he
  ·rename_i q hq;cases he
   rw [pT] at hq
   exact fin (o0:=o) r1 r2 hq (by rw [hv,Nat.add_zero]) rfl
  ·cases he
 ·cases he
theorem toD_rep{X:Nat→Prop}{R:Ref→Value→Prop}{p:PV}{x:PD}{v:Value}(h:toD p=some x)(q:cK X w R p v):dS X w x v:=by
 unfold toD at h
 split at h
 ·cases h;exact q
 ·cases h
  obtain ⟨a,rfl⟩:=q
  exact ⟨a,0,rfl,Nat.le_refl _,by simp,fun _=>rfl,.inl rfl⟩
 ·cases h;exact q.1
 ·cases h
theorem ry{X:Nat→Prop}{R:Ref→Value→Prop}: ∀{ps:List PV} {ds:List PD} {vs:List Value},qI ps=some ds→aY X w R ps vs→aY X w R (ds.map .d) vs∧ds.length=ps.length∧ ∀u∈vs,u.oneCell'=true
 | [],ds,vs,h,q=>by cases h;have:vs= []:=q;subst this;exact ⟨rfl,rfl,fun u hu=>by cases hu⟩
 | p::ps,ds,vs,h,⟨v,r,e,q1,q2⟩=>by
  subst e
  unfold qI at h
  split at h
  ·rename_i x xs h1 h2;cases h
   have h3:=toD_rep h1 q1
   obtain ⟨r1,r2,r3⟩:=ry h2 q2
   refine ⟨⟨v,r,rfl,h3,r1⟩,by simp [r2],fun u hu=>?_⟩
   rcases List.mem_cons.1 hu with rfl | hu
   ·exact dS.one h3
   ·exact r3 u hu
  ·cases h
theorem R_{t:TypeId}{n:Nat}{x y:Operand}{p:PV}{aD:eu}(hm:Mem E m aQ w0 φ H w)(bO:eO E φ H w ρ ev)(hn:iI P t=some n)(h0:0<n)
  (he:az γ H d ρ (.store n x y)=some (p,aD)):Does P E m aQ w0 φ H w p aD (do Instr.storeAt t (ev x) (ev y);pure .skip):=by
 have hx:=bO x
 have hy:=bO y
 simp only [az] at he
 split at he
 ·rename_i i g o new e uI
  rw [e] at hx
  obtain ⟨hr,aCj⟩:=Fs uI hy
  have fin: ∀{b b':bM} {new:List PV},aY (cW E φ) w (bk φ H) new (ev y).cells.toList→look H i g=some b→(∀u∈(ev y).cells.toList,u.oneCell'=true)→new.length=n→
    ((∃cs,b= .box cs∧b'= .box (cg cs o new)∧o+new.length≤cs.length∧gW cs=true∧gW (cg cs o new)=true)∨(∃e k cs ds,b= .own e k cs∧b'= .own e k (cg cs o ds)∧new=ds.map .d∧o+new.length≤cs.length))→
    p= .un→aD= [(i,⟨g,some b'⟩)]→Does P E m aQ w0 φ H w p aD (do Instr.storeAt t (ev x) (ev y);pure .skip):=by
   intro b b' new hr hl h1 hlen VT hp hu
   have hnl:=hr.len
   subst hp;subst hu
   obtain ⟨hg,hb⟩:=hm.iA hl
   obtain ⟨x1,c,d_,w',hrun,m1,t1⟩:=hm.aiY hb hr h1 (by omega) o VT P
   obtain ⟨_,_,q⟩:=hx
   obtain ⟨b1,c1,hp1,hv⟩:=q hg (by rw [hb];rfl)
   rw [d_] at hp1;cases hp1
   refine .inr (.inl ⟨w',?_,φ,?_,?_,trivial⟩)
   ·rw [hv]
    have hs:(ev y).cells.size=n:=by simp at hnl;omega
    refine azc ?_
    unfold Instr.storeAt Instr.sureAddr storeVar
    simp [fE hn,hs,hrun]
   ·show Mem _ _ _ _ _ (up H i _) _;rw [hg];exact m1
   ·show Tr _ _ _ _ _ (up H i _) _;rw [hg];exact t1
  split at he
  ·rename_i cs hl
   split at he
   ·rename_i hh;cases he
    exact fin hr hl (aCj hh.2.2.1) hh.1 (.inl ⟨cs,rfl,rfl,by omega,hh.2.2.2⟩) rfl rfl
   ·cases he
  ·rename_i e' k cs hl
   split at he
   ·rename_i ds HN
    split at he
    ·rename_i hh;cases he
     obtain ⟨r1,r2,r3⟩:=ry HN hr
     exact fin r1 hl r3 (by simpa using hh.1) (.inr ⟨e',k,cs,ds,rfl,rfl,rfl,by simpa [hh.1] using hh.2⟩) rfl rfl
    ·cases he
   ·cases he
  ·cases he
 ·cases he

theorem VW{x:Operand}{p:PV}{aD:eu}(hm:Mem E m aQ w0 φ H w)(bO:eO E φ H w ρ ev){f:Value→Sem Next}(hf: ∀a v,v= .pointer (some a)→(f v).run P w= .ok (.value v) w)
  (he:az γ H d ρ (.Ni x)=some (p,aD)):Does P E m aQ w0 φ H w p aD (f (ev x)):=by
 have hx:=bO x
 simp only [az] at he
 split at he
 ·rename_i i g o e
  rw [e] at hx
  cases he
  obtain ⟨b1,_,hv⟩:=hx.1
  exact Fv hm (hf _ _ hv) hx
 ·rename_i cs e;cases he
  rw [e] at hx
  obtain ⟨b,o,hv,h⟩:=hx
  exact Fv hm (hf _ _ hv) ⟨b,o,hv,h⟩
 ·cases he
theorem nD{t:TypeId}{fs:Array Field}{f:Nat}{fd:Field}(hu:P.underlying t=some (.struct fs))(hf:fs[f]?=some fd){n:Nat}(hn:iI P fd.type=some n)(h0:n≠0)(b o:Nat):
  (Instr.fieldAt t (.pointer (some ⟨b,o,none⟩)) f).run P w= .ok (.pointer (some ⟨b,o+fd.offset,none⟩)) w:=by
 unfold Instr.fieldAt
 simp [run_underlying hu,hf,Instr.sureAddr,fieldPlace,fE hn,h0,gC]
theorem ae5{t:TypeId}{fs:Array Field}{f:Nat}{fd:Field}{x:Operand}{p:PV}{aD:eu}(hm:Mem E m aQ w0 φ H w)(bO:eO E φ H w ρ ev)(hu:P.underlying t=some (.struct fs))(hf:fs[f]?=some fd){n:Nat}(hn:iI P fd.type=some n)(h0:n≠0)
  (he:az γ H d ρ (.RZ fd.offset x)=some (p,aD)):Does P E m aQ w0 φ H w p aD (do pure (.value (←Instr.fieldAt t (ev x) f))):=by
 have hx:=bO x
 simp only [az] at he
 split at he
 ·rename_i i g o e
  rw [e] at hx
  cases he
  obtain ⟨b1,o1,hv⟩:=hx.1
  rw [hv] at hx ⊢
  refine dQ hm (nD hu hf hn h0 b1 o1) ⟨⟨_,_,rfl⟩,hx.2.1,fun hg hs=>?_⟩
  obtain ⟨b2,c2,h1,h2⟩:=hx.2.2 hg hs
  injection h2 with h2;injection h2 with h2;injection h2 with h2 h3
  subst h2;subst h3
  exact ⟨b1,c2,h1,by rw [Nat.add_assoc]⟩
 ·rename_i cs e;cases he
  rw [e] at hx
  obtain ⟨b,o,hv,h1,h2,h3⟩:=hx
  rw [hv]
  exact dQ hm (nD hu hf hn h0 b o) ⟨b,_,rfl,h1,h2,h3.drop _⟩
 ·cases he
theorem Ny{t:TypeId}{dd:TypeDesc}{n:Nat}(hd:P.underlying t=some dd)(hn:iI P t=some n)(h1:gm P t=false→n=1){vs:Array Value}{o:Nat}(hl:((vs.toList.drop o).take n).length=n):
  (Go.part t vs o).run P w= .ok (if gm P t then .agg ((vs.toList.drop o).take n).toArray else ((vs.toList.drop o).take n).headD undef) w:=by
 unfold Go.part
 rw [Sem.run_bind,Nw hd]
 simp only [Result.andThen_ok]
 split
 ·simp only [Sem.run_bind,fE hn,Result.andThen_ok,Sem.run_pure]
  congr 2
  apply Array.ext'
  simp [List.extract_eq_take_drop]
 ·rename_i hf
  have h1:=h1 (by simpa using hf)
  subst h1
  have ho:o<vs.size:=by simp at hl;omega
  have:vs[o]?=some vs[o]:=by simp [ho]
  rw [this]
  have e:(vs.toList.drop o).take 1= [vs[o]]:=by
   rw [List.drop_eq_getElem_cons (by simpa using ho),List.take_succ_cons,List.take_zero];rfl
  rw [e];rfl
theorem VX{t:TypeId}{fs:Array Field}{f:Nat}{fd:Field}{x:Operand}{p:PV}{aD:eu}(hm:Mem E m aQ w0 φ H w)(bO:eO E φ H w ρ ev)(hu:P.underlying t=some (.struct fs))(hf:fs[f]?=some fd){dd:TypeDesc}(hd:P.underlying fd.type=some dd){n:Nat}(hn:iI P fd.type=some n)(h1:gm P fd.type=false→n=1)
  (he:az γ H d ρ (.R1 (gm P fd.type) fd.offset n x)=some (p,aD)):Does P E m aQ w0 φ H w p aD (do pure (.value (←Instr.field t (ev x) f))):=by
 have hx:=bO x
 simp only [az] at he
 split at he
 ·rename_i cs e
  rw [e] at hx
  obtain ⟨vs,hv,hr⟩:=hx
  split at he
  ·rename_i q hq;cases he
   obtain ⟨q1,q2⟩:=Aj hq h1 hr
   rw [hv]
   refine dQ hm ?_ q2
   unfold Instr.field
   simp only [Sem.run_bind,run_underlying hu,Result.andThen_ok,hf,asAgg,Sem.run_pure]
   exact Ny hd hn h1 q1
  ·cases he
 ·cases he
theorem Dp{t e:TypeId}{len k:Nat}(hu:P.underlying t=some (.array len e))(hk:iI P e=some k)(b o:Nat)(kk:IntKind)(j:Int)(h:0≤j∧j<len):
  (Instr.indexAt t (.pointer (some ⟨b,o,none⟩)) (.int kk j)).run P w= .ok (.pointer (some ⟨b,o+j.toNat*k,none⟩)) w:=by
 unfold Instr.indexAt
 simp [asIntOf,run_underlying hu,Instr.sureAddr,h,fE hk,gC]
theorem Sa{t e:TypeId}{k:Nat}(hu:P.underlying t=some (.slice e))(hk:iI P e=some k)(b o n c:Nat)(kk:IntKind)(j:Int)(h:0≤j∧j<n):
  (Instr.indexAt t (.slice (some ⟨b,o,none⟩) n c) (.int kk j)).run P w= .ok (.pointer (some ⟨b,o+j.toNat*k,none⟩)) w:=by
 unfold Instr.indexAt
 simp [asIntOf,run_underlying hu,h,fE hk,gC]
theorem ae6{t e:TypeId}{len k:Nat}{x i:Operand}{p:PV}{aD:eu}(hm:Mem E m aQ w0 φ H w)(bO:eO E φ H w ρ ev)(hu:P.underlying t=some (.array len e))(hk:iI P e=some k)
  (he:az γ H d ρ (.tA len k x i)=some (p,aD)):Does P E m aQ w0 φ H w p aD (do pure (.value (←Instr.indexAt t (ev x) (ev i)))):=by
 have hx:=bO x
 have hi:=bO i
 simp only [az] at he
 split at he
 ·rename_i b g o kk j e1 e2
  rw [e1] at hx
  rw [ko e2 hi]
  split at he
  ·rename_i hj;cases he
   obtain ⟨b1,o1,hv⟩:=hx.1
   rw [hv] at hx ⊢
   refine dQ hm (Dp hu hk b1 o1 kk j hj) ⟨⟨_,_,rfl⟩,hx.2.1,fun hg hs=>?_⟩
   obtain ⟨b2,c2,h1,h2⟩:=hx.2.2 hg hs
   injection h2 with h2;injection h2 with h2;injection h2 with h2 h3
   subst h2;subst h3
   exact ⟨b1,c2,h1,by rw [Nat.add_assoc]⟩
  ·cases he
 ·rename_i cs kk j e1 e2
  rw [e1] at hx
  rw [ko e2 hi]
  split at he
  ·rename_i hj;cases he
   obtain ⟨b,o,hv,h1,h2,h3⟩:=hx
   rw [hv]
   exact dQ hm (Dp hu hk b o kk j hj) ⟨b,_,rfl,h1,h2,h3.drop _⟩
  ·cases he
 ·cases he
theorem ae7{t e:TypeId}{k:Nat}{x i:Operand}{p:PV}{aD:eu}(hm:Mem E m aQ w0 φ H w)(bO:eO E φ H w ρ ev)(hu:P.underlying t=some (.slice e))(hk:iI P e=some k)
  (he:az γ H d ρ (.jc e k x i)=some (p,aD)):Does P E m aQ w0 φ H w p aD (do pure (.value (←Instr.indexAt t (ev x) (ev i)))):=by
 have hx:=bO x
 have hi:=bO i
 simp only [az] at he
 split at he
 ·rename_i n cs kk j e1 e2
  rw [e1] at hx
  rw [ko e2 hi]
  split at he
  ·rename_i hj;cases he
   obtain ⟨a,c,hv,h1,h2,h3,h4⟩:=hx
   obtain ⟨b,o,rfl,h5,h6,h7⟩:=h4.resolve_left hj.2.2
   rw [hv]
   exact dQ hm (Sa hu hk b o n c kk j ⟨hj.1,hj.2.1⟩) ⟨b,_,rfl,h5,h6,h7.drop _⟩
  ·cases he
 ·rename_i b g l n kk j e1 e2
  rw [e1] at hx
  rw [ko e2 hi]
  split at he
  ·rename_i hj
   split at he
   ·rename_i e' k' cs hl
    split at he
    ·rename_i qy;subst qy;cases he
     obtain ⟨hg,hb⟩:=hm.iA hl
     obtain ⟨_,hle,hx2⟩:=hx
     obtain ⟨qz,hlen,hp⟩:=hx2 hg _ _ _ hb
     cases d_:φ b with
     | nil a=>
      rw [d_] at hp
      omega
     | blk b1 c1=>
      rw [d_] at hp
      obtain ⟨a,c',hv,h1,h2,h3,h4,h5⟩:=hp
      rw [hv,h3 (by omega)]
      have e3:l*k'+j.toNat*k'=(l+j.toNat)*k':=by rw [Nat.add_mul]
      have hr:=Sa (P:=P) (w:=w) hu hk b1 (off c1+l*k') n c' kk j hj
      rw [Nat.add_assoc,e3] at hr
      exact dQ hm hr ⟨⟨_,_,rfl⟩,hle,fun _ _=>⟨b1,c1,d_,rfl⟩⟩
    ·cases he
   ·cases he
  ·cases he
 ·cases he
theorem ae8{t e:TypeId}{len k:Nat}{x i:Operand}{p:PV}{aD:eu}(hm:Mem E m aQ w0 φ H w)(bO:eO E φ H w ρ ev)(hu:P.underlying t=some (.array len e)){dd:TypeDesc}(hd:P.underlying e=some dd)(hk:iI P e=some k)(h1:gm P e=false→k=1)
  (he:az γ H d ρ (.HE (gm P e) len k x i)=some (p,aD)):Does P E m aQ w0 φ H w p aD (do pure (.value (←Instr.index t (ev x) (ev i)))):=by
 have hx:=bO x
 have hi:=bO i
 simp only [az] at he
 split at he
 ·rename_i cs kk j e1 e2
  rw [e1] at hx
  rw [ko e2 hi]
  obtain ⟨vs,hv,hr⟩:=hx
  split at he
  ·rename_i hj
   split at he
   ·rename_i q hq;cases he
    obtain ⟨q1,q2⟩:=Aj hq h1 hr
    rw [hv]
    refine dQ hm ?_ q2
    unfold Instr.index
    simp only [Sem.run_bind,asIntOf,Sem.run_pure,run_underlying hu,Result.andThen_ok,if_pos hj,fE hk]
    exact Ny hd hk h1 q1
   ·cases he
  ·cases he
 ·cases he
theorem Sb{t:TypeId}{x i:Operand}{p:PV}{aD:eu}(hm:Mem E m aQ w0 φ H w)(bO:eO E φ H w ρ ev)(hu:P.underlying t=some .string)
  (he:az γ H d ρ (.iy x i)=some (p,aD)):Does P E m aQ w0 φ H w p aD (do pure (.value (←Instr.index t (ev x) (ev i)))):=by
 have hx:=bO x
 have hi:=bO i
 simp only [az] at he
 split at he
 ·rename_i s kk j e1 e2
  rw [wz e1 hx,ko e2 hi]
  split at he
  ·rename_i hj;cases he
   refine dQ hm ?_ rfl
   rw [run_index_string w t _ kk j hu,dif_pos (by rw [uJ];exact hj)]
   have h2:j.toNat<s.length:=by omega
   have e:(⟨s.toArray⟩:ByteArray)[j.toNat]'(by rw [uJ];exact h2)=s.getD j.toNat 0:=by
    simp [List.getD,List.getElem?_eq_getElem h2];rfl
   rw [e]
  ·cases he
 ·cases he
end
end Go.Proofs.YtimbfadnabfabaaGreatDoor.Pm
