/- The small machine: its operations are the language's: cells, elements, slices. No program is named here. -/
import Derived.Test.YtimbfadnabfabaaGreatDoorPr
namespace Go.Proofs.YtimbfadnabfabaaGreatDoor.Pm
open Go.RowKit

section
variable {P : Program} {E : Nat → Prop} {m : List bH} {aP φ : Nat → cg} {H : Nat → cq} {w0 w : World}
variable {ρ : Operand → PV} {ev : Operand → Value} {γ : ek} {d : Nat}

theorem H8{t:TypeId}{n:Nat}(h:iG P t=some n): ∃i,P.info? t=some i∧i.size=n:=by
 unfold iG at h
 cases hi:P.info? t with
 | none=>simp [hi] at h
 | some i=>simp [hi] at h;exact ⟨i,rfl,h⟩
theorem fA{t:TypeId}{n:Nat}(h:iG P t=some n)(w:World):(sizeOf t).run P w= .ok n w:=by
 obtain ⟨i,h1,h2⟩:=H8 h
 simp [sizeOf,typeInfo,h1,h2]
theorem MI{t:TypeId}{dd:TypeDesc}(h:P.underlying t=some dd)(w:World):(isAgg t).run P w= .ok (f_ P t) w:=by
 unfold isAgg f_
 rw [Sem.run_bind,run_underlying h w,h]
 cases dd<;>rfl
theorem H9{t:TypeId}{dd:TypeDesc}{n b o:Nat}{us:List Value}(hd:P.underlying t=some dd)(hn:iG P t=some n)(h1:f_ P t=false→n=1)(hl:us.length=n)(hc: ∀j u,us[j]?=some u→w.cell? ⟨b,o+j,none⟩=some u):
  (Instr.loadAt t (.pointer (some ⟨b,o,none⟩))).run P w= .ok (if f_ P t then .agg us.toArray else us.headD undef) w:=by
 unfold Instr.loadAt Instr.sureAddr loadVar
 simp only [Sem.run_bind,Sem.run_pure,Result.andThen_ok,MI hd]
 split
 ·have:=run_loadCells_list (P:=P) w ⟨b,o,none⟩ us (fun j v hv=>by rw [gm];exact hc j v hv)
  rw [hl] at this
  simp only [Sem.run_bind,fA hn,Result.andThen_ok,this,Sem.run_pure]
 ·rename_i hf
  have h1:=h1 (by simpa using hf)
  match us,hl with
  | [u],_=>
   have:=hc 0 u rfl
   simp only [Nat.add_zero] at this
   simp [this]
  | [],hl=>simp at hl;omega
  | _::_::_,hl=>simp at hl;omega
theorem yZ{X:Nat→Prop}{R:Ref→Value→Prop}{agg:Bool}{cs:List PV}{o n:Nat}{p:PV}{vs:List Value}(hp:part agg cs o n=some p)(h1:agg=false→n=1)(h:aY X w R cs vs):
  ((vs.drop o).take n).length=n∧cJ X w R p (if agg then .agg ((vs.drop o).take n).toArray else ((vs.drop o).take n).headD undef):=by
 have hlen:=h.len
 unfold Pm.part at hp
 split at hp
 ·rename_i ha;subst ha
  split at hp
  ·rename_i hl;cases hp
   refine ⟨by simp;omega,?_⟩
   exact ⟨_,rfl,by simpa using (h.drop o).take n⟩
  ·cases hp
 ·rename_i ha
  have ha:agg=false:=by simpa using ha
  subst ha
  have h1:=h1 rfl
  subst h1
  obtain ⟨v,hv,q⟩:=h.get o p hp
  have:o<vs.length:=(List.getElem?_eq_some_iff.1 hv).1
  refine ⟨by simp;omega,?_⟩
  have e:(vs.drop o).take 1= [v]:=by
   rw [List.drop_eq_getElem_cons this,List.take_succ_cons,List.take_zero]
   rw [List.getElem?_eq_getElem this] at hv;cases hv;rfl
  rw [e];exact q
theorem oM(agg:Bool)(cs:List PD)(o n:Nat):nP agg cs o n=Pm.part agg (cs.map .d) o n:=by
 unfold nP Pm.part
 simp [List.map_take,List.map_drop]
theorem MJ{vs:List Value}{b o0:Nat}(hc: ∀j u,vs[j]?=some u→w.cell? ⟨b,o0+j,none⟩=some u)(o n:Nat): ∀j u,((vs.drop o).take n)[j]?=some u→w.cell? ⟨b,o0+o+j,none⟩=some u:=by
 intro j u hu
 rw [List.getElem?_take] at hu
 split at hu
 ·rw [List.getElem?_drop] at hu
  rw [Nat.add_assoc];exact hc _ u hu
 ·cases hu
theorem fh.vals{X:Nat→Prop}{R:Ref→Value→Prop}{b:Nat}: ∀{cs:List PD} {o:Nat},fh X w cs b o→ ∃us,aY X w R (cs.map .d) us∧ ∀j u,us[j]?=some u→w.cell? ⟨b,o+j,none⟩=some u
 | [],o,_=>⟨[],rfl,fun j u hu=>by simp at hu⟩
 | x::ds,o,⟨⟨u,q1,q2⟩,q3⟩=>by
  obtain ⟨us,r1,r2⟩:=fh.vals (R:=R) q3
  refine ⟨u::us,⟨u,us,rfl,q2,r1⟩,fun j u' hu=>?_⟩
  cases j with
  | zero=>simp at hu;subst hu;exact q1
  | succ j=>have:=r2 j u' (by simpa using hu);rwa [show o+(j+1)=o+1+j by omega]
theorem Rv: ∀{cs:List PV} {ds:List PD},pT cs=some ds→gT cs=true:=by
 intro cs ds h
 unfold gT
 split
 ·simp [pT,toD] at h
 ·simp [pT,toD] at h
 ·simp [pT,toD] at h
 ·simp [pT,toD] at h
 ·rfl
theorem Mem.cells(hm:Mem E m aP w0 φ H w){i g o:Nat}{b:bH}{v:Value}(hk: ∀cs,b= .box cs→gT cs=true)(hl:look H i g=some b)(hv:bh φ H (.ptr i g o) v):
  ∃x c,φ i= .blk x c∧v= .pointer (some ⟨x,off c+o,none⟩)∧ ∃us,aY (cV E φ) w (bh φ H) (match b with | .box cs=>cs | .own _ _ cs=>cs.map .d) us∧ ∀j u,us[j]?=some u→w.cell? ⟨x,off c+j,none⟩=some u:=by
 obtain ⟨hg,hb⟩:=hm.iz hl
 obtain ⟨_,_,q⟩:=hv
 obtain ⟨x,c,hp,rfl⟩:=q hg (by rw [hb];rfl)
 have dz:=hm.rep i b hb
 rw [hp] at dz
 refine ⟨x,c,hp,rfl,?_⟩
 cases b with
 | box cs=>
  obtain ⟨vs,T,⟨r1,r0⟩,r2⟩:=dz
  rw [lT T (hk cs rfl) r2] at r1
  exact ⟨vs.toList,r2,fun j u hu=>by rw [r0,Nat.zero_add,cell_of_row w x j vs T (0,0) r1];simpa using hu⟩
 | own e k cs=>
  obtain ⟨q0,cur,xs,r1,r2,r3,r4,r5,r6,r7⟩:=dz
  refine ⟨xs,r7,fun j u hu=>?_⟩
  rw [r1.cell]
  rw [←r6,List.getElem?_take] at hu
  split at hu
  ·rw [List.getElem?_drop] at hu
   simpa using hu
  ·cases hu
theorem H_{t:TypeId}{dd:TypeDesc}{n:Nat}{x:Operand}{p:PV}{aD:eu}(hm:Mem E m aP w0 φ H w)(bK:eM E φ H w ρ ev)(hd:P.underlying t=some dd)(hn:iG P t=some n)(h1:f_ P t=false→n=1)
  (he:az γ H d ρ (.load (f_ P t) n x)=some (p,aD)):Does P E m aP w0 φ H w p aD (do pure (.value (←Instr.loadAt t (ev x)))):=by
 have hx:=bK x
 simp only [az] at he
 have fin: ∀{cs:List PV} {us:List Value} {b o0 o:Nat},aY (cV E φ) w (bh φ H) cs us→(∀j u,us[j]?=some u→w.cell? ⟨b,o0+j,none⟩=some u)→Pm.part (f_ P t) cs o n=some p→ev x= .pointer (some ⟨b,o0+o,none⟩)→aD= []→
   Does P E m aP w0 φ H w p aD (do pure (.value (←Instr.loadAt t (ev x)))):=by
  intro cs us b o0 o hr hc hp wO hu
  subst hu
  obtain ⟨q1,q2⟩:=yZ hp h1 hr
  rw [wO]
  exact dQ hm (H9 hd hn h1 q1 (MJ hc o n)) q2
 split at he
 ·rename_i i g o e
  rw [e] at hx
  split at he
  ·rename_i cs hl
   split at he
   ·rename_i kK
    obtain ⟨b,c,hp,hv,us,r1,r2⟩:=hm.cells (fun cs h=>by cases h;exact kK) hl hx
    split at he
    ·rename_i q hq;cases he
     exact fin (o0:=off c) r1 r2 hq hv rfl
    ·cases he
   ·cases he
  ·rename_i e' k cs hl
   obtain ⟨b,c,hp,hv,us,r1,r2⟩:=hm.cells (fun cs h=>by cases h) hl hx
   split at he
   ·rename_i q hq;cases he
    rw [oM] at hq
    exact fin (o0:=off c) r1 r2 hq hv rfl
   ·cases he
  ·cases he
 ·rename_i cs e
  rw [e] at hx
  obtain ⟨b,o,hv,_,_,hc⟩:=hx
  obtain ⟨us,r1,r2⟩:=hc.vals (R:=bh φ H)
  split at he
  ·rename_i q hq;cases he
   rw [oM] at hq
   exact fin (o0:=o) r1 r2 hq (by rw [hv,Nat.add_zero]) rfl
  ·cases he
 ·cases he
theorem toD_rep{X:Nat→Prop}{R:Ref→Value→Prop}{p:PV}{x:PD}{v:Value}(h:toD p=some x)(q:cJ X w R p v):dR X w x v:=by
 unfold toD at h
 split at h
 ·cases h;exact q
 ·cases h
  obtain ⟨a,rfl⟩:=q
  exact ⟨a,0,rfl,Nat.le_refl _,by simp,fun _=>rfl,.inl rfl⟩
 ·cases h;exact q.1
 ·cases h
theorem qy{X:Nat→Prop}{R:Ref→Value→Prop}: ∀{ps:List PV} {ds:List PD} {vs:List Value},pT ps=some ds→aY X w R ps vs→aY X w R (ds.map .d) vs∧ds.length=ps.length∧ ∀u∈vs,u.oneCell'=true
 | [],ds,vs,h,q=>by cases h;have:vs= []:=q;subst this;exact ⟨rfl,rfl,fun u hu=>by cases hu⟩
 | p::ps,ds,vs,h,⟨v,r,e,q1,q2⟩=>by
  subst e
  unfold pT at h
  split at h
  ·rename_i x xs h1 h2;cases h
   have h3:=toD_rep h1 q1
   obtain ⟨r1,r2,r3⟩:=qy h2 q2
   refine ⟨⟨v,r,rfl,h3,r1⟩,by simp [r2],fun u hu=>?_⟩
   rcases List.mem_cons.1 hu with rfl | hu
   ·exact dR.one h3
   ·exact r3 u hu
  ·cases h
theorem Rw{t:TypeId}{n:Nat}{x y:Operand}{p:PV}{aD:eu}(hm:Mem E m aP w0 φ H w)(bK:eM E φ H w ρ ev)(hn:iG P t=some n)(h0:0<n)
  (he:az γ H d ρ (.store n x y)=some (p,aD)):Does P E m aP w0 φ H w p aD (do Instr.storeAt t (ev x) (ev y);pure .skip):=by
 have hx:=bK x
 have hy:=bK y
 simp only [az] at he
 split at he
 ·rename_i i g o new e tQ
  rw [e] at hx
  obtain ⟨hr,aA2⟩:=EG tQ hy
  have fin: ∀{b b':bH} {new:List PV},aY (cV E φ) w (bh φ H) new (ev y).cells.toList→look H i g=some b→(∀u∈(ev y).cells.toList,u.oneCell'=true)→new.length=n→
    ((∃cs,b= .box cs∧b'= .box (bZ cs o new)∧o+new.length≤cs.length∧gT cs=true∧gT (bZ cs o new)=true)∨(∃e k cs ds,b= .own e k cs∧b'= .own e k (bZ cs o ds)∧new=ds.map .d∧o+new.length≤cs.length))→
    p= .un→aD= [(i,⟨g,some b'⟩)]→Does P E m aP w0 φ H w p aD (do Instr.storeAt t (ev x) (ev y);pure .skip):=by
   intro b b' new hr hl h1 hlen Vm hp hu
   have hnl:=hr.len
   subst hp;subst hu
   obtain ⟨hg,hb⟩:=hm.iz hl
   obtain ⟨x1,c,en,w',hrun,m1,t1⟩:=hm.ahk hb hr h1 (by omega) o Vm P
   obtain ⟨_,_,q⟩:=hx
   obtain ⟨b1,c1,hp1,hv⟩:=q hg (by rw [hb];rfl)
   rw [en] at hp1;cases hp1
   refine .inr (.inl ⟨w',?_,φ,?_,?_,trivial⟩)
   ·rw [hv]
    have hs:(ev y).cells.size=n:=by simp at hnl;omega
    refine axg ?_
    unfold Instr.storeAt Instr.sureAddr storeVar
    simp [fA hn,hs,hrun]
   ·show Mem _ _ _ _ _ (up H i _) _;rw [hg];exact m1
   ·show Tr _ _ _ _ _ (up H i _) _;rw [hg];exact t1
  split at he
  ·rename_i cs hl
   split at he
   ·rename_i hh;cases he
    exact fin hr hl (aA2 hh.2.2.1) hh.1 (.inl ⟨cs,rfl,rfl,by omega,hh.2.2.2⟩) rfl rfl
   ·cases he
  ·rename_i e' k cs hl
   split at he
   ·rename_i ds GM
    split at he
    ·rename_i hh;cases he
     obtain ⟨r1,r2,r3⟩:=qy GM hr
     exact fin r1 hl r3 (by simpa using hh.1) (.inr ⟨e',k,cs,ds,rfl,rfl,rfl,by simpa [hh.1] using hh.2⟩) rfl rfl
    ·cases he
   ·cases he
  ·cases he
 ·cases he

theorem Vp{x:Operand}{p:PV}{aD:eu}(hm:Mem E m aP w0 φ H w)(bK:eM E φ H w ρ ev){f:Value→Sem Next}(hf: ∀a v,v= .pointer (some a)→(f v).run P w= .ok (.value v) w)
  (he:az γ H d ρ (.Mw x)=some (p,aD)):Does P E m aP w0 φ H w p aD (f (ev x)):=by
 have hx:=bK x
 simp only [az] at he
 split at he
 ·rename_i i g o e
  rw [e] at hx
  cases he
  obtain ⟨b1,_,hv⟩:=hx.1
  exact EI hm (hf _ _ hv) hx
 ·rename_i cs e;cases he
  rw [e] at hx
  obtain ⟨b,o,hv,h⟩:=hx
  exact EI hm (hf _ _ hv) ⟨b,o,hv,h⟩
 ·cases he
theorem mS{t:TypeId}{fs:Array Field}{f:Nat}{fd:Field}(hu:P.underlying t=some (.struct fs))(hf:fs[f]?=some fd){n:Nat}(hn:iG P fd.type=some n)(h0:n≠0)(b o:Nat):
  (Instr.fieldAt t (.pointer (some ⟨b,o,none⟩)) f).run P w= .ok (.pointer (some ⟨b,o+fd.offset,none⟩)) w:=by
 unfold Instr.fieldAt
 simp [run_underlying hu,hf,Instr.sureAddr,fieldPlace,fA hn,h0,gm]
theorem adp{t:TypeId}{fs:Array Field}{f:Nat}{fd:Field}{x:Operand}{p:PV}{aD:eu}(hm:Mem E m aP w0 φ H w)(bK:eM E φ H w ρ ev)(hu:P.underlying t=some (.struct fs))(hf:fs[f]?=some fd){n:Nat}(hn:iG P fd.type=some n)(h0:n≠0)
  (he:az γ H d ρ (.Rk fd.offset x)=some (p,aD)):Does P E m aP w0 φ H w p aD (do pure (.value (←Instr.fieldAt t (ev x) f))):=by
 have hx:=bK x
 simp only [az] at he
 split at he
 ·rename_i i g o e
  rw [e] at hx
  cases he
  obtain ⟨b1,o1,hv⟩:=hx.1
  rw [hv] at hx ⊢
  refine dQ hm (mS hu hf hn h0 b1 o1) ⟨⟨_,_,rfl⟩,hx.2.1,fun hg hs=>?_⟩
  obtain ⟨b2,c2,h1,h2⟩:=hx.2.2 hg hs
  injection h2 with h2;injection h2 with h2;injection h2 with h2 h3
  subst h2;subst h3
  exact ⟨b1,c2,h1,by rw [Nat.add_assoc]⟩
 ·rename_i cs e;cases he
  rw [e] at hx
  obtain ⟨b,o,hv,h1,h2,h3⟩:=hx
  rw [hv]
  exact dQ hm (mS hu hf hn h0 b o) ⟨b,_,rfl,h1,h2,h3.drop _⟩
 ·cases he
theorem MK{t:TypeId}{dd:TypeDesc}{n:Nat}(hd:P.underlying t=some dd)(hn:iG P t=some n)(h1:f_ P t=false→n=1){vs:Array Value}{o:Nat}(hl:((vs.toList.drop o).take n).length=n):
  (Go.part t vs o).run P w= .ok (if f_ P t then .agg ((vs.toList.drop o).take n).toArray else ((vs.toList.drop o).take n).headD undef) w:=by
 unfold Go.part
 rw [Sem.run_bind,MI hd]
 simp only [Result.andThen_ok]
 split
 ·simp only [Sem.run_bind,fA hn,Result.andThen_ok,Sem.run_pure]
  congr 2
  apply Array.ext'
  simp [List.extract_eq_take_drop]
 ·rename_i hf
  have h1:=h1 (by simpa using hf)
  subst h1
  have ho:o<vs.size:=by simp at hl;omega
  have:vs[o]?=some vs[o]:=by simp [ho]
  rw [this]
  have e:(vs.toList.drop o).take 1= [vs[o]]:=by
   rw [List.drop_eq_getElem_cons (by simpa using ho),List.take_succ_cons,List.take_zero];rfl
  rw [e];rfl
theorem Vq{t:TypeId}{fs:Array Field}{f:Nat}{fd:Field}{x:Operand}{p:PV}{aD:eu}(hm:Mem E m aP w0 φ H w)(bK:eM E φ H w ρ ev)(hu:P.underlying t=some (.struct fs))(hf:fs[f]?=some fd){dd:TypeDesc}(hd:P.underlying fd.type=some dd){n:Nat}(hn:iG P fd.type=some n)(h1:f_ P fd.type=false→n=1)
  (he:az γ H d ρ (.Rl (f_ P fd.type) fd.offset n x)=some (p,aD)):Does P E m aP w0 φ H w p aD (do pure (.value (←Instr.field t (ev x) f))):=by
 have hx:=bK x
 simp only [az] at he
 split at he
 ·rename_i cs e
  rw [e] at hx
  obtain ⟨vs,hv,hr⟩:=hx
  split at he
  ·rename_i q hq;cases he
   obtain ⟨q1,q2⟩:=yZ hq h1 hr
   rw [hv]
   refine dQ hm ?_ q2
   unfold Instr.field
   simp only [Sem.run_bind,run_underlying hu,Result.andThen_ok,hf,asAgg,Sem.run_pure]
   exact MK hd hn h1 q1
  ·cases he
 ·cases he
theorem CE{t e:TypeId}{len k:Nat}(hu:P.underlying t=some (.array len e))(hk:iG P e=some k)(b o:Nat)(kk:IntKind)(j:Int)(h:0≤j∧j<len):
  (Instr.indexAt t (.pointer (some ⟨b,o,none⟩)) (.int kk j)).run P w= .ok (.pointer (some ⟨b,o+j.toNat*k,none⟩)) w:=by
 unfold Instr.indexAt
 simp [asIntOf,run_underlying hu,Instr.sureAddr,h,fA hk,gm]
theorem Rx{t e:TypeId}{k:Nat}(hu:P.underlying t=some (.slice e))(hk:iG P e=some k)(b o n c:Nat)(kk:IntKind)(j:Int)(h:0≤j∧j<n):
  (Instr.indexAt t (.slice (some ⟨b,o,none⟩) n c) (.int kk j)).run P w= .ok (.pointer (some ⟨b,o+j.toNat*k,none⟩)) w:=by
 unfold Instr.indexAt
 simp [asIntOf,run_underlying hu,h,fA hk,gm]
theorem adq{t e:TypeId}{len k:Nat}{x i:Operand}{p:PV}{aD:eu}(hm:Mem E m aP w0 φ H w)(bK:eM E φ H w ρ ev)(hu:P.underlying t=some (.array len e))(hk:iG P e=some k)
  (he:az γ H d ρ (.sN len k x i)=some (p,aD)):Does P E m aP w0 φ H w p aD (do pure (.value (←Instr.indexAt t (ev x) (ev i)))):=by
 have hx:=bK x
 have hi:=bK i
 simp only [az] at he
 split at he
 ·rename_i b g o kk j e1 e2
  rw [e1] at hx
  rw [j8 e2 hi]
  split at he
  ·rename_i hj;cases he
   obtain ⟨b1,o1,hv⟩:=hx.1
   rw [hv] at hx ⊢
   refine dQ hm (CE hu hk b1 o1 kk j hj) ⟨⟨_,_,rfl⟩,hx.2.1,fun hg hs=>?_⟩
   obtain ⟨b2,c2,h1,h2⟩:=hx.2.2 hg hs
   injection h2 with h2;injection h2 with h2;injection h2 with h2 h3
   subst h2;subst h3
   exact ⟨b1,c2,h1,by rw [Nat.add_assoc]⟩
  ·cases he
 ·rename_i cs kk j e1 e2
  rw [e1] at hx
  rw [j8 e2 hi]
  split at he
  ·rename_i hj;cases he
   obtain ⟨b,o,hv,h1,h2,h3⟩:=hx
   rw [hv]
   exact dQ hm (CE hu hk b o kk j hj) ⟨b,_,rfl,h1,h2,h3.drop _⟩
  ·cases he
 ·cases he
theorem adr{t e:TypeId}{k:Nat}{x i:Operand}{p:PV}{aD:eu}(hm:Mem E m aP w0 φ H w)(bK:eM E φ H w ρ ev)(hu:P.underlying t=some (.slice e))(hk:iG P e=some k)
  (he:az γ H d ρ (.jz e k x i)=some (p,aD)):Does P E m aP w0 φ H w p aD (do pure (.value (←Instr.indexAt t (ev x) (ev i)))):=by
 have hx:=bK x
 have hi:=bK i
 simp only [az] at he
 split at he
 ·rename_i n cs kk j e1 e2
  rw [e1] at hx
  rw [j8 e2 hi]
  split at he
  ·rename_i hj;cases he
   obtain ⟨a,c,hv,h1,h2,h3,h4⟩:=hx
   obtain ⟨b,o,rfl,h5,h6,h7⟩:=h4.resolve_left hj.2.2
   rw [hv]
   exact dQ hm (Rx hu hk b o n c kk j ⟨hj.1,hj.2.1⟩) ⟨b,_,rfl,h5,h6,h7.drop _⟩
  ·cases he
 ·rename_i b g l n kk j e1 e2
  rw [e1] at hx
  rw [j8 e2 hi]
  split at he
  ·rename_i hj
   split at he
   ·rename_i e' k' cs hl
    split at he
    ·rename_i pH;subst pH;cases he
     obtain ⟨hg,hb⟩:=hm.iz hl
     obtain ⟨_,hle,hx2⟩:=hx
     obtain ⟨pI,hlen,hp⟩:=hx2 hg _ _ _ hb
     cases en:φ b with
     | nil a=>
      rw [en] at hp
      omega
     | blk b1 c1=>
      rw [en] at hp
      obtain ⟨a,c',hv,h1,h2,h3,h4,h5⟩:=hp
      rw [hv,h3 (by omega)]
      have e3:l*k'+j.toNat*k'=(l+j.toNat)*k':=by rw [Nat.add_mul]
      have hr:=Rx (P:=P) (w:=w) hu hk b1 (off c1+l*k') n c' kk j hj
      rw [Nat.add_assoc,e3] at hr
      exact dQ hm hr ⟨⟨_,_,rfl⟩,hle,fun _ _=>⟨b1,c1,en,rfl⟩⟩
    ·cases he
   ·cases he
  ·cases he
 ·cases he
theorem ads{t e:TypeId}{len k:Nat}{x i:Operand}{p:PV}{aD:eu}(hm:Mem E m aP w0 φ H w)(bK:eM E φ H w ρ ev)(hu:P.underlying t=some (.array len e)){dd:TypeDesc}(hd:P.underlying e=some dd)(hk:iG P e=some k)(h1:f_ P e=false→k=1)
  (he:az γ H d ρ (.GH (f_ P e) len k x i)=some (p,aD)):Does P E m aP w0 φ H w p aD (do pure (.value (←Instr.index t (ev x) (ev i)))):=by
 have hx:=bK x
 have hi:=bK i
 simp only [az] at he
 split at he
 ·rename_i cs kk j e1 e2
  rw [e1] at hx
  rw [j8 e2 hi]
  obtain ⟨vs,hv,hr⟩:=hx
  split at he
  ·rename_i hj
   split at he
   ·rename_i q hq;cases he
    obtain ⟨q1,q2⟩:=yZ hq h1 hr
    rw [hv]
    refine dQ hm ?_ q2
    unfold Instr.index
    simp only [Sem.run_bind,asIntOf,Sem.run_pure,run_underlying hu,Result.andThen_ok,if_pos hj,fA hk]
    exact MK hd hk h1 q1
   ·cases he
  ·cases he
 ·cases he
theorem Ry{t:TypeId}{x i:Operand}{p:PV}{aD:eu}(hm:Mem E m aP w0 φ H w)(bK:eM E φ H w ρ ev)(hu:P.underlying t=some .string)
  (he:az γ H d ρ (.iw x i)=some (p,aD)):Does P E m aP w0 φ H w p aD (do pure (.value (←Instr.index t (ev x) (ev i)))):=by
 have hx:=bK x
 have hi:=bK i
 simp only [az] at he
 split at he
 ·rename_i s kk j e1 e2
  rw [uY e1 hx,j8 e2 hi]
  split at he
  ·rename_i hj;cases he
   refine dQ hm ?_ rfl
   rw [run_index_string w t _ kk j hu,dif_pos (by rw [tR];exact hj)]
   have h2:j.toNat<s.length:=by omega
   have e:(⟨s.toArray⟩:ByteArray)[j.toNat]'(by rw [tR];exact h2)=s.getD j.toNat 0:=by
    simp [List.getD,List.getElem?_eq_getElem h2];rfl
   rw [e]
  ·cases he
 ·cases he
end
end Go.Proofs.YtimbfadnabfabaaGreatDoor.Pm
