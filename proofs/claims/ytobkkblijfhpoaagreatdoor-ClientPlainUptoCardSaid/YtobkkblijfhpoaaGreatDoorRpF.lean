/- farref: Rows, walked by hand: each row in a new block of its own. -/
import Derived.Test.YtobkkblijfhpoaaGreatDoorCom
import Derived.Test.YtobkkblijfhpoaaGreatDoorDRpD
import Derived.OwnWalk
import Derived.Maps.AppendAt
import Derived.Lib.BufferMore
import Derived.StillTactics
import Derived.Deep.QuietTactic
import Derived.BigQuiet
import Derived.Deep.DeepCutAuto
import Derived.StillTailTactics
import Derived.Laws.OwnMore
import Derived.Laws.Rows
namespace Go.Proofs.YtobkkblijfhpoaaGreatDoor.Rp
open Go Go.Proofs Go.RowKit Go.Proofs.YtobkkblijfhpoaaGreatDoor.D4 Go.Proofs.YtobkkblijfhpoaaGreatDoor.Pm
set_option linter.unusedVariables false
def Ct(W:World)(B:Nat)(row:List Value)(v:Value):Prop:=
 ∃b o n c cur f,v= .slice (some ⟨b,o,none⟩) n c∧row.length=n*4∧n≤c∧c≤maxLen∧B≤b∧W.heap[b]?=some (.cells cur 100 f)∧(f=(0,0)∨cur.size≤f.1)∧cur.size=o+c*4∧(cur.toList.drop o).take row.length=row
theorem Ct.keep{W W':World}{B:Nat}{row:List Value}{v:Value}(h:Ct W B row v)(hb: ∀(b:Nat) cur f,W.heap[b]?=some (.cells cur 100 f)→W'.heap[b]?=some (.cells cur 100 f)):Ct W' B row v:=by
 obtain ⟨b,o,n,c,cur,f,h1,h2,h3,h4,h5,h6,h7⟩:=h
 exact ⟨b,o,n,c,cur,f,h1,h2,h3,h4,h5,hb _ _ _ h6,h7⟩
theorem Ct.mono{W:World}{B B':Nat}{row:List Value}{v:Value}(h:Ct W B row v)(hb:B'≤B):Ct W B' row v:=by
 obtain ⟨b,o,n,c,cur,f,h1,h2,h3,h4,h5,h6⟩:=h
 exact ⟨b,o,n,c,cur,f,h1,h2,h3,h4,Nat.le_trans hb h5,h6⟩
theorem Ct.sl{W:World}{B:Nat}{row:List Value}{v:Value}(h:Ct W B row v): ∃b o m c,v= .slice (some ⟨b,o,none⟩) m c∧b<W.heap.size∧B≤b:=by
 obtain ⟨b,o,n,c,cur,f,h1,h2,h3,h4,h5,h6,h7⟩:=h
 exact ⟨b,o,n,c,h1,(Array.getElem?_eq_some_iff.1 h6).1,h5⟩
def oV(W:World)(B:Nat)(v:Value)(vs:List Value)(R:List (List Value)):Prop:=
 W.ownsRow B 32 1 v vs.length vs∧vs.length=R.length∧(∀(i:Nat) u row,vs[i]?=some u→R[i]?=some row→Ct W B row u)∧ ∀(i j:Nat) u u',vs[i]?=some u→vs[j]?=some u'→u.ownBlock=u'.ownBlock→i=j
theorem abD:(Go.Proofs.Tryz.prog.info? 32).map (fun i=>(i.zero,i.size,i.bytes))=some (some (.slice none 0 0),1,24):=by kernel_rfl
theorem info_parts{z:Option Value}{s b:Nat}{o:Option TypeInfo}(h:o.map (fun i=>(i.zero,i.size,i.bytes))=some (z,s,b)): ∃i,o=some i∧i.zero=z∧i.size=s∧i.bytes=b:=by
 cases o with
 | none=>simp at h
 | some i=>simp at h;exact ⟨i,rfl,h⟩
theorem akZ{B e size n:Nat}{W W':World}{v:Value}{xs:List Value}(he:e≠100)(hg:W.grownBy W' v.ownBlock)(h:W.ownsRow B e size v n xs)(b:Nat)(cur:Array Value)(f:Nat×Nat)(q:W.heap[b]?=some (.cells cur 100 f)):W'.heap[b]?=some (.cells cur 100 f):=
 (hg.block b (Array.getElem?_eq_some_iff.1 q).1 fun e=>by
  rcases h.2 with ⟨rfl,_⟩ | ⟨g,cap,cur',rfl,_,q3,_⟩
  ·cases e
  ·cases e;rw [q] at q3;cases q3;exact he rfl).trans q
theorem oV.app{W W':World}{B:Nat}{v v' s:Value}{vs:List Value}{R:List (List Value)}{row:List Value}(h:oV W B v vs R)(hs:Ct W W.heap.size row s∨(∃T,Ct W T row s∧B≤T∧ ∀(i:Nat) u,vs[i]?=some u→u.ownBlock≠s.ownBlock))
  (ho:W'.ownsRow B 32 1 v' (vs.length+1) (vs++ [s])) (hg:W.grownBy W' v.ownBlock) (hB:B≤W.heap.size):oV W' B v' (vs++ [s]) (R++ [row]):=by
 obtain ⟨h1,h2,h3,h4⟩:=h
 have hk:=akZ (by decide) hg h1
 have hsB:Ct W B row s:=by
  rcases hs with hs | ⟨T,hs,hT,_⟩
  ·exact hs.mono hB
  ·exact hs.mono hT
 have hne: ∀(i:Nat) u,vs[i]?=some u→u.ownBlock≠s.ownBlock:=fun i u hu=>by
  rcases hs with hs | ⟨T,_,_,hs⟩
  ·obtain ⟨row',hr⟩: ∃r,R[i]?=some r:=⟨_,List.getElem?_eq_getElem (by have:=(List.getElem?_eq_some_iff.1 hu).1;omega)⟩
   obtain ⟨b,o,m,c,rfl,hb,_⟩:=(h3 i u row' hu hr).sl
   obtain ⟨b',o',m',c',rfl,_,hb'⟩:=hs.sl
   intro e
   have:b=b':=by simpa [Value.ownBlock] using e
   omega
  ·exact hs i u hu
 have hlen:(vs++ [s]).length=vs.length+1:=by simp
 refine ⟨by rw [hlen];exact ho,by simp [h2],fun i u row' hu hr=>?_,fun i j u u' hu Ll e=>?_⟩
 ·rw [List.getElem?_append] at hu hr
  by_cases hi:i<vs.length
  ·rw [if_pos hi] at hu;rw [if_pos (by omega)] at hr
   exact (h3 i u row' hu hr).keep hk
  ·rw [if_neg hi] at hu;rw [if_neg (by omega)] at hr
   have hz:i-vs.length=0:=by
    have:=(List.getElem?_eq_some_iff.1 hu).1
    simp at this;omega
   rw [hz] at hu;rw [show i-R.length=0 by omega] at hr
   cases hu;cases hr
   exact hsB.keep hk
 ·rw [List.getElem?_append] at hu Ll
  by_cases hi:i<vs.length
  ·rw [if_pos hi] at hu
   by_cases hj:j<vs.length
   ·rw [if_pos hj] at Ll
    exact h4 i j u u' hu Ll e
   ·rw [if_neg hj] at Ll
    have hz:j-vs.length=0:=by
     have:=(List.getElem?_eq_some_iff.1 Ll).1
     simp at this;omega
    rw [hz] at Ll;cases Ll
    exact absurd e (hne i u hu)
  ·rw [if_neg hi] at hu
   have hz:i-vs.length=0:=by
    have:=(List.getElem?_eq_some_iff.1 hu).1
    simp at this;omega
   rw [hz] at hu;cases hu
   by_cases hj:j<vs.length
   ·rw [if_pos hj] at Ll
    exact absurd e.symm (hne j u' Ll)
   ·rw [if_neg hj] at Ll
    have hz:j-vs.length=0:=by
     have:=(List.getElem?_eq_some_iff.1 Ll).1
     simp at this;omega
    omega
theorem y6{W W':World}{base e size n:Nat}{v:Value}{xs:List Value}(h:W.ownsRow base e size v n xs)(hB:Below W.heap.size W W'):W'.ownsRow base e size v n xs:=
 ⟨h.1,h.2.imp id fun ⟨g,cap,cur,q1,q2,q3,q4⟩=>⟨g,cap,cur,q1,q2,(hB.block _ (Array.getElem?_eq_some_iff.1 q3).1).trans q3,q4⟩⟩
theorem oV.below{W W':World}{B:Nat}{v:Value}{vs:List Value}{R:List (List Value)}(h:oV W B v vs R)(hb:Below W.heap.size W W'):oV W' B v vs R:=
 ⟨y6 h.1 hb,h.2.1,fun i u row hu hr=>(h.2.2.1 i u row hu hr).keep fun b cur f q=>(hb.block b (Array.getElem?_eq_some_iff.1 q).1).trans q,h.2.2.2⟩
theorem oV.mono{W:World}{B B':Nat}{v:Value}{vs:List Value}{R:List (List Value)}(h:oV W B v vs R)(hb:B'≤B):oV W B' v vs R:=
 ⟨⟨h.1.1,h.1.2.imp id fun ⟨g,cap,cur,q1,q2,q3⟩=>⟨g,cap,cur,q1,Nat.le_trans hb q2,q3⟩⟩,h.2.1,fun i u row hu hr=>(h.2.2.1 i u row hu hr).mono hb,h.2.2.2⟩
theorem oV.nil(W:World)(B:Nat):oV W B (.slice none 0 0) [] []:=⟨World.ownsRow_nil ..,rfl,fun i u row hu _=>by simp at hu,fun i j u u' hu=>by simp at hu⟩
set_option maxRecDepth 100000 in
set_option maxHeartbeats 4000000 in
theorem Ye(w:World)(gw gh b o n c:Nat)(R:Nat→List Value)(h1:1≤gw∧gw≤160)(h2:gh≤60)(hn:gw*gh=n)(hnc:n≤c)(hc:c≤maxLen)(hb:b<w.heap.size)
  (kC: ∀(W:World) (j:Nat),Below w.heap.size w W→j<gh→Calls Go.Proofs.Tryz.prog 91 #[.slice (some ⟨b,o+j*gw*4,none⟩) gw (c-j*gw)] W fun e W'=> ∃s,e= .returned s∧Below W.heap.size W W'∧Ct W' W.heap.size (R j) s):
  Calls Go.Proofs.Tryz.prog 180 #[.agg #[.int .i64 gw,.int .i64 gh,.slice (some ⟨b,o,none⟩) n c]] w fun e W=> ∃v vs,e= .returned v∧Below w.heap.size w W∧oV W w.heap.size v vs ((List.range gh).map R):=by
 go_enter Go.Proofs.Tryz.func180,Go.Proofs.Tryz.ntmps180
 go_wp2_with fail
 obtain ⟨w1,r8⟩: ∃w1,w.alloc (.cells #[.int .i64 gw,.int .i64 gh,.slice (some ⟨b,o,none⟩) n c] 34)=w1:=⟨_,rfl⟩
 have c0:w1.cell? ⟨w.heap.size,0,none⟩=some (.int .i64 gw):=by subst r8;simp
 have c1:w1.cell? ⟨w.heap.size,1,none⟩=some (.int .i64 gh):=by subst r8;simp
 have c2:w1.cell? ⟨w.heap.size,2,none⟩=some (.slice (some ⟨b,o,none⟩) n c):=by subst r8;simp
 have hb1:Below w.heap.size w w1:=by subst r8;exact (Below.refl _ w).alloc (Nat.le_refl _) _
 have hs1:w1.heap.size=w.heap.size+1:=by subst r8;simp
 rw [r8]
 clear r8
 go_loopw [3,4] (fun v i wr=> ∃(j:Nat) (vs:List Value),j≤gh∧i= .int .i64 j∧Below w1.heap.size w1 wr∧oV wr w1.heap.size v vs ((List.range j).map R)) (fun _ i _=>gh-(intOf i).toNat)
 case atStart=>exact ⟨0,[],Nat.zero_le _,rfl,.refl _ _,oV.nil _ _⟩
 case round=>
  obtain ⟨j,vs,hj,rfl,hB,hL⟩:=hrel
  have d0:=(hB.cell (p:=⟨w.heap.size,0,none⟩) (by show w.heap.size<_;omega)).trans c0
  have d1:=(hB.cell (p:=⟨w.heap.size,1,none⟩) (by show w.heap.size<_;omega)).trans c1
  have d2:=(hB.cell (p:=⟨w.heap.size,2,none⟩) (by show w.heap.size<_;omega)).trans c2
  by_cases hlt:j<gh
  ·obtain ⟨q,hq⟩: ∃q,j*gw=q:=⟨_,rfl⟩
   have hq1:q+gw≤n:=by
    have h9:(j+1)*gw≤gh*gw:=Nat.mul_le_mul_right _ hlt
    rw [Nat.add_mul,Nat.one_mul,hq,Nat.mul_comm gh gw,hn] at h9
    exact h9
   have hn9:n≤9600:=by
    rw [←hn];exact Nat.mul_le_mul h1.2 h2
   have w1q:IntKind.i64.wrap ((j:Int)*(gw:Int))=((q:Nat):Int):=by
    rw [←Int.natCast_mul,hq];exact IntWalk.i64_in _ (by omega)
   have w3q:IntKind.i64.wrap (((j:Int)+1)*(gw:Int))=((q+gw:Nat):Int):=by
    have e:((j:Int)+1)*(gw:Int)=(((j+1)*gw:Nat):Int):=by push_cast;rfl
    rw [e,Nat.add_mul,Nat.one_mul,hq];exact IntWalk.i64_in _ (by omega)
   have kC':=kC wr j (hb1.trans (hB.mono (by omega))) hlt
   rw [hq] at kC'
   obtain ⟨io,hio,hz0,hz1,hz2⟩:=info_parts abD
   clear kC
   go_wp2_with fail
   refine kC'.mono ?_
   rintro e w7 ⟨s7,rfl,b7,el7⟩
   obtain ⟨sb,so,sn,sc,rfl,hsb,hsB⟩:=el7.sl
   have hB7:Below w1.heap.size w1 w7:=hB.trans (b7.mono hB.size)
   have hL7:=hL.below b7
   have h7s:=hB7.size
   have hr7:=hL7.1.alloc (.cells #[.slice (some ⟨sb,so,none⟩) sn sc] 32)
   have aAI: ∀u∈ [Value.slice (some ⟨sb,so,none⟩) sn sc],u.oneCell'=true:=fun u hu=>by
    rw [List.mem_singleton.1 hu];rfl
   have xS:vs.length=j:=by rw [hL.2.1];simp
   rw [xS] at hr7
   go_wp2_with (at_builtin;refine wpList_append_own _ rfl _ _ 275 rfl w1.heap.size 32 io _ 1 24 Go.Proofs.Tryz.underlying275 hio hz0 hz1 hz2 rfl (by decide) _ _ _ rfl hr7 ⟨w7.heap.size,0,none⟩ 1 1 [.slice (some ⟨sb,so,none⟩) sn sc] rfl rfl (cell_one_new _ _ _) aAI (by unfold maxLen;omega) (by omega) (by simp;omega) ?_;intro v' w8 QM att _)
   have qg8:w7.grownBy w8 _:=(World.grownBy_alloc w7 _ _).trans att
   have hB8:=hB7.grown qg8 h7s (fun k e=>(hL7.1.lt k e).1)
   refine ⟨⟨j+1,vs++ [.slice (some ⟨sb,so,none⟩) sn sc],hlt,by simp,hB8,?_⟩,by simp [intOf];omega⟩
   rw [List.range_succ,List.map_append]
   refine hL7.app (.inr ⟨wr.heap.size,el7,hB.size,fun i u hu=>?_⟩) (by rw [xS];exact QM) qg8 h7s
   obtain ⟨row',hr⟩: ∃r,((List.range j).map R)[i]?=some r:=⟨_,List.getElem?_eq_getElem (by have:=(List.getElem?_eq_some_iff.1 hu).1;have:=hL.2.1;omega)⟩
   obtain ⟨b',o',m',c',rfl,hb',_⟩:=(hL.2.2.1 i u row' hu hr).sl
   intro e
   have:b'=sb:=by simpa [Value.ownBlock] using e
   omega
  ·obtain rfl:j=gh:=by omega
   go_wp2_with fail
   exact bodyPost_ret (results_tmp rfl _ _ _) rfl ⟨_,vs,rfl,hb1.trans (hB.mono (by omega)),hL.mono (by omega)⟩
end Go.Proofs.YtobkkblijfhpoaaGreatDoor.Rp

namespace Go.Proofs.YtobkkblijfhpoaaGreatDoor.Rp
open Go Go.Proofs Go.RowKit Go.Proofs.YtobkkblijfhpoaaGreatDoor.D4 Go.Proofs.YtobkkblijfhpoaaGreatDoor.Pm
set_option linter.unusedVariables false
def Ia(row:List Value)(col:Nat)(x:List Value):List Value:=row.take (col*4)++x++row.drop (col*4+4)
section
variable {P : Program} {ops : Array Oper} {Q : Exit → Act → World → Prop} {a : Act} {w : World} {o : Oper} {rest : List Oper}
theorem Bl(hgd:o.guard=none)(hd:o.dst=none)(ty:TypeId)(x y:Operand)(ho:o.op= .store ty x y)(g q:Nat)(hx:a.eval x= .pointer (some ⟨g,q,none⟩))(cur:Array Value)(e:TypeId)(hr:je w g cur e)
  (vs:List Value) (hv:(a.eval y).cells.toList=vs) (hi:gS P ty=some vs.length) (h1: ∀v∈vs,v.oneCell'=true) (Oj:q+vs.length≤cur.size)
  (h:wpList P ops Q rest a (w.setRow g (cur.toList.take q++(vs++cur.toList.drop (q+vs.length))).toArray)):wpList P ops Q (o::rest) a w:=
 wpList_plain hgd fun K hK=>by
  have hrun:=jb P g q e vs 0 cur w hr (by omega) h1
  simp only [Nat.add_zero] at hrun
  have hs:(a.eval y).cells.size=vs.length:=by rw [←hv];simp
  unfold Oper.wp execOp
  simp only [ho,hx]
  unfold Instr.storeAt Instr.sureAddr storeVar
  simp [fe hi,hs,hv,hrun]
  exact hK _ _ (by rw [hd];exact h)
end
theorem oV.cell{W W':World}{B:Nat}{v:Value}{vs:List Value}{R:List (List Value)}(h:oV W B v vs R){r k cb co n cc:Nat}{cur:Array Value}{f:Nat×Nat}(hr:r<R.length)(hu:vs[r]?=some (.slice (some ⟨cb,co,none⟩) n cc))(pT:(R[r]).length=n*4)(hcn:n≤cc)(hcm:cc≤maxLen)(hcB:B≤cb)
  (hch:W.heap[cb]?=some (.cells cur 100 f)) (hcf:f=(0,0)∨cur.size≤f.1) (hcs:cur.size=co+cc*4) (hct:(cur.toList.drop co).take (R[r]).length=R[r]) (hk:k<n) (x:List Value) (hx:x.length=4)
  (h1:W'.heap[cb]?=some (.cells (cur.toList.take (co+k*4)++(x++cur.toList.drop (co+k*4+4))).toArray 100 f)) (h2: ∀b:Nat,b≠cb→W'.heap[b]?=W.heap[b]?):oV W' B v vs (R.set r (Ia (R[r]) k x)):=by
 have hT: ∀(b:Nat) cur' f',W.heap[b]?=some (.cells cur' 32 f')→W'.heap[b]?=some (.cells cur' 32 f'):=fun b cur' f' q=>by
  rw [h2 b (fun e=>by rw [e,hch] at q;cases q)];exact q
 have hsz:(cur.toList.take (co+k*4)++(x++cur.toList.drop (co+k*4+4))).toArray.size=cur.size:=by
  have h9:cur.toList.length=cur.size:=Array.length_toList
  rw [List.size_toArray,List.length_append,List.length_append,List.length_take,List.length_drop]
  omega
 refine ⟨⟨h.1.1,h.1.2.imp id fun ⟨g,cap,cur',q1,q2,q3,q4⟩=>⟨g,cap,cur',q1,q2,hT _ _ _ q3,q4⟩⟩,by rw [List.length_set];exact h.2.1,fun i u row hui hri=>?_,h.2.2.2⟩
 by_cases hi:i=r
 ·subst hi
  rw [hu] at hui;cases hui
  rw [List.getElem?_set_self hr] at hri;cases hri
  have awx:(Ia (R[i]) k x).length=n*4:=by
   unfold Ia
   rw [List.length_append,List.length_append,List.length_take,List.length_drop];omega
  refine ⟨cb,co,n,cc,_,f,rfl,awx,hcn,hcm,hcB,h1,hcf.imp id fun q=>by rw [hsz];exact q,by rw [hsz];exact hcs,?_⟩
  have h9:cur.toList.length=cur.size:=Array.length_toList
  have e1:=Gr cur.toList x co (k*4) (by omega)
  rw [hx,List.append_assoc] at e1
  have e2:=Dw (cur.toList.drop co) (n*4) (k*4) x (by omega) (by rw [List.length_drop];omega)
  rw [hx] at e2
  rw [List.toList_toArray,e1,awx,e2,←pT,hct]
  rfl
 ·rw [List.getElem?_set_ne (fun e=>hi e.symm)] at hri
  obtain ⟨b,o,m,c,cur',f',e1,e2,e3,e4,e5,e6,e7⟩:=h.2.2.1 i u row hui hri
  have hne:b≠cb:=fun e=>hi (h.2.2.2 i r u _ hui hu (by rw [e1,e];rfl))
  exact ⟨b,o,m,c,cur',f',e1,e2,e3,e4,e5,(h2 b hne).trans e6,e7⟩
set_option maxRecDepth 100000 in
set_option maxHeartbeats 4000000 in
theorem afM(w:World)(B bw br bp bo bc r k gw:Nat)(rune p0 p1 p2:Int)(v:Value)(vs:List Value)(R:List (List Value))(hL:oV w B v vs R)(hr:r<R.length)(hk:k<gw)(hgw:gw≤160)(hR: ∀row∈R,row.length=gw*4)(hlen:R.length≤60)
  (k0:w.cell? ⟨bw,0,none⟩=some (.int .i64 1)) (k1:w.cell? ⟨br,0,none⟩=some (.int .i64 rune)) (k2:w.cell? ⟨bp,0,none⟩=some (.int .i64 p0)) (k3:w.cell? ⟨bp,1,none⟩=some (.int .i64 p1)) (k4:w.cell? ⟨bp,2,none⟩=some (.int .i64 p2))
  (k5:w.cell? ⟨bo,0,none⟩=some (.int .i64 r)) (k6:w.cell? ⟨bc,0,none⟩=some (.int .i64 k)) (ak1:0≤rune∧rune≤1114111):
  Calls Go.Proofs.Tryz.prog 184 #[v,.pointer (some ⟨bw,0,none⟩),.pointer (some ⟨br,0,none⟩),.pointer (some ⟨bp,0,none⟩),.pointer (some ⟨bo,0,none⟩),.pointer (some ⟨bc,0,none⟩)] w fun e W=>
   (∃x,e= .returned x)∧Below B w W∧oV W B v vs (R.set r (Ia (R[r]) k [.int .i64 rune,.int .i64 p0,.int .i64 p1,.int .i64 p2])):=by
 obtain ⟨u,hu⟩: ∃u,vs[r]?=some u:=⟨_,List.getElem?_eq_getElem (by have:=hL.2.1;omega)⟩
 have hct:=hL.2.2.1 r u (R[r]) hu (List.getElem?_eq_getElem hr)
 obtain ⟨cb,co,cn,cc,cur,f,rfl,pT,hcn,hcm,hcB,hch,hcf,hcs,aAK⟩:=hct
 have IL:=hR _ (List.getElem_mem hr)
 have aAL:cn=gw:=by omega
 subst aAL
 obtain ⟨vb,vc,abE,rfl,hvB,hvh,Qi,hvn,hvc,hvt⟩: ∃vb vc abE,v= .slice (some ⟨vb,0,none⟩) vs.length vc∧B≤vb∧w.heap[vb]?=some (.cells abE 32 (0,0))∧vs.length≤vc∧vc≤maxLen∧abE.size=vc∧abE.toList.take vs.length=vs:=by
  rcases hL.1.2 with ⟨rfl,e⟩ | ⟨g,cap,cur',e1,e2,e3,e4,e5,e6,e7⟩
  ·have:=hL.2.1;omega
  ·exact ⟨g,cap,cur',e1,e2,e3,e4,e5,by omega,by rw [Nat.mul_one] at e7;exact e7⟩
 have hcell:w.cell? ⟨vb,r,none⟩=some (.slice (some ⟨cb,co,none⟩) cn cc):=by
  rw [cell_of_row _ _ _ _ _ _ hvh]
  rw [←hvt,List.getElem?_take] at hu
  split at hu
  ·simpa using hu
  ·cases hu
 have hlr:r<vs.length:=by have:=hL.2.1;omega
 go_enter Go.Proofs.Tryz.func184,Go.Proofs.Tryz.ntmps184
 go_wp2_with fail
 obtain ⟨Pst,awy⟩: ∃Pst:World→Prop,Pst=fun W=>Below B w W∧oV W B (.slice (some ⟨vb,0,none⟩) vs.length vc) vs (R.set r (Ia (R[r]) k [.int .i64 rune,.int .i64 p0,.int .i64 p1,.int .i64 p2])):=⟨_,rfl⟩
 go_loopw [7,9] (fun _ i wr=>(i= .int .i64 0∧wr=w)∨(i= .int .i64 1∧Pst wr)) (fun _ i _=>1-(intOf i).toNat)
 case atStart=>first | exact .inl ⟨rfl,rfl⟩ | exact .inl ⟨rfl,trivial⟩
 case round=>
  rcases hrel with ⟨rfl,hw⟩ | ⟨rfl,hP⟩
  ·have hw':=hw.symm
   subst hw'
   go_wp2_with fail
   have s1:IntKind.i64.wrap (k:Int)=(k:Int):=IntWalk.i64_in _ (by omega)
   have s2:IntKind.i64.wrap (1:Int)=1:=IntWalk.i64_in _ (by omega)
   have s3:IntKind.i64.wrap rune=rune:=IntWalk.i64_in _ (by omega)
   have m1:rune*1=rune:=Int.mul_one _
   have i1:(0:Int)≤(r:Int):=by omega
   have i2:(r:Int)<(vs.length:Int):=by omega
   have i3:(0:Int)≤(k:Int):=by omega
   have i4:(k:Int)<(cn:Int):=by omega
   go_still_tail 14,(by kernel_rfl)
   clear s1 s2 s3 m1
   change wpList _ _ _ _ _ w.drew
   have hdh: ∀q:Nat,w.drew.heap[q]?=w.heap[q]?:=fun q=>rfl
   have hrow:je w.drew cb cur 100:=⟨f,(hdh cb).trans hch,hcf⟩
   have Gz:w.drew.heap.size=w.heap.size:=rfl
   have hb2:Below B w w.drew:=(Below.refl _ _).drew
   generalize w.drew=w2 at*
   obtain ⟨q,hq⟩: ∃q,co+k*4=q:=⟨_,rfl⟩
   have hqs:q+3<cur.size:=by omega
   rw [hq]
   refine Bl rfl rfl 100 (.tmp 25) (.tmp 24) rfl cb q rfl cur 100 hrow [.int .i64 rune,.int .i64 p0,.int .i64 p1,.int .i64 p2] rfl (by kernel_rfl) (by simp [Value.oneCell']) (by simp;omega) ?_
   go_wp2_with fail
   refine ⟨.inr ⟨rfl,?_⟩,by simp [intOf]⟩
   have hq4:q+4=co+k*4+4:=by rw [hq]
   have hrow2:w2.heap[cb]?=some (.cells cur 100 f):=(hdh cb).trans hch
   rw [awy]
   refine ⟨?_,?_⟩
   ·exact ⟨hb2.os,hb2.tape,hb2.output,by rw [setRow_size];exact hb2.size,fun b' hb'=>(setRow_other _ _ _ _ (by omega)).trans (hb2.block b' hb')⟩
   ·refine hL.cell hr hu pT hcn hcm hcB hch hcf hcs aAK hk [.int .i64 rune,.int .i64 p0,.int .i64 p1,.int .i64 p2] rfl ?_ fun b' hb'=>(setRow_other _ _ _ _ hb').trans (hdh b')
    rw [hq]
    exact setRow_heap _ _ _ _ _ _ hrow2
  ·go_wp2_with fail
   subst awy
   go_end0
   exact ⟨⟨_,rfl⟩,hP.1,hP.2⟩
end Go.Proofs.YtobkkblijfhpoaaGreatDoor.Rp

namespace Go.Proofs.YtobkkblijfhpoaaGreatDoor.Rp
open Go Go.Proofs Go.RowKit Go.Proofs.YtobkkblijfhpoaaGreatDoor.D4 Go.Proofs.YtobkkblijfhpoaaGreatDoor.Pm
set_option linter.unusedVariables false
def LF(W:World)(B:Nat)(v:Value)(h:Nat)(u:Nat→Value)(ρ:Nat→List Value):Prop:=W.ownsRow B 32 1 v h ((List.range h).map u)∧ ∀i,i<h→Ct W B (ρ i) (u i)
theorem oV.lf{W:World}{B:Nat}{v:Value}{vs:List Value}{R:List (List Value)}(h:oV W B v vs R):LF W B v R.length (fun i=>vs.getD i undef) (fun i=>R.getD i []):=by
 have hl:=h.2.1
 have e:(List.range R.length).map (fun i=>vs.getD i undef)=vs:=by
  apply List.ext_getElem?
  intro i
  rw [List.getElem?_map]
  by_cases hi:i<R.length
  ·rw [List.getElem?_range hi];simp [List.getElem?_eq_getElem (show i<vs.length by omega)]
  ·rw [List.getElem?_eq_none (by simp;omega),List.getElem?_eq_none (by omega)];rfl
 refine ⟨by rw [e];have:=h.1;rw [hl] at this;exact this,fun i hi=>?_⟩
 have h1:vs[i]?=some (vs.getD i undef):=by simp [List.getElem?_eq_getElem (show i<vs.length by omega)]
 have h2:R[i]?=some (R.getD i []):=by simp [List.getElem?_eq_getElem hi]
 exact h.2.2.1 i _ _ h1 h2
theorem LF.below{W W':World}{B h:Nat}{v:Value}{u:Nat→Value}{ρ:Nat→List Value}(hl:LF W B v h u ρ)(hb:Below W.heap.size W W'):LF W' B v h u ρ:=
 ⟨y6 hl.1 hb,fun i hi=>(hl.2 i hi).keep fun b cur f q=>(hb.block b (Array.getElem?_eq_some_iff.1 q).1).trans q⟩
theorem LF.set{W:World}{B h k g cap:Nat}{s:Value}{row:List Value}{u:Nat→Value}{ρ:Nat→List Value}(hl:LF W B (.slice (some ⟨g,0,none⟩) h cap) h u ρ)(hs:Ct W B row s)(hk:k<h):
  LF (W.setCell ⟨g,k,none⟩ s) B (.slice (some ⟨g,0,none⟩) h cap) h (fun i=>if i=k then s else u i) (fun i=>if i=k then row else ρ i):=by
 have hst:=(hl.1.stored k s).1
 have e:((List.range h).map u).set k s=(List.range h).map fun i=>if i=k then s else u i:=by
  apply List.ext_getElem?
  intro i
  rw [List.getElem?_set,List.getElem?_map,List.getElem?_map]
  by_cases hi:i<h
  ·rw [List.getElem?_range hi]
   by_cases hik:k=i
   ·subst hik;rw [if_pos rfl,if_pos (by simp;omega)];simp
   ·rw [if_neg hik];simp [show¬i=k from fun q=>hik q.symm]
  ·rw [List.getElem?_eq_none (by simp;omega)]
   rw [if_neg (by omega)];rfl
 have hT: ∀(b:Nat) cur f,W.heap[b]?=some (.cells cur 100 f)→(W.setCell ⟨g,k,none⟩ s).heap[b]?=some (.cells cur 100 f):=fun b cur f q=>by
  refine (Below.heap_setCell _ _ _ _ (fun e=>?_)).trans q
  rcases hl.1.2 with ⟨e',_⟩ | ⟨g',cap',cur',e',_,q3,_⟩
  ·cases e'
  ·cases e';have e:b=g:=e;subst e;rw [q] at q3;cases q3
 refine ⟨by rw [←e];exact hst,fun i hi=>?_⟩
 show Ct _ B (if i=k then row else ρ i) (if i=k then s else u i)
 by_cases hik:i=k
 ·rw [if_pos hik,if_pos hik];exact hs.keep hT
 ·rw [if_neg hik,if_neg hik];exact (hl.2 i hi).keep hT
theorem LF.at_{W:World}{B h k g cap:Nat}{u:Nat→Value}{ρ:Nat→List Value}(hl:LF W B (.slice (some ⟨g,0,none⟩) h cap) h u ρ)(hk:k<h):W.cell? ⟨g,k,none⟩=some (u k)∧W.frozen? ⟨g,k,none⟩=false:=by
 refine ⟨?_,hl.1.frozenAt k⟩
 rw [hl.1.cellAt k (by omega),List.getElem?_map,List.getElem?_range hk];rfl
theorem LF.form{W:World}{B h:Nat}{v:Value}{u:Nat→Value}{ρ:Nat→List Value}(hl:LF W B v h u ρ)(hh:0<h): ∃g cap,v= .slice (some ⟨g,0,none⟩) h cap∧B≤g∧g<W.heap.size:=by
 rcases hl.1.2 with ⟨e,e'⟩ | ⟨g,cap,cur,e,q1,q2,_⟩
 ·omega
 ·exact ⟨g,cap,e,q1,(Array.getElem?_eq_some_iff.1 q2).1⟩
theorem Ct.one{W:World}{B:Nat}{row:List Value}{v:Value}(h:Ct W B row v):v.oneCell'=true:=by
 obtain ⟨b,o,n,c,cur,f,rfl,_⟩:=h;rfl
set_option maxRecDepth 100000 in
set_option maxHeartbeats 4000000 in
theorem Uc(w:World)(B g cap h:Nat)(u:Nat→Value)(ρ:Nat→List Value)(hl:LF w B (.slice (some ⟨g,0,none⟩) h cap) h u ρ)(hh:h≤60)(h0:0<h):
  Calls Go.Proofs.Tryz.prog 230 #[.slice (some ⟨g,0,none⟩) h cap] w fun e W=> ∃s,e= .returned s∧Below w.heap.size w W∧W.ownsRow w.heap.size 32 1 s h ((List.range h).map u):=by
 obtain ⟨io,hio,hz0,hz1,hz2⟩:=info_parts abD
 have x9: ∀x∈(List.range h).map u,x.oneCell'=true:=fun x hx=>by
  obtain ⟨i,hi,rfl⟩:=List.mem_map.1 hx
  exact (hl.2 i (List.mem_range.1 hi)).one
 have hg:g<w.heap.size:=(hl.1.lt g rfl).2
 have q22:=fun (w:World)=>Lib.run_eql_slice_nil (P:=Go.Proofs.Tryz.prog) w 275 _ (some ⟨g,0,none⟩) h cap 0 0 Go.Proofs.Tryz.underlying275
 have pT: ∀(j:Nat) x,((List.range h).map u)[j]?=some x→(w.alloc (.cells #[] 32)).cell? ((⟨g,0,none⟩:Addr).add j)=some x:=fun j x hx=>(Below.cell (B:=w.heap.size) ((Below.refl _ _).alloc (Nat.le_refl _) _) (by rw [show ((⟨g,0,none⟩:Addr).add j)=⟨g,0+j,none⟩ from by unfold Addr.add;split<;>simp_all];exact hg)).trans (hl.1.cells rfl j x hx)
 have hown:(w.alloc (.cells #[] 32)).ownsRow w.heap.size 32 1 (.slice (some ⟨w.heap.size,0,none⟩) 0 0) 0 []:=World.ownsRow_made w #[] 0 (Nat.le_refl _) (Nat.zero_le _) (by simp)
 have hsz:w.heap.size≤(w.alloc (.cells #[] 32)).heap.size:=by simp
 have Gu:((List.range h).map u).length=h*1:=by simp
 generalize (List.range h).map u=xs at*
 go_enter Go.Proofs.Tryz.func230,Go.Proofs.Tryz.ntmps230
 go_wp2_with (at_builtin;refine wpList_append_own _ rfl _ _ 275 rfl w.heap.size 32 io _ 1 24 Go.Proofs.Tryz.underlying275 hio hz0 hz1 hz2 rfl (by decide) _ _ _ rfl hown ⟨g,0,none⟩ h cap xs rfl Gu pT x9 (by unfold maxLen;omega) (by omega) hsz ?_;intro o' w2 hown1 hb2 _)
 go_ret
 rw [Nat.zero_add,List.nil_append] at hown1
 have hBa:Below w.heap.size w (w.alloc (.cells #[] 32)):=(Below.refl _ _).alloc (Nat.le_refl _) _
 exact ⟨_,rfl,hBa.grown hb2 hsz (fun k e=>(hown.lt k e).1),hown1⟩
theorem LF.congr{W:World}{B h:Nat}{v:Value}{u:Nat→Value}{ρ ρ':Nat→List Value}(hl:LF W B v h u ρ)(e: ∀i,i<h→ρ i=ρ' i):LF W B v h u ρ':=⟨hl.1,fun i hi=>by rw [←e i hi];exact hl.2 i hi⟩
def QN(h:Nat)(bl:List Value)(ρ:Nat→List Value)(i:Nat):List Value:=if i+1<h then ρ (i+1) else bl
set_option maxRecDepth 100000 in
set_option maxHeartbeats 4000000 in
theorem QO(w:World)(B bt bb bg bp bn g cap h gw:Nat)(gs:Value)(p0 p1 p2:Int)(u:Nat→Value)(ρ:Nat→List Value)(bl:List Value)(hl:LF w B (.slice (some ⟨g,0,none⟩) h cap) h u ρ)(hh:h≤60)(h0:0<h)(hB:B≤w.heap.size)(hgB:B≤g)
  (bB:bt<B∧bb<B∧bg<B∧bp<B∧bn<B)
  (k0:w.cell? ⟨bt,0,none⟩=some (.int .i64 0)) (k1:w.cell? ⟨bb,0,none⟩=some (.int .i64 h)) (k2:w.cell? ⟨bg,0,none⟩=some (.int .i64 gw)) (k3:w.cell? ⟨bp,0,none⟩=some (.int .i64 p0)) (k4:w.cell? ⟨bp,1,none⟩=some (.int .i64 p1)) (k5:w.cell? ⟨bp,2,none⟩=some (.int .i64 p2)) (k6:w.cell? ⟨bn,0,none⟩=some (.int .i64 1))
  (kBl: ∀W,Below B w W→Calls Go.Proofs.Tryz.prog 188 #[.int .i64 gw,.agg #[.int .i64 p0,.int .i64 p1,.int .i64 p2]] W fun e W'=> ∃s,e= .returned s∧Below W.heap.size W W'∧Ct W' W.heap.size bl s)
  (kBt: ∀(W:World) (a b c:Int),Calls Go.Proofs.Tryz.prog 127 #[.int .i64 a,.int .i64 b,.int .i64 c] W fun e W'=>e= .returned (.bool (decide (b≤a)&&decide (a≤c)))∧Below W.heap.size W W'):
  Calls Go.Proofs.Tryz.prog 229 #[.slice (some ⟨g,0,none⟩) h cap,.pointer (some ⟨bt,0,none⟩),.pointer (some ⟨bb,0,none⟩),.pointer (some ⟨bg,0,none⟩),.pointer (some ⟨bp,0,none⟩),.pointer (some ⟨bn,0,none⟩)] w fun e W=>
   (∃x,e= .returned x)∧Below B w W∧ ∃u',LF W B (.slice (some ⟨g,0,none⟩) h cap) h u' (QN h bl ρ):=by
 go_enter Go.Proofs.Tryz.func229,Go.Proofs.Tryz.ntmps229
 go_wp2_with fail
 refine (Uc w B g cap h u ρ hl hh h0).mono ?_
 rintro e w1 ⟨s1,rfl,b1,awz⟩
 have Yf:Below B w w1:=b1.mono hB
 have J6:=hl.below b1
 obtain ⟨g1,Ud,ak2,rfl,hg1,hg2,hg3,hg4,hg5,hg6⟩: ∃g1 Ud ak2,s1= .slice (some ⟨g1,0,none⟩) h Ud∧w.heap.size≤g1∧w1.heap[g1]?=some (.cells ak2 32 (0,0))∧h≤Ud∧Ud≤maxLen∧ak2.size=Ud∧True:=by
  rcases awz.2 with ⟨e,e'⟩ | ⟨g',cap',cur',e,q1,q2,q3,q4,q5,q6⟩
  ·omega
  ·exact ⟨g',cap',cur',e,q1,q2,q3,q4,by omega,trivial⟩
 have hgw:g<w.heap.size:=(hl.1.lt g rfl).2
 have hcw: ∀i,i<h→w1.cell? ⟨g1,i,none⟩=some (u i):=fun i hi=>by
  rw [awz.cellAt i (by omega),List.getElem?_map,List.getElem?_range hi];rfl
 have aAM: ∀i,i<h→Ct w1 B (ρ i) (u i):=fun i hi=>J6.2 i hi
 have aAN: ∃cur f,w1.heap[g]?=some (.cells cur 32 f):=by
  rcases J6.1.2 with ⟨e,e'⟩ | ⟨g',cap',cur',e,q1,q2,_⟩
  ·cases e
  ·cases e;exact ⟨_,_,q2⟩
 have aAO:g1<w1.heap.size:=(Array.getElem?_eq_some_iff.1 hg2).1
 obtain ⟨Rel,xK⟩: ∃Rel:Nat→World→Prop,Rel=fun j wr=>Below B w1 wr∧(∀b:Nat,b≠g→b<w1.heap.size→wr.heap[b]?=w1.heap[b]?)∧ ∃u',LF wr B (.slice (some ⟨g,0,none⟩) h cap) h u' (fun i=>if i<j then QN h bl ρ i else ρ i):=⟨_,rfl⟩
 have hR0:Rel 0 w1:=by rw [xK];exact ⟨Below.refl _ _,fun _ _ _=>rfl,u,J6.congr fun i hi=>by simp⟩
 have k0':=(Below.cell b1 (p:=⟨bt,0,none⟩) (by show bt<_;omega)).trans k0
 have k1':=(Below.cell b1 (p:=⟨bb,0,none⟩) (by show bb<_;omega)).trans k1
 have k2':=(Below.cell b1 (p:=⟨bg,0,none⟩) (by show bg<_;omega)).trans k2
 have k3':=(Below.cell b1 (p:=⟨bp,0,none⟩) (by show bp<_;omega)).trans k3
 have k4':=(Below.cell b1 (p:=⟨bp,1,none⟩) (by show bp<_;omega)).trans k4
 have k5':=(Below.cell b1 (p:=⟨bp,2,none⟩) (by show bp<_;omega)).trans k5
 have k6':=(Below.cell b1 (p:=⟨bn,0,none⟩) (by show bn<_;omega)).trans k6
 clear k0 k1 k2 k3 k4 k5 k6 hl J6
 go_wp2_with fail
 go_loopw [8] (fun i wr=> ∃j:Nat,j≤h∧i= .int .i64 j∧Rel j wr) (fun i _=>h-(intOf i).toNat)
 case atStart=>exact ⟨0,Nat.zero_le _,rfl,hR0⟩
 case round=>
  obtain ⟨j,hj,rfl,IL⟩:=hrel
  rw [xK] at IL
  obtain ⟨Bn,hK,u',hLF⟩:=IL
  have d0:=(Bn.cell (p:=⟨bt,0,none⟩) (by show bt<_;omega)).trans k0'
  have d1:=(Bn.cell (p:=⟨bb,0,none⟩) (by show bb<_;omega)).trans k1'
  have d2:=(Bn.cell (p:=⟨bg,0,none⟩) (by show bg<_;omega)).trans k2'
  have d3:=(Bn.cell (p:=⟨bp,0,none⟩) (by show bp<_;omega)).trans k3'
  have d4:=(Bn.cell (p:=⟨bp,1,none⟩) (by show bp<_;omega)).trans k4'
  have d5:=(Bn.cell (p:=⟨bp,2,none⟩) (by show bp<_;omega)).trans k5'
  have d6:=(Bn.cell (p:=⟨bn,0,none⟩) (by show bn<_;omega)).trans k6'
  by_cases hlt:j<h
  ·have kB:=kBl wr (Yf.trans Bn)
   go_wp2_with fail
   refine kB.mono ?_
   rintro e w2 ⟨s2,rfl,b2,ct2⟩
   have hl2:=hLF.below b2
   obtain ⟨sb,so,sn,sc,rfl,hsb,hsB⟩:=ct2.sl
   obtain ⟨a1,a2⟩:=hl2.at_ hlt
   have hBr:=Yf.trans Bn
   have hsr:B≤wr.heap.size:=Nat.le_trans Yf.size Bn.size |>Nat.le_trans hB
   obtain ⟨w3,hw3⟩: ∃w3,w2.setCell ⟨g,j,none⟩ (.slice (some ⟨sb,so,none⟩) sn sc)=w3:=⟨_,rfl⟩
   have hl3:=hl2.set (ct2.mono hsr) hlt
   rw [hw3] at hl3
   have ne3: ∀b:Nat,b≠g→w3.heap[b]?=w2.heap[b]?:=fun b hb=>by rw [←hw3];exact Below.heap_setCell _ _ _ _ hb
   have e0: ∀(b q:Nat) x,b<B→wr.cell? ⟨b,q,none⟩=some x→w3.cell? ⟨b,q,none⟩=some x:=fun b q x hb hx=>(World.cell?_of_block (w:=w2) (ne3 b (by omega))).trans ((Below.cell b2 (p:=⟨b,q,none⟩) (by show b<_;omega)).trans hx)
   have d0:=e0 _ _ _ bB.1 d0
   have d1:=e0 _ _ _ bB.2.1 d1
   have d6:=e0 _ _ _ bB.2.2.2.2 d6
   go_upto_region 5 with fail
   try rw [hw3]
   have kT:=kBt w3 ((j:Int)+1) 0 ((h:Int)-1)
   have kv:(decide ((0:Int)≤(j:Int)+1)&&decide ((j:Int)+1≤(h:Int)-1))=decide (j+1<h):=by
    rw [decide_eq_true (show (0:Int)≤(j:Int)+1 by omega),Bool.true_and]
    by_cases q:j+1<h
    ·rw [decide_eq_true q,decide_eq_true (by omega)]
    ·rw [decide_eq_false q,decide_eq_false (by omega)]
   rw [kv] at kT
   clear kv
   go_wp2_with fail
   refine kT.mono ?_
   rintro e w4 ⟨rfl,b4⟩
   have hl4:=hl3.below b4
   have ne4: ∀b:Nat,b≠g→b<w1.heap.size→w4.heap[b]?=w1.heap[b]?:=fun b hb hs=>by
    have s1:b<wr.heap.size:=Nat.lt_of_lt_of_le hs Bn.size
    have s2:b<w2.heap.size:=Nat.lt_of_lt_of_le s1 b2.size
    have s3:b<w3.heap.size:=by rw [←hw3];simpa using s2
    rw [b4.block b s3,ne3 b hb,b2.block b s1,hK b hb hs]
   have hB4:Below B w1 w4:=by
    refine Bn.trans ?_
    have q2:Below B wr w2:=b2.mono hsr
    have q3:Below B w2 w3:=by rw [←hw3];exact (Below.refl _ _).setCell hgB _
    have hs3:B≤w3.heap.size:=by rw [←hw3];simp;exact Nat.le_trans hsr b2.size
    exact (q2.trans q3).trans (b4.mono hs3)
   by_cases G3:j+1<h
   ·have dl:decide (j+1<h)=true:=decide_eq_true G3
    have kk: ∀(b:Nat) cur f,w1.heap[b]?=some (.cells cur 100 f)→w4.heap[b]?=some (.cells cur 100 f):=fun b cur f q=>(ne4 b (fun e=>by obtain ⟨cur',f',q'⟩:=aAN;subst e;rw [q] at q';cases q') (Array.getElem?_eq_some_iff.1 q).1).trans q
    have cu:=(aAM (j+1) G3).keep kk
    have xu:w4.cell? ⟨g1,j+1,none⟩=some (u (j+1)):=(World.cell?_of_block (w:=w1) (ne4 g1 (by omega) aAO)).trans (hcw (j+1) G3)
    obtain ⟨ub,uo,un,uc,hue,_,_⟩:=cu.sl
    rw [hue] at xu cu
    obtain ⟨x1,x2⟩:=hl4.at_ hlt
    have d6':=(Below.cell b4 (p:=⟨bn,0,none⟩) (by show bn<_;have:=hl3.1.lt g rfl;omega)).trans d6
    have wj:IntKind.i64.wrap ((j:Int)+1)=(j:Int)+1:=IntWalk.i64_in _ (by omega)
    obtain ⟨w5,hw5⟩: ∃w5,w4.setCell ⟨g,j,none⟩ (.slice (some ⟨ub,uo,none⟩) un uc)=w5:=⟨_,rfl⟩
    have hl5:=hl4.set cu hlt
    rw [hw5] at hl5
    rw [dl]
    clear kB kT kBl kBt
    go_wp2_with fail
    refine ⟨⟨j+1,hlt,by simp,?_⟩,by simp [intOf];omega⟩
    rw [xK]
    have ne5: ∀b:Nat,b≠g→w5.heap[b]?=w4.heap[b]?:=fun b hb=>by rw [←hw5];exact Below.heap_setCell _ _ _ _ hb
    have fin:Below B w1 w5∧(∀b:Nat,b≠g→b<w1.heap.size→w5.heap[b]?=w1.heap[b]?)∧ ∃u',LF w5 B (.slice (some ⟨g,0,none⟩) h cap) h u' (fun i=>if i<j+1 then QN h bl ρ i else ρ i):=by
     refine ⟨hB4.trans (by rw [←hw5];exact (Below.refl _ _).setCell hgB _),fun b hb hs=>(ne5 b hb).trans (ne4 b hb hs),_,hl5.congr fun i hi=>?_⟩
     by_cases xR:i=j
     ·subst xR;rw [if_pos rfl,if_pos (by omega)];unfold QN;rw [if_pos G3]
     ·rw [if_neg xR,if_neg xR]
      by_cases h3:i<j
      ·rw [if_pos h3,if_pos (by omega)]
      ·rw [if_neg h3,if_neg (by omega)]
    exact fin
   ·have dl:decide (j+1<h)=false:=decide_eq_false G3
    rw [dl]
    clear kB kT kBl kBt
    go_wp2_with fail
    refine ⟨⟨j+1,hlt,by simp,?_⟩,by simp [intOf];omega⟩
    rw [xK]
    refine ⟨hB4,ne4,_,hl4.congr fun i hi=>?_⟩
    by_cases xR:i=j
    ·subst xR;rw [if_pos rfl,if_pos (by omega)];unfold QN;rw [if_neg G3]
    ·rw [if_neg xR]
     by_cases h3:i<j
     ·rw [if_pos h3,if_pos (by omega)]
     ·rw [if_neg h3,if_neg (by omega)]
  ·obtain rfl:j=h:=by omega
   go_wp2_with fail
   go_end0
   exact ⟨⟨_,rfl⟩,Yf.trans Bn,u',hLF.congr fun i hi=>by simp [hi]⟩
end Go.Proofs.YtobkkblijfhpoaaGreatDoor.Rp

namespace Go.Proofs.YtobkkblijfhpoaaGreatDoor.Rp
open Go Go.Proofs Go.RowKit Go.Proofs.YtobkkblijfhpoaaGreatDoor.D4 Go.Proofs.YtobkkblijfhpoaaGreatDoor.Pm
set_option linter.unusedVariables false
theorem ak4:(Go.Proofs.Tryz.prog.info? 100).map (fun i=>(i.zero,i.size,i.bytes))=some (some (.agg #[.int .i64 0,.int .i64 0,.int .i64 0,.int .i64 0]),4,32):=by kernel_rfl
theorem Ct.cells{W:World}{B:Nat}{row:List Value}{v:Value}(h:Ct W B row v): ∃b o n c,v= .slice (some ⟨b,o,none⟩) n c∧row.length=n*4∧n≤c∧c≤maxLen∧ ∀(j:Nat) x,row[j]?=some x→W.cell? ((⟨b,o,none⟩:Addr).add j)=some x:=by
 obtain ⟨b,o,n,c,cur,f,h1,h2,h3,h4,h5,h6,h7,h8,h9⟩:=h
 refine ⟨b,o,n,c,h1,h2,h3,h4,fun j x hx=>?_⟩
 rw [show ((⟨b,o,none⟩:Addr).add j)=⟨b,o+j,none⟩ from by unfold Addr.add;split<;>simp_all,cell_of_row _ _ _ _ _ _ h6]
 rw [←h9,List.getElem?_take] at hx
 split at hx
 ·rw [List.getElem?_drop] at hx;simpa using hx
 ·cases hx
def kE(ρ:Nat→List Value)(j:Nat):List Value:=((List.range j).map ρ).flatten
theorem Lm{ρ:Nat→List Value}{n:Nat}: ∀{j:Nat},(∀i,i<j→(ρ i).length=n)→(kE ρ j).length=j*n
 | 0,_=>by simp [kE]
 | j+1,h=>by
  have ih:=Lm (ρ:=ρ) (n:=n) (j:=j) fun i hi=>h i (by omega)
  unfold kE at ih ⊢
  rw [List.range_succ,List.map_append,List.flatten_append,List.length_append,ih,Nat.add_mul]
  simp [h j (by omega)]
theorem Ib(ρ:Nat→List Value)(j:Nat):kE ρ (j+1)=kE ρ j++ρ j:=by
 unfold kE;rw [List.range_succ,List.map_append,List.flatten_append];simp
theorem y7{W:World}{B e size n:Nat}{v:Value}{xs:List Value}(h:W.ownsRow B e size v n xs): ∃a n c,v= .slice a n c:=by
 rcases h.2 with ⟨rfl,_⟩ | ⟨g,cap,cur,rfl,_⟩
 ·exact ⟨_,_,_,rfl⟩
 ·exact ⟨_,_,_,rfl⟩
theorem qQ{W W':World}{B e size n k:Nat}{v:Value}{xs:List Value}(h:W.ownsRow B e size v n xs)(hk: ∀b:Nat,b≠k→W'.heap[b]?=W.heap[b]?)(hkB:k<B):W'.ownsRow B e size v n xs:=
 ⟨h.1,h.2.imp id fun ⟨g,cap,cur,q1,q2,q3,q4⟩=>⟨g,cap,cur,q1,q2,(hk g (by omega)).trans q3,q4⟩⟩
theorem AE{W:World}{B B' e size n:Nat}{v:Value}{xs:List Value}(h:W.ownsRow B e size v n xs)(hB:B'≤B):W.ownsRow B' e size v n xs:=
 ⟨h.1,h.2.imp id fun ⟨g,cap,cur,q1,q2,q3⟩=>⟨g,cap,cur,q1,Nat.le_trans hB q2,q3⟩⟩
theorem abF{w:World}{b:Nat}{x y z:Value}{t:TypeId}{f:Nat×Nat}(h:w.heap[b]?=some (.cells #[x,y,z] t f))(x' y' z':Value):(((w.setCell ⟨b,0,none⟩ x').setCell ⟨b,1,none⟩ y').setCell ⟨b,2,none⟩ z').heap[b]?=some (.cells #[x',y',z'] t f):=
 Go.Lib.heap_setCell_same (Go.Lib.heap_setCell_same (Go.Lib.heap_setCell_same h x') y') z'
theorem oW{w:World}{b k:Nat}(x' y' z':Value)(h:k≠b):(((w.setCell ⟨b,0,none⟩ x').setCell ⟨b,1,none⟩ y').setCell ⟨b,2,none⟩ z').heap[k]?=w.heap[k]?:=by
 rw [Below.heap_setCell _ _ _ _ h,Below.heap_setCell _ _ _ _ h,Below.heap_setCell _ _ _ _ h]
theorem sK{w:World}{b:Nat}(x' y' z':Value):Below b w (((w.setCell ⟨b,0,none⟩ x').setCell ⟨b,1,none⟩ y').setCell ⟨b,2,none⟩ z'):=
 ⟨rfl,rfl,rfl,by simp,fun k hk=>oW _ _ _ (by omega)⟩
theorem tQ{w:World}{b:Nat}{x y z:Value}{t:TypeId}{f:Nat×Nat}(h:w.heap[b]?=some (.cells #[x,y,z] t f)):w.cell? ⟨b,0,none⟩=some x∧w.cell? ⟨b,1,none⟩=some y∧w.cell? ⟨b,2,none⟩=some z:=
 ⟨by rw [cell_of_row _ _ _ _ _ _ h];rfl,by rw [cell_of_row _ _ _ _ _ _ h];rfl,by rw [cell_of_row _ _ _ _ _ _ h];rfl⟩
theorem AG(w:World)(o:Obj):(w.alloc o).heap[w.heap.size]?=some o:=by show (w.heap.push o)[w.heap.size]?=some o;simp
theorem y8(w:World)(o:Obj):(w.alloc o).heap.size=w.heap.size+1:=by show (w.heap.push o).size=_;simp
theorem G4{w:World}{b i:Nat}{x y z:Value}{t:TypeId}(h:w.heap[b]?=some (.cells #[x,y,z] t (0,0))):w.frozen? ⟨b,i,none⟩=false:=by simp [World.frozen?,h]
set_option maxRecDepth 100000 in
set_option maxHeartbeats 4000000 in
theorem QS(w:World)(B g cap h gw:Nat)(u:Nat→Value)(ρ:Nat→List Value)(hl:LF w B (.slice (some ⟨g,0,none⟩) h cap) h u ρ)(h0:0<h)(hh:h≤60)(hgw:gw≤160)(hR: ∀i,i<h→(ρ i).length=gw*4)(x9: ∀i,i<h→ ∀v∈ρ i,v.oneCell'=true):
  Calls Go.Proofs.Tryz.prog 191 #[.slice (some ⟨g,0,none⟩) h cap] w fun e W=> ∃s,e= .returned (.agg #[.int .i64 gw,.int .i64 h,s])∧Below w.heap.size w W∧W.ownsRow w.heap.size 100 4 s (h*gw) (kE ρ h):=by
 obtain ⟨io,hio,hz0,hz1,hz2⟩:=info_parts ak4
 have hg:g<w.heap.size:=(hl.1.lt g rfl).2
 obtain ⟨a0,_⟩:=hl.at_ h0
 obtain ⟨ub,uo,un,uc,hu0,hul,hun,huc,atx⟩:=(hl.2 0 h0).cells
 have aAT:un=gw:=by have:=hR 0 h0;omega
 subst aAT
 rw [hu0] at a0
 have i1:(0:Int)<(h:Int):=by omega
 go_enter Go.Proofs.Tryz.func191,Go.Proofs.Tryz.ntmps191
 go_wp2_with fail
 obtain ⟨nb,lK⟩: ∃nb,w.heap.size=nb:=⟨_,rfl⟩
 obtain ⟨w1,r8⟩: ∃w1,((w.alloc (.cells #[.int .i64 0,.int .i64 0,.slice none 0 0] 34)).alloc (.cells #[.int .i64 un,.int .i64 h,.slice none 0 0] 34))=w1:=⟨_,rfl⟩
 have K0:w1.heap[nb]?=some (.cells #[.int .i64 0,.int .i64 0,.slice none 0 0] 34 (0,0)):=by subst r8;subst lK;exact (Below.heap_alloc _ _ _ (by simp)).trans (AG _ _)
 have K1:w1.heap[nb+1]?=some (.cells #[.int .i64 un,.int .i64 h,.slice none 0 0] 34 (0,0)):=by
  subst r8;subst lK
  have:=AG (w.alloc (.cells #[.int .i64 0,.int .i64 0,.slice none 0 0] 34)) (.cells #[.int .i64 un,.int .i64 h,.slice none 0 0] 34)
  rw [y8] at this;exact this
 have hb1:Below w.heap.size w w1:=by subst r8;exact ((Below.refl _ w).alloc (Nat.le_refl _) _).alloc (by simp) _
 have hs1:w1.heap.size=nb+2:=by subst r8;simp [←lK]
 rw [r8,lK]
 clear r8
 have J6:=hl.below hb1
 obtain ⟨Rel,xK⟩: ∃Rel:Nat→World→Prop,Rel=fun j wr=>Below nb w wr∧nb+2≤wr.heap.size∧wr.heap[nb]?=some (.cells #[.int .i64 0,.int .i64 0,.slice none 0 0] 34 (0,0))∧ ∃s,wr.heap[nb+1]?=some (.cells #[.int .i64 un,.int .i64 h,s] 34 (0,0))∧wr.ownsRow (nb+2) 100 4 s (j*un) (kE ρ j):=⟨_,rfl⟩
 have hR0:Rel 0 w1:=by rw [xK];exact ⟨by rw [←lK];exact hb1,by omega,K0,_,K1,by rw [Nat.zero_mul];exact World.ownsRow_nil ..⟩
 clear K0 K1
 go_loopw [15] (fun i wr=> ∃j:Nat,j≤h∧i= .int .i64 j∧Rel j wr) (fun i _=>h-(intOf i).toNat)
 case atStart=>exact ⟨0,Nat.zero_le _,rfl,hR0⟩
 case round=>
  obtain ⟨j,hj,rfl,IL⟩:=hrel
  rw [xK] at IL
  obtain ⟨hB,hsz,K0,s,K1,hown⟩:=IL
  have hlr:=hl.below (show Below w.heap.size w wr by rw [lK];exact hB)
  by_cases hlt:j<h
  ·obtain ⟨a1,_⟩:=hlr.at_ hlt
   obtain ⟨vb,vo,vn,vc,hu,xS,hvn,hvc,aty⟩:=(hlr.2 j hlt).cells
   have aAU:vn=un:=by have:=hR j hlt;omega
   subst aAU
   rw [hu] at a1
   have c2:wr.cell? ⟨nb+1,2,none⟩=some s:=by rw [cell_of_row _ _ _ _ _ _ K1];rfl
   have f2: ∀i,wr.frozen? ⟨nb+1,i,none⟩=false:=fun i=>G4 K1
   have i2:(j:Int)<(h:Int):=by omega
   have hh9:vn*4=(ρ j).length:=xS.symm
   have hj9:j*vn+vn≤9600:=by
    have:(j+1)*vn≤60*160:=Nat.mul_le_mul (by omega) hgw
    rw [Nat.add_mul,Nat.one_mul] at this;exact this
   have ho9: ∀x∈ρ j,x.oneCell'=true:=x9 j hlt
   have hlen:=(Lm (ρ:=ρ) (n:=vn*4) (j:=j) fun i hi=>hR i (by omega))
   clear hR hR0 J6 hl atx a0 hu0
   go_wp2_with (at_builtin;refine wpList_append_own _ rfl _ _ 32 rfl (nb+2) 100 io _ 4 32 Go.Proofs.Tryz.underlying32 hio hz0 hz1 hz2 rfl (by decide) _ _ _ rfl hown ⟨vb,vo,none⟩ vn vc (ρ j) rfl xS aty ho9 (by unfold maxLen;omega) (by omega) hsz ?_;intro v8 w8 QM hg8 _;obtain ⟨a8,n8,m8,rfl⟩:=y7 QM;have hB8:=(Below.refl (nb+2) wr).grown hg8 hsz (fun k e=>(hown.lt k e).1);have K8:=(hB8.block (nb+1) (by omega)).trans K1;have f8: ∀i,w8.frozen? ⟨nb+1,i,none⟩=false:=fun i=>G4 K8;have c8:w8.cell? ⟨nb+1,2,none⟩=some s:=by rw [cell_of_row _ _ _ _ _ _ K8];rfl)
   refine ⟨⟨j+1,hlt,by simp,?_⟩,by simp [intOf];omega⟩
   rw [xK]
   have hk8: ∀b:Nat,b≠nb+1→(w8.setCell ⟨nb+1,2,none⟩ (.slice a8 n8 m8)).heap[b]?=w8.heap[b]?:=fun b hb=>Below.heap_setCell _ _ _ _ hb
   refine ⟨(hB.trans (hB8.mono (Nat.le_add_right nb 2))).setCell (by show nb≤nb+1;omega) _,by simp;exact Nat.le_trans hsz hB8.size,((hk8 nb (by omega)).trans (hB8.block nb (by omega))).trans K0,_,Go.Lib.heap_setCell_same K8 _,?_⟩
   rw [Ib,Nat.add_mul,Nat.one_mul]
   exact qQ QM hk8 (by omega)
  ·obtain rfl:j=h:=by omega
   have c0:wr.cell? ⟨nb+1,0,none⟩=some (.int .i64 un):=by rw [cell_of_row _ _ _ _ _ _ K1];rfl
   have c1:wr.cell? ⟨nb+1,1,none⟩=some (.int .i64 j):=by rw [cell_of_row _ _ _ _ _ _ K1];rfl
   have c2:wr.cell? ⟨nb+1,2,none⟩=some s:=by rw [cell_of_row _ _ _ _ _ _ K1];rfl
   have f0: ∀i,wr.frozen? ⟨nb,i,none⟩=false:=fun i=>G4 K0
   have d0:wr.cell? ⟨nb,0,none⟩=some (.int .i64 0):=by rw [cell_of_row _ _ _ _ _ _ K0];rfl
   have d1:wr.cell? ⟨nb,1,none⟩=some (.int .i64 0):=by rw [cell_of_row _ _ _ _ _ _ K0];rfl
   have d2:wr.cell? ⟨nb,2,none⟩=some (.slice none 0 0):=by rw [cell_of_row _ _ _ _ _ _ K0];rfl
   obtain ⟨a8,n8,c8,rfl⟩:=y7 hown
   go_wp2_with fail
   obtain ⟨W,hW⟩: ∃W,((wr.setCell ⟨nb,0,none⟩ (.int .i64 un)).setCell ⟨nb,1,none⟩ (.int .i64 j)).setCell ⟨nb,2,none⟩ (.slice a8 n8 c8)=W:=⟨_,rfl⟩
   have k3:W.heap[nb]?=some (.cells #[.int .i64 un,.int .i64 j,.slice a8 n8 c8] 34 (0,0)):=by rw [←hW];exact abF K0 _ _ _
   obtain ⟨e0,e1,e2⟩:=tQ k3
   have hk: ∀b:Nat,b≠nb→W.heap[b]?=wr.heap[b]?:=fun b hb=>by rw [←hW];exact oW _ _ _ hb
   have nJ:Below nb wr W:=by rw [←hW];exact sK _ _ _
   rw [hW]
   refine bodyPost_ret (results_cell_row rfl _ _ nb 34 _ (0,0) _ rfl k3 Go.Proofs.Tryz.underlying34 rfl (by kernel_rfl)) rfl ?_
   exact ⟨_,rfl,by rw [lK];exact hB.trans nJ,by rw [lK];exact AE (qQ hown hk (by omega)) (by omega)⟩
end Go.Proofs.YtobkkblijfhpoaaGreatDoor.Rp

namespace Go.Proofs.YtobkkblijfhpoaaGreatDoor.Row
open Go.ChangeShapes Go.WideShapes Go.ChangeAt Go.RowKit
open Go.Proofs.YtobkkblijfhpoaaGreatDoor.D4

section
variable {P : Program} {ops : Array Oper} {rest : List Oper} {o : Oper} {a : Act} {w : World} {Q : Exit → Act → World → Prop}

def awB:TypeDesc→Bool | .struct _ | .array _ _=>true | _=>false

end

/-! ### one block is written, nothing else -/
structure Bo (g:Nat) (w w':World):Prop where
 os:w'.os=w.os
 tape:w'.tape=w.tape
 output:w'.output=w.output
 size:w.heap.size≤w'.heap.size
 block: ∀k,k<w.heap.size→k≠g→w'.heap[k]?=w.heap[k]?
theorem Bo.refl(g:Nat)(w:World):Bo g w w:=⟨rfl,rfl,rfl,Nat.le_refl _,fun _ _ _=>rfl⟩
theorem Bo.trans{g:Nat}{a b c:World}(h:Bo g a b)(k:Bo g b c):Bo g a c:=
 ⟨k.os.trans h.os,k.tape.trans h.tape,k.output.trans h.output,Nat.le_trans h.size k.size,fun i hi hg=>(k.block i (Nat.lt_of_lt_of_le hi h.size) hg).trans (h.block i hi hg)⟩
theorem Bo.below{g B:Nat}{a b:World}(h:Bo g a b)(hB:B≤g)(hs:B≤a.heap.size):Below B a b:=⟨h.os,h.tape,h.output,h.size,fun k hk=>h.block k (by omega) (by omega)⟩
theorem Bo.cell{g:Nat}{a b:World}(h:Bo g a b){k o:Nat}{v:Value}(hc:a.cell? ⟨k,o,none⟩=some v)(hg:k≠g):b.cell? ⟨k,o,none⟩=some v:=
 (World.cell?_of_block (w:=a) (h.block k (TN hc) hg)).trans hc
theorem Bo.set(g o:Nat)(w:World)(v:Value):Bo g w (w.setCell ⟨g,o,none⟩ v):=
 ⟨rfl,rfl,rfl,by simp [World.setCell],fun k _ hg=>Below.heap_setCell _ _ _ _ hg⟩
theorem Bo.own{g:Nat}{a b:World}(h:Bo g a b){B:Nat}{e:TypeId}{v:Value}{xs:List Value}(ho:Own a B e v xs)(hg:g<B):Own b B e v xs:=by
 obtain ⟨h1,ho⟩:=ho
 refine ⟨h1,?_⟩
 rcases ho with ho | ⟨k,cap,cur,h2,h3,h4,h5⟩
 ·exact .inl ho
 ·refine .inr ⟨k,cap,cur,h2,h3,?_,h5⟩
  have hk:k<a.heap.size:=by
   rcases Nat.lt_or_ge k a.heap.size with h' | h'
   ·exact h'
   ·rw [Array.getElem?_eq_none h'] at h4;cases h4
  rw [h.block k hk (by omega)];exact h4
/-! ### rows made from a function -/
def lD(n:Nat)(f:Nat→Value):List Value:=(List.range n).map f
def upd{α:Type}(f:Nat→α)(i:Nat)(v:α):Nat→α:=fun j=>if j=i then v else f j
/-! ### loads and stores of whole rows under names that simp does not open -/
section
variable {P : Program}
theorem tR{fn:Func}{p q:Tmp}{ty:TypeId}(h:fn.results= #[.cell p ty,.tmp q])(tmps:Array Value)(w:World)(g:Nat)(t:TypeId)(cs:Array Value)(fr:Nat×Nat)(d:TypeDesc)
  (hp:tmps.getD p undef= .pointer (some ⟨g,0,none⟩)) (hg:w.heap[g]?=some (.cells cs t fr)) (hu:P.underlying ty=some d) (hd:awB d=true) (hi:(P.info? ty).map (·.size)=some cs.size):
  (results fn tmps).run P w= .ok (.tuple #[.agg cs,tmps.getD q undef]) w:=by
 have hp':tmps[p]?.getD undef= .pointer (some ⟨g,0,none⟩):=by simpa using hp
 simp [results,h,hp',asAddr,run_loadVar_row w g t ty cs fr d hg hu (by cases d<;>simp_all [awB]) hi]
theorem Bo.setRow(g:Nat)(w:World)(cs:Array Value):Bo g w (w.setRow g cs):=
 ⟨rfl,rfl,rfl,by simp [World.setRow],fun k _ hg=>setRow_other _ _ _ _ hg⟩
end
end Go.Proofs.YtobkkblijfhpoaaGreatDoor.Row

namespace Go.Proofs.YtobkkblijfhpoaaGreatDoor.Rp
open Go Go.Proofs Go.RowKit Go.Proofs.YtobkkblijfhpoaaGreatDoor.D4 Go.Proofs.YtobkkblijfhpoaaGreatDoor.Pm
set_option linter.unusedVariables false
set_option maxRecDepth 100000 in
set_option maxHeartbeats 4000000 in
theorem Ln(w:World)(fk:Nat)(c0 c1 c2 c3 c4:Value)(gw gh b o n c:Nat)(p0 p1 p2:Int)(R R':Nat→List Value)(h1:1≤gw∧gw≤160)(h2:1≤gh∧gh≤60)
  (hR: ∀i,i<gh→(R' i).length=gw*4) (x9: ∀i,i<gh→ ∀v∈R' i,v.oneCell'=true)
  (kG: ∀W,Below w.heap.size w W→Calls Go.Proofs.Tryz.prog 227 #[.agg #[.int .i64 gw,.int .i64 gh,.slice (some ⟨b,o,none⟩) n c]] W fun e W'=>e= .returned (.int .i64 0)∧Below W.heap.size W W')
  (kP: ∀W,Below w.heap.size w W→Calls Go.Proofs.Tryz.prog 228 #[.agg #[.int .i64 p0,.int .i64 p1,.int .i64 p2]] W fun e W'=>e= .returned (.int .i64 0)∧Below W.heap.size W W')
  (kR: ∀W,Below w.heap.size w W→Calls Go.Proofs.Tryz.prog 180 #[.agg #[.int .i64 gw,.int .i64 gh,.slice (some ⟨b,o,none⟩) n c]] W fun e W'=> ∃v vs,e= .returned v∧Below W.heap.size W W'∧oV W' W.heap.size v vs ((List.range gh).map R))
  (kF: ∀W v vs B,w.heap.size≤B→B≤W.heap.size→Below w.heap.size w W→oV W B v vs ((List.range gh).map R)→Calls Go.Proofs.Tryz.prog fk #[v,c0,c1,c2,c3,c4] W fun e W'=>(∃x,e= .returned x)∧Below B W W'∧ ∃u,LF W' B v gh u R')
  (hcf: ∀(a:Array Value) (W:World),(callFunc fk a).run Go.Proofs.Tryz.prog W= .ok (.enter fk a) W)
  (kM: ∀W v i B,B≤W.heap.size→Ct W B (R' i) v→i<gh→Calls Go.Proofs.Tryz.prog 190 #[v] W fun e W'=> ∃s,e= .returned s∧Below W.heap.size W W'∧Ct W' W.heap.size (R' i) s):
  Calls Go.Proofs.Tryz.prog 183 #[.agg #[.int .i64 gw,.int .i64 gh,.slice (some ⟨b,o,none⟩) n c],.bool true,.agg #[.int .i64 p0,.int .i64 p1,.int .i64 p2],.func (.func fk) #[] #[c0,c1,c2,c3,c4]] w fun e W=> ∃s,e= .returned (.tuple #[.agg #[.int .i64 gw,.int .i64 gh,s],.int .i64 0])∧Below w.heap.size w W∧W.ownsRow w.heap.size 100 4 s (gh*gw) (kE R' gh):=by
 go_enter Go.Proofs.Tryz.func183,Go.Proofs.Tryz.ntmps183
 go_wp2_with fail
 obtain ⟨nb,lK⟩: ∃nb,w.heap.size=nb:=⟨_,rfl⟩
 obtain ⟨w1,r8⟩: ∃w1,(((w.alloc (.cells #[.int .i64 gw,.int .i64 gh,.slice (some ⟨b,o,none⟩) n c] 34)).alloc (.cells #[.int .i64 p0,.int .i64 p1,.int .i64 p2] 36)).alloc (.cells #[.int .i64 0,.int .i64 0,.slice none 0 0] 34))=w1:=⟨_,rfl⟩
 have hs1:w1.heap.size=nb+3:=by subst r8;simp [←lK]
 have hb1:Below nb w w1:=by subst r8;subst lK;exact (((Below.refl _ w).alloc (Nat.le_refl _) _).alloc (by simp) _).alloc (by simp;omega) _
 have K2:w1.heap[nb+2]?=some (.cells #[.int .i64 0,.int .i64 0,.slice none 0 0] 34 (0,0)):=by
  subst r8;subst lK
  have:=AG ((w.alloc (.cells #[.int .i64 gw,.int .i64 gh,.slice (some ⟨b,o,none⟩) n c] 34)).alloc (.cells #[.int .i64 p0,.int .i64 p1,.int .i64 p2] 36)) (.cells #[.int .i64 0,.int .i64 0,.slice none 0 0] 34)
  rw [y8,y8] at this;exact this
 have K1:w1.heap[nb+1]?=some (.cells #[.int .i64 p0,.int .i64 p1,.int .i64 p2] 36 (0,0)):=by
  subst r8;subst lK
  have:=AG (w.alloc (.cells #[.int .i64 gw,.int .i64 gh,.slice (some ⟨b,o,none⟩) n c] 34)) (.cells #[.int .i64 p0,.int .i64 p1,.int .i64 p2] 36)
  rw [y8] at this
  exact (Below.heap_alloc _ _ _ (by simp)).trans this
 have K0:w1.heap[nb]?=some (.cells #[.int .i64 gw,.int .i64 gh,.slice (some ⟨b,o,none⟩) n c] 34 (0,0)):=by
  subst r8;subst lK
  exact (Below.heap_alloc _ _ _ (by simp;omega)).trans ((Below.heap_alloc _ _ _ (by simp)).trans (AG _ _))
 rw [r8]
 clear r8
 rw [lK] at kG kP kR kF
 rw [lK]
 refine (kG _ hb1).mono ?_
 rintro e W1 ⟨rfl,b1⟩
 obtain ⟨d0,d1,d2⟩:=tQ ((b1.block _ (by omega)).trans K1)
 go_wp2_with fail
 have B1:Below nb w W1:=hb1.trans (b1.mono (by omega))
 refine (kP _ B1).mono ?_
 rintro e W2 ⟨rfl,b2⟩
 have X2:Below w1.heap.size w1 W2:=b1.trans (b2.mono b1.size)
 clear d0 d1 d2
 obtain ⟨d0,d1,d2⟩:=tQ ((X2.block _ (by omega)).trans K0)
 go_wp2_with fail
 have B2:Below nb w W2:=hb1.trans (X2.mono (by omega))
 refine (kR _ B2).mono ?_
 rintro e W3 ⟨v3,vs3,rfl,b3,L3⟩
 have X3:Below w1.heap.size w1 W3:=X2.trans (b3.mono X2.size)
 clear d0 d1 d2
 have kF':=kF W3 v3 vs3 w1.heap.size (by omega) X3.size (hb1.trans (X3.mono (by omega))) (L3.mono X2.size)
 clear kF kG kP kR
 go_wp2_with fail
 refine kF'.mono ?_
 rintro e W4 ⟨⟨x4,rfl⟩,b4,u4,l4⟩
 have X4:Below w1.heap.size w1 W4:=X3.trans b4
 clear kF' L3
 obtain ⟨g,cap,rfl,hgB,hgs⟩:=l4.form (by omega)
 obtain ⟨Rel,xK⟩: ∃Rel:World→Prop,Rel=fun wr=>Below w1.heap.size w1 wr∧ ∃u,LF wr w1.heap.size (.slice (some ⟨g,0,none⟩) gh cap) gh u R':=⟨_,rfl⟩
 have hR0:Rel W4:=by rw [xK];exact ⟨X4,u4,l4⟩
 clear l4
 go_wp2_with fail
 go_loopw [36] (fun i wr=> ∃j:Nat,j≤gh∧i= .int .i64 j∧Rel wr) (fun i _=>gh-(intOf i).toNat)
 case atStart=>exact ⟨0,Nat.zero_le _,rfl,hR0⟩
 case round=>
  obtain ⟨j,hj,rfl,IL⟩:=hrel
  have awC:=IL
  rw [xK] at awC
  obtain ⟨hX,u,hl⟩:=awC
  by_cases hlt:j<gh
  ·obtain ⟨a1,a2⟩:=hl.at_ hlt
   have hm:=kM wr (u j) j w1.heap.size hX.size (hl.2 j hlt) hlt
   obtain ⟨ub,uo,un,uc,hu,hub,huB⟩:=(hl.2 j hlt).sl
   rw [hu] at a1 hm
   have i2:(j:Int)<(gh:Int):=by omega
   have i0:(0:Int)≤(j:Int):=by omega
   clear kM
   go_wp2_with fail
   refine hm.mono ?_
   rintro e w5 ⟨s5,rfl,b5,ct5⟩
   have hl5:=hl.below b5
   obtain ⟨y1,y2⟩:=hl5.at_ hlt
   obtain ⟨sb,so,sn,sc,rfl,hsb,hsB⟩:=ct5.sl
   have hl6:=hl5.set (ct5.mono hX.size) hlt
   go_wp2_with fail
   refine ⟨⟨j+1,hlt,by simp,?_⟩,by simp [intOf];omega⟩
   rw [xK]
   have q5:Below w1.heap.size wr w5:=b5.mono hX.size
   refine ⟨(hX.trans q5).setCell hgB _,_,hl6.congr fun i hi=>?_⟩
   by_cases xR:i=j
   ·subst xR;rw [if_pos rfl]
   ·rw [if_neg xR]
  ·obtain rfl:j=gh:=by omega
   have hgw:=QS wr w1.heap.size g cap j gw u R' hl (by omega) h2.2 h1.2 hR x9
   clear kM
   go_wp2_with fail
   refine hgw.mono ?_
   rintro e w6 ⟨s6,rfl,b6,o6⟩
   have X6:Below w1.heap.size w1 w6:=hX.trans (b6.mono hX.size)
   have K6:=(X6.block (nb+2) (by omega)).trans K2
   obtain ⟨e0,e1,e2⟩:=tQ K6
   have f6: ∀i,w6.frozen? ⟨nb+2,i,none⟩=false:=fun i=>G4 K6
   obtain ⟨a8,n8,m8,rfl⟩:=y7 o6
   clear hgw
   go_wp2_with fail
   obtain ⟨W,hW⟩: ∃W,((w6.setCell ⟨nb+2,0,none⟩ (.int .i64 gw)).setCell ⟨nb+2,1,none⟩ (.int .i64 j)).setCell ⟨nb+2,2,none⟩ (.slice a8 n8 m8)=W:=⟨_,rfl⟩
   have k3:W.heap[nb+2]?=some (.cells #[.int .i64 gw,.int .i64 j,.slice a8 n8 m8] 34 (0,0)):=by rw [←hW];exact abF K6 _ _ _
   have hk: ∀b:Nat,b≠nb+2→W.heap[b]?=w6.heap[b]?:=fun b hb=>by rw [←hW];exact oW _ _ _ hb
   have nJ:Below nb w6 W:=by rw [←hW];exact (sK _ _ _).mono (by omega)
   rw [hW]
   refine bodyPost_ret (Row.tR rfl _ _ (nb+2) 34 _ (0,0) _ rfl k3 Go.Proofs.Tryz.underlying34 rfl (by kernel_rfl)) rfl ?_
   have hwr:nb+3≤wr.heap.size:=by have:=hX.size;omega
   exact ⟨_,rfl,by rw [lK];exact (hb1.trans (X6.mono (by omega))).trans nJ,AE (qQ o6 hk (by omega)) (by omega)⟩
end Go.Proofs.YtobkkblijfhpoaaGreatDoor.Rp

namespace Go.Proofs.YtobkkblijfhpoaaGreatDoor.Rp
open Go Go.Proofs Go.RowKit Go.Proofs.YtobkkblijfhpoaaGreatDoor.D4 Go.Proofs.YtobkkblijfhpoaaGreatDoor.Pm
set_option linter.unusedVariables false
theorem n9{w:World}{m:Nat}(h:w.heap.size=m)(o:Obj):(w.alloc o).heap[m]?=some o:=by subst h;exact AG w o
theorem n_{w:World}{m:Nat}(h:w.heap.size=m)(o:Obj):(w.alloc o).heap.size=m+1:=by rw [y8,h]
theorem eN{w:World}{k:Nat}{x:Obj}(h:w.heap[k]?=some x)(o:Obj):(w.alloc o).heap[k]?=some x:=(Below.heap_alloc _ _ _ (Array.getElem?_eq_some_iff.1 h).1).trans h
structure Ans (w:World) (gw gh b o n c:Nat) (p0 p1 p2:Int) (R R':Nat→List Value):Prop where
 kG: ∀W,Below w.heap.size w W→Calls Go.Proofs.Tryz.prog 227 #[.agg #[.int .i64 gw,.int .i64 gh,.slice (some ⟨b,o,none⟩) n c]] W fun e W'=>e= .returned (.int .i64 0)∧Below W.heap.size W W'
 kP: ∀W,Below w.heap.size w W→Calls Go.Proofs.Tryz.prog 228 #[.agg #[.int .i64 p0,.int .i64 p1,.int .i64 p2]] W fun e W'=>e= .returned (.int .i64 0)∧Below W.heap.size W W'
 kR: ∀W,Below w.heap.size w W→Calls Go.Proofs.Tryz.prog 180 #[.agg #[.int .i64 gw,.int .i64 gh,.slice (some ⟨b,o,none⟩) n c]] W fun e W'=> ∃v vs,e= .returned v∧Below W.heap.size W W'∧oV W' W.heap.size v vs ((List.range gh).map R)
 kM: ∀W v i B,B≤W.heap.size→Ct W B (R' i) v→i<gh→Calls Go.Proofs.Tryz.prog 190 #[v] W fun e W'=> ∃s,e= .returned s∧Below W.heap.size W W'∧Ct W' W.heap.size (R' i) s
 kB: ∀(W:World) (a b c:Int),Calls Go.Proofs.Tryz.prog 127 #[.int .i64 a,.int .i64 b,.int .i64 c] W fun e W'=>e= .returned (.bool (decide (b≤a)&&decide (a≤c)))∧Below W.heap.size W W'
 hR: ∀i,i<gh→(R' i).length=gw*4
 x9: ∀i,i<gh→ ∀v∈R' i,v.oneCell'=true
def Ue(R:Nat→List Value)(r k:Nat)(x:List Value)(i:Nat):List Value:=if i=r then Ia (R r) k x else R i
theorem ayl(a:Array Value)(W:World):(callFunc 184 a).run Go.Proofs.Tryz.prog W= .ok (.enter 184 a) W:=by kernel_rfl
theorem aym(a:Array Value)(W:World):(callFunc 229 a).run Go.Proofs.Tryz.prog W= .ok (.enter 229 a) W:=by kernel_rfl
set_option maxRecDepth 100000 in
set_option maxHeartbeats 4000000 in
theorem Ns(w:World)(gw gh b o n c r k:Nat)(rune p0 p1 p2:Int)(R:Nat→List Value)(h1:1≤gw∧gw≤160)(h2:1≤gh∧gh≤60)(hr:r<gh)(hk:k<gw)(ak1:0≤rune∧rune≤1114111)
  (hRl: ∀i,i<gh→(R i).length=gw*4) (A:Ans w gw gh b o n c p0 p1 p2 R (Ue R r k [.int .i64 rune,.int .i64 p0,.int .i64 p1,.int .i64 p2]))
  (kW: ∀W,Below w.heap.size w W→Calls Go.Proofs.Tryz.prog 129 #[.int .i64 rune] W fun e W'=>e= .returned (.int .i64 1)∧Below W.heap.size W W'):
  Calls Go.Proofs.Tryz.prog 133 #[.agg #[.int .i64 gw,.int .i64 gh,.slice (some ⟨b,o,none⟩) n c],.int .i64 r,.int .i64 k,.int .i64 rune,.agg #[.int .i64 p0,.int .i64 p1,.int .i64 p2]] w fun e W=>
   ∃s,e= .returned (.tuple #[.agg #[.int .i64 gw,.int .i64 gh,s],.int .i64 0])∧Below w.heap.size w W∧W.ownsRow w.heap.size 100 4 s (gh*gw) (kE (Ue R r k [.int .i64 rune,.int .i64 p0,.int .i64 p1,.int .i64 p2]) gh):=by
 go_enter Go.Proofs.Tryz.func133,Go.Proofs.Tryz.ntmps133
 go_wp2_with fail
 obtain ⟨nb,lK⟩: ∃nb,w.heap.size=nb:=⟨_,rfl⟩
 obtain ⟨v1,e1⟩: ∃v,w.alloc (.cells #[.int .i64 gw,.int .i64 gh,.slice (some ⟨b,o,none⟩) n c] 34)=v:=⟨_,rfl⟩
 obtain ⟨v2,e2⟩: ∃v,v1.alloc (.cells #[.int .i64 r] 3)=v:=⟨_,rfl⟩
 obtain ⟨v3,e3⟩: ∃v,v2.alloc (.cells #[.int .i64 k] 3)=v:=⟨_,rfl⟩
 obtain ⟨v4,e4⟩: ∃v,v3.alloc (.cells #[.int .i64 rune] 3)=v:=⟨_,rfl⟩
 obtain ⟨v5,e5⟩: ∃v,v4.alloc (.cells #[.int .i64 p0,.int .i64 p1,.int .i64 p2] 36)=v:=⟨_,rfl⟩
 obtain ⟨v6,e6⟩: ∃v,v5.alloc (.cells #[.int .i64 0,.int .i64 0,.slice none 0 0] 34)=v:=⟨_,rfl⟩
 rw [e1,e2,e3,e4,e5,e6,lK]
 have s1:v1.heap.size=nb+1:=by rw [←e1];exact n_ lK _
 have s2:v2.heap.size=nb+2:=by rw [←e2];exact n_ s1 _
 have s3:v3.heap.size=nb+3:=by rw [←e3];exact n_ s2 _
 have s4:v4.heap.size=nb+4:=by rw [←e4];exact n_ s3 _
 have s5:v5.heap.size=nb+5:=by rw [←e5];exact n_ s4 _
 have s6:v6.heap.size=nb+6:=by rw [←e6];exact n_ s5 _
 have K0:v6.heap[nb]?=some (.cells #[.int .i64 gw,.int .i64 gh,.slice (some ⟨b,o,none⟩) n c] 34 (0,0)):=by rw [←e6,←e5,←e4,←e3,←e2,←e1];exact eN (eN (eN (eN (eN (n9 lK _) _) _) _) _) _
 have K1:v6.heap[nb+1]?=some (.cells #[.int .i64 r] 3 (0,0)):=by rw [←e6,←e5,←e4,←e3,←e2];exact eN (eN (eN (eN (n9 s1 _) _) _) _) _
 have K2:v6.heap[nb+2]?=some (.cells #[.int .i64 k] 3 (0,0)):=by rw [←e6,←e5,←e4,←e3];exact eN (eN (eN (n9 s2 _) _) _) _
 have K3:v6.heap[nb+3]?=some (.cells #[.int .i64 rune] 3 (0,0)):=by rw [←e6,←e5,←e4];exact eN (eN (n9 s3 _) _) _
 have K4:v6.heap[nb+4]?=some (.cells #[.int .i64 p0,.int .i64 p1,.int .i64 p2] 36 (0,0)):=by rw [←e6,←e5];exact eN (n9 s4 _) _
 have K5:v6.heap[nb+5]?=some (.cells #[.int .i64 0,.int .i64 0,.slice none 0 0] 34 (0,0)):=by rw [←e6];exact n9 s5 _
 have B6:Below nb w v6:=by
  rw [←e6,←e5,←e4,←e3,←e2,←e1]
  exact ((((((Below.refl _ w).alloc (by omega) _).alloc (by rw [e1];omega) _).alloc (by rw [e1,e2];omega) _).alloc (by rw [e1,e2,e3];omega) _).alloc (by rw [e1,e2,e3,e4];omega) _).alloc (by rw [e1,e2,e3,e4,e5];omega) _
 clear e1 e2 e3 e4 e5 e6 s1 s2 s3 s4 s5
 refine (kW v6 (by rw [lK];exact B6)).mono ?_
 rintro e W1 ⟨rfl,b1⟩
 have sW:v6.heap.size≤W1.heap.size:=b1.size
 go_upto_region 2 with fail
 obtain ⟨bw,TC⟩: ∃bw,W1.heap.size=bw:=⟨_,rfl⟩
 obtain ⟨W2,e2⟩: ∃v,W1.alloc (.cells #[.int .i64 1] 3)=v:=⟨_,rfl⟩
 rw [e2,TC]
 have X2:Below v6.heap.size v6 W2:=by rw [←e2];exact b1.alloc b1.size _
 have KW:W2.heap[bw]?=some (.cells #[.int .i64 1] 3 (0,0)):=by rw [←e2];exact n9 TC _
 have sW2:W2.heap.size=bw+1:=by rw [←e2];exact n_ TC _
 clear e2
 have cw:W2.cell? ⟨bw,0,none⟩=some (.int .i64 1):=cell_of_one KW
 have cr:W2.cell? ⟨nb+1,0,none⟩=some (.int .i64 r):=cell_of_one ((X2.block _ (by omega)).trans K1)
 have ck:W2.cell? ⟨nb+2,0,none⟩=some (.int .i64 k):=cell_of_one ((X2.block _ (by omega)).trans K2)
 have cu:W2.cell? ⟨nb+3,0,none⟩=some (.int .i64 rune):=cell_of_one ((X2.block _ (by omega)).trans K3)
 obtain ⟨g0,g1,g2⟩:=tQ ((X2.block _ (by omega)).trans K0)
 obtain ⟨q0,q1,q2⟩:=tQ ((X2.block _ (by omega)).trans K4)
 have i1:IntKind.i64.wrap ((gh:Int)-1)=(gh:Int)-1:=IntWalk.i64_in _ (by omega)
 have i2:IntKind.i64.wrap ((gw:Int)-1)=(gw:Int)-1:=IntWalk.i64_in _ (by omega)
 go_wp2_with fail
 have kT:=A.kB W2 r 0 ((gh:Int)-1)
 rw [show (decide ((0:Int)≤(r:Int))&&decide ((r:Int)≤(gh:Int)-1))=true by rw [decide_eq_true (by omega),decide_eq_true (by omega)];rfl] at kT
 refine kT.mono ?_
 rintro e W3 ⟨rfl,b3⟩
 clear kT
 replace cw:=bL cw b3;replace cr:=bL cr b3;replace ck:=bL ck b3;replace cu:=bL cu b3;replace g0:=bL g0 b3;replace g1:=bL g1 b3;replace g2:=bL g2 b3;replace q0:=bL q0 b3;replace q1:=bL q1 b3;replace q2:=bL q2 b3
 have X3:Below W2.heap.size W2 W3:=b3
 go_wp2_with fail
 have kT:=A.kB W3 k 0 ((gw:Int)-1)
 rw [show (decide ((0:Int)≤(k:Int))&&decide ((k:Int)≤(gw:Int)-1))=true by rw [decide_eq_true (by omega),decide_eq_true (by omega)];rfl] at kT
 refine kT.mono ?_
 rintro e W4 ⟨rfl,b4⟩
 clear kT
 replace cw:=bL cw b4;replace cr:=bL cr b4;replace ck:=bL ck b4;replace cu:=bL cu b4;replace g0:=bL g0 b4;replace g1:=bL g1 b4;replace g2:=bL g2 b4;replace q0:=bL q0 b4;replace q1:=bL q1 b4;replace q2:=bL q2 b4
 have X4:Below W2.heap.size W2 W4:=X3.trans (b4.mono X3.size)
 have hmf: ∀(fn:Fn) (first cap:Array Value) (w:World),(Instr.makeFunc fn first cap).run Go.Proofs.Tryz.prog w= .ok (.func fn first cap) w:=fun _ _ _ _=>rfl
 clear b3 b4 i1 i2
 go_wp2_with fail
 have XB:Below nb w W4:=B6.trans ((X2.mono (by omega)).trans (X4.mono (by omega)))
 have hbN:Below w.heap.size w W4:=by rw [lK];exact XB
 have TD:w.heap.size≤W4.heap.size:=hbN.size
 have tr: ∀W,Below W4.heap.size W4 W→Below w.heap.size w W:=fun W h=>hbN.trans (h.mono TD)
 have s4:bw+1≤W4.heap.size:=by have:=X4.size;omega
 have ke:=Ln W4 184 (.pointer (some ⟨bw,0,none⟩)) (.pointer (some ⟨nb+3,0,none⟩)) (.pointer (some ⟨nb+4,0,none⟩)) (.pointer (some ⟨nb+1,0,none⟩)) (.pointer (some ⟨nb+2,0,none⟩)) gw gh b o n c p0 p1 p2 R _ h1 h2 A.hR A.x9
  (fun W h=>A.kG W (tr W h)) (fun W h=>A.kP W (tr W h)) (fun W h=>A.kR W (tr W h))
  (fun W v vs B Yf Bn nJ hL=>by
   refine (afM W B bw (nb+3) (nb+4) (nb+1) (nb+2) r k gw rune p0 p1 p2 v vs _ hL (by simp;exact hr) hk h1.2 (fun row hrow=>?_) (by simp;exact h2.2) (bL cw nJ) (bL cu nJ) (bL q0 nJ) (bL q1 nJ) (bL q2 nJ) (bL cr nJ) (bL ck nJ) ak1).mono ?_
   ·obtain ⟨i,hi,rfl⟩:=List.mem_map.1 hrow
    exact hRl i (List.mem_range.1 hi)
   ·rintro e W' ⟨hx,hb,hL'⟩
    generalize hLL:List.set _ r _=LL at hL'
    have hln:LL.length=gh:=by rw [←hLL];simp
    have h9:=hL'.lf
    rw [hln] at h9
    refine ⟨hx,hb,_,h9.congr fun i hi=>?_⟩
    rw [←hLL]
    unfold Ue
    by_cases Yg:i=r
    ·subst Yg;rw [if_pos rfl];simp [hi]
    ·rw [if_neg Yg];simp [hi];rw [List.getElem_set_ne (fun e=>Yg e.symm)];simp)
  ayl A.kM
 refine ke.mono ?_
 rintro e W5 ⟨s5,rfl,b5,o5⟩
 have K6:=(b5.block (nb+5) (by omega)).trans ((X4.block (nb+5) (by omega)).trans ((X2.block (nb+5) (by omega)).trans K5))
 obtain ⟨z0,z1,z2⟩:=tQ K6
 have f6: ∀i,W5.frozen? ⟨nb+5,i,none⟩=false:=fun i=>G4 K6
 obtain ⟨a8,n8,m8,rfl⟩:=y7 o5
 clear ke kW A
 go_wp2_with fail
 obtain ⟨W,hW⟩: ∃W,((W5.setCell ⟨nb+5,0,none⟩ (.int .i64 gw)).setCell ⟨nb+5,1,none⟩ (.int .i64 gh)).setCell ⟨nb+5,2,none⟩ (.slice a8 n8 m8)=W:=⟨_,rfl⟩
 have k3:W.heap[nb+5]?=some (.cells #[.int .i64 gw,.int .i64 gh,.slice a8 n8 m8] 34 (0,0)):=by rw [←hW];exact abF K6 _ _ _
 have hk: ∀b:Nat,b≠nb+5→W.heap[b]?=W5.heap[b]?:=fun b hb=>by rw [←hW];exact oW _ _ _ hb
 have nJ:Below nb W5 W:=by rw [←hW];exact (sK _ _ _).mono (by omega)
 rw [hW]
 refine bodyPost_ret (Row.tR rfl _ _ (nb+5) 34 _ (0,0) _ rfl k3 Go.Proofs.Tryz.underlying34 rfl (by kernel_rfl)) rfl ?_
 exact ⟨_,rfl,by rw [lK];exact (XB.trans (b5.mono (by omega))).trans nJ,AE (qQ o5 hk (by omega)) (by omega)⟩
set_option maxRecDepth 100000 in
set_option maxHeartbeats 4000000 in
theorem G5(w:World)(gw gh b o n c:Nat)(p0 p1 p2:Int)(R:Nat→List Value)(bl:List Value)(h1:1≤gw∧gw≤160)(h2:1≤gh∧gh≤60)
  (A:Ans w gw gh b o n c p0 p1 p2 R (QN gh bl R))
  (kL: ∀W,Below w.heap.size w W→Calls Go.Proofs.Tryz.prog 188 #[.int .i64 gw,.agg #[.int .i64 p0,.int .i64 p1,.int .i64 p2]] W fun e W'=> ∃s,e= .returned s∧Below W.heap.size W W'∧Ct W' W.heap.size bl s):
  Calls Go.Proofs.Tryz.prog 186 #[.agg #[.int .i64 gw,.int .i64 gh,.slice (some ⟨b,o,none⟩) n c],.int .i64 0,.int .i64 gh,.int .i64 1,.agg #[.int .i64 p0,.int .i64 p1,.int .i64 p2]] w fun e W=>
   ∃s,e= .returned (.tuple #[.agg #[.int .i64 gw,.int .i64 gh,s],.int .i64 0])∧Below w.heap.size w W∧W.ownsRow w.heap.size 100 4 s (gh*gw) (kE (QN gh bl R) gh):=by
 go_enter Go.Proofs.Tryz.func186,Go.Proofs.Tryz.ntmps186
 go_wp2_with fail
 obtain ⟨nb,lK⟩: ∃nb,w.heap.size=nb:=⟨_,rfl⟩
 obtain ⟨v1,e1⟩: ∃v,w.alloc (.cells #[.int .i64 gw,.int .i64 gh,.slice (some ⟨b,o,none⟩) n c] 34)=v:=⟨_,rfl⟩
 obtain ⟨v2,e2⟩: ∃v,v1.alloc (.cells #[.int .i64 0] 3)=v:=⟨_,rfl⟩
 obtain ⟨v3,e3⟩: ∃v,v2.alloc (.cells #[.int .i64 gh] 3)=v:=⟨_,rfl⟩
 obtain ⟨v4,e4⟩: ∃v,v3.alloc (.cells #[.int .i64 1] 3)=v:=⟨_,rfl⟩
 obtain ⟨v5,e5⟩: ∃v,v4.alloc (.cells #[.int .i64 p0,.int .i64 p1,.int .i64 p2] 36)=v:=⟨_,rfl⟩
 obtain ⟨v6,e6⟩: ∃v,v5.alloc (.cells #[.int .i64 0,.int .i64 0,.slice none 0 0] 34)=v:=⟨_,rfl⟩
 rw [e1,e2,e3,e4,e5,e6,lK]
 have s1:v1.heap.size=nb+1:=by rw [←e1];exact n_ lK _
 have s2:v2.heap.size=nb+2:=by rw [←e2];exact n_ s1 _
 have s3:v3.heap.size=nb+3:=by rw [←e3];exact n_ s2 _
 have s4:v4.heap.size=nb+4:=by rw [←e4];exact n_ s3 _
 have s5:v5.heap.size=nb+5:=by rw [←e5];exact n_ s4 _
 have s6:v6.heap.size=nb+6:=by rw [←e6];exact n_ s5 _
 have K0:v6.heap[nb]?=some (.cells #[.int .i64 gw,.int .i64 gh,.slice (some ⟨b,o,none⟩) n c] 34 (0,0)):=by rw [←e6,←e5,←e4,←e3,←e2,←e1];exact eN (eN (eN (eN (eN (n9 lK _) _) _) _) _) _
 have K1:v6.heap[nb+1]?=some (.cells #[.int .i64 0] 3 (0,0)):=by rw [←e6,←e5,←e4,←e3,←e2];exact eN (eN (eN (eN (n9 s1 _) _) _) _) _
 have K2:v6.heap[nb+2]?=some (.cells #[.int .i64 gh] 3 (0,0)):=by rw [←e6,←e5,←e4,←e3];exact eN (eN (eN (n9 s2 _) _) _) _
 have K3:v6.heap[nb+3]?=some (.cells #[.int .i64 1] 3 (0,0)):=by rw [←e6,←e5,←e4];exact eN (eN (n9 s3 _) _) _
 have K4:v6.heap[nb+4]?=some (.cells #[.int .i64 p0,.int .i64 p1,.int .i64 p2] 36 (0,0)):=by rw [←e6,←e5];exact eN (n9 s4 _) _
 have K5:v6.heap[nb+5]?=some (.cells #[.int .i64 0,.int .i64 0,.slice none 0 0] 34 (0,0)):=by rw [←e6];exact n9 s5 _
 have B6:Below nb w v6:=by
  rw [←e6,←e5,←e4,←e3,←e2,←e1]
  exact ((((((Below.refl _ w).alloc (by omega) _).alloc (by rw [e1];omega) _).alloc (by rw [e1,e2];omega) _).alloc (by rw [e1,e2,e3];omega) _).alloc (by rw [e1,e2,e3,e4];omega) _).alloc (by rw [e1,e2,e3,e4,e5];omega) _
 clear e1 e2 e3 e4 e5 e6 s1 s2 s3 s4 s5
 have cr:v6.cell? ⟨nb+1,0,none⟩=some (.int .i64 0):=cell_of_one K1
 have ck:v6.cell? ⟨nb+2,0,none⟩=some (.int .i64 gh):=cell_of_one K2
 have cu:v6.cell? ⟨nb+3,0,none⟩=some (.int .i64 1):=cell_of_one K3
 obtain ⟨g0,g1,g2⟩:=tQ K0
 obtain ⟨q0,q1,q2⟩:=tQ K4
 have kT:=A.kB v6 0 0 (gh:Int)
 rw [show (decide ((0:Int)≤0)&&decide ((0:Int)≤(gh:Int)))=true by rw [decide_eq_true (by omega),decide_eq_true (by omega)];rfl] at kT
 refine kT.mono ?_
 rintro e W3 ⟨rfl,b3⟩
 clear kT
 replace cr:=bL cr b3;replace ck:=bL ck b3;replace cu:=bL cu b3;replace g0:=bL g0 b3;replace g1:=bL g1 b3;replace g2:=bL g2 b3;replace q0:=bL q0 b3;replace q1:=bL q1 b3;replace q2:=bL q2 b3
 have i1:(gh:Int)≤(gh:Int):=Int.le_refl _
 go_wp2_with fail
 have kT:=A.kB W3 1 (-16383) 16383
 rw [show (decide ((-16383:Int)≤1)&&decide ((1:Int)≤16383))=true by decide] at kT
 refine kT.mono ?_
 rintro e W4 ⟨rfl,b4⟩
 clear kT
 replace cr:=bL cr b4;replace ck:=bL ck b4;replace cu:=bL cu b4;replace g0:=bL g0 b4;replace g1:=bL g1 b4;replace g2:=bL g2 b4;replace q0:=bL q0 b4;replace q1:=bL q1 b4;replace q2:=bL q2 b4
 have X4:Below v6.heap.size v6 W4:=b3.trans (b4.mono b3.size)
 have hmf: ∀(fn:Fn) (first cap:Array Value) (w:World),(Instr.makeFunc fn first cap).run Go.Proofs.Tryz.prog w= .ok (.func fn first cap) w:=fun _ _ _ _=>rfl
 clear b3 b4 i1
 go_wp2_with fail
 have XB:Below nb w W4:=B6.trans (X4.mono (by omega))
 have hbN:Below w.heap.size w W4:=by rw [lK];exact XB
 have TD:w.heap.size≤W4.heap.size:=hbN.size
 have tr: ∀W,Below W4.heap.size W4 W→Below w.heap.size w W:=fun W h=>hbN.trans (h.mono TD)
 have s4:nb+6≤W4.heap.size:=by have:=X4.size;omega
 have ke:=Ln W4 229 (.pointer (some ⟨nb+1,0,none⟩)) (.pointer (some ⟨nb+2,0,none⟩)) (.pointer (some ⟨nb,0,none⟩)) (.pointer (some ⟨nb+4,0,none⟩)) (.pointer (some ⟨nb+3,0,none⟩)) gw gh b o n c p0 p1 p2 R _ h1 h2 A.hR A.x9
  (fun W h=>A.kG W (tr W h)) (fun W h=>A.kP W (tr W h)) (fun W h=>A.kR W (tr W h))
  (fun W v vs B Yf Bn nJ hL=>by
   have h9:=hL.lf
   rw [List.length_map,List.length_range] at h9
   obtain ⟨g,cap,rfl,hgB,hgs⟩:=h9.form (by omega)
   have h8:=h9.congr (ρ':=R) fun i hi=>by simp [hi]
   exact QO W B (nb+1) (nb+2) nb (nb+4) (nb+3) g cap gh gw undef p0 p1 p2 _ R bl h8 h2.2 (by omega) Bn hgB ⟨by omega,by omega,by omega,by omega,by omega⟩ (bL cr nJ) (bL ck nJ) (bL g0 nJ) (bL q0 nJ) (bL q1 nJ) (bL q2 nJ) (bL cu nJ)
    (fun W' h=>kL W' (tr W' (nJ.trans (h.mono Yf)))) A.kB)
  aym A.kM
 refine ke.mono ?_
 rintro e W5 ⟨s5,rfl,b5,o5⟩
 have K6:=(b5.block (nb+5) (by omega)).trans ((X4.block (nb+5) (by omega)).trans K5)
 obtain ⟨z0,z1,z2⟩:=tQ K6
 have f6: ∀i,W5.frozen? ⟨nb+5,i,none⟩=false:=fun i=>G4 K6
 obtain ⟨a8,n8,m8,rfl⟩:=y7 o5
 clear ke kL A
 go_wp2_with fail
 obtain ⟨W,hW⟩: ∃W,((W5.setCell ⟨nb+5,0,none⟩ (.int .i64 gw)).setCell ⟨nb+5,1,none⟩ (.int .i64 gh)).setCell ⟨nb+5,2,none⟩ (.slice a8 n8 m8)=W:=⟨_,rfl⟩
 have k3:W.heap[nb+5]?=some (.cells #[.int .i64 gw,.int .i64 gh,.slice a8 n8 m8] 34 (0,0)):=by rw [←hW];exact abF K6 _ _ _
 have hk: ∀b:Nat,b≠nb+5→W.heap[b]?=W5.heap[b]?:=fun b hb=>by rw [←hW];exact oW _ _ _ hb
 have nJ:Below nb W5 W:=by rw [←hW];exact (sK _ _ _).mono (by omega)
 rw [hW]
 refine bodyPost_ret (Row.tR rfl _ _ (nb+5) 34 _ (0,0) _ rfl k3 Go.Proofs.Tryz.underlying34 rfl (by kernel_rfl)) rfl ?_
 exact ⟨_,rfl,by rw [lK];exact (XB.trans (b5.mono (by omega))).trans nJ,AE (qQ o5 hk (by omega)) (by omega)⟩
end Go.Proofs.YtobkkblijfhpoaaGreatDoor.Rp

