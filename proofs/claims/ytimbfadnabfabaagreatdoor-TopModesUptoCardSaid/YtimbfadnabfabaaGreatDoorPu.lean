/- The small machine: its operations are the language's: literals, append, calls. No program is named here. -/
import Derived.Test.YtimbfadnabfabaaGreatDoorPt
import Derived.Test.YtimbfadnabfabaaGreatDoorPh
namespace Go.Proofs.YtimbfadnabfabaaGreatDoor.Pm
open Go.RowKit

section
variable {P : Program} {E : Nat → Prop} {m : List bH} {aP φ : Nat → cg} {H : Nat → cq} {w0 w : World}
variable {ρ : Operand → PV} {ev : Operand → Value} {γ : ek} {d : Nat}

theorem CG: ∀(news:List Value) (k:Nat) (cells:Array Value) (off:Nat),off+k+news.length≤cells.size→
  ((news.zipIdx k).foldl (fun cs (x:Value×Nat)=>cs.setIfInBounds (off+x.2) x.1) cells).toList=cells.toList.take (off+k)++news++cells.toList.drop (off+k+news.length)
 | [],k,cells,off,_=>by simp
 | v::r,k,cells,off,h=>by
  simp only [List.zipIdx_cons,List.foldl_cons]
  rw [CG r (k+1) _ off (by simp at h ⊢;omega)]
  have e:=list_seg_step cells.toList (off+k) v r (by simp at h ⊢;omega)
  simpa [Array.toList_setIfInBounds,Nat.add_assoc] using e
theorem y7{X:Nat→Prop}{R:Ref→Value→Prop}{ρ:Operand→PV}{ev:Operand→Value}(bK: ∀x,cJ X w R (ρ x) (ev x))(CI: ∀{p:PV} {cs:List PV} {v:Value},p.cells?=some cs→cJ X w R p v→aY X w R cs v.cells.toList)
  (pl:Nat→Option (Nat×Nat)): ∀(ps:List (Nat×Operand)) (q:List (Nat×Nat×Operand)) (cs cs':List PV) (cells:Array Value),lu pl ps=some q→pG ρ cs q=some cs'→aY X w R cs cells.toList→
  ∃out,Instr.fill pl cells (ps.map fun x=>(x.1,ev x.2))=some out∧aY X w R cs' out.toList
 | [],q,cs,cs',cells,hp,hf,hr=>by
  simp only [lu,Option.some.injEq] at hp;subst hp
  simp only [pG,Option.some.injEq] at hf;subst hf
  exact ⟨cells,rfl,hr⟩
 | (i,x)::ps,q,cs,cs',cells,hp,hf,hr=>by
  simp only [lu] at hp
  split at hp
  ·rename_i o n r h1 h2;cases hp
   simp only [pG] at hf
   split at hf
   ·rename_i new hn
    split at hf
    ·rename_i hh
     have hrn:=CI hn (bK x)
     have hl:=hrn.len
     have hlc:=hr.len
     simp only [Array.length_toList] at hl hlc
     have hr2:aY X w R (bZ cs o new) ((ev x).cells.toList.zipIdx.foldl (fun cs (y:Value×Nat)=>cs.setIfInBounds (o+y.2) y.1) cells).toList:=by
      rw [CG _ 0 cells o (by simp;omega)]
      have:=hr.bZ hrn o
      simpa using this
     obtain ⟨out,h3,h4⟩:=y7 bK CI pl ps r _ cs' _ h2 hf hr2
     refine ⟨out,?_,h4⟩
     simp only [List.map_cons,Instr.fill,h1]
     rw [if_neg (by simp;omega),←h3]
     congr 1
     rw [←Array.foldl_toList]
     congr 1
     simp
    ·cases hf
   ·cases hf
  ·cases hp
theorem Bx{φ:Nat→cg}{H:Nat→cq}{X:Nat→Prop}: ∀{p:PV} {cs:List PV} {v:Value},p.cells?=some cs→cJ X w (bh φ H) p v→aY X w (bh φ H) cs v.cells.toList:=
 fun h q=>(EG h q).1
theorem OJ{t:TypeId}{fs:Array Field}{ps:Array (Nat×Operand)}{pl:List (Nat×Nat)}{z:List Value}{n:Nat}{q:List (Nat×Nat×Operand)}{p:PV}{aD:eu}(hm:Mem E m aP w0 φ H w)(bK:eM E φ H w ρ ev)(hu:P.underlying t=some (.struct fs))
  (hpl:places P fs.toList=some pl) (hz:zeroOf P t n=some z) (hq:lu (fun i=>pl[i]?) ps.toList=some q)
  (he:az γ H d ρ (.build (tE z) q)=some (p,aD)):Does P E m aP w0 φ H w p aD (do pure (.value (←Instr.build t (ps.map fun (i,x)=>(i,ev x))))):=by
 simp only [az] at he
 split at he
 ·rename_i cs hcs;cases he
  obtain ⟨i,v,hi,hv,wP,_⟩:=lW hz
  have hr:aY (cV E φ) w (bh φ H) (jc (tE z)) v.cells.toList:=by rw [lV,wP];exact aY.consts z
  obtain ⟨out,h1,h2⟩:=y7 bK Bx _ _ _ _ _ v.cells hq hcs hr
  refine dQ hm (v:= .agg out) (run_build w t _ out ?_) ⟨_,rfl,h2⟩
  unfold Program.built
  simp only [hi,hu,hv]
  unfold places at hpl
  simp only [hpl]
  rw [←h1]
  simp
 ·cases he
theorem OL{t e:TypeId}{len k n:Nat}{ps:Array (Nat×Operand)}{z:List Value}{q:List (Nat×Nat×Operand)}{p:PV}{aD:eu}(hm:Mem E m aP w0 φ H w)(bK:eM E φ H w ρ ev)(hu:P.underlying t=some (.array len e))
  (hk:iG P e=some k) (hz:zeroOf P t n=some z) (hq:lu (fun i=>some (i*k,k)) ps.toList=some q)
  (he:az γ H d ρ (.build (tE z) q)=some (p,aD)):Does P E m aP w0 φ H w p aD (do pure (.value (←Instr.build t (ps.map fun (i,x)=>(i,ev x))))):=by
 simp only [az] at he
 split at he
 ·rename_i cs hcs;cases he
  obtain ⟨i,v,hi,hv,wP,_⟩:=lW hz
  obtain ⟨ie,hie,aA8⟩:=H8 hk
  have hr:aY (cV E φ) w (bh φ H) (jc (tE z)) v.cells.toList:=by rw [lV,wP];exact aY.consts z
  obtain ⟨out,h1,h2⟩:=y7 bK Bx _ _ _ _ _ v.cells hq hcs hr
  refine dQ hm (v:= .agg out) (run_build w t _ out ?_) ⟨_,rfl,h2⟩
  unfold Program.built
  simp only [hi,hu,hv,hie,aA8]
  rw [←h1]
  simp
 ·cases he
theorem adB{t e:TypeId}{k n:Nat}{ps:Array (Nat×Operand)}{z:List Value}{q:List (Nat×Nat×Operand)}{p:PV}{aD:eu}(hm:Mem E m aP w0 φ H w)(bK:eM E φ H w ρ ev)(hu:P.underlying t=some (.slice e))
  (hk:iG P e=some k) (pI:0<k) (hnk:n*k≤65536) (hz:zeroOf P e k=some z) (hq:lu (fun i=>some (i*k,k)) ps.toList=some q)
  (he:az γ H d ρ (.wU e k n (tE ((List.range n).flatMap fun _=>z)) q)=some (p,aD)):Does P E m aP w0 φ H w p aD (do pure (.value (←Instr.buildSlice t n (ps.map fun (i,x)=>(i,ev x))))):=by
 simp only [az] at he
 split at he
 ·rename_i cs hcs
  split at he
  rotate_left
  ·cases he
  rename_i hall
  split at he
  ·rename_i ds GM
   split at he
   ·rename_i RH;cases he
    obtain ⟨i,v,hi,hv,wP,hzl⟩:=lW hz
    have hzs:v.cells.size=k:=by rw [←hzl,←wP];simp
    have hcell:((Array.range (n*k)).map (fun j=>v.cells[j%v.cells.size]!)).toList=(List.range n).flatMap fun _=>z:=by
     rw [←wP,hzs]
     clear hcs hq hnk RH
     induction n with
     | zero=>simp
     | succ n ih=>
      rw [List.range_succ,List.flatMap_append,←ih]
      simp only [Array.toList_map,Array.toList_range,List.flatMap_cons,List.flatMap_nil,List.append_nil]
      rw [Nat.succ_mul,List.range_add,List.map_append]
      congr 1
      apply List.ext_getElem?
      intro j
      by_cases hj:j<k
      ·simp only [List.map_map,List.getElem?_map,List.getElem?_range hj,Option.map_some,Function.comp]
       have e1:(n*k+j)%k=j:=by rw [Nat.mul_add_mod_self_right];exact Nat.mod_eq_of_lt hj
       rw [e1]
       have:j<v.cells.size:=by omega
       simp [this]
      ·rw [List.getElem?_eq_none (by simp;omega),List.getElem?_eq_none (by simp;omega)]
    have hr:aY (cV E φ) w (bh φ H) (jc (tE ((List.range n).flatMap fun _=>z))) ((Array.range (n*k)).map (fun j=>v.cells[j%v.cells.size]!)).toList:=by
     rw [lV,hcell];exact aY.consts _
    obtain ⟨out,h1,h2⟩:=y7 bK Bx _ _ _ _ _ _ hq hcs hr
    have hnb:kr (bA cs) (aZ d 0)=false:=by
     cases hq:kr (bA cs) (aZ d 0) with
     | false=>rfl
     | true=>
      simp only [kr,List.any_eq_true] at hq
      obtain ⟨x,hx,he⟩:=hq
      have:=List.all_eq_true.1 hall x hx
      have e:aZ d 0=x:=Nat.eq_of_beq_eq_true he
      subst e
      simp at this
    obtain ⟨dA,m0,t0,fr⟩:=hm.freeze (kr (bA cs)) false (fun i hi=>by
     simp only [kr,List.any_eq_true] at hi
     obtain ⟨x,hx,he⟩:=hi
     have e:i=x:=Nat.eq_of_beq_eq_true he
     subst e
     have:=List.all_eq_true.1 hall i hx
     simp at this
     exact .inr this.1) (H':=eJ H ((bA cs).map fun j=>(j,⟨(H j).g+1,none⟩))) (fun i=>by rw [u5 H];simp)
    have hg0:eJ H ((bA cs).map fun j=>(j,⟨(H j).g+1,none⟩)) (aZ d 0)=H (aZ d 0):=by rw [u5 H,if_neg (by rw [hnb];simp)]
    have h2:aY (cV E dA) w (bh dA (eJ H ((bA cs).map fun j=>(j,⟨(H j).g+1,none⟩)))) (jO (kr (bA cs)) H cs) out.toList:=by
     have:=fr (.agg cs) (.agg out) ⟨out,rfl,h2⟩
     unfold mj at this
     obtain ⟨vs,e,q⟩:=this
     cases e;exact q
    obtain ⟨h3,h4,_⟩:=qy GM h2
    have ahz:(jO (kr (bA cs)) H cs).length=cs.length:=by
     have: ∀(D:Nat→Bool) (l:List PV),(jO D H l).length=l.length:=fun D l=>by
      induction l with
      | nil=>rfl
      | cons a l ih=>simp [jO,ih]
     exact this _ _
    have h5:=h3.len
    simp only [List.length_map,Array.length_toList] at h5
    have hrun:(Instr.buildSlice t n (ps.map fun (i,x)=>(i,ev x))).run P w= .ok (.slice (some ⟨w.heap.size,0,none⟩) n n) (w.alloc (.cells out e)):=by
     unfold Instr.buildSlice
     have Za: ¬(n*k>2^24):=by omega
     have h1':Instr.fill (fun i=>some (i*k,k)) ((Array.range (n*k)).map (fun j=>v.cells[j%v.cells.size]!)) (ps.map fun (i,x)=>(i,ev x)).toList=some out:=by
      rw [←h1];congr 1;simp
     by_cases h0:n*k=0
     ·have hn:n=0:=by
       rcases Nat.mul_eq_zero.1 h0 with h | h
       ·exact h
       ·omega
      subst hn
      have e0:(Array.range (0*k)).map (fun j=>v.cells[j%v.cells.size]!)= #[]:=Array.eq_empty_of_size_eq_zero (by simp)
      have e1:(Array.range (0*k)).map (fun j=>(#[]:Array Value)[j%(#[]:Array Value).size]!)= #[]:=Array.eq_empty_of_size_eq_zero (by simp)
      rw [e0] at h1'
      simp only [Sem.run_bind,run_underlying hu,Result.andThen_ok,fA hk,if_neg Za,if_pos h0,Sem.run_pure,e1,h1',newRow,run_newObj,World.alloc_eq]
     ·simp only [Sem.run_bind,run_underlying hu,Result.andThen_ok,fA hk,if_neg Za,if_neg h0,zeroValue,typeInfo,run_program,hi,hv,Sem.run_pure,h1',newRow,run_newObj,World.alloc_eq]
    obtain ⟨bp,p1,p2,m1,t1⟩:=m0.new (aZ d 0) (by unfold aZ;omega) (.own e k ds) out e n (.inr ⟨k,ds,rfl,pI,by omega,by
     unfold maxLen
     have:n≤n*k:=Nat.le_mul_of_pos_right _ pI
     omega,⟨n,RH⟩,by omega,by rw [List.take_of_length_le (by simp;omega)];exact h3⟩)
    rw [hg0] at m1 t1
    have eH:eJ H ((bA cs).map (fun i=>(i,(⟨(H i).g+1,none⟩:cq)))++ [nw H (aZ d 0) (.own e k ds)])=up (eJ H ((bA cs).map fun j=>(j,⟨(H j).g+1,none⟩))) (aZ d 0) ⟨(H (aZ d 0)).g+1,some (.own e k ds)⟩:=by rw [Ib];rfl
    refine .inl ⟨_,_,kz hrun,bp,by rw [eH];exact m1,by rw [eH];exact t0.trans t1,?_⟩
    rw [eH]
    have:=CA (φ:=bp) (H:=up (eJ H ((bA cs).map fun j=>(j,⟨(H j).g+1,none⟩))) (aZ d 0) ⟨(H (aZ d 0)).g+1,some (.own e k ds)⟩) (i:=aZ d 0) (k:=k) (e:=e) (n:=n) p1 (by rw [aQ]) pI RH (Nat.le_refl _) (by
     unfold maxLen
     have:n≤n*k:=Nat.le_mul_of_pos_right _ pI
     omega)
    rw [aQ] at this
    exact this
   ·cases he
  ·cases he
 ·cases he
theorem adC{t e:TypeId}{len k:Nat}{x:Operand}{lo hi:Option Operand}{p:PV}{aD:eu}(hm:Mem E m aP w0 φ H w)(bK:eM E φ H w ρ ev)(hu:P.underlying t=some (.array len e))(hk:iG P e=some k)
  (he:az γ H d ρ (.Ox len k x lo hi)=some (p,aD)):Does P E m aP w0 φ H w p aD (do pure (.value (←Instr.sliceAt t (ev x) (lo.map ev) (hi.map ev) none))):=by
 have hx:=bK x
 simp only [az] at he
 split at he
 ·rename_i i g e1
  rw [e1] at hx
  split at he
  ·rename_i cs hl
   split at he
   ·rename_i ds l h GM hlo hhi
    split at he
    ·rename_i hh
     obtain ⟨h8,pI,RH,hlen,h1,h2⟩:=hh
     cases he
     obtain ⟨hg,hb⟩:=hm.iz hl
     obtain ⟨b,c,hp,hv,us,r1,r2⟩:=hm.cells (fun cs' h=>by cases h;exact Rv GM) hl hx
     obtain ⟨r3,r4,_⟩:=qy GM r1
     have hrun:(Instr.sliceAt t (ev x) (lo.map ev) (hi.map ev) none).run P w= .ok (.slice (some (if len=l then ⟨b,off c+0,none⟩ else (⟨b,off c+0,none⟩:Addr).add (l*k))) (h-l) (len-l)) w:=by
      rw [hv]
      unfold Instr.sliceAt
      simp only [Sem.run_bind,run_underlying hu,Result.andThen_ok,Instr.sureAddr,Sem.run_pure,wY bK hlo hhi h1 h2 (Nat.le_refl _),fA hk]
     have nG:=hm.upd (bp:=up φ i (.nil none)) (H':=up H i ⟨g+1,none⟩) (w':=w) (fun j=>j=i) (fun j hj=>⟨dK _ _ _ _ hj,dK _ _ _ _ hj⟩) (fun j hj=>by subst hj;rw [aQ,hg];exact .inl (Nat.lt_succ_self _)) (fun _ _ _=>rfl)
      (fun j b' c' hj hp=>by subst hj;rw [aQ] at hp;cases hp) (fun a a' _ _ _ h1 h2 _ _=>h1.trans h2.symm) (fun j hj tP=>by have:=hm.m8;omega) (Nat.le_refl _) ⟨rfl,rfl,rfl⟩ (fun _ j b' hj hb'=>by subst hj;rw [aQ] at hb';cases hb')
     have hX: ¬cV E (up φ i (.nil none)) b:=by
      rintro (hx | ⟨j,c',hx⟩)
      ·have:=hm.ext _ hx
       rcases (hm.lt i b c hp).2 with h | ⟨h,_⟩
       ·omega
       ·have:=hm.m8;omega
      ·by_cases VA:j=i
       ·subst VA;rw [aQ] at hx;cases hx
       ·rw [dK _ _ _ _ VA] at hx
        exact VA (hm.inj _ _ _ _ _ hx hp)
     refine .inl ⟨_,w,kz hrun,_,nG.1,nG.2,⟨_,_,rfl,by omega,by unfold maxLen;omega,(fun h=>by cases h),?_⟩⟩
     by_cases hll:len=l
     ·have:h=l:=by omega
      subst this
      exact .inl (List.drop_eq_nil_of_le (by simp;omega))
     ·rw [if_neg hll]
      refine .inr ⟨b,off c+l*k,by simp [gm],hX,(hm.lt i b c hp).1,?_⟩
      have hc:fh (cV E (up φ i (.nil none))) w ds b (off c):=fh.of fun j y hy=>by
       obtain ⟨u,Vz,hu2⟩:=r3.Bw j y hy
       exact ⟨u,r2 j u Vz,dR.keep nG.2.ch y u hu2⟩
      have:=(hc.take (h*k)).drop (l*k)
      simpa using this
    ·cases he
   ·cases he
  ·cases he
 ·cases he
theorem adD{t e:TypeId}{it:TypeInfo}{z:List Value}{x y:Operand}{p:PV}{aD:eu}(hm:Mem E m aP w0 φ H w)(bK:eM E φ H w ρ ev)(hu:P.underlying t=some (.slice e))(hi:P.info? e=some it)(hz:zeroOf P e it.size=some z)(h0:0<it.size)(h1:1≤it.bytes)
  (he:az γ H d ρ (.Oz e it.size it.bytes (tE z) x y)=some (p,aD)):Does P E m aP w0 φ H w p aD (do pure (.value (←Instr.makeSlice t (ev x) (ev y)))):=by
 simp only [az] at he
 split at he
 ·rename_i k1 a k2 b ds h2 h3 GM
  split at he
  ·rename_i hh
   obtain ⟨ha,hab,hby⟩:=hh
   cases he
   rw [j8 h2 (bK x),j8 h3 (bK y)]
   obtain ⟨i2,v,Ic,hv,wP,hzl⟩:=lW hz
   rw [hi] at Ic;cases Ic
   have hzs:v.cells.size=it.size:=by rw [←hzl,←wP];simp
   have Za:b.toNat≤140737488355328:=Nat.le_trans (by have:=Nat.mul_le_mul_left b.toNat h1;simpa using this) hby
   have hr:=run_make (P:=P) w t e it v hu hi hv k1 k2 a b ha hab (by
    have h:((it.bytes*b.toNat:Nat):Int)≤281474976710656:=by rw [Nat.mul_comm];omega
    rw [Int.natCast_mul,Int.toNat_of_nonneg (by omega)] at h
    exact h) (by omega)
   have VB:aY (cV E φ) w (bh φ H) (z.map ofConst) z:=aY.consts z
   rw [lV] at GM
   obtain ⟨r1,r2,_⟩:=qy GM VB
   have RH:ds.length=it.size:=by rw [r2,List.length_map,hzl]
   have dz: ∀n:Nat,aY (cV E φ) w (bh φ H) (((List.replicate n ds).flatten).map .d) ((List.replicate n z).flatten):=by
    intro n
    induction n with
    | zero=>exact rfl
    | succ n ih=>rw [List.replicate_succ,List.replicate_succ,List.flatten_cons,List.flatten_cons,List.map_append];exact r1.app ih
   have EO: ∀n:Nat,((List.replicate n ds).flatten).length=n*it.size:=by
    intro n
    induction n with
    | zero=>simp
    | succ n ih=>rw [List.replicate_succ,List.flatten_cons,List.length_append,ih,RH,Nat.succ_mul,Nat.add_comm]
   have hcell: ∀n:Nat,(madeCells v.cells (n*it.size)).toList=(List.replicate n z).flatten:=by
    intro n
    rw [←wP]
    unfold madeCells
    rw [←hzs]
    have hp:0<v.cells.size:=by omega
    induction n with
    | zero=>simp
    | succ n ih=>
     rw [List.replicate_succ',List.flatten_append,←ih]
     simp only [Array.toList_map,Array.toList_range,List.flatten_cons,List.flatten_nil,List.append_nil]
     rw [Nat.succ_mul,List.range_add,List.map_append]
     congr 1
     apply List.ext_getElem?
     intro j
     by_cases hj:j<v.cells.size
     ·simp only [List.map_map,List.getElem?_map,List.getElem?_range hj,Option.map_some,Function.comp]
      have e1:(n*v.cells.size+j)%v.cells.size=j:=by rw [Nat.mul_add_mod_self_right];exact Nat.mod_eq_of_lt hj
      rw [e1]
      simp [hj]
     ·rw [List.getElem?_eq_none (by simp;omega),List.getElem?_eq_none (by simp;omega)]
   have hle:a.toNat≤b.toNat:=by omega
   obtain ⟨bp,p1,p2,m1,t1⟩:=hm.new (aZ d 0) (by unfold aZ;omega) (.own e it.size ((List.replicate a.toNat ds).flatten)) (madeCells v.cells (b.toNat*it.size)) e b.toNat (.inr ⟨it.size,_,rfl,h0,by
     rw [←Array.length_toList,hcell]
     clear hr hab ha hby hle Za
     generalize b.toNat=n
     induction n with
     | zero=>simp
     | succ n ih=>rw [List.replicate_succ,List.flatten_cons,List.length_append,ih,hzl,Nat.succ_mul,Nat.add_comm],by unfold maxLen;omega,⟨a.toNat,EO _⟩,by rw [EO];exact Nat.mul_le_mul_right _ hle,by
     rw [EO,hcell]
     have e1:(List.replicate b.toNat z).flatten=(List.replicate a.toNat z).flatten++(List.replicate (b.toNat-a.toNat) z).flatten:=by
      rw [←List.flatten_append,List.replicate_append_replicate]
      congr 2;omega
     have hzf:((List.replicate a.toNat z).flatten).length=a.toNat*it.size:=by
      have:=(dz a.toNat).len
      rw [List.length_map,EO] at this
      exact this.symm
     rw [e1,List.take_left' hzf]
     exact dz a.toNat⟩)
   refine .inl ⟨_,_,kz hr,bp,m1,t1,?_⟩
   have:=CA (φ:=bp) (H:=up H (aZ d 0) ⟨(H (aZ d 0)).g+1,some (.own e it.size ((List.replicate a.toNat ds).flatten))⟩) (i:=aZ d 0) (k:=it.size) (e:=e) (n:=a.toNat) p1 (by rw [aQ]) h0 (EO _) hle (by unfold maxLen;omega)
   rw [aQ] at this
   exact this
  ·cases he
 ·cases he
theorem Ie{t t2 ty e:TypeId}{k:Nat}(hu:P.underlying t=some (.slice e))(hk:iG P e=some k)(a:Option Addr)(n c:Nat)(x:Option Addr)(m cx:Nat)(us:List Value)(hl:us.length=min m n*k)(hx:x=none→us= [])(hc: ∀ad,x=some ad→ ∀j u,us[j]?=some u→w.cell? (ad.add j)=some u){w':World}(hs: ∀ad,a=some ad→(storeCells ad us).run P w= .ok () w')(hn:a=none→w'=w):
  (Builtin.copy_ #[t,t2] ty #[.slice a n c,.slice x m cx]).run P w= .ok (.int .i64 (min m n:Nat)) w':=by
 have hf:(Builtin.firstCells k (Nat.min m n) (.slice x m cx)).run P w= .ok us.toArray w:=by
  cases x with
  | none=>
   have:=hx rfl
   subst this
   exact run_firstCells_none w _ _ _ _
  | some ad=>exact run_firstCells_some w _ _ ad m cx us hl (hc ad rfl)
 cases a with
 | none=>
  have:=hn rfl
  subst this
  simp [Builtin.copy_,run_underlying hu,Builtin.lenOf,fA hk,hf,goInt]
 | some ad=>
  simp [Builtin.copy_,run_underlying hu,Builtin.lenOf,fA hk,hf,hs ad rfl,goInt]
theorem adE{t t2 ty e:TypeId}{k:Nat}{x y:Operand}{p:PV}{aD:eu}(hm:Mem E m aP w0 φ H w)(bK:eM E φ H w ρ ev)(hu:P.underlying t=some (.slice e))(hk:iG P e=some k)(pI:0<k)
  (he:az γ H d ρ (.Cy k x y)=some (p,aD)):Does P E m aP w0 φ H w p aD (do pure (.value (←Builtin.copy_ #[t,t2] ty #[ev x,ev y]))):=by
 have hx:=bK x
 simp only [az] at he
 split at he
 ·rename_i i g l n q ys e1 hq
  rw [e1] at hx
  split at he
  ·rename_i e' k' cs hl
   split at he
   ·rename_i hh
    obtain ⟨rfl,GJ⟩:=hh
    cases he
    obtain ⟨hg,hb⟩:=hm.iz hl
    obtain ⟨ax,cx,us,hv,hqc,_,hnx,CB,hxa⟩:=hm.qM hq (bK y)
    obtain ⟨hsl,GK,hx2⟩:=hx
    obtain ⟨_,hlen,hp⟩:=hx2 hg e' k' cs hb
    have qN:=CB.len
    simp only [List.length_map] at qN
    have Zb:min q n*k'≤q*k':=Nat.mul_le_mul_right _ (Nat.min_le_left _ _)
    have hl1:(us.take (min q n*k')).length=min q n*k':=by rw [List.length_take,←qN,GJ];omega
    have hnone:ax=none→us.take (min q n*k')= []:=by
     intro h
     have h0:=hnx h
     have:q=0:=by omega
     subst this
     simp
    have CI: ∀ad,ax=some ad→ ∀j u,(us.take (min q n*k'))[j]?=some u→w.cell? (ad.add j)=some u:=by
     intro ad had j u hu
     rw [List.getElem?_take] at hu
     split at hu
     ·rcases hxa with h0 | ⟨b,o,e2,_,hc⟩
      ·subst h0
       have:us= []:=List.eq_nil_of_length_eq_zero (by simpa using qN.symm)
       rw [this] at hu;simp at hu
      ·rw [had] at e2;cases e2
       rw [gm];exact hc j u hu
     ·cases hu
    rw [hv]
    have hnk:n*k'≤cs.length-l*k':=by rw [Nat.add_mul] at hlen;omega
    by_cases hz:min q n*k'=0
    ·have he0:ys.take (min q n*k')= []:=by rw [hz];simp
     have hu0:us.take (min q n*k')= []:=by rw [hz];simp
     have hsp:bZ cs (l*k') (ys.take (min q n*k'))=cs:=by rw [he0];simp [bZ]
     obtain ⟨a,n',c,Ig⟩:=hsl
     have hn':n'=n:=by
      cases en:φ i with
      | nil a'=>rw [en] at hp;obtain ⟨hv',_,rfl⟩:=hp;rw [Ig] at hv';cases hv';rfl
      | blk b c'=>rw [en] at hp;obtain ⟨a',c2,hv',_⟩:=hp;rw [Ig] at hv';cases hv';rfl
     subst hn'
     rw [Ig]
     have hr:=Ie (P:=P) (w:=w) (t2:=t2) (ty:=ty) hu hk a n' c ax q cx _ hl1 hnone CI (w':=w) (fun ad _=>by rw [hu0];rfl) (fun _=>rfl)
     have nG:=hm.upd (bp:=φ) (H':=up H i ⟨g,some (.own e' k' cs)⟩) (w':=w) (fun j=>j=i) (fun j hj=>⟨rfl,dK _ _ _ _ hj⟩) (fun j hj=>by subst hj;rw [aQ];exact .inr ⟨rfl,hg,by rw [hb];exact ⟨rfl,rfl,rfl⟩⟩) (fun _ _ _=>rfl)
      (fun j b' c' hj hp=>⟨(hm.lt j b' c' hp).1,.inr ⟨c',hp⟩⟩) (fun a a' _ _ _ h1 h2 _ _=>h1.trans h2.symm) (fun j hj _=>by subst hj;rw [aQ,hb];exact ⟨fun b0 hk=>by cases b0<;>exact hk,.inl rfl⟩) (Nat.le_refl _) ⟨rfl,rfl,rfl⟩ (fun tr j b' hj hb'=>by
       subst hj
       rw [aQ] at hb'
       simp only [Option.some.injEq] at hb'
       subst hb'
       have q:=hm.rep j _ hb
       generalize φ j=pj at*
       cases pj with
       | nil a=>exact q
       | blk b c=>
        obtain ⟨q0,cur,xs,r1,r2,r3,r4,r5,r6,r7⟩:=q
        exact ⟨q0,cur,xs,r1,r2,r3,r4,r5,r6,tr.l r7⟩)
     rw [hsp]
     exact .inl ⟨_,w,kz hr,φ,nG.1,nG.2,rfl⟩
    ·have hyl:(ys.take (min q n*k')).length=min q n*k':=by rw [List.length_take,GJ];omega
     have tQ:aY (cV E φ) w (bh φ H) ((ys.take (min q n*k')).map .d) (us.take (min q n*k')):=by rw [List.map_take];exact CB.take _
     have h1: ∀u∈us.take (min q n*k'),u.oneCell'=true:=by
      intro u hu
      obtain ⟨j,hj,rfl⟩:=List.getElem_of_mem (List.mem_of_mem_take hu)
      obtain ⟨u',r1,r2⟩:=CB.Bw j ys[j] (by simp [qN,hj])
      rw [List.getElem?_eq_getElem hj] at r1;cases r1
      exact dR.one r2
     have hmn:min q n*k'≤n*k':=Nat.mul_le_mul_right _ (Nat.min_le_right _ _)
     obtain ⟨b,c,en,w',hst,m1,t1⟩:=hm.ahk hb tQ h1 (by rw [List.length_map,hyl];omega) (l*k') (.inr ⟨e',k',cs,ys.take (min q n*k'),rfl,rfl,rfl,by rw [List.length_map,hyl];rw [Nat.add_mul] at hlen;omega⟩) P
     rw [en] at hp
     obtain ⟨a,c',Ig,_,_,h3,_,_⟩:=hp
     have CJ:0<n:=by
      rcases Nat.eq_zero_or_pos n with h | h
      ·subst h;simp at hz
      ·exact h
     rw [Ig,h3 CJ]
     have hr:=Ie (P:=P) (w:=w) (t2:=t2) (ty:=ty) hu hk (some ⟨b,off c+l*k',none⟩) n c' ax q cx _ hl1 hnone CI (w':=w') (fun ad had=>by cases had;exact hst) (fun h=>by cases h)
     refine .inl ⟨_,w',kz hr,φ,?_,?_,rfl⟩
     ·show Mem _ _ _ _ _ (up H i _) _;rw [hg];exact m1
     ·show Tr _ _ _ _ _ (up H i _) _;rw [hg];exact t1
   ·cases he
  ·cases he
 ·cases he
theorem VC{t ty e:TypeId}{it:TypeInfo}{v:Value}(hu:P.underlying t=some (.slice e))(hi:P.info? e=some it)(hz:it.zero=some v)(ad:Addr)(n c:Nat)(hn:0<n){w':World}(hs:(storeCells ad (Builtin.zeroCells v.cells n).toList).run P w= .ok () w'):
  (Builtin.clear_ #[t] ty #[.slice (some ad) n c]).run P w= .ok (.tuple #[]) w':=by
 obtain ⟨n,rfl⟩: ∃m,n=m+1:=⟨n-1,by omega⟩
 simp [Builtin.clear_,run_underlying hu,zeroValue,typeInfo,hi,hz,hs]
theorem RI{t ty e:TypeId}(hu:P.underlying t=some (.slice e))(a:Option Addr)(c:Nat):(Builtin.clear_ #[t] ty #[.slice a 0 c]).run P w= .ok (.tuple #[]) w:=by
 cases a<;>simp [Builtin.clear_,run_underlying hu]
theorem RJ{v:Value}{z:List Value}{k:Nat}(wP:v.cells.toList=z)(hk:v.cells.size=k)(h0:0<k): ∀n:Nat,(Builtin.zeroCells v.cells n).toList=(List.replicate n z).flatten:=by
 intro n
 rw [←wP]
 unfold Builtin.zeroCells
 induction n with
 | zero=>simp
 | succ n ih=>
  rw [List.replicate_succ',List.flatten_append,←ih]
  simp only [Array.toList_map,Array.toList_range,List.flatten_cons,List.flatten_nil,List.append_nil]
  rw [Nat.succ_mul,List.range_add,List.map_append]
  congr 1
  apply List.ext_getElem?
  intro j
  by_cases hj:j<v.cells.size
  ·simp only [List.map_map,List.getElem?_map,List.getElem?_range hj,Option.map_some,Function.comp]
   have e1:(n*v.cells.size+j)%v.cells.size=j:=by rw [Nat.mul_add_mod_self_right];exact Nat.mod_eq_of_lt hj
   rw [e1]
   simp [hj]
  ·rw [List.getElem?_eq_none (by simp;omega),List.getElem?_eq_none (by simp;omega)]
theorem adF{t ty e:TypeId}{it:TypeInfo}{z:List Value}{x:Operand}{p:PV}{aD:eu}(hm:Mem E m aP w0 φ H w)(bK:eM E φ H w ρ ev)(hu:P.underlying t=some (.slice e))(hi:P.info? e=some it)(hz:zeroOf P e it.size=some z)(h0:0<it.size)
  (he:az γ H d ρ (.Oy it.size (tE z) x)=some (p,aD)):Does P E m aP w0 φ H w p aD (do pure (.value (←Builtin.clear_ #[t] ty #[ev x]))):=by
 have hx:=bK x
 simp only [az] at he
 split at he
 ·rename_i ds i g l n GM e1
  rw [e1] at hx
  split at he
  ·rename_i e' k' cs hl
   split at he
   ·rename_i hk
    subst hk
    cases he
    obtain ⟨i2,v,Ic,hv,wP,hzl⟩:=lW hz
    rw [hi] at Ic;cases Ic
    have hzs:v.cells.size=it.size:=by rw [←hzl,←wP];simp
    have VB:aY (cV E φ) w (bh φ H) (z.map ofConst) z:=aY.consts z
    rw [lV] at GM
    obtain ⟨r1,r2,_⟩:=qy GM VB
    have RH:ds.length=it.size:=by rw [r2,List.length_map,hzl]
    have dz: ∀n:Nat,aY (cV E φ) w (bh φ H) (((List.replicate n ds).flatten).map .d) ((List.replicate n z).flatten):=by
     intro n
     induction n with
     | zero=>exact rfl
     | succ n ih=>rw [List.replicate_succ,List.replicate_succ,List.flatten_cons,List.flatten_cons,List.map_append];exact r1.app ih
    have EO: ∀n:Nat,((List.replicate n ds).flatten).length=n*it.size:=by
     intro n
     induction n with
     | zero=>simp
     | succ n ih=>rw [List.replicate_succ,List.flatten_cons,List.length_append,ih,RH,Nat.succ_mul,Nat.add_comm]
    obtain ⟨hg,hb⟩:=hm.iz hl
    obtain ⟨hsl,GK,hx2⟩:=hx
    obtain ⟨_,hlen,hp⟩:=hx2 hg e' it.size cs hb
    by_cases hn:n=0
    ·subst hn
     have hsp:bZ cs (l*it.size) ((List.replicate 0 ds).flatten)=cs:=by simp [bZ]
     obtain ⟨a,n',c,Ig⟩:=hsl
     have hn':n'=0:=by
      cases en:φ i with
      | nil a'=>rw [en] at hp;obtain ⟨hv',_,_⟩:=hp;rw [Ig] at hv';cases hv';rfl
      | blk b c'=>rw [en] at hp;obtain ⟨a',c2,hv',_⟩:=hp;rw [Ig] at hv';cases hv';rfl
     subst hn'
     rw [Ig]
     have nG:=hm.upd (bp:=φ) (H':=up H i ⟨g,some (.own e' it.size cs)⟩) (w':=w) (fun j=>j=i) (fun j hj=>⟨rfl,dK _ _ _ _ hj⟩) (fun j hj=>by subst hj;rw [aQ];exact .inr ⟨rfl,hg,by rw [hb];exact ⟨rfl,rfl,rfl⟩⟩) (fun _ _ _=>rfl)
      (fun j b' c' hj hp=>⟨(hm.lt j b' c' hp).1,.inr ⟨c',hp⟩⟩) (fun a a' _ _ _ h1 h2 _ _=>h1.trans h2.symm) (fun j hj _=>by subst hj;rw [aQ,hb];exact ⟨fun b0 hk=>by cases b0<;>exact hk,.inl rfl⟩) (Nat.le_refl _) ⟨rfl,rfl,rfl⟩ (fun tr j b' hj hb'=>by
       subst hj
       rw [aQ] at hb'
       simp only [Option.some.injEq] at hb'
       subst hb'
       have q:=hm.rep j _ hb
       generalize φ j=pj at*
       cases pj with
       | nil a=>exact q
       | blk b c=>
        obtain ⟨q0,cur,xs,r1,r2,r3,r4,r5,r6,r7⟩:=q
        exact ⟨q0,cur,xs,r1,r2,r3,r4,r5,r6,tr.l r7⟩)
     rw [hsp]
     exact .inl ⟨_,w,kz (RI hu a c),φ,nG.1,nG.2,⟨#[],rfl,rfl⟩⟩
    ·have CJ:0<n:=by omega
     have h1: ∀u∈(List.replicate n z).flatten,u.oneCell'=true:=by
      intro u hu
      obtain ⟨j,hj,rfl⟩:=List.getElem_of_mem hu
      have hz2:=(dz n).len
      rw [List.length_map] at hz2
      obtain ⟨u',r1,r2⟩:=(dz n).Bw j ((List.replicate n ds).flatten[j]'(by omega)) (by rw [List.getElem?_eq_getElem])
      rw [List.getElem?_eq_getElem hj] at r1;cases r1
      exact dR.one r2
     obtain ⟨b,c,en,w',hst,m1,t1⟩:=hm.ahk hb (dz n) h1 (by rw [List.length_map,EO];exact Nat.mul_pos CJ h0) (l*it.size) (.inr ⟨e',it.size,cs,(List.replicate n ds).flatten,rfl,rfl,rfl,by rw [List.length_map,EO];rw [Nat.add_mul] at hlen;omega⟩) P
     rw [en] at hp
     obtain ⟨a,c',Ig,_,_,h3,_,_⟩:=hp
     rw [Ig,h3 CJ]
     have hr:=VC (P:=P) (w:=w) (ty:=ty) hu hi hv ⟨b,off c+l*it.size,none⟩ n c' CJ (w':=w') (by rw [RJ wP hzs h0];exact hst)
     refine .inl ⟨_,w',kz hr,φ,?_,?_,⟨#[],rfl,rfl⟩⟩
     ·show Mem _ _ _ _ _ (up H i _) _;rw [hg];exact m1
     ·show Tr _ _ _ _ _ (up H i _) _;rw [hg];exact t1
   ·cases he
  ·cases he
 ·cases he
theorem adG{t tx ty e:TypeId}{it:TypeInfo}{z:Value}{x y:Operand}{p:PV}{aD:eu}(hm:Mem E m aP w0 φ H w)(bK:eM E φ H w ρ ev)(hu:P.underlying t=some (.slice e))(hi:P.info? e=some it)(hz:it.zero=some z)
  (hzs:z.cells.size=it.size) (h0:0<it.size) (h1:1≤it.bytes) (hk:(∃e',P.underlying tx=some (.slice e'))∨P.underlying tx=some .string)
  (he:az γ H d ρ (.app e it.size it.bytes x y)=some (p,aD)):Does P E m aP w0 φ H w p aD (do pure (.value (←Builtin.append_ #[t,tx] ty #[ev x,ev y]))):=by
 have hx:=bK x
 have hy:=bK y
 simp only [az] at he
 split at he
 ·cases he
 ·rename_i q ys hq
  split at he
  ·rename_i GJ
   split at he
   ·rename_i i g n e1
    rw [e1] at hx
    split at he
    ·rename_i e' k' cs hl
     split at he
     ·rename_i hh
      obtain ⟨rfl,rfl,hcs,hb⟩:=hh
      cases he
      obtain ⟨hg,OM⟩:=hm.iz hl
      subst hg
      obtain ⟨v',w',bp,hr,m1,t1,r1⟩:=hm.app P (ty:=ty) OM hcs GJ hb h1 hu hi hz rfl rfl hzs hx (hm.Y9 hk h0 hq GJ hy)
      exact .inl ⟨v',w',kz hr,bp,m1,t1,r1⟩
     ·cases he
    ·cases he
   ·rename_i e1
    rw [e1] at hx
    obtain ⟨a,hv⟩:=hx
    split at he
    ·rename_i hb;cases he
     obtain ⟨dA,p1,m1,t1⟩:=hm.OC (aZ d 0) (by unfold aZ;omega) e it.size h0 a
     have hr1:=oJ (φ:=dA) (H:=up H (aZ d 0) ⟨(H (aZ d 0)).g+1,some (.own e it.size [])⟩) (i:=aZ d 0) (k:=it.size) (e:=e) p1 (by rw [aQ]) h0
     obtain ⟨us,CB,CC⟩:=hm.Y9 hk h0 hq GJ hy
     have hq1: ∃us,aY (cV E dA) w (bh dA (up H (aZ d 0) ⟨(H (aZ d 0)).g+1,some (.own e it.size [])⟩)) (ys.map .d) us∧Src P it.size tx (ev y) q us w:=⟨us,t1.l CB,CC⟩
     obtain ⟨v',w',bp,hr,m2,t2,r2⟩:=m1.app P (ty:=ty) (n:=0) (cs:= []) (by rw [aQ]) (by simp) GJ (by rw [Nat.zero_add];exact hb) h1 hu hi hz rfl rfl hzs hr1 hq1
     simp only [aQ,HX,List.nil_append,Nat.zero_add] at m2 t2 r2
     rw [hv]
     exact .inl ⟨v',w',kz hr,bp,m2,t1.trans t2,r2⟩
    ·cases he
   ·cases he
  ·cases he

theorem dR.free{X Y:Nat→Prop}{w:World}{x:PD}{v:Value}(h:fM (.d x)=true)(q:dR X w x v):dR Y w x v:=by
 cases x with
 | sl n cs=>
  obtain ⟨a,c,h1,h2,h3,h4,h5⟩:=q
  simp [fM] at h
  exact ⟨a,c,h1,h2,h3,h4,.inl h⟩
 | _=>exact q
theorem dR.sub{X Y:Nat→Prop}{w:World}(h: ∀b,b<w.heap.size→ ¬X b→ ¬Y b){x:PD}{v:Value}(q:dR X w x v):dR Y w x v:=
 dR.keep ⟨Nat.le_refl _,fun b hb hx=>⟨rfl,h b hb hx⟩⟩ x v q
theorem fh.sub{X Y:Nat→Prop}{w:World}(h: ∀b,b<w.heap.size→ ¬X b→ ¬Y b){cs:List PD}{b o:Nat}(hx: ¬X b)(hl:b<w.heap.size)(q:fh X w cs b o):fh Y w cs b o:=
 fh.keep ⟨Nat.le_refl _,fun b hb hx=>⟨rfl,h b hb hx⟩⟩ cs b o hx hl q
def FH(E:Nat→Prop)(φ:Nat→cg)(ids:List Nat)(b:Nat):Prop:=cV E φ b∧ ∀i∈ids,∀c,φ i≠ .blk b c
theorem fh.Ih{X Y:Nat→Prop}{R:Ref→Value→Prop}(tT: ∀b,b<w.heap.size→ ¬X b→ ¬Y b){cs:List PD}{us:List Value}{b o0:Nat}(hr:aY X w R (cs.map .d) us)(hc: ∀j u,us[j]?=some u→w.cell? ⟨b,o0+j,none⟩=some u):fh Y w cs b o0:=
 fh.of fun j x hx=>by
  obtain ⟨u,h1,h2⟩:=hr.Bw j x hx
  exact ⟨u,hc j u h1,h2.sub tT⟩
theorem VD{cs:List PV}(h:cs.all Bv=true):gT cs=true:=by
 unfold gT
 split
 ·simp [Bv] at h
 ·simp [Bv] at h
 ·simp [Bv] at h
 ·simp [Bv] at h
 ·rfl
theorem avK: ∀(cs:List PV) (us:List Value),cs.all Bv=true→aY (cV E φ) w (bh φ H) cs us→aY (cV E φ) w (bh φ H) ((cs.map fun p=>(toD p).getD .un).map .d) us
 | [],_,_,h=>h
 | p::ps,us,hk,⟨v,r,e,q1,q2⟩=>by
  simp only [List.all_cons,Bool.and_eq_true] at hk
  refine ⟨v,r,e,?_,avK ps r hk.2 q2⟩
  show dR (cV E φ) w ((toD p).getD .un) v
  cases hp:toD p with
  | some x=>exact toD_rep hp q1
  | none=>
   show v.oneCell'=true
   cases p with
   | un=>simp [Bv] at hk
   | bE _=>simp [Bv] at hk
   | d x=>simp [toD] at hp
   | nil=>simp [toD] at hp
   | jo=>simp [toD] at hp
   | agg _=>simp [Bv] at hk
   | cD _=>obtain ⟨_,_,e,_⟩:=q1;subst e;rfl
   | fn=>obtain ⟨_,e,_⟩:=q1;subst e;rfl
   | r x=>cases x with
    | own=>exact q1.elim
    | ptr=>obtain ⟨⟨_,_,e⟩,_⟩:=q1;subst e;rfl
    | aJ=>obtain ⟨⟨_,_,_,e⟩,_⟩:=q1;subst e;rfl
mutual
theorem VE(hm:Mem E m aP w0 φ H w)(ids:List Nat): ∀(p p':PV) (v:Value),gA H p=some p'→(∀i∈dw p,i∈ids)→cJ (cV E φ) w (bh φ H) p v→cJ (FH E φ ids) w (fun _ _=>False) p' v
 | .d x,p',v,h,_,q=>by
  simp only [gA,Option.some.injEq] at h;subst h
  exact dR.sub (fun b _ hx hy=>hx hy.1) q
 | .agg cs,p',v,h,hi,q=>by
  simp only [gA,Option.map_eq_some_iff] at h
  obtain ⟨l,h1,rfl⟩:=h
  obtain ⟨vs,hv,q⟩:=q
  exact ⟨vs,hv,u6 hm ids cs l _ h1 hi q⟩
 | .fn f cs,p',v,h,hi,q=>by
  simp only [gA,Option.map_eq_some_iff] at h
  obtain ⟨l,h1,rfl⟩:=h
  obtain ⟨vs,hv,q⟩:=q
  exact ⟨vs,hv,u6 hm ids cs l _ h1 hi q⟩
 | .cD cs,p',v,h,_,q=>by
  simp only [gA,Option.some.injEq] at h;subst h
  obtain ⟨b,o,hv,h1,h2,h3⟩:=q
  exact ⟨b,o,hv,fun hy=>h1 hy.1,h2,h3.sub (fun b _ hx hy=>hx hy.1) h1 h2⟩
 | .nil,p',v,h,_,q=>by
  simp only [gA,Option.some.injEq] at h;subst h
  obtain ⟨a,rfl⟩:=q
  exact ⟨a,0,rfl,Nat.le_refl _,by simp,fun _=>rfl,.inl rfl⟩
 | .jo z n cs,p',v,h,_,q=>by
  simp only [gA,Option.some.injEq] at h;subst h
  exact dR.sub (fun b _ hx hy=>hx hy.1) q.1
 | .un,p',v,h,_,q=>by
  simp only [gA,Option.some.injEq] at h;subst h
  trivial
 | .bE _,_,_,h,_,_=>by simp [gA] at h
 | .r (.own ..),_,_,h,_,_=>by simp [gA] at h
 | .r (.ptr i g o),p',v,h,hi,q=>by
  simp only [gA] at h
  split at h
  ·rename_i b hl
   simp only [Option.map_eq_some_iff] at h
   obtain ⟨cs,hcs,rfl⟩:=h
   obtain ⟨x,c,hp,hv,us,r1,r2⟩:=hm.cells (fun cs' h=>by
    subst h
    simp only [Y7] at hcs
    split at hcs
    ·rename_i hk;exact VD hk
    ·cases hcs) hl q
   have hx: ¬FH E φ ids x:=fun hy=>hy.2 i (hi i (by simp [dw])) c hp
   have hr:aY (cV E φ) w (bh φ H) (cs.map .d) us:=by
    cases b with
    | box l=>
     simp only [Y7] at hcs
     split at hcs
     ·rename_i hk;cases hcs;exact avK l us hk r1
     ·cases hcs
    | own e k l=>simp only [Y7,Option.some.injEq] at hcs;subst hcs;exact r1
   refine ⟨x,off c+o,hv,hx,(hm.lt i x c hp).1,?_⟩
   have:=fh.Ih (o0:=off c) (Y:=FH E φ ids) (fun b _ hx hy=>hx hy.1) hr r2
   simpa using this.drop o
  ·cases h
 | .r (.aJ i g l n),p',v,h,hi,q=>by
  simp only [gA] at h
  split at h
  ·rename_i e k cs hl
   simp only [Option.some.injEq] at h;subst h
   obtain ⟨hg,hb⟩:=hm.iz hl
   have ha:fJ H (.r (.aJ i g l n))=some (n,(cs.drop (l*k)).take (n*k)):=by simp only [fJ,hl]
   obtain ⟨a,c,us,hv,h1,h2,h3,h4,h5⟩:=hm.qM ha q
   refine ⟨a,c,hv,h1,h2,h3,?_⟩
   rcases h5 with h5 | ⟨b,o,ea,mU,hc⟩
   ·exact .inl h5
   ·by_cases hne:(cs.drop (l*k)).take (n*k)= []
    ·exact .inl hne
    ·refine .inr ⟨b,o,ea,?_,mU,fh.Ih (fun b _ hx hy=>hx hy.1) h4 hc⟩
     obtain ⟨_,_,q2⟩:=q
     obtain ⟨hk,hle,hp⟩:=q2 hg e k cs hb
     intro hy
     cases en:φ i with
     | nil a'=>rw [en] at hp;obtain ⟨_,_,rfl⟩:=hp;exact hne (by simp)
     | blk b1 c1=>
      rw [en] at hp
      obtain ⟨a',c',hv',_,_,h6,_,_⟩:=hp
      have h6:=h6 (by
       rcases Nat.eq_zero_or_pos n with h0 | h0
       ·subst h0;exact absurd (by simp) hne
       ·exact h0)
      rw [hv] at hv';cases hv'
      rw [h6] at ea;cases ea
      exact hy.2 i (hi i (by simp [dw])) c1 en
  ·cases h
theorem u6(hm:Mem E m aP w0 φ H w)(ids:List Nat): ∀(ps EP:List PV) (vs:List Value),gU H ps=some EP→(∀i∈bA ps,i∈ids)→aY (cV E φ) w (bh φ H) ps vs→aY (FH E φ ids) w (fun _ _=>False) EP vs
 | [],EP,vs,h,_,q=>by
  simp only [gU,Option.some.injEq] at h;subst h;exact q
 | p::ps,EP,vs,h,hi,⟨v,r,e,q1,q2⟩=>by
  simp only [gU] at h
  split at h
  ·rename_i x xs h1 h2
   simp only [Option.some.injEq] at h;subst h
   exact ⟨v,r,e,VE hm ids p x v h1 (fun i hx=>hi i (by simp [bA,hx])) q1,u6 hm ids ps xs r h2 (fun i hx=>hi i (by simp [bA,hx])) q2⟩
  ·cases h
end
theorem jt: ∀(l:List (Nat×cq)) (H:Nat→cq) (i:Nat),(∀x∈l,x.1≠i)→eJ H l i=H i
 | [],_,_,_=>rfl
 | x::l,H,i,h=>by
  simp only [eJ]
  rw [jt l _ i (fun y hy=>h y (by simp [hy])),dK _ _ _ _ (fun e=>h x (by simp) e.symm)]
theorem Ii: ∀(l:List (Nat×bH)) (f:Nat→Nat) (c:Nat×bH→cq) (H:Nat→cq) (x:Nat×bH),(∀y∈l,∀z∈l,f y.1=f z.1→y.1=z.1)→distinct (l.map (·.1))=true→x∈l→eJ H (l.map fun y=>(f y.1,c y)) (f x.1)=c x
 | [],_,_,_,x,_,_,h=>by cases h
 | y::l,f,c,H,x,hf,hd,h=>by
  simp only [List.map_cons,distinct,Bool.and_eq_true,List.all_eq_true] at hd
  have hne: ∀z∈l,y.1≠z.1:=fun z hz e=>by
   have:=hd.1 z.1 (List.mem_map_of_mem hz)
   simp [e] at this
  simp only [List.map_cons,eJ]
  rcases List.mem_cons.1 h with rfl | h
  ·rw [jt _ _ _ (fun z hz e=>by
    obtain ⟨u,hu,rfl⟩:=List.mem_map.1 hz
    exact hne u hu (hf x (by simp) u (by simp [hu]) e.symm)),aQ]
  ·exact Ii l f c _ x (fun a ha b hb=>hf a (by simp [ha]) b (by simp [hb])) hd.2 h
mutual
theorem RM{Y X':Nat→Prop}{w':World}{dA:Nat→cg}{bs:List bH}{β bp:Nat→cg}{H':Nat→cq}(h2: ∀j e k n cs v,gI dA bs β (.own j e k n cs) v→H' (aZ d j)=⟨(H (aZ d j)).g+1,some (.own e k cs)⟩→bp (aZ d j)=β j→bh bp H' (.aJ (aZ d j) ((H (aZ d j)).g+1) 0 n) v):
  ∀(p:PV) (v:Value),((∀b,b<w'.heap.size→ ¬Y b→ ¬X' b)∨fM p=true)→(∀x∈owns p,H' (aZ d x.1)=⟨(H (aZ d x.1)).g+1,some x.2⟩∧bp (aZ d x.1)=β x.1)→cJ Y w' (gI dA bs β) p v→cJ X' w' (bh bp H') (Ah H d p) v
 | .d x,v,hc,_,q=>by
  rcases hc with hc | hc
  ·exact dR.sub hc q
  ·exact dR.free hc q
 | .agg cs,v,hc,ho,⟨vs,e,q⟩=>⟨vs,e,CK h2 cs _ hc ho q⟩
 | .bE cs,v,hc,ho,⟨vs,e,q⟩=>⟨vs,e,CK h2 cs _ hc ho q⟩
 | .fn f cs,v,hc,ho,⟨vs,e,q⟩=>⟨vs,e,CK h2 cs _ hc ho q⟩
 | .cD cs,v,hc,_,⟨b,o,e,h3,h4,h5⟩=>by
  rcases hc with hc | hc
  ·exact ⟨b,o,e,hc b h4 h3,h4,h5.sub hc h3 h4⟩
  ·simp [fM] at hc
 | .nil,v,_,_,q=>q
 | .jo z n cs,v,hc,_,q=>by
  rcases hc with hc | hc
  ·exact ⟨dR.sub hc q.1,q.2⟩
  ·exact ⟨dR.free hc q.1,q.2⟩
 | .un,v,_,_,q=>trivial
 | .r (.ptr ..),v,_,_,q=>trivial
 | .r (.aJ ..),v,_,_,q=>trivial
 | .r (.own j e k n cs),v,_,ho,q=>by
  obtain ⟨h3,h4⟩:=ho (j,.own e k cs) (by simp [owns])
  exact h2 j e k n cs v q h3 h4
theorem CK{Y X':Nat→Prop}{w':World}{dA:Nat→cg}{bs:List bH}{β bp:Nat→cg}{H':Nat→cq}(h2: ∀j e k n cs v,gI dA bs β (.own j e k n cs) v→H' (aZ d j)=⟨(H (aZ d j)).g+1,some (.own e k cs)⟩→bp (aZ d j)=β j→bh bp H' (.aJ (aZ d j) ((H (aZ d j)).g+1) 0 n) v):
  ∀(ps:List PV) (vs:List Value),((∀b,b<w'.heap.size→ ¬Y b→ ¬X' b)∨mQ ps=true)→(∀x∈eB ps,H' (aZ d x.1)=⟨(H (aZ d x.1)).g+1,some x.2⟩∧bp (aZ d x.1)=β x.1)→aY Y w' (gI dA bs β) ps vs→aY X' w' (bh bp H') (Rh H d ps) vs
 | [],vs,_,_,q=>q
 | p::ps,vs,hc,ho,⟨v,r,e,q1,q2⟩=>by
  refine ⟨v,r,e,RM h2 p v (hc.imp id fun h=>?_) (fun x hx=>ho x (by simp [eB,hx])) q1,CK h2 ps r (hc.imp id fun h=>?_) (fun x hx=>ho x (by simp [eB,hx])) q2⟩
  ·simp only [mQ,Bool.and_eq_true] at h;exact h.1
  ·simp only [mQ,Bool.and_eq_true] at h;exact h.2
end
mutual
theorem Ij: ∀(p:PV),fM p=true→ ∀x∈owns p,∀e k cs,x.2= .own e k cs→ ∀c∈cs,fM (.d c)=true
 | .agg cs,h,x,hx=>sU cs h x hx
 | .bE cs,h,x,hx=>sU cs h x hx
 | .fn _ cs,h,x,hx=>sU cs h x hx
 | .d _,_,x,hx=>by simp [owns] at hx
 | .cD _,_,x,hx=>by simp [owns] at hx
 | .nil,_,x,hx=>by simp [owns] at hx
 | .jo ..,_,x,hx=>by simp [owns] at hx
 | .un,_,x,hx=>by simp [owns] at hx
 | .r (.ptr ..),_,x,hx=>by simp [owns] at hx
 | .r (.aJ ..),_,x,hx=>by simp [owns] at hx
 | .r (.own j e k n cs),h,x,hx=>by
  simp only [owns,List.mem_singleton] at hx
  subst hx
  intro e' k' cs' he c hc
  cases he
  simp only [fM,List.all_eq_true] at h
  have:=h c hc
  cases c<;>first | rfl | exact this
theorem sU: ∀(ps:List PV),mQ ps=true→ ∀x∈eB ps,∀e k cs,x.2= .own e k cs→ ∀c∈cs,fM (.d c)=true
 | [],_,x,hx=>by simp [eB] at hx
 | p::ps,h,x,hx=>by
  simp only [mQ,Bool.and_eq_true] at h
  simp only [eB,List.mem_append] at hx
  rcases hx with hx | hx
  ·exact Ij p h.1 x hx
  ·exact sU ps h.2 x hx
end
mutual
theorem y8: ∀(p:PV),∀x∈owns p,∃e k cs,x.2= .own e k cs
 | .agg cs,x,hx=>nU cs x hx
 | .bE cs,x,hx=>nU cs x hx
 | .fn _ cs,x,hx=>nU cs x hx
 | .d _,x,hx=>by simp [owns] at hx
 | .cD _,x,hx=>by simp [owns] at hx
 | .nil,x,hx=>by simp [owns] at hx
 | .jo ..,x,hx=>by simp [owns] at hx
 | .un,x,hx=>by simp [owns] at hx
 | .r (.ptr ..),x,hx=>by simp [owns] at hx
 | .r (.aJ ..),x,hx=>by simp [owns] at hx
 | .r (.own j e k n cs),x,hx=>by simp only [owns,List.mem_singleton] at hx;subst hx;exact ⟨e,k,cs,rfl⟩
theorem nU: ∀(ps:List PV),∀x∈eB ps,∃e k cs,x.2= .own e k cs
 | [],x,hx=>by simp [eB] at hx
 | p::ps,x,hx=>by
  simp only [eB,List.mem_append] at hx
  rcases hx with hx | hx
  ·exact y8 p x hx
  ·exact nU ps x hx
end
theorem aY.Zd{X Y:Nat→Prop}{R R':Ref→Value→Prop}{w:World}: ∀{cs:List PD} {vs:List Value},(∀c∈cs,fM (.d c)=true)→aY X w R (cs.map .d) vs→aY Y w R' (cs.map .d) vs
 | [],_,_,q=>q
 | c::cs,_,h,⟨v,r,e,q1,q2⟩=>⟨v,r,e,dR.free (h c (by simp)) q1,aY.Zd (fun c hc=>h c (by simp [hc])) q2⟩
theorem aY.Bz{X Y:Nat→Prop}{R R':Ref→Value→Prop}{w:World}(h: ∀b,b<w.heap.size→ ¬X b→ ¬Y b): ∀{cs:List PD} {vs:List Value},aY X w R (cs.map .d) vs→aY Y w R' (cs.map .d) vs
 | [],_,q=>q
 | c::cs,_,⟨v,r,e,q1,q2⟩=>⟨v,r,e,dR.sub h q1,aY.Bz h q2⟩
theorem RN(d j:Nat):aZ d j-8*d-8=j:=by unfold aZ;omega
theorem BA(hm:Mem E m aP w0 φ H w)(kL:nS P γ w0 aP){f:Nat}{args:List PV}{vs:List Value}{p:PV}{aD:eu}(hargs:aY (cV E φ) w (bh φ H) args vs)(he:jq γ H d f args=some (p,aD)){x:Sem Next}
  (hx:x.run P w=(callFunc f vs.toArray).run P w):Does P E m aP w0 φ H w p aD x:=by
 unfold jq at he
 split at he
 ·cases he
 ·rename_i l hl
  split at he
  ·cases he
  ·rename_i r hr
   split at he
   ·rename_i Ik
    simp only [Option.some.injEq,Prod.mk.injEq] at he
    obtain ⟨rfl,rfl⟩:=he
    simp only [Bool.and_eq_true,Bool.or_eq_true,List.isEmpty_iff,List.all_eq_true,decide_eq_true_eq] at Ik
    obtain ⟨⟨ahB,VF⟩,hj8⟩:=Ik
    obtain ⟨ahC,Il⟩:=kL f l [] r [] (ahm hr)
    have hE: ∀b,FH E φ (bA args) b→b<w.heap.size:=by
     intro b hb
     rcases hb.1 with h | ⟨i,c,h⟩
     ·exact Nat.lt_of_lt_of_le (hm.ext b h) hm.sz
     ·exact (hm.lt i b c h).1
    have tU:Passed (FH E φ (bA args)) w (fun _=> .nil none) []:=⟨by simp,(fun i b c h=>by cases h),(fun i j b c c' h=>by cases h),(fun i b h=>by simp at h)⟩
    have hc:=Il (FH E φ (bA args)) w (fun _=> .nil none) vs (hm.later.sub fun _ _ _ h=>by cases h) hE tU (aY.keep (Ch.refl _ _) (fun _ _ h=>h.elim) _ _ (u6 hm _ args l vs hl (fun _ h=>h) hargs))
    refine .inr (.inr ⟨f,vs.toArray,by rw [hx];exact ahC _ _,hc.mono ?_⟩)
    rintro e w' ⟨v,dA,β,rfl,hb,ho⟩
    refine ⟨v,rfl,?_⟩
    have aEb: ∀i b c,dA i≠ .blk b c:=fun i b c h=>by have:=(ho.dom i b c h).1;simp at this
    -- the new blocks
    let I:Nat→Prop:=fun i=> ∃y∈owns r,i=aZ d y.1
    have VG: ∀a b,aZ d a=aZ d b→a=b:=fun a b h=>by unfold aZ at h;omega
    have hH: ∀y∈owns r,eJ H ((owns r).map fun x=>nw H (aZ d x.1) x.2) (aZ d y.1)=⟨(H (aZ d y.1)).g+1,some y.2⟩:=
     fun y hy=>Ii (owns r) (aZ d) (fun y=>⟨(H (aZ d y.1)).g+1,some y.2⟩) H y (fun _ _ _ _ h=>VG _ _ h) VF hy
    have hH2: ∀i,¬I i→eJ H ((owns r).map fun x=>nw H (aZ d x.1) x.2) i=H i:=
     fun i hi=>jt _ _ _ (fun y hy e=>by
      obtain ⟨z,hz,rfl⟩:=List.mem_map.1 hy
      exact hi ⟨z,hz,e.symm⟩)
    let bp:Nat→cg:=fun i=>if (owns r).any (fun y=>Nat.beq i (aZ d y.1)) then β (i-8*d-8) else φ i
    have qO: ∀y∈owns r,bp (aZ d y.1)=β y.1:=fun y hy=>by
     show (if _ then _ else _)=_
     rw [if_pos (List.any_eq_true.2 ⟨y,hy,by simp⟩),RN]
    have avL: ∀i,¬I i→bp i=φ i:=fun i hi=>by
     show (if _ then _ else _)=_
     rw [if_neg]
     intro h
     obtain ⟨y,hy,e⟩:=List.any_eq_true.1 h
     exact hi ⟨y,hy,by simpa using e⟩
    have tT:bA args= []→ ∀b,b<w'.heap.size→ ¬Yo (FH E φ (bA args)) dA β b→ ¬cV E bp b:=by
     intro h0 b _ hn EF
     rw [h0] at hn
     rcases EF with h | ⟨i,c,h⟩
     ·exact hn (.inl ⟨.inl h,by simp⟩)
     ·by_cases hI:I i
      ·obtain ⟨y,hy,rfl⟩:=hI
       rw [qO y hy] at h
       exact hn (.inr (.inr ⟨_,_,h⟩))
      ·rw [avL i hI] at h
       exact hn (.inl ⟨.inr ⟨i,c,h⟩,by simp⟩)
    have nG:=hm.upd (bp:=bp) (w':=w') (H':=eJ H ((owns r).map fun x=>nw H (aZ d x.1) x.2)) I (fun j hj=>⟨avL j hj,hH2 j hj⟩)
     (fun j hj=>by obtain ⟨y,hy,rfl⟩:=hj;rw [hH y hy];exact .inl (Nat.lt_succ_self _))
     (fun b hb' _=>hb.blk b hb' (fun i c h=>by cases h))
     (fun j b c hj hp=>by obtain ⟨y,hy,rfl⟩:=hj;rw [qO y hy] at hp;have:=ho.new _ _ _ hp;exact ⟨this.2,.inl this.1⟩)
     (fun i j b c c' hi hj h1 h2=>by
      obtain ⟨y,hy,rfl⟩:=hi
      obtain ⟨z,hz,rfl⟩:=hj
      rw [qO y hy] at h1
      rw [qO z hz] at h2
      rw [ho.inj _ _ _ _ _ h1 h2])
     (fun j hj tP=>by obtain ⟨y,hy,rfl⟩:=hj;have:=hm.m8;unfold aZ at tP;omega)
     hb.size ⟨hb.os,hb.tape,hb.out⟩ (by
      intro tr j b hj hb'
      obtain ⟨y,hy,rfl⟩:=hj
      rw [hH y hy] at hb'
      simp only [Option.some.injEq] at hb'
      subst hb'
      rw [qO y hy]
      have q:=ho.own y (by simp only [cA,List.flatMap_nil,List.append_nil];exact hy)
      obtain ⟨e,k,cs,hown⟩:=y8 r y hy
      rw [hown] at q ⊢
      cases tV:β y.1 with
      | nil a=>rw [tV] at q;exact q
      | blk b1 c1=>
       rw [tV] at q
       obtain ⟨q0,cur,xs,r1,r2,r3,r4,r5,r6,r7⟩:=q
       refine ⟨q0,cur,xs,r1,r2,r3,r4,r5,r6,?_⟩
       rcases ahB with h0 | h0
       ·exact aY.Bz (tT h0) r7
       ·exact aY.Zd (Ij r h0 y hy e k cs hown) r7)
    refine ⟨bp,nG.1,nG.2,?_⟩
    refine RM (β:=β) ?_ r v (ahB.imp tT id) (fun y hy=>⟨hH y hy,qO y hy⟩) ho.rep
    intro j e k n cs v' kn OO CL
    obtain ⟨hk,hlen,hv'⟩:=kn
    cases tV:β j with
    | nil a=>
     rw [tV] at hv' CL
     obtain ⟨rfl,rfl⟩:=hv'
     have hn:n=0:=by
      rw [List.length_nil] at hlen
      rcases Nat.mul_eq_zero.1 hlen.symm with h | h
      ·exact h
      ·omega
     subst hn
     have:=oJ (H:=eJ H ((owns r).map fun x=>nw H (aZ d x.1) x.2)) (i:=aZ d j) (e:=e) CL (by rw [OO]) hk
     rw [OO] at this
     exact this
    | blk b c=>
     rw [tV] at hv' CL
     obtain ⟨rfl,hn⟩:=hv'
     have:=qw (H:=eJ H ((owns r).map fun x=>nw H (aZ d x.1) x.2)) (i:=aZ d j) (e:=e) (cs:=cs) CL (by rw [OO]) hk hlen hn
     rw [OO] at this
     exact this
   ·cases he
theorem CN: ∀(l:eu) (H:Nat→cq),wW H l=eJ H l
 | [],_=>rfl
 | x::l,H=>CN l (up H x.1 x.2)
theorem RO(hm:Mem E m aP w0 φ H w)(kL:nS P γ w0 aP){f:Nat}{args:List PV}{vs:List Value}{p:PV}{aD:eu}(hargs:aY (cV E φ) w (bh φ H) args vs)(he:tN γ H d f args=some (p,aD)){x:Sem Next}
  (hx:x.run P w=(callFunc f vs.toArray).run P w):Does P E m aP w0 φ H w p aD x:=by
 unfold tN at he
 split at he
 rotate_left
 ·cases he
 rename_i hall
 split at he
 rotate_left
 ·cases he
 rename_i p' nJ hc
 cases he
 rw [CN] at hc
 obtain ⟨dA,m0,t0,fr⟩:=hm.freeze (kr (bA args)) false (fun i hi=>by
  simp only [kr,List.any_eq_true] at hi
  obtain ⟨x,hx,he⟩:=hi
  have e:i=x:=Nat.eq_of_beq_eq_true he
  subst e
  have:=List.all_eq_true.1 hall i hx
  simp at this
  exact .inr this.1) (H':=eJ H (ig H (bA args))) (fun i=>by unfold ig;rw [u5 H];simp)
 have apO:aY (cV E dA) w (bh dA (eJ H (ig H (bA args)))) (jO (kr (bA args)) H args) vs:=by
  have:=fr (.agg args) (.agg vs.toArray) ⟨_,rfl,by simpa using hargs⟩
  unfold mj at this
  obtain ⟨Im,e,q⟩:=this
  cases e;simpa using q
 have hd:=BA (x:=x) m0 kL apO hc hx
 have conv: ∀v w',Post E m aP w0 dA (eJ H (ig H (bA args))) w p nJ v w'→Post E m aP w0 φ H w p (ig H (bA args)++nJ) v w':=by
  rintro v w' ⟨bp,m1,t1,r1⟩
  refine ⟨bp,?_,?_,?_⟩<;>rw [Ib]
  ·exact m1
  ·exact t0.trans t1
  ·exact r1
 rcases hd with ⟨v,w',hr,hp⟩ | ⟨w',hr,hp⟩ | ⟨f',a',hr,p_⟩
 ·exact .inl ⟨v,w',hr,conv _ _ hp⟩
 ·exact .inr (.inl ⟨w',hr,conv _ _ hp⟩)
 ·exact .inr (.inr ⟨f',a',hr,p_.mono (by rintro e w' ⟨v,rfl,hp⟩;exact ⟨v,rfl,conv _ _ hp⟩)⟩)
end
end Go.Proofs.YtimbfadnabfabaaGreatDoor.Pm
