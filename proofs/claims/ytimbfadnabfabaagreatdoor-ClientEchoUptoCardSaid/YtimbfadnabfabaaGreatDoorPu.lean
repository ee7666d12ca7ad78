/- The small machine: its operations are the language's: literals, append, calls. No program is named here. -/
import Derived.Test.YtimbfadnabfabaaGreatDoorPt
import Derived.Test.YtimbfadnabfabaaGreatDoorPh
namespace Go.Proofs.YtimbfadnabfabaaGreatDoor.Pm
open Go.RowKit

section
variable {P : Program} {E : Nat → Prop} {m : List bM} {aQ φ : Nat → cr} {H : Nat → cw} {w0 w : World}
variable {ρ : Operand → PV} {ev : Operand → Value} {γ : dZ} {d : Nat}

theorem Dr: ∀(news:List Value) (k:Nat) (cells:Array Value) (off:Nat),off+k+news.length≤cells.size→
  ((news.zipIdx k).foldl (fun cs (x:Value×Nat)=>cs.setIfInBounds (off+x.2) x.1) cells).toList=cells.toList.take (off+k)++news++cells.toList.drop (off+k+news.length)
 | [],k,cells,off,_=>by simp
 | v::r,k,cells,off,h=>by
  simp only [List.zipIdx_cons,List.foldl_cons]
  rw [Dr r (k+1) _ off (by simp at h ⊢;omega)]
  have e:=list_seg_step cells.toList (off+k) v r (by simp at h ⊢;omega)
  simpa [Array.toList_setIfInBounds,Nat.add_assoc] using e
theorem Al{X:Nat→Prop}{R:Ref→Value→Prop}{ρ:Operand→PV}{ev:Operand→Value}(bO: ∀x,cK X w R (ρ x) (ev x))(Ds: ∀{p:PV} {cs:List PV} {v:Value},p.cells?=some cs→cK X w R p v→aY X w R cs v.cells.toList)
  (pl:Nat→Option (Nat×Nat)): ∀(ps:List (Nat×Operand)) (q:List (Nat×Nat×Operand)) (cs cs':List PV) (cells:Array Value),lY pl ps=some q→qx ρ cs q=some cs'→aY X w R cs cells.toList→
  ∃out,Instr.fill pl cells (ps.map fun x=>(x.1,ev x.2))=some out∧aY X w R cs' out.toList
 | [],q,cs,cs',cells,hp,hf,hr=>by
  simp only [lY,Option.some.injEq] at hp;subst hp
  simp only [qx,Option.some.injEq] at hf;subst hf
  exact ⟨cells,rfl,hr⟩
 | (i,x)::ps,q,cs,cs',cells,hp,hf,hr=>by
  simp only [lY] at hp
  split at hp
  ·rename_i o n r h1 h2;cases hp
   simp only [qx] at hf
   split at hf
   ·rename_i new hn
    split at hf
    ·rename_i hh
     have hrn:=Ds hn (bO x)
     have hl:=hrn.len
     have hlc:=hr.len
     simp only [Array.length_toList] at hl hlc
     have hr2:aY X w R (cg cs o new) ((ev x).cells.toList.zipIdx.foldl (fun cs (y:Value×Nat)=>cs.setIfInBounds (o+y.2) y.1) cells).toList:=by
      rw [Dr _ 0 cells o (by simp;omega)]
      have:=hr.cg hrn o
      simpa using this
     obtain ⟨out,h3,h4⟩:=Al bO Ds pl ps r _ cs' _ h2 hf hr2
     refine ⟨out,?_,h4⟩
     simp only [List.map_cons,Instr.fill,h1]
     rw [if_neg (by simp;omega),←h3]
     congr 1
     rw [←Array.foldl_toList]
     congr 1
     simp
    ·cases hf
   ·cases hf
  ·cases hp
theorem Cz{φ:Nat→cr}{H:Nat→cw}{X:Nat→Prop}: ∀{p:PV} {cs:List PV} {v:Value},p.cells?=some cs→cK X w (bk φ H) p v→aY X w (bk φ H) cs v.cells.toList:=
 fun h q=>(Fs h q).1
theorem Py{t:TypeId}{fs:Array Field}{ps:Array (Nat×Operand)}{pl:List (Nat×Nat)}{z:List Value}{n:Nat}{q:List (Nat×Nat×Operand)}{p:PV}{aD:eu}(hm:Mem E m aQ w0 φ H w)(bO:eO E φ H w ρ ev)(hu:P.underlying t=some (.struct fs))
  (hpl:places P fs.toList=some pl) (hz:zeroOf P t n=some z) (hq:lY (fun i=>pl[i]?) ps.toList=some q)
  (he:az γ H d ρ (.build (uz z) q)=some (p,aD)):Does P E m aQ w0 φ H w p aD (do pure (.value (←Instr.build t (ps.map fun (i,x)=>(i,ev x))))):=by
 simp only [az] at he
 split at he
 ·rename_i cs hcs;cases he
  obtain ⟨i,v,hi,hv,yl,_⟩:=mz hz
  have hr:aY (cW E φ) w (bk φ H) (jm (uz z)) v.cells.toList:=by rw [mq,yl];exact aY.consts z
  obtain ⟨out,h1,h2⟩:=Al bO Cz _ _ _ _ _ v.cells hq hcs hr
  refine dQ hm (v:= .agg out) (run_build w t _ out ?_) ⟨_,rfl,h2⟩
  unfold Program.built
  simp only [hi,hu,hv]
  unfold places at hpl
  simp only [hpl]
  rw [←h1]
  simp
 ·cases he
theorem Pz{t e:TypeId}{len k n:Nat}{ps:Array (Nat×Operand)}{z:List Value}{q:List (Nat×Nat×Operand)}{p:PV}{aD:eu}(hm:Mem E m aQ w0 φ H w)(bO:eO E φ H w ρ ev)(hu:P.underlying t=some (.array len e))
  (hk:iI P e=some k) (hz:zeroOf P t n=some z) (hq:lY (fun i=>some (i*k,k)) ps.toList=some q)
  (he:az γ H d ρ (.build (uz z) q)=some (p,aD)):Does P E m aQ w0 φ H w p aD (do pure (.value (←Instr.build t (ps.map fun (i,x)=>(i,ev x))))):=by
 simp only [az] at he
 split at he
 ·rename_i cs hcs;cases he
  obtain ⟨i,v,hi,hv,yl,_⟩:=mz hz
  obtain ⟨ie,hie,aCp⟩:=Jc hk
  have hr:aY (cW E φ) w (bk φ H) (jm (uz z)) v.cells.toList:=by rw [mq,yl];exact aY.consts z
  obtain ⟨out,h1,h2⟩:=Al bO Cz _ _ _ _ _ v.cells hq hcs hr
  refine dQ hm (v:= .agg out) (run_build w t _ out ?_) ⟨_,rfl,h2⟩
  unfold Program.built
  simp only [hi,hu,hv,hie,aCp]
  rw [←h1]
  simp
 ·cases he
theorem afg{t e:TypeId}{k n:Nat}{ps:Array (Nat×Operand)}{z:List Value}{q:List (Nat×Nat×Operand)}{p:PV}{aD:eu}(hm:Mem E m aQ w0 φ H w)(bO:eO E φ H w ρ ev)(hu:P.underlying t=some (.slice e))
  (hk:iI P e=some k) (qz:0<k) (hnk:n*k≤65536) (hz:zeroOf P e k=some z) (hq:lY (fun i=>some (i*k,k)) ps.toList=some q)
  (he:az γ H d ρ (.yy e k n (uz ((List.range n).flatMap fun _=>z)) q)=some (p,aD)):Does P E m aQ w0 φ H w p aD (do pure (.value (←Instr.buildSlice t n (ps.map fun (i,x)=>(i,ev x))))):=by
 simp only [az] at he
 split at he
 ·rename_i cs hcs
  split at he
  rotate_left
  ·cases he
  rename_i hall
  split at he
  ·rename_i ds HN
   split at he
   ·rename_i Sj;cases he
    obtain ⟨i,v,hi,hv,yl,hzl⟩:=mz hz
    have hzs:v.cells.size=k:=by rw [←hzl,←yl];simp
    have hcell:((Array.range (n*k)).map (fun j=>v.cells[j%v.cells.size]!)).toList=(List.range n).flatMap fun _=>z:=by
     rw [←yl,hzs]
     clear hcs hq hnk Sj
     induction n with
     | zero=>simp
     | succ n ih=>
      rw [List.range_succ,List.flatMap_append,←ih]
      simp only [Array.toList_map,Array.toList_range,List.flatMap_cons,List.flatMap_nil,List.append_nil]
      rw [Nat.succ_mul,List.range_add,List.map_append]
      congr 1
      apply List.ext_getElem?
      intro j
      by_cases hj:j<k
      ·simp only [List.map_map,List.getElem?_map,List.getElem?_range hj,Option.map_some,Function.comp]
       have e1:(n*k+j)%k=j:=by rw [Nat.mul_add_mod_self_right];exact Nat.mod_eq_of_lt hj
       rw [e1]
       have:j<v.cells.size:=by omega
       simp [this]
      ·rw [List.getElem?_eq_none (by simp;omega),List.getElem?_eq_none (by simp;omega)]
    have hr:aY (cW E φ) w (bk φ H) (jm (uz ((List.range n).flatMap fun _=>z))) ((Array.range (n*k)).map (fun j=>v.cells[j%v.cells.size]!)).toList:=by
     rw [mq,hcell];exact aY.consts _
    obtain ⟨out,h1,h2⟩:=Al bO Cz _ _ _ _ _ _ hq hcs hr
    have hnb:kE (bB cs) (aZ d 0)=false:=by
     cases hq:kE (bB cs) (aZ d 0) with
     | false=>rfl
     | true=>
      simp only [kE,List.any_eq_true] at hq
      obtain ⟨x,hx,he⟩:=hq
      have:=List.all_eq_true.1 hall x hx
      have e:aZ d 0=x:=Nat.eq_of_beq_eq_true he
      subst e
      simp at this
    obtain ⟨dz,m0,t0,fr⟩:=hm.freeze (kE (bB cs)) false (fun i hi=>by
     simp only [kE,List.any_eq_true] at hi
     obtain ⟨x,hx,he⟩:=hi
     have e:i=x:=Nat.eq_of_beq_eq_true he
     subst e
     have:=List.all_eq_true.1 hall i hx
     simp at this
     exact .inr this.1) (H':=eJ H ((bB cs).map fun j=>(j,⟨(H j).g+1,none⟩))) (fun i=>by rw [wB H];simp)
    have hg0:eJ H ((bB cs).map fun j=>(j,⟨(H j).g+1,none⟩)) (aZ d 0)=H (aZ d 0):=by rw [wB H,if_neg (by rw [hnb];simp)]
    have h2:aY (cW E dz) w (bk dz (eJ H ((bB cs).map fun j=>(j,⟨(H j).g+1,none⟩)))) (jV (kE (bB cs)) H cs) out.toList:=by
     have:=fr (.agg cs) (.agg out) ⟨out,rfl,h2⟩
     unfold mP at this
     obtain ⟨vs,e,q⟩:=this
     cases e;exact q
    obtain ⟨h3,h4,_⟩:=ry HN h2
    have ajc:(jV (kE (bB cs)) H cs).length=cs.length:=by
     have: ∀(D:Nat→Bool) (l:List PV),(jV D H l).length=l.length:=fun D l=>by
      induction l with
      | nil=>rfl
      | cons a l ih=>simp [jV,ih]
     exact this _ _
    have h5:=h3.len
    simp only [List.length_map,Array.length_toList] at h5
    have hrun:(Instr.buildSlice t n (ps.map fun (i,x)=>(i,ev x))).run P w= .ok (.slice (some ⟨w.heap.size,0,none⟩) n n) (w.alloc (.cells out e)):=by
     unfold Instr.buildSlice
     have ZP: ¬(n*k>2^24):=by omega
     have h1':Instr.fill (fun i=>some (i*k,k)) ((Array.range (n*k)).map (fun j=>v.cells[j%v.cells.size]!)) (ps.map fun (i,x)=>(i,ev x)).toList=some out:=by
      rw [←h1];congr 1;simp
     by_cases h0:n*k=0
     ·have hn:n=0:=by
       rcases Nat.mul_eq_zero.1 h0 with h | h
       ·exact h
       ·omega
      subst hn
      have e0:(Array.range (0*k)).map (fun j=>v.cells[j%v.cells.size]!)= #[]:=Array.eq_empty_of_size_eq_zero (by simp)
      have e1:(Array.range (0*k)).map (fun j=>(#[]:Array Value)[j%(#[]:Array Value).size]!)= #[]:=Array.eq_empty_of_size_eq_zero (by simp)
      rw [e0] at h1'
      simp only [Sem.run_bind,run_underlying hu,Result.andThen_ok,fE hk,if_neg ZP,if_pos h0,Sem.run_pure,e1,h1',newRow,run_newObj,World.alloc_eq]
     ·simp only [Sem.run_bind,run_underlying hu,Result.andThen_ok,fE hk,if_neg ZP,if_neg h0,zeroValue,typeInfo,run_program,hi,hv,Sem.run_pure,h1',newRow,run_newObj,World.alloc_eq]
    obtain ⟨bq,p1,p2,m1,t1⟩:=m0.new (aZ d 0) (by unfold aZ;omega) (.own e k ds) out e n (.inr ⟨k,ds,rfl,qz,by omega,by
     unfold maxLen
     have:n≤n*k:=Nat.le_mul_of_pos_right _ qz
     omega,⟨n,Sj⟩,by omega,by rw [List.take_of_length_le (by simp;omega)];exact h3⟩)
    rw [hg0] at m1 t1
    have eH:eJ H ((bB cs).map (fun i=>(i,(⟨(H i).g+1,none⟩:cw)))++ [nw H (aZ d 0) (.own e k ds)])=up (eJ H ((bB cs).map fun j=>(j,⟨(H j).g+1,none⟩))) (aZ d 0) ⟨(H (aZ d 0)).g+1,some (.own e k ds)⟩:=by rw [Jg];rfl
    refine .inl ⟨_,_,kG hrun,bq,by rw [eH];exact m1,by rw [eH];exact t0.trans t1,?_⟩
    rw [eH]
    have:=Dk (φ:=bq) (H:=up (eJ H ((bB cs).map fun j=>(j,⟨(H j).g+1,none⟩))) (aZ d 0) ⟨(H (aZ d 0)).g+1,some (.own e k ds)⟩) (i:=aZ d 0) (k:=k) (e:=e) (n:=n) p1 (by rw [aR]) qz Sj (Nat.le_refl _) (by
     unfold maxLen
     have:n≤n*k:=Nat.le_mul_of_pos_right _ qz
     omega)
    rw [aR] at this
    exact this
   ·cases he
  ·cases he
 ·cases he
theorem afh{t e:TypeId}{len k:Nat}{x:Operand}{lo hi:Option Operand}{p:PV}{aD:eu}(hm:Mem E m aQ w0 φ H w)(bO:eO E φ H w ρ ev)(hu:P.underlying t=some (.array len e))(hk:iI P e=some k)
  (he:az γ H d ρ (.Pj len k x lo hi)=some (p,aD)):Does P E m aQ w0 φ H w p aD (do pure (.value (←Instr.sliceAt t (ev x) (lo.map ev) (hi.map ev) none))):=by
 have hx:=bO x
 simp only [az] at he
 split at he
 ·rename_i i g e1
  rw [e1] at hx
  split at he
  ·rename_i cs hl
   split at he
   ·rename_i ds l h HN hlo hhi
    split at he
    ·rename_i hh
     obtain ⟨h8,qz,Sj,hlen,h1,h2⟩:=hh
     cases he
     obtain ⟨hg,hb⟩:=hm.iA hl
     obtain ⟨b,c,hp,hv,us,r1,r2⟩:=hm.cells (fun cs' h=>by cases h;exact R9 HN) hl hx
     obtain ⟨r3,r4,_⟩:=ry HN r1
     have hrun:(Instr.sliceAt t (ev x) (lo.map ev) (hi.map ev) none).run P w= .ok (.slice (some (if len=l then ⟨b,off c+0,none⟩ else (⟨b,off c+0,none⟩:Addr).add (l*k))) (h-l) (len-l)) w:=by
      rw [hv]
      unfold Instr.sliceAt
      simp only [Sem.run_bind,run_underlying hu,Result.andThen_ok,Instr.sureAddr,Sem.run_pure,yC bO hlo hhi h1 h2 (Nat.le_refl _),fE hk]
     have oc:=hm.upd (bq:=up φ i (.nil none)) (H':=up H i ⟨g+1,none⟩) (w':=w) (fun j=>j=i) (fun j hj=>⟨dM _ _ _ _ hj,dM _ _ _ _ hj⟩) (fun j hj=>by subst hj;rw [aR,hg];exact .inl (Nat.lt_succ_self _)) (fun _ _ _=>rfl)
      (fun j b' c' hj hp=>by subst hj;rw [aR] at hp;cases hp) (fun a a' _ _ _ h1 h2 _ _=>h1.trans h2.symm) (fun j hj uH=>by have:=hm.m8;omega) (Nat.le_refl _) ⟨rfl,rfl,rfl⟩ (fun _ j b' hj hb'=>by subst hj;rw [aR] at hb';cases hb')
     have hX: ¬cW E (up φ i (.nil none)) b:=by
      rintro (hx | ⟨j,c',hx⟩)
      ·have:=hm.ext _ hx
       rcases (hm.lt i b c hp).2 with h | ⟨h,_⟩
       ·omega
       ·have:=hm.m8;omega
      ·by_cases V8:j=i
       ·subst V8;rw [aR] at hx;cases hx
       ·rw [dM _ _ _ _ V8] at hx
        exact V8 (hm.inj _ _ _ _ _ hx hp)
     refine .inl ⟨_,w,kG hrun,_,oc.1,oc.2,⟨_,_,rfl,by omega,by unfold maxLen;omega,(fun h=>by cases h),?_⟩⟩
     by_cases hll:len=l
     ·have:h=l:=by omega
      subst this
      exact .inl (List.drop_eq_nil_of_le (by simp;omega))
     ·rw [if_neg hll]
      refine .inr ⟨b,off c+l*k,by simp [gC],hX,(hm.lt i b c hp).1,?_⟩
      have hc:fu (cW E (up φ i (.nil none))) w ds b (off c):=fu.of fun j y hy=>by
       obtain ⟨u,V7,hu2⟩:=r3.Cy j y hy
       exact ⟨u,r2 j u V7,dS.keep oc.2.ch y u hu2⟩
      have:=(hc.take (h*k)).drop (l*k)
      simpa using this
    ·cases he
   ·cases he
  ·cases he
 ·cases he
theorem afi{t e:TypeId}{it:TypeInfo}{z:List Value}{x y:Operand}{p:PV}{aD:eu}(hm:Mem E m aQ w0 φ H w)(bO:eO E φ H w ρ ev)(hu:P.underlying t=some (.slice e))(hi:P.info? e=some it)(hz:zeroOf P e it.size=some z)(h0:0<it.size)(h1:1≤it.bytes)
  (he:az γ H d ρ (.Pn e it.size it.bytes (uz z) x y)=some (p,aD)):Does P E m aQ w0 φ H w p aD (do pure (.value (←Instr.makeSlice t (ev x) (ev y)))):=by
 simp only [az] at he
 split at he
 ·rename_i k1 a k2 b ds h2 h3 HN
  split at he
  ·rename_i hh
   obtain ⟨ha,hab,hby⟩:=hh
   cases he
   rw [ko h2 (bO x),ko h3 (bO y)]
   obtain ⟨i2,v,Jh,hv,yl,hzl⟩:=mz hz
   rw [hi] at Jh;cases Jh
   have hzs:v.cells.size=it.size:=by rw [←hzl,←yl];simp
   have ZP:b.toNat≤140737488355328:=Nat.le_trans (by have:=Nat.mul_le_mul_left b.toNat h1;simpa using this) hby
   have hr:=run_make (P:=P) w t e it v hu hi hv k1 k2 a b ha hab (by
    have h:((it.bytes*b.toNat:Nat):Int)≤281474976710656:=by rw [Nat.mul_comm];omega
    rw [Int.natCast_mul,Int.toNat_of_nonneg (by omega)] at h
    exact h) (by omega)
   have V9:aY (cW E φ) w (bk φ H) (z.map ofConst) z:=aY.consts z
   rw [mq] at HN
   obtain ⟨r1,r2,_⟩:=ry HN V9
   have Sj:ds.length=it.size:=by rw [r2,List.length_map,hzl]
   have dy: ∀n:Nat,aY (cW E φ) w (bk φ H) (((List.replicate n ds).flatten).map .d) ((List.replicate n z).flatten):=by
    intro n
    induction n with
    | zero=>exact rfl
    | succ n ih=>rw [List.replicate_succ,List.replicate_succ,List.flatten_cons,List.flatten_cons,List.map_append];exact r1.app ih
   have FB: ∀n:Nat,((List.replicate n ds).flatten).length=n*it.size:=by
    intro n
    induction n with
    | zero=>simp
    | succ n ih=>rw [List.replicate_succ,List.flatten_cons,List.length_append,ih,Sj,Nat.succ_mul,Nat.add_comm]
   have hcell: ∀n:Nat,(madeCells v.cells (n*it.size)).toList=(List.replicate n z).flatten:=by
    intro n
    rw [←yl]
    unfold madeCells
    rw [←hzs]
    have hp:0<v.cells.size:=by omega
    induction n with
    | zero=>simp
    | succ n ih=>
     rw [List.replicate_succ',List.flatten_append,←ih]
     simp only [Array.toList_map,Array.toList_range,List.flatten_cons,List.flatten_nil,List.append_nil]
     rw [Nat.succ_mul,List.range_add,List.map_append]
     congr 1
     apply List.ext_getElem?
     intro j
     by_cases hj:j<v.cells.size
     ·simp only [List.map_map,List.getElem?_map,List.getElem?_range hj,Option.map_some,Function.comp]
      have e1:(n*v.cells.size+j)%v.cells.size=j:=by rw [Nat.mul_add_mod_self_right];exact Nat.mod_eq_of_lt hj
      rw [e1]
      simp [hj]
     ·rw [List.getElem?_eq_none (by simp;omega),List.getElem?_eq_none (by simp;omega)]
   have hle:a.toNat≤b.toNat:=by omega
   obtain ⟨bq,p1,p2,m1,t1⟩:=hm.new (aZ d 0) (by unfold aZ;omega) (.own e it.size ((List.replicate a.toNat ds).flatten)) (madeCells v.cells (b.toNat*it.size)) e b.toNat (.inr ⟨it.size,_,rfl,h0,by
     rw [←Array.length_toList,hcell]
     clear hr hab ha hby hle ZP
     generalize b.toNat=n
     induction n with
     | zero=>simp
     | succ n ih=>rw [List.replicate_succ,List.flatten_cons,List.length_append,ih,hzl,Nat.succ_mul,Nat.add_comm],by unfold maxLen;omega,⟨a.toNat,FB _⟩,by rw [FB];exact Nat.mul_le_mul_right _ hle,by
     rw [FB,hcell]
     have e1:(List.replicate b.toNat z).flatten=(List.replicate a.toNat z).flatten++(List.replicate (b.toNat-a.toNat) z).flatten:=by
      rw [←List.flatten_append,List.replicate_append_replicate]
      congr 2;omega
     have hzf:((List.replicate a.toNat z).flatten).length=a.toNat*it.size:=by
      have:=(dy a.toNat).len
      rw [List.length_map,FB] at this
      exact this.symm
     rw [e1,List.take_left' hzf]
     exact dy a.toNat⟩)
   refine .inl ⟨_,_,kG hr,bq,m1,t1,?_⟩
   have:=Dk (φ:=bq) (H:=up H (aZ d 0) ⟨(H (aZ d 0)).g+1,some (.own e it.size ((List.replicate a.toNat ds).flatten))⟩) (i:=aZ d 0) (k:=it.size) (e:=e) (n:=a.toNat) p1 (by rw [aR]) h0 (FB _) hle (by unfold maxLen;omega)
   rw [aR] at this
   exact this
  ·cases he
 ·cases he
theorem Ji{t t2 ty e:TypeId}{k:Nat}(hu:P.underlying t=some (.slice e))(hk:iI P e=some k)(a:Option Addr)(n c:Nat)(x:Option Addr)(m cx:Nat)(us:List Value)(hl:us.length=min m n*k)(hx:x=none→us= [])(hc: ∀ad,x=some ad→ ∀j u,us[j]?=some u→w.cell? (ad.add j)=some u){w':World}(hs: ∀ad,a=some ad→(storeCells ad us).run P w= .ok () w')(hn:a=none→w'=w):
  (Builtin.copy_ #[t,t2] ty #[.slice a n c,.slice x m cx]).run P w= .ok (.int .i64 (min m n:Nat)) w':=by
 have hf:(Builtin.firstCells k (Nat.min m n) (.slice x m cx)).run P w= .ok us.toArray w:=by
  cases x with
  | none=>
   have:=hx rfl
   subst this
   exact run_firstCells_none w _ _ _ _
  | some ad=>exact run_firstCells_some w _ _ ad m cx us hl (hc ad rfl)
 cases a with
 | none=>
  have:=hn rfl
  subst this
  simp [Builtin.copy_,run_underlying hu,Builtin.lenOf,fE hk,hf,goInt]
 | some ad=>
  simp [Builtin.copy_,run_underlying hu,Builtin.lenOf,fE hk,hf,hs ad rfl,goInt]
theorem afj{t t2 ty e:TypeId}{k:Nat}{x y:Operand}{p:PV}{aD:eu}(hm:Mem E m aQ w0 φ H w)(bO:eO E φ H w ρ ev)(hu:P.underlying t=some (.slice e))(hk:iI P e=some k)(qz:0<k)
  (he:az γ H d ρ (.Di k x y)=some (p,aD)):Does P E m aQ w0 φ H w p aD (do pure (.value (←Builtin.copy_ #[t,t2] ty #[ev x,ev y]))):=by
 have hx:=bO x
 simp only [az] at he
 split at he
 ·rename_i i g l n q ys e1 hq
  rw [e1] at hx
  split at he
  ·rename_i e' k' cs hl
   split at he
   ·rename_i hh
    obtain ⟨rfl,HJ⟩:=hh
    cases he
    obtain ⟨hg,hb⟩:=hm.iA hl
    obtain ⟨ax,cx,us,hv,hqc,_,hnx,Dl,hxa⟩:=hm.rN hq (bO y)
    obtain ⟨hsl,HL,hx2⟩:=hx
    obtain ⟨_,hlen,hp⟩:=hx2 hg e' k' cs hb
    have rO:=Dl.len
    simp only [List.length_map] at rO
    have ZQ:min q n*k'≤q*k':=Nat.mul_le_mul_right _ (Nat.min_le_left _ _)
    have hl1:(us.take (min q n*k')).length=min q n*k':=by rw [List.length_take,←rO,HJ];omega
    have hnone:ax=none→us.take (min q n*k')= []:=by
     intro h
     have h0:=hnx h
     have:q=0:=by omega
     subst this
     simp
    have Ds: ∀ad,ax=some ad→ ∀j u,(us.take (min q n*k'))[j]?=some u→w.cell? (ad.add j)=some u:=by
     intro ad had j u hu
     rw [List.getElem?_take] at hu
     split at hu
     ·rcases hxa with h0 | ⟨b,o,e2,_,hc⟩
      ·subst h0
       have:us= []:=List.eq_nil_of_length_eq_zero (by simpa using rO.symm)
       rw [this] at hu;simp at hu
      ·rw [had] at e2;cases e2
       rw [gC];exact hc j u hu
     ·cases hu
    rw [hv]
    have hnk:n*k'≤cs.length-l*k':=by rw [Nat.add_mul] at hlen;omega
    by_cases hz:min q n*k'=0
    ·have he0:ys.take (min q n*k')= []:=by rw [hz];simp
     have hu0:us.take (min q n*k')= []:=by rw [hz];simp
     have hsp:cg cs (l*k') (ys.take (min q n*k'))=cs:=by rw [he0];simp [cg]
     obtain ⟨a,n',c,Jj⟩:=hsl
     have hn':n'=n:=by
      cases d_:φ i with
      | nil a'=>rw [d_] at hp;obtain ⟨hv',_,rfl⟩:=hp;rw [Jj] at hv';cases hv';rfl
      | blk b c'=>rw [d_] at hp;obtain ⟨a',c2,hv',_⟩:=hp;rw [Jj] at hv';cases hv';rfl
     subst hn'
     rw [Jj]
     have hr:=Ji (P:=P) (w:=w) (t2:=t2) (ty:=ty) hu hk a n' c ax q cx _ hl1 hnone Ds (w':=w) (fun ad _=>by rw [hu0];rfl) (fun _=>rfl)
     have oc:=hm.upd (bq:=φ) (H':=up H i ⟨g,some (.own e' k' cs)⟩) (w':=w) (fun j=>j=i) (fun j hj=>⟨rfl,dM _ _ _ _ hj⟩) (fun j hj=>by subst hj;rw [aR];exact .inr ⟨rfl,hg,by rw [hb];exact ⟨rfl,rfl,rfl⟩⟩) (fun _ _ _=>rfl)
      (fun j b' c' hj hp=>⟨(hm.lt j b' c' hp).1,.inr ⟨c',hp⟩⟩) (fun a a' _ _ _ h1 h2 _ _=>h1.trans h2.symm) (fun j hj _=>by subst hj;rw [aR,hb];exact ⟨fun b0 hk=>by cases b0<;>exact hk,.inl rfl⟩) (Nat.le_refl _) ⟨rfl,rfl,rfl⟩ (fun tr j b' hj hb'=>by
       subst hj
       rw [aR] at hb'
       simp only [Option.some.injEq] at hb'
       subst hb'
       have q:=hm.rep j _ hb
       generalize φ j=pj at*
       cases pj with
       | nil a=>exact q
       | blk b c=>
        obtain ⟨q0,cur,xs,r1,r2,r3,r4,r5,r6,r7⟩:=q
        exact ⟨q0,cur,xs,r1,r2,r3,r4,r5,r6,tr.l r7⟩)
     rw [hsp]
     exact .inl ⟨_,w,kG hr,φ,oc.1,oc.2,rfl⟩
    ·have hyl:(ys.take (min q n*k')).length=min q n*k':=by rw [List.length_take,HJ];omega
     have uI:aY (cW E φ) w (bk φ H) ((ys.take (min q n*k')).map .d) (us.take (min q n*k')):=by rw [List.map_take];exact Dl.take _
     have h1: ∀u∈us.take (min q n*k'),u.oneCell'=true:=by
      intro u hu
      obtain ⟨j,hj,rfl⟩:=List.getElem_of_mem (List.mem_of_mem_take hu)
      obtain ⟨u',r1,r2⟩:=Dl.Cy j ys[j] (by simp [rO,hj])
      rw [List.getElem?_eq_getElem hj] at r1;cases r1
      exact dS.one r2
     have hmn:min q n*k'≤n*k':=Nat.mul_le_mul_right _ (Nat.min_le_right _ _)
     obtain ⟨b,c,d_,w',hst,m1,t1⟩:=hm.aiY hb uI h1 (by rw [List.length_map,hyl];omega) (l*k') (.inr ⟨e',k',cs,ys.take (min q n*k'),rfl,rfl,rfl,by rw [List.length_map,hyl];rw [Nat.add_mul] at hlen;omega⟩) P
     rw [d_] at hp
     obtain ⟨a,c',Jj,_,_,h3,_,_⟩:=hp
     have ym:0<n:=by
      rcases Nat.eq_zero_or_pos n with h | h
      ·subst h;simp at hz
      ·exact h
     rw [Jj,h3 ym]
     have hr:=Ji (P:=P) (w:=w) (t2:=t2) (ty:=ty) hu hk (some ⟨b,off c+l*k',none⟩) n c' ax q cx _ hl1 hnone Ds (w':=w') (fun ad had=>by cases had;exact hst) (fun h=>by cases h)
     refine .inl ⟨_,w',kG hr,φ,?_,?_,rfl⟩
     ·show Mem _ _ _ _ _ (up H i _) _;rw [hg];exact m1
     ·show Tr _ _ _ _ _ (up H i _) _;rw [hg];exact t1
   ·cases he
  ·cases he
 ·cases he
theorem V_{t ty e:TypeId}{it:TypeInfo}{v:Value}(hu:P.underlying t=some (.slice e))(hi:P.info? e=some it)(hz:it.zero=some v)(ad:Addr)(n c:Nat)(hn:0<n){w':World}(hs:(storeCells ad (Builtin.zeroCells v.cells n).toList).run P w= .ok () w'):
  (Builtin.clear_ #[t] ty #[.slice (some ad) n c]).run P w= .ok (.tuple #[]) w':=by
 obtain ⟨n,rfl⟩: ∃m,n=m+1:=⟨n-1,by omega⟩
 simp [Builtin.clear_,run_underlying hu,zeroValue,typeInfo,hi,hz,hs]
theorem Sk{t ty e:TypeId}(hu:P.underlying t=some (.slice e))(a:Option Addr)(c:Nat):(Builtin.clear_ #[t] ty #[.slice a 0 c]).run P w= .ok (.tuple #[]) w:=by
 cases a<;>simp [Builtin.clear_,run_underlying hu]
theorem Sl{v:Value}{z:List Value}{k:Nat}(yl:v.cells.toList=z)(hk:v.cells.size=k)(h0:0<k): ∀n:Nat,(Builtin.zeroCells v.cells n).toList=(List.replicate n z).flatten:=by
 intro n
 rw [←yl]
 unfold Builtin.zeroCells
 induction n with
 | zero=>simp
 | succ n ih=>
  rw [List.replicate_succ',List.flatten_append,←ih]
  simp only [Array.toList_map,Array.toList_range,List.flatten_cons,List.flatten_nil,List.append_nil]
  rw [Nat.succ_mul,List.range_add,List.map_append]
  congr 1
  apply List.ext_getElem?
  intro j
  by_cases hj:j<v.cells.size
  ·simp only [List.map_map,List.getElem?_map,List.getElem?_range hj,Option.map_some,Function.comp]
   have e1:(n*v.cells.size+j)%v.cells.size=j:=by rw [Nat.mul_add_mod_self_right];exact Nat.mod_eq_of_lt hj
   rw [e1]
   simp [hj]
  ·rw [List.getElem?_eq_none (by simp;omega),List.getElem?_eq_none (by simp;omega)]
theorem afk{t ty e:TypeId}{it:TypeInfo}{z:List Value}{x:Operand}{p:PV}{aD:eu}(hm:Mem E m aQ w0 φ H w)(bO:eO E φ H w ρ ev)(hu:P.underlying t=some (.slice e))(hi:P.info? e=some it)(hz:zeroOf P e it.size=some z)(h0:0<it.size)
  (he:az γ H d ρ (.Pk it.size (uz z) x)=some (p,aD)):Does P E m aQ w0 φ H w p aD (do pure (.value (←Builtin.clear_ #[t] ty #[ev x]))):=by
 have hx:=bO x
 simp only [az] at he
 split at he
 ·rename_i ds i g l n HN e1
  rw [e1] at hx
  split at he
  ·rename_i e' k' cs hl
   split at he
   ·rename_i hk
    subst hk
    cases he
    obtain ⟨i2,v,Jh,hv,yl,hzl⟩:=mz hz
    rw [hi] at Jh;cases Jh
    have hzs:v.cells.size=it.size:=by rw [←hzl,←yl];simp
    have V9:aY (cW E φ) w (bk φ H) (z.map ofConst) z:=aY.consts z
    rw [mq] at HN
    obtain ⟨r1,r2,_⟩:=ry HN V9
    have Sj:ds.length=it.size:=by rw [r2,List.length_map,hzl]
    have dy: ∀n:Nat,aY (cW E φ) w (bk φ H) (((List.replicate n ds).flatten).map .d) ((List.replicate n z).flatten):=by
     intro n
     induction n with
     | zero=>exact rfl
     | succ n ih=>rw [List.replicate_succ,List.replicate_succ,List.flatten_cons,List.flatten_cons,List.map_append];exact r1.app ih
    have FB: ∀n:Nat,((List.replicate n ds).flatten).length=n*it.size:=by
     intro n
     induction n with
     | zero=>simp
     | succ n ih=>rw [List.replicate_succ,List.flatten_cons,List.length_append,ih,Sj,Nat.succ_mul,Nat.add_comm]
    obtain ⟨hg,hb⟩:=hm.iA hl
    obtain ⟨hsl,HL,hx2⟩:=hx
    obtain ⟨_,hlen,hp⟩:=hx2 hg e' it.size cs hb
    by_cases hn:n=0
    ·subst hn
     have hsp:cg cs (l*it.size) ((List.replicate 0 ds).flatten)=cs:=by simp [cg]
     obtain ⟨a,n',c,Jj⟩:=hsl
     have hn':n'=0:=by
      cases d_:φ i with
      | nil a'=>rw [d_] at hp;obtain ⟨hv',_,_⟩:=hp;rw [Jj] at hv';cases hv';rfl
      | blk b c'=>rw [d_] at hp;obtain ⟨a',c2,hv',_⟩:=hp;rw [Jj] at hv';cases hv';rfl
     subst hn'
     rw [Jj]
     have oc:=hm.upd (bq:=φ) (H':=up H i ⟨g,some (.own e' it.size cs)⟩) (w':=w) (fun j=>j=i) (fun j hj=>⟨rfl,dM _ _ _ _ hj⟩) (fun j hj=>by subst hj;rw [aR];exact .inr ⟨rfl,hg,by rw [hb];exact ⟨rfl,rfl,rfl⟩⟩) (fun _ _ _=>rfl)
      (fun j b' c' hj hp=>⟨(hm.lt j b' c' hp).1,.inr ⟨c',hp⟩⟩) (fun a a' _ _ _ h1 h2 _ _=>h1.trans h2.symm) (fun j hj _=>by subst hj;rw [aR,hb];exact ⟨fun b0 hk=>by cases b0<;>exact hk,.inl rfl⟩) (Nat.le_refl _) ⟨rfl,rfl,rfl⟩ (fun tr j b' hj hb'=>by
       subst hj
       rw [aR] at hb'
       simp only [Option.some.injEq] at hb'
       subst hb'
       have q:=hm.rep j _ hb
       generalize φ j=pj at*
       cases pj with
       | nil a=>exact q
       | blk b c=>
        obtain ⟨q0,cur,xs,r1,r2,r3,r4,r5,r6,r7⟩:=q
        exact ⟨q0,cur,xs,r1,r2,r3,r4,r5,r6,tr.l r7⟩)
     rw [hsp]
     exact .inl ⟨_,w,kG (Sk hu a c),φ,oc.1,oc.2,⟨#[],rfl,rfl⟩⟩
    ·have ym:0<n:=by omega
     have h1: ∀u∈(List.replicate n z).flatten,u.oneCell'=true:=by
      intro u hu
      obtain ⟨j,hj,rfl⟩:=List.getElem_of_mem hu
      have hz2:=(dy n).len
      rw [List.length_map] at hz2
      obtain ⟨u',r1,r2⟩:=(dy n).Cy j ((List.replicate n ds).flatten[j]'(by omega)) (by rw [List.getElem?_eq_getElem])
      rw [List.getElem?_eq_getElem hj] at r1;cases r1
      exact dS.one r2
     obtain ⟨b,c,d_,w',hst,m1,t1⟩:=hm.aiY hb (dy n) h1 (by rw [List.length_map,FB];exact Nat.mul_pos ym h0) (l*it.size) (.inr ⟨e',it.size,cs,(List.replicate n ds).flatten,rfl,rfl,rfl,by rw [List.length_map,FB];rw [Nat.add_mul] at hlen;omega⟩) P
     rw [d_] at hp
     obtain ⟨a,c',Jj,_,_,h3,_,_⟩:=hp
     rw [Jj,h3 ym]
     have hr:=V_ (P:=P) (w:=w) (ty:=ty) hu hi hv ⟨b,off c+l*it.size,none⟩ n c' ym (w':=w') (by rw [Sl yl hzs h0];exact hst)
     refine .inl ⟨_,w',kG hr,φ,?_,?_,⟨#[],rfl,rfl⟩⟩
     ·show Mem _ _ _ _ _ (up H i _) _;rw [hg];exact m1
     ·show Tr _ _ _ _ _ (up H i _) _;rw [hg];exact t1
   ·cases he
  ·cases he
 ·cases he
theorem afl{t tx ty e:TypeId}{it:TypeInfo}{z:Value}{x y:Operand}{p:PV}{aD:eu}(hm:Mem E m aQ w0 φ H w)(bO:eO E φ H w ρ ev)(hu:P.underlying t=some (.slice e))(hi:P.info? e=some it)(hz:it.zero=some z)
  (hzs:z.cells.size=it.size) (h0:0<it.size) (h1:1≤it.bytes) (hk:(∃e',P.underlying tx=some (.slice e'))∨P.underlying tx=some .string)
  (he:az γ H d ρ (.app e it.size it.bytes x y)=some (p,aD)):Does P E m aQ w0 φ H w p aD (do pure (.value (←Builtin.append_ #[t,tx] ty #[ev x,ev y]))):=by
 have hx:=bO x
 have hy:=bO y
 simp only [az] at he
 split at he
 ·cases he
 ·rename_i q ys hq
  split at he
  ·rename_i HJ
   split at he
   ·rename_i i g n e1
    rw [e1] at hx
    split at he
    ·rename_i e' k' cs hl
     split at he
     ·rename_i hh
      obtain ⟨rfl,rfl,hcs,hb⟩:=hh
      cases he
      obtain ⟨hg,PA⟩:=hm.iA hl
      subst hg
      obtain ⟨v',w',bq,hr,m1,t1,r1⟩:=hm.app P (ty:=ty) PA hcs HJ hb h1 hu hi hz rfl rfl hzs hx (hm.ZN hk h0 hq HJ hy)
      exact .inl ⟨v',w',kG hr,bq,m1,t1,r1⟩
     ·cases he
    ·cases he
   ·rename_i e1
    rw [e1] at hx
    obtain ⟨a,hv⟩:=hx
    split at he
    ·rename_i hb;cases he
     obtain ⟨dz,p1,m1,t1⟩:=hm.Pq (aZ d 0) (by unfold aZ;omega) e it.size h0 a
     have hr1:=pR (φ:=dz) (H:=up H (aZ d 0) ⟨(H (aZ d 0)).g+1,some (.own e it.size [])⟩) (i:=aZ d 0) (k:=it.size) (e:=e) p1 (by rw [aR]) h0
     obtain ⟨us,Dl,Dm⟩:=hm.ZN hk h0 hq HJ hy
     have hq1: ∃us,aY (cW E dz) w (bk dz (up H (aZ d 0) ⟨(H (aZ d 0)).g+1,some (.own e it.size [])⟩)) (ys.map .d) us∧Src P it.size tx (ev y) q us w:=⟨us,t1.l Dl,Dm⟩
     obtain ⟨v',w',bq,hr,m2,t2,r2⟩:=m1.app P (ty:=ty) (n:=0) (cs:= []) (by rw [aR]) (by simp) HJ (by rw [Nat.zero_add];exact hb) h1 hu hi hz rfl rfl hzs hr1 hq1
     simp only [aR,I8,List.nil_append,Nat.zero_add] at m2 t2 r2
     rw [hv]
     exact .inl ⟨v',w',kG hr,bq,m2,t1.trans t2,r2⟩
    ·cases he
   ·cases he
  ·cases he

theorem dS.free{X Y:Nat→Prop}{w:World}{x:PD}{v:Value}(h:fT (.d x)=true)(q:dS X w x v):dS Y w x v:=by
 cases x with
 | sl n cs=>
  obtain ⟨a,c,h1,h2,h3,h4,h5⟩:=q
  simp [fT] at h
  exact ⟨a,c,h1,h2,h3,h4,.inl h⟩
 | _=>exact q
theorem dS.sub{X Y:Nat→Prop}{w:World}(h: ∀b,b<w.heap.size→ ¬X b→ ¬Y b){x:PD}{v:Value}(q:dS X w x v):dS Y w x v:=
 dS.keep ⟨Nat.le_refl _,fun b hb hx=>⟨rfl,h b hb hx⟩⟩ x v q
theorem fu.sub{X Y:Nat→Prop}{w:World}(h: ∀b,b<w.heap.size→ ¬X b→ ¬Y b){cs:List PD}{b o:Nat}(hx: ¬X b)(hl:b<w.heap.size)(q:fu X w cs b o):fu Y w cs b o:=
 fu.keep ⟨Nat.le_refl _,fun b hb hx=>⟨rfl,h b hb hx⟩⟩ cs b o hx hl q
def Gx(E:Nat→Prop)(φ:Nat→cr)(ids:List Nat)(b:Nat):Prop:=cW E φ b∧ ∀i∈ids,∀c,φ i≠ .blk b c
theorem fu.Jk{X Y:Nat→Prop}{R:Ref→Value→Prop}(uL: ∀b,b<w.heap.size→ ¬X b→ ¬Y b){cs:List PD}{us:List Value}{b o0:Nat}(hr:aY X w R (cs.map .d) us)(hc: ∀j u,us[j]?=some u→w.cell? ⟨b,o0+j,none⟩=some u):fu Y w cs b o0:=
 fu.of fun j x hx=>by
  obtain ⟨u,h1,h2⟩:=hr.Cy j x hx
  exact ⟨u,hc j u h1,h2.sub uL⟩
theorem Wa{cs:List PV}(h:cs.all Cx=true):gW cs=true:=by
 unfold gW
 split
 ·simp [Cx] at h
 ·simp [Cx] at h
 ·simp [Cx] at h
 ·simp [Cx] at h
 ·rfl
theorem axF: ∀(cs:List PV) (us:List Value),cs.all Cx=true→aY (cW E φ) w (bk φ H) cs us→aY (cW E φ) w (bk φ H) ((cs.map fun p=>(toD p).getD .un).map .d) us
 | [],_,_,h=>h
 | p::ps,us,hk,⟨v,r,e,q1,q2⟩=>by
  simp only [List.all_cons,Bool.and_eq_true] at hk
  refine ⟨v,r,e,?_,axF ps r hk.2 q2⟩
  show dS (cW E φ) w ((toD p).getD .un) v
  cases hp:toD p with
  | some x=>exact toD_rep hp q1
  | none=>
   show v.oneCell'=true
   cases p with
   | un=>simp [Cx] at hk
   | bH _=>simp [Cx] at hk
   | d x=>simp [toD] at hp
   | nil=>simp [toD] at hp
   | jv=>simp [toD] at hp
   | agg _=>simp [Cx] at hk
   | cD _=>obtain ⟨_,_,e,_⟩:=q1;subst e;rfl
   | fn=>obtain ⟨_,e,_⟩:=q1;subst e;rfl
   | r x=>cases x with
    | own=>exact q1.elim
    | ptr=>obtain ⟨⟨_,_,e⟩,_⟩:=q1;subst e;rfl
    | aL=>obtain ⟨⟨_,_,_,e⟩,_⟩:=q1;subst e;rfl
mutual
theorem Wb(hm:Mem E m aQ w0 φ H w)(ids:List Nat): ∀(p p':PV) (v:Value),gH H p=some p'→(∀i∈dr p,i∈ids)→cK (cW E φ) w (bk φ H) p v→cK (Gx E φ ids) w (fun _ _=>False) p' v
 | .d x,p',v,h,_,q=>by
  simp only [gH,Option.some.injEq] at h;subst h
  exact dS.sub (fun b _ hx hy=>hx hy.1) q
 | .agg cs,p',v,h,hi,q=>by
  simp only [gH,Option.map_eq_some_iff] at h
  obtain ⟨l,h1,rfl⟩:=h
  obtain ⟨vs,hv,q⟩:=q
  exact ⟨vs,hv,wC hm ids cs l _ h1 hi q⟩
 | .fn f cs,p',v,h,hi,q=>by
  simp only [gH,Option.map_eq_some_iff] at h
  obtain ⟨l,h1,rfl⟩:=h
  obtain ⟨vs,hv,q⟩:=q
  exact ⟨vs,hv,wC hm ids cs l _ h1 hi q⟩
 | .cD cs,p',v,h,_,q=>by
  simp only [gH,Option.some.injEq] at h;subst h
  obtain ⟨b,o,hv,h1,h2,h3⟩:=q
  exact ⟨b,o,hv,fun hy=>h1 hy.1,h2,h3.sub (fun b _ hx hy=>hx hy.1) h1 h2⟩
 | .nil,p',v,h,_,q=>by
  simp only [gH,Option.some.injEq] at h;subst h
  obtain ⟨a,rfl⟩:=q
  exact ⟨a,0,rfl,Nat.le_refl _,by simp,fun _=>rfl,.inl rfl⟩
 | .jv z n cs,p',v,h,_,q=>by
  simp only [gH,Option.some.injEq] at h;subst h
  exact dS.sub (fun b _ hx hy=>hx hy.1) q.1
 | .un,p',v,h,_,q=>by
  simp only [gH,Option.some.injEq] at h;subst h
  trivial
 | .bH _,_,_,h,_,_=>by simp [gH] at h
 | .r (.own ..),_,_,h,_,_=>by simp [gH] at h
 | .r (.ptr i g o),p',v,h,hi,q=>by
  simp only [gH] at h
  split at h
  ·rename_i b hl
   simp only [Option.map_eq_some_iff] at h
   obtain ⟨cs,hcs,rfl⟩:=h
   obtain ⟨x,c,hp,hv,us,r1,r2⟩:=hm.cells (fun cs' h=>by
    subst h
    simp only [ZJ] at hcs
    split at hcs
    ·rename_i hk;exact Wa hk
    ·cases hcs) hl q
   have hx: ¬Gx E φ ids x:=fun hy=>hy.2 i (hi i (by simp [dr])) c hp
   have hr:aY (cW E φ) w (bk φ H) (cs.map .d) us:=by
    cases b with
    | box l=>
     simp only [ZJ] at hcs
     split at hcs
     ·rename_i hk;cases hcs;exact axF l us hk r1
     ·cases hcs
    | own e k l=>simp only [ZJ,Option.some.injEq] at hcs;subst hcs;exact r1
   refine ⟨x,off c+o,hv,hx,(hm.lt i x c hp).1,?_⟩
   have:=fu.Jk (o0:=off c) (Y:=Gx E φ ids) (fun b _ hx hy=>hx hy.1) hr r2
   simpa using this.drop o
  ·cases h
 | .r (.aL i g l n),p',v,h,hi,q=>by
  simp only [gH] at h
  split at h
  ·rename_i e k cs hl
   simp only [Option.some.injEq] at h;subst h
   obtain ⟨hg,hb⟩:=hm.iA hl
   have ha:fP H (.r (.aL i g l n))=some (n,(cs.drop (l*k)).take (n*k)):=by simp only [fP,hl]
   obtain ⟨a,c,us,hv,h1,h2,h3,h4,h5⟩:=hm.rN ha q
   refine ⟨a,c,hv,h1,h2,h3,?_⟩
   rcases h5 with h5 | ⟨b,o,ea,nE,hc⟩
   ·exact .inl h5
   ·by_cases hne:(cs.drop (l*k)).take (n*k)= []
    ·exact .inl hne
    ·refine .inr ⟨b,o,ea,?_,nE,fu.Jk (fun b _ hx hy=>hx hy.1) h4 hc⟩
     obtain ⟨_,_,q2⟩:=q
     obtain ⟨hk,hle,hp⟩:=q2 hg e k cs hb
     intro hy
     cases d_:φ i with
     | nil a'=>rw [d_] at hp;obtain ⟨_,_,rfl⟩:=hp;exact hne (by simp)
     | blk b1 c1=>
      rw [d_] at hp
      obtain ⟨a',c',hv',_,_,h6,_,_⟩:=hp
      have h6:=h6 (by
       rcases Nat.eq_zero_or_pos n with h0 | h0
       ·subst h0;exact absurd (by simp) hne
       ·exact h0)
      rw [hv] at hv';cases hv'
      rw [h6] at ea;cases ea
      exact hy.2 i (hi i (by simp [dr])) c1 d_
  ·cases h
theorem wC(hm:Mem E m aQ w0 φ H w)(ids:List Nat): ∀(ps FC:List PV) (vs:List Value),gX H ps=some FC→(∀i∈bB ps,i∈ids)→aY (cW E φ) w (bk φ H) ps vs→aY (Gx E φ ids) w (fun _ _=>False) FC vs
 | [],FC,vs,h,_,q=>by
  simp only [gX,Option.some.injEq] at h;subst h;exact q
 | p::ps,FC,vs,h,hi,⟨v,r,e,q1,q2⟩=>by
  simp only [gX] at h
  split at h
  ·rename_i x xs h1 h2
   simp only [Option.some.injEq] at h;subst h
   exact ⟨v,r,e,Wb hm ids p x v h1 (fun i hx=>hi i (by simp [bB,hx])) q1,wC hm ids ps xs r h2 (fun i hx=>hi i (by simp [bB,hx])) q2⟩
  ·cases h
end
theorem jB: ∀(l:List (Nat×cw)) (H:Nat→cw) (i:Nat),(∀x∈l,x.1≠i)→eJ H l i=H i
 | [],_,_,_=>rfl
 | x::l,H,i,h=>by
  simp only [eJ]
  rw [jB l _ i (fun y hy=>h y (by simp [hy])),dM _ _ _ _ (fun e=>h x (by simp) e.symm)]
theorem Jl: ∀(l:List (Nat×bM)) (f:Nat→Nat) (c:Nat×bM→cw) (H:Nat→cw) (x:Nat×bM),(∀y∈l,∀z∈l,f y.1=f z.1→y.1=z.1)→distinct (l.map (·.1))=true→x∈l→eJ H (l.map fun y=>(f y.1,c y)) (f x.1)=c x
 | [],_,_,_,x,_,_,h=>by cases h
 | y::l,f,c,H,x,hf,hd,h=>by
  simp only [List.map_cons,distinct,Bool.and_eq_true,List.all_eq_true] at hd
  have hne: ∀z∈l,y.1≠z.1:=fun z hz e=>by
   have:=hd.1 z.1 (List.mem_map_of_mem hz)
   simp [e] at this
  simp only [List.map_cons,eJ]
  rcases List.mem_cons.1 h with rfl | h
  ·rw [jB _ _ _ (fun z hz e=>by
    obtain ⟨u,hu,rfl⟩:=List.mem_map.1 hz
    exact hne u hu (hf x (by simp) u (by simp [hu]) e.symm)),aR]
  ·exact Jl l f c _ x (fun a ha b hb=>hf a (by simp [ha]) b (by simp [hb])) hd.2 h
mutual
theorem Sm{Y X':Nat→Prop}{w':World}{dz:Nat→cr}{bs:List bM}{β bq:Nat→cr}{H':Nat→cw}(h2: ∀j e k n cs v,gO dz bs β (.own j e k n cs) v→H' (aZ d j)=⟨(H (aZ d j)).g+1,some (.own e k cs)⟩→bq (aZ d j)=β j→bk bq H' (.aL (aZ d j) ((H (aZ d j)).g+1) 0 n) v):
  ∀(p:PV) (v:Value),((∀b,b<w'.heap.size→ ¬Y b→ ¬X' b)∨fT p=true)→(∀x∈owns p,H' (aZ d x.1)=⟨(H (aZ d x.1)).g+1,some x.2⟩∧bq (aZ d x.1)=β x.1)→cK Y w' (gO dz bs β) p v→cK X' w' (bk bq H') (Bk H d p) v
 | .d x,v,hc,_,q=>by
  rcases hc with hc | hc
  ·exact dS.sub hc q
  ·exact dS.free hc q
 | .agg cs,v,hc,ho,⟨vs,e,q⟩=>⟨vs,e,Dt h2 cs _ hc ho q⟩
 | .bH cs,v,hc,ho,⟨vs,e,q⟩=>⟨vs,e,Dt h2 cs _ hc ho q⟩
 | .fn f cs,v,hc,ho,⟨vs,e,q⟩=>⟨vs,e,Dt h2 cs _ hc ho q⟩
 | .cD cs,v,hc,_,⟨b,o,e,h3,h4,h5⟩=>by
  rcases hc with hc | hc
  ·exact ⟨b,o,e,hc b h4 h3,h4,h5.sub hc h3 h4⟩
  ·simp [fT] at hc
 | .nil,v,_,_,q=>q
 | .jv z n cs,v,hc,_,q=>by
  rcases hc with hc | hc
  ·exact ⟨dS.sub hc q.1,q.2⟩
  ·exact ⟨dS.free hc q.1,q.2⟩
 | .un,v,_,_,q=>trivial
 | .r (.ptr ..),v,_,_,q=>trivial
 | .r (.aL ..),v,_,_,q=>trivial
 | .r (.own j e k n cs),v,_,ho,q=>by
  obtain ⟨h3,h4⟩:=ho (j,.own e k cs) (by simp [owns])
  exact h2 j e k n cs v q h3 h4
theorem Dt{Y X':Nat→Prop}{w':World}{dz:Nat→cr}{bs:List bM}{β bq:Nat→cr}{H':Nat→cw}(h2: ∀j e k n cs v,gO dz bs β (.own j e k n cs) v→H' (aZ d j)=⟨(H (aZ d j)).g+1,some (.own e k cs)⟩→bq (aZ d j)=β j→bk bq H' (.aL (aZ d j) ((H (aZ d j)).g+1) 0 n) v):
  ∀(ps:List PV) (vs:List Value),((∀b,b<w'.heap.size→ ¬Y b→ ¬X' b)∨nA ps=true)→(∀x∈eC ps,H' (aZ d x.1)=⟨(H (aZ d x.1)).g+1,some x.2⟩∧bq (aZ d x.1)=β x.1)→aY Y w' (gO dz bs β) ps vs→aY X' w' (bk bq H') (RV H d ps) vs
 | [],vs,_,_,q=>q
 | p::ps,vs,hc,ho,⟨v,r,e,q1,q2⟩=>by
  refine ⟨v,r,e,Sm h2 p v (hc.imp id fun h=>?_) (fun x hx=>ho x (by simp [eC,hx])) q1,Dt h2 ps r (hc.imp id fun h=>?_) (fun x hx=>ho x (by simp [eC,hx])) q2⟩
  ·simp only [nA,Bool.and_eq_true] at h;exact h.1
  ·simp only [nA,Bool.and_eq_true] at h;exact h.2
end
mutual
theorem Jm: ∀(p:PV),fT p=true→ ∀x∈owns p,∀e k cs,x.2= .own e k cs→ ∀c∈cs,fT (.d c)=true
 | .agg cs,h,x,hx=>tJ cs h x hx
 | .bH cs,h,x,hx=>tJ cs h x hx
 | .fn _ cs,h,x,hx=>tJ cs h x hx
 | .d _,_,x,hx=>by simp [owns] at hx
 | .cD _,_,x,hx=>by simp [owns] at hx
 | .nil,_,x,hx=>by simp [owns] at hx
 | .jv ..,_,x,hx=>by simp [owns] at hx
 | .un,_,x,hx=>by simp [owns] at hx
 | .r (.ptr ..),_,x,hx=>by simp [owns] at hx
 | .r (.aL ..),_,x,hx=>by simp [owns] at hx
 | .r (.own j e k n cs),h,x,hx=>by
  simp only [owns,List.mem_singleton] at hx
  subst hx
  intro e' k' cs' he c hc
  cases he
  simp only [fT,List.all_eq_true] at h
  have:=h c hc
  cases c<;>first | rfl | exact this
theorem tJ: ∀(ps:List PV),nA ps=true→ ∀x∈eC ps,∀e k cs,x.2= .own e k cs→ ∀c∈cs,fT (.d c)=true
 | [],_,x,hx=>by simp [eC] at hx
 | p::ps,h,x,hx=>by
  simp only [nA,Bool.and_eq_true] at h
  simp only [eC,List.mem_append] at hx
  rcases hx with hx | hx
  ·exact Jm p h.1 x hx
  ·exact tJ ps h.2 x hx
end
mutual
theorem Am: ∀(p:PV),∀x∈owns p,∃e k cs,x.2= .own e k cs
 | .agg cs,x,hx=>ot cs x hx
 | .bH cs,x,hx=>ot cs x hx
 | .fn _ cs,x,hx=>ot cs x hx
 | .d _,x,hx=>by simp [owns] at hx
 | .cD _,x,hx=>by simp [owns] at hx
 | .nil,x,hx=>by simp [owns] at hx
 | .jv ..,x,hx=>by simp [owns] at hx
 | .un,x,hx=>by simp [owns] at hx
 | .r (.ptr ..),x,hx=>by simp [owns] at hx
 | .r (.aL ..),x,hx=>by simp [owns] at hx
 | .r (.own j e k n cs),x,hx=>by simp only [owns,List.mem_singleton] at hx;subst hx;exact ⟨e,k,cs,rfl⟩
theorem ot: ∀(ps:List PV),∀x∈eC ps,∃e k cs,x.2= .own e k cs
 | [],x,hx=>by simp [eC] at hx
 | p::ps,x,hx=>by
  simp only [eC,List.mem_append] at hx
  rcases hx with hx | hx
  ·exact Am p x hx
  ·exact ot ps x hx
end
theorem aY.ZT{X Y:Nat→Prop}{R R':Ref→Value→Prop}{w:World}: ∀{cs:List PD} {vs:List Value},(∀c∈cs,fT (.d c)=true)→aY X w R (cs.map .d) vs→aY Y w R' (cs.map .d) vs
 | [],_,_,q=>q
 | c::cs,_,h,⟨v,r,e,q1,q2⟩=>⟨v,r,e,dS.free (h c (by simp)) q1,aY.ZT (fun c hc=>h c (by simp [hc])) q2⟩
theorem aY.CA{X Y:Nat→Prop}{R R':Ref→Value→Prop}{w:World}(h: ∀b,b<w.heap.size→ ¬X b→ ¬Y b): ∀{cs:List PD} {vs:List Value},aY X w R (cs.map .d) vs→aY Y w R' (cs.map .d) vs
 | [],_,q=>q
 | c::cs,_,⟨v,r,e,q1,q2⟩=>⟨v,r,e,dS.sub h q1,aY.CA h q2⟩
theorem Sn(d j:Nat):aZ d j-8*d-8=j:=by unfold aZ;omega
theorem CB(hm:Mem E m aQ w0 φ H w)(k5:oo P γ w0 aQ){f:Nat}{args:List PV}{vs:List Value}{p:PV}{aD:eu}(hargs:aY (cW E φ) w (bk φ H) args vs)(he:jx γ H d f args=some (p,aD)){x:Sem Next}
  (hx:x.run P w=(callFunc f vs.toArray).run P w):Does P E m aQ w0 φ H w p aD x:=by
 unfold jx at he
 split at he
 ·cases he
 ·rename_i l hl
  split at he
  ·cases he
  ·rename_i r hr
   split at he
   ·rename_i Jn
    simp only [Option.some.injEq,Prod.mk.injEq] at he
    obtain ⟨rfl,rfl⟩:=he
    simp only [Bool.and_eq_true,Bool.or_eq_true,List.isEmpty_iff,List.all_eq_true,decide_eq_true_eq] at Jn
    obtain ⟨⟨aje,Wc⟩,hj8⟩:=Jn
    obtain ⟨ajf,Jo⟩:=k5 f l [] r [] (ai0 hr)
    have hE: ∀b,Gx E φ (bB args) b→b<w.heap.size:=by
     intro b hb
     rcases hb.1 with h | ⟨i,c,h⟩
     ·exact Nat.lt_of_lt_of_le (hm.ext b h) hm.sz
     ·exact (hm.lt i b c h).1
    have uM:Passed (Gx E φ (bB args)) w (fun _=> .nil none) []:=⟨by simp,(fun i b c h=>by cases h),(fun i j b c c' h=>by cases h),(fun i b h=>by simp at h)⟩
    have hc:=Jo (Gx E φ (bB args)) w (fun _=> .nil none) vs (hm.later.sub fun _ _ _ h=>by cases h) hE uM (aY.keep (Ch.refl _ _) (fun _ _ h=>h.elim) _ _ (wC hm _ args l vs hl (fun _ h=>h) hargs))
    refine .inr (.inr ⟨f,vs.toArray,by rw [hx];exact ajf _ _,hc.mono ?_⟩)
    rintro e w' ⟨v,dz,β,rfl,hb,ho⟩
    refine ⟨v,rfl,?_⟩
    have aFn: ∀i b c,dz i≠ .blk b c:=fun i b c h=>by have:=(ho.dom i b c h).1;simp at this
    -- the new blocks
    let I:Nat→Prop:=fun i=> ∃y∈owns r,i=aZ d y.1
    have Wd: ∀a b,aZ d a=aZ d b→a=b:=fun a b h=>by unfold aZ at h;omega
    have hH: ∀y∈owns r,eJ H ((owns r).map fun x=>nw H (aZ d x.1) x.2) (aZ d y.1)=⟨(H (aZ d y.1)).g+1,some y.2⟩:=
     fun y hy=>Jl (owns r) (aZ d) (fun y=>⟨(H (aZ d y.1)).g+1,some y.2⟩) H y (fun _ _ _ _ h=>Wd _ _ h) Wc hy
    have hH2: ∀i,¬I i→eJ H ((owns r).map fun x=>nw H (aZ d x.1) x.2) i=H i:=
     fun i hi=>jB _ _ _ (fun y hy e=>by
      obtain ⟨z,hz,rfl⟩:=List.mem_map.1 hy
      exact hi ⟨z,hz,e.symm⟩)
    let bq:Nat→cr:=fun i=>if (owns r).any (fun y=>Nat.beq i (aZ d y.1)) then β (i-8*d-8) else φ i
    have rP: ∀y∈owns r,bq (aZ d y.1)=β y.1:=fun y hy=>by
     show (if _ then _ else _)=_
     rw [if_pos (List.any_eq_true.2 ⟨y,hy,by simp⟩),Sn]
    have axG: ∀i,¬I i→bq i=φ i:=fun i hi=>by
     show (if _ then _ else _)=_
     rw [if_neg]
     intro h
     obtain ⟨y,hy,e⟩:=List.any_eq_true.1 h
     exact hi ⟨y,hy,by simpa using e⟩
    have uL:bB args= []→ ∀b,b<w'.heap.size→ ¬Yo (Gx E φ (bB args)) dz β b→ ¬cW E bq b:=by
     intro h0 b _ hn Fq
     rw [h0] at hn
     rcases Fq with h | ⟨i,c,h⟩
     ·exact hn (.inl ⟨.inl h,by simp⟩)
     ·by_cases hI:I i
      ·obtain ⟨y,hy,rfl⟩:=hI
       rw [rP y hy] at h
       exact hn (.inr (.inr ⟨_,_,h⟩))
      ·rw [axG i hI] at h
       exact hn (.inl ⟨.inr ⟨i,c,h⟩,by simp⟩)
    have oc:=hm.upd (bq:=bq) (w':=w') (H':=eJ H ((owns r).map fun x=>nw H (aZ d x.1) x.2)) I (fun j hj=>⟨axG j hj,hH2 j hj⟩)
     (fun j hj=>by obtain ⟨y,hy,rfl⟩:=hj;rw [hH y hy];exact .inl (Nat.lt_succ_self _))
     (fun b hb' _=>hb.blk b hb' (fun i c h=>by cases h))
     (fun j b c hj hp=>by obtain ⟨y,hy,rfl⟩:=hj;rw [rP y hy] at hp;have:=ho.new _ _ _ hp;exact ⟨this.2,.inl this.1⟩)
     (fun i j b c c' hi hj h1 h2=>by
      obtain ⟨y,hy,rfl⟩:=hi
      obtain ⟨z,hz,rfl⟩:=hj
      rw [rP y hy] at h1
      rw [rP z hz] at h2
      rw [ho.inj _ _ _ _ _ h1 h2])
     (fun j hj uH=>by obtain ⟨y,hy,rfl⟩:=hj;have:=hm.m8;unfold aZ at uH;omega)
     hb.size ⟨hb.os,hb.tape,hb.out⟩ (by
      intro tr j b hj hb'
      obtain ⟨y,hy,rfl⟩:=hj
      rw [hH y hy] at hb'
      simp only [Option.some.injEq] at hb'
      subst hb'
      rw [rP y hy]
      have q:=ho.own y (by simp only [cE,List.flatMap_nil,List.append_nil];exact hy)
      obtain ⟨e,k,cs,hown⟩:=Am r y hy
      rw [hown] at q ⊢
      cases uN:β y.1 with
      | nil a=>rw [uN] at q;exact q
      | blk b1 c1=>
       rw [uN] at q
       obtain ⟨q0,cur,xs,r1,r2,r3,r4,r5,r6,r7⟩:=q
       refine ⟨q0,cur,xs,r1,r2,r3,r4,r5,r6,?_⟩
       rcases aje with h0 | h0
       ·exact aY.CA (uL h0) r7
       ·exact aY.ZT (Jm r h0 y hy e k cs hown) r7)
    refine ⟨bq,oc.1,oc.2,?_⟩
    refine Sm (β:=β) ?_ r v (aje.imp uL id) (fun y hy=>⟨hH y hy,rP y hy⟩) ho.rep
    intro j e k n cs v' kB PB Du
    obtain ⟨hk,hlen,hv'⟩:=kB
    cases uN:β j with
    | nil a=>
     rw [uN] at hv' Du
     obtain ⟨rfl,rfl⟩:=hv'
     have hn:n=0:=by
      rw [List.length_nil] at hlen
      rcases Nat.mul_eq_zero.1 hlen.symm with h | h
      ·exact h
      ·omega
     subst hn
     have:=pR (H:=eJ H ((owns r).map fun x=>nw H (aZ d x.1) x.2)) (i:=aZ d j) (e:=e) Du (by rw [PB]) hk
     rw [PB] at this
     exact this
    | blk b c=>
     rw [uN] at hv' Du
     obtain ⟨rfl,hn⟩:=hv'
     have:=rq (H:=eJ H ((owns r).map fun x=>nw H (aZ d x.1) x.2)) (i:=aZ d j) (e:=e) (cs:=cs) Du (by rw [PB]) hk hlen hn
     rw [PB] at this
     exact this
   ·cases he
theorem Dv: ∀(l:eu) (H:Nat→cw),yA H l=eJ H l
 | [],_=>rfl
 | x::l,H=>Dv l (up H x.1 x.2)
theorem Sp(hm:Mem E m aQ w0 φ H w)(k5:oo P γ w0 aQ){f:Nat}{args:List PV}{vs:List Value}{p:PV}{aD:eu}(hargs:aY (cW E φ) w (bk φ H) args vs)(he:uF γ H d f args=some (p,aD)){x:Sem Next}
  (hx:x.run P w=(callFunc f vs.toArray).run P w):Does P E m aQ w0 φ H w p aD x:=by
 unfold uF at he
 split at he
 rotate_left
 ·cases he
 rename_i hall
 split at he
 rotate_left
 ·cases he
 rename_i p' od hc
 cases he
 rw [Dv] at hc
 obtain ⟨dz,m0,t0,fr⟩:=hm.freeze (kE (bB args)) false (fun i hi=>by
  simp only [kE,List.any_eq_true] at hi
  obtain ⟨x,hx,he⟩:=hi
  have e:i=x:=Nat.eq_of_beq_eq_true he
  subst e
  have:=List.all_eq_true.1 hall i hx
  simp at this
  exact .inr this.1) (H':=eJ H (iq H (bB args))) (fun i=>by unfold iq;rw [wB H];simp)
 have asS:aY (cW E dz) w (bk dz (eJ H (iq H (bB args)))) (jV (kE (bB args)) H args) vs:=by
  have:=fr (.agg args) (.agg vs.toArray) ⟨_,rfl,by simpa using hargs⟩
  unfold mP at this
  obtain ⟨Jp,e,q⟩:=this
  cases e;simpa using q
 have hd:=CB (x:=x) m0 k5 asS hc hx
 have conv: ∀v w',Post E m aQ w0 dz (eJ H (iq H (bB args))) w p od v w'→Post E m aQ w0 φ H w p (iq H (bB args)++od) v w':=by
  rintro v w' ⟨bq,m1,t1,r1⟩
  refine ⟨bq,?_,?_,?_⟩<;>rw [Jg]
  ·exact m1
  ·exact t0.trans t1
  ·exact r1
 rcases hd with ⟨v,w',hr,hp⟩ | ⟨w',hr,hp⟩ | ⟨f',a',hr,qR⟩
 ·exact .inl ⟨v,w',hr,conv _ _ hp⟩
 ·exact .inr (.inl ⟨w',hr,conv _ _ hp⟩)
 ·exact .inr (.inr ⟨f',a',hr,qR.mono (by rintro e w' ⟨v,rfl,hp⟩;exact ⟨v,rfl,conv _ _ hp⟩)⟩)
end
end Go.Proofs.YtimbfadnabfabaaGreatDoor.Pm
