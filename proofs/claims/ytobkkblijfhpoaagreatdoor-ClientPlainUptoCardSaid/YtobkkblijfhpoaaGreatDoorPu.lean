/- The small machine: its operations are the language's: literals, append, calls. No program is named here. -/
import Derived.Test.YtobkkblijfhpoaaGreatDoorPt
import Derived.Test.YtobkkblijfhpoaaGreatDoorPh
namespace Go.Proofs.YtobkkblijfhpoaaGreatDoor.Pm
open Go.RowKit

section
variable {P : Program} {E : Nat → Prop} {m : List cj} {aS φ : Nat → cJ} {H : Nat → cL} {w0 w : World}
variable {ρ : Operand → PV} {ev : Operand → Value} {γ : cX} {d : Nat}

theorem DC: ∀(news:List Value) (k:Nat) (cells:Array Value) (off:Nat),off+k+news.length≤cells.size→
  ((news.zipIdx k).foldl (fun cs (x:Value×Nat)=>cs.setIfInBounds (off+x.2) x.1) cells).toList=cells.toList.take (off+k)++news++cells.toList.drop (off+k+news.length)
 | [],k,cells,off,_=>by simp
 | v::r,k,cells,off,h=>by
  simp only [List.zipIdx_cons,List.foldl_cons]
  rw [DC r (k+1) _ off (by simp at h ⊢;omega)]
  have e:=list_seg_step cells.toList (off+k) v r (by simp at h ⊢;omega)
  simpa [Array.toList_setIfInBounds,Nat.add_assoc] using e
theorem Ar{X:Nat→Prop}{R:Ref→Value→Prop}{ρ:Operand→PV}{ev:Operand→Value}(b8: ∀x,cT X w R (ρ x) (ev x))(DD: ∀{p:PV} {cs:List PV} {v:Value},p.cells?=some cs→cT X w R p v→aZ X w R cs v.cells.toList)
  (pl:Nat→Option (Nat×Nat)): ∀(ps:List (Nat×Operand)) (q:List (Nat×Nat×Operand)) (cs cs':List PV) (cells:Array Value),lJ pl ps=some q→pz ρ cs q=some cs'→aZ X w R cs cells.toList→
  ∃out,Instr.fill pl cells (ps.map fun x=>(x.1,ev x.2))=some out∧aZ X w R cs' out.toList
 | [],q,cs,cs',cells,hp,hf,hr=>by
  simp only [lJ,Option.some.injEq] at hp;subst hp
  simp only [pz,Option.some.injEq] at hf;subst hf
  exact ⟨cells,rfl,hr⟩
 | (i,x)::ps,q,cs,cs',cells,hp,hf,hr=>by
  simp only [lJ] at hp
  split at hp
  ·rename_i o n r h1 h2;cases hp
   simp only [pz] at hf
   split at hf
   ·rename_i new hn
    split at hf
    ·rename_i hh
     have hrn:=DD hn (b8 x)
     have hl:=hrn.len
     have hlc:=hr.len
     simp only [Array.length_toList] at hl hlc
     have hr2:aZ X w R (cI cs o new) ((ev x).cells.toList.zipIdx.foldl (fun cs (y:Value×Nat)=>cs.setIfInBounds (o+y.2) y.1) cells).toList:=by
      rw [DC _ 0 cells o (by simp;omega)]
      have:=hr.cI hrn o
      simpa using this
     obtain ⟨out,h3,h4⟩:=Ar b8 DD pl ps r _ cs' _ h2 hf hr2
     refine ⟨out,?_,h4⟩
     simp only [List.map_cons,Instr.fill,h1]
     rw [if_neg (by simp;omega),←h3]
     congr 1
     rw [←Array.foldl_toList]
     congr 1
     simp
    ·cases hf
   ·cases hf
  ·cases hp
theorem CF{φ:Nat→cJ}{H:Nat→cL}{X:Nat→Prop}: ∀{p:PV} {cs:List PV} {v:Value},p.cells?=some cs→cT X w (bu φ H) p v→aZ X w (bu φ H) cs v.cells.toList:=
 fun h q=>(Gq h q).1
theorem Qk{t:TypeId}{fs:Array Field}{ps:Array (Nat×Operand)}{pl:List (Nat×Nat)}{z:List Value}{n:Nat}{q:List (Nat×Nat×Operand)}{p:PV}{aH:eo}(hm:Mem E m aS w0 φ H w)(b8:eW E φ H w ρ ev)(hu:P.underlying t=some (.struct fs))
  (hpl:places P fs.toList=some pl) (hz:zeroOf P t n=some z) (hq:lJ (fun i=>pl[i]?) ps.toList=some q)
  (he:aD γ H d ρ (.build (tH z) q)=some (p,aH)):Does P E m aS w0 φ H w p aH (do pure (.value (←Instr.build t (ps.map fun (i,x)=>(i,ev x))))):=by
 simp only [aD] at he
 split at he
 ·rename_i cs hcs;cases he
  obtain ⟨i,v,hi,hv,xQ,_⟩:=l8 hz
  have hr:aZ (dr E φ) w (bu φ H) (iV (tH z)) v.cells.toList:=by rw [l7,xQ];exact aZ.consts z
  obtain ⟨out,h1,h2⟩:=Ar b8 CF _ _ _ _ _ v.cells hq hcs hr
  refine dY hm (v:= .agg out) (run_build w t _ out ?_) ⟨_,rfl,h2⟩
  unfold Program.built
  simp only [hi,hu,hv]
  unfold places at hpl
  simp only [hpl]
  rw [←h1]
  simp
 ·cases he
theorem Ql{t e:TypeId}{len k n:Nat}{ps:Array (Nat×Operand)}{z:List Value}{q:List (Nat×Nat×Operand)}{p:PV}{aH:eo}(hm:Mem E m aS w0 φ H w)(b8:eW E φ H w ρ ev)(hu:P.underlying t=some (.array len e))
  (hk:gS P e=some k) (hz:zeroOf P t n=some z) (hq:lJ (fun i=>some (i*k,k)) ps.toList=some q)
  (he:aD γ H d ρ (.build (tH z) q)=some (p,aH)):Does P E m aS w0 φ H w p aH (do pure (.value (←Instr.build t (ps.map fun (i,x)=>(i,ev x))))):=by
 simp only [aD] at he
 split at he
 ·rename_i cs hcs;cases he
  obtain ⟨i,v,hi,hv,xQ,_⟩:=l8 hz
  obtain ⟨ie,hie,azK⟩:=JZ hk
  have hr:aZ (dr E φ) w (bu φ H) (iV (tH z)) v.cells.toList:=by rw [l7,xQ];exact aZ.consts z
  obtain ⟨out,h1,h2⟩:=Ar b8 CF _ _ _ _ _ v.cells hq hcs hr
  refine dY hm (v:= .agg out) (run_build w t _ out ?_) ⟨_,rfl,h2⟩
  unfold Program.built
  simp only [hi,hu,hv,hie,azK]
  rw [←h1]
  simp
 ·cases he
theorem aeZ{t e:TypeId}{k n:Nat}{ps:Array (Nat×Operand)}{z:List Value}{q:List (Nat×Nat×Operand)}{p:PV}{aH:eo}(hm:Mem E m aS w0 φ H w)(b8:eW E φ H w ρ ev)(hu:P.underlying t=some (.slice e))
  (hk:gS P e=some k) (pU:0<k) (hnk:n*k≤65536) (hz:zeroOf P e k=some z) (hq:lJ (fun i=>some (i*k,k)) ps.toList=some q)
  (he:aD γ H d ρ (.tC e k n (tH ((List.range n).flatMap fun _=>z)) q)=some (p,aH)):Does P E m aS w0 φ H w p aH (do pure (.value (←Instr.buildSlice t n (ps.map fun (i,x)=>(i,ev x))))):=by
 simp only [aD] at he
 split at he
 ·rename_i cs hcs
  split at he
  rotate_left
  ·cases he
  rename_i hall
  split at he
  ·rename_i ds Gz
   split at he
   ·rename_i SV;cases he
    obtain ⟨i,v,hi,hv,xQ,hzl⟩:=l8 hz
    have hzs:v.cells.size=k:=by rw [←hzl,←xQ];simp
    have hcell:((Array.range (n*k)).map (fun j=>v.cells[j%v.cells.size]!)).toList=(List.range n).flatMap fun _=>z:=by
     rw [←xQ,hzs]
     clear hcs hq hnk SV
     induction n with
     | zero=>simp
     | succ n ih=>
      rw [List.range_succ,List.flatMap_append,←ih]
      simp only [Array.toList_map,Array.toList_range,List.flatMap_cons,List.flatMap_nil,List.append_nil]
      rw [Nat.succ_mul,List.range_add,List.map_append]
      congr 1
      apply List.ext_getElem?
      intro j
      by_cases hj:j<k
      ·simp only [List.map_map,List.getElem?_map,List.getElem?_range hj,Option.map_some,Function.comp]
       have e1:(n*k+j)%k=j:=by rw [Nat.mul_add_mod_self_right];exact Nat.mod_eq_of_lt hj
       rw [e1]
       have:j<v.cells.size:=by omega
       simp [this]
      ·rw [List.getElem?_eq_none (by simp;omega),List.getElem?_eq_none (by simp;omega)]
    have hr:aZ (dr E φ) w (bu φ H) (iV (tH ((List.range n).flatMap fun _=>z))) ((Array.range (n*k)).map (fun j=>v.cells[j%v.cells.size]!)).toList:=by
     rw [l7,hcell];exact aZ.consts _
    obtain ⟨out,h1,h2⟩:=Ar b8 CF _ _ _ _ _ _ hq hcs hr
    have lK:j8 (bQ cs) (bf d 0)=false:=by
     cases hq:j8 (bQ cs) (bf d 0) with
     | false=>rfl
     | true=>
      simp only [j8,List.any_eq_true] at hq
      obtain ⟨x,hx,he⟩:=hq
      have:=List.all_eq_true.1 hall x hx
      have e:bf d 0=x:=Nat.eq_of_beq_eq_true he
      subst e
      simp at this
    obtain ⟨dz,m0,t0,fr⟩:=hm.freeze (j8 (bQ cs)) false (fun i hi=>by
     simp only [j8,List.any_eq_true] at hi
     obtain ⟨x,hx,he⟩:=hi
     have e:i=x:=Nat.eq_of_beq_eq_true he
     subst e
     have:=List.all_eq_true.1 hall i hx
     simp at this
     exact .inr this.1) (H':=eO H ((bQ cs).map fun j=>(j,⟨(H j).g+1,none⟩))) (fun i=>by rw [vO H];simp)
    have hg0:eO H ((bQ cs).map fun j=>(j,⟨(H j).g+1,none⟩)) (bf d 0)=H (bf d 0):=by rw [vO H,if_neg (by rw [lK];simp)]
    have h2:aZ (dr E dz) w (bu dz (eO H ((bQ cs).map fun j=>(j,⟨(H j).g+1,none⟩)))) (gW (j8 (bQ cs)) H cs) out.toList:=by
     have:=fr (.agg cs) (.agg out) ⟨out,rfl,h2⟩
     unfold jf at this
     obtain ⟨vs,e,q⟩:=this
     cases e;exact q
    obtain ⟨h3,h4,_⟩:=qd Gz h2
    have aCc:(gW (j8 (bQ cs)) H cs).length=cs.length:=by
     have: ∀(D:Nat→Bool) (l:List PV),(gW D H l).length=l.length:=fun D l=>by
      induction l with
      | nil=>rfl
      | cons a l ih=>simp [gW,ih]
     exact this _ _
    have h5:=h3.len
    simp only [List.length_map,Array.length_toList] at h5
    have hrun:(Instr.buildSlice t n (ps.map fun (i,x)=>(i,ev x))).run P w= .ok (.slice (some ⟨w.heap.size,0,none⟩) n n) (w.alloc (.cells out e)):=by
     unfold Instr.buildSlice
     have aaF: ¬(n*k>2^24):=by omega
     have h1':Instr.fill (fun i=>some (i*k,k)) ((Array.range (n*k)).map (fun j=>v.cells[j%v.cells.size]!)) (ps.map fun (i,x)=>(i,ev x)).toList=some out:=by
      rw [←h1];congr 1;simp
     by_cases h0:n*k=0
     ·have hn:n=0:=by
       rcases Nat.mul_eq_zero.1 h0 with h | h
       ·exact h
       ·omega
      subst hn
      have e0:(Array.range (0*k)).map (fun j=>v.cells[j%v.cells.size]!)= #[]:=Array.eq_empty_of_size_eq_zero (by simp)
      have e1:(Array.range (0*k)).map (fun j=>(#[]:Array Value)[j%(#[]:Array Value).size]!)= #[]:=Array.eq_empty_of_size_eq_zero (by simp)
      rw [e0] at h1'
      simp only [Sem.run_bind,run_underlying hu,Result.andThen_ok,fe hk,if_neg aaF,if_pos h0,Sem.run_pure,e1,h1',newRow,run_newObj,World.alloc_eq]
     ·simp only [Sem.run_bind,run_underlying hu,Result.andThen_ok,fe hk,if_neg aaF,if_neg h0,zeroValue,typeInfo,run_program,hi,hv,Sem.run_pure,h1',newRow,run_newObj,World.alloc_eq]
    obtain ⟨bK,p1,p2,m1,t1⟩:=m0.new (bf d 0) (by unfold bf;omega) (.own e k ds) out e n (.inr ⟨k,ds,rfl,pU,by omega,by
     unfold maxLen
     have:n≤n*k:=Nat.le_mul_of_pos_right _ pU
     omega,⟨n,SV⟩,by omega,by rw [List.take_of_length_le (by simp;omega)];exact h3⟩)
    rw [hg0] at m1 t1
    have eH:eO H ((bQ cs).map (fun i=>(i,(⟨(H i).g+1,none⟩:cL)))++ [nw H (bf d 0) (.own e k ds)])=up (eO H ((bQ cs).map fun j=>(j,⟨(H j).g+1,none⟩))) (bf d 0) ⟨(H (bf d 0)).g+1,some (.own e k ds)⟩:=by rw [J3];rfl
    refine .inl ⟨_,_,j_ hrun,bK,by rw [eH];exact m1,by rw [eH];exact t0.trans t1,?_⟩
    rw [eH]
    have:=Dv (φ:=bK) (H:=up (eO H ((bQ cs).map fun j=>(j,⟨(H j).g+1,none⟩))) (bf d 0) ⟨(H (bf d 0)).g+1,some (.own e k ds)⟩) (i:=bf d 0) (k:=k) (e:=e) (n:=n) p1 (by rw [aQ]) pU SV (Nat.le_refl _) (by
     unfold maxLen
     have:n≤n*k:=Nat.le_mul_of_pos_right _ pU
     omega)
    rw [aQ] at this
    exact this
   ·cases he
  ·cases he
 ·cases he
theorem ae0{t e:TypeId}{len k:Nat}{x:Operand}{lo hi:Option Operand}{p:PV}{aH:eo}(hm:Mem E m aS w0 φ H w)(b8:eW E φ H w ρ ev)(hu:P.underlying t=some (.array len e))(hk:gS P e=some k)
  (he:aD γ H d ρ (.Qb len k x lo hi)=some (p,aH)):Does P E m aS w0 φ H w p aH (do pure (.value (←Instr.sliceAt t (ev x) (lo.map ev) (hi.map ev) none))):=by
 have hx:=b8 x
 simp only [aD] at he
 split at he
 ·rename_i i g e1
  rw [e1] at hx
  split at he
  ·rename_i cs hl
   split at he
   ·rename_i ds l h Gz hlo hhi
    split at he
    ·rename_i hh
     obtain ⟨h8,pU,SV,hlen,h1,h2⟩:=hh
     cases he
     obtain ⟨hg,hb⟩:=hm.gR hl
     obtain ⟨b,c,hp,hv,us,r1,r2⟩:=hm.cells (fun cs' h=>by cases h;exact SL Gz) hl hx
     obtain ⟨r3,r4,_⟩:=qd Gz r1
     have hrun:(Instr.sliceAt t (ev x) (lo.map ev) (hi.map ev) none).run P w= .ok (.slice (some (if len=l then ⟨b,off c+0,none⟩ else (⟨b,off c+0,none⟩:Addr).add (l*k))) (h-l) (len-l)) w:=by
      rw [hv]
      unfold Instr.sliceAt
      simp only [Sem.run_bind,run_underlying hu,Result.andThen_ok,Instr.sureAddr,Sem.run_pure,x_ b8 hlo hhi h1 h2 (Nat.le_refl _),fe hk]
     have nH:=hm.upd (bK:=up φ i (.nil none)) (H':=up H i ⟨g+1,none⟩) (w':=w) (fun j=>j=i) (fun j hj=>⟨dV _ _ _ _ hj,dV _ _ _ _ hj⟩) (fun j hj=>by subst hj;rw [aQ,hg];exact .inl (Nat.lt_succ_self _)) (fun _ _ _=>rfl)
      (fun j b' c' hj hp=>by subst hj;rw [aQ] at hp;cases hp) (fun a a' _ _ _ h1 h2 _ _=>h1.trans h2.symm) (fun j hj rW=>by have:=hm.m8;omega) (Nat.le_refl _) ⟨rfl,rfl,rfl⟩ (fun _ j b' hj hb'=>by subst hj;rw [aQ] at hb';cases hb')
     have hX: ¬dr E (up φ i (.nil none)) b:=by
      rintro (hx | ⟨j,c',hx⟩)
      ·have:=hm.ext _ hx
       rcases (hm.lt i b c hp).2 with h | ⟨h,_⟩
       ·omega
       ·have:=hm.m8;omega
      ·by_cases Xg:j=i
       ·subst Xg;rw [aQ] at hx;cases hx
       ·rw [dV _ _ _ _ Xg] at hx
        exact Xg (hm.inj _ _ _ _ _ hx hp)
     refine .inl ⟨_,w,j_ hrun,_,nH.1,nH.2,⟨_,_,rfl,by omega,by unfold maxLen;omega,(fun h=>by cases h),?_⟩⟩
     by_cases hll:len=l
     ·have:h=l:=by omega
      subst this
      exact .inl (List.drop_eq_nil_of_le (by simp;omega))
     ·rw [if_neg hll]
      refine .inr ⟨b,off c+l*k,by simp [iH],hX,(hm.lt i b c hp).1,?_⟩
      have hc:fq (dr E (up φ i (.nil none))) w ds b (off c):=fq.of fun j y hy=>by
       obtain ⟨u,Xf,hu2⟩:=r3.CE j y hy
       exact ⟨u,r2 j u Xf,dQ.keep nH.2.ch y u hu2⟩
      have:=(hc.take (h*k)).drop (l*k)
      simpa using this
    ·cases he
   ·cases he
  ·cases he
 ·cases he
theorem ae1{t e:TypeId}{it:TypeInfo}{z:List Value}{x y:Operand}{p:PV}{aH:eo}(hm:Mem E m aS w0 φ H w)(b8:eW E φ H w ρ ev)(hu:P.underlying t=some (.slice e))(hi:P.info? e=some it)(hz:zeroOf P e it.size=some z)(h0:0<it.size)(h1:1≤it.bytes)
  (he:aD γ H d ρ (.JP e it.size it.bytes (tH z) x y)=some (p,aH)):Does P E m aS w0 φ H w p aH (do pure (.value (←Instr.makeSlice t (ev x) (ev y)))):=by
 simp only [aD] at he
 split at he
 ·rename_i k1 a k2 b ds h2 h3 Gz
  split at he
  ·rename_i hh
   obtain ⟨ha,hab,hby⟩:=hh
   cases he
   rw [jT h2 (b8 x),jT h3 (b8 y)]
   obtain ⟨i2,v,Qm,hv,xQ,hzl⟩:=l8 hz
   rw [hi] at Qm;cases Qm
   have hzs:v.cells.size=it.size:=by rw [←hzl,←xQ];simp
   have aaF:b.toNat≤140737488355328:=Nat.le_trans (by have:=Nat.mul_le_mul_left b.toNat h1;simpa using this) hby
   have hr:=run_make (P:=P) w t e it v hu hi hv k1 k2 a b ha hab (by
    have h:((it.bytes*b.toNat:Nat):Int)≤281474976710656:=by rw [Nat.mul_comm];omega
    rw [Int.natCast_mul,Int.toNat_of_nonneg (by omega)] at h
    exact h) (by omega)
   have Xh:aZ (dr E φ) w (bu φ H) (z.map ofConst) z:=aZ.consts z
   rw [l7] at Gz
   obtain ⟨r1,r2,_⟩:=qd Gz Xh
   have SV:ds.length=it.size:=by rw [r2,List.length_map,hzl]
   have dG: ∀n:Nat,aZ (dr E φ) w (bu φ H) (((List.replicate n ds).flatten).map .d) ((List.replicate n z).flatten):=by
    intro n
    induction n with
    | zero=>exact rfl
    | succ n ih=>rw [List.replicate_succ,List.replicate_succ,List.flatten_cons,List.flatten_cons,List.map_append];exact r1.app ih
   have J4: ∀n:Nat,((List.replicate n ds).flatten).length=n*it.size:=by
    intro n
    induction n with
    | zero=>simp
    | succ n ih=>rw [List.replicate_succ,List.flatten_cons,List.length_append,ih,SV,Nat.succ_mul,Nat.add_comm]
   have hcell: ∀n:Nat,(madeCells v.cells (n*it.size)).toList=(List.replicate n z).flatten:=by
    intro n
    rw [←xQ]
    unfold madeCells
    rw [←hzs]
    have hp:0<v.cells.size:=by omega
    induction n with
    | zero=>simp
    | succ n ih=>
     rw [List.replicate_succ',List.flatten_append,←ih]
     simp only [Array.toList_map,Array.toList_range,List.flatten_cons,List.flatten_nil,List.append_nil]
     rw [Nat.succ_mul,List.range_add,List.map_append]
     congr 1
     apply List.ext_getElem?
     intro j
     by_cases hj:j<v.cells.size
     ·simp only [List.map_map,List.getElem?_map,List.getElem?_range hj,Option.map_some,Function.comp]
      have e1:(n*v.cells.size+j)%v.cells.size=j:=by rw [Nat.mul_add_mod_self_right];exact Nat.mod_eq_of_lt hj
      rw [e1]
      simp [hj]
     ·rw [List.getElem?_eq_none (by simp;omega),List.getElem?_eq_none (by simp;omega)]
   have hle:a.toNat≤b.toNat:=by omega
   obtain ⟨bK,p1,p2,m1,t1⟩:=hm.new (bf d 0) (by unfold bf;omega) (.own e it.size ((List.replicate a.toNat ds).flatten)) (madeCells v.cells (b.toNat*it.size)) e b.toNat (.inr ⟨it.size,_,rfl,h0,by
     rw [←Array.length_toList,hcell]
     clear hr hab ha hby hle aaF
     generalize b.toNat=n
     induction n with
     | zero=>simp
     | succ n ih=>rw [List.replicate_succ,List.flatten_cons,List.length_append,ih,hzl,Nat.succ_mul,Nat.add_comm],by unfold maxLen;omega,⟨a.toNat,J4 _⟩,by rw [J4];exact Nat.mul_le_mul_right _ hle,by
     rw [J4,hcell]
     have e1:(List.replicate b.toNat z).flatten=(List.replicate a.toNat z).flatten++(List.replicate (b.toNat-a.toNat) z).flatten:=by
      rw [←List.flatten_append,List.replicate_append_replicate]
      congr 2;omega
     have hzf:((List.replicate a.toNat z).flatten).length=a.toNat*it.size:=by
      have:=(dG a.toNat).len
      rw [List.length_map,J4] at this
      exact this.symm
     rw [e1,List.take_left' hzf]
     exact dG a.toNat⟩)
   refine .inl ⟨_,_,j_ hr,bK,m1,t1,?_⟩
   have:=Dv (φ:=bK) (H:=up H (bf d 0) ⟨(H (bf d 0)).g+1,some (.own e it.size ((List.replicate a.toNat ds).flatten))⟩) (i:=bf d 0) (k:=it.size) (e:=e) (n:=a.toNat) p1 (by rw [aQ]) h0 (J4 _) hle (by unfold maxLen;omega)
   rw [aQ] at this
   exact this
  ·cases he
 ·cases he
theorem J5{t t2 ty e:TypeId}{k:Nat}(hu:P.underlying t=some (.slice e))(hk:gS P e=some k)(a:Option Addr)(n c:Nat)(x:Option Addr)(m cx:Nat)(us:List Value)(hl:us.length=min m n*k)(hx:x=none→us= [])(hc: ∀ad,x=some ad→ ∀j u,us[j]?=some u→w.cell? (ad.add j)=some u){w':World}(hs: ∀ad,a=some ad→(storeCells ad us).run P w= .ok () w')(hn:a=none→w'=w):
  (Builtin.copy_ #[t,t2] ty #[.slice a n c,.slice x m cx]).run P w= .ok (.int .i64 (min m n:Nat)) w':=by
 have hf:(Builtin.firstCells k (Nat.min m n) (.slice x m cx)).run P w= .ok us.toArray w:=by
  cases x with
  | none=>
   have:=hx rfl
   subst this
   exact run_firstCells_none w _ _ _ _
  | some ad=>exact run_firstCells_some w _ _ ad m cx us hl (hc ad rfl)
 cases a with
 | none=>
  have:=hn rfl
  subst this
  simp [Builtin.copy_,run_underlying hu,Builtin.lenOf,fe hk,hf,goInt]
 | some ad=>
  simp [Builtin.copy_,run_underlying hu,Builtin.lenOf,fe hk,hf,hs ad rfl,goInt]
theorem ae2{t t2 ty e:TypeId}{k:Nat}{x y:Operand}{p:PV}{aH:eo}(hm:Mem E m aS w0 φ H w)(b8:eW E φ H w ρ ev)(hu:P.underlying t=some (.slice e))(hk:gS P e=some k)(pU:0<k)
  (he:aD γ H d ρ (.Dt k x y)=some (p,aH)):Does P E m aS w0 φ H w p aH (do pure (.value (←Builtin.copy_ #[t,t2] ty #[ev x,ev y]))):=by
 have hx:=b8 x
 simp only [aD] at he
 split at he
 ·rename_i i g l n q ys e1 hq
  rw [e1] at hx
  split at he
  ·rename_i e' k' cs hl
   split at he
   ·rename_i hh
    obtain ⟨rfl,IE⟩:=hh
    cases he
    obtain ⟨hg,hb⟩:=hm.gR hl
    obtain ⟨ax,cx,us,hv,hqc,_,hnx,Dx,hxa⟩:=hm.qx hq (b8 y)
    obtain ⟨hsl,Gt,hx2⟩:=hx
    obtain ⟨_,hlen,hp⟩:=hx2 hg e' k' cs hb
    have qy:=Dx.len
    simp only [List.length_map] at qy
    have aaG:min q n*k'≤q*k':=Nat.mul_le_mul_right _ (Nat.min_le_left _ _)
    have J6:(us.take (min q n*k')).length=min q n*k':=by rw [List.length_take,←qy,IE];omega
    have hnone:ax=none→us.take (min q n*k')= []:=by
     intro h
     have h0:=hnx h
     have:q=0:=by omega
     subst this
     simp
    have DD: ∀ad,ax=some ad→ ∀j u,(us.take (min q n*k'))[j]?=some u→w.cell? (ad.add j)=some u:=by
     intro ad had j u hu
     rw [List.getElem?_take] at hu
     split at hu
     ·rcases hxa with h0 | ⟨b,o,e2,_,hc⟩
      ·subst h0
       have:us= []:=List.eq_nil_of_length_eq_zero (by simpa using qy.symm)
       rw [this] at hu;simp at hu
      ·rw [had] at e2;cases e2
       rw [iH];exact hc j u hu
     ·cases hu
    rw [hv]
    have hnk:n*k'≤cs.length-l*k':=by rw [Nat.add_mul] at hlen;omega
    by_cases hz:min q n*k'=0
    ·have he0:ys.take (min q n*k')= []:=by rw [hz];simp
     have hu0:us.take (min q n*k')= []:=by rw [hz];simp
     have hsp:cI cs (l*k') (ys.take (min q n*k'))=cs:=by rw [he0];simp [cI]
     obtain ⟨a,n',c,J7⟩:=hsl
     have hn':n'=n:=by
      cases ey:φ i with
      | nil a'=>rw [ey] at hp;obtain ⟨hv',_,rfl⟩:=hp;rw [J7] at hv';cases hv';rfl
      | blk b c'=>rw [ey] at hp;obtain ⟨a',c2,hv',_⟩:=hp;rw [J7] at hv';cases hv';rfl
     subst hn'
     rw [J7]
     have hr:=J5 (P:=P) (w:=w) (t2:=t2) (ty:=ty) hu hk a n' c ax q cx _ J6 hnone DD (w':=w) (fun ad _=>by rw [hu0];rfl) (fun _=>rfl)
     have nH:=hm.upd (bK:=φ) (H':=up H i ⟨g,some (.own e' k' cs)⟩) (w':=w) (fun j=>j=i) (fun j hj=>⟨rfl,dV _ _ _ _ hj⟩) (fun j hj=>by subst hj;rw [aQ];exact .inr ⟨rfl,hg,by rw [hb];exact ⟨rfl,rfl,rfl⟩⟩) (fun _ _ _=>rfl)
      (fun j b' c' hj hp=>⟨(hm.lt j b' c' hp).1,.inr ⟨c',hp⟩⟩) (fun a a' _ _ _ h1 h2 _ _=>h1.trans h2.symm) (fun j hj _=>by subst hj;rw [aQ,hb];exact ⟨fun b0 hk=>by cases b0<;>exact hk,.inl rfl⟩) (Nat.le_refl _) ⟨rfl,rfl,rfl⟩ (fun tr j b' hj hb'=>by
       subst hj
       rw [aQ] at hb'
       simp only [Option.some.injEq] at hb'
       subst hb'
       have q:=hm.rep j _ hb
       generalize φ j=pj at*
       cases pj with
       | nil a=>exact q
       | blk b c=>
        obtain ⟨q0,cur,xs,r1,r2,r3,r4,r5,r6,r7⟩:=q
        exact ⟨q0,cur,xs,r1,r2,r3,r4,r5,r6,tr.l r7⟩)
     rw [hsp]
     exact .inl ⟨_,w,j_ hr,φ,nH.1,nH.2,rfl⟩
    ·have hyl:(ys.take (min q n*k')).length=min q n*k':=by rw [List.length_take,IE];omega
     have uf:aZ (dr E φ) w (bu φ H) ((ys.take (min q n*k')).map .d) (us.take (min q n*k')):=by rw [List.map_take];exact Dx.take _
     have h1: ∀u∈us.take (min q n*k'),u.oneCell'=true:=by
      intro u hu
      obtain ⟨j,hj,rfl⟩:=List.getElem_of_mem (List.mem_of_mem_take hu)
      obtain ⟨u',r1,r2⟩:=Dx.CE j ys[j] (by simp [qy,hj])
      rw [List.getElem?_eq_getElem hj] at r1;cases r1
      exact dQ.one r2
     have hmn:min q n*k'≤n*k':=Nat.mul_le_mul_right _ (Nat.min_le_right _ _)
     obtain ⟨b,c,ey,w',hst,m1,t1⟩:=hm.ajm hb uf h1 (by rw [List.length_map,hyl];omega) (l*k') (.inr ⟨e',k',cs,ys.take (min q n*k'),rfl,rfl,rfl,by rw [List.length_map,hyl];rw [Nat.add_mul] at hlen;omega⟩) P
     rw [ey] at hp
     obtain ⟨a,c',J7,_,_,h3,_,_⟩:=hp
     have DF:0<n:=by
      rcases Nat.eq_zero_or_pos n with h | h
      ·subst h;simp at hz
      ·exact h
     rw [J7,h3 DF]
     have hr:=J5 (P:=P) (w:=w) (t2:=t2) (ty:=ty) hu hk (some ⟨b,off c+l*k',none⟩) n c' ax q cx _ J6 hnone DD (w':=w') (fun ad had=>by cases had;exact hst) (fun h=>by cases h)
     refine .inl ⟨_,w',j_ hr,φ,?_,?_,rfl⟩
     ·show Mem _ _ _ _ _ (up H i _) _;rw [hg];exact m1
     ·show Tr _ _ _ _ _ (up H i _) _;rw [hg];exact t1
   ·cases he
  ·cases he
 ·cases he
theorem Xi{t ty e:TypeId}{it:TypeInfo}{v:Value}(hu:P.underlying t=some (.slice e))(hi:P.info? e=some it)(hz:it.zero=some v)(ad:Addr)(n c:Nat)(hn:0<n){w':World}(hs:(storeCells ad (Builtin.zeroCells v.cells n).toList).run P w= .ok () w'):
  (Builtin.clear_ #[t] ty #[.slice (some ad) n c]).run P w= .ok (.tuple #[]) w':=by
 obtain ⟨n,rfl⟩: ∃m,n=m+1:=⟨n-1,by omega⟩
 simp [Builtin.clear_,run_underlying hu,zeroValue,typeInfo,hi,hz,hs]
theorem SX{t ty e:TypeId}(hu:P.underlying t=some (.slice e))(a:Option Addr)(c:Nat):(Builtin.clear_ #[t] ty #[.slice a 0 c]).run P w= .ok (.tuple #[]) w:=by
 cases a<;>simp [Builtin.clear_,run_underlying hu]
theorem SY{v:Value}{z:List Value}{k:Nat}(xQ:v.cells.toList=z)(hk:v.cells.size=k)(h0:0<k): ∀n:Nat,(Builtin.zeroCells v.cells n).toList=(List.replicate n z).flatten:=by
 intro n
 rw [←xQ]
 unfold Builtin.zeroCells
 induction n with
 | zero=>simp
 | succ n ih=>
  rw [List.replicate_succ',List.flatten_append,←ih]
  simp only [Array.toList_map,Array.toList_range,List.flatten_cons,List.flatten_nil,List.append_nil]
  rw [Nat.succ_mul,List.range_add,List.map_append]
  congr 1
  apply List.ext_getElem?
  intro j
  by_cases hj:j<v.cells.size
  ·simp only [List.map_map,List.getElem?_map,List.getElem?_range hj,Option.map_some,Function.comp]
   have e1:(n*v.cells.size+j)%v.cells.size=j:=by rw [Nat.mul_add_mod_self_right];exact Nat.mod_eq_of_lt hj
   rw [e1]
   simp [hj]
  ·rw [List.getElem?_eq_none (by simp;omega),List.getElem?_eq_none (by simp;omega)]
theorem ae4{t ty e:TypeId}{it:TypeInfo}{z:List Value}{x:Operand}{p:PV}{aH:eo}(hm:Mem E m aS w0 φ H w)(b8:eW E φ H w ρ ev)(hu:P.underlying t=some (.slice e))(hi:P.info? e=some it)(hz:zeroOf P e it.size=some z)(h0:0<it.size)
  (he:aD γ H d ρ (.Qc it.size (tH z) x)=some (p,aH)):Does P E m aS w0 φ H w p aH (do pure (.value (←Builtin.clear_ #[t] ty #[ev x]))):=by
 have hx:=b8 x
 simp only [aD] at he
 split at he
 ·rename_i ds i g l n Gz e1
  rw [e1] at hx
  split at he
  ·rename_i e' k' cs hl
   split at he
   ·rename_i hk
    subst hk
    cases he
    obtain ⟨i2,v,Qm,hv,xQ,hzl⟩:=l8 hz
    rw [hi] at Qm;cases Qm
    have hzs:v.cells.size=it.size:=by rw [←hzl,←xQ];simp
    have Xh:aZ (dr E φ) w (bu φ H) (z.map ofConst) z:=aZ.consts z
    rw [l7] at Gz
    obtain ⟨r1,r2,_⟩:=qd Gz Xh
    have SV:ds.length=it.size:=by rw [r2,List.length_map,hzl]
    have dG: ∀n:Nat,aZ (dr E φ) w (bu φ H) (((List.replicate n ds).flatten).map .d) ((List.replicate n z).flatten):=by
     intro n
     induction n with
     | zero=>exact rfl
     | succ n ih=>rw [List.replicate_succ,List.replicate_succ,List.flatten_cons,List.flatten_cons,List.map_append];exact r1.app ih
    have J4: ∀n:Nat,((List.replicate n ds).flatten).length=n*it.size:=by
     intro n
     induction n with
     | zero=>simp
     | succ n ih=>rw [List.replicate_succ,List.flatten_cons,List.length_append,ih,SV,Nat.succ_mul,Nat.add_comm]
    obtain ⟨hg,hb⟩:=hm.gR hl
    obtain ⟨hsl,Gt,hx2⟩:=hx
    obtain ⟨_,hlen,hp⟩:=hx2 hg e' it.size cs hb
    by_cases hn:n=0
    ·subst hn
     have hsp:cI cs (l*it.size) ((List.replicate 0 ds).flatten)=cs:=by simp [cI]
     obtain ⟨a,n',c,J7⟩:=hsl
     have hn':n'=0:=by
      cases ey:φ i with
      | nil a'=>rw [ey] at hp;obtain ⟨hv',_,_⟩:=hp;rw [J7] at hv';cases hv';rfl
      | blk b c'=>rw [ey] at hp;obtain ⟨a',c2,hv',_⟩:=hp;rw [J7] at hv';cases hv';rfl
     subst hn'
     rw [J7]
     have nH:=hm.upd (bK:=φ) (H':=up H i ⟨g,some (.own e' it.size cs)⟩) (w':=w) (fun j=>j=i) (fun j hj=>⟨rfl,dV _ _ _ _ hj⟩) (fun j hj=>by subst hj;rw [aQ];exact .inr ⟨rfl,hg,by rw [hb];exact ⟨rfl,rfl,rfl⟩⟩) (fun _ _ _=>rfl)
      (fun j b' c' hj hp=>⟨(hm.lt j b' c' hp).1,.inr ⟨c',hp⟩⟩) (fun a a' _ _ _ h1 h2 _ _=>h1.trans h2.symm) (fun j hj _=>by subst hj;rw [aQ,hb];exact ⟨fun b0 hk=>by cases b0<;>exact hk,.inl rfl⟩) (Nat.le_refl _) ⟨rfl,rfl,rfl⟩ (fun tr j b' hj hb'=>by
       subst hj
       rw [aQ] at hb'
       simp only [Option.some.injEq] at hb'
       subst hb'
       have q:=hm.rep j _ hb
       generalize φ j=pj at*
       cases pj with
       | nil a=>exact q
       | blk b c=>
        obtain ⟨q0,cur,xs,r1,r2,r3,r4,r5,r6,r7⟩:=q
        exact ⟨q0,cur,xs,r1,r2,r3,r4,r5,r6,tr.l r7⟩)
     rw [hsp]
     exact .inl ⟨_,w,j_ (SX hu a c),φ,nH.1,nH.2,⟨#[],rfl,rfl⟩⟩
    ·have DF:0<n:=by omega
     have h1: ∀u∈(List.replicate n z).flatten,u.oneCell'=true:=by
      intro u hu
      obtain ⟨j,hj,rfl⟩:=List.getElem_of_mem hu
      have hz2:=(dG n).len
      rw [List.length_map] at hz2
      obtain ⟨u',r1,r2⟩:=(dG n).CE j ((List.replicate n ds).flatten[j]'(by omega)) (by rw [List.getElem?_eq_getElem])
      rw [List.getElem?_eq_getElem hj] at r1;cases r1
      exact dQ.one r2
     obtain ⟨b,c,ey,w',hst,m1,t1⟩:=hm.ajm hb (dG n) h1 (by rw [List.length_map,J4];exact Nat.mul_pos DF h0) (l*it.size) (.inr ⟨e',it.size,cs,(List.replicate n ds).flatten,rfl,rfl,rfl,by rw [List.length_map,J4];rw [Nat.add_mul] at hlen;omega⟩) P
     rw [ey] at hp
     obtain ⟨a,c',J7,_,_,h3,_,_⟩:=hp
     rw [J7,h3 DF]
     have hr:=Xi (P:=P) (w:=w) (ty:=ty) hu hi hv ⟨b,off c+l*it.size,none⟩ n c' DF (w':=w') (by rw [SY xQ hzs h0];exact hst)
     refine .inl ⟨_,w',j_ hr,φ,?_,?_,⟨#[],rfl,rfl⟩⟩
     ·show Mem _ _ _ _ _ (up H i _) _;rw [hg];exact m1
     ·show Tr _ _ _ _ _ (up H i _) _;rw [hg];exact t1
   ·cases he
  ·cases he
 ·cases he
theorem ae5{t tx ty e:TypeId}{it:TypeInfo}{z:Value}{x y:Operand}{p:PV}{aH:eo}(hm:Mem E m aS w0 φ H w)(b8:eW E φ H w ρ ev)(hu:P.underlying t=some (.slice e))(hi:P.info? e=some it)(hz:it.zero=some z)
  (hzs:z.cells.size=it.size) (h0:0<it.size) (h1:1≤it.bytes) (hk:(∃e',P.underlying tx=some (.slice e'))∨P.underlying tx=some .string)
  (he:aD γ H d ρ (.app e it.size it.bytes x y)=some (p,aH)):Does P E m aS w0 φ H w p aH (do pure (.value (←Builtin.append_ #[t,tx] ty #[ev x,ev y]))):=by
 have hx:=b8 x
 have hy:=b8 y
 simp only [aD] at he
 split at he
 ·cases he
 ·rename_i q ys hq
  split at he
  ·rename_i IE
   split at he
   ·rename_i i g n e1
    rw [e1] at hx
    split at he
    ·rename_i e' k' cs hl
     split at he
     ·rename_i hh
      obtain ⟨rfl,rfl,hcs,hb⟩:=hh
      cases he
      obtain ⟨hg,Qn⟩:=hm.gR hl
      subst hg
      obtain ⟨v',w',bK,hr,m1,t1,r1⟩:=hm.app P (ty:=ty) Qn hcs IE hb h1 hu hi hz rfl rfl hzs hx (hm.aaD hk h0 hq IE hy)
      exact .inl ⟨v',w',j_ hr,bK,m1,t1,r1⟩
     ·cases he
    ·cases he
   ·rename_i e1
    rw [e1] at hx
    obtain ⟨a,hv⟩:=hx
    split at he
    ·rename_i hb;cases he
     obtain ⟨dz,p1,m1,t1⟩:=hm.Qf (bf d 0) (by unfold bf;omega) e it.size h0 a
     have hr1:=oD (φ:=dz) (H:=up H (bf d 0) ⟨(H (bf d 0)).g+1,some (.own e it.size [])⟩) (i:=bf d 0) (k:=it.size) (e:=e) p1 (by rw [aQ]) h0
     obtain ⟨us,Dx,Dy⟩:=hm.aaD hk h0 hq IE hy
     have hq1: ∃us,aZ (dr E dz) w (bu dz (up H (bf d 0) ⟨(H (bf d 0)).g+1,some (.own e it.size [])⟩)) (ys.map .d) us∧Src P it.size tx (ev y) q us w:=⟨us,t1.l Dx,Dy⟩
     obtain ⟨v',w',bK,hr,m2,t2,r2⟩:=m1.app P (ty:=ty) (n:=0) (cs:= []) (by rw [aQ]) (by simp) IE (by rw [Nat.zero_add];exact hb) h1 hu hi hz rfl rfl hzs hr1 hq1
     simp only [aQ,JU,List.nil_append,Nat.zero_add] at m2 t2 r2
     rw [hv]
     exact .inl ⟨v',w',j_ hr,bK,m2,t1.trans t2,r2⟩
    ·cases he
   ·cases he
  ·cases he

theorem dQ.free{X Y:Nat→Prop}{w:World}{x:PD}{v:Value}(h:gq (.d x)=true)(q:dQ X w x v):dQ Y w x v:=by
 cases x with
 | sl n cs=>
  obtain ⟨a,c,h1,h2,h3,h4,h5⟩:=q
  simp [gq] at h
  exact ⟨a,c,h1,h2,h3,h4,.inl h⟩
 | _=>exact q
theorem dQ.sub{X Y:Nat→Prop}{w:World}(h: ∀b,b<w.heap.size→ ¬X b→ ¬Y b){x:PD}{v:Value}(q:dQ X w x v):dQ Y w x v:=
 dQ.keep ⟨Nat.le_refl _,fun b hb hx=>⟨rfl,h b hb hx⟩⟩ x v q
theorem fq.sub{X Y:Nat→Prop}{w:World}(h: ∀b,b<w.heap.size→ ¬X b→ ¬Y b){cs:List PD}{b o:Nat}(hx: ¬X b)(hl:b<w.heap.size)(q:fq X w cs b o):fq Y w cs b o:=
 fq.keep ⟨Nat.le_refl _,fun b hb hx=>⟨rfl,h b hb hx⟩⟩ cs b o hx hl q
def HM(E:Nat→Prop)(φ:Nat→cJ)(ids:List Nat)(b:Nat):Prop:=dr E φ b∧ ∀i∈ids,∀c,φ i≠ .blk b c
theorem fq.J8{X Y:Nat→Prop}{R:Ref→Value→Prop}(uj: ∀b,b<w.heap.size→ ¬X b→ ¬Y b){cs:List PD}{us:List Value}{b o0:Nat}(hr:aZ X w R (cs.map .d) us)(hc: ∀j u,us[j]?=some u→w.cell? ⟨b,o0+j,none⟩=some u):fq Y w cs b o0:=
 fq.of fun j x hx=>by
  obtain ⟨u,h1,h2⟩:=hr.CE j x hx
  exact ⟨u,hc j u h1,h2.sub uj⟩
theorem Xj{cs:List PV}(h:cs.all M9=true):gL cs=true:=by
 unfold gL
 split
 ·simp [M9] at h
 ·simp [M9] at h
 ·simp [M9] at h
 ·simp [M9] at h
 ·rfl
theorem av6: ∀(cs:List PV) (us:List Value),cs.all M9=true→aZ (dr E φ) w (bu φ H) cs us→aZ (dr E φ) w (bu φ H) ((cs.map fun p=>(toD p).getD .un).map .d) us
 | [],_,_,h=>h
 | p::ps,us,hk,⟨v,r,e,q1,q2⟩=>by
  simp only [List.all_cons,Bool.and_eq_true] at hk
  refine ⟨v,r,e,?_,av6 ps r hk.2 q2⟩
  show dQ (dr E φ) w ((toD p).getD .un) v
  cases hp:toD p with
  | some x=>exact toD_rep hp q1
  | none=>
   show v.oneCell'=true
   cases p with
   | un=>simp [M9] at hk
   | bZ _=>simp [M9] at hk
   | d x=>simp [toD] at hp
   | nil=>simp [toD] at hp
   | iG=>simp [toD] at hp
   | agg _=>simp [M9] at hk
   | cS _=>obtain ⟨_,_,e,_⟩:=q1;subst e;rfl
   | fn=>obtain ⟨_,e,_⟩:=q1;subst e;rfl
   | r x=>cases x with
    | own=>exact q1.elim
    | ptr=>obtain ⟨⟨_,_,e⟩,_⟩:=q1;subst e;rfl
    | aI=>obtain ⟨⟨_,_,_,e⟩,_⟩:=q1;subst e;rfl
mutual
theorem Xk(hm:Mem E m aS w0 φ H w)(ids:List Nat): ∀(p p':PV) (v:Value),gp H p=some p'→(∀i∈dH p,i∈ids)→cT (dr E φ) w (bu φ H) p v→cT (HM E φ ids) w (fun _ _=>False) p' v
 | .d x,p',v,h,_,q=>by
  simp only [gp,Option.some.injEq] at h;subst h
  exact dQ.sub (fun b _ hx hy=>hx hy.1) q
 | .agg cs,p',v,h,hi,q=>by
  simp only [gp,Option.map_eq_some_iff] at h
  obtain ⟨l,h1,rfl⟩:=h
  obtain ⟨vs,hv,q⟩:=q
  exact ⟨vs,hv,vP hm ids cs l _ h1 hi q⟩
 | .fn f cs,p',v,h,hi,q=>by
  simp only [gp,Option.map_eq_some_iff] at h
  obtain ⟨l,h1,rfl⟩:=h
  obtain ⟨vs,hv,q⟩:=q
  exact ⟨vs,hv,vP hm ids cs l _ h1 hi q⟩
 | .cS cs,p',v,h,_,q=>by
  simp only [gp,Option.some.injEq] at h;subst h
  obtain ⟨b,o,hv,h1,h2,h3⟩:=q
  exact ⟨b,o,hv,fun hy=>h1 hy.1,h2,h3.sub (fun b _ hx hy=>hx hy.1) h1 h2⟩
 | .nil,p',v,h,_,q=>by
  simp only [gp,Option.some.injEq] at h;subst h
  obtain ⟨a,rfl⟩:=q
  exact ⟨a,0,rfl,Nat.le_refl _,by simp,fun _=>rfl,.inl rfl⟩
 | .iG z n cs,p',v,h,_,q=>by
  simp only [gp,Option.some.injEq] at h;subst h
  exact dQ.sub (fun b _ hx hy=>hx hy.1) q.1
 | .un,p',v,h,_,q=>by
  simp only [gp,Option.some.injEq] at h;subst h
  trivial
 | .bZ _,_,_,h,_,_=>by simp [gp] at h
 | .r (.own ..),_,_,h,_,_=>by simp [gp] at h
 | .r (.ptr i g o),p',v,h,hi,q=>by
  simp only [gp] at h
  split at h
  ·rename_i b hl
   simp only [Option.map_eq_some_iff] at h
   obtain ⟨cs,hcs,rfl⟩:=h
   obtain ⟨x,c,hp,hv,us,r1,r2⟩:=hm.cells (fun cs' h=>by
    subst h
    simp only [aaB] at hcs
    split at hcs
    ·rename_i hk;exact Xj hk
    ·cases hcs) hl q
   have hx: ¬HM E φ ids x:=fun hy=>hy.2 i (hi i (by simp [dH])) c hp
   have hr:aZ (dr E φ) w (bu φ H) (cs.map .d) us:=by
    cases b with
    | box l=>
     simp only [aaB] at hcs
     split at hcs
     ·rename_i hk;cases hcs;exact av6 l us hk r1
     ·cases hcs
    | own e k l=>simp only [aaB,Option.some.injEq] at hcs;subst hcs;exact r1
   refine ⟨x,off c+o,hv,hx,(hm.lt i x c hp).1,?_⟩
   have:=fq.J8 (o0:=off c) (Y:=HM E φ ids) (fun b _ hx hy=>hx hy.1) hr r2
   simpa using this.drop o
  ·cases h
 | .r (.aI i g l n),p',v,h,hi,q=>by
  simp only [gp] at h
  split at h
  ·rename_i e k cs hl
   simp only [Option.some.injEq] at h;subst h
   obtain ⟨hg,hb⟩:=hm.gR hl
   have ha:gm H (.r (.aI i g l n))=some (n,(cs.drop (l*k)).take (n*k)):=by simp only [gm,hl]
   obtain ⟨a,c,us,hv,h1,h2,h3,h4,h5⟩:=hm.qx ha q
   refine ⟨a,c,hv,h1,h2,h3,?_⟩
   rcases h5 with h5 | ⟨b,o,ea,nc,hc⟩
   ·exact .inl h5
   ·by_cases hne:(cs.drop (l*k)).take (n*k)= []
    ·exact .inl hne
    ·refine .inr ⟨b,o,ea,?_,nc,fq.J8 (fun b _ hx hy=>hx hy.1) h4 hc⟩
     obtain ⟨_,_,q2⟩:=q
     obtain ⟨hk,hle,hp⟩:=q2 hg e k cs hb
     intro hy
     cases ey:φ i with
     | nil a'=>rw [ey] at hp;obtain ⟨_,_,rfl⟩:=hp;exact hne (by simp)
     | blk b1 c1=>
      rw [ey] at hp
      obtain ⟨a',c',hv',_,_,h6,_,_⟩:=hp
      have h6:=h6 (by
       rcases Nat.eq_zero_or_pos n with h0 | h0
       ·subst h0;exact absurd (by simp) hne
       ·exact h0)
      rw [hv] at hv';cases hv'
      rw [h6] at ea;cases ea
      exact hy.2 i (hi i (by simp [dH])) c1 ey
  ·cases h
theorem vP(hm:Mem E m aS w0 φ H w)(ids:List Nat): ∀(ps Bh:List PV) (vs:List Value),gH H ps=some Bh→(∀i∈bQ ps,i∈ids)→aZ (dr E φ) w (bu φ H) ps vs→aZ (HM E φ ids) w (fun _ _=>False) Bh vs
 | [],Bh,vs,h,_,q=>by
  simp only [gH,Option.some.injEq] at h;subst h;exact q
 | p::ps,Bh,vs,h,hi,⟨v,r,e,q1,q2⟩=>by
  simp only [gH] at h
  split at h
  ·rename_i x xs h1 h2
   simp only [Option.some.injEq] at h;subst h
   exact ⟨v,r,e,Xk hm ids p x v h1 (fun i hx=>hi i (by simp [bQ,hx])) q1,vP hm ids ps xs r h2 (fun i hx=>hi i (by simp [bQ,hx])) q2⟩
  ·cases h
end
theorem jh: ∀(l:List (Nat×cL)) (H:Nat→cL) (i:Nat),(∀x∈l,x.1≠i)→eO H l i=H i
 | [],_,_,_=>rfl
 | x::l,H,i,h=>by
  simp only [eO]
  rw [jh l _ i (fun y hy=>h y (by simp [hy])),dV _ _ _ _ (fun e=>h x (by simp) e.symm)]
theorem J9: ∀(l:List (Nat×cj)) (f:Nat→Nat) (c:Nat×cj→cL) (H:Nat→cL) (x:Nat×cj),(∀y∈l,∀z∈l,f y.1=f z.1→y.1=z.1)→distinct (l.map (·.1))=true→x∈l→eO H (l.map fun y=>(f y.1,c y)) (f x.1)=c x
 | [],_,_,_,x,_,_,h=>by cases h
 | y::l,f,c,H,x,hf,hd,h=>by
  simp only [List.map_cons,distinct,Bool.and_eq_true,List.all_eq_true] at hd
  have hne: ∀z∈l,y.1≠z.1:=fun z hz e=>by
   have:=hd.1 z.1 (List.mem_map_of_mem hz)
   simp [e] at this
  simp only [List.map_cons,eO]
  rcases List.mem_cons.1 h with rfl | h
  ·rw [jh _ _ _ (fun z hz e=>by
    obtain ⟨u,hu,rfl⟩:=List.mem_map.1 hz
    exact hne u hu (hf x (by simp) u (by simp [hu]) e.symm)),aQ]
  ·exact J9 l f c _ x (fun a ha b hb=>hf a (by simp [ha]) b (by simp [hb])) hd.2 h
mutual
theorem SZ{Y X':Nat→Prop}{w':World}{dz:Nat→cJ}{bs:List cj}{β bK:Nat→cJ}{H':Nat→cL}(h2: ∀j e k n cs v,gu dz bs β (.own j e k n cs) v→H' (bf d j)=⟨(H (bf d j)).g+1,some (.own e k cs)⟩→bK (bf d j)=β j→bu bK H' (.aI (bf d j) ((H (bf d j)).g+1) 0 n) v):
  ∀(p:PV) (v:Value),((∀b,b<w'.heap.size→ ¬Y b→ ¬X' b)∨gq p=true)→(∀x∈owns p,H' (bf d x.1)=⟨(H (bf d x.1)).g+1,some x.2⟩∧bK (bf d x.1)=β x.1)→cT Y w' (gu dz bs β) p v→cT X' w' (bu bK H') (Be H d p) v
 | .d x,v,hc,_,q=>by
  rcases hc with hc | hc
  ·exact dQ.sub hc q
  ·exact dQ.free hc q
 | .agg cs,v,hc,ho,⟨vs,e,q⟩=>⟨vs,e,DG h2 cs _ hc ho q⟩
 | .bZ cs,v,hc,ho,⟨vs,e,q⟩=>⟨vs,e,DG h2 cs _ hc ho q⟩
 | .fn f cs,v,hc,ho,⟨vs,e,q⟩=>⟨vs,e,DG h2 cs _ hc ho q⟩
 | .cS cs,v,hc,_,⟨b,o,e,h3,h4,h5⟩=>by
  rcases hc with hc | hc
  ·exact ⟨b,o,e,hc b h4 h3,h4,h5.sub hc h3 h4⟩
  ·simp [gq] at hc
 | .nil,v,_,_,q=>q
 | .iG z n cs,v,hc,_,q=>by
  rcases hc with hc | hc
  ·exact ⟨dQ.sub hc q.1,q.2⟩
  ·exact ⟨dQ.free hc q.1,q.2⟩
 | .un,v,_,_,q=>trivial
 | .r (.ptr ..),v,_,_,q=>trivial
 | .r (.aI ..),v,_,_,q=>trivial
 | .r (.own j e k n cs),v,_,ho,q=>by
  obtain ⟨h3,h4⟩:=ho (j,.own e k cs) (by simp [owns])
  exact h2 j e k n cs v q h3 h4
theorem DG{Y X':Nat→Prop}{w':World}{dz:Nat→cJ}{bs:List cj}{β bK:Nat→cJ}{H':Nat→cL}(h2: ∀j e k n cs v,gu dz bs β (.own j e k n cs) v→H' (bf d j)=⟨(H (bf d j)).g+1,some (.own e k cs)⟩→bK (bf d j)=β j→bu bK H' (.aI (bf d j) ((H (bf d j)).g+1) 0 n) v):
  ∀(ps:List PV) (vs:List Value),((∀b,b<w'.heap.size→ ¬Y b→ ¬X' b)∨mX ps=true)→(∀x∈eD ps,H' (bf d x.1)=⟨(H (bf d x.1)).g+1,some x.2⟩∧bK (bf d x.1)=β x.1)→aZ Y w' (gu dz bs β) ps vs→aZ X' w' (bu bK H') (SB H d ps) vs
 | [],vs,_,_,q=>q
 | p::ps,vs,hc,ho,⟨v,r,e,q1,q2⟩=>by
  refine ⟨v,r,e,SZ h2 p v (hc.imp id fun h=>?_) (fun x hx=>ho x (by simp [eD,hx])) q1,DG h2 ps r (hc.imp id fun h=>?_) (fun x hx=>ho x (by simp [eD,hx])) q2⟩
  ·simp only [mX,Bool.and_eq_true] at h;exact h.1
  ·simp only [mX,Bool.and_eq_true] at h;exact h.2
end
mutual
theorem J_: ∀(p:PV),gq p=true→ ∀x∈owns p,∀e k cs,x.2= .own e k cs→ ∀c∈cs,gq (.d c)=true
 | .agg cs,h,x,hx=>sw cs h x hx
 | .bZ cs,h,x,hx=>sw cs h x hx
 | .fn _ cs,h,x,hx=>sw cs h x hx
 | .d _,_,x,hx=>by simp [owns] at hx
 | .cS _,_,x,hx=>by simp [owns] at hx
 | .nil,_,x,hx=>by simp [owns] at hx
 | .iG ..,_,x,hx=>by simp [owns] at hx
 | .un,_,x,hx=>by simp [owns] at hx
 | .r (.ptr ..),_,x,hx=>by simp [owns] at hx
 | .r (.aI ..),_,x,hx=>by simp [owns] at hx
 | .r (.own j e k n cs),h,x,hx=>by
  simp only [owns,List.mem_singleton] at hx
  subst hx
  intro e' k' cs' he c hc
  cases he
  simp only [gq,List.all_eq_true] at h
  have:=h c hc
  cases c<;>first | rfl | exact this
theorem sw: ∀(ps:List PV),mX ps=true→ ∀x∈eD ps,∀e k cs,x.2= .own e k cs→ ∀c∈cs,gq (.d c)=true
 | [],_,x,hx=>by simp [eD] at hx
 | p::ps,h,x,hx=>by
  simp only [mX,Bool.and_eq_true] at h
  simp only [eD,List.mem_append] at hx
  rcases hx with hx | hx
  ·exact J_ p h.1 x hx
  ·exact sw ps h.2 x hx
end
mutual
theorem Au: ∀(p:PV),∀x∈owns p,∃e k cs,x.2= .own e k cs
 | .agg cs,x,hx=>nS cs x hx
 | .bZ cs,x,hx=>nS cs x hx
 | .fn _ cs,x,hx=>nS cs x hx
 | .d _,x,hx=>by simp [owns] at hx
 | .cS _,x,hx=>by simp [owns] at hx
 | .nil,x,hx=>by simp [owns] at hx
 | .iG ..,x,hx=>by simp [owns] at hx
 | .un,x,hx=>by simp [owns] at hx
 | .r (.ptr ..),x,hx=>by simp [owns] at hx
 | .r (.aI ..),x,hx=>by simp [owns] at hx
 | .r (.own j e k n cs),x,hx=>by simp only [owns,List.mem_singleton] at hx;subst hx;exact ⟨e,k,cs,rfl⟩
theorem nS: ∀(ps:List PV),∀x∈eD ps,∃e k cs,x.2= .own e k cs
 | [],x,hx=>by simp [eD] at hx
 | p::ps,x,hx=>by
  simp only [eD,List.mem_append] at hx
  rcases hx with hx | hx
  ·exact Au p x hx
  ·exact nS ps x hx
end
theorem aZ.aaH{X Y:Nat→Prop}{R R':Ref→Value→Prop}{w:World}: ∀{cs:List PD} {vs:List Value},(∀c∈cs,gq (.d c)=true)→aZ X w R (cs.map .d) vs→aZ Y w R' (cs.map .d) vs
 | [],_,_,q=>q
 | c::cs,_,h,⟨v,r,e,q1,q2⟩=>⟨v,r,e,dQ.free (h c (by simp)) q1,aZ.aaH (fun c hc=>h c (by simp [hc])) q2⟩
theorem aZ.CG{X Y:Nat→Prop}{R R':Ref→Value→Prop}{w:World}(h: ∀b,b<w.heap.size→ ¬X b→ ¬Y b): ∀{cs:List PD} {vs:List Value},aZ X w R (cs.map .d) vs→aZ Y w R' (cs.map .d) vs
 | [],_,q=>q
 | c::cs,_,⟨v,r,e,q1,q2⟩=>⟨v,r,e,dQ.sub h q1,aZ.CG h q2⟩
theorem S0(d j:Nat):bf d j-8*d-8=j:=by unfold bf;omega
theorem CI(hm:Mem E m aS w0 φ H w)(kV:nI P γ w0 aS){f:Nat}{args:List PV}{vs:List Value}{p:PV}{aH:eo}(hargs:aZ (dr E φ) w (bu φ H) args vs)(he:ja γ H d f args=some (p,aH)){x:Sem Next}
  (hx:x.run P w=(callFunc f vs.toArray).run P w):Does P E m aS w0 φ H w p aH x:=by
 unfold ja at he
 split at he
 ·cases he
 ·rename_i l hl
  split at he
  ·cases he
  ·rename_i r hr
   split at he
   ·rename_i Ka
    simp only [Option.some.injEq,Prod.mk.injEq] at he
    obtain ⟨rfl,rfl⟩:=he
    simp only [Bool.and_eq_true,Bool.or_eq_true,List.isEmpty_iff,List.all_eq_true,decide_eq_true_eq] at Ka
    obtain ⟨⟨ajD,Xl⟩,hj8⟩:=Ka
    obtain ⟨ajE,Kb⟩:=kV f l [] r [] (ajo hr)
    have hE: ∀b,HM E φ (bQ args) b→b<w.heap.size:=by
     intro b hb
     rcases hb.1 with h | ⟨i,c,h⟩
     ·exact Nat.lt_of_lt_of_le (hm.ext b h) hm.sz
     ·exact (hm.lt i b c h).1
    have uk:Passed (HM E φ (bQ args)) w (fun _=> .nil none) []:=⟨by simp,(fun i b c h=>by cases h),(fun i j b c c' h=>by cases h),(fun i b h=>by simp at h)⟩
    have hc:=Kb (HM E φ (bQ args)) w (fun _=> .nil none) vs (hm.later.sub fun _ _ _ h=>by cases h) hE uk (aZ.keep (Ch.refl _ _) (fun _ _ h=>h.elim) _ _ (vP hm _ args l vs hl (fun _ h=>h) hargs))
    refine .inr (.inr ⟨f,vs.toArray,by rw [hx];exact ajE _ _,hc.mono ?_⟩)
    rintro e w' ⟨v,dz,β,rfl,hb,ho⟩
    refine ⟨v,rfl,?_⟩
    have aCj: ∀i b c,dz i≠ .blk b c:=fun i b c h=>by have:=(ho.dom i b c h).1;simp at this
    -- the new blocks
    let I:Nat→Prop:=fun i=> ∃y∈owns r,i=bf d y.1
    have Xm: ∀a b,bf d a=bf d b→a=b:=fun a b h=>by unfold bf at h;omega
    have hH: ∀y∈owns r,eO H ((owns r).map fun x=>nw H (bf d x.1) x.2) (bf d y.1)=⟨(H (bf d y.1)).g+1,some y.2⟩:=
     fun y hy=>J9 (owns r) (bf d) (fun y=>⟨(H (bf d y.1)).g+1,some y.2⟩) H y (fun _ _ _ _ h=>Xm _ _ h) Xl hy
    have hH2: ∀i,¬I i→eO H ((owns r).map fun x=>nw H (bf d x.1) x.2) i=H i:=
     fun i hi=>jh _ _ _ (fun y hy e=>by
      obtain ⟨z,hz,rfl⟩:=List.mem_map.1 hy
      exact hi ⟨z,hz,e.symm⟩)
    let bK:Nat→cJ:=fun i=>if (owns r).any (fun y=>Nat.beq i (bf d y.1)) then β (i-8*d-8) else φ i
    have qz: ∀y∈owns r,bK (bf d y.1)=β y.1:=fun y hy=>by
     show (if _ then _ else _)=_
     rw [if_pos (List.any_eq_true.2 ⟨y,hy,by simp⟩),S0]
    have av7: ∀i,¬I i→bK i=φ i:=fun i hi=>by
     show (if _ then _ else _)=_
     rw [if_neg]
     intro h
     obtain ⟨y,hy,e⟩:=List.any_eq_true.1 h
     exact hi ⟨y,hy,by simpa using e⟩
    have uj:bQ args= []→ ∀b,b<w'.heap.size→ ¬Yo (HM E φ (bQ args)) dz β b→ ¬dr E bK b:=by
     intro h0 b _ hn P9
     rw [h0] at hn
     rcases P9 with h | ⟨i,c,h⟩
     ·exact hn (.inl ⟨.inl h,by simp⟩)
     ·by_cases hI:I i
      ·obtain ⟨y,hy,rfl⟩:=hI
       rw [qz y hy] at h
       exact hn (.inr (.inr ⟨_,_,h⟩))
      ·rw [av7 i hI] at h
       exact hn (.inl ⟨.inr ⟨i,c,h⟩,by simp⟩)
    have nH:=hm.upd (bK:=bK) (w':=w') (H':=eO H ((owns r).map fun x=>nw H (bf d x.1) x.2)) I (fun j hj=>⟨av7 j hj,hH2 j hj⟩)
     (fun j hj=>by obtain ⟨y,hy,rfl⟩:=hj;rw [hH y hy];exact .inl (Nat.lt_succ_self _))
     (fun b hb' _=>hb.blk b hb' (fun i c h=>by cases h))
     (fun j b c hj hp=>by obtain ⟨y,hy,rfl⟩:=hj;rw [qz y hy] at hp;have:=ho.new _ _ _ hp;exact ⟨this.2,.inl this.1⟩)
     (fun i j b c c' hi hj h1 h2=>by
      obtain ⟨y,hy,rfl⟩:=hi
      obtain ⟨z,hz,rfl⟩:=hj
      rw [qz y hy] at h1
      rw [qz z hz] at h2
      rw [ho.inj _ _ _ _ _ h1 h2])
     (fun j hj rW=>by obtain ⟨y,hy,rfl⟩:=hj;have:=hm.m8;unfold bf at rW;omega)
     hb.size ⟨hb.os,hb.tape,hb.out⟩ (by
      intro tr j b hj hb'
      obtain ⟨y,hy,rfl⟩:=hj
      rw [hH y hy] at hb'
      simp only [Option.some.injEq] at hb'
      subst hb'
      rw [qz y hy]
      have q:=ho.own y (by simp only [cY,List.flatMap_nil,List.append_nil];exact hy)
      obtain ⟨e,k,cs,hown⟩:=Au r y hy
      rw [hown] at q ⊢
      cases pV:β y.1 with
      | nil a=>rw [pV] at q;exact q
      | blk b1 c1=>
       rw [pV] at q
       obtain ⟨q0,cur,xs,r1,r2,r3,r4,r5,r6,r7⟩:=q
       refine ⟨q0,cur,xs,r1,r2,r3,r4,r5,r6,?_⟩
       rcases ajD with h0 | h0
       ·exact aZ.CG (uj h0) r7
       ·exact aZ.aaH (J_ r h0 y hy e k cs hown) r7)
    refine ⟨bK,nH.1,nH.2,?_⟩
    refine SZ (β:=β) ?_ r v (ajD.imp uj id) (fun y hy=>⟨hH y hy,qz y hy⟩) ho.rep
    intro j e k n cs v' jZ Qo DI
    obtain ⟨hk,hlen,hv'⟩:=jZ
    cases pV:β j with
    | nil a=>
     rw [pV] at hv' DI
     obtain ⟨rfl,rfl⟩:=hv'
     have hn:n=0:=by
      rw [List.length_nil] at hlen
      rcases Nat.mul_eq_zero.1 hlen.symm with h | h
      ·exact h
      ·omega
     subst hn
     have:=oD (H:=eO H ((owns r).map fun x=>nw H (bf d x.1) x.2)) (i:=bf d j) (e:=e) DI (by rw [Qo]) hk
     rw [Qo] at this
     exact this
    | blk b c=>
     rw [pV] at hv' DI
     obtain ⟨rfl,hn⟩:=hv'
     have:=qa (H:=eO H ((owns r).map fun x=>nw H (bf d x.1) x.2)) (i:=bf d j) (e:=e) (cs:=cs) DI (by rw [Qo]) hk hlen hn
     rw [Qo] at this
     exact this
   ·cases he
theorem DJ: ∀(l:eo) (H:Nat→cL),x7 H l=eO H l
 | [],_=>rfl
 | x::l,H=>DJ l (up H x.1 x.2)
theorem S3(hm:Mem E m aS w0 φ H w)(kV:nI P γ w0 aS){f:Nat}{args:List PV}{vs:List Value}{p:PV}{aH:eo}(hargs:aZ (dr E φ) w (bu φ H) args vs)(he:ud γ H d f args=some (p,aH)){x:Sem Next}
  (hx:x.run P w=(callFunc f vs.toArray).run P w):Does P E m aS w0 φ H w p aH x:=by
 unfold ud at he
 split at he
 rotate_left
 ·cases he
 rename_i hall
 split at he
 rotate_left
 ·cases he
 rename_i p' gN hc
 cases he
 rw [DJ] at hc
 obtain ⟨dz,m0,t0,fr⟩:=hm.freeze (j8 (bQ args)) false (fun i hi=>by
  simp only [j8,List.any_eq_true] at hi
  obtain ⟨x,hx,he⟩:=hi
  have e:i=x:=Nat.eq_of_beq_eq_true he
  subst e
  have:=List.all_eq_true.1 hall i hx
  simp at this
  exact .inr this.1) (H':=eO H (gM H (bQ args))) (fun i=>by unfold gM;rw [vO H];simp)
 have asx:aZ (dr E dz) w (bu dz (eO H (gM H (bQ args)))) (gW (j8 (bQ args)) H args) vs:=by
  have:=fr (.agg args) (.agg vs.toArray) ⟨_,rfl,by simpa using hargs⟩
  unfold jf at this
  obtain ⟨Kc,e,q⟩:=this
  cases e;simpa using q
 have hd:=CI (x:=x) m0 kV asx hc hx
 have conv: ∀v w',Post E m aS w0 dz (eO H (gM H (bQ args))) w p gN v w'→Post E m aS w0 φ H w p (gM H (bQ args)++gN) v w':=by
  rintro v w' ⟨bK,m1,t1,r1⟩
  refine ⟨bK,?_,?_,?_⟩<;>rw [J3]
  ·exact m1
  ·exact t0.trans t1
  ·exact r1
 rcases hd with ⟨v,w',hr,hp⟩ | ⟨w',hr,hp⟩ | ⟨f',a',hr,pT⟩
 ·exact .inl ⟨v,w',hr,conv _ _ hp⟩
 ·exact .inr (.inl ⟨w',hr,conv _ _ hp⟩)
 ·exact .inr (.inr ⟨f',a',hr,pT.mono (by rintro e w' ⟨v,rfl,hp⟩;exact ⟨v,rfl,conv _ _ hp⟩)⟩)
end
end Go.Proofs.YtobkkblijfhpoaaGreatDoor.Pm
