/- The small machine: structs and arrays, compared. No program is named here. -/
import Derived.Test.YtimbfadnabfabaaGreatDoorPq
import Derived.Laws.StructEq
import Derived.ChangeKeysEq
import Derived.Deep.DeepCutAuto
namespace Go.Proofs.YtimbfadnabfabaaGreatDoor.Pm
open Go.RowKit

section
variable {P : Program} {w : World}
theorem MD{t:TypeId}{n:Nat}(h:iG P t=some n): ∃i,P.info? t=some i∧i.size=n:=by
 unfold iG at h
 cases hi:P.info? t with
 | none=>simp [hi] at h
 | some i=>simp [hi] at h;exact ⟨i,rfl,h⟩
def ME:LK→Value→Value→Option Bool
 | .int,.int k a,.int k' b=>if k=k' then some (decide (a=b)) else none
 | .bool,.bool a,.bool b=>some (decide (a=b))
 | .str,.string a,.string b=>some (decide (a.toList=b.toList))
 | _,_,_=>none
def gp:List LK→List Value→List Value→Option Bool
 | [],[],[]=>some true
 | k::ks,x::xs,y::ys=>match ME k x y,gp ks xs ys with
  | some a,some b=>some (a&&b)
  | _,_=>none
 | _,_,_=>none
theorem ahn{X:Nat→Prop}{R:Ref→Value→Prop}{k:LK}{p q:PV}{u v:Value}{b:Bool}(h:eqC k p q=some b)(hp:cJ X w R p u)(hq:cJ X w R q v):ME k u v=some b:=by
 unfold eqC at h
 split at h
 ·have hu:u=_:=hp
  have hv:v=_:=hq
  subst hu;subst hv
  exact h
 ·have hu:u=_:=hp
  have hv:v=_:=hq
  subst hu;subst hv
  exact h
 ·rename_i a b'
  have hu:u=_:=hp
  have hv:v=_:=hq
  subst hu;subst hv
  simp only [ME,ByteArray.toList_eq]
  exact h
 ·cases h
theorem Rs{X:Nat→Prop}{R:Ref→Value→Prop}: ∀{ks:List LK} {ps qs:List PV} {us vs:List Value} {b:Bool},Rg ks ps qs=some b→aY X w R ps us→aY X w R qs vs→gp ks us vs=some b
 | [],[],[],us,vs,b,h,hp,hq=>by
  have:us= []:=hp
  subst this
  have:vs= []:=hq
  subst this
  exact h
 | k::ks,p::ps,q::qs,us,vs,b,h,⟨u,ur,e1,p1,p2⟩,⟨v,vr,e2,q1,q2⟩=>by
  subst e1;subst e2
  simp only [Rg] at h
  split at h
  ·rename_i a b' h1 h2
   simp only [gp,ahn h1 p1 q1,Rs h2 p2 q2]
   exact h
  ·cases h
 | [],_::_,_,_,_,_,h,_,_=>by simp [Rg] at h
 | [],[],_::_,_,_,_,h,_,_=>by simp [Rg] at h
 | _::_,[],_,_,_,_,h,_,_=>by simp [Rg] at h
 | _::_,_::_,[],_,_,_,h,_,_=>by simp [Rg] at h
theorem yX: ∀{ks:List LK} {xs ys:List Value} {b:Bool},gp ks xs ys=some b→xs.length=ks.length∧ys.length=ks.length
 | [],[],[],_,_=>⟨rfl,rfl⟩
 | k::ks,x::xs,y::ys,b,h=>by
  simp only [gp] at h
  split at h
  ·rename_i a b' _ h2
   have:=yX h2
   simp [this.1,this.2]
  ·cases h
 | [],_::_,_,_,h=>by simp [gp] at h
 | [],[],_::_,_,h=>by simp [gp] at h
 | _::_,[],_,_,h=>by simp [gp] at h
 | _::_,_::_,[],_,h=>by simp [gp] at h
theorem EJ: ∀{k1 k2:List LK} {xs ys:List Value} {b:Bool},gp (k1++k2) xs ys=some b→ ∃b1 b2,gp k1 (xs.take k1.length) (ys.take k1.length)=some b1∧gp k2 (xs.drop k1.length) (ys.drop k1.length)=some b2∧b=(b1&&b2)
 | [],k2,xs,ys,b,h=>⟨true,b,rfl,by simpa using h,by simp⟩
 | k::k1,k2,x::xs,y::ys,b,h=>by
  simp only [List.cons_append,gp] at h
  split at h
  ·rename_i a b' h1 h2
   obtain ⟨b1,b2,h3,h4,rfl⟩:=EJ h2
   simp only [Option.some.injEq] at h;subst h
   exact ⟨a&&b1,b2,by simp only [List.length_cons,List.take_succ_cons,gp,h1,h3],by simpa using h4,by rw [Bool.and_assoc]⟩
  ·cases h
 | _::_,_,[],_,_,h=>by simp [gp] at h
 | _::_,_,_::_,[],_,h=>by simp [gp] at h
def Aj(P:Program)(t:TypeId)(xs:List Value):Value:=if f_ P t then .agg xs.toArray else xs.headD undef
theorem qx{d:Nat}{t:TypeId}{ks:List LK}(h:iV P d t=some ks):iG P t=some ks.length:=by
 cases d with
 | zero=>simp [iV] at h
 | succ d=>
  unfold iV at h
  split at h
  ·split at h
   ·simp only [Option.some.injEq] at h;subst h;assumption
   ·cases h
  ·cases h
theorem H7{d:Nat}{t:TypeId}{ks:List LK}(h:iV P d t=some ks): ∃dd,P.underlying t=some dd∧(f_ P t=false→ks.length=1):=by
 cases d with
 | zero=>simp [iV] at h
 | succ d=>
  unfold iV at h
  split at h
  ·rename_i ks' hk
   split at h
   ·simp only [Option.some.injEq] at h;subst h
    unfold f_
    split at hk
    ·rename_i hu;rw [hu];cases hk;exact ⟨_,rfl,fun _=>rfl⟩
    ·rename_i hu;rw [hu];cases hk;exact ⟨_,rfl,fun _=>rfl⟩
    ·rename_i hu;rw [hu];cases hk;exact ⟨_,rfl,fun _=>rfl⟩
    ·rename_i hu;rw [hu];exact ⟨_,rfl,fun h=>by cases h⟩
    ·rename_i hu;rw [hu];exact ⟨_,rfl,fun h=>by cases h⟩
    ·cases hk
   ·cases h
  ·cases h
theorem adl{t:TypeId}{dd:TypeDesc}(h:P.underlying t=some dd)(w:World):(isAgg t).run P w= .ok (f_ P t) w:=by
 unfold isAgg f_
 rw [Sem.run_bind,run_underlying h w,h]
 cases dd<;>rfl
theorem uZ{t:TypeId}{n:Nat}{dd:TypeDesc}(hd:P.underlying t=some dd)(hn:iG P t=some n)(h1:f_ P t=false→n=1){vs:List Value}{o:Nat}(hl:((vs.drop o).take n).length=n):
  (Go.part t vs.toArray o).run P w= .ok (Aj P t ((vs.drop o).take n)) w:=by
 obtain ⟨i,hi,his⟩:=MD hn
 unfold Go.part Aj
 rw [Sem.run_bind,adl hd]
 simp only [Result.andThen_ok]
 split
 ·simp only [Sem.run_bind,sizeOf,typeInfo,run_program,Result.andThen_ok,hi,Sem.run_pure,his]
  congr 2
  apply Array.ext'
  simp [List.extract_eq_take_drop]
 ·rename_i hf
  have h1:=h1 (by simpa using hf)
  subst h1
  have ho:o<vs.length:=by simp at hl;omega
  have:vs.toArray[o]?=some vs[o]:=by simp [ho]
  rw [this]
  rw [List.drop_eq_getElem_cons ho,List.take_succ_cons,List.take_zero]
  rfl
theorem EK: ∀(d:Nat) (t:TypeId) (ks:List LK) (xs ys:List Value) (b:Bool) (D:Nat),iV P d t=some ks→gp ks xs ys=some b→d≤D→(Op.equalIn D t (Aj P t xs) (Aj P t ys)).run P w= .ok b w
 | 0,t,ks,xs,ys,b,D,h,_,_=>by simp [iV] at h
 | d+1,t,ks,xs,ys,b,0,_,_,hD=>by omega
 | d+1,t,ks,xs,ys,b,D+1,h,he,hD=>by
  have hsz:=qx h
  have hlen:=yX he
  unfold iV at h
  split at h
  ·rename_i ks' hk
   split at h
   ·simp only [Option.some.injEq] at h;subst h
    split at hk
    ·rename_i kk hu
     cases hk
     match xs,ys,he with
     | [x],[y],he=>
      simp only [gp] at he
      split at he
      ·rename_i a b' h1 h2
       simp only [gp,Option.some.injEq] at h2 he;subst h2;subst he
       have hx: ∀z:Value,Aj P t [z]=z:=fun z=>by simp [Aj,f_,hu]
       rw [hx,hx]
       unfold ME at h1
       split at h1
       ·rename_i k a2 k' b2 _
        split at h1
        ·rename_i pH;subst pH
         simp only [Option.some.injEq] at h1;subst h1
         rw [run_equalIn_int w D t k kk a2 b2 hu]
         by_cases e:a2=b2<;>simp [e]
        ·cases h1
       ·rename_i EL;cases EL
       ·rename_i EL;cases EL
       ·cases h1
      ·cases he
     | [],_,he=>simp [gp] at he
     | _::_::_,_,he=>simp at hlen
     | [_],[],he=>simp [gp] at he
     | [_],_::_::_,he=>simp at hlen
    ·rename_i hu
     cases hk
     match xs,ys,he with
     | [x],[y],he=>
      simp only [gp] at he
      split at he
      ·rename_i a b' h1 h2
       simp only [gp,Option.some.injEq] at h2 he;subst h2;subst he
       have hx: ∀z:Value,Aj P t [z]=z:=fun z=>by simp [Aj,f_,hu]
       rw [hx,hx]
       unfold ME at h1
       split at h1
       ·rename_i EL;cases EL
       ·rename_i a2 b2 _
        simp only [Option.some.injEq] at h1;subst h1
        rw [run_equalIn_bool' w D t a2 b2 hu]
        by_cases e:a2=b2<;>simp [e]
       ·rename_i EL;cases EL
       ·cases h1
      ·cases he
     | [],_,he=>simp [gp] at he
     | _::_::_,_,he=>simp at hlen
     | [_],[],he=>simp [gp] at he
     | [_],_::_::_,he=>simp at hlen
    ·rename_i hu
     cases hk
     match xs,ys,he with
     | [x],[y],he=>
      simp only [gp] at he
      split at he
      ·rename_i a b' h1 h2
       simp only [gp,Option.some.injEq] at h2 he;subst h2;subst he
       have hx: ∀z:Value,Aj P t [z]=z:=fun z=>by simp [Aj,f_,hu]
       rw [hx,hx]
       unfold ME at h1
       split at h1
       ·rename_i EL;cases EL
       ·rename_i EL;cases EL
       ·rename_i a2 b2 _
        simp only [Option.some.injEq] at h1;subst h1
        rw [run_equalIn_string w D t a2 b2 hu]
        by_cases e:a2.toList=b2.toList<;>simp [e]
       ·cases h1
      ·cases he
     | [],_,he=>simp [gp] at he
     | _::_::_,_,he=>simp at hlen
     | [_],[],he=>simp [gp] at he
     | [_],_::_::_,he=>simp at hlen
    ·rename_i fs hu
     split at hk
     ·rename_i hsh
      have hx: ∀z:List Value,Aj P t z= .agg z.toArray:=fun z=>by simp [Aj,f_,hu]
      have hfs:P.fieldsOf t=fs:=by simp [Program.fieldsOf,hu]
      rw [hx,hx,run_equalIn_struct w D t _ _ (by rw [hfs];exact hu) hsh,hfs]
      have key: ∀(l:List Field) (off:Nat) (ks:List LK) (b:Bool),wX (iV P d) l off=some ks→gp ks (xs.drop off) (ys.drop off)=some b→(Op.eqFields D xs.toArray ys.toArray l).run P w= .ok b w:=by
       intro l
       induction l with
       | nil=>
        intro off ks b h1 h2
        simp only [wX,Option.some.injEq] at h1;subst h1
        cases OG:xs.drop off with
        | nil=>cases GL:ys.drop off with
         | nil=>rw [OG,GL] at h2;simp only [gp,Option.some.injEq] at h2;subst h2;rfl
         | cons=>rw [OG,GL] at h2;simp [gp] at h2
        | cons=>rw [OG] at h2;simp [gp] at h2
       | cons f r ih=>
        intro off ks b h1 h2
        simp only [wX] at h1
        split at h1
        ·rename_i hno
         split at h1
         ·rename_i k1 Ai
          split at h1
          ·rename_i k2 hk2
           simp only [Option.some.injEq] at h1;subst h1
           obtain ⟨b1,b2,e1,e2,rfl⟩:=EJ h2
           obtain ⟨dd,hd,OH⟩:=H7 Ai
           have l1:=yX e1
           have p1:=uZ (w:=w) hd (qx Ai) OH l1.1
           have p2:=uZ (w:=w) hd (qx Ai) OH l1.2
           have p3:=EK d f.type k1 _ _ b1 D Ai e1 (by omega)
           have e2':(Op.eqFields D xs.toArray ys.toArray r).run P w= .ok b2 w:=ih (off+k1.length) k2 b2 hk2 (by simpa [List.drop_drop] using e2)
           obtain ⟨hname,rfl⟩:=hno
           simp only [Op.eqFields,hname,ne_eq,not_false_eq_true,if_true,Sem.run_bind,p1,p2,p3,Result.andThen_ok]
           cases b1
           ·rfl
           ·simpa using e2'
          ·cases h1
         ·cases h1
        ·cases h1
      exact key fs.toList 0 _ b hk (by simpa using he)
     ·cases hk
    ·rename_i n e hu
     split at hk
     ·rename_i k1 Ai
      cases hk
      have hx: ∀z:List Value,Aj P t z= .agg z.toArray:=fun z=>by simp [Aj,f_,hu]
      obtain ⟨i,hi,his⟩:=MD (qx Ai)
      obtain ⟨dd,hd,OH⟩:=H7 Ai
      have hcell:P.cellsOf e=k1.length:=by unfold Program.cellsOf;simp [hi,his]
      rw [hx,hx,run_equalIn_array w D _ _ hu hi]
      have key: ∀(m s:Nat) (b:Bool),gp ((List.range m).flatMap fun _=>k1) (xs.drop (s*k1.length)) (ys.drop (s*k1.length))=some b→(Op.eqItems D e (P.cellsOf e) xs.toArray ys.toArray (List.range' s m)).run P w= .ok b w:=by
       intro m
       induction m with
       | zero=>
        intro s b h2
        simp only [List.range_zero,List.flatMap_nil] at h2
        cases OG:xs.drop (s*k1.length) with
        | nil=>cases GL:ys.drop (s*k1.length) with
         | nil=>rw [OG,GL] at h2;simp only [gp,Option.some.injEq] at h2;subst h2;rfl
         | cons=>rw [OG,GL] at h2;simp [gp] at h2
        | cons=>rw [OG] at h2;simp [gp] at h2
       | succ m ih=>
        intro s b h2
        have hr:(List.range (m+1)).flatMap (fun _=>k1)=k1++(List.range m).flatMap fun _=>k1:=by
         rw [List.range_succ_eq_map,List.flatMap_cons,List.flatMap_map]
        rw [hr] at h2
        obtain ⟨b1,b2,e1,e2,rfl⟩:=EJ h2
        have l1:=yX e1
        have p1:=uZ (w:=w) hd (qx Ai) OH l1.1
        have p2:=uZ (w:=w) hd (qx Ai) OH l1.2
        have p3:=EK d e k1 _ _ b1 D Ai e1 (by omega)
        have e2':=ih (s+1) b2 (by simpa [List.drop_drop,Nat.succ_mul] using e2)
        simp only [List.range'_succ,Op.eqItems,Sem.run_bind,hcell,p1,p2,p3,Result.andThen_ok]
        rw [hcell] at e2'
        cases b1
        ·rfl
        ·simpa using e2'
      have:=key n 0 b (by simpa using he)
      rwa [←List.range_eq_range'] at this
     ·cases hk
    ·cases hk
   ·cases h
  ·cases h
end
end Go.Proofs.YtimbfadnabfabaaGreatDoor.Pm
