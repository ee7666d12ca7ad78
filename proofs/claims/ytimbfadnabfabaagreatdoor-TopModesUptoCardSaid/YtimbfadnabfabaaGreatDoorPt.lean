/- The small machine: its operations are the language's: slices, literals, conversions. No program is named here. -/
import Derived.Test.YtimbfadnabfabaaGreatDoorPs
namespace Go.Proofs.YtimbfadnabfabaaGreatDoor.Pm
open Go.RowKit

section
variable {P : Program} {E : Nat → Prop} {m : List bH} {aP φ : Nat → cg} {H : Nat → cq} {w0 w : World}
variable {ρ : Operand → PV} {ev : Operand → Value} {γ : ek} {d : Nat}

theorem nT{k:IntKind}{i:Int}{y:Nat}(code:BoundsCode)(h0:0≤i)(h:i.toNat≤y):(Instr.sliceBound (.int k i) y code).run P w= .ok i.toNat w:=by
 have:0≤i∧i≤y:=by omega
 simp [Instr.sliceBound,asIntOf,this]
theorem EM{dflt h:Nat}{x:Operand}(bK:eM E φ H w ρ ev)(hb:jP ρ dflt (some x)=some h): ∃k i,ev x= .int k i∧0≤i∧i.toNat=h:=by
 simp only [jP] at hb
 split at hb
 ·rename_i k i e
  split at hb
  ·rename_i h0;cases hb
   exact ⟨k,i,j8 e (bK x),h0,rfl⟩
  ·cases hb
 ·cases hb
theorem wY{isS:Bool}{n c l h:Nat}{lo hi:Option Operand}(bK:eM E φ H w ρ ev)(hl:jP ρ 0 lo=some l)(hh:jP ρ n hi=some h)(h1:l≤h)(h2:h≤n)(h3:n≤c):
  (Instr.sliceBounds isS n c (lo.map ev) (hi.map ev) none).run P w= .ok (l,h,c) w:=by
 cases lo with
 | none=>
  simp only [jP,Option.some.injEq] at hl;subst hl
  cases hi with
  | none=>
   simp only [jP,Option.some.injEq] at hh;subst hh
   simp [Instr.sliceBounds]
  | some y=>
   obtain ⟨k,i,e,hi0,rfl⟩:=EM bK hh
   simp [Instr.sliceBounds,e,nT _ hi0 (show i.toNat≤c by omega)]
 | some x=>
  obtain ⟨k,i,e,hi0,rfl⟩:=EM bK hl
  cases hi with
  | none=>
   simp only [jP,Option.some.injEq] at hh;subst hh
   simp [Instr.sliceBounds,e,nT _ hi0 (show i.toNat≤n by omega)]
  | some y=>
   obtain ⟨k',i',e',aA4,rfl⟩:=EM bK hh
   simp [Instr.sliceBounds,e,e',nT _ aA4 (show i'.toNat≤c by omega),nT _ hi0 h1]
theorem CF{t e:TypeId}{k:Nat}(hu:P.underlying t=some (.slice e))(hk:iG P e=some k){a:Option Addr}{n c l h:Nat}{lo hi:Option Operand}(bK:eM E φ H w ρ ev)(hl:jP ρ 0 lo=some l)(hh:jP ρ n hi=some h)(h1:l≤h)(h2:h≤n)(h3:n≤c):
  (Instr.sliceAt t (.slice a n c) (lo.map ev) (hi.map ev) none).run P w= .ok (.slice (if c=l then a else a.map (·.add (l*k))) (h-l) (c-l)) w:=by
 unfold Instr.sliceAt
 simp only [Sem.run_bind,run_underlying hu,Result.andThen_ok]
 unfold Instr.slice
 simp only [Sem.run_bind,run_underlying hu,Result.andThen_ok,wY bK hl hh h1 h2 h3,fA hk,Sem.run_pure]
theorem ML{t e:TypeId}{k:Nat}{x:Operand}{lo hi:Option Operand}{p:PV}{aD:eu}(hm:Mem E m aP w0 φ H w)(bK:eM E φ H w ρ ev)(hu:P.underlying t=some (.slice e))(hk:iG P e=some k)
  (he:az γ H d ρ (.uW e k x lo hi)=some (p,aD)):Does P E m aP w0 φ H w p aD (do pure (.value (←Instr.sliceAt t (ev x) (lo.map ev) (hi.map ev) none))):=by
 have hx:=bK x
 simp only [az] at he
 split at he
 ·rename_i n cs e1
  rw [e1] at hx
  obtain ⟨a,c,hv,h1,h2,h3,h4⟩:=hx
  rw [hv]
  split at he
  ·rename_i l h hl hh
   split at he
   ·rename_i hle;cases he
    refine dQ hm (CF hu hk bK hl hh hle.1 hle.2 h1) ⟨_,_,rfl,by omega,by omega,?_,?_⟩
    ·intro hn
     split at hn
     ·have:=h3 hn;omega
     ·cases a with
      | none=>have:=h3 rfl;omega
      | some a=>cases hn
    ·rcases h4 with rfl | ⟨b,o,rfl,h5,h6,h7⟩
     ·exact .inl (by simp)
     ·by_cases p_:c=l
      ·have e2:h-l=0:=by omega
       have e3:h=l:=by omega
       subst e3
       exact .inl (List.drop_eq_nil_of_le (by simp;omega))
      ·rw [if_neg p_]
       exact .inr ⟨b,o+l*k,by simp [gm],h5,h6,(h7.take _).drop _⟩
   ·cases he
  ·cases he
 ·rename_i i g l0 n e1
  rw [e1] at hx
  split at he
  ·rename_i l h hl hh
   split at he
   ·rename_i hle
    split at he
    ·rename_i e' k' cs hlk
     split at he
     ·rename_i pH;subst pH;cases he
      obtain ⟨hg,hb⟩:=hm.iz hlk
      obtain ⟨_,GK,hx2⟩:=hx
      obtain ⟨pI,hlen,hp⟩:=hx2 hg _ _ _ hb
      have axh:(l0+l+(h-l))*k'≤cs.length:=Nat.le_trans (Nat.mul_le_mul_right _ (by omega)) hlen
      cases en:φ i with
      | nil a=>
       rw [en] at hp
       obtain ⟨hv,rfl,rfl⟩:=hp
       rw [hv]
       obtain rfl:h=0:=by omega
       obtain rfl:l=0:=by omega
       have hr:=CF (P:=P) (w:=w) (a:=a) (n:=0) (c:=0) hu hk bK hl hh (Nat.le_refl _) (Nat.le_refl _) (Nat.le_refl _)
       refine dQ hm hr ⟨⟨_,_,_,rfl⟩,GK,fun _ e2 k2 cs2 hb2=>?_⟩
       rw [hb] at hb2;cases hb2
       refine ⟨pI,by simp,?_⟩
       rw [en]
       exact ⟨rfl,rfl,rfl⟩
      | blk b1 c1=>
       rw [en] at hp
       obtain ⟨a,c',hv,h1,h2,h3,h4,h5⟩:=hp
       rw [hv]
       refine dQ hm (CF hu hk bK hl hh hle.1 hle.2 h1) ⟨⟨_,_,_,rfl⟩,GK,fun _ e2 k2 cs2 hb2=>?_⟩
       rw [hb] at hb2;cases hb2
       refine ⟨pI,axh,?_⟩
       rw [en]
       refine ⟨_,_,rfl,by omega,by omega,?_,?_,?_⟩
       ·intro ahu
        have:0<n:=by omega
        rw [if_neg (by omega),h3 this]
        simp [gm,Nat.add_mul]
       ·intro h0
        have e1:l0=0:=by omega
        have e2:l=0:=by omega
        subst e1;subst e2
        rw [h4 rfl]
        split<;>simp [gm]
       ·split
        ·exact h5
        ·cases a with
         | none=>exact absurd rfl h5
         | some a=>simp
     ·cases he
    ·cases he
   ·cases he
  ·cases he
 ·rename_i e1
  rw [e1] at hx
  obtain ⟨a,hv⟩:=hx
  rw [hv]
  split at he
  ·rename_i hl hh;cases he
   have hr:=CF (P:=P) (w:=w) (a:=a) (n:=0) (c:=0) hu hk bK hl hh (Nat.le_refl _) (Nat.le_refl _) (Nat.le_refl _)
   exact dQ hm hr ⟨_,rfl⟩
  ·cases he
 ·cases he
theorem adt{t e:TypeId}{k:Nat}{x:Operand}{lo hi:Option Operand}{p:PV}{aD:eu}(hm:Mem E m aP w0 φ H w)(bK:eM E φ H w ρ ev)(hu:P.underlying t=some (.slice e))(hk:iG P e=some k)
  (he:az γ H d ρ (.HP e k x lo hi)=some (p,aD)):Does P E m aP w0 φ H w p aD (do pure (.value (←Instr.sliceAt t (ev x) (lo.map ev) (hi.map ev) none))):=by
 simp only [az] at he
 split at he
 ·rename_i i g n e1
  split at he
  ·rename_i l h hl hh
   split at he
   ·rename_i hle
    obtain ⟨h1,h2,h3⟩:=hle
    split at he
    ·rename_i e' k' cs hlk
     split at he
     ·rename_i pH
      subst pH
      cases he
      have hs:az γ H d ρ (.uW e k' x lo hi)=some (.r (.aJ i g l (h-l)),[]):=by
       simp only [az,e1,hl,hh,hlk]
       rw [if_pos ⟨h1,h2⟩,if_pos trivial]
       simp
      obtain ⟨hg,hb⟩:=hm.iz hlk
      subst hg
      have hlh:l+(h-l)=h:=by omega
      have conv: ∀v' w',Post E m aP w0 φ H w (.r (.aJ i (H i).g l (h-l))) [] v' w'→Post E m aP w0 φ H w (.r (.aJ i ((H i).g+1) 0 (h-l))) [(i,⟨(H i).g+1,some (.own e' k' ((cs.take (h*k')).drop (l*k')))⟩)] v' w':=by
       rintro v' w' ⟨bp,m1,t1,r1⟩
       have m1:Mem E m aP w0 bp H w':=m1
       have t1:Tr E φ H w bp H w':=t1
       have r1:bh bp H (.aJ i (H i).g l (h-l)) v':=r1
       obtain ⟨φ2,m2,t2,r2⟩:=m1.cut hb (by omega) r1
       rw [hlh] at m2 t2 r2
       exact ⟨φ2,m2,t1.trans t2,r2⟩
      rcases ML hm bK hu hk hs with ⟨v',w',hr,hp⟩ | ⟨w',hr,hp⟩ | ⟨f,args,hr,hc⟩
      ·exact .inl ⟨v',w',hr,conv _ _ hp⟩
      ·exact .inr (.inl ⟨w',hr,conv _ _ hp⟩)
      ·exact .inr (.inr ⟨f,args,hr,hc.mono fun e w' ⟨v,h1,h2⟩=>⟨v,h1,conv _ _ h2⟩⟩)
     ·cases he
    ·cases he
   ·cases he
  ·cases he
 ·cases he
theorem Vr{t:TypeId}(hu:P.underlying t=some .string){s:List UInt8}{l h:Nat}{lo hi:Option Operand}(bK:eM E φ H w ρ ev)(hl:jP ρ 0 lo=some l)(hh:jP ρ s.length hi=some h)(h1:l≤h)(h2:h≤s.length):
  (Instr.sliceAt t (.string ⟨s.toArray⟩) (lo.map ev) (hi.map ev) none).run P w= .ok (.string ⟨((s.take h).drop l).toArray⟩) w:=by
 unfold Instr.sliceAt
 simp only [Sem.run_bind,run_underlying hu,Result.andThen_ok]
 unfold Instr.slice
 simp only [Sem.run_bind,run_underlying hu,Result.andThen_ok,Option.isSome_none,Bool.false_eq_true,if_false,tR,wY bK hl hh h1 h2 (Nat.le_refl _),Sem.run_pure]
 congr 2
 apply ByteArray.ext
 apply Array.ext'
 simp [ByteArray.data_extract,List.extract_eq_take_drop,List.drop_take]
theorem Rz{t:TypeId}{x:Operand}{lo hi:Option Operand}{p:PV}{aD:eu}(hm:Mem E m aP w0 φ H w)(bK:eM E φ H w ρ ev)(hu:P.underlying t=some .string)
  (he:az γ H d ρ (.uX x lo hi)=some (p,aD)):Does P E m aP w0 φ H w p aD (do pure (.value (←Instr.sliceAt t (ev x) (lo.map ev) (hi.map ev) none))):=by
 have hx:=bK x
 simp only [az] at he
 split at he
 ·rename_i s e1
  rw [uY e1 hx]
  split at he
  ·rename_i l h hl hh
   split at he
   ·rename_i hle;cases he
    exact dQ hm (Vr hu bK hl hh hle.1 hle.2) rfl
   ·cases he
  ·cases he
 ·cases he
theorem adu{t e:TypeId}{k:Nat}{x hi mx:Operand}{p:PV}{aD:eu}(hm:Mem E m aP w0 φ H w)(bK:eM E φ H w ρ ev)(hu:P.underlying t=some (.slice e))(hk:iG P e=some k)(pI:0<k)(k1 k2:IntKind)(hhi:ev hi= .int k1 0)(hmx:ev mx= .int k2 0)
  (he:az γ H d ρ (.Rm e k x)=some (p,aD)):Does P E m aP w0 φ H w p aD (do pure (.value (←Instr.sliceAt t (ev x) none (some (ev hi)) (some (ev mx))))):=by
 have hx:=bK x
 simp only [az] at he
 split at he
 ·rename_i q hq;cases he
  obtain ⟨n,cs⟩:=q
  obtain ⟨a,c,us,hv,h1,h2,h3,_⟩:=hm.qM hq hx
  have hr:(Instr.sliceAt t (ev x) none (some (ev hi)) (some (ev mx))).run P w= .ok (.slice a 0 0) w:=by
   rw [hv,hhi,hmx]
   unfold Instr.sliceAt
   simp only [Sem.run_bind,run_underlying hu,Result.andThen_ok]
   unfold Instr.slice
   have b1:=fun (y:Nat) (code:BoundsCode)=>nT (P:=P) (w:=w) (k:=k1) (i:=0) (y:=y) code (Int.le_refl _) (Nat.zero_le _)
   have b2:=fun (y:Nat) (code:BoundsCode)=>nT (P:=P) (w:=w) (k:=k2) (i:=0) (y:=y) code (Int.le_refl _) (Nat.zero_le _)
   simp [run_underlying hu,Instr.sliceBounds,b1,b2,fA hk]
  obtain ⟨bp,p1,m1,t1⟩:=hm.OC (aZ d 0) (by unfold aZ;omega) e k pI a
  refine .inl ⟨_,w,kz hr,bp,m1,t1,?_⟩
  have:=oJ (φ:=bp) (H:=up H (aZ d 0) ⟨(H (aZ d 0)).g+1,some (.own e k [])⟩) (i:=aZ d 0) (k:=k) (e:=e) p1 (by rw [aQ]) pI
  rw [aQ] at this
  exact this
 ·cases he
theorem Vs{e k:Nat}{p:PV}{aD:eu}(hm:Mem E m aP w0 φ H w)(pI:0<k)(he:az γ H d ρ (.FC e k)=some (p,aD)):Does P E m aP w0 φ H w p aD (pure (.value (.slice none 0 0))):=by
 simp only [az,Option.some.injEq,Prod.mk.injEq] at he
 obtain ⟨rfl,rfl⟩:=he
 obtain ⟨bp,p1,m1,t1⟩:=hm.OC (aZ d 0) (by unfold aZ;omega) e k pI none
 refine .inl ⟨_,w,rfl,bp,m1,t1,?_⟩
 have:=oJ (φ:=bp) (H:=up H (aZ d 0) ⟨(H (aZ d 0)).g+1,some (.own e k [])⟩) (i:=aZ d 0) (k:=k) (e:=e) p1 (by rw [aQ]) pI
 rw [aQ] at this
 exact this
theorem adv{src dst:TypeId}{ds:TypeDesc}{k:IntKind}{x:Operand}{p:PV}{aD:eu}(hm:Mem E m aP w0 φ H w)(bK:eM E φ H w ρ ev)(hs:P.underlying src=some ds)(hd:P.underlying dst=some (.int k))
  (he:az γ H d ρ (.ku k x)=some (p,aD)):Does P E m aP w0 φ H w p aD (do pure (.value (←convert src dst (ev x)))):=by
 simp only [az] at he
 split at he
 ·rename_i k' n e;cases he
  rw [j8 e (bK x)]
  refine dQ hm (v:= .int k (k.wrap n)) ?_ rfl
  unfold convert
  simp [run_underlying hs,run_underlying hd,Conv.intToInt]
 ·cases he
theorem Vt{src dst:TypeId}{k:IntKind}{x:Operand}{p:PV}{aD:eu}(hm:Mem E m aP w0 φ H w)(bK:eM E φ H w ρ ev)(hs:P.underlying src=some (.int k))(hd:P.underlying dst=some .string)
  (he:az γ H d ρ (.Ri x)=some (p,aD)):Does P E m aP w0 φ H w p aD (do pure (.value (←convert src dst (ev x)))):=by
 simp only [az] at he
 split at he
 ·rename_i k' n e;cases he
  rw [j8 e (bK x)]
  refine dQ hm (v:= .string (Utf8.encode n)) ?_ rfl
  unfold convert
  simp [run_underlying hs,run_underlying hd,Conv.intToString]
 ·cases he
theorem Vu{src dst:TypeId}{x:Operand}{p:PV}{aD:eu}(hm:Mem E m aP w0 φ H w)(bK:eM E φ H w ρ ev)(hs:P.underlying src=some .string)(hd:P.underlying dst=some .string)
  (he:az γ H d ρ (.Rj x)=some (p,aD)):Does P E m aP w0 φ H w p aD (do pure (.value (←convert src dst (ev x)))):=by
 simp only [az] at he
 split at he
 ·rename_i s e;cases he
  rw [uY e (bK x)]
  refine dQ hm (v:= .string ⟨s.toArray⟩) ?_ rfl
  unfold convert
  simp [run_underlying hs,run_underlying hd]
 ·cases he
theorem MN{X:Nat→Prop}{R:Ref→Value→Prop}: ∀{ds:List PD} {l:List UInt8} {us:List Value},az.HR ds=some l→aY X w R (ds.map .d) us→us=l.map (fun b=>Value.int .u8 (b.toNat:Int))
 | [],l,us,h,q=>by cases h;exact q
 | x::ds,l,us,h,⟨v,r,e,q1,q2⟩=>by
  subst e
  unfold az.HR at h
  split at h
  ·cases‹x::ds= []›
  ·rename_i n r' heq
   cases heq
   split at h
   ·rename_i hn
    split at h
    ·rename_i l' hl;cases h
     rw [MN hl q2]
     have:v= .int .u8 n:=q1
     rw [this,List.map_cons]
     congr 2
     simp
     omega
    ·cases h
   ·cases h
  ·cases h
theorem Vv{src dst e:TypeId}{x:Operand}{p:PV}{aD:eu}(hm:Mem E m aP w0 φ H w)(bK:eM E φ H w ρ ev)(hs:P.underlying src=some (.slice e))(RA:P.underlying e=some (.int .u8))(hd:P.underlying dst=some .string)
  (he:az γ H d ρ (.sS x)=some (p,aD)):Does P E m aP w0 φ H w p aD (do pure (.value (←convert src dst (ev x)))):=by
 simp only [az] at he
 split at he
 ·rename_i n cs hq
  split at he
  ·rename_i l hl
   split at he
   ·rename_i hn;cases he
    obtain ⟨a,c,us,hv,h1,h2,h3,h4,h5⟩:=hm.qM hq (bK x)
    have CB:=MN hl h4
    rw [hv,←hn]
    have hlen:=h4.len
    simp [CB] at hlen
    refine dQ hm (v:= .string ⟨l.toArray⟩) ?_ rfl
    cases a with
    | none=>
     have:c=0:=h3 rfl
     have h0:l= []:=List.eq_nil_of_length_eq_zero (by omega)
     subst h0
     exact run_convert_bytes_nil w src e hs RA _ c dst hd
    | some a=>
     refine run_convert_bytes_back w src dst e a c l hs RA hd fun j hj=>?_
     rcases h5 with rfl | ⟨b,o,ea,hb,hc⟩
     ·simp at hlen;omega
     ·cases ea
      rw [gm]
      exact hc j _ (by simp [CB,hj])
   ·cases he
  ·cases he
 ·cases he
theorem Ia{X:Nat→Prop}{w:World}{R:Ref→Value→Prop}: ∀s:List UInt8,aY X w R ((s.map fun b=>PD.int .u8 (b.toNat:Int)).map .d) (s.map fun b=>Value.int .u8 (b.toNat:Int))
 | []=>rfl
 | b::s=>⟨_,_,rfl,rfl,Ia s⟩
theorem Vw{src dst e:TypeId}{x:Operand}{p:PV}{aD:eu}(hm:Mem E m aP w0 φ H w)(bK:eM E φ H w ρ ev)(hs:P.underlying src=some .string)(hd:P.underlying dst=some (.slice e))(RA:P.underlying e=some (.int .u8))
  (he:az γ H d ρ (.HN e x)=some (p,aD)):Does P E m aP w0 φ H w p aD (do pure (.value (←convert src dst (ev x)))):=by
 simp only [az] at he
 split at he
 ·rename_i s e1
  split at he
  ·rename_i hl;cases he
   rw [uY e1 (bK x)]
   have hrun:=run_bytes_of_string (P:=P) w src dst e ⟨s.toArray⟩ hs hd RA
   rw [tR] at hrun
   have avJ:=grownCap_ge w s.length 0 e
   have hcm:=grownCap_le_maxLen w s.length 0 e (by unfold maxLen;omega)
   have mU:(bytesRow ⟨s.toArray⟩ (grownCap w s.length 0 e)).size=grownCap w s.length 0 e:=by unfold bytesRow;simp [ByteArray.size];omega
   have hbt:(bytesRow ⟨s.toArray⟩ (grownCap w s.length 0 e)).toList.take s.length=s.map fun b=>Value.int .u8 (b.toNat:Int):=by
    unfold bytesRow
    rw [Array.toList_append,List.take_left' (by simp)]
    simp
   have p_:(s.map fun b=>PD.int .u8 (b.toNat:Int)).length=s.length:=by simp
   obtain ⟨md,td⟩:=hm.drew
   obtain ⟨bp,p1,m1,t1⟩:=md.aAQ (aZ d 0) (by unfold aZ;omega) 1 (s.map fun b=>PD.int .u8 (b.toNat:Int)) (bytesRow ⟨s.toArray⟩ (grownCap w s.length 0 e)) e (grownCap w s.length 0 e)
    ((bytesRow ⟨s.toArray⟩ (grownCap w s.length 0 e)).size,(bytesRow ⟨s.toArray⟩ (grownCap w s.length 0 e)).size+1) (.inr (Nat.le_refl _)) (by decide) (by rw [mU,Nat.mul_one]) hcm ⟨s.length,by rw [p_,Nat.mul_one]⟩ (by rw [p_,Nat.mul_one];exact avJ) (by rw [p_,hbt];exact Ia s)
   refine .inl ⟨_,_,kz hrun,bp,m1,td.trans t1,?_⟩
   have:=CA (φ:=bp) (H:=up H (aZ d 0) ⟨(H (aZ d 0)).g+1,some (.own e 1 (s.map fun b=>PD.int .u8 (b.toNat:Int)))⟩) (i:=aZ d 0) (k:=1) (e:=e) (n:=s.length) (cs:=s.map fun b=>PD.int .u8 (b.toNat:Int)) p1 (by rw [aQ]) (by decide) (by rw [p_,Nat.mul_one]) avJ hcm
   rwa [aQ] at this
  ·cases he
 ·cases he
theorem adw{x:Operand}{i:Nat}{p:PV}{aD:eu}(hm:Mem E m aP w0 φ H w)(bK:eM E φ H w ρ ev)
  (he:az γ H d ρ (.ext x i)=some (p,aD)):Does P E m aP w0 φ H w p aD (do pure (.value (←Instr.extract (ev x) i))):=by
 have hx:=bK x
 simp only [az] at he
 split at he
 ·rename_i cs e1
  rw [e1] at hx
  obtain ⟨vs,hv,hr⟩:=hx
  split at he
  ·rename_i q hq;cases he
   obtain ⟨v,h1,h2⟩:=hr.get i p hq
   rw [hv]
   refine dQ hm (v:=v) ?_ h2
   unfold Instr.extract
   have:vs[i]?=some v:=by simpa using h1
   simp [this]
  ·cases he
 ·cases he
theorem aY.y5{X:Nat→Prop}{R:Ref→Value→Prop}{ρ:Operand→PV}{ev:Operand→Value}(h: ∀x,cJ X w R (ρ x) (ev x)): ∀(cs:List Operand),aY X w R (cs.map ρ) (cs.map ev)
 | []=>rfl
 | c::cs=>⟨_,_,rfl,h c,aY.y5 h cs⟩
theorem adx{f:Nat}{cs:List Operand}{p:PV}{aD:eu}(hm:Mem E m aP w0 φ H w)(bK:eM E φ H w ρ ev)
  (he:az γ H d ρ (.mkF f cs)=some (p,aD)):Does P E m aP w0 φ H w p aD (do pure (.value (←Instr.makeFunc (.func f) #[] (cs.map ev).toArray))):=by
 simp only [az,Option.some.injEq,Prod.mk.injEq] at he
 obtain ⟨rfl,rfl⟩:=he
 exact dQ hm (v:= .func (.func f) #[] (cs.map ev).toArray) rfl ⟨_,rfl,aY.y5 bK cs⟩
theorem Vx{t ty:TypeId}{x:Operand}{p:PV}{aD:eu}(hm:Mem E m aP w0 φ H w)(bK:eM E φ H w ρ ev)(hu:P.underlying t=some .string)
  (he:az γ H d ρ (.len true x)=some (p,aD)):Does P E m aP w0 φ H w p aD (do pure (.value (←Builtin.len_ #[t] ty #[ev x]))):=by
 simp only [az] at he
 split at he
 ·rename_i s e1;cases he
  rw [uY e1 (bK x)]
  refine dQ hm (v:= .int .i64 s.length) ?_ rfl
  simp [Builtin.len_,run_underlying hu,goInt,tR]
 ·cases he
theorem Vy{t ty e:TypeId}{x:Operand}{p:PV}{aD:eu}(hm:Mem E m aP w0 φ H w)(bK:eM E φ H w ρ ev)(hu:P.underlying t=some (.slice e))
  (he:az γ H d ρ (.len false x)=some (p,aD)):Does P E m aP w0 φ H w p aD (do pure (.value (←Builtin.len_ #[t] ty #[ev x]))):=by
 have hx:=bK x
 simp only [az] at he
 split at he
 ·rename_i e1;cases he
  rw [e1] at hx
  obtain ⟨a,c,hv,_⟩:=hx
  rw [hv]
  exact dQ hm (v:= .int .i64 _) (by simp [Builtin.len_,run_underlying hu,goInt]) rfl
 ·rename_i e1;cases he
  rw [e1] at hx
  obtain ⟨a,hv⟩:=hx
  rw [hv]
  exact dQ hm (v:= .int .i64 0) (by simp [Builtin.len_,run_underlying hu,goInt]) rfl
 ·rename_i i g l n e1
  rw [e1] at hx
  split at he
  ·rename_i e' k cs hl;cases he
   obtain ⟨hg,hb⟩:=hm.iz hl
   obtain ⟨_,_,hx2⟩:=hx
   obtain ⟨_,_,hp⟩:=hx2 hg _ _ _ hb
   have: ∃a c,ev x= .slice a n c:=by
    cases en:φ i with
    | nil a=>rw [en] at hp;obtain ⟨hv,_,rfl⟩:=hp;exact ⟨_,_,hv⟩
    | blk b c=>rw [en] at hp;obtain ⟨a,c',hv,_⟩:=hp;exact ⟨_,_,hv⟩
   obtain ⟨a,c,hv⟩:=this
   rw [hv]
   exact dQ hm (v:= .int .i64 n) (by simp [Builtin.len_,run_underlying hu,goInt]) rfl
  ·cases he
 ·cases he
theorem EN{ρ:Operand→PV}{ev:Operand→Value}(bK:eM E φ H w ρ ev): ∀{xs:List Operand} {l:List (IntKind×Int)},ints ρ xs=some l→xs.map ev=l.map fun x=>Value.int x.1 x.2
 | [],l,h=>by cases h;rfl
 | x::xs,l,h=>by
  unfold ints at h
  split at h
  ·rename_i a r h1 h2;cases h
   rw [List.map_cons,List.map_cons,EN bK h2,j8 h1 (bK x)]
  ·cases h
theorem Av{k:IntKind}: ∀(r:List (IntKind×Int)) (a:Int),((r.map fun x=>Value.int x.1 x.2).foldlM Builtin.max2 (Value.int k a)).run P w= .ok (.int k (r.foldl (fun x y=>if y.2>x then y.2 else x) a)) w
 | [],a=>rfl
 | y::r,a=>by
  simp only [List.map_cons,List.foldlM_cons,Sem.run_bind,Builtin.max2,Sem.run_pure,Result.andThen_ok,List.foldl_cons]
  exact Av r _
theorem Aw{k:IntKind}: ∀(r:List (IntKind×Int)) (a:Int),((r.map fun x=>Value.int x.1 x.2).foldlM Builtin.min2 (Value.int k a)).run P w= .ok (.int k (r.foldl (fun x y=>if y.2<x then y.2 else x) a)) w
 | [],a=>rfl
 | y::r,a=>by
  simp only [List.map_cons,List.foldlM_cons,Sem.run_bind,Builtin.min2,Sem.run_pure,Result.andThen_ok,List.foldl_cons]
  exact Aw r _
theorem ahv{ts:Array TypeId}{ty:TypeId}{xs:List Operand}{p:PV}{aD:eu}(hm:Mem E m aP w0 φ H w)(bK:eM E φ H w ρ ev)
  (he:az γ H d ρ (.mx xs)=some (p,aD)):Does P E m aP w0 φ H w p aD (do pure (.value (←Builtin.max_ ts ty (xs.map ev).toArray))):=by
 simp only [az] at he
 split at he
 ·rename_i k a r h1;cases he
  rw [EN bK h1]
  exact dQ hm (v:= .int k _) (by simp only [Builtin.max_,List.map_cons];exact Av r a) rfl
 ·cases he
theorem ahw{ts:Array TypeId}{ty:TypeId}{xs:List Operand}{p:PV}{aD:eu}(hm:Mem E m aP w0 φ H w)(bK:eM E φ H w ρ ev)
  (he:az γ H d ρ (.mn xs)=some (p,aD)):Does P E m aP w0 φ H w p aD (do pure (.value (←Builtin.min_ ts ty (xs.map ev).toArray))):=by
 simp only [az] at he
 split at he
 ·rename_i k a r h1;cases he
  rw [EN bK h1]
  exact dQ hm (v:= .int k _) (by simp only [Builtin.min_,List.map_cons];exact Aw r a) rfl
 ·cases he
theorem ady{t:TypeId}{n:Nat}{x:Operand}{p:PV}{aD:eu}(hm:Mem E m aP w0 φ H w)(bK:eM E φ H w ρ ev)
  (he:az γ H d ρ (.box n x)=some (p,aD)):Does P E m aP w0 φ H w p aD (do pure (.value (←Instr.box t (ev x)))):=by
 simp only [az] at he
 split at he
 ·rename_i cs hcs
  split at he
  ·rename_i hh;cases he
   obtain ⟨hr,_⟩:=EG hcs (bK x)
   obtain ⟨bp,p1,p2,m1,t1⟩:=hm.new (aZ d 0) (by unfold aZ;omega) (.box cs) (ev x).cells t 0 (.inl ⟨cs,(ev x).cells,rfl,⟨lT t hh.2 hr,rfl⟩,hr⟩)
   refine .inl ⟨.pointer (some ⟨w.heap.size,0,none⟩),_,kz (w':=w.alloc (.cells (ev x).cells t)) ?_,bp,m1,t1,?_⟩
   ·simp [Instr.box,newVar,newRow]
   ·have:=Cz (φ:=bp) (H:=up H (aZ d 0) ⟨(H (aZ d 0)).g+1,some (.box cs)⟩) (i:=aZ d 0) p1 rfl 0
    rw [aQ] at this
    exact this
  ·cases he
 ·cases he
theorem adz{t:TypeId}{x:Operand}{p:PV}{aD:eu}(hm:Mem E m aP w0 φ H w)(bK:eM E φ H w ρ ev)(ht:P.underlying t=some .string)
  (he:az γ H d ρ (.Vj x)=some (p,aD)):Does P E m aP w0 φ H w p aD (do pure (.value (←Instr.range t (ev x)))):=by
 simp only [az] at he
 split at he
 ·rename_i s hs;cases he
  have hx:ev x= .string ⟨s.toArray⟩:=by
   have:=bK x
   cases hp:ρ x with
   | d y=>
    rw [hp] at this hs
    cases y<;>simp only [PV.qJ] at hs<;>first | cases hs;done | (cases hs;exact this)
   | _=>rw [hp] at hs;cases hs
  have nG:=hm.upd (bp:=up φ (aZ d 0) (.blk w.heap.size 0)) (H':=up H (aZ d 0) ⟨(H (aZ d 0)).g+1,some (.box [itC s 0])⟩) (w':=w.iter ⟨s.toArray⟩ 0)
   (fun j=>j=aZ d 0) (fun j hj=>⟨dK _ _ _ _ hj,dK _ _ _ _ hj⟩) (fun j hj=>by subst hj;rw [aQ];exact .inl (Nat.lt_succ_self _)) (fun b hb _=>Below.heap_alloc w _ b hb)
   (fun j b' c' hj hp=>by subst hj;rw [aQ] at hp;cases hp;exact ⟨by simp [World.iter],.inl (Nat.le_refl _)⟩) (fun a a' _ _ _ h1 h2 _ _=>h1.trans h2.symm) (fun j hj tP=>by have:=hm.m8;subst hj;unfold aZ at tP;omega) (by simp [World.iter]) ⟨rfl,rfl,rfl⟩
   (fun tr j b' hj hb'=>by
    subst hj
    rw [aQ] at hb'
    simp only [Option.some.injEq] at hb'
    subst hb'
    rw [aQ]
    refine ⟨#[.tuple #[.string ⟨s.toArray⟩,.int .i64 0]],0,?_,⟨_,[],rfl,⟨_,rfl,_,_,rfl,rfl,_,_,rfl,rfl,rfl⟩,rfl⟩⟩
    exact ⟨World.iter_heap w _ 0,rfl⟩)
  refine .inl ⟨.pointer (some ⟨w.heap.size,0,none⟩),_,kz (w':=w.iter ⟨s.toArray⟩ 0) ?_,_,nG.1,nG.2,?_⟩
  ·rw [hx];exact run_range_string w t _ ht
  ·have:=Cz (φ:=up φ (aZ d 0) (.blk w.heap.size 0)) (H:=up H (aZ d 0) ⟨(H (aZ d 0)).g+1,some (.box [itC s 0])⟩) (i:=aZ d 0) (aQ _ _ _) rfl 0
   rw [aQ] at this
   exact this
 ·cases he
theorem adA{ty:TypeId}{x:Operand}{p:PV}{aD:eu}(hm:Mem E m aP w0 φ H w)(bK:eM E φ H w ρ ev)
  (he:az γ H d ρ (.OA x)=some (p,aD)):Does P E m aP w0 φ H w p aD (do pure (.value (←Instr.next (ev x) true ty))):=by
 have hx:=bK x
 simp only [az] at he
 split at he
 ·rename_i i g e
  rw [e] at hx
  split at he
  ·rename_i s q hl
   split at he
   ·rename_i h0
    obtain ⟨hg,hb⟩:=hm.iz hl
    obtain ⟨_,_,q3⟩:=hx
    obtain ⟨b,c,hp,hv⟩:=q3 hg (by rw [hb];rfl)
    have dz:=hm.rep i _ hb
    rw [hp] at dz
    obtain ⟨vs,T,⟨r1,r0⟩,r2⟩:=dz
    rw [r0,Nat.zero_add] at hv
    have RB:Mt vs.toList=some (⟨s.toArray⟩,q):=by
     obtain ⟨v,r,e1,h1,h2⟩:=r2
     have h2:r= []:=h2
     subst h2
     obtain ⟨us,rfl,v2,r2,e2,h3,v3,r3,e3,h4,e4⟩:=h1
     have h3:v2=_:=h3;have h4:v3=_:=h4;have e4:r3= []:=e4
     subst h3;subst h4;subst e4;subst e3
     rw [e1]
     unfold Mt
     simp only [e2]
    have ahx:w.heap[b]?=some (.stringIter ⟨s.toArray⟩ q.toNat):=by rw [r1];unfold uS;rw [RB]
    split at he
    ·rename_i hlt;cases he
     have RF:q.toNat<(⟨s.toArray⟩:ByteArray).size:=by show q.toNat<s.toArray.size;simpa using hlt
     have nG:=hm.upd (bp:=φ) (H':=up H i ⟨g,some (.box [itC s ((q.toNat+(Utf8.decode ⟨s.toArray⟩ q.toNat).2:Nat):Int)])⟩) (w':=w.iterAt b ⟨s.toArray⟩ (q.toNat+(Utf8.decode ⟨s.toArray⟩ q.toNat).2))
      (fun j=>j=i) (fun j hj=>⟨rfl,dK _ _ _ _ hj⟩) (fun j hj=>by subst hj;rw [aQ];exact .inr ⟨rfl,hg,by rw [hb];trivial⟩)
      (fun k hk hne=>by
       have:k≠b:=fun h=>hne i c rfl (by rw [hp,h])
       unfold World.iterAt
       simp only [Array.getElem?_setIfInBounds]
       rw [if_neg (fun h=>this h.symm)])
      (fun j k c' hj hk=>⟨by have:=(hm.lt j k c' hk).1;unfold World.iterAt;simpa using this,.inr ⟨c',hk⟩⟩) (fun a a' _ _ _ h1 h2 _ _=>h1.trans h2.symm) (fun j hj _=>by
       subst hj
       rw [aQ,hb]
       exact ⟨fun b0 hk=>by cases b0<;>exact hk,.inl rfl⟩) (by unfold World.iterAt;simp) ⟨rfl,rfl,rfl⟩ (fun tr j b2 hj hb2=>by
       subst hj
       rw [aQ] at hb2
       simp only [Option.some.injEq] at hb2
       subst hb2
       rw [hp]
       refine ⟨#[.tuple #[.string ⟨s.toArray⟩,.int .i64 ((q.toNat+(Utf8.decode ⟨s.toArray⟩ q.toNat).2:Nat):Int)]],0,?_,⟨_,[],rfl,⟨_,rfl,_,_,rfl,rfl,_,_,rfl,rfl,rfl⟩,rfl⟩⟩
       exact ⟨Lib.iterAt_heap w b _ _ _ ahx,r0⟩)
     refine .inl ⟨_,_,kz (by rw [hv];exact Lib.run_next_any_at w b _ _ ty ahx RF),_,nG.1,nG.2,?_⟩
     refine ⟨_,rfl,_,_,rfl,rfl,_,_,rfl,?_,_,_,rfl,rfl,rfl⟩
     show Value.int .i64 _=_
     rw [Int.toNat_of_nonneg h0]
    ·rename_i hlt;cases he
     have RF: ¬q.toNat<(⟨s.toArray⟩:ByteArray).size:=by show¬q.toNat<s.toArray.size;simpa using hlt
     exact dQ hm (by rw [hv];exact Lib.run_next_end_at w b _ _ ty ahx RF) ⟨_,rfl,_,_,rfl,rfl,rfl⟩
   ·cases he
  ·cases he
 ·cases he
theorem aY.consts{X:Nat→Prop}{R:Ref→Value→Prop}: ∀(vs:List Value),aY X w R (vs.map ofConst) vs
 | []=>rfl
 | v::vs=>⟨v,vs,rfl,HT v,aY.consts vs⟩
theorem lW{t:TypeId}{n:Nat}{z:List Value}(h:zeroOf P t n=some z): ∃i v,P.info? t=some i∧i.zero=some v∧v.cells.toList=z∧z.length=n:=by
 unfold zeroOf at h
 split at h
 ·rename_i i hi
  split at h
  ·rename_i v hv
   split at h
   ·rename_i hs;cases h
    exact ⟨i,v,hi,hv,rfl,by simpa using hs⟩
   ·cases h
  ·cases h
 ·cases h
theorem OI{t:TypeId}{p:PV}{aD:eu}(hm:Mem E m aP w0 φ H w)(hz:zeroOf P t (P.cellsOf t)=some [.pointer none,.slice none 0 0])
  (he:az γ H d ρ (.uV t)=some (p,aD)):Does P E m aP w0 φ H w p aD (do pure (.value (←Instr.alloc t true (.tuple #[])))):=by
 simp only [az] at he
 simp only [Option.some.injEq,Prod.mk.injEq] at he
 obtain ⟨rfl,rfl⟩:=he
 obtain ⟨i,v,hi,hv,wP,_⟩:=lW hz
 have hvc:v.cells= #[.pointer none,.slice none 0 0]:=Array.ext' wP
 obtain ⟨bp,p1,p2,m1,t1⟩:=hm.new (aZ d 0) (by unfold aZ;omega) (.box (blC t .nil)) v.cells t 0 (.inl ⟨_,#[.tuple #[.bool true,.int .i64 (t:Int)],.slice none 0 0],rfl,by
  rw [hvc];unfold uS;simp [Mt,Y6,aha,off],apz ⟨none,rfl⟩⟩)
 refine .inl ⟨.pointer (some ⟨w.heap.size,0,none⟩),_,kz (w':=w.alloc (.cells v.cells t)) ?_,bp,m1,t1,?_⟩
 ·simp [Instr.alloc,zeroValue,typeInfo,hi,hv,newVar,newRow]
 ·have:=Cz (φ:=bp) (H:=up H (aZ d 0) ⟨(H (aZ d 0)).g+1,some (.box (blC t .nil))⟩) (i:=aZ d 0) p1 rfl 0
  rw [aQ] at this
  exact this
theorem RG{t:TypeId}{n:Nat}{z:List Value}{p:PV}{aD:eu}(hm:Mem E m aP w0 φ H w)(hz:zeroOf P t n=some z)
  (he:az γ H d ρ (.alloc (tE z))=some (p,aD)):Does P E m aP w0 φ H w p aD (do pure (.value (←Instr.alloc t true (.tuple #[])))):=by
 simp only [az] at he
 split at he
 case isFalse=>cases he
 rename_i kK
 simp only [Option.some.injEq,Prod.mk.injEq] at he
 obtain ⟨rfl,rfl⟩:=he
 obtain ⟨i,v,hi,hv,wP,_⟩:=lW hz
 have hr:aY (cV E φ) w (bh φ H) (jc (tE z)) v.cells.toList:=by rw [lV,wP];exact aY.consts z
 obtain ⟨bp,p1,p2,m1,t1⟩:=hm.new (aZ d 0) (by unfold aZ;omega) (.box (jc (tE z))) v.cells t 0 (.inl ⟨_,v.cells,rfl,⟨lT t kK hr,rfl⟩,hr⟩)
 refine .inl ⟨.pointer (some ⟨w.heap.size,0,none⟩),_,kz (w':=w.alloc (.cells v.cells t)) ?_,bp,m1,t1,?_⟩
 ·simp [Instr.alloc,zeroValue,typeInfo,hi,hv,newVar,newRow]
 ·have:=Cz (φ:=bp) (H:=up H (aZ d 0) ⟨(H (aZ d 0)).g+1,some (.box (jc (tE z)))⟩) (i:=aZ d 0) p1 rfl 0
  rw [aQ] at this
  exact this
end
end Go.Proofs.YtimbfadnabfabaaGreatDoor.Pm
