/- The small machine: what an operation does to typed data. No program is named here. -/
import Derived.Test.YtobkkblijfhpoaaGreatDoorPd
namespace Go.Proofs.YtobkkblijfhpoaaGreatDoor.Pm
set_option linter.unusedVariables false
section
variable {γ : cX} {H : Nat → cL} {d : Nat} {ρ : Operand → PV} {x y i : Operand} {kk : IntKind} {j : Int} {b g l n e k : Nat}
theorem OP{α:Type}{xs:List α}{j:Int}{y:α}(h:idx xs j=some y):0≤j∧xs[j.toNat]?=some y∧j<xs.length:=by
 unfold idx at h
 split at h
 ·refine ⟨‹_›,h,?_⟩
  have:=(List.getElem?_eq_some_iff.1 h).1
  omega
 ·cases h
theorem ux{j:Int}{n m:Nat}(h:iJ j n=some m):0≤j∧j<n∧j.toNat=m:=by
 unfold iJ at h
 split at h
 ·rename_i hc;cases h;exact ⟨hc.1,hc.2,rfl⟩
 ·cases h
theorem GM{α:Type}{xs ys:List α}{lo hi:Int}(h:ni xs lo hi=some ys):0≤lo∧lo≤hi∧hi≤xs.length∧ys=(xs.take hi.toNat).drop lo.toNat:=by
 unfold ni at h
 split at h
 ·rename_i hc;cases h;exact ⟨hc.1,hc.2.1,hc.2.2,rfl⟩
 ·cases h
theorem jk{s:List UInt8}{y:UInt8}(hx:ρ x= .d (.str s))(hi:ρ i= .d (.int kk j))(h:idx s j=some y):aD γ H d ρ (.j9 x i)=some (.d (.int .u8 (y.toNat:Int)),[]):=by
 obtain ⟨h1,h2,h3⟩:=OP h
 simp only [aD,hx,hi,PV.pO,PV.int?]
 rw [if_pos ⟨h1,h3⟩]
 simp [List.getD_eq_getElem?_getD,h2]
section
variable {α : Type} (E : dJ α) {xs ys : List α} {z : α}
theorem eE(hx:ρ x= .d (.sl xs.length (E.cells xs)))(hi:ρ i= .d (.int kk j))(h:idx xs j=some z)(hk:E.k=k)(hz:E.enc z≠ []):aD γ H d ρ (.fQ e k x i)=some (.cS (E.enc z++E.cells (xs.drop (j.toNat+1))),[]):=by
 obtain ⟨h1,h2,h3⟩:=OP h
 have hne:E.cells xs≠ []:=by
  rw [E.nU h2];intro hc
  have:=(List.append_eq_nil_iff.1 (List.append_eq_nil_iff.1 hc).2).1
  exact hz this
 subst hk
 simp only [aD,hx,hi,PV.int?]
 rw [if_pos ⟨h1,h3,hne⟩,E.gi]
 obtain ⟨hl,rfl⟩:=List.getElem?_eq_some_iff.1 h2
 rw [List.drop_eq_getElem_cons hl];rfl
theorem iK{cs:List PD}{m:Nat}(hx:ρ x= .r (.aI b g l n))(hl:look H b g=some (.own e k cs))(hi:ρ i= .d (.int kk j))(h:iJ j n=some m):aD γ H d ρ (.fQ e k x i)=some (.r (.ptr b g ((l+m)*k)),[]):=by
 obtain ⟨h1,h2,h3⟩:=ux h
 simp only [aD,hx,hi,PV.int?,hl]
 simp [h1,h2,h3]
theorem afc(agg:Bool)(a bs cs:List PD)(o n:Nat)(h:o+n≤bs.length)(h1:0<n):nP agg (a++(bs++cs)) (a.length+o) n=nP agg bs o n:=by
 unfold nP
 cases agg with
 | true=>
  simp only [if_true,List.length_append]
  rw [if_pos (by omega),if_pos h,List.drop_append]
  simp only [Nat.add_sub_cancel_left]
  rw [List.drop_of_length_le (by omega),List.nil_append,List.drop_append,List.take_append]
  simp only [List.length_drop]
  rw [show n-(bs.length-o)=0 by omega]
  simp
 | false=>
  simp only [Bool.false_eq_true,if_false]
  rw [List.getElem?_append_right (by omega),Nat.add_sub_cancel_left,List.getElem?_append_left (by omega)]
theorem jl{agg:Bool}{m fo o n:Nat}{p:PV}(hx:ρ x= .r (.ptr b g o))(hl:look H b g=some (.own e k (E.cells xs)))(ho:o=m*E.k+fo)(h:xs[m]?=some z)(hp:nP agg (E.enc z) fo n=some p)(hn:Nat.ble (fo+n) E.k=true)(DF:Nat.ble 1 n=true):aD γ H d ρ (.load agg n x)=some (p,[]):=by
 have hn:=Nat.le_of_ble_eq_true hn
 have DF:=Nat.le_of_ble_eq_true DF
 have XH:(E.cells (xs.take m)).length=m*E.k:=by
  rw [E.dU,List.length_take]
  have:=(List.getElem?_eq_some_iff.1 h).1
  rw [Nat.min_eq_left (by omega)]
 simp only [aD,hx,hl]
 rw [E.nU h,ho,←XH,afc _ _ _ _ _ _ (by rw [E.len];exact hn) (by omega),hp]
theorem Ky{β:Type}(a bs cs new:List β)(o:Nat)(h:o+new.length≤bs.length):cI (a++(bs++cs)) (a.length+o) new=a++(cI bs o new++cs):=by
 unfold cI
 rw [List.take_append,List.take_of_length_le (by omega),List.drop_append,List.drop_of_length_le (by omega)]
 simp only [Nat.add_sub_cancel_left,List.nil_append,List.append_assoc]
 rw [show a.length+o+new.length-a.length=o+new.length by omega]
 rw [List.take_append_of_le_length (by omega),List.drop_append_of_le_length h]
theorem nW{m fo o n:Nat}{z':α}{new:List PV}{ds:List PD}(hx:ρ x= .r (.ptr b g o))(hy:(ρ y).cells?=some new)(hd:pP new=some ds)(hl:look H b g=some (.own e k (E.cells xs)))(ho:o=m*E.k+fo)(h:xs[m]?=some z)
  (hz:cI (E.enc z) fo ds=E.enc z') (hn:Nat.beq ds.length n=true) (Tn:Nat.ble (fo+n) E.k=true):aD γ H d ρ (.store n x y)=some (.un,[(b,⟨g,some (.own e k (E.cells (xs.set m z')))⟩)]):=by
 have hn:=Nat.eq_of_beq_eq_true hn
 have Tn:=Nat.le_of_ble_eq_true Tn
 have hlt:=(List.getElem?_eq_some_iff.1 h).1
 have XH:(E.cells (xs.take m)).length=m*E.k:=by
  rw [E.dU,List.length_take,Nat.min_eq_left (by omega)]
 have hlen:o+n≤(E.cells xs).length:=by
  rw [E.dU,ho]
  have:(m+1)*E.k≤xs.length*E.k:=Nat.mul_le_mul_right _ (by omega)
  rw [Nat.succ_mul] at this
  omega
 simp only [aD,hx,hy,hl,hd]
 rw [if_pos ⟨hn,hlen⟩]
 rw [E.vV h,E.nU h,ho,←XH,Ky _ _ _ _ _ (by rw [E.len,hn];exact Tn),hz]
theorem afd{bb:Nat}{ws:List α}(h:fT bb xs ys=some ws):(xs.length+ys.length)*bb≤140737488355328∧ws=xs++ys:=by
 unfold fT at h
 split at h
 ·cases h;exact ⟨‹_›,rfl⟩
 ·cases h
theorem fJ{bytes m:Nat}{ws:List α}(hy:gm H (ρ y)=some (m,E.cells ys))(hm:ys.length=m)(hx:ρ x= .r (.aI b g 0 n))(hn:xs.length=n)(hl:look H b g=some (.own e k (E.cells xs)))(hk:E.k=k)(h:fT bytes xs ys=some ws):
  aD γ H d ρ (.app e k bytes x y)=some (.r (.aI b (g+1) 0 ws.length),[(b,⟨g+1,some (.own e k (E.cells ws))⟩)]):=by
 obtain ⟨hb,rfl⟩:=afd h
 subst hm hn hk
 simp only [aD,asj hy,hx,hl]
 rw [if_pos (E.dU ys),if_pos ⟨trivial,trivial,E.dU xs,hb⟩,E.l9,List.length_append]
theorem awr(n:Nat)(cs:List PD):gm H (.d (.sl n cs))=some (n,cs):=rfl
theorem en{n:Nat}(hl:look H b g=some (.own e k (E.cells xs)))(hk:E.k=k)(hn:xs.length=n):gm H (.r (.aI b g 0 n))=some (n,E.cells xs):=by
 subst hk hn
 simp only [gm,hl,Nat.zero_mul,List.drop_zero]
 rw [List.take_of_length_le (by rw [E.dU];exact Nat.le_refl _)]
end
def upd{α:Type}(f:Nat→α)(i:Nat)(x:α):Nat→α:=fun j=>if j=i then x else f j
theorem DX{j:Int}{n m:Nat}(h:iJ j n=some m):m<n:=by
 obtain ⟨h1,h2,h3⟩:=ux h
 omega
section
variable {α : Type} (E : dJ α) {f : Nat → α} {m nn fo : Nat}
theorem Kz(h:m<nn):((List.range nn).map f)[m]?=some (f m):=by simp [h]
theorem KA(agg:Bool){pre post:List PV}{o n:Nat}(ho:o=pre.length+m*E.k+fo)(hm:m<nn)(hn:fo+n≤E.k)(h0:0<n):part agg (pre++(E.row nn f++post)) o n=nP agg (E.enc (f m)) fo n:=by
 have hx:=Kz (f:=f) hm
 rw [oG]
 unfold dJ.row
 rw [E.nU hx]
 simp only [List.map_append,List.append_assoc]
 have XH:((E.cells (((List.range nn).map f).take m)).map PV.d).length=m*E.k:=by
  rw [List.length_map,E.dU,List.length_take,List.length_map,List.length_range,Nat.min_eq_left (by omega)]
 have key: ∀(a b c:List PV) (o:Nat),o=a.length+fo→fo+n≤b.length→part agg (a++(b++c)) o n=part agg b fo n:=by
  intro a b c o ho hb
  subst ho
  unfold part
  cases agg with
  | true=>
   simp only [if_true,List.length_append]
   rw [if_pos (by omega),if_pos hb,List.drop_append]
   simp only [Nat.add_sub_cancel_left]
   rw [List.drop_of_length_le (by omega),List.nil_append,List.drop_append,List.take_append]
   simp only [List.length_drop]
   rw [show n-(b.length-fo)=0 by omega]
   simp
  | false=>
   simp only [Bool.false_eq_true,if_false]
   rw [List.getElem?_append_right (by omega),Nat.add_sub_cancel_left,List.getElem?_append_left (by omega)]
 have:=key (pre++(E.cells (((List.range nn).map f).take m)).map .d) ((E.enc (f m)).map .d) ((E.cells (((List.range nn).map f).drop (m+1))).map .d++post) o (by rw [List.length_append,XH,ho]) (by rw [List.length_map,E.len];exact hn)
 simpa only [List.append_assoc] using this
theorem I5(f:Nat→α){agg:Bool}{p:PV}(hx:ρ x= .agg (E.row nn f++ []))(hi:ρ i= .d (.int kk j))(h:iJ j nn=some m)(hk:E.k=k)(hp:nP agg (E.enc (f m)) 0 k=some p)(pU:Nat.ble 1 k=true):aD γ H d ρ (.M_ agg nn k x i)=some (p,[]):=by
 obtain ⟨h1,h2,h3⟩:=ux h
 have pU:=Nat.le_of_ble_eq_true pU
 simp only [aD,hx,hi,PV.int?]
 rw [if_pos ⟨h1,h2⟩]
 have:=KA E agg (pre:= []) (post:= []) (f:=f) (o:=j.toNat*k) (n:=k) (fo:=0) (m:=m) (nn:=nn) (by rw [h3,hk];simp) (DX h) (by omega) (by omega)
 rw [List.nil_append] at this
 rw [this,hp]
theorem I6{o:Nat}(hx:ρ x= .r (.ptr b g o))(hi:ρ i= .d (.int kk j))(h:iJ j nn=some m):aD γ H d ρ (.xZ nn k x i)=some (.r (.ptr b g (o+m*k)),[]):=by
 obtain ⟨h1,h2,h3⟩:=ux h
 simp only [aD,hx,hi,PV.int?]
 rw [if_pos ⟨h1,h2⟩,h3]
theorem Tv{o:Nat}(hx:ρ x= .r (.ptr b g o))(hi:ρ i= .d (.int kk j))(h:iJ j 2=some m)(hc:decide (m=0)=true):aD γ H d ρ (.xZ 2 k x i)=some (.r (.ptr b g o),[]):=by
 have hm:=of_decide_eq_true hc
 subst hm
 have q:=I6 (γ:=γ) (H:=H) (d:=d) (k:=k) hx hi h
 rwa [Nat.zero_mul,Nat.add_zero] at q
theorem Tw{o:Nat}(hx:ρ x= .r (.ptr b g o))(hi:ρ i= .d (.int kk j))(h:iJ j 2=some m)(hc:decide (m=0)=false):aD γ H d ρ (.xZ 2 k x i)=some (.r (.ptr b g (o+k)),[]):=by
 have hm:=of_decide_eq_false hc
 have hl:=DX h
 have h1:m=1:=by omega
 subst h1
 have q:=I6 (γ:=γ) (H:=H) (d:=d) (k:=k) hx hi h
 rwa [Nat.one_mul] at q
theorem CP{pre post:List PV}(h3:Nat.ble 3 nn=true)(hk:0<E.k):gL (pre++(E.row nn f++post))=true:=by
 have h3:=Nat.le_of_ble_eq_true h3
 have hl:(E.cells ((List.range nn).map f)).length=nn*E.k:=by rw [E.dU];simp
 have h0:3≤nn*E.k:=Nat.le_trans h3 (Nat.le_mul_of_pos_right _ hk)
 refine aeD ?_ (.inl ?_)
 ·cases hc:E.cells ((List.range nn).map f) with
  | nil=>rw [hc] at hl;simp at hl;omega
  | cons a l=>exact ⟨a,by simp [dJ.row,hc]⟩
 ·simp only [List.length_append,dJ.row,List.length_map,hl];omega
theorem afe{agg:Bool}{n o:Nat}{p:PV}{pre post:List PV}(hx:ρ x= .r (.ptr b g o))(hl:look H b g=some (.box (pre++(E.row nn f++post))))(ho:o=pre.length+m*E.k+fo)(hm:m<nn)(hp:nP agg (E.enc (f m)) fo n=some p)(hn:Nat.ble (fo+n) E.k=true)(DF:Nat.ble 1 n=true)(h3:Nat.ble 3 nn=true:=by kernel_rfl):aD γ H d ρ (.load agg n x)=some (p,[]):=by
 have hn:=Nat.le_of_ble_eq_true hn
 have DF:=Nat.le_of_ble_eq_true DF
 simp only [aD,hx,hl]
 have kU:gL (pre++(E.row nn f++post))=true:=CP E h3 (by omega)
 rw [if_pos kU,KA E agg ho hm hn (by omega),hp]
theorem akg(h:m<nn)(z:α):E.row nn (upd f m z)=((E.cells (((List.range nn).map f).take m)).map PV.d)++((E.enc z).map .d++(E.cells (((List.range nn).map f).drop (m+1))).map .d):=by
 have e:(List.range nn).map (upd f m z)=((List.range nn).map f).set m z:=by
  apply List.ext_getElem?
  intro j
  by_cases hj:j<nn
  ·by_cases rW:m=j
   ·subst rW;simp [hj,upd]
   ·rw [List.getElem?_set_ne rW];simp [hj,upd,Ne.symm rW]
  ·rw [List.getElem?_eq_none (by simp;omega),List.getElem?_eq_none (by simp;omega)]
 unfold dJ.row
 rw [e,E.vV (Kz (f:=f) h)]
 simp
theorem XI{n o:Nat}{pre post new:List PV}{ds:List PD}{z':α}(hx:ρ x= .r (.ptr b g o))(hl:look H b g=some (.box (pre++(E.row nn f++post))))(ho:o=pre.length+m*E.k+fo)(hm:m<nn)
  (hy:(ρ y).cells?=some new) (hd:new=ds.map .d) (hz:cI (E.enc (f m)) fo ds=E.enc z') (hn:Nat.beq ds.length n=true) (Tn:Nat.ble (fo+n) E.k=true) (DF:Nat.ble 1 n=true) (h3:Nat.ble 3 nn=true:=by kernel_rfl):aD γ H d ρ (.store n x y)=some (.un,[(b,⟨g,some (.box (pre++(E.row nn (upd f m z')++post)))⟩)]):=by
 have hn:=Nat.eq_of_beq_eq_true hn
 have Tn:=Nat.le_of_ble_eq_true Tn
 have DF:=Nat.le_of_ble_eq_true DF
 have hrow:(E.row nn f).length=nn*E.k:=by unfold dJ.row;rw [List.length_map,E.dU,List.length_map,List.length_range]
 have hmk:(m+1)*E.k≤nn*E.k:=Nat.mul_le_mul_right _ (by omega)
 rw [Nat.succ_mul] at hmk
 have XH:((E.cells (((List.range nn).map f).take m)).map PV.d).length=m*E.k:=by
  rw [List.length_map,E.dU,List.length_take,List.length_map,List.length_range,Nat.min_eq_left (by omega)]
 have key:cI (pre++(E.row nn f++post)) o new=pre++(E.row nn (upd f m z')++post):=by
  rw [akg E hm]
  have e:E.row nn f=((E.cells (((List.range nn).map f).take m)).map PV.d)++((E.enc (f m)).map .d++(E.cells (((List.range nn).map f).drop (m+1))).map .d):=by
   unfold dJ.row;rw [E.nU (Kz (f:=f) hm)];simp
  rw [e]
  have hs:cI ((E.enc (f m)).map PV.d) fo new=(E.enc z').map .d:=by
   rw [←hz,hd];simp [cI,List.map_take,List.map_drop]
  have:=Ky (pre++(E.cells (((List.range nn).map f).take m)).map PV.d) ((E.enc (f m)).map .d) ((E.cells (((List.range nn).map f).drop (m+1))).map .d++post) new fo (by rw [List.length_map,E.len,hd,List.length_map];omega)
  rw [hs,List.length_append,XH,←ho] at this
  simp only [List.append_assoc] at this ⊢
  rw [this]
 simp only [aD,hx,hy,hl]
 rw [if_pos ⟨by rw [hd,List.length_map];exact hn,by simp only [List.length_append,hrow];omega,by rw [hd];simp [vJ],CP E h3 (by omega),by rw [key];exact CP E h3 (by omega)⟩,key]
end
theorem akh(b:Bool){P:Prop}(h1:b=true→P)(h2:b=false→P):P:=by cases b;exact h2 rfl;exact h1 rfl
def bI(i:Int):Option Nat:=if 0≤i then some i.toNat else none
theorem tJ(n:Nat):jH ρ n none=bI (n:Int):=by simp [jH,bI]
theorem jQ(n:Nat)(h:ρ x= .d (.int kk j)):jH ρ n (some x)=bI j:=by simp [jH,bI,h,PV.int?]
theorem Ay{lo hi:Option Operand}{s t:List UInt8}{a c:Int}(hx:ρ x= .d (.str s))(h1:jH ρ 0 lo=bI a)(h2:jH ρ s.length hi=bI c)(h:ni s a c=some t):aD γ H d ρ (.tE x lo hi)=some (.d (.str t),[]):=by
 obtain ⟨p1,p2,p3,rfl⟩:=GM h
 simp only [aD,hx,PV.pO,h1,h2,bI]
 rw [if_pos p1,if_pos (by omega)]
 simp only
 rw [if_pos (by omega)]
section
variable {α : Type} (E : dJ α) {xs ys : List α}
theorem I7{lo hi:Option Operand}{a c:Int}(hx:ρ x= .d (.sl xs.length (E.cells xs)))(hk:E.k=k)(h1:jH ρ 0 lo=bI a)(h2:jH ρ xs.length hi=bI c)(h:ni xs a c=some ys):aD γ H d ρ (.tD e k x lo hi)=some (.d (.sl ys.length (E.cells ys)),[]):=by
 obtain ⟨p1,p2,p3,rfl⟩:=GM h
 subst hk
 simp only [aD,hx,h1,h2,bI]
 rw [if_pos p1,if_pos (by omega)]
 simp only
 rw [if_pos (by omega),E.gX,E.gi]
 simp;omega
end
theorem DY{lo hi:Option Operand}{a c:Int}{cs:List PD}{l' n':Nat}(hx:ρ x= .r (.aI b g l n))(hl:look H b g=some (.own e k cs))(h1:jH ρ 0 lo=bI a)(h2:jH ρ n hi=bI c)(h:gz (decide (0≤a)&&decide (a≤c)&&decide (c≤(n:Int)))=some ())(hl':l+a.toNat=l')(hn':c.toNat-a.toNat=n'):aD γ H d ρ (.tD e k x lo hi)=some (.r (.aI b g l' n'),[]):=by
 have h:=gT h
 simp only [Bool.and_eq_true,decide_eq_true_eq] at h
 simp only [aD,hx,h1,h2,bI,hl]
 rw [if_pos h.1.1,if_pos (by omega)]
 simp only
 rw [if_pos (by omega),if_pos trivial,hl',hn']
def dJ.nj{α:Type}(E:dJ α)(n:Nat)(f:Nat→α):List PD:=E.cells ((List.range n).map f)
theorem dJ.OQ{α:Type}(E:dJ α)(n:Nat)(f:Nat→α):(E.nj n f).length=n*E.k:=by
 unfold dJ.nj
 rw [E.dU,List.length_map,List.length_range]
theorem as0{γ:cX}{H:Nat→cL}{d:Nat}{ρ:Operand→PV}{x i:Operand}{kk:IntKind}{j:Int}{nn k m:Nat}{cs:List PD}(hx:ρ x= .cS cs)(hi:ρ i= .d (.int kk j))(h:iJ j nn=some m):aD γ H d ρ (.xZ nn k x i)=some (.cS (cs.drop (m*k)),[]):=by
 obtain ⟨h1,h2,h3⟩:=ux h
 simp only [aD,hx,hi,PV.int?]
 rw [if_pos ⟨h1,h2⟩,h3]
theorem aff{α:Type}(E:dJ α){γ:cX}{H:Nat→cL}{d:Nat}{ρ:Operand→PV}{x:Operand}{f:Nat→α}{nn m:Nat}{post:List PD}{q:PD}(hx:ρ x= .cS ((E.nj nn f++post).drop (m*E.k)))(hm:m<nn)(hq:nP false (E.enc (f m)) 0 1=some (.d q))(hk:Nat.ble 1 E.k=true):aD γ H d ρ (.load false 1 x)=some (.d q,[]):=by
 have hk:=Nat.le_of_ble_eq_true hk
 have e:=KA E false (pre:= []) (post:=post.map .d) (f:=f) (o:=m*E.k) (n:=1) (fo:=0) (m:=m) (nn:=nn) (by simp) hm (by omega) (by omega)
 rw [List.nil_append,hq] at e
 have e2:E.row nn f++post.map PV.d=(E.nj nn f++post).map PV.d:=by unfold dJ.row dJ.nj;rw [List.map_append]
 rw [e2] at e
 simp only [part,Bool.false_eq_true,if_false,List.getElem?_map] at e
 simp only [aD,hx,nP,Bool.false_eq_true,if_false,List.getElem?_drop,Nat.add_zero]
 rw [e]
theorem KB{α:Type}(E:dJ α)(z:α): ∀n:Nat,E.cells (List.replicate n z)=(List.replicate n (E.enc z)).flatten
 | 0=>rfl
 | n+1=>by
  rw [List.replicate_succ,List.replicate_succ,List.flatten_cons]
  show E.enc z++E.cells (List.replicate n z)=_
  rw [KB E z n]
def nk{α:Type}(xs:List α)(l n:Nat)(ys:List α):List α:=xs.take l++ys.take (min ys.length n)++xs.drop (l+min ys.length n)
theorem Az{α:Type}{xs ys:List α}{l n:Nat}(h:l+n≤xs.length):(nk xs l n ys).length=xs.length:=by
 unfold nk
 simp;omega
theorem I8{α:Type}(E:dJ α){xs ys:List α}(hx:ρ x= .r (.aI b g l n))(hl:look H b g=some (.own e k (E.cells xs)))(hk:E.k=k)(hy:gm H (ρ y)=some (ys.length,E.cells ys))(h:gz (decide (l+n≤xs.length))=some ()):
  aD γ H d ρ (.Dt k x y)=some (.d (.int .i64 ((min ys.length n:Nat):Int)),[(b,⟨g,some (.own e k (E.cells (nk xs l n ys)))⟩)]):=by
 have h:=of_decide_eq_true (gT h)
 subst hk
 simp only [aD,hx,hy,hl]
 rw [if_pos ⟨trivial,E.dU ys⟩]
 have e1:cI (E.cells xs) (l*E.k) ((E.cells ys).take (min ys.length n*E.k))=E.cells (nk xs l n ys):=by
  unfold cI nk
  rw [E.l9,E.l9,E.gX,E.gX,E.dU,List.length_take,←Nat.add_mul,E.gi,show min (min ys.length n) ys.length=min ys.length n by omega]
 rw [e1]
def mk?{α:Type}(bytes:Nat)(a c:Int)(z:α):Option (List α):=if 0≤a∧a≤c∧c.toNat*bytes≤140737488355328 then some (List.replicate a.toNat z) else none
theorem QA{α:Type}(E:dJ α){z0:α}{zz:List (Nat×Value)}{bytes:Nat}{a c:Int}{kl kc:IntKind}{ys:List α}{cp:Operand}(hz:pP (iV zz)=some (E.enc z0))(hx:ρ x= .d (.int kl a))(hc:ρ cp= .d (.int kc c))(hk:E.k=k)(h:mk? bytes a c z0=some ys):
  aD γ H d ρ (.JP e k bytes zz x cp)=some (.r (.aI (bf d 0) ((H (bf d 0)).g+1) 0 ys.length),[nw H (bf d 0) (.own e k (E.cells ys))]):=by
 unfold mk? at h
 split at h
 ·rename_i hh
  cases h
  simp only [aD,hx,hc,PV.int?,hz]
  rw [if_pos hh,KB,List.length_replicate]
 ·cases h
def KC{α:Type}(xs:List α)(a c:Int):Option (List α):=if a<c then ni xs a c else none
theorem as1{α:Type}(E:dJ α){xs ys:List α}{lo hi:Option Operand}{a c:Int}{e':Nat}(hx:ρ x= .r (.aI b g 0 n))(hn:xs.length=n)(hl:look H b g=some (.own e' k (E.cells xs)))(hk:E.k=k)(h1:jH ρ 0 lo=bI a)(h2:jH ρ n hi=bI c)(h:KC xs a c=some ys):
  aD γ H d ρ (.JO e k x lo hi)=some (.r (.aI b (g+1) 0 ys.length),[(b,⟨g+1,some (.own e' k (E.cells ys))⟩)]):=by
 unfold KC at h
 split at h
 ·rename_i hac
  obtain ⟨q1,q2,q3,q4⟩:=GM h
  subst hn hk
  have hlen:ys.length=c.toNat-a.toNat:=by rw [q4,List.length_drop,List.length_take];omega
  have hcs:((E.cells xs).take (c.toNat*E.k)).drop (a.toNat*E.k)=E.cells ys:=by rw [q4,E.gX,E.gi]
  have b1:bI a=some a.toNat:=by unfold bI;rw [if_pos q1]
  have b2:bI c=some c.toNat:=by unfold bI;rw [if_pos (by omega)]
  simp only [aD,hx,h1,h2,b1,b2,hl]
  rw [if_pos ⟨by omega,by omega,.inr (by omega)⟩,if_pos trivial,hcs,hlen]
 ·cases h
theorem DZ{s:List UInt8}{n:Nat}(hx:gm H (ρ x)=some (n,dM.cells s))(hn:s.length=n):aD γ H d ρ (.su x)=some (.d (.str s),[]):=by
 have key: ∀s:List UInt8,aD.JR (dM.cells s)=some s:=by
  intro s
  induction s with
  | nil=>rfl
  | cons a s ih=>
   have h1:(0:Int)≤(a.toNat:Int)∧(a.toNat:Int)<256:=by have:=a.toNat_lt;omega
   show aD.JR (PD.int .u8 (a.toNat:Int)::dM.cells s)=_
   simp only [aD.JR]
   rw [if_pos h1,ih]
   simp
 subst hn
 simp only [aD,hx,key]
 rw [if_pos trivial]
theorem aki{e:Nat}{s:List UInt8}(hx:ρ x= .d (.str s))(h:gz (decide (s.length≤140737488355328))=some ()):aD γ H d ρ (.Ds e x)=some (.r (.aI (bf d 0) ((H (bf d 0)).g+1) 0 s.length),[nw H (bf d 0) (.own e 1 (dM.cells s))]):=by
 have h:=of_decide_eq_true (gT h)
 simp only [aD,hx,PV.pO]
 rw [if_pos h,OM]
theorem afg{a c s:List UInt8}(h:yA a c=some s):((a.length+c.length:Nat):Int)≤IntKind.i64.max∧s=a++c:=by
 unfold yA at h
 split at h
 ·cases h;exact ⟨‹_›,rfl⟩
 ·cases h
theorem aaZ{a c s:List UInt8}(hx:ρ x= .d (.str a))(hy:ρ y= .d (.str c))(h:yA a c=some s):aD γ H d ρ (.lI .add x y)=some (.d (.str s),[]):=by
 obtain ⟨h1,rfl⟩:=afg h
 simp only [aD,hx,hy,PV.pO]
 rw [if_pos h1]
-- calls
theorem bO{k n d:Nat}(h:n≤d)(e:Nat.ble (k+1) n=true):k≤d-1:=by have:=Nat.le_of_ble_eq_true e;omega
theorem Tx{f:Nat}{xs:List Operand}{args l:List PV}{r v:PV}{aH:eo}(ha:xs.map ρ=args)(hl:gH H args=some l)(hc:γ f l []=some (r,[]))
  (hf:((bQ args).isEmpty || gq r)=true) (hr:(distinct ((owns r).map (·.1))&&(owns r).all (fun x=>decide (x.1<8)))=true) (hv:(Be H d r,(owns r).map fun x=>nw H (bf d x.1) x.2)=(v,aH)):
  aD γ H d ρ (.call f xs)=some (v,aH):=by
 simp only [aD,ha,ja,hl,Oh,hc]
 rw [if_pos (by rw [Bool.and_assoc,hf,hr];rfl),hv]
theorem dP{f:Nat}{xs:List Operand}{args args' l:List PV}{refs:List Nat}{r v:PV}{aH gN:eo}(ha:xs.map ρ=args)(hr:bQ args=refs)(hall:(refs.all fun i=>Nat.ble 8 i&&(List.range 8).all fun j=> !Nat.beq i (bf d j))=true)
  (hz:gW (j8 refs) H args=args') (hl:gH (x7 H (gM H refs)) args'=some l) (hc:γ f l []=some (r,[])) (he:(bQ args').isEmpty=true) (hd:(distinct ((owns r).map (·.1))&&(owns r).all (fun x=>decide (x.1<8)))=true)
  (hv:(Be (x7 H (gM H refs)) d r,(owns r).map fun x=>nw (x7 H (gM H refs)) (bf d x.1) x.2)=(v,gN)) (hu:gM H refs++gN=aH):
  aD γ H d ρ (.eR f xs)=some (v,aH):=by
 simp only [aD,ud,ha,hr,hall,hz,ja,hl,Oh,hc]
 rw [if_pos trivial,if_pos (by rw [Bool.and_assoc,he,hd];rfl)]
 have e1:=congrArg Prod.fst hv
 have e2:=congrArg Prod.snd hv
 simp only at e1 e2
 rw [e1,e2]
 simp only
 rw [hu]
theorem eU{D:Nat→Bool}:gW D H []= []:=rfl
theorem aY{D:Nat→Bool}{p q:PV}{ps qs:List PV}(h1:jf D H p=q)(h2:gW D H ps=qs):gW D H (p::ps)=q::qs:=by simp only [gW,h1,h2]
theorem as2{D:Nat→Bool}{ps qs:List PV}(h:gW D H ps=qs):jf D H (.agg ps)= .agg qs:=by simp only [jf,h]
theorem as3{D:Nat→Bool}{ps qs Bh qs':List PV}(h1:gW D H ps=qs)(h2:gW D H Bh=qs'):gW D H (ps++Bh)=qs++qs':=by
 subst h1 h2
 induction ps with
 | nil=>rfl
 | cons p ps ih=>simp only [List.cons_append,gW,ih]
theorem AA{f:Nat}{cs:List PV}{xs:List Operand}{args l:List PV}{r v:PV}{aH:eo}(hx:ρ x= .fn f cs)(ha:xs.map ρ++cs=args)(hl:gH H args=some l)(hc:γ f l []=some (r,[]))
  (hf:((bQ args).isEmpty || gq r)=true) (hr:(distinct ((owns r).map (·.1))&&(owns r).all (fun x=>decide (x.1<8)))=true) (hv:(Be H d r,(owns r).map fun x=>nw H (bf d x.1) x.2)=(v,aH)):
  aD γ H d ρ (.nQ x xs)=some (v,aH):=by
 simp only [aD,hx,ha,ja,hl,Oh,hc]
 rw [if_pos (by rw [Bool.and_assoc,hf,hr];rfl),hv]
theorem afh{f:Nat}{xs:List Operand}{args l:List PV}{ids:List Nat}{bs bt b_:List cj}{r v:PV}{aH:eo}(ha:(xs.map ρ).map tG=args)(hi:gB H args=ids)(hb:gQ H ids=some bs)(hl:xO ids H args=l)(ht:bs.map (pR ids H)=bt)(hc:γ f l bt=some (r,b_))
  (hr:(decide (b_.length=ids.length)&&decide (ids.length≤8)&&distinct ((cY r b_).map (·.1))&&(cY r b_).all (fun x=>decide (x.1<8)&& !ids.any (Nat.beq (bf d x.1))))=true)
  (hv:(tF false ids H d r,lB false H ids d ids b_++(cY r b_).map fun x=>nw H (bf d x.1) x.2)=(v,aH)):
  aD γ H d ρ (.er f xs)=some (v,aH):=by
 have hlen:b_.length=ids.length:=by simp only [Bool.and_eq_true,decide_eq_true_eq] at hr;exact hr.1.1.1
 have CJ:xG ids b_=false:=by
  unfold xG
  rw [hlen]
  cases h:Nat.beq ids.length (ids.length+1) with
  | false=>rfl
  | true=>have:=Nat.eq_of_beq_eq_true h;omega
 have kU:Nb H ids b_=decide (b_.length=ids.length):=by unfold Nb;rw [CJ,if_neg (by simp)]
 simp only [aD,ha,mY,hi,hb,hl,ht,hc,CJ,kU]
 rw [if_pos hr,hv]
theorem XJ{f:Nat}{xs:List Operand}{args l:List PV}{ids:List Nat}{bs bt b_:List cj}{r v:PV}{aH:eo}(ha:(xs.map ρ).map tG=args)(hi:gB H args=ids)(hb:gQ H ids=some bs)(hl:xO ids H args=l)(ht:bs.map (pR ids H)=bt)(hc:γ f l bt=some (r,b_))
  (CJ:xG ids b_=true) (hs:iA H ids b_=true)
  (hr:(decide (ids.length≤8)&&distinct ((cY r b_).map (·.1))&&(cY r b_).all (fun x=>decide (x.1<8)&& !ids.any (Nat.beq (bf d x.1))))=true)
  (hv:(tF true ids H d r,lB true H ids d ids b_++(cY r b_).map fun x=>nw H (bf d x.1) x.2)=(v,aH)):
  aD γ H d ρ (.er f xs)=some (v,aH):=by
 have kU:Nb H ids b_=true:=by unfold Nb;rw [if_pos CJ,hs]
 simp only [aD,ha,mY,hi,hb,hl,ht,hc,CJ,kU,Bool.true_and]
 rw [if_pos hr,hv]
theorem OS{f:Nat}{xs:List Operand}{l:List PV}{r:PV}(hl:gH H (xs.map ρ)=some l)(hc:γ f l []=some (r,[]))(hf:((bQ (xs.map ρ)).isEmpty || gq r)=true)(hr:(distinct ((owns r).map (·.1))&&(owns r).all (fun x=>decide (x.1<8)))=true):
  aD γ H d ρ (.call f xs)=some (Be H d r,(owns r).map fun x=>nw H (bf d x.1) x.2):=Tx rfl hl hc hf hr rfl
theorem nX{f:Nat}{xs:List Operand}{args l:List PV}{r:PV}(ha:xs.map ρ=args)(hl:gH H args=some l)(hc:γ f l []=some (r,[]))(hf:((bQ args).isEmpty || gq r)=true)(hr:(distinct ((owns r).map (·.1))&&(owns r).all (fun x=>decide (x.1<8)))=true):
  aD γ H d ρ (.call f xs)=some (Be H d r,(owns r).map fun x=>nw H (bf d x.1) x.2):=Tx ha hl hc hf hr rfl
theorem KD{f:Nat}{xs:List Operand}{l:List PV}{ids:List Nat}{bt b_:List cj}{r:PV}(hi:gB H ((xs.map ρ).map tG)=ids)(hb:(gQ H ids).map (List.map (pR ids H))=some bt)(hl:xO ids H ((xs.map ρ).map tG)=l)(hc:γ f l bt=some (r,b_))
  (hr:(decide (b_.length=ids.length)&&decide (ids.length≤8)&&distinct ((cY r b_).map (·.1))&&(cY r b_).all (fun x=>decide (x.1<8)&& !ids.any (Nat.beq (bf d x.1))))=true):
  aD γ H d ρ (.er f xs)=some (tF false ids H d r,lB false H ids d ids b_++(cY r b_).map fun x=>nw H (bf d x.1) x.2):=by
 cases nc:gQ H ids with
 | none=>rw [nc] at hb;cases hb
 | some bs=>
  rw [nc] at hb
  exact afh rfl hi nc hl (Option.some.inj hb) hc hr rfl
theorem HV{f:Nat}{xs:List Operand}{l:List PV}{ids:List Nat}{bs bt b_:List cj}{r:PV}(hi:gB H ((xs.map ρ).map tG)=ids)(hb:gQ H ids=some bs)(hl:xO ids H ((xs.map ρ).map tG)=l)(ht:bs.map (pR ids H)=bt)(hc:γ f l bt=some (r,b_))
  (CJ:xG ids b_=true) (hs:iA H ids b_=true)
  (hr:(decide (ids.length≤8)&&distinct ((cY r b_).map (·.1))&&(cY r b_).all (fun x=>decide (x.1<8)&& !ids.any (Nat.beq (bf d x.1))))=true):
  aD γ H d ρ (.er f xs)=some (tF true ids H d r,lB true H ids d ids b_++(cY r b_).map fun x=>nw H (bf d x.1) x.2):=XJ rfl hi hb hl ht hc CJ hs hr rfl
theorem nr{b_:List cj}:iA H [] b_=true:=rfl
theorem I9{i:Nat}{is:List Nat}{cs cs':List PV}{b_:List cj}(hb:(H i).b=some (.box cs))(h:iA H is b_=true):iA H (i::is) (.box cs'::b_)=true:=by
 simp only [iA,hb,h];rfl
theorem jU{α:Type}(E:dJ α){i:Nat}{is:List Nat}{e1 k1 e2 k2:Nat}{xs ys:List α}{b_:List cj}(hb:(H i).b=some (.own e1 k1 (E.cells xs)))(hl:gz (decide (ys.length=xs.length))=some ())(h:iA H is b_=true):iA H (i::is) (.own e2 k2 (E.cells ys)::b_)=true:=by
 have hl:=of_decide_eq_true (gT hl)
 simp only [iA,hb,h,E.dU,hl,decide_true,Bool.and_self]
theorem HX{α:Type}(E:dJ α)(hE: ∀x,(E.enc x).all (fun | .sl _ ds=>ds.isEmpty | _=>true)=true): ∀xs:List α,(E.cells xs).all (fun | .sl _ ds=>ds.isEmpty | _=>true)=true
 | []=>rfl
 | x::xs=>by simp only [dJ.cells,List.all_append,hE x,HX E hE xs,Bool.and_self]
theorem qi{α:Type}(E:dJ α)(hE: ∀x,(E.enc x).all (fun | .sl _ ds=>ds.isEmpty | _=>true)=true)(j e' k' n':Nat)(xs:List α):gq (.r (.own j e' k' n' (E.cells xs)))=true:=by
 unfold gq
 exact HX E hE xs
theorem qj(cs:List PV):gq (.bZ cs)=mX cs:=rfl
theorem ql(cs:List PV):gq (.agg cs)=mX cs:=rfl
theorem uy:mX []=true:=rfl
theorem uz(p:PV)(ps:List PV):mX (p::ps)=(gq p&&mX ps):=rfl
theorem qm(k':IntKind)(n':Int):gq (.d (.int k' n'))=true:=rfl
theorem nY(b':Bool):gq (.d (.bool b'))=true:=rfl
theorem qo(s:List UInt8):gq (.d (.str s))=true:=rfl
theorem uA:gq .un=true:=rfl
theorem uB:gq .nil=true:=rfl
theorem uC(n':Nat):gq (.d (.sl n' []))=true:=rfl
-- bytes
theorem u8w(n:Int):IntKind.u8.wrap n=n%256:=by
 simp [IntKind.wrap,IntKind.signed,IntKind.bits]
def u8(n:Int):UInt8:=UInt8.ofNat (n%256).toNat
theorem XK(n:Int):((u8 n).toNat:Int)=n%256:=by
 unfold u8
 have:(n%256).toNat<256:=by omega
 have e:(UInt8.ofNat (n%256).toNat).toNat=(n%256).toNat:=by simp;omega
 rw [e];omega
theorem Ty(n:Int):IntKind.u8.wrap n=((u8 n).toNat:Int):=by rw [u8w,XK]
theorem as4{op:BinOp}{a c r:Int}(hx:ρ x= .d (.int kk a))(hy:ρ y= .d (.int kk c))(h:arith op kk a c=some r):aD γ H d ρ (.WT op x y)=some (.d (.int kk r),[]):=by
 simp only [aD,hx,hy,PV.int?,h]
 rw [if_pos trivial]
theorem axM{op:BinOp}{a c r:Int}{k2:IntKind}(hx:ρ x= .d (.int kk a))(hy:ρ y= .d (.int k2 c))(h:shI op kk a c=some r):aD γ H d ρ (.sh op x y)=some (.d (.int kk r),[]):=by
 simp only [aD,hx,hy,PV.int?,h]
theorem yD{k2:IntKind}{a r:Int}(hx:ρ x= .d (.int kk a))(h:k2.wrap a=r):aD γ H d ρ (.xY k2 x)=some (.d (.int k2 r),[]):=by
 simp only [aD,hx,PV.int?,h]
theorem AB(a:UInt8):IntKind.i64.wrap (a.toNat:Int)=a.toNat:=IntWalk.i64_in _ (by have:=a.toNat_lt;omega)
theorem as5{c:Int}(h:gz (decide (0≤c))=some ()):0≤c:=of_decide_eq_true (gT h)
theorem aAm{k:IntKind}{a c:Int}(h:gz (decide (0≤c))=some ()):shI .shl k a c=some (k.wrap (a*2^(min c.toNat k.bits))):=by simp only [shI];rw [if_pos (as5 h)]
theorem as6{k:IntKind}{a c:Int}(h:gz (!decide (c=0))=some ()):arith .quo k a c=some (k.wrap (a.tdiv c)):=by
 have:=gT h;simp at this;simp [arith,this]
def kq{α:Type}(xs:List α)(l n:Nat):Option (List α):=if l+n≤xs.length then some ((xs.drop l).take n) else none
theorem CQ{α:Type}{xs ys:List α}{l n:Nat}(h:kq xs l n=some ys):l+n≤xs.length∧ys=(xs.drop l).take n∧ys.length=n:=by
 unfold kq at h
 split at h
 ·cases h;exact ⟨‹_›,rfl,by simp;omega⟩
 ·cases h
theorem akk{α:Type}(E:dJ α){xs ys:List α}(hl:look H b g=some (.own e k (E.cells xs)))(hk:E.k=k)(h:kq xs l n=some ys):gm H (.r (.aI b g l n))=some (ys.length,E.cells ys):=by
 obtain ⟨h1,h2,h3⟩:=CQ h
 subst hk
 simp only [gm,hl]
 rw [E.gi,E.gX,←h2,h3]
theorem aa0{α:Type}(E:dJ α){xs ys:List α}(hl:look H b g=some (.own e k (E.cells xs)))(hk:E.k=k)(h:kq xs l n=some ys):gp H (.r (.aI b g l n))=some (.d (.sl ys.length (E.cells ys))):=by
 obtain ⟨h1,h2,h3⟩:=CQ h
 subst hk
 simp only [gp,hl]
 rw [E.gi,E.gX,←h2,h3]
-- azi of values that hold arrays
def CR{α:Type} [DecidableEq α](n:Nat)(f g:Nat→α):Bool:=(List.range n).all fun i=>decide (f i=g i)
theorem eq_nil:CB [] [] []=some true:=rfl
theorem Tz{ks:List LK}{xs ys:List PV}{b':Bool}(h:CB ks xs ys=some b'): ∀(l:List (PD×PD×Bool)),(∀x∈l,eqC .int (.d x.1) (.d x.2.1)=some x.2.2)→CB (List.replicate l.length .int++ks) (l.map (fun x=>PV.d x.1)++xs) (l.map (fun x=>PV.d x.2.1)++ys)=some (l.all (·.2.2)&&b')
 | [],_=>by simpa using h
 | x::l,hx=>by
  have:=Tz h l (fun y hy=>hx y (by simp [hy]))
  simp only [List.length_cons,List.replicate_succ,List.cons_append,List.map_cons,CB,hx x (by simp),this,List.all_cons,Bool.and_assoc]
theorem KE{α:Type}(E:dJ α)(c:α→PD)(hE: ∀x,E.enc x= [c x]): ∀l:List α,E.cells l=l.map c
 | []=>rfl
 | x::l=>by simp [dJ.cells,hE,KE E c hE l]
theorem akl{k':IntKind}{n:Nat}{f g:Nat→Int}{ks:List LK}{xs ys:List PV}{b':Bool}(h:CB ks xs ys=some b'):CB (List.replicate n .int++ks) ((dR k').row n f++xs) ((dR k').row n g++ys)=some (CR n f g&&b'):=by
 have:=Tz h ((List.range n).map fun i=>(PD.int k' (f i),PD.int k' (g i),decide (f i=g i))) (by
  intro x hx
  obtain ⟨i,_,rfl⟩:=List.mem_map.1 hx
  simp only [eqC,if_true])
 simp only [List.length_map,List.length_range,List.map_map] at this
 unfold dJ.row CR
 rw [KE (dR k') (fun x=> .int k' x) (fun _=>rfl),KE (dR k') (fun x=> .int k' x) (fun _=>rfl),List.map_map,List.map_map,List.map_map,List.map_map]
 rw [List.all_map] at this
 exact this
theorem as7{neg:Bool}{kr:List (Nat×LK)}{ks:List LK}{va vb:List PV}{c:Bool}(hx:ρ x= .agg va)(hy:ρ y= .agg vb)(hk:vK kr=ks)(h:CB ks va vb=some c):aD γ H d ρ (.CD neg kr x y)=some (.d (.bool (if neg then !c else c)),[]):=by
 simp only [aD,hx,hy,hk,h]
-- what is handed out, what is aDR
section
variable {α : Type} (E : dJ α) {xs : List α} {m : Nat} {ids ids' QB : List Nat}
theorem dJ.II(xs:List α):((E.cells xs).drop (0*E.k)).take (xs.length*E.k)=E.cells xs:=by
 rw [Nat.zero_mul,List.drop_zero,List.take_of_length_le (by rw [E.dU];exact Nat.le_refl _)]
theorem fU{n:Nat}(hl:look H b g=some (.own e k (E.cells xs)))(hk:E.k=k)(hn:xs.length=n)(hm:Nat.blt b m=false)(hi:ids.any (Nat.beq b)=false):kg H m (.r (.aI b g 0 n)) ids=some (.r (.own ids.length e k n (E.cells xs)),ids++ [b]):=by
 subst hk hn
 simp only [kg,hl]
 rw [if_neg (by intro h;have:=Nat.ble_eq_true_of_le h;simp only [Nat.blt] at hm;rw [this] at hm;cases hm),if_pos ⟨trivial,E.dU xs,hi⟩]
theorem nZ:lM H m [] ids=some ([],ids):=rfl
theorem aX{p q:PV}{ps qs:List PV}(h1:kg H m p ids=some (q,ids'))(h2:lM H m ps ids'=some (qs,QB)):lM H m (p::ps) ids=some (q::qs,QB):=by simp only [lM,h1,h2]
theorem GN{ps qs:List PV}(h:lM H m ps ids=some (qs,ids')):kg H m (.agg ps) ids=some (.agg qs,ids'):=by simp only [kg,h]
theorem CS{ps qs:List PV}(h:lM H m ps ids=some (qs,ids')):kg H m (.bZ ps) ids=some (.bZ qs,ids'):=by simp only [kg,h]
theorem XL{ps qs Bh qs':List PV}(h1:lM H m ps ids=some (qs,ids'))(h2:lM H m Bh ids'=some (qs',QB)):lM H m (ps++Bh) ids=some (qs++qs',QB):=by
 induction ps generalizing ids qs with
 | nil=>cases h1;exact h2
 | cons p ps ih=>
  simp only [lM] at h1
  split at h1
  ·rename_i x i hx
   split at h1
   ·rename_i l j hl
    cases h1
    have:=ih hl
    simp only [List.cons_append,lM,hx,this]
   ·cases h1
  ·cases h1
theorem XM{n:Nat}{f:Nat→α}:lM H m (E.row n f) ids=some (E.row n f,ids):=aaR _ _ fun p hp=>by
 simp only [dJ.row,List.mem_map] at hp
 obtain ⟨x,_,rfl⟩:=hp;exact ⟨x,rfl⟩
theorem fK{st:St}{rs:List PR}{bs:List cj}{l:List PV}{x:PV}(h1:vU st.h m (List.range m) []=some (bs,ids))(h2:HR st rs=some l)(h3:kg st.h m (aaM l) ids=some (x,ids')):bA st m rs=some (x,bs):=by
 simp only [bA,h1,h2,h3]
theorem lZ{p q:PV}{ps qs:List PV}(h1:gp H p=some q)(h2:gH H ps=some qs):gH H (p::ps)=some (q::qs):=by simp only [gH,h1,h2]
theorem tK:gH H []=some []:=rfl
theorem XN{ps qs:List PV}(h:gH H ps=some qs):gp H (.agg ps)=some (.agg qs):=by simp only [gp,h];rfl
theorem KF{n:Nat}(hl:look H b g=some (.own e k (E.cells xs)))(hk:E.k=k)(hn:xs.length=n):gp H (.r (.aI b g 0 n))=some (.d (.sl n (E.cells xs))):=by
 subst hk hn
 simp only [gp,hl]
 rw [Nat.zero_mul,List.drop_zero,List.take_of_length_le (by rw [E.dU];exact Nat.le_refl _)]
theorem as8{n:Nat}{D:Nat→Bool}(hD:D b=true)(hl:look H b g=some (.own e k (E.cells xs)))(hk:E.k=k)(hn:xs.length=n):jf D H (.r (.aI b g 0 n))= .d (.sl n (E.cells xs)):=by
 subst hk hn
 simp only [jf,hD,if_true,hl]
 rw [Nat.zero_mul,List.drop_zero,List.take_of_length_le (by rw [E.dU];exact Nat.le_refl _)]
theorem akm{ys:List α}{l n:Nat}{D:Nat→Bool}(hD:D b=true)(hl:look H b g=some (.own e k (E.cells xs)))(hk:E.k=k)(h:kq xs l n=some ys):jf D H (.r (.aI b g l n))= .d (.sl ys.length (E.cells ys)):=by
 obtain ⟨h1,h2,h3⟩:=CQ h
 subst hk
 simp only [jf,hD,if_true,hl]
 rw [E.gi,E.gX,←h2,h3]
theorem as9{n:Nat}{f:Nat→α}{D:Nat→Bool}:gW D H (E.row n f)=E.row n f:=by
 unfold dJ.row
 induction E.cells ((List.range n).map f) with
 | nil=>rfl
 | cons a l ih=>simp only [List.map_cons,gW,jf,ih]
end
end
theorem IJ{α β γ:Type}(f:α→γ)(g:β→γ)(a:α):Sum.elim f g (Sum.inl a)=f a:=by
 have h: ∀s:α⊕β,s= .inl a→Sum.elim f g s=f a:=fun s hs=>by cases hs;simp
 exact h _ (by simp)
theorem IK{α β γ:Type}(f:α→γ)(g:β→γ)(b:β):Sum.elim f g (Sum.inr b)=g b:=by
 have h: ∀s:α⊕β,s= .inr b→Sum.elim f g s=g b:=fun s hs=>by cases hs;simp
 exact h _ (by simp)
end Go.Proofs.YtobkkblijfhpoaaGreatDoor.Pm
