/- The small machine: what an operation does to typed data. No program is named here. -/
import Derived.Test.YtimbfadnabfabaaGreatDoorPd
namespace Go.Proofs.YtimbfadnabfabaaGreatDoor.Pm
set_option linter.unusedVariables false
section
variable {γ : dZ} {H : Nat → cw} {d : Nat} {ρ : Operand → PV} {x y i : Operand} {kk : IntKind} {j : Int} {b g l n e k : Nat}
theorem NP{α:Type}{xs:List α}{j:Int}{y:α}(h:idx xs j=some y):0≤j∧xs[j.toNat]?=some y∧j<xs.length:=by
 unfold idx at h
 split at h
 ·refine ⟨‹_›,h,?_⟩
  have:=(List.getElem?_eq_some_iff.1 h).1
  omega
 ·cases h
theorem uQ{j:Int}{n m:Nat}(h:jO j n=some m):0≤j∧j<n∧j.toNat=m:=by
 unfold jO at h
 split at h
 ·rename_i hc;cases h;exact ⟨hc.1,hc.2,rfl⟩
 ·cases h
theorem FN{α:Type}{xs ys:List α}{lo hi:Int}(h:qL xs lo hi=some ys):0≤lo∧lo≤hi∧hi≤xs.length∧ys=(xs.take hi.toNat).drop lo.toNat:=by
 unfold qL at h
 split at h
 ·rename_i hc;cases h;exact ⟨hc.1,hc.2.1,hc.2.2,rfl⟩
 ·cases h
theorem fA{s:List UInt8}{y:UInt8}(hx:ρ x= .d (.str s))(hi:ρ i= .d (.int kk j))(h:idx s j=some y):az γ H d ρ (.iy x i)=some (.d (.int .u8 (y.toNat:Int)),[]):=by
 obtain ⟨h1,h2,h3⟩:=NP h
 simp only [az,hx,hi,PV.rK,PV.int?]
 rw [if_pos ⟨h1,h3⟩]
 simp [List.getD_eq_getElem?_getD,h2]
section
variable {α : Type} (E : cS α) {xs ys : List α} {z : α}
theorem eY(hx:ρ x= .d (.sl xs.length (E.cells xs)))(hi:ρ i= .d (.int kk j))(h:idx xs j=some z)(hk:E.k=k)(hz:E.enc z≠ []):az γ H d ρ (.jc e k x i)=some (.cD (E.enc z++E.cells (xs.drop (j.toNat+1))),[]):=by
 obtain ⟨h1,h2,h3⟩:=NP h
 have hne:E.cells xs≠ []:=by
  rw [E.mC h2];intro hc
  have:=(List.append_eq_nil_iff.1 (List.append_eq_nil_iff.1 hc).2).1
  exact hz this
 subst hk
 simp only [az,hx,hi,PV.int?]
 rw [if_pos ⟨h1,h3,hne⟩,E.kJ]
 obtain ⟨hl,rfl⟩:=List.getElem?_eq_some_iff.1 h2
 rw [List.drop_eq_getElem_cons hl];rfl
theorem Au{cs:List PD}{m:Nat}(hx:ρ x= .r (.aL b g l n))(hl:look H b g=some (.own e k cs))(hi:ρ i= .d (.int kk j))(h:jO j n=some m):az γ H d ρ (.jc e k x i)=some (.r (.ptr b g ((l+m)*k)),[]):=by
 obtain ⟨h1,h2,h3⟩:=uQ h
 simp only [az,hx,hi,PV.int?,hl]
 simp [h1,h2,h3]
theorem aft(agg:Bool)(a bs cs:List PD)(o n:Nat)(h:o+n≤bs.length)(h1:0<n):oh agg (a++(bs++cs)) (a.length+o) n=oh agg bs o n:=by
 unfold oh
 cases agg with
 | true=>
  simp only [if_true,List.length_append]
  rw [if_pos (by omega),if_pos h,List.drop_append]
  simp only [Nat.add_sub_cancel_left]
  rw [List.drop_of_length_le (by omega),List.nil_append,List.drop_append,List.take_append]
  simp only [List.length_drop]
  rw [show n-(bs.length-o)=0 by omega]
  simp
 | false=>
  simp only [Bool.false_eq_true,if_false]
  rw [List.getElem?_append_right (by omega),Nat.add_sub_cancel_left,List.getElem?_append_left (by omega)]
theorem FO{agg:Bool}{m fo o n:Nat}{p:PV}(hx:ρ x= .r (.ptr b g o))(hl:look H b g=some (.own e k (E.cells xs)))(ho:o=m*E.k+fo)(h:xs[m]?=some z)(hp:oh agg (E.enc z) fo n=some p)(hn:Nat.ble (fo+n) E.k=true)(ym:Nat.ble 1 n=true):az γ H d ρ (.load agg n x)=some (p,[]):=by
 have hn:=Nat.le_of_ble_eq_true hn
 have ym:=Nat.le_of_ble_eq_true ym
 have SS:(E.cells (xs.take m)).length=m*E.k:=by
  rw [E.dH,List.length_take]
  have:=(List.getElem?_eq_some_iff.1 h).1
  rw [Nat.min_eq_left (by omega)]
 simp only [az,hx,hl]
 rw [E.mC h,ho,←SS,aft _ _ _ _ _ _ (by rw [E.len];exact hn) (by omega),hp]
theorem JK{β:Type}(a bs cs new:List β)(o:Nat)(h:o+new.length≤bs.length):cg (a++(bs++cs)) (a.length+o) new=a++(cg bs o new++cs):=by
 unfold cg
 rw [List.take_append,List.take_of_length_le (by omega),List.drop_append,List.drop_of_length_le (by omega)]
 simp only [Nat.add_sub_cancel_left,List.nil_append,List.append_assoc]
 rw [show a.length+o+new.length-a.length=o+new.length by omega]
 rw [List.take_append_of_le_length (by omega),List.drop_append_of_le_length h]
theorem CG{m fo o n:Nat}{z':α}{new:List PV}{ds:List PD}(hx:ρ x= .r (.ptr b g o))(hy:(ρ y).cells?=some new)(hd:qI new=some ds)(hl:look H b g=some (.own e k (E.cells xs)))(ho:o=m*E.k+fo)(h:xs[m]?=some z)
  (hz:cg (E.enc z) fo ds=E.enc z') (hn:Nat.beq ds.length n=true) (SM:Nat.ble (fo+n) E.k=true):az γ H d ρ (.store n x y)=some (.un,[(b,⟨g,some (.own e k (E.cells (xs.set m z')))⟩)]):=by
 have hn:=Nat.eq_of_beq_eq_true hn
 have SM:=Nat.le_of_ble_eq_true SM
 have hlt:=(List.getElem?_eq_some_iff.1 h).1
 have SS:(E.cells (xs.take m)).length=m*E.k:=by
  rw [E.dH,List.length_take,Nat.min_eq_left (by omega)]
 have hlen:o+n≤(E.cells xs).length:=by
  rw [E.dH,ho]
  have:(m+1)*E.k≤xs.length*E.k:=Nat.mul_le_mul_right _ (by omega)
  rw [Nat.succ_mul] at this
  omega
 simp only [az,hx,hy,hl,hd]
 rw [if_pos ⟨hn,hlen⟩]
 rw [E.JI h,E.mC h,ho,←SS,JK _ _ _ _ _ (by rw [E.len,hn];exact SM),hz]
theorem afu{bb:Nat}{ws:List α}(h:eP bb xs ys=some ws):(xs.length+ys.length)*bb≤140737488355328∧ws=xs++ys:=by
 unfold eP at h
 split at h
 ·cases h;exact ⟨‹_›,rfl⟩
 ·cases h
theorem eM{bytes m:Nat}{ws:List α}(hy:fP H (ρ y)=some (m,E.cells ys))(hm:ys.length=m)(hx:ρ x= .r (.aL b g 0 n))(hn:xs.length=n)(hl:look H b g=some (.own e k (E.cells xs)))(hk:E.k=k)(h:eP bytes xs ys=some ws):
  az γ H d ρ (.app e k bytes x y)=some (.r (.aL b (g+1) 0 ws.length),[(b,⟨g+1,some (.own e k (E.cells ws))⟩)]):=by
 obtain ⟨hb,rfl⟩:=afu h
 subst hm hn hk
 simp only [az,asD hy,hx,hl]
 rw [if_pos (E.dH ys),if_pos ⟨trivial,trivial,E.dH xs,hb⟩,E.ow,List.length_append]
theorem ax0(n:Nat)(cs:List PD):fP H (.d (.sl n cs))=some (n,cs):=rfl
theorem cZ{n:Nat}(hl:look H b g=some (.own e k (E.cells xs)))(hk:E.k=k)(hn:xs.length=n):fP H (.r (.aL b g 0 n))=some (n,E.cells xs):=by
 subst hk hn
 simp only [fP,hl,Nat.zero_mul,List.drop_zero]
 rw [List.take_of_length_le (by rw [E.dH];exact Nat.le_refl _)]
end
def upd{α:Type}(f:Nat→α)(i:Nat)(x:α):Nat→α:=fun j=>if j=i then x else f j
theorem mh{j:Int}{n m:Nat}(h:jO j n=some m):m<n:=by
 obtain ⟨h1,h2,h3⟩:=uQ h
 omega
section
variable {α : Type} (E : cS α) {f : Nat → α} {m nn fo : Nat}
theorem JL(h:m<nn):((List.range nn).map f)[m]?=some (f m):=by simp [h]
theorem JM(agg:Bool){pre post:List PV}{o n:Nat}(ho:o=pre.length+m*E.k+fo)(hm:m<nn)(hn:fo+n≤E.k)(h0:0<n):part agg (pre++(E.row nn f++post)) o n=oh agg (E.enc (f m)) fo n:=by
 have hx:=JL (f:=f) hm
 rw [pT]
 unfold cS.row
 rw [E.mC hx]
 simp only [List.map_append,List.append_assoc]
 have SS:((E.cells (((List.range nn).map f).take m)).map PV.d).length=m*E.k:=by
  rw [List.length_map,E.dH,List.length_take,List.length_map,List.length_range,Nat.min_eq_left (by omega)]
 have key: ∀(a b c:List PV) (o:Nat),o=a.length+fo→fo+n≤b.length→part agg (a++(b++c)) o n=part agg b fo n:=by
  intro a b c o ho hb
  subst ho
  unfold part
  cases agg with
  | true=>
   simp only [if_true,List.length_append]
   rw [if_pos (by omega),if_pos hb,List.drop_append]
   simp only [Nat.add_sub_cancel_left]
   rw [List.drop_of_length_le (by omega),List.nil_append,List.drop_append,List.take_append]
   simp only [List.length_drop]
   rw [show n-(b.length-fo)=0 by omega]
   simp
  | false=>
   simp only [Bool.false_eq_true,if_false]
   rw [List.getElem?_append_right (by omega),Nat.add_sub_cancel_left,List.getElem?_append_left (by omega)]
 have:=key (pre++(E.cells (((List.range nn).map f).take m)).map .d) ((E.enc (f m)).map .d) ((E.cells (((List.range nn).map f).drop (m+1))).map .d++post) o (by rw [List.length_append,SS,ho]) (by rw [List.length_map,E.len];exact hn)
 simpa only [List.append_assoc] using this
theorem Av(f:Nat→α){agg:Bool}{p:PV}(hx:ρ x= .agg (E.row nn f++ []))(hi:ρ i= .d (.int kk j))(h:jO j nn=some m)(hk:E.k=k)(hp:oh agg (E.enc (f m)) 0 k=some p)(qz:Nat.ble 1 k=true):az γ H d ρ (.HE agg nn k x i)=some (p,[]):=by
 obtain ⟨h1,h2,h3⟩:=uQ h
 have qz:=Nat.le_of_ble_eq_true qz
 simp only [az,hx,hi,PV.int?]
 rw [if_pos ⟨h1,h2⟩]
 have:=JM E agg (pre:= []) (post:= []) (f:=f) (o:=j.toNat*k) (n:=k) (fo:=0) (m:=m) (nn:=nn) (by rw [h3,hk];simp) (mh h) (by omega) (by omega)
 rw [List.nil_append] at this
 rw [this,hp]
theorem pJ{o:Nat}(hx:ρ x= .r (.ptr b g o))(hi:ρ i= .d (.int kk j))(h:jO j nn=some m):az γ H d ρ (.tA nn k x i)=some (.r (.ptr b g (o+m*k)),[]):=by
 obtain ⟨h1,h2,h3⟩:=uQ h
 simp only [az,hx,hi,PV.int?]
 rw [if_pos ⟨h1,h2⟩,h3]
theorem ajW{o:Nat}(hx:ρ x= .r (.ptr b g o))(hi:ρ i= .d (.int kk j))(h:jO j 2=some m)(hc:decide (m=0)=true):az γ H d ρ (.tA 2 k x i)=some (.r (.ptr b g o),[]):=by
 have hm:=of_decide_eq_true hc
 subst hm
 have q:=pJ (γ:=γ) (H:=H) (d:=d) (k:=k) hx hi h
 rwa [Nat.zero_mul,Nat.add_zero] at q
theorem ajX{o:Nat}(hx:ρ x= .r (.ptr b g o))(hi:ρ i= .d (.int kk j))(h:jO j 2=some m)(hc:decide (m=0)=false):az γ H d ρ (.tA 2 k x i)=some (.r (.ptr b g (o+k)),[]):=by
 have hm:=of_decide_eq_false hc
 have hl:=mh h
 have h1:m=1:=by omega
 subst h1
 have q:=pJ (γ:=γ) (H:=H) (d:=d) (k:=k) hx hi h
 rwa [Nat.one_mul] at q
theorem CI{pre post:List PV}(h3:Nat.ble 3 nn=true)(hk:0<E.k):gW (pre++(E.row nn f++post))=true:=by
 have h3:=Nat.le_of_ble_eq_true h3
 have hl:(E.cells ((List.range nn).map f)).length=nn*E.k:=by rw [E.dH];simp
 have h0:3≤nn*E.k:=Nat.le_trans h3 (Nat.le_mul_of_pos_right _ hk)
 refine aeX ?_ (.inl ?_)
 ·cases hc:E.cells ((List.range nn).map f) with
  | nil=>rw [hc] at hl;simp at hl;omega
  | cons a l=>exact ⟨a,by simp [cS.row,hc]⟩
 ·simp only [List.length_append,cS.row,List.length_map,hl];omega
theorem uR{agg:Bool}{n o:Nat}{p:PV}{pre post:List PV}(hx:ρ x= .r (.ptr b g o))(hl:look H b g=some (.box (pre++(E.row nn f++post))))(ho:o=pre.length+m*E.k+fo)(hm:m<nn)(hp:oh agg (E.enc (f m)) fo n=some p)(hn:Nat.ble (fo+n) E.k=true)(ym:Nat.ble 1 n=true)(h3:Nat.ble 3 nn=true:=by kernel_rfl):az γ H d ρ (.load agg n x)=some (p,[]):=by
 have hn:=Nat.le_of_ble_eq_true hn
 have ym:=Nat.le_of_ble_eq_true ym
 simp only [az,hx,hl]
 have kZ:gW (pre++(E.row nn f++post))=true:=CI E h3 (by omega)
 rw [if_pos kZ,JM E agg ho hm hn (by omega),hp]
theorem ajY(h:m<nn)(z:α):E.row nn (upd f m z)=((E.cells (((List.range nn).map f).take m)).map PV.d)++((E.enc z).map .d++(E.cells (((List.range nn).map f).drop (m+1))).map .d):=by
 have e:(List.range nn).map (upd f m z)=((List.range nn).map f).set m z:=by
  apply List.ext_getElem?
  intro j
  by_cases hj:j<nn
  ·by_cases uH:m=j
   ·subst uH;simp [hj,upd]
   ·rw [List.getElem?_set_ne uH];simp [hj,upd,Ne.symm uH]
  ·rw [List.getElem?_eq_none (by simp;omega),List.getElem?_eq_none (by simp;omega)]
 unfold cS.row
 rw [e,E.JI (JL (f:=f) h)]
 simp
theorem CJ{n o:Nat}{pre post new:List PV}{ds:List PD}{z':α}(hx:ρ x= .r (.ptr b g o))(hl:look H b g=some (.box (pre++(E.row nn f++post))))(ho:o=pre.length+m*E.k+fo)(hm:m<nn)
  (hy:(ρ y).cells?=some new) (hd:new=ds.map .d) (hz:cg (E.enc (f m)) fo ds=E.enc z') (hn:Nat.beq ds.length n=true) (SM:Nat.ble (fo+n) E.k=true) (ym:Nat.ble 1 n=true) (h3:Nat.ble 3 nn=true:=by kernel_rfl):az γ H d ρ (.store n x y)=some (.un,[(b,⟨g,some (.box (pre++(E.row nn (upd f m z')++post)))⟩)]):=by
 have hn:=Nat.eq_of_beq_eq_true hn
 have SM:=Nat.le_of_ble_eq_true SM
 have ym:=Nat.le_of_ble_eq_true ym
 have hrow:(E.row nn f).length=nn*E.k:=by unfold cS.row;rw [List.length_map,E.dH,List.length_map,List.length_range]
 have hmk:(m+1)*E.k≤nn*E.k:=Nat.mul_le_mul_right _ (by omega)
 rw [Nat.succ_mul] at hmk
 have SS:((E.cells (((List.range nn).map f).take m)).map PV.d).length=m*E.k:=by
  rw [List.length_map,E.dH,List.length_take,List.length_map,List.length_range,Nat.min_eq_left (by omega)]
 have key:cg (pre++(E.row nn f++post)) o new=pre++(E.row nn (upd f m z')++post):=by
  rw [ajY E hm]
  have e:E.row nn f=((E.cells (((List.range nn).map f).take m)).map PV.d)++((E.enc (f m)).map .d++(E.cells (((List.range nn).map f).drop (m+1))).map .d):=by
   unfold cS.row;rw [E.mC (JL (f:=f) hm)];simp
  rw [e]
  have hs:cg ((E.enc (f m)).map PV.d) fo new=(E.enc z').map .d:=by
   rw [←hz,hd];simp [cg,List.map_take,List.map_drop]
  have:=JK (pre++(E.cells (((List.range nn).map f).take m)).map PV.d) ((E.enc (f m)).map .d) ((E.cells (((List.range nn).map f).drop (m+1))).map .d++post) new fo (by rw [List.length_map,E.len,hd,List.length_map];omega)
  rw [hs,List.length_append,SS,←ho] at this
  simp only [List.append_assoc] at this ⊢
  rw [this]
 simp only [az,hx,hy,hl]
 rw [if_pos ⟨by rw [hd,List.length_map];exact hn,by simp only [List.length_append,hrow];omega,by rw [hd];simp [wk],CI E h3 (by omega),by rw [key];exact CI E h3 (by omega)⟩,key]
end
theorem azR(b:Bool){P:Prop}(h1:b=true→P)(h2:b=false→P):P:=by cases b;exact h2 rfl;exact h1 rfl
def bI(i:Int):Option Nat:=if 0≤i then some i.toNat else none
theorem CK(n:Nat):jW ρ n none=bI (n:Int):=by simp [jW,bI]
theorem mD(n:Nat)(h:ρ x= .d (.int kk j)):jW ρ n (some x)=bI j:=by simp [jW,bI,h,PV.int?]
theorem FP{lo hi:Option Operand}{s t:List UInt8}{a c:Int}(hx:ρ x= .d (.str s))(h1:jW ρ 0 lo=bI a)(h2:jW ρ s.length hi=bI c)(h:qL s a c=some t):az γ H d ρ (.wu x lo hi)=some (.d (.str t),[]):=by
 obtain ⟨p1,p2,p3,rfl⟩:=FN h
 simp only [az,hx,PV.rK,h1,h2,bI]
 rw [if_pos p1,if_pos (by omega)]
 simp only
 rw [if_pos (by omega)]
section
variable {α : Type} (E : cS α) {xs ys : List α}
theorem Z_{lo hi:Option Operand}{a c:Int}(hx:ρ x= .d (.sl xs.length (E.cells xs)))(hk:E.k=k)(h1:jW ρ 0 lo=bI a)(h2:jW ρ xs.length hi=bI c)(h:qL xs a c=some ys):az γ H d ρ (.wq e k x lo hi)=some (.d (.sl ys.length (E.cells ys)),[]):=by
 obtain ⟨p1,p2,p3,rfl⟩:=FN h
 subst hk
 simp only [az,hx,h1,h2,bI]
 rw [if_pos p1,if_pos (by omega)]
 simp only
 rw [if_pos (by omega),E.kK,E.kJ]
 simp;omega
end
theorem DG{lo hi:Option Operand}{a c:Int}{cs:List PD}{l' n':Nat}(hx:ρ x= .r (.aL b g l n))(hl:look H b g=some (.own e k cs))(h1:jW ρ 0 lo=bI a)(h2:jW ρ n hi=bI c)(h:bU (decide (0≤a)&&decide (a≤c)&&decide (c≤(n:Int)))=some ())(hl':l+a.toNat=l')(hn':c.toNat-a.toNat=n'):az γ H d ρ (.wq e k x lo hi)=some (.r (.aL b g l' n'),[]):=by
 have h:=gZ h
 simp only [Bool.and_eq_true,decide_eq_true_eq] at h
 simp only [az,hx,h1,h2,bI,hl]
 rw [if_pos h.1.1,if_pos (by omega)]
 simp only
 rw [if_pos (by omega),if_pos trivial,hl',hn']
def cS.jX{α:Type}(E:cS α)(n:Nat)(f:Nat→α):List PD:=E.cells ((List.range n).map f)
theorem cS.NQ{α:Type}(E:cS α)(n:Nat)(f:Nat→α):(E.jX n f).length=n*E.k:=by
 unfold cS.jX
 rw [E.dH,List.length_map,List.length_range]
theorem aaa{γ:dZ}{H:Nat→cw}{d:Nat}{ρ:Operand→PV}{x i:Operand}{kk:IntKind}{j:Int}{nn k m:Nat}{cs:List PD}(hx:ρ x= .cD cs)(hi:ρ i= .d (.int kk j))(h:jO j nn=some m):az γ H d ρ (.tA nn k x i)=some (.cD (cs.drop (m*k)),[]):=by
 obtain ⟨h1,h2,h3⟩:=uQ h
 simp only [az,hx,hi,PV.int?]
 rw [if_pos ⟨h1,h2⟩,h3]
theorem NR{α:Type}(E:cS α){γ:dZ}{H:Nat→cw}{d:Nat}{ρ:Operand→PV}{x:Operand}{f:Nat→α}{nn m:Nat}{post:List PD}{q:PD}(hx:ρ x= .cD ((E.jX nn f++post).drop (m*E.k)))(hm:m<nn)(hq:oh false (E.enc (f m)) 0 1=some (.d q))(hk:Nat.ble 1 E.k=true):az γ H d ρ (.load false 1 x)=some (.d q,[]):=by
 have hk:=Nat.le_of_ble_eq_true hk
 have e:=JM E false (pre:= []) (post:=post.map .d) (f:=f) (o:=m*E.k) (n:=1) (fo:=0) (m:=m) (nn:=nn) (by simp) hm (by omega) (by omega)
 rw [List.nil_append,hq] at e
 have e2:E.row nn f++post.map PV.d=(E.jX nn f++post).map PV.d:=by unfold cS.row cS.jX;rw [List.map_append]
 rw [e2] at e
 simp only [part,Bool.false_eq_true,if_false,List.getElem?_map] at e
 simp only [az,hx,oh,Bool.false_eq_true,if_false,List.getElem?_drop,Nat.add_zero]
 rw [e]
theorem JN{α:Type}(E:cS α)(z:α): ∀n:Nat,E.cells (List.replicate n z)=(List.replicate n (E.enc z)).flatten
 | 0=>rfl
 | n+1=>by
  rw [List.replicate_succ,List.replicate_succ,List.flatten_cons]
  show E.enc z++E.cells (List.replicate n z)=_
  rw [JN E z n]
def mR{α:Type}(xs:List α)(l n:Nat)(ys:List α):List α:=xs.take l++ys.take (min ys.length n)++xs.drop (l+min ys.length n)
theorem Aw{α:Type}{xs ys:List α}{l n:Nat}(h:l+n≤xs.length):(mR xs l n ys).length=xs.length:=by
 unfold mR
 simp;omega
theorem Ii{α:Type}(E:cS α){xs ys:List α}(hx:ρ x= .r (.aL b g l n))(hl:look H b g=some (.own e k (E.cells xs)))(hk:E.k=k)(hy:fP H (ρ y)=some (ys.length,E.cells ys))(h:bU (decide (l+n≤xs.length))=some ()):
  az γ H d ρ (.Di k x y)=some (.d (.int .i64 ((min ys.length n:Nat):Int)),[(b,⟨g,some (.own e k (E.cells (mR xs l n ys)))⟩)]):=by
 have h:=of_decide_eq_true (gZ h)
 subst hk
 simp only [az,hx,hy,hl]
 rw [if_pos ⟨trivial,E.dH ys⟩]
 have e1:cg (E.cells xs) (l*E.k) ((E.cells ys).take (min ys.length n*E.k))=E.cells (mR xs l n ys):=by
  unfold cg mR
  rw [E.ow,E.ow,E.kK,E.kK,E.dH,List.length_take,←Nat.add_mul,E.kJ,show min (min ys.length n) ys.length=min ys.length n by omega]
 rw [e1]
def mk?{α:Type}(bytes:Nat)(a c:Int)(z:α):Option (List α):=if 0≤a∧a≤c∧c.toNat*bytes≤140737488355328 then some (List.replicate a.toNat z) else none
theorem atl{α:Type}(E:cS α){z0:α}{zz:List (Nat×Value)}{bytes:Nat}{a c:Int}{kl kc:IntKind}{ys:List α}{cp:Operand}(hz:qI (jm zz)=some (E.enc z0))(hx:ρ x= .d (.int kl a))(hc:ρ cp= .d (.int kc c))(hk:E.k=k)(h:mk? bytes a c z0=some ys):
  az γ H d ρ (.Pn e k bytes zz x cp)=some (.r (.aL (aZ d 0) ((H (aZ d 0)).g+1) 0 ys.length),[nw H (aZ d 0) (.own e k (E.cells ys))]):=by
 unfold mk? at h
 split at h
 ·rename_i hh
  cases h
  simp only [az,hx,hc,PV.int?,hz]
  rw [if_pos hh,JN,List.length_replicate]
 ·cases h
def JO{α:Type}(xs:List α)(a c:Int):Option (List α):=if a<c then qL xs a c else none
theorem atm{α:Type}(E:cS α){xs ys:List α}{lo hi:Option Operand}{a c:Int}{e':Nat}(hx:ρ x= .r (.aL b g 0 n))(hn:xs.length=n)(hl:look H b g=some (.own e' k (E.cells xs)))(hk:E.k=k)(h1:jW ρ 0 lo=bI a)(h2:jW ρ n hi=bI c)(h:JO xs a c=some ys):
  az γ H d ρ (.I3 e k x lo hi)=some (.r (.aL b (g+1) 0 ys.length),[(b,⟨g+1,some (.own e' k (E.cells ys))⟩)]):=by
 unfold JO at h
 split at h
 ·rename_i hac
  obtain ⟨q1,q2,q3,q4⟩:=FN h
  subst hn hk
  have hlen:ys.length=c.toNat-a.toNat:=by rw [q4,List.length_drop,List.length_take];omega
  have hcs:((E.cells xs).take (c.toNat*E.k)).drop (a.toNat*E.k)=E.cells ys:=by rw [q4,E.kK,E.kJ]
  have b1:bI a=some a.toNat:=by unfold bI;rw [if_pos q1]
  have b2:bI c=some c.toNat:=by unfold bI;rw [if_pos (by omega)]
  simp only [az,hx,h1,h2,b1,b2,hl]
  rw [if_pos ⟨by omega,by omega,.inr (by omega)⟩,if_pos trivial,hcs,hlen]
 ·cases h
theorem DI{s:List UInt8}{n:Nat}(hx:fP H (ρ x)=some (n,cH.cells s))(hn:s.length=n):az γ H d ρ (.tI x)=some (.d (.str s),[]):=by
 have key: ∀s:List UInt8,az.I5 (cH.cells s)=some s:=by
  intro s
  induction s with
  | nil=>rfl
  | cons a s ih=>
   have h1:(0:Int)≤(a.toNat:Int)∧(a.toNat:Int)<256:=by have:=a.toNat_lt;omega
   show az.I5 (PD.int .u8 (a.toNat:Int)::cH.cells s)=_
   simp only [az.I5]
   rw [if_pos h1,ih]
   simp
 subst hn
 simp only [az,hx,key]
 rw [if_pos trivial]
theorem afv{a c s:List UInt8}(h:ep a c=some s):((a.length+c.length:Nat):Int)≤IntKind.i64.max∧s=a++c:=by
 unfold ep at h
 split at h
 ·cases h;exact ⟨‹_›,rfl⟩
 ·cases h
theorem gP{a c s:List UInt8}(hx:ρ x= .d (.str a))(hy:ρ y= .d (.str c))(h:ep a c=some s):az γ H d ρ (.jJ .add x y)=some (.d (.str s),[]):=by
 obtain ⟨h1,rfl⟩:=afv h
 simp only [az,hx,hy,PV.rK]
 rw [if_pos h1]
-- calls
theorem aV{k n d:Nat}(h:n≤d)(e:Nat.ble (k+1) n=true):k≤d-1:=by have:=Nat.le_of_ble_eq_true e;omega
theorem SU{f:Nat}{xs:List Operand}{args l:List PV}{r v:PV}{aD:eu}(ha:xs.map ρ=args)(hl:gX H args=some l)(hc:γ f l []=some (r,[]))
  (hf:((bB args).isEmpty || fT r)=true) (hr:(distinct ((owns r).map (·.1))&&(owns r).all (fun x=>decide (x.1<8)))=true) (hv:(Bk H d r,(owns r).map fun x=>nw H (aZ d x.1) x.2)=(v,aD)):
  az γ H d ρ (.call f xs)=some (v,aD):=by
 simp only [az,ha,jx,hl,Nj,hc]
 rw [if_pos (by rw [Bool.and_assoc,hf,hr];rfl),hv]
theorem ja{f:Nat}{xs:List Operand}{args args' l:List PV}{refs:List Nat}{r v:PV}{aD od:eu}(ha:xs.map ρ=args)(hr:bB args=refs)(hall:(refs.all fun i=>Nat.ble 8 i&&(List.range 8).all fun j=> !Nat.beq i (aZ d j))=true)
  (hz:jV (kE refs) H args=args') (hl:gX (yA H (iq H refs)) args'=some l) (hc:γ f l []=some (r,[])) (he:(bB args').isEmpty=true) (hd:(distinct ((owns r).map (·.1))&&(owns r).all (fun x=>decide (x.1<8)))=true)
  (hv:(Bk (yA H (iq H refs)) d r,(owns r).map fun x=>nw (yA H (iq H refs)) (aZ d x.1) x.2)=(v,od)) (hu:iq H refs++od=aD):
  az γ H d ρ (.jn f xs)=some (v,aD):=by
 simp only [az,uF,ha,hr,hall,hz,jx,hl,Nj,hc]
 rw [if_pos trivial,if_pos (by rw [Bool.and_assoc,he,hd];rfl)]
 have e1:=congrArg Prod.fst hv
 have e2:=congrArg Prod.snd hv
 simp only at e1 e2
 rw [e1,e2]
 simp only
 rw [hu]
theorem mj{D:Nat→Bool}:jV D H []= []:=rfl
theorem gR{D:Nat→Bool}{p q:PV}{ps qs:List PV}(h1:mP D H p=q)(h2:jV D H ps=qs):jV D H (p::ps)=q::qs:=by simp only [jV,h1,h2]
theorem ox{f:Nat}{cs:List PV}{xs:List Operand}{args l:List PV}{r v:PV}{aD:eu}(hx:ρ x= .fn f cs)(ha:xs.map ρ++cs=args)(hl:gX H args=some l)(hc:γ f l []=some (r,[]))
  (hf:((bB args).isEmpty || fT r)=true) (hr:(distinct ((owns r).map (·.1))&&(owns r).all (fun x=>decide (x.1<8)))=true) (hv:(Bk H d r,(owns r).map fun x=>nw H (aZ d x.1) x.2)=(v,aD)):
  az γ H d ρ (.lM x xs)=some (v,aD):=by
 simp only [az,hx,ha,jx,hl,Nj,hc]
 rw [if_pos (by rw [Bool.and_assoc,hf,hr];rfl),hv]
theorem afw{f:Nat}{xs:List Operand}{args l:List PV}{ids:List Nat}{bs bt bL:List bM}{r v:PV}{aD:eu}(ha:(xs.map ρ).map qQ=args)(hi:fQ H args=ids)(hb:gN H ids=some bs)(hl:yh ids H args=l)(ht:bs.map (om ids H)=bt)(hc:γ f l bt=some (r,bL))
  (hr:(decide (bL.length=ids.length)&&decide (ids.length≤8)&&distinct ((cE r bL).map (·.1))&&(cE r bL).all (fun x=>decide (x.1<8)&& !ids.any (Nat.beq (aZ d x.1))))=true)
  (hv:(rM false ids H d r,kn false H ids d ids bL++(cE r bL).map fun x=>nw H (aZ d x.1) x.2)=(v,aD)):
  az γ H d ρ (.fU f xs)=some (v,aD):=by
 have hlen:bL.length=ids.length:=by simp only [Bool.and_eq_true,decide_eq_true_eq] at hr;exact hr.1.1.1
 have yE:xW ids bL=false:=by
  unfold xW
  rw [hlen]
  cases h:Nat.beq ids.length (ids.length+1) with
  | false=>rfl
  | true=>have:=Nat.eq_of_beq_eq_true h;omega
 have kZ:Ma H ids bL=decide (bL.length=ids.length):=by unfold Ma;rw [yE,if_neg (by simp)]
 simp only [az,ha,nB,hi,hb,hl,ht,hc,yE,kZ]
 rw [if_pos hr,hv]
theorem Wy{f:Nat}{xs:List Operand}{args l:List PV}{ids:List Nat}{bs bt bL:List bM}{r v:PV}{aD:eu}(ha:(xs.map ρ).map qQ=args)(hi:fQ H args=ids)(hb:gN H ids=some bs)(hl:yh ids H args=l)(ht:bs.map (om ids H)=bt)(hc:γ f l bt=some (r,bL))
  (yE:xW ids bL=true) (hs:iz H ids bL=true)
  (hr:(decide (ids.length≤8)&&distinct ((cE r bL).map (·.1))&&(cE r bL).all (fun x=>decide (x.1<8)&& !ids.any (Nat.beq (aZ d x.1))))=true)
  (hv:(rM true ids H d r,kn true H ids d ids bL++(cE r bL).map fun x=>nw H (aZ d x.1) x.2)=(v,aD)):
  az γ H d ρ (.fU f xs)=some (v,aD):=by
 have kZ:Ma H ids bL=true:=by unfold Ma;rw [if_pos yE,hs]
 simp only [az,ha,nB,hi,hb,hl,ht,hc,yE,kZ,Bool.true_and]
 rw [if_pos hr,hv]
theorem NS{f:Nat}{xs:List Operand}{l:List PV}{r:PV}(hl:gX H (xs.map ρ)=some l)(hc:γ f l []=some (r,[]))(hf:((bB (xs.map ρ)).isEmpty || fT r)=true)(hr:(distinct ((owns r).map (·.1))&&(owns r).all (fun x=>decide (x.1<8)))=true):
  az γ H d ρ (.call f xs)=some (Bk H d r,(owns r).map fun x=>nw H (aZ d x.1) x.2):=SU rfl hl hc hf hr rfl
theorem iK{f:Nat}{xs:List Operand}{args l:List PV}{r:PV}(ha:xs.map ρ=args)(hl:gX H args=some l)(hc:γ f l []=some (r,[]))(hf:((bB args).isEmpty || fT r)=true)(hr:(distinct ((owns r).map (·.1))&&(owns r).all (fun x=>decide (x.1<8)))=true):
  az γ H d ρ (.call f xs)=some (Bk H d r,(owns r).map fun x=>nw H (aZ d x.1) x.2):=SU ha hl hc hf hr rfl
theorem JP{f:Nat}{xs:List Operand}{l:List PV}{ids:List Nat}{bt bL:List bM}{r:PV}(hi:fQ H ((xs.map ρ).map qQ)=ids)(hb:(gN H ids).map (List.map (om ids H))=some bt)(hl:yh ids H ((xs.map ρ).map qQ)=l)(hc:γ f l bt=some (r,bL))
  (hr:(decide (bL.length=ids.length)&&decide (ids.length≤8)&&distinct ((cE r bL).map (·.1))&&(cE r bL).all (fun x=>decide (x.1<8)&& !ids.any (Nat.beq (aZ d x.1))))=true):
  az γ H d ρ (.fU f xs)=some (rM false ids H d r,kn false H ids d ids bL++(cE r bL).map fun x=>nw H (aZ d x.1) x.2):=by
 cases nE:gN H ids with
 | none=>rw [nE] at hb;cases hb
 | some bs=>
  rw [nE] at hb
  exact afw rfl hi nE hl (Option.some.inj hb) hc hr rfl
theorem GF{f:Nat}{xs:List Operand}{l:List PV}{ids:List Nat}{bs bt bL:List bM}{r:PV}(hi:fQ H ((xs.map ρ).map qQ)=ids)(hb:gN H ids=some bs)(hl:yh ids H ((xs.map ρ).map qQ)=l)(ht:bs.map (om ids H)=bt)(hc:γ f l bt=some (r,bL))
  (yE:xW ids bL=true) (hs:iz H ids bL=true)
  (hr:(decide (ids.length≤8)&&distinct ((cE r bL).map (·.1))&&(cE r bL).all (fun x=>decide (x.1<8)&& !ids.any (Nat.beq (aZ d x.1))))=true):
  az γ H d ρ (.fU f xs)=some (rM true ids H d r,kn true H ids d ids bL++(cE r bL).map fun x=>nw H (aZ d x.1) x.2):=Wy rfl hi hb hl ht hc yE hs hr rfl
theorem qU{bL:List bM}:iz H [] bL=true:=rfl
theorem aab{i:Nat}{is:List Nat}{cs cs':List PV}{bL:List bM}(hb:(H i).b=some (.box cs))(h:iz H is bL=true):iz H (i::is) (.box cs'::bL)=true:=by
 simp only [iz,hb,h];rfl
theorem tL{α:Type}(E:cS α){i:Nat}{is:List Nat}{e1 k1 e2 k2:Nat}{xs ys:List α}{bL:List bM}(hb:(H i).b=some (.own e1 k1 (E.cells xs)))(hl:bU (decide (ys.length=xs.length))=some ())(h:iz H is bL=true):iz H (i::is) (.own e2 k2 (E.cells ys)::bL)=true:=by
 have hl:=of_decide_eq_true (gZ hl)
 simp only [iz,hb,h,E.dH,hl,decide_true,Bool.and_self]
theorem GG{α:Type}(E:cS α)(hE: ∀x,(E.enc x).all (fun | .sl _ ds=>ds.isEmpty | _=>true)=true): ∀xs:List α,(E.cells xs).all (fun | .sl _ ds=>ds.isEmpty | _=>true)=true
 | []=>rfl
 | x::xs=>by simp only [cS.cells,List.all_append,hE x,GG E hE xs,Bool.and_self]
theorem oy{α:Type}(E:cS α)(hE: ∀x,(E.enc x).all (fun | .sl _ ds=>ds.isEmpty | _=>true)=true)(j e' k' n':Nat)(xs:List α):fT (.r (.own j e' k' n' (E.cells xs)))=true:=by
 unfold fT
 exact GG E hE xs
theorem oz(cs:List PV):fT (.bH cs)=nA cs:=rfl
theorem oA(cs:List PV):fT (.agg cs)=nA cs:=rfl
theorem rX:nA []=true:=rfl
theorem rY(p:PV)(ps:List PV):nA (p::ps)=(fT p&&nA ps):=rfl
theorem oB(k':IntKind)(n':Int):fT (.d (.int k' n'))=true:=rfl
theorem mE(b':Bool):fT (.d (.bool b'))=true:=rfl
theorem oC(s:List UInt8):fT (.d (.str s))=true:=rfl
theorem rZ:fT .un=true:=rfl
theorem r_:fT .nil=true:=rfl
theorem si(n':Nat):fT (.d (.sl n' []))=true:=rfl
-- bytes
theorem ajZ(a:UInt8):0≤(a.toNat:Int)∧(a.toNat:Int)<256:=by have:=a.toNat_lt;omega
theorem u8w(n:Int):IntKind.u8.wrap n=n%256:=by
 simp [IntKind.wrap,IntKind.signed,IntKind.bits]
def u8(n:Int):UInt8:=UInt8.ofNat (n%256).toNat
theorem aj0(n:Int):((u8 n).toNat:Int)=n%256:=by
 unfold u8
 have:(n%256).toNat<256:=by omega
 have e:(UInt8.ofNat (n%256).toNat).toNat=(n%256).toNat:=by simp;omega
 rw [e];omega
theorem iu(n:Int):IntKind.u8.wrap n=((u8 n).toNat:Int):=by rw [u8w,aj0]
theorem jf{op:BinOp}{a c r:Int}(hx:ρ x= .d (.int kk a))(hy:ρ y= .d (.int kk c))(h:arith op kk a c=some r):az γ H d ρ (.rL op x y)=some (.d (.int kk r),[]):=by
 simp only [az,hx,hy,PV.int?,h]
 rw [if_pos trivial]
theorem PZ{op:BinOp}{a c r:Int}{k2:IntKind}(hx:ρ x= .d (.int kk a))(hy:ρ y= .d (.int k2 c))(h:RU op kk a c=some r):az γ H d ρ (.sh op x y)=some (.d (.int kk r),[]):=by
 simp only [az,hx,hy,PV.int?,h]
theorem SV(a c:UInt8):arith .sub .u8 a.toNat c.toNat=some ((a-c).toNat:Int):=by
 simp only [arith,u8w,UInt8.toNat_sub]
 have:=a.toNat_lt;have:=c.toNat_lt
 congr 1;omega
theorem bv8(a:UInt8):BitVec.ofInt 8 (a.toNat:Int)=a.toBitVec:=by
 apply BitVec.eq_of_toNat_eq
 have:=a.toNat_lt
 simp
theorem uS(a c:UInt8):arith .and .u8 a.toNat c.toNat=some ((a&&&c).toNat:Int):=by
 simp only [arith,cQ,u8w];congr 1
 rw [show BitVec.ofInt IntKind.u8.bits (a.toNat:Int)=a.toBitVec from bv8 a,show BitVec.ofInt IntKind.u8.bits (c.toNat:Int)=c.toBitVec from bv8 c]
 have:=(a&&&c).toNat_lt
 show ((a&&&c).toNat:Int)%256=_
 omega
theorem qV(a c:UInt8):arith .or .u8 a.toNat c.toNat=some ((a ||| c).toNat:Int):=by
 simp only [arith,cQ,u8w];congr 1
 rw [show BitVec.ofInt IntKind.u8.bits (a.toNat:Int)=a.toBitVec from bv8 a,show BitVec.ofInt IntKind.u8.bits (c.toNat:Int)=c.toBitVec from bv8 c]
 have:=(a ||| c).toNat_lt
 show ((a ||| c).toNat:Int)%256=_
 omega
theorem gJ{k2:IntKind}{a r:Int}(hx:ρ x= .d (.int kk a))(h:k2.wrap a=r):az γ H d ρ (.kF k2 x)=some (.d (.int k2 r),[]):=by
 simp only [az,hx,PV.int?,h]
theorem qW(a:UInt8):IntKind.i64.wrap (a.toNat:Int)=a.toNat:=IntWalk.i64_in _ (by have:=a.toNat_lt;omega)
theorem aac(a:UInt8):IntKind.i32.wrap (a.toNat:Int)=a.toNat:=by
 have:=a.toNat_lt
 simp [IntKind.wrap,IntKind.signed,IntKind.bits];omega
theorem aad{c:Int}(h:bU (decide (0≤c))=some ()):0≤c:=of_decide_eq_true (gZ h)
theorem aj1{k:IntKind}{a c:Int}(h:bU (decide (0≤c))=some ()):RU .shl k a c=some (k.wrap (a*2^(min c.toNat k.bits))):=by simp only [RU];rw [if_pos (aad h)]
theorem aC3{k:IntKind}{a c:Int}(h:bU (decide (0≤c))=some ()):RU .shr k a c=some (a.fdiv (2^(min c.toNat k.bits))):=by simp only [RU];rw [if_pos (aad h)]
def qA{α:Type}(xs:List α)(l n:Nat):Option (List α):=if l+n≤xs.length then some ((xs.drop l).take n) else none
theorem JQ{α:Type}{xs ys:List α}{l n:Nat}(h:qA xs l n=some ys):l+n≤xs.length∧ys=(xs.drop l).take n∧ys.length=n:=by
 unfold qA at h
 split at h
 ·cases h;exact ⟨‹_›,rfl,by simp;omega⟩
 ·cases h
theorem aj2{α:Type}(E:cS α){xs ys:List α}(hl:look H b g=some (.own e k (E.cells xs)))(hk:E.k=k)(h:qA xs l n=some ys):fP H (.r (.aL b g l n))=some (ys.length,E.cells ys):=by
 obtain ⟨h1,h2,h3⟩:=JQ h
 subst hk
 simp only [fP,hl]
 rw [E.kJ,E.kK,←h2,h3]
theorem P1{α:Type}(E:cS α){xs ys:List α}(hl:look H b g=some (.own e k (E.cells xs)))(hk:E.k=k)(h:qA xs l n=some ys):gH H (.r (.aL b g l n))=some (.d (.sl ys.length (E.cells ys))):=by
 obtain ⟨h1,h2,h3⟩:=JQ h
 subst hk
 simp only [gH,hl]
 rw [E.kJ,E.kK,←h2,h3]
-- aB0 of values that hold arrays
def CL{α:Type} [DecidableEq α](n:Nat)(f g:Nat→α):Bool:=(List.range n).all fun i=>decide (f i=g i)
theorem eq_nil:Cw [] [] []=some true:=rfl
theorem SX{ks:List LK}{xs ys:List PV}{b':Bool}(h:Cw ks xs ys=some b'): ∀(l:List (PD×PD×Bool)),(∀x∈l,eqC .int (.d x.1) (.d x.2.1)=some x.2.2)→Cw (List.replicate l.length .int++ks) (l.map (fun x=>PV.d x.1)++xs) (l.map (fun x=>PV.d x.2.1)++ys)=some (l.all (·.2.2)&&b')
 | [],_=>by simpa using h
 | x::l,hx=>by
  have:=SX h l (fun y hy=>hx y (by simp [hy]))
  simp only [List.length_cons,List.replicate_succ,List.cons_append,List.map_cons,Cw,hx x (by simp),this,List.all_cons,Bool.and_assoc]
theorem JR{α:Type}(E:cS α)(c:α→PD)(hE: ∀x,E.enc x= [c x]): ∀l:List α,E.cells l=l.map c
 | []=>rfl
 | x::l=>by simp [cS.cells,hE,JR E c hE l]
theorem aj3{k':IntKind}{n:Nat}{f g:Nat→Int}{ks:List LK}{xs ys:List PV}{b':Bool}(h:Cw ks xs ys=some b'):Cw (List.replicate n .int++ks) ((cu k').row n f++xs) ((cu k').row n g++ys)=some (CL n f g&&b'):=by
 have:=SX h ((List.range n).map fun i=>(PD.int k' (f i),PD.int k' (g i),decide (f i=g i))) (by
  intro x hx
  obtain ⟨i,_,rfl⟩:=List.mem_map.1 hx
  simp only [eqC,if_true])
 simp only [List.length_map,List.length_range,List.map_map] at this
 unfold cS.row CL
 rw [JR (cu k') (fun x=> .int k' x) (fun _=>rfl),JR (cu k') (fun x=> .int k' x) (fun _=>rfl),List.map_map,List.map_map,List.map_map,List.map_map]
 rw [List.all_map] at this
 exact this
theorem atp{neg:Bool}{kr:List (Nat×LK)}{ks:List LK}{va vb:List PV}{c:Bool}(hx:ρ x= .agg va)(hy:ρ y= .agg vb)(hk:wm kr=ks)(h:Cw ks va vb=some c):az γ H d ρ (.L9 neg kr x y)=some (.d (.bool (if neg then !c else c)),[]):=by
 simp only [az,hx,hy,hk,h]
-- what is handed out, what is aGz
section
variable {α : Type} (E : cS α) {xs : List α} {m : Nat} {ids ids' P2 : List Nat}
theorem cS.P3(xs:List α):((E.cells xs).drop (0*E.k)).take (xs.length*E.k)=E.cells xs:=by
 rw [Nat.zero_mul,List.drop_zero,List.take_of_length_le (by rw [E.dH];exact Nat.le_refl _)]
theorem g_{n:Nat}(hl:look H b g=some (.own e k (E.cells xs)))(hk:E.k=k)(hn:xs.length=n)(hm:Nat.blt b m=false)(hi:ids.any (Nat.beq b)=false):kI H m (.r (.aL b g 0 n)) ids=some (.r (.own ids.length e k n (E.cells xs)),ids++ [b]):=by
 subst hk hn
 simp only [kI,hl]
 rw [if_neg (by intro h;have:=Nat.ble_eq_true_of_le h;simp only [Nat.blt] at hm;rw [this] at hm;cases hm),if_pos ⟨trivial,E.dH xs,hi⟩]
theorem nH:lZ H m [] ids=some ([],ids):=rfl
theorem aO{p q:PV}{ps qs:List PV}(h1:kI H m p ids=some (q,ids'))(h2:lZ H m ps ids'=some (qs,P2)):lZ H m (p::ps) ids=some (q::qs,P2):=by simp only [lZ,h1,h2]
theorem CN{ps qs:List PV}(h:lZ H m ps ids=some (qs,ids')):kI H m (.agg ps) ids=some (.agg qs,ids'):=by simp only [kI,h]
theorem CO{ps qs:List PV}(h:lZ H m ps ids=some (qs,ids')):kI H m (.bH ps) ids=some (.bH qs,ids'):=by simp only [kI,h]
theorem P4{ps qs FC qs':List PV}(h1:lZ H m ps ids=some (qs,ids'))(h2:lZ H m FC ids'=some (qs',P2)):lZ H m (ps++FC) ids=some (qs++qs',P2):=by
 induction ps generalizing ids qs with
 | nil=>cases h1;exact h2
 | cons p ps ih=>
  simp only [lZ] at h1
  split at h1
  ·rename_i x i hx
   split at h1
   ·rename_i l j hl
    cases h1
    have:=ih hl
    simp only [List.cons_append,lZ,hx,this]
   ·cases h1
  ·cases h1
theorem P5{n:Nat}{f:Nat→α}:lZ H m (E.row n f) ids=some (E.row n f,ids):=Z5 _ _ fun p hp=>by
 simp only [cS.row,List.mem_map] at hp
 obtain ⟨x,_,rfl⟩:=hp;exact ⟨x,rfl⟩
theorem iP{st:St}{rs:List PR}{bs:List bM}{l:List PV}{x:PV}(h1:wH st.h m (List.range m) []=some (bs,ids))(h2:GC st rs=some l)(h3:kI st.h m (ZZ l) ids=some (x,ids')):cN st m rs=some (x,bs):=by
 simp only [cN,h1,h2,h3]
theorem jy{p q:PV}{ps qs:List PV}(h1:gH H p=some q)(h2:gX H ps=some qs):gX H (p::ps)=some (q::qs):=by simp only [gX,h1,h2]
theorem mF:gX H []=some []:=rfl
theorem aj4{ps qs:List PV}(h:gX H ps=some qs):gH H (.agg ps)=some (.agg qs):=by simp only [gH,h];rfl
theorem uB{n:Nat}(hl:look H b g=some (.own e k (E.cells xs)))(hk:E.k=k)(hn:xs.length=n):gH H (.r (.aL b g 0 n))=some (.d (.sl n (E.cells xs))):=by
 subst hk hn
 simp only [gH,hl]
 rw [Nat.zero_mul,List.drop_zero,List.take_of_length_le (by rw [E.dH];exact Nat.le_refl _)]
end
end
theorem tD{α β γ:Type}(f:α→γ)(g:β→γ)(a:α):Sum.elim f g (Sum.inl a)=f a:=by
 have h: ∀s:α⊕β,s= .inl a→Sum.elim f g s=f a:=fun s hs=>by cases hs;simp
 exact h _ (by simp)
theorem tE{α β γ:Type}(f:α→γ)(g:β→γ)(b:β):Sum.elim f g (Sum.inr b)=g b:=by
 have h: ∀s:α⊕β,s= .inr b→Sum.elim f g s=g b:=fun s hs=>by cases hs;simp
 exact h _ (by simp)
end Go.Proofs.YtimbfadnabfabaaGreatDoor.Pm
