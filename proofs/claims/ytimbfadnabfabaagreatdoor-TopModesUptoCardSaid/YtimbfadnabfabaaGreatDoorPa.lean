/- The small machine: what an operation does to typed data. No program is named here. -/
import Derived.Test.YtimbfadnabfabaaGreatDoorPd
namespace Go.Proofs.YtimbfadnabfabaaGreatDoor.Pm
set_option linter.unusedVariables false
section
variable {γ : ek} {H : Nat → cq} {d : Nat} {ρ : Operand → PV} {x y i : Operand} {kk : IntKind} {j : Int} {b g l n e k : Nat}
theorem M0{α:Type}{xs:List α}{j:Int}{y:α}(h:idx xs j=some y):0≤j∧xs[j.toNat]?=some y∧j<xs.length:=by
 unfold idx at h
 split at h
 ·refine ⟨‹_›,h,?_⟩
  have:=(List.getElem?_eq_some_iff.1 h).1
  omega
 ·cases h
theorem tY{j:Int}{n m:Nat}(h:jG j n=some m):0≤j∧j<n∧j.toNat=m:=by
 unfold jG at h
 split at h
 ·rename_i hc;cases h;exact ⟨hc.1,hc.2,rfl⟩
 ·cases h
theorem E0{α:Type}{xs ys:List α}{lo hi:Int}(h:pW xs lo hi=some ys):0≤lo∧lo≤hi∧hi≤xs.length∧ys=(xs.take hi.toNat).drop lo.toNat:=by
 unfold pW at h
 split at h
 ·rename_i hc;cases h;exact ⟨hc.1,hc.2.1,hc.2.2,rfl⟩
 ·cases h
theorem fq{s:List UInt8}{y:UInt8}(hx:ρ x= .d (.str s))(hi:ρ i= .d (.int kk j))(h:idx s j=some y):az γ H d ρ (.iw x i)=some (.d (.int .u8 (y.toNat:Int)),[]):=by
 obtain ⟨h1,h2,h3⟩:=M0 h
 simp only [az,hx,hi,PV.qJ,PV.int?]
 rw [if_pos ⟨h1,h3⟩]
 simp [List.getD_eq_getElem?_getD,h2]
section
variable {α : Type} (E : cT α) {xs ys : List α} {z : α}
theorem fQ(hx:ρ x= .d (.sl xs.length (E.cells xs)))(hi:ρ i= .d (.int kk j))(h:idx xs j=some z)(hk:E.k=k)(hz:E.enc z≠ []):az γ H d ρ (.jz e k x i)=some (.cD (E.enc z++E.cells (xs.drop (j.toNat+1))),[]):=by
 obtain ⟨h1,h2,h3⟩:=M0 h
 have hne:E.cells xs≠ []:=by
  rw [E.lX h2];intro hc
  have:=(List.append_eq_nil_iff.1 (List.append_eq_nil_iff.1 hc).2).1
  exact hz this
 subst hk
 simp only [az,hx,hi,PV.int?]
 rw [if_pos ⟨h1,h3,hne⟩,E.kC]
 obtain ⟨hl,rfl⟩:=List.getElem?_eq_some_iff.1 h2
 rw [List.drop_eq_getElem_cons hl];rfl
theorem za{cs:List PD}{m:Nat}(hx:ρ x= .r (.aJ b g l n))(hl:look H b g=some (.own e k cs))(hi:ρ i= .d (.int kk j))(h:jG j n=some m):az γ H d ρ (.jz e k x i)=some (.r (.ptr b g ((l+m)*k)),[]):=by
 obtain ⟨h1,h2,h3⟩:=tY h
 simp only [az,hx,hi,PV.int?,hl]
 simp [h1,h2,h3]
theorem adP(agg:Bool)(a bs cs:List PD)(o n:Nat)(h:o+n≤bs.length)(h1:0<n):nP agg (a++(bs++cs)) (a.length+o) n=nP agg bs o n:=by
 unfold nP
 cases agg with
 | true=>
  simp only [if_true,List.length_append]
  rw [if_pos (by omega),if_pos h,List.drop_append]
  simp only [Nat.add_sub_cancel_left]
  rw [List.drop_of_length_le (by omega),List.nil_append,List.drop_append,List.take_append]
  simp only [List.length_drop]
  rw [show n-(bs.length-o)=0 by omega]
  simp
 | false=>
  simp only [Bool.false_eq_true,if_false]
  rw [List.getElem?_append_right (by omega),Nat.add_sub_cancel_left,List.getElem?_append_left (by omega)]
theorem E1{agg:Bool}{m fo o n:Nat}{p:PV}(hx:ρ x= .r (.ptr b g o))(hl:look H b g=some (.own e k (E.cells xs)))(ho:o=m*E.k+fo)(h:xs[m]?=some z)(hp:nP agg (E.enc z) fo n=some p)(hn:Nat.ble (fo+n) E.k=true)(CJ:Nat.ble 1 n=true):az γ H d ρ (.load agg n x)=some (p,[]):=by
 have hn:=Nat.le_of_ble_eq_true hn
 have CJ:=Nat.le_of_ble_eq_true CJ
 have Sh:(E.cells (xs.take m)).length=m*E.k:=by
  rw [E.dF,List.length_take]
  have:=(List.getElem?_eq_some_iff.1 h).1
  rw [Nat.min_eq_left (by omega)]
 simp only [az,hx,hl]
 rw [E.lX h,ho,←Sh,adP _ _ _ _ _ _ (by rw [E.len];exact hn) (by omega),hp]
theorem IP{β:Type}(a bs cs new:List β)(o:Nat)(h:o+new.length≤bs.length):bZ (a++(bs++cs)) (a.length+o) new=a++(bZ bs o new++cs):=by
 unfold bZ
 rw [List.take_append,List.take_of_length_le (by omega),List.drop_append,List.drop_of_length_le (by omega)]
 simp only [Nat.add_sub_cancel_left,List.nil_append,List.append_assoc]
 rw [show a.length+o+new.length-a.length=o+new.length by omega]
 rw [List.take_append_of_le_length (by omega),List.drop_append_of_le_length h]
theorem BG{m fo o n:Nat}{z':α}{new:List PV}{ds:List PD}(hx:ρ x= .r (.ptr b g o))(hy:(ρ y).cells?=some new)(hd:pT new=some ds)(hl:look H b g=some (.own e k (E.cells xs)))(ho:o=m*E.k+fo)(h:xs[m]?=some z)
  (hz:bZ (E.enc z) fo ds=E.enc z') (hn:Nat.beq ds.length n=true) (Sa:Nat.ble (fo+n) E.k=true):az γ H d ρ (.store n x y)=some (.un,[(b,⟨g,some (.own e k (E.cells (xs.set m z')))⟩)]):=by
 have hn:=Nat.eq_of_beq_eq_true hn
 have Sa:=Nat.le_of_ble_eq_true Sa
 have hlt:=(List.getElem?_eq_some_iff.1 h).1
 have Sh:(E.cells (xs.take m)).length=m*E.k:=by
  rw [E.dF,List.length_take,Nat.min_eq_left (by omega)]
 have hlen:o+n≤(E.cells xs).length:=by
  rw [E.dF,ho]
  have:(m+1)*E.k≤xs.length*E.k:=Nat.mul_le_mul_right _ (by omega)
  rw [Nat.succ_mul] at this
  omega
 simp only [az,hx,hy,hl,hd]
 rw [if_pos ⟨hn,hlen⟩]
 rw [E.IL h,E.lX h,ho,←Sh,IP _ _ _ _ _ (by rw [E.len,hn];exact Sa),hz]
theorem adQ{bb:Nat}{ws:List α}(h:eN bb xs ys=some ws):(xs.length+ys.length)*bb≤140737488355328∧ws=xs++ys:=by
 unfold eN at h
 split at h
 ·cases h;exact ⟨‹_›,rfl⟩
 ·cases h
theorem eL{bytes m:Nat}{ws:List α}(hy:fJ H (ρ y)=some (m,E.cells ys))(hm:ys.length=m)(hx:ρ x= .r (.aJ b g 0 n))(hn:xs.length=n)(hl:look H b g=some (.own e k (E.cells xs)))(hk:E.k=k)(h:eN bytes xs ys=some ws):
  az γ H d ρ (.app e k bytes x y)=some (.r (.aJ b (g+1) 0 ws.length),[(b,⟨g+1,some (.own e k (E.cells ws))⟩)]):=by
 obtain ⟨hb,rfl⟩:=adQ h
 subst hm hn hk
 simp only [az,apA hy,hx,hl]
 rw [if_pos (E.dF ys),if_pos ⟨trivial,trivial,E.dF xs,hb⟩,E.nW,List.length_append]
theorem av5(n:Nat)(cs:List PD):fJ H (.d (.sl n cs))=some (n,cs):=rfl
theorem cX{n:Nat}(hl:look H b g=some (.own e k (E.cells xs)))(hk:E.k=k)(hn:xs.length=n):fJ H (.r (.aJ b g 0 n))=some (n,E.cells xs):=by
 subst hk hn
 simp only [fJ,hl,Nat.zero_mul,List.drop_zero]
 rw [List.take_of_length_le (by rw [E.dF];exact Nat.le_refl _)]
end
def upd{α:Type}(f:Nat→α)(i:Nat)(x:α):Nat→α:=fun j=>if j=i then x else f j
theorem lO{j:Int}{n m:Nat}(h:jG j n=some m):m<n:=by
 obtain ⟨h1,h2,h3⟩:=tY h
 omega
section
variable {α : Type} (E : cT α) {f : Nat → α} {m nn fo : Nat}
theorem IQ(h:m<nn):((List.range nn).map f)[m]?=some (f m):=by simp [h]
theorem IU(agg:Bool){pre post:List PV}{o n:Nat}(ho:o=pre.length+m*E.k+fo)(hm:m<nn)(hn:fo+n≤E.k)(h0:0<n):part agg (pre++(E.row nn f++post)) o n=nP agg (E.enc (f m)) fo n:=by
 have hx:=IQ (f:=f) hm
 rw [oM]
 unfold cT.row
 rw [E.lX hx]
 simp only [List.map_append,List.append_assoc]
 have Sh:((E.cells (((List.range nn).map f).take m)).map PV.d).length=m*E.k:=by
  rw [List.length_map,E.dF,List.length_take,List.length_map,List.length_range,Nat.min_eq_left (by omega)]
 have key: ∀(a b c:List PV) (o:Nat),o=a.length+fo→fo+n≤b.length→part agg (a++(b++c)) o n=part agg b fo n:=by
  intro a b c o ho hb
  subst ho
  unfold part
  cases agg with
  | true=>
   simp only [if_true,List.length_append]
   rw [if_pos (by omega),if_pos hb,List.drop_append]
   simp only [Nat.add_sub_cancel_left]
   rw [List.drop_of_length_le (by omega),List.nil_append,List.drop_append,List.take_append]
   simp only [List.length_drop]
   rw [show n-(b.length-fo)=0 by omega]
   simp
  | false=>
   simp only [Bool.false_eq_true,if_false]
   rw [List.getElem?_append_right (by omega),Nat.add_sub_cancel_left,List.getElem?_append_left (by omega)]
 have:=key (pre++(E.cells (((List.range nn).map f).take m)).map .d) ((E.enc (f m)).map .d) ((E.cells (((List.range nn).map f).drop (m+1))).map .d++post) o (by rw [List.length_append,Sh,ho]) (by rw [List.length_map,E.len];exact hn)
 simpa only [List.append_assoc] using this
theorem zb(f:Nat→α){agg:Bool}{p:PV}(hx:ρ x= .agg (E.row nn f++ []))(hi:ρ i= .d (.int kk j))(h:jG j nn=some m)(hk:E.k=k)(hp:nP agg (E.enc (f m)) 0 k=some p)(pI:Nat.ble 1 k=true):az γ H d ρ (.GH agg nn k x i)=some (p,[]):=by
 obtain ⟨h1,h2,h3⟩:=tY h
 have pI:=Nat.le_of_ble_eq_true pI
 simp only [az,hx,hi,PV.int?]
 rw [if_pos ⟨h1,h2⟩]
 have:=IU E agg (pre:= []) (post:= []) (f:=f) (o:=j.toNat*k) (n:=k) (fo:=0) (m:=m) (nn:=nn) (by rw [h3,hk];simp) (lO h) (by omega) (by omega)
 rw [List.nil_append] at this
 rw [this,hp]
theorem oD{o:Nat}(hx:ρ x= .r (.ptr b g o))(hi:ρ i= .d (.int kk j))(h:jG j nn=some m):az γ H d ρ (.sN nn k x i)=some (.r (.ptr b g (o+m*k)),[]):=by
 obtain ⟨h1,h2,h3⟩:=tY h
 simp only [az,hx,hi,PV.int?]
 rw [if_pos ⟨h1,h2⟩,h3]
theorem aij{o:Nat}(hx:ρ x= .r (.ptr b g o))(hi:ρ i= .d (.int kk j))(h:jG j 2=some m)(hc:decide (m=0)=true):az γ H d ρ (.sN 2 k x i)=some (.r (.ptr b g o),[]):=by
 have hm:=of_decide_eq_true hc
 subst hm
 have q:=oD (γ:=γ) (H:=H) (d:=d) (k:=k) hx hi h
 rwa [Nat.zero_mul,Nat.add_zero] at q
theorem aik{o:Nat}(hx:ρ x= .r (.ptr b g o))(hi:ρ i= .d (.int kk j))(h:jG j 2=some m)(hc:decide (m=0)=false):az γ H d ρ (.sN 2 k x i)=some (.r (.ptr b g (o+k)),[]):=by
 have hm:=of_decide_eq_false hc
 have hl:=lO h
 have h1:m=1:=by omega
 subst h1
 have q:=oD (γ:=γ) (H:=H) (d:=d) (k:=k) hx hi h
 rwa [Nat.one_mul] at q
theorem BH{pre post:List PV}(h3:Nat.ble 3 nn=true)(hk:0<E.k):gT (pre++(E.row nn f++post))=true:=by
 have h3:=Nat.le_of_ble_eq_true h3
 have hl:(E.cells ((List.range nn).map f)).length=nn*E.k:=by rw [E.dF];simp
 have h0:3≤nn*E.k:=Nat.le_trans h3 (Nat.le_mul_of_pos_right _ hk)
 refine adh ?_ (.inl ?_)
 ·cases hc:E.cells ((List.range nn).map f) with
  | nil=>rw [hc] at hl;simp at hl;omega
  | cons a l=>exact ⟨a,by simp [cT.row,hc]⟩
 ·simp only [List.length_append,cT.row,List.length_map,hl];omega
theorem tZ{agg:Bool}{n o:Nat}{p:PV}{pre post:List PV}(hx:ρ x= .r (.ptr b g o))(hl:look H b g=some (.box (pre++(E.row nn f++post))))(ho:o=pre.length+m*E.k+fo)(hm:m<nn)(hp:nP agg (E.enc (f m)) fo n=some p)(hn:Nat.ble (fo+n) E.k=true)(CJ:Nat.ble 1 n=true)(h3:Nat.ble 3 nn=true:=by kernel_rfl):az γ H d ρ (.load agg n x)=some (p,[]):=by
 have hn:=Nat.le_of_ble_eq_true hn
 have CJ:=Nat.le_of_ble_eq_true CJ
 simp only [az,hx,hl]
 have kK:gT (pre++(E.row nn f++post))=true:=BH E h3 (by omega)
 rw [if_pos kK,IU E agg ho hm hn (by omega),hp]
theorem ail(h:m<nn)(z:α):E.row nn (upd f m z)=((E.cells (((List.range nn).map f).take m)).map PV.d)++((E.enc z).map .d++(E.cells (((List.range nn).map f).drop (m+1))).map .d):=by
 have e:(List.range nn).map (upd f m z)=((List.range nn).map f).set m z:=by
  apply List.ext_getElem?
  intro j
  by_cases hj:j<nn
  ·by_cases tP:m=j
   ·subst tP;simp [hj,upd]
   ·rw [List.getElem?_set_ne tP];simp [hj,upd,Ne.symm tP]
  ·rw [List.getElem?_eq_none (by simp;omega),List.getElem?_eq_none (by simp;omega)]
 unfold cT.row
 rw [e,E.IL (IQ (f:=f) h)]
 simp
theorem BI{n o:Nat}{pre post new:List PV}{ds:List PD}{z':α}(hx:ρ x= .r (.ptr b g o))(hl:look H b g=some (.box (pre++(E.row nn f++post))))(ho:o=pre.length+m*E.k+fo)(hm:m<nn)
  (hy:(ρ y).cells?=some new) (hd:new=ds.map .d) (hz:bZ (E.enc (f m)) fo ds=E.enc z') (hn:Nat.beq ds.length n=true) (Sa:Nat.ble (fo+n) E.k=true) (CJ:Nat.ble 1 n=true) (h3:Nat.ble 3 nn=true:=by kernel_rfl):az γ H d ρ (.store n x y)=some (.un,[(b,⟨g,some (.box (pre++(E.row nn (upd f m z')++post)))⟩)]):=by
 have hn:=Nat.eq_of_beq_eq_true hn
 have Sa:=Nat.le_of_ble_eq_true Sa
 have CJ:=Nat.le_of_ble_eq_true CJ
 have hrow:(E.row nn f).length=nn*E.k:=by unfold cT.row;rw [List.length_map,E.dF,List.length_map,List.length_range]
 have hmk:(m+1)*E.k≤nn*E.k:=Nat.mul_le_mul_right _ (by omega)
 rw [Nat.succ_mul] at hmk
 have Sh:((E.cells (((List.range nn).map f).take m)).map PV.d).length=m*E.k:=by
  rw [List.length_map,E.dF,List.length_take,List.length_map,List.length_range,Nat.min_eq_left (by omega)]
 have key:bZ (pre++(E.row nn f++post)) o new=pre++(E.row nn (upd f m z')++post):=by
  rw [ail E hm]
  have e:E.row nn f=((E.cells (((List.range nn).map f).take m)).map PV.d)++((E.enc (f m)).map .d++(E.cells (((List.range nn).map f).drop (m+1))).map .d):=by
   unfold cT.row;rw [E.lX (IQ (f:=f) hm)];simp
  rw [e]
  have hs:bZ ((E.enc (f m)).map PV.d) fo new=(E.enc z').map .d:=by
   rw [←hz,hd];simp [bZ,List.map_take,List.map_drop]
  have:=IP (pre++(E.cells (((List.range nn).map f).take m)).map PV.d) ((E.enc (f m)).map .d) ((E.cells (((List.range nn).map f).drop (m+1))).map .d++post) new fo (by rw [List.length_map,E.len,hd,List.length_map];omega)
  rw [hs,List.length_append,Sh,←ho] at this
  simp only [List.append_assoc] at this ⊢
  rw [this]
 simp only [az,hx,hy,hl]
 rw [if_pos ⟨by rw [hd,List.length_map];exact hn,by simp only [List.length_append,hrow];omega,by rw [hd];simp [uU],BH E h3 (by omega),by rw [key];exact BH E h3 (by omega)⟩,key]
end
theorem axV(b:Bool){P:Prop}(h1:b=true→P)(h2:b=false→P):P:=by cases b;exact h2 rfl;exact h1 rfl
def bI(i:Int):Option Nat:=if 0≤i then some i.toNat else none
theorem BJ(n:Nat):jP ρ n none=bI (n:Int):=by simp [jP,bI]
theorem lY(n:Nat)(h:ρ x= .d (.int kk j)):jP ρ n (some x)=bI j:=by simp [jP,bI,h,PV.int?]
theorem E2{lo hi:Option Operand}{s t:List UInt8}{a c:Int}(hx:ρ x= .d (.str s))(h1:jP ρ 0 lo=bI a)(h2:jP ρ s.length hi=bI c)(h:pW s a c=some t):az γ H d ρ (.uX x lo hi)=some (.d (.str t),[]):=by
 obtain ⟨p1,p2,p3,rfl⟩:=E0 h
 simp only [az,hx,PV.qJ,h1,h2,bI]
 rw [if_pos p1,if_pos (by omega)]
 simp only
 rw [if_pos (by omega)]
section
variable {α : Type} (E : cT α) {xs ys : List α}
theorem Zr{lo hi:Option Operand}{a c:Int}(hx:ρ x= .d (.sl xs.length (E.cells xs)))(hk:E.k=k)(h1:jP ρ 0 lo=bI a)(h2:jP ρ xs.length hi=bI c)(h:pW xs a c=some ys):az γ H d ρ (.uW e k x lo hi)=some (.d (.sl ys.length (E.cells ys)),[]):=by
 obtain ⟨p1,p2,p3,rfl⟩:=E0 h
 subst hk
 simp only [az,hx,h1,h2,bI]
 rw [if_pos p1,if_pos (by omega)]
 simp only
 rw [if_pos (by omega),E.kD,E.kC]
 simp;omega
end
theorem CY{lo hi:Option Operand}{a c:Int}{cs:List PD}{l' n':Nat}(hx:ρ x= .r (.aJ b g l n))(hl:look H b g=some (.own e k cs))(h1:jP ρ 0 lo=bI a)(h2:jP ρ n hi=bI c)(h:bO (decide (0≤a)&&decide (a≤c)&&decide (c≤(n:Int)))=some ())(hl':l+a.toNat=l')(hn':c.toNat-a.toNat=n'):az γ H d ρ (.uW e k x lo hi)=some (.r (.aJ b g l' n'),[]):=by
 have h:=gW h
 simp only [Bool.and_eq_true,decide_eq_true_eq] at h
 simp only [az,hx,h1,h2,bI,hl]
 rw [if_pos h.1.1,if_pos (by omega)]
 simp only
 rw [if_pos (by omega),if_pos trivial,hl',hn']
def cT.jQ{α:Type}(E:cT α)(n:Nat)(f:Nat→α):List PD:=E.cells ((List.range n).map f)
theorem cT.M3{α:Type}(E:cT α)(n:Nat)(f:Nat→α):(E.jQ n f).length=n*E.k:=by
 unfold cT.jQ
 rw [E.dF,List.length_map,List.length_range]
theorem Zs{γ:ek}{H:Nat→cq}{d:Nat}{ρ:Operand→PV}{x i:Operand}{kk:IntKind}{j:Int}{nn k m:Nat}{cs:List PD}(hx:ρ x= .cD cs)(hi:ρ i= .d (.int kk j))(h:jG j nn=some m):az γ H d ρ (.sN nn k x i)=some (.cD (cs.drop (m*k)),[]):=by
 obtain ⟨h1,h2,h3⟩:=tY h
 simp only [az,hx,hi,PV.int?]
 rw [if_pos ⟨h1,h2⟩,h3]
theorem M4{α:Type}(E:cT α){γ:ek}{H:Nat→cq}{d:Nat}{ρ:Operand→PV}{x:Operand}{f:Nat→α}{nn m:Nat}{post:List PD}{q:PD}(hx:ρ x= .cD ((E.jQ nn f++post).drop (m*E.k)))(hm:m<nn)(hq:nP false (E.enc (f m)) 0 1=some (.d q))(hk:Nat.ble 1 E.k=true):az γ H d ρ (.load false 1 x)=some (.d q,[]):=by
 have hk:=Nat.le_of_ble_eq_true hk
 have e:=IU E false (pre:= []) (post:=post.map .d) (f:=f) (o:=m*E.k) (n:=1) (fo:=0) (m:=m) (nn:=nn) (by simp) hm (by omega) (by omega)
 rw [List.nil_append,hq] at e
 have e2:E.row nn f++post.map PV.d=(E.jQ nn f++post).map PV.d:=by unfold cT.row cT.jQ;rw [List.map_append]
 rw [e2] at e
 simp only [part,Bool.false_eq_true,if_false,List.getElem?_map] at e
 simp only [az,hx,nP,Bool.false_eq_true,if_false,List.getElem?_drop,Nat.add_zero]
 rw [e]
theorem IV{α:Type}(E:cT α)(z:α): ∀n:Nat,E.cells (List.replicate n z)=(List.replicate n (E.enc z)).flatten
 | 0=>rfl
 | n+1=>by
  rw [List.replicate_succ,List.replicate_succ,List.flatten_cons]
  show E.enc z++E.cells (List.replicate n z)=_
  rw [IV E z n]
def mq{α:Type}(xs:List α)(l n:Nat)(ys:List α):List α:=xs.take l++ys.take (min ys.length n)++xs.drop (l+min ys.length n)
theorem ze{α:Type}{xs ys:List α}{l n:Nat}(h:l+n≤xs.length):(mq xs l n ys).length=xs.length:=by
 unfold mq
 simp;omega
theorem G9{α:Type}(E:cT α){xs ys:List α}(hx:ρ x= .r (.aJ b g l n))(hl:look H b g=some (.own e k (E.cells xs)))(hk:E.k=k)(hy:fJ H (ρ y)=some (ys.length,E.cells ys))(h:bO (decide (l+n≤xs.length))=some ()):
  az γ H d ρ (.Cy k x y)=some (.d (.int .i64 ((min ys.length n:Nat):Int)),[(b,⟨g,some (.own e k (E.cells (mq xs l n ys)))⟩)]):=by
 have h:=of_decide_eq_true (gW h)
 subst hk
 simp only [az,hx,hy,hl]
 rw [if_pos ⟨trivial,E.dF ys⟩]
 have e1:bZ (E.cells xs) (l*E.k) ((E.cells ys).take (min ys.length n*E.k))=E.cells (mq xs l n ys):=by
  unfold bZ mq
  rw [E.nW,E.nW,E.kD,E.kD,E.dF,List.length_take,←Nat.add_mul,E.kC,show min (min ys.length n) ys.length=min ys.length n by omega]
 rw [e1]
def mk?{α:Type}(bytes:Nat)(a c:Int)(z:α):Option (List α):=if 0≤a∧a≤c∧c.toNat*bytes≤140737488355328 then some (List.replicate a.toNat z) else none
theorem aqm{α:Type}(E:cT α){z0:α}{zz:List (Nat×Value)}{bytes:Nat}{a c:Int}{kl kc:IntKind}{ys:List α}{cp:Operand}(hz:pT (jc zz)=some (E.enc z0))(hx:ρ x= .d (.int kl a))(hc:ρ cp= .d (.int kc c))(hk:E.k=k)(h:mk? bytes a c z0=some ys):
  az γ H d ρ (.Oz e k bytes zz x cp)=some (.r (.aJ (aZ d 0) ((H (aZ d 0)).g+1) 0 ys.length),[nw H (aZ d 0) (.own e k (E.cells ys))]):=by
 unfold mk? at h
 split at h
 ·rename_i hh
  cases h
  simp only [az,hx,hc,PV.int?,hz]
  rw [if_pos hh,IV,List.length_replicate]
 ·cases h
def IW{α:Type}(xs:List α)(a c:Int):Option (List α):=if a<c then pW xs a c else none
theorem aqn{α:Type}(E:cT α){xs ys:List α}{lo hi:Option Operand}{a c:Int}{e':Nat}(hx:ρ x= .r (.aJ b g 0 n))(hn:xs.length=n)(hl:look H b g=some (.own e' k (E.cells xs)))(hk:E.k=k)(h1:jP ρ 0 lo=bI a)(h2:jP ρ n hi=bI c)(h:IW xs a c=some ys):
  az γ H d ρ (.HP e k x lo hi)=some (.r (.aJ b (g+1) 0 ys.length),[(b,⟨g+1,some (.own e' k (E.cells ys))⟩)]):=by
 unfold IW at h
 split at h
 ·rename_i hac
  obtain ⟨q1,q2,q3,q4⟩:=E0 h
  subst hn hk
  have hlen:ys.length=c.toNat-a.toNat:=by rw [q4,List.length_drop,List.length_take];omega
  have hcs:((E.cells xs).take (c.toNat*E.k)).drop (a.toNat*E.k)=E.cells ys:=by rw [q4,E.kD,E.kC]
  have b1:bI a=some a.toNat:=by unfold bI;rw [if_pos q1]
  have b2:bI c=some c.toNat:=by unfold bI;rw [if_pos (by omega)]
  simp only [az,hx,h1,h2,b1,b2,hl]
  rw [if_pos ⟨by omega,by omega,.inr (by omega)⟩,if_pos trivial,hcs,hlen]
 ·cases h
theorem CZ{s:List UInt8}{n:Nat}(hx:fJ H (ρ x)=some (n,cH.cells s))(hn:s.length=n):az γ H d ρ (.sS x)=some (.d (.str s),[]):=by
 have key: ∀s:List UInt8,az.HR (cH.cells s)=some s:=by
  intro s
  induction s with
  | nil=>rfl
  | cons a s ih=>
   have h1:(0:Int)≤(a.toNat:Int)∧(a.toNat:Int)<256:=by have:=a.toNat_lt;omega
   show az.HR (PD.int .u8 (a.toNat:Int)::cH.cells s)=_
   simp only [az.HR]
   rw [if_pos h1,ih]
   simp
 subst hn
 simp only [az,hx,key]
 rw [if_pos trivial]
theorem adR{a c s:List UInt8}(h:ep a c=some s):((a.length+c.length:Nat):Int)≤IntKind.i64.max∧s=a++c:=by
 unfold ep at h
 split at h
 ·cases h;exact ⟨‹_›,rfl⟩
 ·cases h
theorem gJ{a c s:List UInt8}(hx:ρ x= .d (.str a))(hy:ρ y= .d (.str c))(h:ep a c=some s):az γ H d ρ (.jD .add x y)=some (.d (.str s),[]):=by
 obtain ⟨h1,rfl⟩:=adR h
 simp only [az,hx,hy,PV.qJ]
 rw [if_pos h1]
-- calls
theorem aU{k n d:Nat}(h:n≤d)(e:Nat.ble (k+1) n=true):k≤d-1:=by have:=Nat.le_of_ble_eq_true e;omega
theorem Si{f:Nat}{xs:List Operand}{args l:List PV}{r v:PV}{aD:eu}(ha:xs.map ρ=args)(hl:gU H args=some l)(hc:γ f l []=some (r,[]))
  (hf:((bA args).isEmpty || fM r)=true) (hr:(distinct ((owns r).map (·.1))&&(owns r).all (fun x=>decide (x.1<8)))=true) (hv:(Ah H d r,(owns r).map fun x=>nw H (aZ d x.1) x.2)=(v,aD)):
  az γ H d ρ (.call f xs)=some (v,aD):=by
 simp only [az,ha,jq,hl,Mx,hc]
 rw [if_pos (by rw [Bool.and_assoc,hf,hr];rfl),hv]
theorem iT{f:Nat}{xs:List Operand}{args args' l:List PV}{refs:List Nat}{r v:PV}{aD nJ:eu}(ha:xs.map ρ=args)(hr:bA args=refs)(hall:(refs.all fun i=>Nat.ble 8 i&&(List.range 8).all fun j=> !Nat.beq i (aZ d j))=true)
  (hz:jO (kr refs) H args=args') (hl:gU (wW H (ig H refs)) args'=some l) (hc:γ f l []=some (r,[])) (he:(bA args').isEmpty=true) (hd:(distinct ((owns r).map (·.1))&&(owns r).all (fun x=>decide (x.1<8)))=true)
  (hv:(Ah (wW H (ig H refs)) d r,(owns r).map fun x=>nw (wW H (ig H refs)) (aZ d x.1) x.2)=(v,nJ)) (hu:ig H refs++nJ=aD):
  az γ H d ρ (.jd f xs)=some (v,aD):=by
 simp only [az,tN,ha,hr,hall,hz,jq,hl,Mx,hc]
 rw [if_pos trivial,if_pos (by rw [Bool.and_assoc,he,hd];rfl)]
 have e1:=congrArg Prod.fst hv
 have e2:=congrArg Prod.snd hv
 simp only at e1 e2
 rw [e1,e2]
 simp only
 rw [hu]
theorem lQ{D:Nat→Bool}:jO D H []= []:=rfl
theorem gM{D:Nat→Bool}{p q:PV}{ps qs:List PV}(h1:mj D H p=q)(h2:jO D H ps=qs):jO D H (p::ps)=q::qs:=by simp only [jO,h1,h2]
theorem qC{f:Nat}{cs:List PV}{xs:List Operand}{args l:List PV}{r v:PV}{aD:eu}(hx:ρ x= .fn f cs)(ha:xs.map ρ++cs=args)(hl:gU H args=some l)(hc:γ f l []=some (r,[]))
  (hf:((bA args).isEmpty || fM r)=true) (hr:(distinct ((owns r).map (·.1))&&(owns r).all (fun x=>decide (x.1<8)))=true) (hv:(Ah H d r,(owns r).map fun x=>nw H (aZ d x.1) x.2)=(v,aD)):
  az γ H d ρ (.lU x xs)=some (v,aD):=by
 simp only [az,hx,ha,jq,hl,Mx,hc]
 rw [if_pos (by rw [Bool.and_assoc,hf,hr];rfl),hv]
theorem adS{f:Nat}{xs:List Operand}{args l:List PV}{ids:List Nat}{bs bt bJ:List bH}{r v:PV}{aD:eu}(ha:(xs.map ρ).map pZ=args)(hi:fK H args=ids)(hb:gH H ids=some bs)(hl:wN ids H args=l)(ht:bs.map (nQ ids H)=bt)(hc:γ f l bt=some (r,bJ))
  (hr:(decide (bJ.length=ids.length)&&decide (ids.length≤8)&&distinct ((cA r bJ).map (·.1))&&(cA r bJ).all (fun x=>decide (x.1<8)&& !ids.any (Nat.beq (aZ d x.1))))=true)
  (hv:(qL false ids H d r,j7 false H ids d ids bJ++(cA r bJ).map fun x=>nw H (aZ d x.1) x.2)=(v,aD)):
  az γ H d ρ (.fO f xs)=some (v,aD):=by
 have hlen:bJ.length=ids.length:=by simp only [Bool.and_eq_true,decide_eq_true_eq] at hr;exact hr.1.1.1
 have w8:wC ids bJ=false:=by
  unfold wC
  rw [hlen]
  cases h:Nat.beq ids.length (ids.length+1) with
  | false=>rfl
  | true=>have:=Nat.eq_of_beq_eq_true h;omega
 have kK:Lh H ids bJ=decide (bJ.length=ids.length):=by unfold Lh;rw [w8,if_neg (by simp)]
 simp only [az,ha,mR,hi,hb,hl,ht,hc,w8,kK]
 rw [if_pos hr,hv]
theorem V1{f:Nat}{xs:List Operand}{args l:List PV}{ids:List Nat}{bs bt bJ:List bH}{r v:PV}{aD:eu}(ha:(xs.map ρ).map pZ=args)(hi:fK H args=ids)(hb:gH H ids=some bs)(hl:wN ids H args=l)(ht:bs.map (nQ ids H)=bt)(hc:γ f l bt=some (r,bJ))
  (w8:wC ids bJ=true) (hs:iy H ids bJ=true)
  (hr:(decide (ids.length≤8)&&distinct ((cA r bJ).map (·.1))&&(cA r bJ).all (fun x=>decide (x.1<8)&& !ids.any (Nat.beq (aZ d x.1))))=true)
  (hv:(qL true ids H d r,j7 true H ids d ids bJ++(cA r bJ).map fun x=>nw H (aZ d x.1) x.2)=(v,aD)):
  az γ H d ρ (.fO f xs)=some (v,aD):=by
 have kK:Lh H ids bJ=true:=by unfold Lh;rw [if_pos w8,hs]
 simp only [az,ha,mR,hi,hb,hl,ht,hc,w8,kK,Bool.true_and]
 rw [if_pos hr,hv]
theorem M5{f:Nat}{xs:List Operand}{l:List PV}{r:PV}(hl:gU H (xs.map ρ)=some l)(hc:γ f l []=some (r,[]))(hf:((bA (xs.map ρ)).isEmpty || fM r)=true)(hr:(distinct ((owns r).map (·.1))&&(owns r).all (fun x=>decide (x.1<8)))=true):
  az γ H d ρ (.call f xs)=some (Ah H d r,(owns r).map fun x=>nw H (aZ d x.1) x.2):=Si rfl hl hc hf hr rfl
theorem iI{f:Nat}{xs:List Operand}{args l:List PV}{r:PV}(ha:xs.map ρ=args)(hl:gU H args=some l)(hc:γ f l []=some (r,[]))(hf:((bA args).isEmpty || fM r)=true)(hr:(distinct ((owns r).map (·.1))&&(owns r).all (fun x=>decide (x.1<8)))=true):
  az γ H d ρ (.call f xs)=some (Ah H d r,(owns r).map fun x=>nw H (aZ d x.1) x.2):=Si ha hl hc hf hr rfl
theorem IX{f:Nat}{xs:List Operand}{l:List PV}{ids:List Nat}{bt bJ:List bH}{r:PV}(hi:fK H ((xs.map ρ).map pZ)=ids)(hb:(gH H ids).map (List.map (nQ ids H))=some bt)(hl:wN ids H ((xs.map ρ).map pZ)=l)(hc:γ f l bt=some (r,bJ))
  (hr:(decide (bJ.length=ids.length)&&decide (ids.length≤8)&&distinct ((cA r bJ).map (·.1))&&(cA r bJ).all (fun x=>decide (x.1<8)&& !ids.any (Nat.beq (aZ d x.1))))=true):
  az γ H d ρ (.fO f xs)=some (qL false ids H d r,j7 false H ids d ids bJ++(cA r bJ).map fun x=>nw H (aZ d x.1) x.2):=by
 cases mU:gH H ids with
 | none=>rw [mU] at hb;cases hb
 | some bs=>
  rw [mU] at hb
  exact adS rfl hi mU hl (Option.some.inj hb) hc hr rfl
theorem FN{f:Nat}{xs:List Operand}{l:List PV}{ids:List Nat}{bs bt bJ:List bH}{r:PV}(hi:fK H ((xs.map ρ).map pZ)=ids)(hb:gH H ids=some bs)(hl:wN ids H ((xs.map ρ).map pZ)=l)(ht:bs.map (nQ ids H)=bt)(hc:γ f l bt=some (r,bJ))
  (w8:wC ids bJ=true) (hs:iy H ids bJ=true)
  (hr:(decide (ids.length≤8)&&distinct ((cA r bJ).map (·.1))&&(cA r bJ).all (fun x=>decide (x.1<8)&& !ids.any (Nat.beq (aZ d x.1))))=true):
  az γ H d ρ (.fO f xs)=some (qL true ids H d r,j7 true H ids d ids bJ++(cA r bJ).map fun x=>nw H (aZ d x.1) x.2):=V1 rfl hi hb hl ht hc w8 hs hr rfl
theorem qb{bJ:List bH}:iy H [] bJ=true:=rfl
theorem Zt{i:Nat}{is:List Nat}{cs cs':List PV}{bJ:List bH}(hb:(H i).b=some (.box cs))(h:iy H is bJ=true):iy H (i::is) (.box cs'::bJ)=true:=by
 simp only [iy,hb,h];rfl
theorem sW{α:Type}(E:cT α){i:Nat}{is:List Nat}{e1 k1 e2 k2:Nat}{xs ys:List α}{bJ:List bH}(hb:(H i).b=some (.own e1 k1 (E.cells xs)))(hl:bO (decide (ys.length=xs.length))=some ())(h:iy H is bJ=true):iy H (i::is) (.own e2 k2 (E.cells ys)::bJ)=true:=by
 have hl:=of_decide_eq_true (gW hl)
 simp only [iy,hb,h,E.dF,hl,decide_true,Bool.and_self]
theorem FO{α:Type}(E:cT α)(hE: ∀x,(E.enc x).all (fun | .sl _ ds=>ds.isEmpty | _=>true)=true): ∀xs:List α,(E.cells xs).all (fun | .sl _ ds=>ds.isEmpty | _=>true)=true
 | []=>rfl
 | x::xs=>by simp only [cT.cells,List.all_append,hE x,FO E hE xs,Bool.and_self]
theorem nX{α:Type}(E:cT α)(hE: ∀x,(E.enc x).all (fun | .sl _ ds=>ds.isEmpty | _=>true)=true)(j e' k' n':Nat)(xs:List α):fM (.r (.own j e' k' n' (E.cells xs)))=true:=by
 unfold fM
 exact FO E hE xs
theorem nY(cs:List PV):fM (.bE cs)=mQ cs:=rfl
theorem nZ(cs:List PV):fM (.agg cs)=mQ cs:=rfl
theorem qY:mQ []=true:=rfl
theorem qZ(p:PV)(ps:List PV):mQ (p::ps)=(fM p&&mQ ps):=rfl
theorem n7(k':IntKind)(n':Int):fM (.d (.int k' n'))=true:=rfl
theorem lZ(b':Bool):fM (.d (.bool b'))=true:=rfl
theorem n9(s:List UInt8):fM (.d (.str s))=true:=rfl
theorem q8:fM .un=true:=rfl
theorem q9:fM .nil=true:=rfl
theorem ri(n':Nat):fM (.d (.sl n' []))=true:=rfl
-- bytes
theorem aim(a:UInt8):0≤(a.toNat:Int)∧(a.toNat:Int)<256:=by have:=a.toNat_lt;omega
theorem u8w(n:Int):IntKind.u8.wrap n=n%256:=by
 simp [IntKind.wrap,IntKind.signed,IntKind.bits]
def u8(n:Int):UInt8:=UInt8.ofNat (n%256).toNat
theorem ain(n:Int):((u8 n).toNat:Int)=n%256:=by
 unfold u8
 have:(n%256).toNat<256:=by omega
 have e:(UInt8.ofNat (n%256).toNat).toNat=(n%256).toNat:=by simp;omega
 rw [e];omega
theorem iq(n:Int):IntKind.u8.wrap n=((u8 n).toNat:Int):=by rw [u8w,ain]
theorem iW{op:BinOp}{a c r:Int}(hx:ρ x= .d (.int kk a))(hy:ρ y= .d (.int kk c))(h:arith op kk a c=some r):az γ H d ρ (.qK op x y)=some (.d (.int kk r),[]):=by
 simp only [az,hx,hy,PV.int?,h]
 rw [if_pos trivial]
theorem O5{op:BinOp}{a c r:Int}{k2:IntKind}(hx:ρ x= .d (.int kk a))(hy:ρ y= .d (.int k2 c))(h:Rf op kk a c=some r):az γ H d ρ (.sh op x y)=some (.d (.int kk r),[]):=by
 simp only [az,hx,hy,PV.int?,h]
theorem Sj(a c:UInt8):arith .sub .u8 a.toNat c.toNat=some ((a-c).toNat:Int):=by
 simp only [arith,u8w,UInt8.toNat_sub]
 have:=a.toNat_lt;have:=c.toNat_lt
 congr 1;omega
theorem bv8(a:UInt8):BitVec.ofInt 8 (a.toNat:Int)=a.toBitVec:=by
 apply BitVec.eq_of_toNat_eq
 have:=a.toNat_lt
 simp
theorem t_(a c:UInt8):arith .and .u8 a.toNat c.toNat=some ((a&&&c).toNat:Int):=by
 simp only [arith,cO,u8w];congr 1
 rw [show BitVec.ofInt IntKind.u8.bits (a.toNat:Int)=a.toBitVec from bv8 a,show BitVec.ofInt IntKind.u8.bits (c.toNat:Int)=c.toBitVec from bv8 c]
 have:=(a&&&c).toNat_lt
 show ((a&&&c).toNat:Int)%256=_
 omega
theorem qd(a c:UInt8):arith .or .u8 a.toNat c.toNat=some ((a ||| c).toNat:Int):=by
 simp only [arith,cO,u8w];congr 1
 rw [show BitVec.ofInt IntKind.u8.bits (a.toNat:Int)=a.toBitVec from bv8 a,show BitVec.ofInt IntKind.u8.bits (c.toNat:Int)=c.toBitVec from bv8 c]
 have:=(a ||| c).toNat_lt
 show ((a ||| c).toNat:Int)%256=_
 omega
theorem gC{k2:IntKind}{a r:Int}(hx:ρ x= .d (.int kk a))(h:k2.wrap a=r):az γ H d ρ (.ku k2 x)=some (.d (.int k2 r),[]):=by
 simp only [az,hx,PV.int?,h]
theorem qf(a:UInt8):IntKind.i64.wrap (a.toNat:Int)=a.toNat:=IntWalk.i64_in _ (by have:=a.toNat_lt;omega)
theorem Zu(a:UInt8):IntKind.i32.wrap (a.toNat:Int)=a.toNat:=by
 have:=a.toNat_lt
 simp [IntKind.wrap,IntKind.signed,IntKind.bits];omega
theorem Zv{c:Int}(h:bO (decide (0≤c))=some ()):0≤c:=of_decide_eq_true (gW h)
theorem aio{k:IntKind}{a c:Int}(h:bO (decide (0≤c))=some ()):Rf .shl k a c=some (k.wrap (a*2^(min c.toNat k.bits))):=by simp only [Rf];rw [if_pos (Zv h)]
theorem aBL{k:IntKind}{a c:Int}(h:bO (decide (0≤c))=some ()):Rf .shr k a c=some (a.fdiv (2^(min c.toNat k.bits))):=by simp only [Rf];rw [if_pos (Zv h)]
def pJ{α:Type}(xs:List α)(l n:Nat):Option (List α):=if l+n≤xs.length then some ((xs.drop l).take n) else none
theorem IY{α:Type}{xs ys:List α}{l n:Nat}(h:pJ xs l n=some ys):l+n≤xs.length∧ys=(xs.drop l).take n∧ys.length=n:=by
 unfold pJ at h
 split at h
 ·cases h;exact ⟨‹_›,rfl,by simp;omega⟩
 ·cases h
theorem aip{α:Type}(E:cT α){xs ys:List α}(hl:look H b g=some (.own e k (E.cells xs)))(hk:E.k=k)(h:pJ xs l n=some ys):fJ H (.r (.aJ b g l n))=some (ys.length,E.cells ys):=by
 obtain ⟨h1,h2,h3⟩:=IY h
 subst hk
 simp only [fJ,hl]
 rw [E.kC,E.kD,←h2,h3]
theorem O6{α:Type}(E:cT α){xs ys:List α}(hl:look H b g=some (.own e k (E.cells xs)))(hk:E.k=k)(h:pJ xs l n=some ys):gA H (.r (.aJ b g l n))=some (.d (.sl ys.length (E.cells ys))):=by
 obtain ⟨h1,h2,h3⟩:=IY h
 subst hk
 simp only [gA,hl]
 rw [E.kC,E.kD,←h2,h3]
-- aAJ of values that hold arrays
-- what is handed out, what is aFo
section
variable {α : Type} (E : cT α) {xs : List α} {m : Nat} {ids ids' O7 : List Nat}
theorem cT.O8(xs:List α):((E.cells xs).drop (0*E.k)).take (xs.length*E.k)=E.cells xs:=by
 rw [Nat.zero_mul,List.drop_zero,List.take_of_length_le (by rw [E.dF];exact Nat.le_refl _)]
theorem gX{n:Nat}(hl:look H b g=some (.own e k (E.cells xs)))(hk:E.k=k)(hn:xs.length=n)(hm:Nat.blt b m=false)(hi:ids.any (Nat.beq b)=false):kB H m (.r (.aJ b g 0 n)) ids=some (.r (.own ids.length e k n (E.cells xs)),ids++ [b]):=by
 subst hk hn
 simp only [kB,hl]
 rw [if_neg (by intro h;have:=Nat.ble_eq_true_of_le h;simp only [Nat.blt] at hm;rw [this] at hm;cases hm),if_pos ⟨trivial,E.dF xs,hi⟩]
theorem mW:lz H m [] ids=some ([],ids):=rfl
theorem aN{p q:PV}{ps qs:List PV}(h1:kB H m p ids=some (q,ids'))(h2:lz H m ps ids'=some (qs,O7)):lz H m (p::ps) ids=some (q::qs,O7):=by simp only [lz,h1,h2]
theorem BK{ps qs:List PV}(h:lz H m ps ids=some (qs,ids')):kB H m (.agg ps) ids=some (.agg qs,ids'):=by simp only [kB,h]
theorem BL{ps qs:List PV}(h:lz H m ps ids=some (qs,ids')):kB H m (.bE ps) ids=some (.bE qs,ids'):=by simp only [kB,h]
theorem O9{ps qs EP qs':List PV}(h1:lz H m ps ids=some (qs,ids'))(h2:lz H m EP ids'=some (qs',O7)):lz H m (ps++EP) ids=some (qs++qs',O7):=by
 induction ps generalizing ids qs with
 | nil=>cases h1;exact h2
 | cons p ps ih=>
  simp only [lz] at h1
  split at h1
  ·rename_i x i hx
   split at h1
   ·rename_i l j hl
    cases h1
    have:=ih hl
    simp only [List.cons_append,lz,hx,this]
   ·cases h1
  ·cases h1
theorem O_{n:Nat}{f:Nat→α}:lz H m (E.row n f) ids=some (E.row n f,ids):=Zn _ _ fun p hp=>by
 simp only [cT.row,List.mem_map] at hp
 obtain ⟨x,_,rfl⟩:=hp;exact ⟨x,rfl⟩
theorem iN{st:St}{rs:List PR}{bs:List bH}{l:List PV}{x:PV}(h1:vg st.h m (List.range m) []=some (bs,ids))(h2:FL st rs=some l)(h3:kB st.h m (Zi l) ids=some (x,ids')):cP st m rs=some (x,bs):=by
 simp only [cP,h1,h2,h3]
theorem jr{p q:PV}{ps qs:List PV}(h1:gA H p=some q)(h2:gU H ps=some qs):gU H (p::ps)=some (q::qs):=by simp only [gU,h1,h2]
theorem l5:gU H []=some []:=rfl
theorem aiq{ps qs:List PV}(h:gU H ps=some qs):gA H (.agg ps)=some (.agg qs):=by simp only [gA,h];rfl
theorem tG{n:Nat}(hl:look H b g=some (.own e k (E.cells xs)))(hk:E.k=k)(hn:xs.length=n):gA H (.r (.aJ b g 0 n))=some (.d (.sl n (E.cells xs))):=by
 subst hk hn
 simp only [gA,hl]
 rw [Nat.zero_mul,List.drop_zero,List.take_of_length_le (by rw [E.dF];exact Nat.le_refl _)]
end
end
theorem ua{α β γ:Type}(f:α→γ)(g:β→γ)(a:α):Sum.elim f g (Sum.inl a)=f a:=by
 have h: ∀s:α⊕β,s= .inl a→Sum.elim f g s=f a:=fun s hs=>by cases hs;simp
 exact h _ (by simp)
theorem ud{α β γ:Type}(f:α→γ)(g:β→γ)(b:β):Sum.elim f g (Sum.inr b)=g b:=by
 have h: ∀s:α⊕β,s= .inr b→Sum.elim f g s=g b:=fun s hs=>by cases hs;simp
 exact h _ (by simp)
end Go.Proofs.YtimbfadnabfabaaGreatDoor.Pm
