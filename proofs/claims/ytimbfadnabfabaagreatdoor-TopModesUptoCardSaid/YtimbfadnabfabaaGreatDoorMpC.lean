/- Code that does what other code says: put together out of its parts. No program is named here. -/
import Derived.Test.YtimbfadnabfabaaGreatDoorPg
import Derived.Maps.RangeWalk
import Derived.Test.YtimbfadnabfabaaGreatDoorProg
import Derived.Lib.BufferMore
namespace Go.Proofs.YtimbfadnabfabaaGreatDoor.Pm
open Go.RowKit
set_option linter.unusedVariables false
section
variable {P : Program} {N : Nat} {c c1 c2 : Code} {p p1 p2 : aj}
theorem fH.code{br:List Nat}(h:ew P br N c=some (erase p)):fH P N c p:= @fun γ w0 aP E m kL n st bl e a w Q he hr hQ=>R_ kL n h he hr hQ
theorem fH.seq(h1:fH P N c1 p1)(h2:fH P N c2 p2):fH P N (.seq c1 c2) (.seq p1 p2):=by
 intro γ w0 aP E m kL n st bl e a w Q he hr hQ
 simp only [prun] at he
 refine wp_seq ?_
 split at he
 ·rename_i s hs
  exact h1 kL n hs hr fun a' w' kn=>h2 kL n he kn hQ
 ·rename_i hne
  refine h1 kL n he hr fun a' w' kn=>?_
  cases e with
  | normal=>exact absurd he (hne _)
  | exit id=>exact hQ _ _ kn
  | ret=>exact hQ _ _ kn
theorem fH.keep{L:List Nat}{B:List (Nat×Loc)}{A:List NA}(h:fH P N c p):fH P N c (.keep L B A p):=by
 intro γ w0 aP E m kL n st bl e a w Q he hr hQ
 simp only [prun] at he
 exact h kL n he (EY L B A hr) hQ
end
end Go.Proofs.YtimbfadnabfabaaGreatDoor.Pm

namespace Go.Proofs.YtimbfadnabfabaaGreatDoor.Mp
open Go Go.Proofs Go.RowKit Go.Proofs.YtimbfadnabfabaaGreatDoor.Pm Go.Maps
set_option linter.unusedVariables false
set_option linter.unusedSimpArgs false
section
variable {P : Program} {ops : Array Oper} {rest : List Oper} {o : Oper} {a : Act} {w w' : World} {Q : Exit → Act → World → Prop}
theorem wS{v:Value}(hg:o.guard=none)(hr:(execOp a.eval o).run P w= .ok (.value v) w')(h:wpList P ops Q rest (a.put o.dst v) w'):wpList P ops Q (o::rest) a w:=
 wpList_plain hg fun K hK=>by unfold Oper.wp;rw [hr];exact hK _ _ h
theorem wps(hg:o.guard=none)(hr:(execOp a.eval o).run P w= .ok .skip w')(h:wpList P ops Q rest (a.put o.dst undef) w'):wpList P ops Q (o::rest) a w:=
 wpList_plain hg fun K hK=>by unfold Oper.wp;rw [hr];exact hK _ _ h
end
theorem eY{a:Act}{d:Nat}{v:Value}(h:d<a.tmps.size):(a.put (some d) v).eval (.tmp d)=v:=by rw [eval_put h,if_pos rfl]
theorem eD{a:Act}{d t:Nat}{v:Value}(h:t≠d):(a.put (some d) v).eval (.tmp t)=a.eval (.tmp t):=by
 simp only [Act.put,Act.eval,Array.getD_eq_getD_getElem?,Array.getElem?_setIfInBounds_ne (Ne.symm h)]
theorem d_{a:Act}{x:Option Nat}{v:Value}:(a.put x v).tmps.size=a.tmps.size:=by cases x<;>simp [Act.put]
theorem EA{a:Act}{x:Option Nat}{v:Value}:(a.put x v).defers=a.defers:=by cases x<;>rfl
theorem ag6{a:Act}{v:Value}:a.eval (.const v)=v:=rfl
theorem oC{a:Act}{v:Value}:a.put none v=a:=rfl
theorem Q8{a b c:World}{row:Option Nat}(h:a.grownBy b row)(k:b.grownBy c row):a.grownBy c row:=
 ⟨k.os.trans h.os,k.tape.trans h.tape,k.output.trans h.output,Nat.le_trans h.size k.size,fun i hi hr=>(k.block i (Nat.lt_of_lt_of_le hi h.size) hr).trans (h.block i hi hr)⟩
def T(t:Nat):Bool:=Nat.beq t 18 || Nat.beq t 19 || (Nat.ble 58 t&&Nat.ble t 75)
def ks:List (Int×Int):= [(10,127),(11,21),(12,23),(13,18),(14,22)]
def D5:DataW Unit:= .map (ks.map fun x=>(.int .i64 x.1,.lit (.int .u8 x.2)))
def fs:Code→Code
 | .seq x _=>x
 | c=>c
def sn:Code→Code
 | .seq _ y=>y
 | c=>c
noncomputable def eE:Code:=match Go.Proofs.Tryz.f33.body with
 | some c=>c
 | none=> .skip
noncomputable def ac_:Code:=fs (sn (sn (sn (sn (sn (sn eE))))))
def Ar(o0:Nat)(left:Lit→Bool)(vs:List Value)(j:Nat):Option Value:=
 if o0+578≤j∧j≤o0+582∧left (.int .i64 ((j-o0-568:Nat):Int))=false then some (.int .u8 2)
 else if o0+597≤j∧j≤o0+601∧left (.int .i64 ((j-o0-587:Nat):Int))=false then some (.int .u8 ([127,21,23,18,22].getD (j-o0-597) 0)) else vs[j]?
structure LI (a0:Act) (w0:World) (bC:Nat) (T0:TypeId) (o0:Nat) (vs:List Value) (b r:Nat) (a:Act) (w:World) (left:Lit→Bool) (cnt:Nat):Prop where
 size:a.tmps.size=76
 defers:a.defers=a0.defers
 frame: ∀t,T t=false→a.eval (.tmp t)=a0.eval (.tmp t)
 it:a.eval (.tmp 60)= .pointer (some ⟨r,0,none⟩)
 rg:w.ranges Go.Proofs.Tryz.prog 3 (plainElem (H:=Unit) Go.Proofs.Tryz.prog 5) b r 5 D5 left cnt
 sub: ∀k,left k=true→Maps.has D5 k=true
 row: ∃cur:Array Value,w.heap[bC]?=some (.cells cur T0 (0,0))∧cur.size=vs.length∧ ∀j,cur.toList[j]?=Ar o0 left vs j
 gr:w0.grownBy w (some bC)
theorem YW(o0:Nat)(vs:List Value)(j:Nat):Ar o0 (Maps.has D5) vs j=vs[j]?:=by
 unfold Ar
 have h1: ¬(o0+578≤j∧j≤o0+582∧Maps.has D5 (.int .i64 ((j-o0-568:Nat):Int))=false):=by
  rintro ⟨h1,h2,h3⟩
  obtain ⟨q,hq⟩: ∃q,j-o0-568=q:=⟨_,rfl⟩
  rw [hq] at h3
  have:q=10∨q=11∨q=12∨q=13∨q=14:=by omega
  rcases this with rfl | rfl | rfl | rfl | rfl<;>cases h3
 have h2: ¬(o0+597≤j∧j≤o0+601∧Maps.has D5 (.int .i64 ((j-o0-587:Nat):Int))=false):=by
  rintro ⟨h1,h2,h3⟩
  obtain ⟨q,hq⟩: ∃q,j-o0-587=q:=⟨_,rfl⟩
  rw [hq] at h3
  have:q=10∨q=11∨q=12∨q=13∨q=14:=by omega
  rcases this with rfl | rfl | rfl | rfl | rfl<;>cases h3
 rw [if_neg h1,if_neg h2]
theorem aAc{x c:Int}(h:Maps.has D5 (.int .i64 x)=true)(hat: ∀zd,D5.atKey (.int .i64 x) zd= .lit (.int .u8 c)): ∃m:Nat,m<5∧x=10+m∧c= [127,21,23,18,22].getD m 0:=by
 have hx:x=10∨x=11∨x=12∨x=13∨x=14:=by
  simp [D5,ks,Maps.has,Lit.sameKey] at h
  omega
 have h0:=hat (.map [])
 rcases hx with rfl | rfl | rfl | rfl | rfl
 ·have h0:(DataW.lit (.int .u8 127):DataW Unit)= .lit (.int .u8 c):=h0
  cases h0;exact ⟨0,by decide,rfl,rfl⟩
 ·have h0:(DataW.lit (.int .u8 21):DataW Unit)= .lit (.int .u8 c):=h0
  cases h0;exact ⟨1,by decide,rfl,rfl⟩
 ·have h0:(DataW.lit (.int .u8 23):DataW Unit)= .lit (.int .u8 c):=h0
  cases h0;exact ⟨2,by decide,rfl,rfl⟩
 ·have h0:(DataW.lit (.int .u8 18):DataW Unit)= .lit (.int .u8 c):=h0
  cases h0;exact ⟨3,by decide,rfl,rfl⟩
 ·have h0:(DataW.lit (.int .u8 22):DataW Unit)= .lit (.int .u8 c):=h0
  cases h0;exact ⟨4,by decide,rfl,rfl⟩
theorem ag7(o0:Nat)(left:Lit→Bool)(vs:List Value){m:Nat}(hm:m<5){c:Int}(hc:c= [127,21,23,18,22].getD m 0)(cur:List Value)(hl:o0+613≤cur.length)(h: ∀j,cur[j]?=Ar o0 left vs j)(j:Nat):
  ((cur.set (o0+578+m) (.int .u8 2)).set (o0+597+m) (.int .u8 c))[j]?=Ar o0 (fun z=>left z&& !z.sameKey (.int .i64 (10+m))) vs j:=by
 have hk: ∀y:Nat,(Lit.int .i64 (y:Int)).sameKey (.int .i64 (10+m))=decide (y=10+m):=fun y=>by
  show decide (_∧_)=_
  congr 1
  apply propext;constructor
  ·rintro ⟨_,h⟩;omega
  ·intro h;exact ⟨rfl,by omega⟩
 by_cases h2:j=o0+597+m
 ·subst h2
  rw [List.getElem?_set_self (by simp;omega)]
  unfold Ar
  rw [if_neg (by omega),if_pos ⟨by omega,by omega,by show (left _&& !Lit.sameKey _ _)=false;rw [hk];simp;omega⟩,hc,show o0+597+m-o0-597=m by omega]
 ·rw [List.getElem?_set_ne (Ne.symm h2)]
  by_cases h1:j=o0+578+m
  ·subst h1
   rw [List.getElem?_set_self (by omega)]
   unfold Ar
   rw [if_pos ⟨by omega,by omega,by show (left _&& !Lit.sameKey _ _)=false;rw [hk];simp;omega⟩]
  ·rw [List.getElem?_set_ne (Ne.symm h1),h j]
   unfold Ar
   by_cases a1:o0+578≤j∧j≤o0+582
   ·have:decide (j-o0-568=10+m)=false:=by simp;omega
    have n2: ∀p:Prop,¬(o0+597≤j∧j≤o0+601∧p):=fun p q=>by omega
    simp only [hk,this,Bool.not_false,Bool.and_true,if_neg (n2 _)]
   ·have n1: ∀p:Prop,¬(o0+578≤j∧j≤o0+582∧p):=fun p q=>a1 ⟨q.1,q.2.1⟩
    by_cases a2:o0+597≤j∧j≤o0+601
    ·have:decide (j-o0-587=10+m)=false:=by simp;omega
     simp only [hk,this,Bool.not_false,Bool.and_true,if_neg (n1 _)]
    ·have n2: ∀p:Prop,¬(o0+597≤j∧j≤o0+601∧p):=fun p q=>a2 ⟨q.1,q.2.1⟩
     simp only [if_neg (n1 _),if_neg (n2 _)]
theorem GG{b o:Nat}{cur:Array Value}{T0:TypeId}{w:World}{v:Int}(hb:w.heap[b]?=some (.cells cur T0 (0,0)))(ho:o<cur.size):
  (Instr.storeAt 5 (.pointer (some ⟨b,o,none⟩)) (.int .u8 v)).run Go.Proofs.Tryz.prog w= .ok () (w.setCell ⟨b,o,none⟩ (.int .u8 v)):=by
 have hr:jW w b cur T0:= .of hb
 obtain ⟨x,hx⟩: ∃x,w.cell? ⟨b,o,none⟩=some x:=⟨cur[o],by rw [hr.cell];simp [ho]⟩
 have hf:=hr.free o ho
 have hn:iG Go.Proofs.Tryz.prog 5=some 1:=by kernel_rfl
 have hc:(Value.int .u8 v).cells= #[.int .u8 v]:=rfl
 unfold Instr.storeAt Instr.sureAddr storeVar
 simp [fA hn,Sem.run_bind,Result.andThen,hc]
 have hst:(store ((⟨b,o,none⟩:Addr).add 0) (.int .u8 v)).run Go.Proofs.Tryz.prog w= .ok () (w.setCell ⟨b,o,none⟩ (.int .u8 v)):=by
  rw [gm,Nat.add_zero,run_store _ w _ _ _ rfl,hx]
  simp [hf]
 have hsc:(storeCells ⟨b,o,none⟩ [.int .u8 v]).run Go.Proofs.Tryz.prog w= .ok () (w.setCell ⟨b,o,none⟩ (.int .u8 v)):=by
  simp only [storeCells,Sem.run_bind,hst,Result.andThen_ok,Sem.run_pure]
 rw [hsc]
theorem wpi{ops:Array Oper}{rest:List Oper}{o:Oper}{a:Act}{w:World}{Q:Exit→Act→World→Prop}(hg:o.guard=none)(m x v:Operand)(hop:o.op= .insert 144 m x v)(hd:o.dst=none){b n:Nat}{D:DataW Unit}
  (hm:a.eval m= .map (some b)) (hown:w.ownsMap Go.Proofs.Tryz.prog 3 (plainElem Go.Proofs.Tryz.prog 5) b n D) (hn:n<100) {k c:Int} (hx:a.eval x= .int .i64 k) (hv:a.eval v= .int .u8 c) (hk:(Lit.int .i64 k).wf=true) (hc:(Lit.int .u8 c).wf=true)
  (hK: ∀w',w'.ownsMap Go.Proofs.Tryz.prog 3 (plainElem Go.Proofs.Tryz.prog 5) b (n+1) (D.put (.int .i64 k) (.lit (.int .u8 c)))→w.grownBy w' (some b)→wpList Go.Proofs.Tryz.prog ops Q rest a w'):
  wpList Go.Proofs.Tryz.prog ops Q (o::rest) a w:=by
 obtain ⟨w',hrun,r1,r2⟩:=hown.update (int_keyed Go.Proofs.Tryz.underlying3) Go.Proofs.Tryz.underlying144 (Nat.lt_of_lt_of_le hn (by unfold maxLen;omega)) (keyOf_int_mk Go.Proofs.Tryz.underlying3 hk) (plainElem_int Go.Proofs.Tryz.underlying5 hc)
 refine wpList_plain hg fun K' hK'=>?_
 unfold Oper.wp
 simp [execOp,hop,hm,hx,hv,hrun,Result.andThen]
 have:=hK' _ _ (hK w' r1 r2)
 rw [Oper.upon_skip,hd];exact this
theorem sM{w w' w'':World}{b:Nat}(hb:b=w.heap.size)(h:w.grownBy w' none)(k:w'.grownBy w'' (some b)):w.grownBy w'' none:=
 h.andThen k fun j e=>by cases e;exact .inl (by omega)
set_option maxHeartbeats 1000000 in
set_option maxRecDepth 100000 in
theorem aDi{a:Act}{w:World}{Q:Exit→Act→World→Prop}{bC o0:Nat}{T0:TypeId}{vs:Array Value}(Mq:a.eval (.tmp 14)= .pointer (some ⟨bC,o0,none⟩))(hN:a.tmps.size=76)(hb:w.heap[bC]?=some (.cells vs T0 (0,0)))(hsz:o0+613≤vs.size)
  (hQ: ∀a' w',a'.tmps.size=76→a'.defers=a.defers→(∀t,T t=false→a'.eval (.tmp t)=a.eval (.tmp t))→w.grownBy w' (some bC)→(∃cur:Array Value,w'.heap[bC]?=some (.cells cur T0 (0,0))∧cur.size=vs.toList.length∧ ∀j,cur.toList[j]?=Ar o0 (fun _=>false) vs.toList j)→Q .normal a' w'):
  ac_.wp Go.Proofs.Tryz.prog Q a w:=by
 unfold ac_ eE
 simp only [fs,sn,Go.Proofs.Tryz.f33]
 refine wp_seq ?_
 refine wp_region_list ?_
 refine wS rfl (v:= .map (some w.heap.size)) (w':=w.alloc (.map #[] 0)) (by simp [execOp,run_makeMap]) ?_
 have K:Keyed Go.Proofs.Tryz.prog 3:=int_keyed Go.Proofs.Tryz.underlying3
 have hT:Go.Proofs.Tryz.prog.underlying 144=some (.map 3 5):=Go.Proofs.Tryz.underlying144
 have o0:=World.ownsMap_made w Go.Proofs.Tryz.prog 3 (plainElem (H:=Unit) Go.Proofs.Tryz.prog 5)
 have g0:w.grownBy (w.alloc (.map #[] 0)) none:=World.grownBy_alloc w _ none
 have hbw:bC<w.heap.size:=(Array.getElem?_eq_some_iff.1 hb).1
 have YX:(a.put (some 58) (.map (some w.heap.size))).eval (.tmp 58)= .map (some w.heap.size):=eY (by omega)
 generalize w.alloc (.map #[] 0)=w1 at*
 refine wpi rfl (.tmp 58) _ _ rfl rfl YX o0 (by omega) rfl rfl (by decide) (by decide) fun w2 o1 g1=>?_
 replace g1:=sM rfl g0 g1
 clear o0 g0
 refine wpi rfl (.tmp 58) _ _ rfl rfl YX o1 (by omega) rfl rfl (by decide) (by decide) fun w3 o2 g2=>?_
 replace g2:=sM rfl g1 g2
 clear o1 g1
 refine wpi rfl (.tmp 58) _ _ rfl rfl YX o2 (by omega) rfl rfl (by decide) (by decide) fun w4 o3 g3=>?_
 replace g3:=sM rfl g2 g3
 clear o2 g2
 refine wpi rfl (.tmp 58) _ _ rfl rfl YX o3 (by omega) rfl rfl (by decide) (by decide) fun w5 o4 g4=>?_
 replace g4:=sM rfl g3 g4
 clear o3 g3
 refine wpi rfl (.tmp 58) _ _ rfl rfl YX o4 (by omega) rfl rfl (by decide) (by decide) fun w6 o5 g5=>?_
 replace g5:=sM rfl g4 g5
 clear o4 g4
 replace o5:w6.ownsMap Go.Proofs.Tryz.prog 3 (plainElem (H:=Unit) Go.Proofs.Tryz.prog 5) w.heap.size 5 D5:=o5
 refine wS rfl (v:= .map (some w.heap.size)) (w':=w6) (by simp [execOp,YX]) ?_
 refine wpList_range_own w6 rfl (.tmp 59) 144 rfl 3 5 K hT (plainElem (H:=Unit) Go.Proofs.Tryz.prog 5) w.heap.size 5 D5 (eY (by rw [d_];omega)) o5 ?_
 intro w7 r7 g7 hs7
 have gw:w.grownBy w7 none:=g5.andThen g7 fun j e=>by cases e
 have hr6:w.heap.size<w6.heap.size:=o5.lt
 obtain ⟨r,hr⟩: ∃r,w6.heap.size=r:=⟨_,rfl⟩
 rw [hr] at r7 hr6 ⊢
 clear o5 g5 g7
 refine wp_block ?_
 refine wp_loop (fun a' w'=> ∃left cnt,LI a w bC T0 o0 vs.toList w.heap.size r a' w' left cnt) (fun _ w'=>w'.rangeLeft w.heap.size r) ⟨Maps.has D5,Maps.size D5,?_⟩ ?_
 ·refine ⟨by simp only [d_,hN],by simp only [EA],fun t ht=>?_,eY (by simp only [d_];omega),r7,fun _ h=>h,⟨vs,(gw.block bC hbw (by simp)).trans hb,by simp,fun j=>(YW _ _ _).symm⟩,⟨gw.os,gw.tape,gw.output,gw.size,fun i hi _=>gw.block i hi (by simp)⟩⟩
  have YI:t≠58:=by rintro rfl;cases ht
  have h59:t≠59:=by rintro rfl;cases ht
  have UU:t≠60:=by rintro rfl;cases ht
  rw [eD UU,eD h59,eD YI]
 clear r7 YX
 rintro a1 v1 ⟨left,cnt,L⟩
 refine wp_seq ?_
 refine wp_region_list ?_
 refine wpList_next_ranges_ii v1 rfl (.tmp 60) rfl 3 5 .i64 .u8 K Go.Proofs.Tryz.underlying3 Go.Proofs.Tryz.underlying5 w.heap.size r 5 D5 left cnt L.it L.rg ?_ ?_
 ·intro h0 hall
  refine wS rfl (v:= .bool false) (w':=v1) (by simp [execOp,eY (show 61<a1.tmps.size by rw [L.size];omega),Instr.extract]) ?_
  refine wp_seq ?_
  refine wp_cond_false (eY (by simp only [d_,L.size];omega)) ?_
  refine wp_exit ?_
  simp only [Exit.then,Exit.inBlock,if_true]
  have el:left=fun _=>false:=funext hall
  subst el
  refine hQ _ _ (by simp only [d_,L.size]) (by simp only [EA,L.defers]) (fun t ht=>?_) L.gr L.row
  have h61:t≠61:=by rintro rfl;cases ht
  have h62:t≠62:=by rintro rfl;cases ht
  rw [eD h62,eD h61,L.frame t ht]
 ·intro x c v2 cnt' hwx hwc hlx hat hrg hlt hgr ahl hen
  obtain ⟨m,hm,rfl,hc⟩:=aAc (L.sub _ hlx) hat
  obtain ⟨cur,Rq,hcs,p_⟩:=L.row
  have hcz:o0+613≤cur.size:=by rw [hcs];simpa using hsz
  have aDj:bC<v1.heap.size:=Nat.lt_of_lt_of_le hbw L.gr.size
  have Lb:v2.heap[bC]?=some (.cells cur T0 (0,0)):=(hgr.block bC aDj (by intro e;cases e;omega)).trans Rq
  have gr2:w.grownBy v2 (some bC):=⟨hgr.os.trans L.gr.os,hgr.tape.trans L.gr.tape,hgr.output.trans L.gr.output,Nat.le_trans L.gr.size hgr.size,fun i hi hne=>(hgr.block i (Nat.lt_of_lt_of_le hi L.gr.size) (by intro e;cases e;omega)).trans (L.gr.block i hi hne)⟩
  have s0:a1.tmps.size=76:=L.size
  have f0:=L.frame 14 rfl
  rw [Mq] at f0
  have i0:=L.it
  refine wS rfl (v:= .bool true) (w':=v2) (by simp [execOp,eY (show 61<a1.tmps.size by omega),Instr.extract]) ?_
  refine wp_seq ?_
  refine wp_cond_true (eY (by simp only [d_];omega)) ?_
  refine wp_skip ?_
  refine wp_block ?_
  refine wp_seq ?_
  refine wp_region_list ?_
  have s2:((a1.put (some 61) (.tuple #[.bool true,.int .i64 (10+m),.int .u8 c])).put (some 62) (.bool true)).tmps.size=76:=by simp only [d_,s0]
  have i2:((a1.put (some 61) (.tuple #[.bool true,.int .i64 (10+m),.int .u8 c])).put (some 62) (.bool true)).eval (.tmp 60)= .pointer (some ⟨r,0,none⟩):=by rw [eD (by decide),eD (by decide),i0]
  have f2: ∀t,T t=false→((a1.put (some 61) (.tuple #[.bool true,.int .i64 (10+m),.int .u8 c])).put (some 62) (.bool true)).eval (.tmp t)=a.eval (.tmp t):=fun t ht=>by
   have h61:t≠61:=by rintro rfl;cases ht
   have h62:t≠62:=by rintro rfl;cases ht
   rw [eD h62,eD h61,L.frame t ht]
  have d2:((a1.put (some 61) (.tuple #[.bool true,.int .i64 (10+m),.int .u8 c])).put (some 62) (.bool true)).defers=a.defers:=by simp only [EA,L.defers]
  show wpList _ _ _ _ ((a1.put (some 61) (.tuple #[.bool true,.int .i64 (10+m),.int .u8 c])).put (some 62) (.bool true)) v2
  generalize (a1.put (some 61) (.tuple #[.bool true,.int .i64 (10+m),.int .u8 c])).put (some 62) (.bool true)=a2 at s2 i2 f2 d2 ⊢
  refine wS rfl (v:= .tuple #[.int .i64 (10+m),.int .u8 c]) (w':=v2) (by simp [execOp,i2,hen]) ?_
  refine wS rfl (v:= .int .i64 (10+m)) (w':=v2) (by simp [execOp,eY,d_,s2,Instr.extract]) ?_
  refine wS rfl (v:= .int .u8 c) (w':=v2) (by simp [execOp,eY,eD,d_,s2,Instr.extract]) ?_
  refine wS rfl (v:= .int .i64 (10+m)) (w':=v2) (by simp [execOp,eY,eD,d_,s2]) ?_
  refine wS rfl (v:= .int .u8 c) (w':=v2) (by simp [execOp,eY,eD,d_,s2]) ?_
  have f14:=f2 14 rfl
  rw [Mq] at f14
  refine wp_region_list ?_
  refine wS rfl (v:= .int .i64 (10+m)) (w':=v2) (by simp [execOp,eY,eD,d_,s2]) ?_
  refine wS rfl (v:= .int .i64 (10+m)) (w':=v2) (by simp [execOp,eY,eD,d_,s2]) ?_
  refine wS rfl (v:= .int .u8 c) (w':=v2) (by simp [execOp,eY,eD,d_,s2]) ?_
  have n54:iG Go.Proofs.Tryz.prog 50=some 38:=by kernel_rfl
  have n52:iG Go.Proofs.Tryz.prog 48=some 19:=by kernel_rfl
  have n5:iG Go.Proofs.Tryz.prog 5=some 1:=by kernel_rfl
  have hm0:(0:Int)≤10+m∧(10+m:Int)<(19:Nat):=by omega
  have hm1:(10+(m:Int)).toNat=10+m:=by omega
  have F0: ∀W,(Instr.fieldAt 55 (.pointer (some ⟨bC,o0,none⟩)) 8).run Go.Proofs.Tryz.prog W= .ok (.pointer (some ⟨bC,o0+568,none⟩)) W:=fun W=>(mS Go.Proofs.Tryz.underlying55 rfl n54 (by decide) bC o0).trans rfl
  have F1: ∀W,(Instr.fieldAt 50 (.pointer (some ⟨bC,o0+568,none⟩)) 0).run Go.Proofs.Tryz.prog W= .ok (.pointer (some ⟨bC,o0+568,none⟩)) W:=fun W=>(mS Go.Proofs.Tryz.underlying50 rfl n52 (by decide) bC (o0+568)).trans rfl
  have F2: ∀W,(Instr.fieldAt 50 (.pointer (some ⟨bC,o0+568,none⟩)) 1).run Go.Proofs.Tryz.prog W= .ok (.pointer (some ⟨bC,o0+587,none⟩)) W:=fun W=>(mS Go.Proofs.Tryz.underlying50 rfl n52 (by decide) bC (o0+568)).trans rfl
  have X1: ∀W,(Instr.indexAt 48 (.pointer (some ⟨bC,o0+568,none⟩)) (.int .i64 (10+m))).run Go.Proofs.Tryz.prog W= .ok (.pointer (some ⟨bC,o0+578+m,none⟩)) W:=fun W=>(CE Go.Proofs.Tryz.underlying48 n5 bC (o0+568) .i64 _ hm0).trans (by rw [hm1,show o0+568+(10+m)*1=o0+578+m by omega])
  have X2: ∀W,(Instr.indexAt 48 (.pointer (some ⟨bC,o0+587,none⟩)) (.int .i64 (10+m))).run Go.Proofs.Tryz.prog W= .ok (.pointer (some ⟨bC,o0+597+m,none⟩)) W:=fun W=>(CE Go.Proofs.Tryz.underlying48 n5 bC (o0+587) .i64 _ hm0).trans (by rw [hm1,show o0+587+(10+m)*1=o0+597+m by omega])
  refine wS rfl (v:= .pointer (some ⟨bC,o0+568,none⟩)) (w':=v2) (by simp [execOp,eY,eD,d_,s2,f14,F0]) ?_
  refine wS rfl (v:= .pointer (some ⟨bC,o0+568,none⟩)) (w':=v2) (by simp [execOp,eY,eD,d_,s2,f14,F1]) ?_
  refine wS rfl (v:= .pointer (some ⟨bC,o0+578+m,none⟩)) (w':=v2) (by simp [execOp,eY,eD,d_,s2,f14,X1]) ?_
  have S1:=GG (v:=2) Lb (o:=o0+578+m) (by omega)
  refine wps rfl (w':=v2.setCell ⟨bC,o0+578+m,none⟩ (.int .u8 2)) (by simp [execOp,eY,eD,d_,s2,S1,ag6]) ?_
  have YY:(v2.setCell ⟨bC,o0+578+m,none⟩ (.int .u8 2)).heap[bC]?=some (.cells (cur.setIfInBounds (o0+578+m) (.int .u8 2)) T0 (0,0)):=Go.Lib.heap_setCell_same Lb _
  have S2:=GG (v:=c) YY (o:=o0+597+m) (by simp;omega)
  refine wS rfl (v:= .pointer (some ⟨bC,o0+568,none⟩)) (w':=_) (by simp [execOp,eY,eD,d_,oC,s2,f14,F0];rfl) ?_
  refine wS rfl (v:= .pointer (some ⟨bC,o0+587,none⟩)) (w':=_) (by simp [execOp,eY,eD,d_,oC,s2,f14,F2];rfl) ?_
  refine wS rfl (v:= .pointer (some ⟨bC,o0+597+m,none⟩)) (w':=_) (by simp [execOp,eY,eD,d_,oC,s2,f14,X2];rfl) ?_
  refine wps rfl (w':=(v2.setCell ⟨bC,o0+578+m,none⟩ (.int .u8 2)).setCell ⟨bC,o0+597+m,none⟩ (.int .u8 c)) (by simp [execOp,eY,eD,d_,oC,s2,S2]) ?_
  have aAf:=Go.Lib.heap_setCell_same YY (i:=o0+597+m) (.int .u8 c)
  have ada: ∀i,i≠bC→((v2.setCell ⟨bC,o0+578+m,none⟩ (.int .u8 2)).setCell ⟨bC,o0+597+m,none⟩ (.int .u8 c)).heap[i]?=v2.heap[i]?:=fun i hi=>by
   rw [Below.heap_setCell _ _ _ _ hi,Below.heap_setCell _ _ _ _ hi]
  have aDm:((v2.setCell ⟨bC,o0+578+m,none⟩ (.int .u8 2)).setCell ⟨bC,o0+597+m,none⟩ (.int .u8 c)).heap.size=v2.heap.size:=by simp [World.setCell]
  have g24:v2.grownBy ((v2.setCell ⟨bC,o0+578+m,none⟩ (.int .u8 2)).setCell ⟨bC,o0+597+m,none⟩ (.int .u8 c)) (some bC):=⟨rfl,rfl,rfl,by rw [aDm];exact Nat.le_refl _,fun i _ hne=>ada i fun e=>hne (by rw [e])⟩
  clear ada S1 S2 F0 F1 F2 X1 X2 YY Lb hen
  generalize (v2.setCell ⟨bC,o0+578+m,none⟩ (.int .u8 2)).setCell ⟨bC,o0+597+m,none⟩ (.int .u8 c)=v4 at*
  have aDn:some w.heap.size≠some bC:=by intro e;cases e;omega
  have aDo:some r≠some bC:=by intro e;cases e;omega
  have rg4:=hrg.kept g24 aDn aDo
  show (∃left' cnt',LI a w bC T0 o0 vs.toList w.heap.size r _ v4 left' cnt')∧v4.rangeLeft w.heap.size r<v1.rangeLeft w.heap.size r
  refine ⟨⟨fun z=>left z&& !z.sameKey (.int .i64 (10+m)),cnt',by simp only [d_,s2],by simp only [EA,d2],fun t ht=>?_,?_,rg4,fun k hk=>L.sub k (by simp at hk;exact hk.1),⟨_,aAf,by simp [hcs],fun j=>?_⟩,Q8 gr2 g24⟩,?_⟩
  ·have hn: ∀d,T d=true→t≠d:=by rintro d hd rfl;rw [ht] at hd;cases hd
   rw [oC]
   simp only [eD (hn 74 rfl),eD (hn 73 rfl),eD (hn 72 rfl),eD (hn 71 rfl),eD (hn 70 rfl),eD (hn 69 rfl),eD (hn 68 rfl),eD (hn 67 rfl),eD (hn 66 rfl),eD (hn 19 rfl),eD (hn 18 rfl),eD (hn 65 rfl),eD (hn 64 rfl),eD (hn 63 rfl),oC,f2 t ht]
  ·simp [eD,oC,i2]
  ·rw [←ag7 o0 left vs.toList hm hc cur.toList (by simpa using hcz) p_ j]
   simp
  ·rw [rg4.left_eq,L.rg.left_eq];exact hlt
end Go.Proofs.YtimbfadnabfabaaGreatDoor.Mp

namespace Go.Proofs.YtimbfadnabfabaaGreatDoor.Mp
open Go Go.Proofs Go.RowKit Go.Proofs.YtimbfadnabfabaaGreatDoor.Pm Go.Maps
set_option linter.unusedVariables false
set_option linter.unusedSimpArgs false
def Mr:List (Nat×Int):= [(578,2),(579,2),(580,2),(581,2),(582,2),(597,127),(598,21),(599,23),(600,18),(601,22)]
def stP(x:Nat×Int):List PO:= [⟨some 71,.Rk x.1 (.tmp 14),none⟩,⟨none,.store 1 (.tmp 71) (.const (.int .u8 x.2)),none⟩]
def unL:List Nat:= [18,19,58,59,60,61,62,63,64,65,66,67,68,69,70,71,72,73,74,75]
def unP(t:Nat):PO:=⟨some t,.Cx (.const (.map none)),none⟩
def aw7:List PO:= [⟨some 75,.load false 1 (.tmp 14),none⟩,⟨some 74,.ku .i64 (.tmp 75),none⟩,⟨none,.store 1 (.tmp 14) (.tmp 14),none⟩,⟨none,.store 1 (.tmp 14) (.tmp 75),none⟩,⟨some 75,.load true 613 (.tmp 14),none⟩]++(Mr.flatMap stP++unL.map unP)
def pL:aj:= .ai aw7
theorem mJ{γ:ek}{po:PO}{r:List PO}{st iH:St}(h:oN γ (po::r) st=some iH): ∃x,iP γ po st=some x∧oN γ r (apply x st)=some iH:=by
 simp only [oN] at h
 split at h
 ·rename_i x hx;exact ⟨x,hx,h⟩
 ·cases h
theorem pF{γ:ek}{d:Option Nat}{op:kj}{st:St}{x:Out}(h:iP γ ⟨d,op,none⟩ st=some x): ∃p aD tc,az γ st.h (d.getD 0) (bU st.s) op=some (p,aD)∧x=⟨d,p,aD,tc⟩:=by
 simp only [iP] at h
 split at h
 ·rename_i p aD hp
  exact ⟨p,aD,_,hp,(Option.some.inj h).symm⟩
 ·cases h
structure KS (qV:St) (i g o:Nat) (cs:List PV) (st:St):Prop where
 p:st.s 14= .r (.ptr i g o)
 s: ∀t,T t=false→st.s t=qV.s t
 h:st.h=up qV.h i ⟨g,some (.box cs)⟩
theorem HX{α:Type}(f:Nat→α)(i:Nat)(x y:α):up (up f i x) i y=up f i y:=by
 funext j;simp only [up];split<;>rfl
theorem T14{t d:Nat}(ht:T t=false)(hd:T d=true):t≠d:=by rintro rfl;rw [ht] at hd;cases hd
theorem KS.store{γ:ek}{qV st iH:St}{i g o:Nat}{cs:List PV}{r:List PO}(k:KS qV i g o cs st)(x:Nat×Int)(h:oN γ (stP x++r) st=some iH):
  ∃ju,KS qV i g o (bZ cs (o+x.1) [.d (.int .u8 x.2)]) ju∧oN γ r ju=some iH:=by
 obtain ⟨x1,h1,h⟩:=mJ h
 obtain ⟨p1,u1,t1,e1,rfl⟩:=pF h1
 have q14:bU st.s (.tmp 14)= .r (.ptr i g o):=k.p
 simp only [az,q14,Option.some.injEq,Prod.mk.injEq] at e1
 obtain ⟨rfl,rfl⟩:=e1
 obtain ⟨x2,h2,h⟩:=mJ h
 obtain ⟨p2,u2,t2,e2,rfl⟩:=pF h2
 have q71:bU (apply ⟨some 71,.r (.ptr i g (o+x.1)),[],t1⟩ st).s (.tmp 71)= .r (.ptr i g (o+x.1)):=by
  show up st.s 71 _ 71=_
  exact aQ _ _ _
 have hh:(apply ⟨some 71,.r (.ptr i g (o+x.1)),[],t1⟩ st).h=up qV.h i ⟨g,some (.box cs)⟩:=k.h
 have hl:Pm.look (up qV.h i ⟨g,some (.box cs)⟩) i g=some (.box cs):=by unfold Pm.look;rw [aQ,if_pos rfl]
 have qc:(bU (apply ⟨some 71,.r (.ptr i g (o+x.1)),[],t1⟩ st).s (.const (.int .u8 x.2))).cells?=some [.d (.int .u8 x.2)]:=rfl
 simp only [az,q71,qc,hh,hl] at e2
 split at e2
 ·cases e2
  refine ⟨_,⟨?_,fun t ht=>?_,?_⟩,h⟩
  ·show up st.s 71 (.r (.ptr i g (o+x.1))) 14=_
   rw [dK _ _ _ _ (by decide)];exact k.p
  ·show up st.s 71 (.r (.ptr i g (o+x.1))) t=_
   rw [dK _ _ _ _ (T14 ht rfl)];exact k.s t ht
  ·show eJ st.h _=_
   simp only [eJ,k.h,HX]
 ·cases e2
def YZ(o:Nat)(cs:List PV):List PV:=Mr.foldl (fun cs x=>bZ cs (o+x.1) [.d (.int .u8 x.2)]) cs
theorem KS.stores{γ:ek}{qV iH:St}{i g o:Nat}{r:List PO}: ∀(l:List (Nat×Int)) {cs:List PV} {st:St},KS qV i g o cs st→oN γ (l.flatMap stP++r) st=some iH→
  ∃ju,KS qV i g o (l.foldl (fun cs x=>bZ cs (o+x.1) [.d (.int .u8 x.2)]) cs) ju∧oN γ r ju=some iH
 | [],_,st,k,h=>⟨st,k,h⟩
 | x::l,_,st,k,h=>by
  rw [List.flatMap_cons,List.append_assoc] at h
  obtain ⟨ju,k2,h2⟩:=k.store x h
  exact KS.stores l k2 h2
theorem uns{γ:ek}{iH:St}: ∀(l:List Nat) {st:St},oN γ (l.map unP) st=some iH→iH.h=st.h∧(∀t,l.contains t=false→iH.s t=st.s t)∧ ∀t,l.contains t=true→iH.s t= .un
 | [],st,h=>by
  simp only [List.map_nil,oN,Option.some.injEq] at h
  subst h
  exact ⟨rfl,fun _ _=>rfl,fun t ht=>by simp at ht⟩
 | x::l,st,h=>by
  obtain ⟨x1,h1,h⟩:=mJ h
  obtain ⟨p1,u1,t1,e1,rfl⟩:=pF h1
  have e1:some (PV.un,([]:eu))=some (p1,u1):=e1
  cases e1
  obtain ⟨q1,q2,q3⟩:=uns l h
  refine ⟨q1,fun t ht=>?_,fun t ht=>?_⟩
  ·simp at ht
   rw [q2 t (by simpa using ht.2)]
   exact dK _ _ _ _ ht.1
  ·by_cases hl:l.contains t=true
   ·exact q3 t hl
   ·rw [q2 t (by simpa using hl)]
    simp at ht hl
    rcases ht with rfl | ht
    ·exact aQ _ _ _
    ·exact absurd ht hl
theorem unT(t:Nat):unL.contains t=T t:=by
 by_cases h:t≤75
 ·have: ∀t,t≤75→unL.contains t=T t:=by decide
  exact this t h
 ·have h1:unL.contains t=false:=by
   simp [unL];omega
  rw [h1]
  have a1:Nat.beq t 18=false:=by
   cases hq:Nat.beq t 18 with
   | false=>rfl
   | true=>have:=Nat.eq_of_beq_eq_true hq;omega
  have a2:Nat.beq t 19=false:=by
   cases hq:Nat.beq t 19 with
   | false=>rfl
   | true=>have:=Nat.eq_of_beq_eq_true hq;omega
  have a3:Nat.ble t 75=false:=by
   cases hq:Nat.ble t 75 with
   | false=>rfl
   | true=>have:=Nat.le_of_ble_eq_true hq;omega
  unfold T
  rw [a1,a2,a3];simp
theorem EB(cs:List PV)(o:Nat)(x p:PV)(h:cs[o]?=some p):bZ (bZ cs o [x]) o [p]=cs:=by
 obtain ⟨hl,hp⟩:=List.getElem?_eq_some_iff.1 h
 subst hp
 apply List.ext_getElem?
 intro j
 have e1: ∀(l:List PV) (y:PV),o<l.length→bZ l o [y]=l.set o y:=fun l y hy=>by
  unfold Pm.bZ
  rw [List.set_eq_take_append_cons_drop,if_pos hy];simp
 rw [e1 cs x hl,e1 _ _ (by simpa using hl),List.set_set]
 by_cases hj:o=j
 ·subst hj;simp [hl]
 ·rw [List.getElem?_set_ne hj]
theorem aph{p:PV}{a:IntKind×Int}(h:p.int?=some a):p= .d (.int a.1 a.2):=by
 unfold PV.int? at h
 split at h
 ·cases h;rfl
 ·cases h
theorem ag9{γ:ek}{st iH:St}(h:oN γ aw7 st=some iH): ∃i g o cs,st.s 14= .r (.ptr i g o)∧Pm.look st.h i g=some (.box cs)∧gT cs=true∧o+613≤cs.length∧
  (∀t,T t=false→iH.s t=st.s t)∧(∀t,T t=true→iH.s t= .un)∧iH.h=up st.h i ⟨g,some (.box (YZ o cs))⟩:=by
 obtain ⟨x1,h1,h⟩:=mJ h
 obtain ⟨p1,u1,t1,e1,rfl⟩:=pF h1
 have Vz:u1= []:=by
  simp only [az] at e1
  split at e1
  ·split at e1
   ·split at e1
    ·split at e1
     ·cases e1;rfl
     ·cases e1
    ·cases e1
   ·split at e1
    ·cases e1;rfl
    ·cases e1
   ·cases e1
  ·split at e1
   ·cases e1;rfl
   ·cases e1
  ·cases e1
 subst Vz
 obtain ⟨x0,h0,h⟩:=mJ h
 obtain ⟨p0,u0,t0,e0,rfl⟩:=pF h0
 have e0:az γ st.h 74 (bU (up st.s 75 p1)) (.ku .i64 (.tmp 75))=some (p0,u0):=e0
 have s75:bU (up st.s 75 p1) (.tmp 75)=p1:=aQ _ _ _
 simp only [az,s75] at e0
 obtain ⟨k,n,rfl⟩: ∃k n,p1= .d (.int k n):=by
  split at e0
  ·rename_i a ha;exact ⟨_,_,aph ha⟩
  ·cases e0
 have hu0:u0= []:=by
  split at e0
  ·cases e0;rfl
  ·cases e0
 subst hu0
 clear e0
 obtain ⟨x2,h2,h⟩:=mJ h
 obtain ⟨p2,u2,t2,e2,rfl⟩:=pF h2
 have s14: ∀x y,bU (up (up st.s 75 x) 74 y) (.tmp 14)=st.s 14:=fun x y=>(dK _ _ _ _ (by decide)).trans (dK _ _ _ _ (by decide))
 have e2:az γ st.h 0 (bU (up (up st.s 75 (.d (.int k n))) 74 p0)) (.store 1 (.tmp 14) (.tmp 14))=some (p2,u2):=e2
 simp only [az,s14] at e2
 split at e2
 ·rename_i i g o new Va tQ
  rw [Va] at tQ
  have tQ:some [PV.r (.ptr i g o)]=some new:=tQ
  cases tQ
  split at e2
  ·rename_i cs hl
   split at e2
   ·rename_i hh
    obtain ⟨_,hle,_,kK,aFL⟩:=hh
    cases e2
    simp only [az,show bU st.s (.tmp 14)=st.s 14 from rfl,Va,hl,kK,if_true] at e1
    have hcs:cs[o]?=some (.d (.int k n)):=by
     rw [show Pm.part false cs o 1=cs[o]? from rfl] at e1
     cases hq:cs[o]? with
     | none=>rw [hq] at e1;cases e1
     | some q=>rw [hq] at e1;cases e1;rfl
    obtain ⟨x3,h3,h⟩:=mJ h
    obtain ⟨p3,u3,t3,e3,rfl⟩:=pF h3
    have e3:az γ (up st.h i ⟨g,some (.box (bZ cs o [.r (.ptr i g o)]))⟩) 0 (bU (up (up st.s 75 (.d (.int k n))) 74 p0)) (.store 1 (.tmp 14) (.tmp 75))=some (p3,u3):=e3
    have s75:bU (up (up st.s 75 (.d (.int k n))) 74 p0) (.tmp 75)= .d (.int k n):=(dK _ _ _ _ (by decide)).trans (aQ _ _ _)
    have hl2: ∀b,Pm.look (up st.h i ⟨g,some b⟩) i g=some b:=fun b=>by unfold Pm.look;rw [aQ,if_pos rfl]
    simp only [az,s14,Va,s75,show (PV.d (.int k n)).cells?=some [.d (.int k n)] from rfl,hl2] at e3
    split at e3
    ·cases e3
     obtain ⟨x4,h4,h⟩:=mJ h
     obtain ⟨p4,u4,t4,e4,rfl⟩:=pF h4
     have e4:az γ (up (up st.h i ⟨g,some (.box (bZ cs o [.r (.ptr i g o)]))⟩) i ⟨g,some (.box (bZ (bZ cs o [.r (.ptr i g o)]) o [.d (.int k n)]))⟩) 75 (bU (up (up st.s 75 (.d (.int k n))) 74 p0)) (.load true 613 (.tmp 14))=some (p4,u4):=e4
     rw [HX,EB cs o _ _ hcs] at e4
     simp only [az,s14,Va,hl2,kK,if_true] at e4
     have hlen:o+613≤cs.length∧u4= []:=by
      unfold Pm.part at e4
      simp only [if_true] at e4
      split at e4
      ·rename_i q hq
       split at hq
       ·rename_i hle;cases e4;exact ⟨hle,rfl⟩
       ·cases hq
      ·cases e4
     obtain ⟨hlen,rfl⟩:=hlen
     have K:KS st i g o cs (apply ⟨some 75,p4,[],t4⟩ (apply ⟨none,.un,[(i,⟨g,some (.box (bZ (bZ cs o [.r (.ptr i g o)]) o [.d (.int k n)]))⟩)],t3⟩ (apply ⟨none,.un,[(i,⟨g,some (.box (bZ cs o [.r (.ptr i g o)]))⟩)],t2⟩ (apply ⟨some 74,p0,[],t0⟩ (apply ⟨some 75,.d (.int k n),[],t1⟩ st))))):=by
      refine ⟨?_,fun t ht=>?_,?_⟩
      ·show up (up (up st.s 75 (.d (.int k n))) 74 p0) 75 p4 14=_
       rw [dK _ _ _ _ (by decide),dK _ _ _ _ (by decide),dK _ _ _ _ (by decide)];exact Va
      ·show up (up (up st.s 75 (.d (.int k n))) 74 p0) 75 p4 t=_
       rw [dK _ _ _ _ (T14 ht rfl),dK _ _ _ _ (T14 ht rfl),dK _ _ _ _ (T14 ht rfl)]
      ·show up (up st.h i ⟨g,some (.box (bZ cs o [.r (.ptr i g o)]))⟩) i ⟨g,some (.box (bZ (bZ cs o [.r (.ptr i g o)]) o [.d (.int k n)]))⟩=_
       rw [HX,EB cs o _ _ hcs]
     obtain ⟨ju,K2,h⟩:=KS.stores Mr K h
     obtain ⟨q1,q2,q3⟩:=uns unL h
     refine ⟨i,g,o,cs,Va,hl,kK,hlen,fun t ht=>?_,fun t ht=>q3 t (by rw [unT];exact ht),q1.trans K2.h⟩
     rw [q2 t (by rw [unT];exact ht)]
     exact K2.s t ht
    ·cases e3
   ·cases e2
  ·rename_i e' k' cs hl
   have:pT [PV.r (.ptr i g o)]=none:=rfl
   rw [this] at e2;cases e2
  ·cases e2
 ·cases e2
def Y0(o:Nat)(vs:List Value):List Value:=Mr.foldl (fun vs x=>vs.set (o+x.1) (.int .u8 x.2)) vs
structure RW (X:Nat→Prop) (w:World) (R:Ref→Value→Prop) (cs:List PV) (vs:List Value):Prop where
 out:aY X w R cs vs
theorem apj{X:Nat→Prop}{w:World}{R:Ref→Value→Prop}(o:Nat): ∀(l:List (Nat×Int)) {cs:List PV} {vs:List Value},(∀x∈l,o+x.1<vs.length)→RW X w R cs vs→
  RW X w R (l.foldl (fun cs x=>bZ cs (o+x.1) [.d (.int .u8 x.2)]) cs) (l.foldl (fun vs x=>vs.set (o+x.1) (.int .u8 x.2)) vs)
 | [],_,_,_,h=>h
 | x::l,cs,vs,hl,h=>by
  have hx:=hl x (List.mem_cons_self ..)
  have:=h.out.bZ (new:= [.d (.int .u8 x.2)]) (news:= [.int .u8 x.2]) ⟨_,_,rfl,rfl,rfl⟩ (o+x.1)
  have e:vs.take (o+x.1)++ [Value.int .u8 x.2]++vs.drop (o+x.1+ [Value.int .u8 x.2].length)=vs.set (o+x.1) (.int .u8 x.2):=by
   rw [List.set_eq_take_append_cons_drop,if_pos hx];simp
  rw [e] at this
  exact apj o l (fun y hy=>by rw [List.length_set];exact hl y (List.mem_cons_of_mem _ hy)) ⟨this⟩
theorem Ov(o:Nat): ∀(l:List (Nat×Int)) (cs:List PV),(∀x∈l,o+x.1<cs.length)→(l.foldl (fun cs x=>bZ cs (o+x.1) [.d (.int .u8 x.2)]) cs).length=cs.length
 | [],_,_=>rfl
 | x::l,cs,h=>by
  have e:=oK cs (o+x.1) [.d (.int .u8 x.2)] (by have:=h x (List.mem_cons_self ..);show o+x.1+1≤_;omega)
  rw [List.foldl_cons,Ov o l _ (fun y hy=>by rw [e];exact h y (List.mem_cons_of_mem _ hy)),e]
theorem apk(o:Nat)(vs:List Value)(hl:o+613≤vs.length)(j:Nat):(Y0 o vs)[j]?=Ar o (fun _=>false) vs j:=by
 have h5: ∀m:Nat,m<5→m=0∨m=1∨m=2∨m=3∨m=4:=fun m h=>by omega
 unfold Y0 Mr
 simp only [List.foldl_cons,List.foldl_nil]
 by_cases a:o+578≤j∧j≤o+582
 ·have hc:Ar o (fun _=>false) vs j=some (.int .u8 2):=by unfold Ar;rw [if_pos ⟨a.1,a.2,rfl⟩]
  rw [hc]
  obtain ⟨m,rfl⟩: ∃m,j=o+578+m:=⟨j-o-578,by omega⟩
  rcases h5 m (by omega) with rfl | rfl | rfl | rfl | rfl<;>simp [List.getElem?_set]<;>omega
 ·by_cases b:o+597≤j∧j≤o+601
  ·have hc:Ar o (fun _=>false) vs j=some (.int .u8 ([127,21,23,18,22].getD (j-o-597) 0)):=by unfold Ar;rw [if_neg (fun q=>a ⟨q.1,q.2.1⟩),if_pos ⟨b.1,b.2,rfl⟩]
   rw [hc]
   obtain ⟨m,rfl⟩: ∃m,j=o+597+m:=⟨j-o-597,by omega⟩
   rw [show o+597+m-o-597=m by omega]
   rcases h5 m (by omega) with rfl | rfl | rfl | rfl | rfl<;>simp [List.getElem?_set]<;>omega
  ·have hc:Ar o (fun _=>false) vs j=vs[j]?:=by unfold Ar;rw [if_neg (fun q=>a ⟨q.1,q.2.1⟩),if_neg (fun q=>b ⟨q.1,q.2.1⟩)]
   rw [hc]
   repeat rw [List.getElem?_set_ne (by omega)]
theorem Vb{cs:List PV}(h:3≤cs.length):gT cs=true:=by
 unfold gT
 split<;>first | rfl | (simp at h)
theorem adb{o:Nat}{x:Nat×Int}(hx:x∈Mr):o+x.1<o+613:=by
 have: ∀x∈Mr,x.1<613:=by decide
 have:=this x hx
 omega
theorem avz{o:Nat}{cs:List PV}(h:o+613≤cs.length):gT (YZ o cs)=true:=by
 refine Vb ?_
 unfold YZ
 rw [Ov o Mr cs fun x hx=>Nat.lt_of_lt_of_le (adb hx) h]
 omega
theorem apl{X:Nat→Prop}{w:World}{R:Ref→Value→Prop}{o:Nat}{cs:List PV}{vs:List Value}(hl:o+613≤vs.length)(h:RW X w R cs vs):RW X w R (YZ o cs) (Y0 o vs):=by
 have h2:=apj (X:=X) (w:=w) (R:=R) o Mr (cs:=cs) (vs:=vs) (fun x hx=>Nat.lt_of_lt_of_le (adb hx) hl) h
 unfold YZ Y0
 generalize Mr=l at*
 exact h2
theorem aAj:fH Go.Proofs.Tryz.prog 76 ac_ pL:=by
 intro γ w0 aP E m kL n st bl e a w Q he hr hQ
 simp only [pL,prun] at he
 split at he
 ·rename_i iH hst
  simp only [Option.some.injEq,Prod.mk.injEq] at he
  obtain ⟨rfl,rfl⟩:=he
  obtain ⟨i,g,o,cs,Va,hl,kK,hlen,q1,q2,q3⟩:=ag9 hst
  obtain ⟨⟨φ,hm,hs⟩,CP,hsz⟩:=hr
  obtain ⟨hg,hb⟩:=hm.iz hl
  have Mq:=hs 14
  rw [Va] at Mq
  obtain ⟨_,_,Mq⟩:=Mq
  obtain ⟨bC,c,en,Mq⟩:=Mq hg (by rw [hb];rfl)
  have dz:=hm.rep i _ hb
  rw [en] at dz
  obtain ⟨vs,T0,⟨VR,hb0⟩,hrl⟩:=dz
  rw [hb0,Nat.zero_add] at Mq
  rw [lT T0 kK hrl] at VR
  have GN:=hrl.len
  have RB:o+613≤vs.size:=by have:vs.toList.length=vs.size:=(by simp);omega
  refine aDi Mq hsz VR RB fun a' w' s' d' f' g' hrow=>?_
  obtain ⟨cur,Rq,hcs,p_⟩:=hrow
  have Lb:cur.toList=Y0 o vs.toList:=by
   apply List.ext_getElem?
   intro j
   rw [p_ j,apk o _ (by simpa using RB) j]
  have aDt:bC<w.heap.size:=(Array.getElem?_eq_some_iff.1 VR).1
  have hk:=avz hlen
  have hF: ∀{X:Nat→Prop} {W:World} {R:Ref→Value→Prop},RW X W R cs vs.toList→RW X W R (YZ o cs) (Y0 o vs.toList):=fun h=>apl (by simpa using RB) h
  generalize YZ o cs=cF at*
  generalize Y0 o vs.toList=vF at*
  obtain ⟨H',hH⟩: ∃H',H'=up st.h i ⟨g,some (.box cF)⟩:=⟨_,rfl⟩
  have Hi:H' i=⟨g,some (.box cF)⟩:=by rw [hH,aQ]
  have Hj: ∀j,j≠i→H' j=st.h j:=fun j hj=>by rw [hH,dK _ _ _ _ hj]
  have k1: ∀j,¬j=i→φ j=φ j∧H' j=st.h j:=fun j hj=>⟨rfl,Hj j hj⟩
  have k2: ∀j,j=i→(st.h j).g<(H' j).g∨(φ j=φ j∧(H' j).g=(st.h j).g∧like (st.h j).b (H' j).b):=fun j hj=>by
   subst hj
   refine .inr ⟨rfl,by rw [Hi,hg],?_⟩
   rw [Hi,hb];trivial
  have k3: ∀b,b<w.heap.size→(∀i' c,i'=i→φ i'≠ .blk b c)→w'.heap[b]?=w.heap[b]?:=fun b hbw hn=>g'.block b hbw (fun e=>by cases e;exact hn i c rfl en)
  have k4: ∀j b c,j=i→φ j= .blk b c→b<w'.heap.size∧(w.heap.size≤b∨ ∃c',φ j= .blk b c'):=fun j b c' hj hb'=>by
   subst hj
   refine ⟨?_,.inr ⟨c',hb'⟩⟩
   rw [en] at hb';cases hb'
   exact Nat.lt_of_lt_of_le aDt g'.size
  have k9: ∀j,j=i→j<m.length→(∀b0,wT b0 (st.h j).b→wT b0 (H' j).b)∧(φ j=φ j∨ ∃e k cs,(st.h j).b=some (.own e k cs)):=fun j hj _=>by
   subst hj
   refine ⟨fun b0 hk=>?_,.inl rfl⟩
   rw [Hi];rw [hb] at hk
   cases b0<;>exact hk
  have k8:Tr E φ st.h w φ H' w'→ ∀j b,j=i→(H' j).b=some b→Mu (cV E φ) w' φ H' (φ j) b:=fun tr j b hj hb'=>by
   subst hj
   rw [Hi] at hb'
   cases hb'
   rw [en]
   have hr2:aY (cV E φ) w' (bh φ H') cF cur.toList:=by
    rw [Lb]
    exact (hF ⟨tr.l hrl⟩).out
   exact ⟨cur,T0,⟨by rw [lT T0 hk hr2];exact Rq,hb0⟩,hr2⟩
  have U:=hm.upd (fun j=>j=i) k1 k2 k3 k4 (fun i' j b c1 c2 hi hj _ _=>hi.trans hj.symm) k9 g'.size ⟨g'.os,g'.tape,g'.output⟩ k8
  rw [←hH] at q3
  obtain ⟨m1,t1⟩:=U
  refine hQ a' w' ⟨⟨φ,by rw [q3];exact m1,fun t=>?_⟩,d'.trans CP,s'⟩
  rw [q3]
  cases hT:T t with
  | true=>rw [q2 t hT];trivial
  | false=>rw [q1 t hT,f' t hT];exact t1.v (hs t)
 ·cases he
end Go.Proofs.YtimbfadnabfabaaGreatDoor.Mp

namespace Go.Proofs.YtimbfadnabfabaaGreatDoor.Mp
open Go Go.Proofs Go.RowKit Go.Proofs.YtimbfadnabfabaaGreatDoor.Pm Go.Maps
set_option linter.unusedVariables false
section
variable {P : Program} {N : Nat} {c c1 c2 : Code} {p p1 p2 q : aj}
theorem sq(hc:c= .seq c1 c2)(hp:p= .seq p1 p2)(h1:fH P N c1 p1)(h2:fH P N c2 p2):fH P N c p:=by
 rw [hc,hp];exact fH.seq h1 h2
end
theorem avA{br:List Nat}{fc:aK}(hN:fc.N=76)(hR:qU Go.Proofs.Tryz.prog Go.Proofs.Tryz.f33.results.toList=some fc.res)(h:fH Go.Proofs.Tryz.prog 76 eE fc.body):wQ Go.Proofs.Tryz.prog br 33 fc:=
 ⟨Go.Proofs.Tryz.f33,eE,by kernel_rfl,by kernel_rfl,by kernel_rfl,hN.trans (by kernel_rfl),h,hR⟩
end Go.Proofs.YtimbfadnabfabaaGreatDoor.Mp

