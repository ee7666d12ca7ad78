/- The small machine: its operations are the language's: those that make values. No program is named here. -/
import Derived.Test.YtimbfadnabfabaaGreatDoorPe
import Derived.Laws.IdiomStrings
namespace Go.Proofs.YtimbfadnabfabaaGreatDoor.Pm
open Go.RowKit

section
variable {P : Program} {E : Nat → Prop} {m : List bH} {aP φ : Nat → cg} {H : Nat → cq} {w0 w : World}
theorem kz{s:Sem Value}{v:Value}{w':World}(h:s.run P w= .ok v w'):((do pure (.value (←s)):Sem Next)).run P w= .ok (.value v) w':=by
 simp [h]
theorem axg{s:Sem Unit}{w':World}(h:s.run P w= .ok () w'):((do s;pure .skip:Sem Next)).run P w= .ok .skip w':=by
 simp [h]
theorem dQ(hm:Mem E m aP w0 φ H w){s:Sem Value}{p:PV}{v:Value}(hr:s.run P w= .ok v w)(hv:cJ (cV E φ) w (bh φ H) p v):Does P E m aP w0 φ H w p [] (do pure (.value (←s))):=
 EI hm (kz hr) hv
abbrev eM(E:Nat→Prop)(φ:Nat→cg)(H:Nat→cq)(w:World)(ρ:Operand→PV)(ev:Operand→Value):Prop:= ∀x,cJ (cV E φ) w (bh φ H) (ρ x) (ev x)
variable {ρ : Operand → PV} {ev : Operand → Value} {γ : ek} {d : Nat}

theorem Vn{op:BinOp}{k:IntKind}{a b n:Int}(t:TypeId)(h:arith op k a b=some n):(binOp op t (.int k a) (.int k b)).run P w= .ok (.int k n) w:=by
 cases op<;>simp [arith] at h<;>try (subst h;simp [binOp,Op.intArith,Op.intBits,cO])
 ·simp [binOp,Op.intDiv,h]
 ·simp [binOp,Op.intDiv,h]
theorem apG{op:BinOp}{k k':IntKind}{a b n:Int}(t:TypeId)(h:Rf op k a b=some n):(binOp op t (.int k a) (.int k' b)).run P w= .ok (.int k n) w:=by
 cases op<;>simp [Rf] at h
 all_goals
  obtain ⟨h0,rfl⟩:=h
  have: ¬b<0:=by omega
  simp [binOp,Op.shift,this]
theorem aho{op:BinOp}{k:IntKind}{a b:Int}{r:Bool}(t:TypeId)(h:ahc op a b=some r):(binOp op t (.int k a) (.int k b)).run P w= .ok (.bool r) w:=by
 have e:((a==b):Bool)=decide (a=b):=by by_cases e:a=b<;>simp [e]
 cases op<;>simp only [ahc,Option.some.injEq,reduceCtorEq] at h<;>subst h<;>simp [binOp,Op.intCmp,e,bne]
theorem ahp(op:BinOp)(t:TypeId)(x y:Operand)(k k':IntKind)(a b:Int):(eqGuard op t x y (.int k a) (.int k' b)).run P w= .ok () w:=by
 cases op<;>rfl
theorem Ru(op:BinOp)(t:TypeId)(x y:Operand)(a b:ByteArray):(eqGuard op t x y (.string a) (.string b)).run P w= .ok () w:=by
 cases op<;>rfl
theorem MF(op:BinOp)(t:TypeId)(x y:Operand)(a b:Bool):(eqGuard op t x y (.bool a) (.bool b)).run P w= .ok () w:=by
 cases op<;>rfl
theorem toList_ba(l:List UInt8):(⟨l.toArray⟩:ByteArray).toList=l:=by rw [ByteArray.toList_eq]
theorem tR(l:List UInt8):(⟨l.toArray⟩:ByteArray).size=l.length:=rfl
theorem adm{op:BinOp}{a b:List UInt8}{r:Bool}(t:TypeId)(h:ahd op a b=some r):(binOp op t (.string ⟨a.toArray⟩) (.string ⟨b.toArray⟩)).run P w= .ok (.bool r) w:=by
 have e:((a==b):Bool)=decide (a=b):=by by_cases e:a=b<;>simp [e]
 cases op<;>simp only [ahd,Option.some.injEq,reduceCtorEq] at h<;>subst h<;>simp [binOp,Op.stringOp,toList_ba,e]
theorem apH(a b:List UInt8):(⟨a.toArray⟩:ByteArray)++⟨b.toArray⟩=⟨(a++b).toArray⟩:=by
 apply ByteArray.ext
 simp [ByteArray.data_append]
theorem adn{a b:List UInt8}(t:TypeId)(h:((a.length+b.length:Nat):Int)≤IntKind.i64.max):(binOp .add t (.string ⟨a.toArray⟩) (.string ⟨b.toArray⟩)).run P w= .ok (.string ⟨(a++b).toArray⟩) w:=by
 have: ¬(((a.length+b.length:Nat):Int)>IntKind.i64.max):=by omega
 simp only [binOp,Op.stringOp,tR,if_neg this,apH]
 rfl

theorem MG{op:BinOp}{neg:Bool}(hop:(op= .eql∧neg=false)∨(op= .neq∧neg=true)){t:TypeId}{ms:Array (String×TypeId)}{x y:Operand}{p:PV}{aD:eu}(hm:Mem E m aP w0 φ H w)(bK:eM E φ H w ρ ev)(hu:P.underlying t=some (.interface ms))(hy:y= .const .nilIface)(hye:ev y= .nilIface)(he:az γ H d ρ (.isE neg x)=some (p,aD)):
  Does P E m aP w0 φ H w p aD (do pure (.value (←(do eqGuard op t x y (ev x) (ev y);binOp op t (ev x) (ev y))))):=by
 have hx:=bK x
 simp only [az] at he
 split at he
 ·rename_i b e1;cases he
  rw [e1] at hx
  rw [hye]
  have g: ∀v:Value,(v= .nilIface∨ ∃t' p',v= .iface t' p')→(eqGuard op t x y v .nilIface).run P w= .ok () w:=by
   rintro v (rfl | ⟨t',p',rfl⟩)<;>rcases hop with ⟨rfl,_⟩ | ⟨rfl,_⟩<;>subst hy<;>simp [eqGuard]
  have key: ∀D,(Op.equalIn (D+1) t (ev x) .nilIface).run P w= .ok (!b) w:=by
   intro D
   rcases hx with ⟨rfl,h⟩ | ⟨rfl,t',p',h⟩<;>rw [h]<;>simp [Op.equalIn,run_underlying hu]
  have hv:ev x= .nilIface∨ ∃t' p',ev x= .iface t' p':=by
   rcases hx with ⟨_,h⟩ | ⟨_,t',p',h⟩
   ·exact .inl h
   ·exact .inr ⟨t',p',h⟩
  have k2:=key 9999
  have g2:=g _ hv
  rcases hop with ⟨rfl,rfl⟩ | ⟨rfl,rfl⟩
  ·refine dQ hm (v:= .bool (!b)) ?_ rfl
   rcases hx with ⟨rfl,h⟩ | ⟨rfl,t',p',h⟩<;>rw [h] at k2 g2 ⊢ <;>simp only [Sem.run_bind,g2,Result.andThen_ok,binOp,Op.equal,Op.maxDepth,Sem.run_pure]<;>rw [k2]<;>rfl
  ·refine dQ hm (v:= .bool b) ?_ rfl
   rcases hx with ⟨rfl,h⟩ | ⟨rfl,t',p',h⟩<;>rw [h] at k2 g2 ⊢ <;>simp only [Sem.run_bind,g2,Result.andThen_ok,binOp,Op.equal,Op.maxDepth,Sem.run_pure]<;>rw [k2]<;>rfl
 ·cases he
theorem MH{op:BinOp}{neg:Bool}(hop:(op= .eql∧neg=false)∨(op= .neq∧neg=true)){t e:TypeId}{x y:Operand}{p:PV}{aD:eu}(hm:Mem E m aP w0 φ H w)(bK:eM E φ H w ρ ev)(hu:P.underlying t=some (.slice e))(hy:ev y= .slice none 0 0)(he:az γ H d ρ (.isN neg x)=some (p,aD)):
  Does P E m aP w0 φ H w p aD (do pure (.value (←(do eqGuard op t x y (ev x) (ev y);binOp op t (ev x) (ev y))))):=by
 have hx:=bK x
 have fin: ∀{a:Option Addr} {n c:Nat} {z:Bool},ev x= .slice a n c→a.isNone=z→p= .d (.bool (if neg then !z else z))→aD= []→Does P E m aP w0 φ H w p aD (do pure (.value (←(do eqGuard op t x y (ev x) (ev y);binOp op t (ev x) (ev y))))):=by
  intro a n c z hv hz hp ahq
  subst hp;subst ahq;subst hz
  rw [hv,hy]
  have key: ∀D,(Op.equalIn (D+1) t (.slice a n c) (.slice none 0 0)).run P w= .ok a.isNone w:=by
   intro D
   cases a<;>simp [Op.equalIn,run_underlying hu]
  have g:(eqGuard op t x y (.slice a n c) (.slice none 0 0)).run P w= .ok () w:=by rcases hop with ⟨rfl,_⟩ | ⟨rfl,_⟩<;>rfl
  rcases hop with ⟨rfl,rfl⟩ | ⟨rfl,rfl⟩
  ·refine dQ hm (v:= .bool a.isNone) ?_ rfl
   simp only [Sem.run_bind,g,Result.andThen_ok,binOp,Op.equal,Op.maxDepth,Sem.run_pure]
   rw [key 9999]
   rfl
  ·refine dQ hm (v:= .bool (!a.isNone)) ?_ rfl
   simp only [Sem.run_bind,g,Result.andThen_ok,binOp,Op.equal,Op.maxDepth,Sem.run_pure]
   rw [key 9999]
   rfl
 simp only [az] at he
 split at he
 ·rename_i z n cs e1;cases he
  rw [e1] at hx
  obtain ⟨_,a,c,hv,hz⟩:=hx
  exact fin hv hz rfl rfl
 ·rename_i n cs e1
  split at he
  ·rename_i h0;cases he
   rw [e1] at hx
   obtain ⟨a,c,hv,h1,h2,h3,h4⟩:=hx
   refine fin (z:=false) hv ?_ (by cases neg<;>rfl) rfl
   cases a with
   | none=>have:=h3 rfl;omega
   | some a=>rfl
  ·cases he
 ·cases he
theorem yY{op:BinOp}{neg:Bool}(hop:(op= .eql∧neg=false)∨(op= .neq∧neg=true)){t:TypeId}{ks:List LK}{x y:Operand}{p:PV}{aD:eu}(hm:Mem E m aP w0 φ H w)(bK:eM E φ H w ρ ev)(hk:iV P 40 t=some ks)(hagg:f_ P t=true)(hg:P.eqGuardType P.depth t=false)(he:az γ H d ρ (.Vi neg (MA ks) x y)=some (p,aD)):
  Does P E m aP w0 φ H w p aD (do pure (.value (←(do eqGuard op t x y (ev x) (ev y);binOp op t (ev x) (ev y))))):=by
 have hx:=bK x
 have hy:=bK y
 simp only [az] at he
 split at he
 ·rename_i a b e1 e2
  rw [e1] at hx
  rw [e2] at hy
  obtain ⟨vs,hv,hr⟩:=hx
  obtain ⟨us,hu,hr2⟩:=hy
  split at he
  ·rename_i r hr0;cases he
   rw [FE] at hr0
   have h1:=Rs hr0 hr hr2
   have h2:=EK (P:=P) (w:=w) 40 t ks _ _ r 10000 hk h1 (by omega)
   have hmk: ∀z:Array Value,Aj P t z.toList= .agg z:=fun z=>by simp [Aj,hagg]
   rw [hmk,hmk] at h2
   rw [hv,hu]
   have g:=run_eqGuard_agg (P:=P) w op t x y vs us hg
   rcases hop with ⟨rfl,rfl⟩ | ⟨rfl,rfl⟩
   ·refine dQ hm (v:= .bool r) ?_ rfl
    simp only [Sem.run_bind,g,Result.andThen_ok,run_eql_struct,h2]
   ·refine dQ hm (v:= .bool (!r)) ?_ rfl
    simp only [Sem.run_bind,g,Result.andThen_ok,run_neq_struct,h2]
  ·cases he
 ·cases he
theorem ado{op:BinOp}{t yt:TypeId}{x y:Operand}{pop:kj}{p:PV}{aD:eu}(hm:Mem E m aP w0 φ H w)(bK:eM E φ H w ρ ev)(hkc: ∀v,ev (.const v)=v)(hc:H6 P op t x y=some pop)(he:az γ H d ρ pop=some (p,aD)):
  Does P E m aP w0 φ H w p aD (do pure (.value (←(do eqGuard op t x y (ev x) (ev y);binOp op t (ev x) (ev y))))):=by
 have ahr: ∀{k k':IntKind} {a b:Int} {q:PV} {v:Value},(ρ x).int?=some (k,a)→(ρ y).int?=some (k',b)→(binOp op t (.int k a) (.int k' b)).run P w= .ok v w→cJ (cV E φ) w (bh φ H) q v→
   Does P E m aP w0 φ H w q [] (do pure (.value (←(do eqGuard op t x y (ev x) (ev y);binOp op t (ev x) (ev y))))):=by
  intro k k' a b q v h1 h2 h3 h4
  rw [j8 h1 (bK x),j8 h2 (bK y)]
  exact dQ hm (by simp only [Sem.run_bind,ahp,Result.andThen_ok,h3]) h4
 unfold H6 at hc
 split at hc
 ·have ar: ∀{q},az γ H d ρ (.qK op x y)=some (q,aD)→Does P E m aP w0 φ H w q aD (do pure (.value (←(do eqGuard op t x y (ev x) (ev y);binOp op t (ev x) (ev y))))):=by
   intro q he
   simp only [az] at he
   split at he
   ·rename_i k a k' b h1 h2
    split at he
    ·rename_i hk;subst hk
     split at he
     ·rename_i n hn;cases he;exact ahr h1 h2 (Vn t hn) rfl
     ·cases he
    ·cases he
   ·cases he
  have sh: ∀{q},az γ H d ρ (.sh op x y)=some (q,aD)→Does P E m aP w0 φ H w q aD (do pure (.value (←(do eqGuard op t x y (ev x) (ev y);binOp op t (ev x) (ev y))))):=by
   intro q he
   simp only [az] at he
   split at he
   ·rename_i k a k' b h1 h2
    split at he
    ·rename_i n hn;cases he;exact ahr h1 h2 (apG t hn) rfl
    ·cases he
   ·cases he
  have cm: ∀{q},az γ H d ρ (.sQ op x y)=some (q,aD)→Does P E m aP w0 φ H w q aD (do pure (.value (←(do eqGuard op t x y (ev x) (ev y);binOp op t (ev x) (ev y))))):=by
   intro q he
   simp only [az] at he
   split at he
   ·rename_i k a k' b h1 h2
    split at he
    ·rename_i hk;subst hk
     split at he
     ·rename_i n hn;cases he;exact ahr h1 h2 (aho t hn) rfl
     ·cases he
    ·cases he
   ·cases he
  split at hc<;>cases hc<;>first | exact ar he | exact sh he | exact cm he
 ·cases hc
  simp only [az] at he
  split at he
  ·rename_i a b h1 h2
   rw [uY h1 (bK x),uY h2 (bK y)]
   split at he
   ·split at he
    ·rename_i hl;cases he
     exact dQ hm (by simp only [Sem.run_bind,Ru,Result.andThen_ok];exact adn t hl) rfl
    ·cases he
   ·split at he
    ·rename_i r hr;cases he
     exact dQ hm (by simp only [Sem.run_bind,Ru,Result.andThen_ok];exact adm t hr) rfl
    ·cases he
  ·cases he
 ·rename_i hu
  split at hc
  ·cases hc
   simp only [az] at he
   split at he
   ·rename_i a b h1 h2;cases he
    rw [tO h1 (bK x),tO h2 (bK y)]
    refine dQ hm (v:= .bool (a==b)) (by simp only [Sem.run_bind,MF,Result.andThen_ok,run_eql_bool _ _ _ _ hu]) ?_
    show _=_
    by_cases e:a=b<;>simp [e]
   ·cases he
  ·cases hc
   simp only [az] at he
   split at he
   ·rename_i a b h1 h2;cases he
    rw [tO h1 (bK x),tO h2 (bK y)]
    refine dQ hm (v:= .bool (!(a==b))) (by simp only [Sem.run_bind,MF,Result.andThen_ok,run_neq_bool _ _ _ _ hu]) ?_
    show _=_
    by_cases e:a=b<;>simp [e]
   ·cases he
  ·cases hc
 ·rename_i e hu
  split at hc
  ·rename_i hn
   have hy:ev y= .slice none 0 0:=by
    unfold CD at hn
    split at hn
    ·exact hkc _
    ·cases hn
   split at hc
   ·cases hc;exact MH (.inl ⟨rfl,rfl⟩) hm bK hu hy he
   ·cases hc;exact MH (.inr ⟨rfl,rfl⟩) hm bK hu hy he
   ·cases hc
  ·cases hc
 ·rename_i e hu
  split at hc
  ·rename_i hn
   have hy:y= .const .nilIface:=by
    unfold Y_ at hn
    split at hn
    ·rfl
    ·cases hn
   have hye:ev y= .nilIface:=by rw [hy];exact hkc _
   split at hc
   ·cases hc;exact MG (.inl ⟨rfl,rfl⟩) hm bK hu hy hye he
   ·cases hc;exact MG (.inr ⟨rfl,rfl⟩) hm bK hu hy hye he
   ·cases hc
  ·cases hc
 ·rename_i fs hu
  have hagg:f_ P t=true:=by unfold f_;rw [hu]
  split at hc
  ·rename_i ks hks
   split at hc
   ·rename_i hg
    split at hc
    ·cases hc;exact yY (.inl ⟨rfl,rfl⟩) hm bK hks hagg hg he
    ·cases hc;exact yY (.inr ⟨rfl,rfl⟩) hm bK hks hagg hg he
    ·cases hc
   ·cases hc
  ·cases hc
 ·rename_i n e hu
  have hagg:f_ P t=true:=by unfold f_;rw [hu]
  split at hc
  ·rename_i ks hks
   split at hc
   ·rename_i hg
    split at hc
    ·cases hc;exact yY (.inl ⟨rfl,rfl⟩) hm bK hks hagg hg he
    ·cases hc;exact yY (.inr ⟨rfl,rfl⟩) hm bK hks hagg hg he
    ·cases hc
   ·cases hc
  ·cases hc
 ·cases hc
theorem aht{op:UnOp}{x:Operand}{p:PV}{aD:eu}(hm:Mem E m aP w0 φ H w)(bK:eM E φ H w ρ ev)(he:az γ H d ρ (.un op x)=some (p,aD)):
  Does P E m aP w0 φ H w p aD (do pure (.value (←Op.unary op (ev x)))):=by
 have hx:=bK x
 simp only [az] at he
 split at he
 ·rename_i k n e;cases he;rw [e] at hx;have hx:ev x= .int k n:=hx
  rw [hx];exact dQ hm (v:= .int k (k.wrap (0-n))) rfl rfl
 ·rename_i k n e;cases he;rw [e] at hx;have hx:ev x= .int k n:=hx
  rw [hx];exact dQ hm (v:= .int k (cO .xor k (if k.signed then-1 else k.max) n)) rfl rfl
 ·rename_i b e;cases he;rw [e] at hx;have hx:ev x= .bool b:=hx
  rw [hx];exact dQ hm (v:= .bool (!b)) rfl rfl
 ·cases he
theorem Vo{c x y:Operand}{p:PV}{aD:eu}(hm:Mem E m aP w0 φ H w)(bK:eM E φ H w ρ ev)(he:az γ H d ρ (.pick c x y)=some (p,aD)):
  Does P E m aP w0 φ H w p aD (do pure (.value (if←asBool (ev c) then ev x else ev y))):=by
 simp only [az] at he
 split at he
 ·rename_i t ht;cases he
  rw [tO ht (bK c)]
  cases t
  ·exact EI hm (v:=ev y) (by simp [asBool]) (bK y)
  ·exact EI hm (v:=ev x) (by simp [asBool]) (bK x)
 ·cases he
end
end Go.Proofs.YtimbfadnabfabaaGreatDoor.Pm
