/- Small laws that all plain laws use. -/
import Derived.Test.YtimbfadnabfabaaGreatDoorLib1
namespace Go.Proofs.YtimbfadnabfabaaGreatDoor.Pm
open Go.ChangeShapes Go.WideShapes Go.ChangeAt Go.RowKit
set_option linter.unusedVariables false
set_option linter.unusedSimpArgs false
theorem bs{α β:Type}(x:α)(f:α→Option β):(some x).bind f=f x:=by
 have h: ∀y:Option α,y=some x→y.bind f=f x:=fun y hy=>by cases hy;simp
 exact h _ (by simp)
theorem cf{α:Type}(x y:α):(bif false then x else y)=y:=by
 have h: ∀b:Bool,b=false→(bif b then x else y)=y:=fun b hb=>by cases hb;simp
 exact h _ (by simp)
theorem ct{α:Type}(x y:α):(bif true then x else y)=x:=by
 have h: ∀b:Bool,b=true→(bif b then x else y)=x:=fun b hb=>by cases hb;simp
 exact h _ (by simp)
theorem gz(n:Int)(h: -9223372036854775808≤n∧n≤9223372036854775807):IntKind.i64.wrap n=n:=IntWalk.i64_in n h
theorem jb{α:Type}(pre:List α)(x:α)(t:List α):idx (pre++x::t) (pre.length:Int)=some x:=by unfold idx;rw [if_pos (by omega)];simp
theorem fj{α:Type}(b:Nat)(xs ys:List α)(h:(xs.length+ys.length)*b≤140737488355328):eN b xs ys=some (xs++ys):=by unfold eN;rw [if_pos h]
theorem sI{α:Type}(pre:List α)(x:α)(h:pre.length<1000000000):IntKind.i64.wrap ((pre.length:Int)+1)=((pre++ [x]).length:Int):=by rw [gz _ (by omega)];simp
theorem tA{α:Type}(pre:List α)(x:α)(t:List α):decide ((pre.length:Int)<((pre++x::t).length:Int))=true:=decide_eq_true (by simp;omega)
theorem vZ{α:Type}(pre:List α):decide ((pre.length:Int)<((pre++ []).length:Int))=false:=decide_eq_false (by simp)
theorem gL(xs ys:List UInt8)(h:xs.length+ys.length≤1000000000):ep xs ys=some (xs++ys):=by
 unfold ep
 rw [if_pos (by show ((xs.length+ys.length:Nat):Int)≤9223372036854775807;omega)]
theorem fW{b:Bool}(h:b=true):bO b=some ():=by unfold bO;rw [if_pos h]
theorem azN{c:UInt8}{n:Nat}(h:c.toNat=n)(hn:n<256):c=UInt8.ofNat n:=by
 apply UInt8.toNat.inj;rw [h];simp;omega
def js(c:UInt8):List UInt8→List (List UInt8)
 | []=> [[]]
 | b::t=>if b=c then []::js c t else match js c t with
  | h::r=>(b::h)::r
  | []=> [[b]]
theorem Cl(c:UInt8): ∀s,∃h r,js c s=h::r
 | []=>⟨_,_,rfl⟩
 | b::t=>by
  obtain ⟨h,r,e⟩:=Cl c t
  unfold js
  split
  ·exact ⟨_,_,rfl⟩
  ·rw [e];exact ⟨_,_,rfl⟩
theorem Gr(c:UInt8): ∀s,(js c s).length≤s.length+1
 | []=>by simp [js]
 | b::t=>by
  have:=Gr c t
  obtain ⟨h,r,e⟩:=Cl c t
  rw [e] at this
  unfold js
  split
  ·rw [e];simp at this ⊢;omega
  ·rw [e];simp at this ⊢;omega
theorem En(c:UInt8): ∀s,∀w∈js c s,w.length≤s.length∧(∀b∈w,b≠c∧b∈s)
 | [],w,h=>by simp [js] at h;subst h;simp
 | b::t,w,h=>by
  have ih:=En c t
  obtain ⟨h',r,e⟩:=Cl c t
  unfold js at h
  rw [e] at ih
  split at h
  ·rcases List.mem_cons.1 h with rfl | h
   ·simp
   ·rw [e] at h
    obtain ⟨i1,i2⟩:=ih w h
    exact ⟨by simp;omega,fun x hx=>⟨(i2 x hx).1,List.mem_cons_of_mem _ (i2 x hx).2⟩⟩
  ·rename_i hb
   rw [e] at h
   rcases List.mem_cons.1 h with rfl | h
   ·obtain ⟨i1,i2⟩:=ih h' (by simp)
    refine ⟨by simp;omega,fun x hx=>?_⟩
    rcases List.mem_cons.1 hx with rfl | hx
    ·exact ⟨hb,by simp⟩
    ·exact ⟨(i2 x hx).1,List.mem_cons_of_mem _ (i2 x hx).2⟩
   ·obtain ⟨i1,i2⟩:=ih w (by simp [h])
    exact ⟨by simp;omega,fun x hx=>⟨(i2 x hx).1,List.mem_cons_of_mem _ (i2 x hx).2⟩⟩
theorem aoc(b c:UInt8)(h:b≠c)(t:List UInt8)(k:Nat): ∃x r,Lib.splitK [c] 0 k t=x::r∧Lib.splitK [c] 0 k (b::t)=(b::x)::r:=by
 cases k with
 | zero=>exact ⟨t,[],rfl,rfl⟩
 | succ k=>
  have GK:=Lib.indexByte_ge t c
  have hi:Lib.index (b::t) [c]=if Lib.index t [c]= -1 then-1 else Lib.index t [c]+1:=by
   rw [Lib.index_one,Lib.index_one,Lib.indexByte,if_neg (by simpa using h)]
   by_cases hm:Lib.indexByte t c= -1
   ·rw [if_pos (by simpa using hm),if_pos hm]
   ·rw [if_neg (by simpa using hm),if_neg hm]
  unfold Lib.splitK
  rw [hi]
  by_cases hm:Lib.index t [c]= -1
  ·rw [if_pos hm,if_pos (beq_iff_eq.2 hm),if_pos (by rfl)]
   exact ⟨_,_,rfl,rfl⟩
  ·have hnn:0≤Lib.index t [c]:=by rw [Lib.index_one] at hm ⊢;omega
   rw [if_neg hm,if_neg (by simpa using hm),if_neg (by simp;omega)]
   obtain ⟨i,Ic⟩:=Int.eq_ofNat_of_zero_le hnn
   rw [Ic,show ((i:Int)+1).toNat=i+1 by omega,show (i:Int).toNat=i by omega]
   refine ⟨_,_,rfl,?_⟩
   simp [show i+1+1=(i+1)+1 from rfl]
theorem auW(c:UInt8)(t:List UInt8)(k:Nat):Lib.splitK [c] 0 (k+1) (c::t)= []::Lib.splitK [c] 0 k t:=by
 have hi:Lib.index (c::t) [c]=0:=by rw [Lib.index_one,Lib.indexByte,if_pos (by simp)]
 rw [Lib.splitK,hi,if_neg (by decide)]
 simp
theorem acM(c:UInt8): ∀s:List UInt8,Lib.splitK [c] 0 (Lib.count s [c]) s=js c s
 | []=>by rw [Lib.count_one];rfl
 | b::t=>by
  have ih:=acM c t
  unfold js
  by_cases h:b=c
  ·subst h
   rw [Lib.count_cons_eq,Nat.add_comm 1,auW,ih,if_pos rfl]
  ·obtain ⟨x,r,h1,h2⟩:=aoc b c h t (Lib.count t [c])
   rw [Lib.count_cons_ne b c t h,h2,if_neg h,←ih,h1]
theorem agH(s:List UInt8)(c:UInt8)(h:s.length≤1000000000):mz s [c]=some (js c s):=by
 unfold mz
 rw [if_pos ⟨by omega,by simp⟩]
 exact congrArg some (acM c s)
theorem agI(s cs:List UInt8)(h: ∀b∈s,b∈cs):Lib.trimS s cs= []:=by
 have hd: ∀l:List UInt8,(∀b∈l,b∈cs)→l.dropWhile (cs.contains ·)= []:=fun l=>by
  induction l with
  | nil=>intro _;rfl
  | cons a l ih=>
   intro hl
   rw [List.dropWhile_cons_of_pos (by simpa using hl a (by simp))]
   exact ih fun b hb=>hl b (by simp [hb])
 unfold Lib.trimS Lib.trimLeftS Lib.trimRightS
 rw [hd s.reverse (fun b hb=>h b (by simpa using hb))]
 rfl
end Go.Proofs.YtimbfadnabfabaaGreatDoor.Pm
