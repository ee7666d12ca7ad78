/- Small laws that all plain laws use. -/
import Derived.Test.YtobkkblijfhpoaaGreatDoorPb
namespace Go.Proofs.YtobkkblijfhpoaaGreatDoor.Pm
open Go.ChangeShapes Go.WideShapes Go.ChangeAt Go.RowKit
set_option linter.unusedVariables false
set_option linter.unusedSimpArgs false
theorem bs{α β:Type}(x:α)(f:α→Option β):(some x).bind f=f x:=by
 have h: ∀y:Option α,y=some x→y.bind f=f x:=fun y hy=>by cases hy;simp
 exact h _ (by simp)
theorem cf{α:Type}(x y:α):(bif false then x else y)=y:=by
 have h: ∀b:Bool,b=false→(bif b then x else y)=y:=fun b hb=>by cases hb;simp
 exact h _ (by simp)
theorem ct{α:Type}(x y:α):(bif true then x else y)=x:=by
 have h: ∀b:Bool,b=true→(bif b then x else y)=x:=fun b hb=>by cases hb;simp
 exact h _ (by simp)
theorem gY(n:Int)(h: -9223372036854775808≤n∧n≤9223372036854775807):IntKind.i64.wrap n=n:=IntWalk.i64_in n h
theorem oX{α:Type}(pre:List α)(x:α)(t:List α):idx (pre++x::t) (pre.length:Int)=some x:=by unfold idx;rw [if_pos (by omega)];simp
theorem fW{α:Type}(b:Nat)(xs ys:List α)(h:(xs.length+ys.length)*b≤140737488355328):fT b xs ys=some (xs++ys):=by unfold fT;rw [if_pos h]
theorem y9{α:Type}(pre:List α)(x:α)(h:pre.length<1000000000):IntKind.i64.wrap ((pre.length:Int)+1)=((pre++ [x]).length:Int):=by rw [gY _ (by omega)];simp
theorem Jc{α:Type}(pre:List α)(x:α)(t:List α):decide ((pre.length:Int)<((pre++x::t).length:Int))=true:=decide_eq_true (by simp;omega)
theorem abG{α:Type}(pre:List α):decide ((pre.length:Int)<((pre++ []).length:Int))=false:=decide_eq_false (by simp)
theorem abH(xs ys:List UInt8)(h:xs.length+ys.length≤1000000000):yA xs ys=some (xs++ys):=by
 unfold yA
 rw [if_pos (by show ((xs.length+ys.length:Nat):Int)≤9223372036854775807;omega)]
theorem jV{b:Bool}(h:b=true):gz b=some ():=by unfold gz;rw [if_pos h]
end Go.Proofs.YtobkkblijfhpoaaGreatDoor.Pm
