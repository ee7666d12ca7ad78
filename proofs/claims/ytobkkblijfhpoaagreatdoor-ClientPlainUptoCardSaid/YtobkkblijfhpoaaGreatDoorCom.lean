/- Small lemmas that every walk of this seat may use: slices that are read, slices that the call owns. No program is named here. -/
import Derived.Test.YtobkkblijfhpoaaGreatDoorRows
import Derived.WalkKit
import Derived.ProofKit
import Derived.OpenShut
import Derived.Deep.QuietTactic
import Derived.Lib.Hide
import Derived.WalkSpells
import Derived.WalkLawsBesides
import Derived.Deep.DeepCutAuto
import Derived.Lib.SmallJoins
namespace Go.Proofs.YtobkkblijfhpoaaGreatDoor.D4
open Go.ChangeShapes Go.WideShapes Go.ChangeAt Go.RowKit

theorem axX{B:Nat}{W w1:World}(hb:Below B W w1)(b o:Nat)(h:b<B):w1.cell? ⟨b,o,none⟩=W.cell? ⟨b,o,none⟩:=
 hb.cell (p:=⟨b,o,none⟩) h
theorem TN{w:World}{b o:Nat}{v:Value}(h:w.cell? ⟨b,o,none⟩=some v):b<w.heap.size:=block_lt_of_cell h
theorem bL{w w':World}{b o:Nat}{v:Value}(h:w.cell? ⟨b,o,none⟩=some v)(hb:Below w.heap.size w w'):w'.cell? ⟨b,o,none⟩=some v:=
 (axX hb b o (TN h)).trans h

def Rs(w:World)(v:Value)(xs:List Value):Prop:=
 (xs= []∧ ∃a cap,v= .slice a 0 cap)∨
 ∃b off cap,v= .slice (some ⟨b,off,none⟩) xs.length cap∧xs.length≤cap∧cap≤maxLen∧ ∀i x,xs[i]?=some x→w.cell? ⟨b,off+i,none⟩=some x
theorem Rs.keep{w w':World}{v:Value}{xs:List Value}(h:Rs w v xs)(hb:Below w.heap.size w w'):Rs w' v xs:=by
 rcases h with h | ⟨b,off,cap,h1,h2,h3,h4⟩
 ·exact .inl h
 ·exact .inr ⟨b,off,cap,h1,h2,h3,fun i x hx=>bL (h4 i x hx) hb⟩
theorem Rs.len{w:World}{v:Value}{xs:List Value}(h:Rs w v xs):xs.length≤maxLen:=by
 rcases h with ⟨rfl,_⟩ | ⟨b,off,cap,h1,h2,h3,h4⟩
 ·simp
 ·omega

def Own(w:World)(B:Nat)(e:TypeId)(v:Value)(xs:List Value):Prop:=w.ownsRow B e 1 v xs.length xs
theorem Own.rs{w:World}{B:Nat}{e:TypeId}{v:Value}{xs:List Value}(h:Own w B e v xs):Rs w v xs:=by
 obtain ⟨_,h⟩:=h
 rcases h with ⟨rfl,h2⟩ | ⟨g,cap,cur,rfl,h2,h3,h4,h5,h6,h7⟩
 ·exact .inl ⟨List.eq_nil_of_length_eq_zero h2,none,0,rfl⟩
 ·refine .inr ⟨g,0,cap,rfl,h4,h5,fun i x hx=>?_⟩
  simp only [Nat.mul_one] at h6 h7
  rw [cell_of_row w g (0+i) cur e (0,0) h3,Nat.zero_add]
  have hi:i<xs.length:=by
   rcases Nat.lt_or_ge i xs.length with h' | h'
   ·exact h'
   ·rw [List.getElem?_eq_none h'] at hx;cases hx
  have:xs[i]?=cur.toList[i]?:=by rw [←h7];simp [hi]
  rw [←hx,this];simp
theorem Own.nil(w:World)(B:Nat)(e:TypeId):Own w B e (.slice none 0 0) []:=⟨by simp,.inl ⟨rfl,rfl⟩⟩
theorem Own.mono{w:World}{B B':Nat}{e:TypeId}{v:Value}{xs:List Value}(h:Own w B e v xs)(hB:B'≤B):Own w B' e v xs:=by
 obtain ⟨h1,h⟩:=h
 refine ⟨h1,?_⟩
 rcases h with h | ⟨g,cap,cur,h2,h3,h4⟩
 ·exact .inl h
 ·exact .inr ⟨g,cap,cur,h2,by omega,h4⟩
theorem Own.keep{w w':World}{B:Nat}{e:TypeId}{v:Value}{xs:List Value}(h:Own w B e v xs)(hb:Below w.heap.size w w'):Own w' B e v xs:=by
 obtain ⟨h1,h⟩:=h
 refine ⟨h1,?_⟩
 rcases h with h | ⟨g,cap,cur,h2,h3,h4,h5⟩
 ·exact .inl h
 ·refine .inr ⟨g,cap,cur,h2,h3,?_,h5⟩
  have hg:g<w.heap.size:=by
   rcases Nat.lt_or_ge g w.heap.size with h' | h'
   ·exact h'
   ·rw [Array.getElem?_eq_none h'] at h4;cases h4
  rw [hb.block g hg];exact h4
theorem Own.alloc{w:World}{B:Nat}{e:TypeId}{v:Value}{xs:List Value}(h:Own w B e v xs)(o:Obj):Own (w.alloc o) B e v xs:=
 h.keep ((Below.refl _ _).alloc (Nat.le_refl _) o)

theorem Rs.new(w:World)(T:TypeId)(l:List Value)(n:Nat)(hn:n=l.length)(hm:l.length≤maxLen):Rs (w.alloc (.cells l.toArray T)) (.slice (some ⟨w.heap.size,0,none⟩) n n) l:=by
 subst hn
 refine .inr ⟨_,0,_,rfl,Nat.le_refl _,hm,fun i x hx=>?_⟩
 rw [World.cell?_alloc_mark,Nat.zero_add]
 simpa using hx
end Go.Proofs.YtobkkblijfhpoaaGreatDoor.D4
