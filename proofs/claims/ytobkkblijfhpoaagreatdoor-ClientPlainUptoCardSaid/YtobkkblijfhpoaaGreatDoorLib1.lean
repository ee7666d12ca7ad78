/- The library's functions by their contracts: what the small machine is told of them. -/
import Derived.Test.YtobkkblijfhpoaaGreatDoorKrz
import Derived.Lib.Strings
import Derived.Lib.TrimByte
import Derived.Lib.Repeat
import Derived.Lib.ItoaNum
import Derived.Lib.LastIndexByte
import Derived.Lib.Join
import Derived.Lib.Bytealg
import Derived.Lib.Replace
import Derived.Lib.CountLaws
import Derived.Lib.SplitLaws
import Derived.Lib.AppendIntMem
import Derived.Lib.SlTrimSet
import Derived.Shelf.Vars
namespace Go.Proofs.YtobkkblijfhpoaaGreatDoor.Pm
open Go.RowKit
set_option linter.unusedVariables false
set_option linter.unusedSimpArgs false
def KI(g:List UInt8→List UInt8→Option (List UInt8)):List PV→Option PV
 | [.d (.str s),.d (.str t)]=>(g s t).map fun z=> .d (.str z)
 | _=>none
def CU(g:List UInt8→List UInt8→List UInt8→Option (List UInt8)):List PV→Option PV
 | [.d (.str s),.d (.str t),.d (.str u)]=>(g s t u).map fun z=> .d (.str z)
 | _=>none
theorem axV{g:List UInt8→List UInt8→Option (List UInt8)}{s t z:List UInt8}(h:g s t=some z):KI g [.d (.str s),.d (.str t)]=some (.d (.str z)):=by simp [KI,h]
theorem atd{g:List UInt8→List UInt8→List UInt8→Option (List UInt8)}{s t u z:List UInt8}(h:g s t u=some z):CU g [.d (.str s),.d (.str t),.d (.str u)]=some (.d (.str z)):=by simp [CU,h]
def KJ(g:List UInt8→List UInt8→Option (List (List UInt8))):List PV→Option PV
 | [.d (.str s),.d (.str t)]=>(g s t).map fun xs=> .d (.sl xs.length (eu.cells xs))
 | _=>none
theorem axW{g:List UInt8→List UInt8→Option (List (List UInt8))}{s t:List UInt8}{z:List (List UInt8)}(h:g s t=some z):KJ g [.d (.str s),.d (.str t)]=some (.d (.sl z.length (eu.cells z))):=by simp [KJ,h]
section
variable {P : Program} {W : World} {Φ : Nat → cJ} {f : Nat}
theorem afp{w':World}{B:Nat}{l:List (List UInt8)}{T:TypeId}(hb:w'.heap[B]?=some (.cells (l.map fun x=>Value.string ⟨x.toArray⟩).toArray T (0,0)))(hl:l.length≤maxLen):dQ (fun b=>b<B) w' (.sl l.length (eu.cells l)) (.slice (some ⟨B,0,none⟩) l.length l.length):=by
 refine ⟨_,_,rfl,Nat.le_refl _,hl,(fun h=>by cases h),.inr ⟨B,0,rfl,by omega,?_,fq.of fun j x hx=>?_⟩⟩
 ·have:=(Array.getElem?_eq_some_iff.1 hb).1;exact this
 ·have hc: ∀l:List (List UInt8),eu.cells l=l.map PD.str:=fun l=>by induction l with
   | nil=>rfl
   | cons a l ih=>simp only [dJ.cells,List.map_cons];rw [ih];rfl
  rw [hc] at hx
  simp only [List.getElem?_map,Option.map_eq_some_iff] at hx
  obtain ⟨s,hs,rfl⟩:=hx
  refine ⟨.string ⟨s.toArray⟩,?_,rfl⟩
  have:(je w' B (l.map fun x=>Value.string ⟨x.toArray⟩).toArray T):= .of hb
  rw [Nat.zero_add,this.cell j]
  simp [hs]
theorem TL{g:List UInt8→List UInt8→Option (List (List UInt8))}{T:TypeId}(he:gZ P f)(h: ∀s t z,g s t=some z→ ∀w aS,jg W Φ w aS→Calls P f #[.string ⟨s.toArray⟩,.string ⟨t.toArray⟩] w fun e w'=>z.length≤maxLen∧e= .returned (.slice (some ⟨w.heap.size,0,none⟩) z.length z.length)∧w'=w.alloc (.cells (z.map fun x=>Value.string ⟨x.toArray⟩).toArray T)):tL P W Φ (f,KJ g):=by
 refine ⟨he,fun args r hr=>?_⟩
 unfold KJ at hr
 simp only at hr
 split at hr
 ·rename_i s t
  simp only [Option.map_eq_some_iff] at hr
  obtain ⟨z,hz,rfl⟩:=hr
  refine fun E w aS R vs hL hE ha=>?_
  obtain ⟨v1,r1,rfl,e1,v2,r2,rfl,e2,rfl⟩:=ha
  have e1:v1=_:=e1;have e2:v2=_:=e2
  subst e1;subst e2
  refine (h s t z hz w aS hL).mono ?_
  rintro e w' ⟨h0,h1,rfl⟩
  exact ⟨_,h1,afp (T:=T) (by show (w.heap.push _)[_]?=_;simp) h0,(Below.refl _ _).alloc (Nat.le_refl _) _⟩
 ·cases hr
theorem TM{g:List UInt8→List UInt8→Option (List UInt8)}(he:gZ P f)(h: ∀s t z,g s t=some z→ ∀w aS,jg W Φ w aS→Calls P f #[.string ⟨s.toArray⟩,.string ⟨t.toArray⟩] w fun e w'=>e= .returned (.string ⟨z.toArray⟩)∧Below w.heap.size w w'):tL P W Φ (f,KI g):=by
 refine ⟨he,fun args r hr=>?_⟩
 unfold KI at hr
 simp only at hr
 split at hr
 ·rename_i s t
  simp only [Option.map_eq_some_iff] at hr
  obtain ⟨z,hz,rfl⟩:=hr
  refine fun E w aS R vs hL hE ha=>?_
  obtain ⟨v1,r1,rfl,e1,v2,r2,rfl,e2,rfl⟩:=ha
  have e1:v1=_:=e1;have e2:v2=_:=e2
  subst e1;subst e2
  exact (h s t z hz w aS hL).mono fun e w' ⟨h1,h2⟩=>⟨_,h1,rfl,h2⟩
 ·cases hr
theorem QF{g:List UInt8→List UInt8→List UInt8→Option (List UInt8)}(he:gZ P f)(h: ∀s t u z,g s t u=some z→ ∀w aS,jg W Φ w aS→Calls P f #[.string ⟨s.toArray⟩,.string ⟨t.toArray⟩,.string ⟨u.toArray⟩] w fun e w'=>e= .returned (.string ⟨z.toArray⟩)∧Below w.heap.size w w'):tL P W Φ (f,CU g):=by
 refine ⟨he,fun args r hr=>?_⟩
 unfold CU at hr
 simp only at hr
 split at hr
 ·rename_i s t u
  simp only [Option.map_eq_some_iff] at hr
  obtain ⟨z,hz,rfl⟩:=hr
  refine fun E w aS R vs hL hE ha=>?_
  obtain ⟨v1,r1,rfl,e1,v2,r2,rfl,e2,v3,r3,rfl,e3,rfl⟩:=ha
  have e1:v1=_:=e1;have e2:v2=_:=e2;have e3:v3=_:=e3
  subst e1;subst e2;subst e3
  exact (h s t u z hz w aS hL).mono fun e w' ⟨h1,h2⟩=>⟨_,h1,rfl,h2⟩
 ·cases hr
def awt(P:Program)(f:Nat):Bool:=match P.funcs[f]? with
 | some fn=>match fn.body with
  | some _=> !(fn.name== "runtime.NumGoroutine")
  | none=>false
 | none=>false
theorem mE{P:Program}{f:Nat}(h:awt P f=true):gZ P f:=by
 unfold awt at h
 split at h
 ·rename_i fn hfn
  split at h
  ·rename_i c yy
   intro args w
   have hname:(fn.name== "runtime.NumGoroutine")=false:=by simpa using h
   simp only [callFunc,Sem.run_bind,run_program,Result.andThen_ok,hfn,yy]
   simp [hname]
  ·cases h
 ·cases h
noncomputable def ld(s t:List UInt8):Option (List (List UInt8)):=if s.length<4294967281∧1≤t.length then some (Lib.splitK t 0 (Lib.countB ⟨s.toArray⟩ ⟨t.toArray⟩) s) else none
noncomputable def oN(s t:List UInt8):Option (List UInt8):=if s.length≤9223372036854775807∧t.length<4294967281∧t.all (fun b=>decide (b.toNat<128))=true then some (Lib.trimS s t) else none
theorem OX(he:gZ P f)(h: ∀(s Jb:ByteArray) (w:World),s.size≤9223372036854775807→Jb.size<4294967281→(∀(j:Nat) b,Jb.data.toList[j]?=some b→b.toNat<128)→Calls P f #[.string s,.string Jb] w fun e w'=>e= .returned (.string ⟨(Lib.trimS s.data.toList Jb.data.toList).toArray⟩)∧Below w.heap.size w w'):tL P W Φ (f,KI oN):=
 TM he fun s t z hz w aS _=>by
  unfold oN at hz
  split at hz
  ·rename_i hc
   cases hz
   exact h ⟨s.toArray⟩ ⟨t.toArray⟩ w (by show s.toArray.size≤_;simpa using hc.1) (by show t.toArray.size<_;simpa using hc.2.1) (fun j b hb=>of_decide_eq_true (List.all_eq_true.1 hc.2.2 b (List.mem_of_getElem? hb)))
  ·cases hz
noncomputable def gJ(s t u:List UInt8):Option (List UInt8):=if s.length<4294967281∧1≤t.length∧s.length+Lib.countB ⟨s.toArray⟩ ⟨t.toArray⟩*u.length≤140737488355328 then some (Lib.replaceAll s t u) else none
theorem yG{w:World}{aS:Nat→cJ}{g o:Nat}{v:Value}(hL:jg W Φ w aS)(IM: ∀i c,Φ i≠ .blk g c)(hm:W.cell? ⟨g,o,none⟩=some v):w.cell? ⟨g,o,none⟩=some v:=by
 have hlt:g<W.heap.size:=by
  by_cases h:g<W.heap.size
  ·exact h
  ·have:W.heap[g]?=none:=Array.getElem?_eq_none (by omega)
   simp [World.cell?,this] at hm
 have:=(hL.keep g hlt IM).1
 simp only [World.cell?,this] at hm ⊢
 exact hm
theorem xI (g : Nat) (IM : ∀ i c, Φ i ≠ .blk g c) (hm : ∃ m, W.cell? ⟨g, 0, none⟩ = some (.int .i64 m)) (he : gZ P f) (h : ∀ (s old new : ByteArray) (m : Int) (w : World), s.size < 4294967281 → w.cell? ⟨g, 0, none⟩ = some (.int .i64 m) → 1 ≤ old.size → s.size + Lib.countB s old * new.size ≤ 140737488355328 →
   Calls P f #[.string s,.string old,.string new] w fun e w'=>e= .returned (.string ⟨(Lib.replaceAll s.data.toList old.data.toList new.data.toList).toArray⟩)∧Below w.heap.size w w'):tL P W Φ (f,CU gJ):=
 QF he fun s t u z hz w aS hL=>by
  unfold gJ at hz
  split at hz
  ·rename_i hc
   cases hz
   obtain ⟨m,hm⟩:=hm
   exact h ⟨s.toArray⟩ ⟨t.toArray⟩ ⟨u.toArray⟩ m w (by show s.toArray.size<_;simpa using hc.1) (yG hL IM hm) (by show 1≤t.toArray.size;simpa using hc.2.1) (by show s.toArray.size+_*u.toArray.size≤_;simpa using hc.2.2)
  ·cases hz
theorem KM {T : TypeId} (g : Nat) (IM : ∀ i c, Φ i ≠ .blk g c) (hm : ∃ m, W.cell? ⟨g, 0, none⟩ = some (.int .i64 m)) (he : gZ P f) (h : ∀ (s sep : ByteArray) (m : Int) (w : World), s.size < 4294967281 → w.cell? ⟨g, 0, none⟩ = some (.int .i64 m) → 1 ≤ sep.size →
   Calls P f #[.string s,.string sep] w fun e w'=>e= .returned (.slice (some ⟨w.heap.size,0,none⟩) (Lib.countB s sep+1) (Lib.countB s sep+1))∧w'=w.alloc (.cells ((Lib.splitB sep 0 (Lib.countB s sep) s).map Value.string).toArray T)):tL P W Φ (f,KJ ld):=
 TL he fun s t z hz w aS hL=>by
  unfold ld at hz
  split at hz
  ·rename_i hc
   cases hz
   obtain ⟨m,hm⟩:=hm
   have hs:(⟨s.toArray⟩:ByteArray).size<4294967281:=by show s.toArray.size<_;simpa using hc.1
   have ht:1≤(⟨t.toArray⟩:ByteArray).size:=by show 1≤t.toArray.size;simpa using hc.2
   have hd:=Lib.splitB_data ⟨t.toArray⟩ 0 (Lib.countB ⟨s.toArray⟩ ⟨t.toArray⟩) ⟨s.toArray⟩
   have hlen:=Lib.splitB_all ⟨t.toArray⟩ ht 0 _ ⟨s.toArray⟩ rfl
   have hle:=Lib.countB_le ⟨t.toArray⟩ ht _ ⟨s.toArray⟩ (Nat.le_refl _)
   have hz:Lib.splitK t 0 (Lib.countB ⟨s.toArray⟩ ⟨t.toArray⟩) s=(Lib.splitB ⟨t.toArray⟩ 0 (Lib.countB ⟨s.toArray⟩ ⟨t.toArray⟩) ⟨s.toArray⟩).map (·.data.toList):=hd.symm
   refine (h ⟨s.toArray⟩ ⟨t.toArray⟩ m w hs (yG hL IM hm) ht).mono ?_
   rintro e w' ⟨h1,h2⟩
   have hl:(Lib.splitK t 0 (Lib.countB ⟨s.toArray⟩ ⟨t.toArray⟩) s).length=Lib.countB ⟨s.toArray⟩ ⟨t.toArray⟩+1:=by rw [hz,List.length_map,hlen]
   refine ⟨by rw [hl];unfold maxLen;omega,by rw [hl];exact h1,?_⟩
   rw [h2,hz,List.map_map]
   congr 3
  ·cases hz
end
end Go.Proofs.YtobkkblijfhpoaaGreatDoor.Pm
