/- The library's functions by their contracts: what the small machine is told of them. -/
import Derived.Test.YtimbfadnabfabaaGreatDoorKrz
import Derived.Lib.Strings
import Derived.Lib.TrimByte
import Derived.Lib.Repeat
import Derived.Lib.ItoaNum
import Derived.Lib.LastIndexByte
import Derived.Lib.Join
import Derived.Lib.Bytealg
import Derived.Lib.Replace
import Derived.Lib.CountLaws
import Derived.Lib.SplitLaws
import Derived.Lib.AppendIntMem
import Derived.Lib.SlTrimSet
import Derived.Shelf.Vars
namespace Go.Proofs.YtimbfadnabfabaaGreatDoor.Pm
open Go.RowKit
set_option linter.unusedVariables false
set_option linter.unusedSimpArgs false
def I1(g:List UInt8→List UInt8→Option (List UInt8)):List PV→Option PV
 | [.d (.str s),.d (.str t)]=>(g s t).map fun z=> .d (.str z)
 | _=>none
def M9(g:List UInt8→UInt8→Option Int):List PV→Option PV
 | [.d (.str s),.d (.int .u8 n)]=>if 0≤n∧n<256 then ((g s (UInt8.ofNat n.toNat)).map fun z=> .d (.int .i64 z)) else none
 | _=>none
def oiS(g:Int→Option (List UInt8)):List PV→Option PV
 | [.d (.int .i64 n)]=>(g n).map fun z=> .d (.str z)
 | _=>none
def BM(g:List UInt8→List UInt8→List UInt8→Option (List UInt8)):List PV→Option PV
 | [.d (.str s),.d (.str t),.d (.str u)]=>(g s t u).map fun z=> .d (.str z)
 | _=>none
theorem ax0{g:List UInt8→List UInt8→Option (List UInt8)}{s t z:List UInt8}(h:g s t=some z):I1 g [.d (.str s),.d (.str t)]=some (.d (.str z)):=by simp [I1,h]
theorem ax1{g:List UInt8→UInt8→Option Int}{s:List UInt8}{c:UInt8}{z:Int}(h:g s c=some z):M9 g [.d (.str s),.d (.int .u8 (c.toNat:Int))]=some (.d (.int .i64 z)):=by
 have:=c.toNat_lt
 unfold M9
 simp only
 rw [if_pos (by omega)]
 simp [h]
theorem aBO{g:Int→Option (List UInt8)}{n:Int}{z:List UInt8}(h:g n=some z):oiS g [.d (.int .i64 n)]=some (.d (.str z)):=by simp [oiS,h]
theorem aqs{g:List UInt8→List UInt8→List UInt8→Option (List UInt8)}{s t u z:List UInt8}(h:g s t u=some z):BM g [.d (.str s),.d (.str t),.d (.str u)]=some (.d (.str z)):=by simp [BM,h]
def I2(g:List UInt8→List UInt8→Option (List (List UInt8))):List PV→Option PV
 | [.d (.str s),.d (.str t)]=>(g s t).map fun xs=> .d (.sl xs.length (dM.cells xs))
 | _=>none
theorem ax2{g:List UInt8→List UInt8→Option (List (List UInt8))}{s t:List UInt8}{z:List (List UInt8)}(h:g s t=some z):I2 g [.d (.str s),.d (.str t)]=some (.d (.sl z.length (dM.cells z))):=by simp [I2,h]
def osT(g:List UInt8→Option (Int×Int)):List PV→Option PV
 | [.d (.str s)]=>(g s).map fun z=> .bE [.d (.int .i32 z.1),.d (.int .i64 z.2)]
 | _=>none
theorem aBP{g:List UInt8→Option (Int×Int)}{s:List UInt8}{z:Int×Int}(h:g s=some z):osT g [.d (.str s)]=some (.bE [.d (.int .i32 z.1),.d (.int .i64 z.2)]):=by simp [osT,h]
section
variable {P : Program} {W : World} {Φ : Nat → cg} {f : Nat}
theorem V7{g:List UInt8→Option (Int×Int)}(he:gB P f)(h: ∀s z,g s=some z→ ∀w aP,gV W Φ w aP→Calls P f #[.string ⟨s.toArray⟩] w fun e w'=>e= .returned (.tuple #[.int .i32 z.1,.int .i64 z.2])∧Below w.heap.size w w'):n_ P W Φ (f,osT g):=by
 refine ⟨he,fun args r hr=>?_⟩
 unfold osT at hr
 simp only at hr
 split at hr
 ·rename_i s
  simp only [Option.map_eq_some_iff] at hr
  obtain ⟨z,hz,rfl⟩:=hr
  refine fun E w aP R vs hL hE ha=>?_
  obtain ⟨v1,r1,rfl,e1,rfl⟩:=ha
  have e1:v1=_:=e1
  subst e1
  exact (h s z hz w aP hL).mono fun e w' ⟨h1,h2⟩=>⟨_,h1,⟨_,rfl,_,_,rfl,rfl,_,_,rfl,rfl,rfl⟩,h2⟩
 ·cases hr
noncomputable def iK(s:List UInt8):Option (Int×Int):=some (if s.length=0 then (65533,0) else (((Utf8.decode ⟨s.toArray⟩ 0).1:Int),((Utf8.decode ⟨s.toArray⟩ 0).2:Int)))
theorem GP{T:World→Prop}(hT: ∀w aP,gV W Φ w aP→T w)(he:gB P f)(h: ∀(s:ByteArray) (w:World),T w→Calls P f #[.string s] w fun e w'=>e= .returned (.tuple #[.int .i32 (if s.size=0 then (65533,0) else Utf8.decode s 0:Nat×Nat).1,.int .i64 (if s.size=0 then (65533,0) else Utf8.decode s 0:Nat×Nat).2])∧Below w.heap.size w w'):n_ P W Φ (f,osT iK):=
 V7 he fun s z hz w aP hL=>by
  unfold iK at hz
  cases hz
  have:=h ⟨s.toArray⟩ w (hT w aP hL)
  have hs:(⟨s.toArray⟩:ByteArray).size=s.length:=by show s.toArray.size=_;simp
  rw [hs] at this
  refine this.mono fun e w' ⟨h1,h2⟩=>⟨?_,h2⟩
  rw [h1]
  split<;>rfl
theorem adY{w':World}{B:Nat}{l:List (List UInt8)}{T:TypeId}(hb:w'.heap[B]?=some (.cells (l.map fun x=>Value.string ⟨x.toArray⟩).toArray T (0,0)))(hl:l.length≤maxLen):dR (fun b=>b<B) w' (.sl l.length (dM.cells l)) (.slice (some ⟨B,0,none⟩) l.length l.length):=by
 refine ⟨_,_,rfl,Nat.le_refl _,hl,(fun h=>by cases h),.inr ⟨B,0,rfl,by omega,?_,fh.of fun j x hx=>?_⟩⟩
 ·have:=(Array.getElem?_eq_some_iff.1 hb).1;exact this
 ·have hc: ∀l:List (List UInt8),dM.cells l=l.map PD.str:=fun l=>by induction l with
   | nil=>rfl
   | cons a l ih=>simp only [cT.cells,List.map_cons];rw [ih];rfl
  rw [hc] at hx
  simp only [List.getElem?_map,Option.map_eq_some_iff] at hx
  obtain ⟨s,hs,rfl⟩:=hx
  refine ⟨.string ⟨s.toArray⟩,?_,rfl⟩
  have:(jW w' B (l.map fun x=>Value.string ⟨x.toArray⟩).toArray T):= .of hb
  rw [Nat.zero_add,this.cell j]
  simp [hs]
theorem Sv{g:List UInt8→List UInt8→Option (List (List UInt8))}{T:TypeId}(he:gB P f)(h: ∀s t z,g s t=some z→ ∀w aP,gV W Φ w aP→Calls P f #[.string ⟨s.toArray⟩,.string ⟨t.toArray⟩] w fun e w'=>z.length≤maxLen∧e= .returned (.slice (some ⟨w.heap.size,0,none⟩) z.length z.length)∧w'=w.alloc (.cells (z.map fun x=>Value.string ⟨x.toArray⟩).toArray T)):n_ P W Φ (f,I2 g):=by
 refine ⟨he,fun args r hr=>?_⟩
 unfold I2 at hr
 simp only at hr
 split at hr
 ·rename_i s t
  simp only [Option.map_eq_some_iff] at hr
  obtain ⟨z,hz,rfl⟩:=hr
  refine fun E w aP R vs hL hE ha=>?_
  obtain ⟨v1,r1,rfl,e1,v2,r2,rfl,e2,rfl⟩:=ha
  have e1:v1=_:=e1;have e2:v2=_:=e2
  subst e1;subst e2
  refine (h s t z hz w aP hL).mono ?_
  rintro e w' ⟨h0,h1,rfl⟩
  exact ⟨_,h1,adY (T:=T) (by show (w.heap.push _)[_]?=_;simp) h0,(Below.refl _ _).alloc (Nat.le_refl _) _⟩
 ·cases hr
theorem Sw{g:List UInt8→List UInt8→Option (List UInt8)}(he:gB P f)(h: ∀s t z,g s t=some z→ ∀w aP,gV W Φ w aP→Calls P f #[.string ⟨s.toArray⟩,.string ⟨t.toArray⟩] w fun e w'=>e= .returned (.string ⟨z.toArray⟩)∧Below w.heap.size w w'):n_ P W Φ (f,I1 g):=by
 refine ⟨he,fun args r hr=>?_⟩
 unfold I1 at hr
 simp only at hr
 split at hr
 ·rename_i s t
  simp only [Option.map_eq_some_iff] at hr
  obtain ⟨z,hz,rfl⟩:=hr
  refine fun E w aP R vs hL hE ha=>?_
  obtain ⟨v1,r1,rfl,e1,v2,r2,rfl,e2,rfl⟩:=ha
  have e1:v1=_:=e1;have e2:v2=_:=e2
  subst e1;subst e2
  exact (h s t z hz w aP hL).mono fun e w' ⟨h1,h2⟩=>⟨_,h1,rfl,h2⟩
 ·cases hr
theorem Sx{g:List UInt8→UInt8→Option Int}(he:gB P f)(h: ∀s c z,g s c=some z→ ∀w aP,gV W Φ w aP→Calls P f #[.string ⟨s.toArray⟩,.int .u8 (c.toNat:Int)] w fun e w'=>e= .returned (.int .i64 z)∧Below w.heap.size w w'):n_ P W Φ (f,M9 g):=by
 refine ⟨he,fun args r hr=>?_⟩
 unfold M9 at hr
 simp only at hr
 split at hr
 ·rename_i s n
  split at hr
  ·rename_i hn
   simp only [Option.map_eq_some_iff] at hr
   obtain ⟨z,hz,rfl⟩:=hr
   refine fun E w aP R vs hL hE ha=>?_
   obtain ⟨v1,r1,rfl,e1,v2,r2,rfl,e2,rfl⟩:=ha
   have e1:v1=_:=e1;have e2:v2=_:=e2
   subst e1;subst e2
   have hc:((UInt8.ofNat n.toNat).toNat:Int)=n:=by
    simp only [UInt8.toNat_ofNat'];omega
   have:=h s _ z hz w aP hL
   rw [hc] at this
   exact this.mono fun e w' ⟨h1,h2⟩=>⟨_,h1,rfl,h2⟩
  ·cases hr
 ·cases hr
theorem Pc{g:List UInt8→List UInt8→List UInt8→Option (List UInt8)}(he:gB P f)(h: ∀s t u z,g s t u=some z→ ∀w aP,gV W Φ w aP→Calls P f #[.string ⟨s.toArray⟩,.string ⟨t.toArray⟩,.string ⟨u.toArray⟩] w fun e w'=>e= .returned (.string ⟨z.toArray⟩)∧Below w.heap.size w w'):n_ P W Φ (f,BM g):=by
 refine ⟨he,fun args r hr=>?_⟩
 unfold BM at hr
 simp only at hr
 split at hr
 ·rename_i s t u
  simp only [Option.map_eq_some_iff] at hr
  obtain ⟨z,hz,rfl⟩:=hr
  refine fun E w aP R vs hL hE ha=>?_
  obtain ⟨v1,r1,rfl,e1,v2,r2,rfl,e2,v3,r3,rfl,e3,rfl⟩:=ha
  have e1:v1=_:=e1;have e2:v2=_:=e2;have e3:v3=_:=e3
  subst e1;subst e2;subst e3
  exact (h s t u z hz w aP hL).mono fun e w' ⟨h1,h2⟩=>⟨_,h1,rfl,h2⟩
 ·cases hr
def av6(P:Program)(f:Nat):Bool:=match P.funcs[f]? with
 | some fn=>match fn.body with
  | some _=> !(fn.name== "runtime.NumGoroutine")
  | none=>false
 | none=>false
theorem iY{P:Program}{f:Nat}(h:av6 P f=true):gB P f:=by
 unfold av6 at h
 split at h
 ·rename_i fn hfn
  split at h
  ·rename_i c EZ
   intro args w
   have hname:(fn.name== "runtime.NumGoroutine")=false:=by simpa using h
   simp only [callFunc,Sem.run_bind,run_program,Result.andThen_ok,hfn,EZ]
   simp [hname]
  ·cases h
 ·cases h
noncomputable def mz(s t:List UInt8):Option (List (List UInt8)):=if s.length<4294967281∧1≤t.length then some (Lib.splitK t 0 (Lib.countB ⟨s.toArray⟩ ⟨t.toArray⟩) s) else none
noncomputable def rj(s t:List UInt8):Option (List UInt8):=if s.length≤9223372036854775807∧t.length<4294967281∧t.all (fun b=>decide (b.toNat<128))=true then some (Lib.trimS s t) else none
theorem M_(he:gB P f)(h: ∀(s Hf:ByteArray) (w:World),s.size≤9223372036854775807→Hf.size<4294967281→(∀(j:Nat) b,Hf.data.toList[j]?=some b→b.toNat<128)→Calls P f #[.string s,.string Hf] w fun e w'=>e= .returned (.string ⟨(Lib.trimS s.data.toList Hf.data.toList).toArray⟩)∧Below w.heap.size w w'):n_ P W Φ (f,I1 rj):=
 Sw he fun s t z hz w aP _=>by
  unfold rj at hz
  split at hz
  ·rename_i hc
   cases hz
   exact h ⟨s.toArray⟩ ⟨t.toArray⟩ w (by show s.toArray.size≤_;simpa using hc.1) (by show t.toArray.size<_;simpa using hc.2.1) (fun j b hb=>of_decide_eq_true (List.all_eq_true.1 hc.2.2 b (List.mem_of_getElem? hb)))
  ·cases hz
noncomputable def lD(s:List UInt8)(c:UInt8):Option Int:=some (Lib.indexByte s c)
theorem I3(he:gB P f)(h: ∀(s:ByteArray) (c:UInt8) (w:World),Calls P f #[.string s,.int .u8 (c.toNat:Int)] w fun e w'=>e= .returned (.int .i64 (Lib.indexByte s.data.toList c))∧Below w.heap.size w w'):n_ P W Φ (f,M9 lD):=
 Sx he fun s c z hz w aP _=>by
  cases hz
  exact h ⟨s.toArray⟩ c w
noncomputable def eO(s t u:List UInt8):Option (List UInt8):=if s.length<4294967281∧1≤t.length∧s.length+Lib.countB ⟨s.toArray⟩ ⟨t.toArray⟩*u.length≤140737488355328 then some (Lib.replaceAll s t u) else none
theorem mC{w:World}{aP:Nat→cg}{g o:Nat}{v:Value}(hL:gV W Φ w aP)(sO: ∀i c,Φ i≠ .blk g c)(hm:W.cell? ⟨g,o,none⟩=some v):w.cell? ⟨g,o,none⟩=some v:=by
 have hlt:g<W.heap.size:=by
  by_cases h:g<W.heap.size
  ·exact h
  ·have:W.heap[g]?=none:=Array.getElem?_eq_none (by omega)
   simp [World.cell?,this] at hm
 have:=(hL.keep g hlt sO).1
 simp only [World.cell?,this] at hm ⊢
 exact hm
theorem V8{P:Program}{w:World}{aP:Nat→cg}{name:String}{k:IntKind}{zs:List Int}(hL:gV W Φ w aP)(sO: ∀i b c,Φ i≠ .blk b c)(h:Lib.TabIs P W name k zs):Lib.TabIs P w name k zs:=by
 unfold Lib.TabIs World.var? at h ⊢
 cases hg:P.globalNamed name with
 | none=>rw [hg] at h;cases h
 | some g=>
  rw [hg] at h
  simp only [Option.bind_some] at h ⊢
  have hlt:g<W.heap.size:=by
   by_cases h':g<W.heap.size
   ·exact h'
   ·have:W.heap[g]?=none:=Array.getElem?_eq_none (by omega)
    rw [this] at h;cases h
  rw [(hL.keep g hlt (fun i c=>sO i g c)).1]
  exact h
noncomputable def dm(n:Int):Option (List UInt8):=if-9223372036854775808≤n∧n≤9223372036854775807 then some (Lib.itoa n) else none
theorem V9 (sO : ∀ i b c, Φ i ≠ .blk b c) (ht : Lib.TabIs P W "internal/strconv.uint64pow10" .u64 Lib.pow10Tab) (he : gB P f) (h : ∀ (n : Int), -9223372036854775808 ≤ n → n ≤ 9223372036854775807 → ∀ w : World, Lib.TabIs P w "internal/strconv.uint64pow10" .u64 Lib.pow10Tab →
   Calls P f #[.int .i64 n] w fun e w'=>e= .returned (.string ⟨(Lib.itoa n).toArray⟩)∧ ∃k os,w'=Go.Sort.grow (w.drewN k) os):n_ P W Φ (f,oiS dm):=by
 refine ⟨he,fun args r hr=>?_⟩
 unfold oiS at hr
 simp only at hr
 split at hr
 ·rename_i n
  simp only [Option.map_eq_some_iff] at hr
  obtain ⟨z,hz,rfl⟩:=hr
  refine fun E w aP R vs hL hE ha=>?_
  obtain ⟨v1,r1,rfl,e1,rfl⟩:=ha
  have e1:v1=_:=e1
  subst e1
  unfold dm at hz
  split at hz
  ·rename_i hc
   cases hz
   refine (h n hc.1 hc.2 w (V8 hL sO ht)).mono ?_
   rintro e w' ⟨h1,k,os,rfl⟩
   exact ⟨_,h1,rfl,Lib.below_grow _ w (Nat.le_refl _) k os⟩
  ·cases hz
 ·cases hr
theorem wF (g : Nat) (sO : ∀ i c, Φ i ≠ .blk g c) (hm : ∃ m, W.cell? ⟨g, 0, none⟩ = some (.int .i64 m)) (he : gB P f) (h : ∀ (s old new : ByteArray) (m : Int) (w : World), s.size < 4294967281 → w.cell? ⟨g, 0, none⟩ = some (.int .i64 m) → 1 ≤ old.size → s.size + Lib.countB s old * new.size ≤ 140737488355328 →
   Calls P f #[.string s,.string old,.string new] w fun e w'=>e= .returned (.string ⟨(Lib.replaceAll s.data.toList old.data.toList new.data.toList).toArray⟩)∧Below w.heap.size w w'):n_ P W Φ (f,BM eO):=
 Pc he fun s t u z hz w aP hL=>by
  unfold eO at hz
  split at hz
  ·rename_i hc
   cases hz
   obtain ⟨m,hm⟩:=hm
   exact h ⟨s.toArray⟩ ⟨t.toArray⟩ ⟨u.toArray⟩ m w (by show s.toArray.size<_;simpa using hc.1) (mC hL sO hm) (by show 1≤t.toArray.size;simpa using hc.2.1) (by show s.toArray.size+_*u.toArray.size≤_;simpa using hc.2.2)
  ·cases hz
theorem I4 {T : TypeId} (g : Nat) (sO : ∀ i c, Φ i ≠ .blk g c) (hm : ∃ m, W.cell? ⟨g, 0, none⟩ = some (.int .i64 m)) (he : gB P f) (h : ∀ (s sep : ByteArray) (m : Int) (w : World), s.size < 4294967281 → w.cell? ⟨g, 0, none⟩ = some (.int .i64 m) → 1 ≤ sep.size →
   Calls P f #[.string s,.string sep] w fun e w'=>e= .returned (.slice (some ⟨w.heap.size,0,none⟩) (Lib.countB s sep+1) (Lib.countB s sep+1))∧w'=w.alloc (.cells ((Lib.splitB sep 0 (Lib.countB s sep) s).map Value.string).toArray T)):n_ P W Φ (f,I2 mz):=
 Sv he fun s t z hz w aP hL=>by
  unfold mz at hz
  split at hz
  ·rename_i hc
   cases hz
   obtain ⟨m,hm⟩:=hm
   have hs:(⟨s.toArray⟩:ByteArray).size<4294967281:=by show s.toArray.size<_;simpa using hc.1
   have ht:1≤(⟨t.toArray⟩:ByteArray).size:=by show 1≤t.toArray.size;simpa using hc.2
   have hd:=Lib.splitB_data ⟨t.toArray⟩ 0 (Lib.countB ⟨s.toArray⟩ ⟨t.toArray⟩) ⟨s.toArray⟩
   have hlen:=Lib.splitB_all ⟨t.toArray⟩ ht 0 _ ⟨s.toArray⟩ rfl
   have hle:=Lib.countB_le ⟨t.toArray⟩ ht _ ⟨s.toArray⟩ (Nat.le_refl _)
   have hz:Lib.splitK t 0 (Lib.countB ⟨s.toArray⟩ ⟨t.toArray⟩) s=(Lib.splitB ⟨t.toArray⟩ 0 (Lib.countB ⟨s.toArray⟩ ⟨t.toArray⟩) ⟨s.toArray⟩).map (·.data.toList):=hd.symm
   refine (h ⟨s.toArray⟩ ⟨t.toArray⟩ m w hs (mC hL sO hm) ht).mono ?_
   rintro e w' ⟨h1,h2⟩
   have hl:(Lib.splitK t 0 (Lib.countB ⟨s.toArray⟩ ⟨t.toArray⟩) s).length=Lib.countB ⟨s.toArray⟩ ⟨t.toArray⟩+1:=by rw [hz,List.length_map,hlen]
   refine ⟨by rw [hl];unfold maxLen;omega,by rw [hl];exact h1,?_⟩
   rw [h2,hz,List.map_map]
   congr 3
  ·cases hz
end
end Go.Proofs.YtimbfadnabfabaaGreatDoor.Pm
