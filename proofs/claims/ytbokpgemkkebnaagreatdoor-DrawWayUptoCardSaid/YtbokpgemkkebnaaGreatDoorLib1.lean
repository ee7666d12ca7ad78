/- The library's functions by their contracts: what the small machine is told of them. -/
import Derived.Test.YtbokpgemkkebnaaGreatDoorLb0
import Derived.Lib.Strings
import Derived.Lib.TrimByte
import Derived.Lib.Repeat
import Derived.Lib.ItoaNum
import Derived.Lib.LastIndexByte
import Derived.Lib.Join
import Derived.Lib.Bytealg
import Derived.Lib.Replace
import Derived.Lib.CountLaws
import Derived.Lib.SplitLaws
import Derived.Lib.AppendIntMem
import Derived.Lib.SlTrimSet
import Derived.Shelf.Vars
namespace Go.Proofs.YtbokpgemkkebnaaGreatDoor.Pm
open Go.RowKit
set_option linter.unusedVariables false
set_option linter.unusedSimpArgs false
def ossS (g : List UInt8 → List UInt8 → Option (List UInt8)) : List PV → Option PV
 | [.d (.str s), .d (.str t)] => (g s t).map fun z => .d (.str z)
 | _ => none
def oiS (g : Int → Option (List UInt8)) : List PV → Option PV
 | [.d (.int .i64 n)] => (g n).map fun z => .d (.str z)
 | _ => none
def strsD : List PD → Option (List (List UInt8))
 | [] => some []
 | .str s :: t => (strsD t).map (s :: ·)
 | _ :: _ => none
def oSsS (g : List (List UInt8) → List UInt8 → Option (List UInt8)) : List PV → Option PV
 | [.d (.sl n cs), .d (.str t)] => (strsD cs).bind fun xs => if xs.length = n then ((g xs t).map fun z => .d (.str z)) else none
 | _ => none
theorem ossS_ {g : List UInt8 → List UInt8 → Option (List UInt8)} {s t z : List UInt8} (h : g s t = some z) : ossS g [.d (.str s), .d (.str t)] = some (.d (.str z)) := by simp [ossS, h]
theorem oiS_ {g : Int → Option (List UInt8)} {n : Int} {z : List UInt8} (h : g n = some z) : oiS g [.d (.int .i64 n)] = some (.d (.str z)) := by simp [oiS, h]
theorem strsD_ : ∀ xs : List (List UInt8), strsD (eStr.cells xs) = some xs
 | [] => rfl
 | x :: xs => by
  have : eStr.cells (x :: xs) = .str x :: eStr.cells xs := rfl
  rw [this]
  unfold strsD
  rw [strsD_ xs]; rfl
theorem oSsS_ {g : List (List UInt8) → List UInt8 → Option (List UInt8)} {xs : List (List UInt8)} {t z : List UInt8} (h : g xs t = some z) : oSsS g [.d (.sl xs.length (eStr.cells xs)), .d (.str t)] = some (.d (.str z)) := by
 simp [oSsS, strsD_, h]
def ossL (g : List UInt8 → List UInt8 → Option (List (List UInt8))) : List PV → Option PV
 | [.d (.str s), .d (.str t)] => (g s t).map fun xs => .d (.sl xs.length (eStr.cells xs))
 | _ => none
theorem ossL_ {g : List UInt8 → List UInt8 → Option (List (List UInt8))} {s t : List UInt8} {z : List (List UInt8)} (h : g s t = some z) : ossL g [.d (.str s), .d (.str t)] = some (.d (.sl z.length (eStr.cells z))) := by simp [ossL, h]
section
variable {P : Program} {W : World} {Φ : Nat → Phys} {f : Nat}
theorem strs_rep {w' : World} {B : Nat} {l : List (List UInt8)} {T : TypeId} (hb : w'.heap[B]? = some (.cells (l.map fun x => Value.string ⟨x.toArray⟩).toArray T (0, 0))) (hl : l.length ≤ maxLen) : RepD (fun b => b < B) w' (.sl l.length (eStr.cells l)) (.slice (some ⟨B, 0, none⟩) l.length l.length) := by
 refine ⟨_, _, rfl, Nat.le_refl _, hl, (fun h => by cases h), .inr ⟨B, 0, rfl, by omega, ?_, RepC.of fun j x hx => ?_⟩⟩
 ·have := (Array.getElem?_eq_some_iff.1 hb).1; exact this
 ·have hc : ∀ l : List (List UInt8), eStr.cells l = l.map PD.str := fun l => by induction l with
   | nil => rfl
   | cons a l ih => simp only [Enc.cells, List.map_cons]; rw [ih]; rfl
  rw [hc] at hx
  simp only [List.getElem?_map, Option.map_eq_some_iff] at hx
  obtain ⟨s, hs, rfl⟩ := hx
  refine ⟨.string ⟨s.toArray⟩, ?_, rfl⟩
  have : (RowAt w' B (l.map fun x => Value.string ⟨x.toArray⟩).toArray T) := .of hb
  rw [Nat.zero_add, this.cell j]
  simp [hs]
theorem libok_ossL {g : List UInt8 → List UInt8 → Option (List (List UInt8))} {T : TypeId} (he : canEnter P f) (h : ∀ s t z, g s t = some z → ∀ w φ0, Later W Φ w φ0 → Calls P f #[.string ⟨s.toArray⟩, .string ⟨t.toArray⟩] w fun e w' => z.length ≤ maxLen ∧ e = .returned (.slice (some ⟨w.heap.size, 0, none⟩) z.length z.length) ∧ w' = w.alloc (.cells (z.map fun x => Value.string ⟨x.toArray⟩).toArray T)) : LibOk P W Φ (f, ossL g) := by
 refine ⟨he, fun args r hr => ?_⟩
 unfold ossL at hr
 simp only at hr
 split at hr
 ·rename_i s t
  simp only [Option.map_eq_some_iff] at hr
  obtain ⟨z, hz, rfl⟩ := hr
  refine fun E w φ0 R vs hL hE ha => ?_
  obtain ⟨v1, r1, rfl, e1, v2, r2, rfl, e2, rfl⟩ := ha
  have e1 : v1 = _ := e1; have e2 : v2 = _ := e2
  subst e1; subst e2
  refine (h s t z hz w φ0 hL).mono ?_
  rintro e w' ⟨h0, h1, rfl⟩
  exact ⟨_, h1, strs_rep (T := T) (by show (w.heap.push _)[_]? = _; simp) h0, (Below.refl _ _).alloc (Nat.le_refl _) _⟩
 ·cases hr
theorem libok_ossS {g : List UInt8 → List UInt8 → Option (List UInt8)} (he : canEnter P f) (h : ∀ s t z, g s t = some z → ∀ w φ0, Later W Φ w φ0 → Calls P f #[.string ⟨s.toArray⟩, .string ⟨t.toArray⟩] w fun e w' => e = .returned (.string ⟨z.toArray⟩) ∧ Below w.heap.size w w') : LibOk P W Φ (f, ossS g) := by
 refine ⟨he, fun args r hr => ?_⟩
 unfold ossS at hr
 simp only at hr
 split at hr
 ·rename_i s t
  simp only [Option.map_eq_some_iff] at hr
  obtain ⟨z, hz, rfl⟩ := hr
  refine fun E w φ0 R vs hL hE ha => ?_
  obtain ⟨v1, r1, rfl, e1, v2, r2, rfl, e2, rfl⟩ := ha
  have e1 : v1 = _ := e1; have e2 : v2 = _ := e2
  subst e1; subst e2
  exact (h s t z hz w φ0 hL).mono fun e w' ⟨h1, h2⟩ => ⟨_, h1, rfl, h2⟩
 ·cases hr
theorem libok_oiS {g : Int → Option (List UInt8)} (he : canEnter P f) (h : ∀ n z, g n = some z → ∀ w φ0, Later W Φ w φ0 → Calls P f #[.int .i64 n] w fun e w' => e = .returned (.string ⟨z.toArray⟩) ∧ Below w.heap.size w w') : LibOk P W Φ (f, oiS g) := by
 refine ⟨he, fun args r hr => ?_⟩
 unfold oiS at hr
 simp only at hr
 split at hr
 ·rename_i n
  simp only [Option.map_eq_some_iff] at hr
  obtain ⟨z, hz, rfl⟩ := hr
  refine fun E w φ0 R vs hL hE ha => ?_
  obtain ⟨v1, r1, rfl, e1, rfl⟩ := ha
  have e1 : v1 = _ := e1
  subst e1
  exact (h n z hz w φ0 hL).mono fun e w' ⟨h1, h2⟩ => ⟨_, h1, rfl, h2⟩
 ·cases hr
theorem strsD_cells {X : Nat → Prop} {w : World} : ∀ {cs : List PD} {xs : List (List UInt8)} {b o : Nat}, strsD cs = some xs → RepC X w cs b o → ∀ (j : Nat) (x : List UInt8), xs[j]? = some x → w.cell? ⟨b, o + j, none⟩ = some (.string ⟨x.toArray⟩)
 | [], xs, b, o, h, _, j, x, hx => by cases h; simp at hx
 | .str s :: t, xs, b, o, h, hr, j, x, hx => by
  unfold strsD at h
  simp only [Option.map_eq_some_iff] at h
  obtain ⟨ys, hy, rfl⟩ := h
  obtain ⟨⟨v, h1, h2⟩, h3⟩ := hr
  have h2 : v = _ := h2
  subst h2
  cases j with
  | zero => simp at hx; subst hx; exact h1
  | succ j =>
   have := strsD_cells hy h3 j x (by simpa using hx)
   rw [show o + (j + 1) = o + 1 + j by omega]; exact this
 | .int .. :: _, xs, b, o, h, _, j, x, hx => by cases h
 | .bool _ :: _, xs, b, o, h, _, j, x, hx => by cases h
 | .sl .. :: _, xs, b, o, h, _, j, x, hx => by cases h
theorem libok_oSsS {g : List (List UInt8) → List UInt8 → Option (List UInt8)} (he : canEnter P f)
  (h0 : ∀ t z, g [] t = some z → ∀ w φ0 a c, Later W Φ w φ0 → Calls P f #[.slice a 0 c, .string ⟨t.toArray⟩] w fun e w' => e = .returned (.string ⟨z.toArray⟩) ∧ Below w.heap.size w w')
  (h : ∀ x xs t z, g (x :: xs) t = some z → ∀ w φ0 b o c, Later W Φ w φ0 → b < w.heap.size → (x :: xs).length ≤ c → (∀ (j : Nat) (y : List UInt8), (x :: xs)[j]? = some y → w.cell? ⟨b, o + j, none⟩ = some (.string ⟨y.toArray⟩)) →
   Calls P f #[.slice (some ⟨b, o, none⟩) (x :: xs).length c, .string ⟨t.toArray⟩] w fun e w' => e = .returned (.string ⟨z.toArray⟩) ∧ Below w.heap.size w w') : LibOk P W Φ (f, oSsS g) := by
 refine ⟨he, fun args r hr => ?_⟩
 unfold oSsS at hr
 simp only at hr
 split at hr
 ·rename_i n cs t
  obtain ⟨xs, hxs, hr⟩ := Option.bind_eq_some_iff.1 hr
  split at hr
  ·rename_i hn
   simp only [Option.map_eq_some_iff] at hr
   obtain ⟨z, hz, rfl⟩ := hr
   refine fun E w φ0 R vs hL hE ha => ?_
   obtain ⟨v1, r1, rfl, e1, v2, r2, rfl, e2, rfl⟩ := ha
   have e2 : v2 = _ := e2
   subst e2
   have e1 : RepD E w (.sl n cs) v1 := e1
   obtain ⟨a, c, rfl, hc1, hc2, hc3, hc4⟩ := e1
   subst hn
   cases xs with
   | nil => exact (h0 t z hz w φ0 a c hL).mono fun e w' ⟨h1, h2⟩ => ⟨_, h1, rfl, h2⟩
   | cons x xs =>
    rcases hc4 with rfl | ⟨b, o, rfl, _, hb, hr⟩
    ·cases hxs
    ·exact (h x xs t z hz w φ0 b o c hL hb hc1 (strsD_cells hxs hr)).mono fun e w' ⟨h1, h2⟩ => ⟨_, h1, rfl, h2⟩
  ·cases hr
 ·cases hr
def canB (P : Program) (f : Nat) : Bool := match P.funcs[f]? with
 | some fn => match fn.body with
  | some _ => !(fn.name == "runtime.NumGoroutine")
  | none => false
 | none => false
theorem canEnter_b {P : Program} {f : Nat} (h : canB P f = true) : canEnter P f := by
 unfold canB at h
 split at h
 ·rename_i fn hfn
  split at h
  ·rename_i c hbody
   intro args w
   have hname : (fn.name == "runtime.NumGoroutine") = false := by simpa using h
   simp only [callFunc, Sem.run_bind, run_program, Result.andThen_ok, hfn, hbody]
   simp [hname]
  ·cases h
 ·cases h
noncomputable def libSplit (s t : List UInt8) : Option (List (List UInt8)) := if s.length < 4294967281 ∧ 1 ≤ t.length then some (Lib.splitK t 0 (Lib.countB ⟨s.toArray⟩ ⟨t.toArray⟩) s) else none
noncomputable def libTrim (s t : List UInt8) : Option (List UInt8) := if s.length ≤ 9223372036854775807 ∧ t.length < 4294967281 ∧ t.all (fun b => decide (b.toNat < 128)) = true then some (Lib.trimS s t) else none
noncomputable def libItoa (n : Int) : Option (List UInt8) := if 0 ≤ n ∧ n < 100 then some (Lib.decDigits n.toNat) else none
noncomputable def libJoin (xs : List (List UInt8)) (t : List UInt8) : Option (List UInt8) := if xs.length ≤ 140737488355328 ∧ (Lib.join xs t).length ≤ 140737488355328 then some (Lib.join xs t) else none
theorem lok_Trim (he : canEnter P f) (h : ∀ (s cutset : ByteArray) (w : World), s.size ≤ 9223372036854775807 → cutset.size < 4294967281 → (∀ (j : Nat) b, cutset.data.toList[j]? = some b → b.toNat < 128) → Calls P f #[.string s, .string cutset] w fun e w' => e = .returned (.string ⟨(Lib.trimS s.data.toList cutset.data.toList).toArray⟩) ∧ Below w.heap.size w w') : LibOk P W Φ (f, ossS libTrim) :=
 libok_ossS he fun s t z hz w φ0 _ => by
  unfold libTrim at hz
  split at hz
  ·rename_i hc
   cases hz
   exact h ⟨s.toArray⟩ ⟨t.toArray⟩ w (by show s.toArray.size ≤ _; simpa using hc.1) (by show t.toArray.size < _; simpa using hc.2.1) (fun j b hb => of_decide_eq_true (List.all_eq_true.1 hc.2.2 b (List.mem_of_getElem? hb)))
  ·cases hz
theorem lok_Itoa (he : canEnter P f) (h : ∀ (i : Nat), i < 100 → ∀ w, Calls P f #[.int .i64 i] w fun e w' => e = .returned (.string ⟨(Lib.decDigits i).toArray⟩) ∧ w' = w) : LibOk P W Φ (f, oiS libItoa) :=
 libok_oiS he fun n z hz w φ0 _ => by
  unfold libItoa at hz
  split at hz
  ·rename_i hc
   cases hz
   have hn : ((n.toNat : Nat) : Int) = n := Int.toNat_of_nonneg hc.1
   have := h n.toNat (by omega) w
   rw [hn] at this
   exact this.mono fun e w' ⟨h1, h2⟩ => ⟨h1, h2 ▸ Below.refl _ _⟩
  ·cases hz
theorem lok_Join (he : canEnter P f) (h0 : ∀ (a : Option Addr) (c : Nat) (sep : ByteArray) (w : World), Calls P f #[.slice a 0 c, .string sep] w fun e w' => e = .returned (.string ⟨#[]⟩) ∧ w' = w)
  (h : ∀ (bk o c : Nat) (xs : List ByteArray) (sep : ByteArray) (w : World), (∀ (j : Nat) x, xs[j]? = some x → w.cell? ⟨bk, o + j, none⟩ = some (.string x)) → bk < w.heap.size → xs.length ≤ 140737488355328 → xs.length ≤ c → (Lib.join (xs.map (·.data.toList)) sep.data.toList).length ≤ 140737488355328 →
   Calls P f #[.slice (some ⟨bk, o, none⟩) xs.length c, .string sep] w fun e w' => e = .returned (.string ⟨(Lib.join (xs.map (·.data.toList)) sep.data.toList).toArray⟩) ∧ Below w.heap.size w w') : LibOk P W Φ (f, oSsS libJoin) :=
 libok_oSsS he (fun t z hz w φ0 a c _ => by
  unfold libJoin at hz
  split at hz
  ·cases hz
   exact (h0 a c ⟨t.toArray⟩ w).mono fun e w' ⟨h1, h2⟩ => ⟨h1, h2 ▸ Below.refl _ _⟩
  ·cases hz) fun x xs t z hz w φ0 b o c _ hb hc hcells => by
  unfold libJoin at hz
  split at hz
  ·rename_i hl
   cases hz
   have e : ((x :: xs).map fun (s : List UInt8) => (⟨s.toArray⟩ : ByteArray)).map (·.data.toList) = x :: xs := by rw [List.map_map]; exact List.map_id _
   have := h b o c ((x :: xs).map fun (s : List UInt8) => (⟨s.toArray⟩ : ByteArray)) ⟨t.toArray⟩ w (fun j y hy => by
    simp only [List.getElem?_map, Option.map_eq_some_iff] at hy
    obtain ⟨s, hs, rfl⟩ := hy
    exact hcells j s hs) hb (by rw [List.length_map]; exact hl.1) (by rw [List.length_map]; exact hc) (by rw [e]; exact hl.2)
   rw [e, List.length_map] at this
   exact this
  ·cases hz
theorem later_cell {w : World} {φ0 : Nat → Phys} {g o : Nat} {v : Value} (hL : Later W Φ w φ0) (hΦ : ∀ i c, Φ i ≠ .blk g c) (hm : W.cell? ⟨g, o, none⟩ = some v) : w.cell? ⟨g, o, none⟩ = some v := by
 have hlt : g < W.heap.size := by
  by_cases h : g < W.heap.size
  ·exact h
  ·have : W.heap[g]? = none := Array.getElem?_eq_none (by omega)
   simp [World.cell?, this] at hm
 have := (hL.keep g hlt hΦ).1
 simp only [World.cell?, this] at hm ⊢
 exact hm
theorem tab_later {P : Program} {w : World} {φ0 : Nat → Phys} {name : String} {k : IntKind} {zs : List Int} (hL : Later W Φ w φ0) (hΦ : ∀ i b c, Φ i ≠ .blk b c) (h : Lib.TabIs P W name k zs) : Lib.TabIs P w name k zs := by
 unfold Lib.TabIs World.var? at h ⊢
 cases hg : P.globalNamed name with
 | none => rw [hg] at h; cases h
 | some g =>
  rw [hg] at h
  simp only [Option.bind_some] at h ⊢
  have hlt : g < W.heap.size := by
   by_cases h' : g < W.heap.size
   ·exact h'
   ·have : W.heap[g]? = none := Array.getElem?_eq_none (by omega)
    rw [this] at h; cases h
  rw [(hL.keep g hlt (fun i c => hΦ i g c)).1]
  exact h
noncomputable def libItoaL (n : Int) : Option (List UInt8) := if -9223372036854775808 ≤ n ∧ n ≤ 9223372036854775807 then some (Lib.itoa n) else none
theorem lok_ItoaL (hΦ : ∀ i b c, Φ i ≠ .blk b c) (ht : Lib.TabIs P W "internal/strconv.uint64pow10" .u64 Lib.pow10Tab) (he : canEnter P f) (h : ∀ (n : Int), -9223372036854775808 ≤ n → n ≤ 9223372036854775807 → ∀ w : World, Lib.TabIs P w "internal/strconv.uint64pow10" .u64 Lib.pow10Tab →
   Calls P f #[.int .i64 n] w fun e w' => e = .returned (.string ⟨(Lib.itoa n).toArray⟩) ∧ ∃ k os, w' = Go.Sort.grow (w.drewN k) os) : LibOk P W Φ (f, oiS libItoaL) := by
 refine ⟨he, fun args r hr => ?_⟩
 unfold oiS at hr
 simp only at hr
 split at hr
 ·rename_i n
  simp only [Option.map_eq_some_iff] at hr
  obtain ⟨z, hz, rfl⟩ := hr
  refine fun E w φ0 R vs hL hE ha => ?_
  obtain ⟨v1, r1, rfl, e1, rfl⟩ := ha
  have e1 : v1 = _ := e1
  subst e1
  unfold libItoaL at hz
  split at hz
  ·rename_i hc
   cases hz
   refine (h n hc.1 hc.2 w (tab_later hL hΦ ht)).mono ?_
   rintro e w' ⟨h1, k, os, rfl⟩
   exact ⟨_, h1, rfl, Lib.below_grow _ w (Nat.le_refl _) k os⟩
  ·cases hz
 ·cases hr
theorem lok_Split {T : TypeId} (g : Nat) (hΦ : ∀ i c, Φ i ≠ .blk g c) (hm : ∃ m, W.cell? ⟨g, 0, none⟩ = some (.int .i64 m)) (he : canEnter P f) (h : ∀ (s sep : ByteArray) (m : Int) (w : World), s.size < 4294967281 → w.cell? ⟨g, 0, none⟩ = some (.int .i64 m) → 1 ≤ sep.size →
   Calls P f #[.string s, .string sep] w fun e w' => e = .returned (.slice (some ⟨w.heap.size, 0, none⟩) (Lib.countB s sep + 1) (Lib.countB s sep + 1)) ∧ w' = w.alloc (.cells ((Lib.splitB sep 0 (Lib.countB s sep) s).map Value.string).toArray T)) : LibOk P W Φ (f, ossL libSplit) :=
 libok_ossL he fun s t z hz w φ0 hL => by
  unfold libSplit at hz
  split at hz
  ·rename_i hc
   cases hz
   obtain ⟨m, hm⟩ := hm
   have hs : (⟨s.toArray⟩ : ByteArray).size < 4294967281 := by show s.toArray.size < _; simpa using hc.1
   have ht : 1 ≤ (⟨t.toArray⟩ : ByteArray).size := by show 1 ≤ t.toArray.size; simpa using hc.2
   have hd := Lib.splitB_data ⟨t.toArray⟩ 0 (Lib.countB ⟨s.toArray⟩ ⟨t.toArray⟩) ⟨s.toArray⟩
   have hlen := Lib.splitB_all ⟨t.toArray⟩ ht 0 _ ⟨s.toArray⟩ rfl
   have hle := Lib.countB_le ⟨t.toArray⟩ ht _ ⟨s.toArray⟩ (Nat.le_refl _)
   have hz : Lib.splitK t 0 (Lib.countB ⟨s.toArray⟩ ⟨t.toArray⟩) s = (Lib.splitB ⟨t.toArray⟩ 0 (Lib.countB ⟨s.toArray⟩ ⟨t.toArray⟩) ⟨s.toArray⟩).map (·.data.toList) := hd.symm
   refine (h ⟨s.toArray⟩ ⟨t.toArray⟩ m w hs (later_cell hL hΦ hm) ht).mono ?_
   rintro e w' ⟨h1, h2⟩
   have hl : (Lib.splitK t 0 (Lib.countB ⟨s.toArray⟩ ⟨t.toArray⟩) s).length = Lib.countB ⟨s.toArray⟩ ⟨t.toArray⟩ + 1 := by rw [hz, List.length_map, hlen]
   refine ⟨by rw [hl]; unfold maxLen; omega, by rw [hl]; exact h1, ?_⟩
   rw [h2, hz, List.map_map]
   congr 3
  ·cases hz
end
end Go.Proofs.YtbokpgemkkebnaaGreatDoor.Pm
