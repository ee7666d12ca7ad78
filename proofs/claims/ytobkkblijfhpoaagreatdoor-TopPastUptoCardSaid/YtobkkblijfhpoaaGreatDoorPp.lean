/- The small machine: the memory of its own, written and grown. No program is named here. -/
import Derived.Test.YtobkkblijfhpoaaGreatDoorPo
import Derived.Deep.AppendSrc
namespace Go.Proofs.YtobkkblijfhpoaaGreatDoor.Pm
open Go.RowKit

section
variable {E : Nat → Prop} {m : List Blk} {φ0 φ : Nat → Phys} {H : Nat → Cel} {w0 w : World}

theorem Mem.blk_at (hm : Mem E m φ0 w0 φ H w) {i g : Nat} {b : Blk} (hl : look H i g = some b) : g = (H i).g ∧ (H i).b = some b := by
 unfold look at hl
 split at hl
 ·exact ⟨‹_›, hl⟩
 ·cases hl
theorem Mem.newG (hm : Mem E m φ0 w0 φ H w) (i : Nat) (b : Blk) (vs : Array Value) (T : TypeId) (c : Nat)
  (hk9 : i < m.length → (∀ b0, kin b0 (H i).b → kin b0 (some b)) ∧ ∃ e k cs, (H i).b = some (.own e k cs))
  (hb : (∃ (cs : List PV) (us : Array Value), b = .box cs ∧ boxObj w.heap.size us T = .cells vs T (0, 0) ∧ RepL (Xof E φ) w (RefAt φ H) cs us.toList) ∨
   (∃ k cs, b = .own T k cs ∧ 0 < k ∧ vs.size = c * k ∧ c ≤ maxLen ∧ (∃ n, cs.length = n * k) ∧ cs.length ≤ c * k ∧ RepL (Xof E φ) w (RefAt φ H) (cs.map .d) (vs.toList.take cs.length))) :
  ∃ φ', φ' i = .blk w.heap.size c ∧ (∀ j, j ≠ i → φ' j = φ j) ∧ Mem E m φ0 w0 φ' (up H i ⟨(H i).g + 1, some b⟩) (w.alloc (.cells vs T)) ∧ Tr E φ H w φ' (up H i ⟨(H i).g + 1, some b⟩) (w.alloc (.cells vs T)) := by
 refine ⟨up φ i (.blk w.heap.size c), up_same _ _ _, fun j hj => up_ne _ _ _ _ hj, ?_⟩
 refine hm.upd (fun j => j = i) (fun j hj => ⟨up_ne _ _ _ _ hj, up_ne _ _ _ _ hj⟩) (fun j hj => by subst hj; rw [up_same]; exact .inl (Nat.lt_succ_self _)) (fun b hb _ => Below.heap_alloc w _ b hb)
  (fun j b' c' hj hp => by subst hj; rw [up_same] at hp; cases hp; exact ⟨by simp, .inl (Nat.le_refl _)⟩) (fun a a' _ _ _ h1 h2 _ _ => h1.trans h2.symm) (fun j hj hjm => by subst hj; rw [up_same]; exact ⟨(hk9 hjm).1, .inr (hk9 hjm).2⟩) (by simp) ⟨rfl, rfl, rfl⟩ ?_
 intro tr j b' hj hb'
 subst hj
 rw [up_same] at hb'
 simp only [Option.some.injEq] at hb'
 subst hb'
 rw [up_same]
 have hnew := heap_alloc_new w (.cells vs T)
 rcases hb with ⟨cs, us, rfl, hok, hr⟩ | ⟨k, cs, rfl, h0, h1, h2, h3, h4, hr⟩
 ·exact ⟨us, T, by rw [hok]; exact hnew, tr.l hr⟩
 ·exact ⟨h0, vs, _, .of hnew, h1, h2, h3, h4, rfl, tr.l hr⟩
theorem Mem.newF (hm : Mem E m φ0 w0 φ H w) (i : Nat) (hi8 : 8 ≤ i) (k : Nat) (cs : List PD) (vs : Array Value) (T : TypeId) (c : Nat) (f : Nat × Nat) (hf : f = (0, 0) ∨ vs.size ≤ f.1)
  (h0 : 0 < k) (h1 : vs.size = c * k) (h2 : c ≤ maxLen) (h3 : ∃ n, cs.length = n * k) (h4 : cs.length ≤ c * k) (hr : RepL (Xof E φ) w (RefAt φ H) (cs.map .d) (vs.toList.take cs.length)) :
  ∃ φ', φ' i = .blk w.heap.size c ∧ Mem E m φ0 w0 φ' (up H i ⟨(H i).g + 1, some (.own T k cs)⟩) (w.alloc (.cells vs T f)) ∧ Tr E φ H w φ' (up H i ⟨(H i).g + 1, some (.own T k cs)⟩) (w.alloc (.cells vs T f)) := by
 refine ⟨up φ i (.blk w.heap.size c), up_same _ _ _, ?_⟩
 refine hm.upd (fun j => j = i) (fun j hj => ⟨up_ne _ _ _ _ hj, up_ne _ _ _ _ hj⟩) (fun j hj => by subst hj; rw [up_same]; exact .inl (Nat.lt_succ_self _)) (fun b hb _ => Below.heap_alloc w _ b hb)
  (fun j b' c' hj hp => by subst hj; rw [up_same] at hp; cases hp; exact ⟨by simp, .inl (Nat.le_refl _)⟩) (fun a a' _ _ _ h1 h2 _ _ => h1.trans h2.symm) (fun j hj hjm => by have := hm.m8; omega) (by simp) ⟨rfl, rfl, rfl⟩ ?_
 intro tr j b' hj hb'
 subst hj
 rw [up_same] at hb'
 simp only [Option.some.injEq] at hb'
 subst hb'
 rw [up_same]
 exact ⟨h0, vs, _, ⟨f, heap_alloc_new w (.cells vs T f), hf⟩, h1, h2, h3, h4, rfl, tr.l hr⟩
theorem Mem.new (hm : Mem E m φ0 w0 φ H w) (i : Nat) (hi8 : 8 ≤ i) (b : Blk) (vs : Array Value) (T : TypeId) (c : Nat)
  (hb : (∃ (cs : List PV) (us : Array Value), b = .box cs ∧ boxObj w.heap.size us T = .cells vs T (0, 0) ∧ RepL (Xof E φ) w (RefAt φ H) cs us.toList) ∨
   (∃ k cs, b = .own T k cs ∧ 0 < k ∧ vs.size = c * k ∧ c ≤ maxLen ∧ (∃ n, cs.length = n * k) ∧ cs.length ≤ c * k ∧ RepL (Xof E φ) w (RefAt φ H) (cs.map .d) (vs.toList.take cs.length))) :
  ∃ φ', φ' i = .blk w.heap.size c ∧ (∀ j, j ≠ i → φ' j = φ j) ∧ Mem E m φ0 w0 φ' (up H i ⟨(H i).g + 1, some b⟩) (w.alloc (.cells vs T)) ∧ Tr E φ H w φ' (up H i ⟨(H i).g + 1, some b⟩) (w.alloc (.cells vs T)) :=
 hm.newG i b vs T c (fun h => by have := hm.m8; omega) hb
theorem Mem.newNil (hm : Mem E m φ0 w0 φ H w) (i : Nat) (hi8 : 8 ≤ i) (e k : Nat) (hk : 0 < k) (a : Option Addr) :
  ∃ φ', φ' i = .nil a ∧ Mem E m φ0 w0 φ' (up H i ⟨(H i).g + 1, some (.own e k [])⟩) w ∧ Tr E φ H w φ' (up H i ⟨(H i).g + 1, some (.own e k [])⟩) w := by
 refine ⟨up φ i (.nil a), up_same _ _ _, ?_⟩
 refine hm.upd (fun j => j = i) (fun j hj => ⟨up_ne _ _ _ _ hj, up_ne _ _ _ _ hj⟩) (fun j hj => by subst hj; rw [up_same]; exact .inl (Nat.lt_succ_self _)) (fun _ _ _ => rfl)
  (fun j b' c' hj hp => by subst hj; rw [up_same] at hp; cases hp) (fun a a' _ _ _ h1 h2 _ _ => h1.trans h2.symm) (fun j hj hjm => by have := hm.m8; omega) (Nat.le_refl _) ⟨rfl, rfl, rfl⟩ ?_
 intro tr j b' hj hb'
 subst hj
 rw [up_same] at hb'
 simp only [Option.some.injEq] at hb'
 subst hb'
 rw [up_same]
 exact ⟨hk, rfl⟩
theorem ref_new {φ : Nat → Phys} {H : Nat → Cel} {i b c : Nat} (hp : φ i = .blk b c) (o : Nat) : RefAt φ H (.ptr i (H i).g o) (.pointer (some ⟨b, o, none⟩)) :=
 ⟨⟨_, rfl⟩, Nat.le_refl _, fun _ _ => ⟨b, c, hp, rfl⟩⟩
theorem ref_own {φ : Nat → Phys} {H : Nat → Cel} {i b c n k : Nat} {e : TypeId} {cs : List PD} (hp : φ i = .blk b c) (hb : (H i).b = some (.own e k cs)) (hk : 0 < k) (hl : cs.length = n * k) (hn : n ≤ c) :
  RefAt φ H (.msl i (H i).g 0 n) (.slice (some ⟨b, 0, none⟩) n c) :=
 ⟨⟨_, _, _, rfl⟩, Nat.le_refl _, fun _ e' k' cs' h => by
  rw [hb] at h; cases h
  refine ⟨hk, by rw [Nat.zero_add, hl]; exact Nat.le_refl _, ?_⟩
  rw [hp]
  exact ⟨_, c, rfl, hn, rfl, fun _ => by simp, fun _ => rfl, by simp⟩⟩
theorem ref_nil {φ : Nat → Phys} {H : Nat → Cel} {i k : Nat} {e : TypeId} {a : Option Addr} (hp : φ i = .nil a) (hb : (H i).b = some (.own e k [])) (hk : 0 < k) : RefAt φ H (.msl i (H i).g 0 0) (.slice a 0 0) :=
 ⟨⟨_, _, _, rfl⟩, Nat.le_refl _, fun _ e' k' cs' h => by
  rw [hb] at h; cases h
  refine ⟨hk, by simp, ?_⟩
  rw [hp]
  exact ⟨rfl, rfl, rfl⟩⟩
theorem splice_len {α : Type} (cs : List α) (o : Nat) (new : List α) (h : o + new.length ≤ cs.length) : (splice cs o new).length = cs.length := by
 simp [splice]; omega
theorem RepL.splice {X : Nat → Prop} {w : World} {R : Ref → Value → Prop} {cs new : List PV} {vs news : List Value} (h : RepL X w R cs vs) (k : RepL X w R new news) (o : Nat) :
  RepL X w R (splice cs o new) (vs.take o ++ news ++ vs.drop (o + news.length)) := by
 unfold Pm.splice
 rw [← k.len]
 exact ((h.take o).app k).app (h.drop _)
theorem take_splice {α : Type} (l : List α) (L o : Nat) (new : List α) (h : o + new.length ≤ L) (hL : L ≤ l.length) :
  (l.take o ++ new ++ l.drop (o + new.length)).take L = (l.take L).take o ++ new ++ (l.take L).drop (o + new.length) := by
 have e1 : l.take o = (l.take L).take o := by rw [List.take_take, Nat.min_eq_left (by omega)]
 have e2 : l.drop (o + new.length) = (l.take L).drop (o + new.length) ++ l.drop L := by
  conv => lhs; rw [← List.take_append_drop L l]
  rw [List.drop_append_of_le_length (by simp; omega)]
 rw [e1, e2, ← List.append_assoc]
 exact List.take_left' (by simp; omega)
theorem map_splice {α β : Type} (f : α → β) (cs : List α) (o : Nat) (new : List α) : (splice cs o new).map f = splice (cs.map f) o (new.map f) := by
 simp [splice, List.map_take, List.map_drop]
theorem run_storeCells_row (P : Program) (g o : Nat) (t : TypeId) : ∀ (vs : List Value) (i : Nat) (cur : Array Value) (w : World), RowAt w g cur t → o + i + vs.length ≤ cur.size → (∀ v ∈ vs, v.oneCell' = true) →
  (storeCells ⟨g, o, none⟩ vs i).run P w = .ok () (w.setRow g (cur.toList.take (o + i) ++ vs ++ cur.toList.drop (o + i + vs.length)).toArray)
 | [], i, cur, w, hg, _, _ => by
  simp only [storeCells, List.append_nil, List.length_nil, Nat.add_zero, List.take_append_drop, Array.toArray_toList]
  obtain ⟨f, h1, _⟩ := hg
  rw [setRow_self w g cur t f h1]
  rfl
 | v :: rest, i, cur, w, hg, hl, h1 => by
  have hi : o + i < cur.size := by simp at hl; omega
  have hadd : (⟨g, o, none⟩ : Addr).add i = ⟨g, o + i, none⟩ := by unfold Addr.add; split <;> simp_all
  have hcell : w.cell? ⟨g, o + i, none⟩ = some cur[o + i] := by rw [hg.cell]; simp [hi]
  have hfro : w.frozen? ⟨g, o + i, none⟩ = false := hg.free _ hi
  have hset : w.setCell ⟨g, o + i, none⟩ v = w.setRow g (cur.setIfInBounds (o + i) v) := by
   obtain ⟨f, h2, _⟩ := hg
   exact setCell_eq_setRow w g (o + i) cur t f v h2
  have hst : (store ((⟨g, o, none⟩ : Addr).add i) v).run P w = .ok () (w.setRow g (cur.setIfInBounds (o + i) v)) := by
   rw [hadd, run_store P w _ v _ (h1 v (by simp)), hcell]
   simp [hfro, hset]
  have ih := run_storeCells_row P g o t rest (i + 1) (cur.setIfInBounds (o + i) v) (w.setRow g (cur.setIfInBounds (o + i) v)) (hg.set _ (by simp)) (by simp at hl ⊢; omega) (fun x hx => h1 x (by simp [hx]))
  simp only [storeCells, Sem.run_bind, hst, Result.andThen_ok, ih, setRow_setRow]
  congr 3
  have e := list_seg_step cur.toList (o + i) v rest (by simp at hl ⊢; omega)
  simpa [Array.toList_setIfInBounds, Nat.add_assoc] using e
theorem run_append_row {P : Program} (w : World) (t tx ty e : TypeId) (i : TypeInfo) (ht : P.underlying t = some (.slice e)) (hi : P.info? e = some i)
  (g sLen sCap : Nat) (cur : Array Value) (hg : RowAt w g cur e) {x : Value} {m : Nat} {news : List Value} (hs : Src P i.size tx x m news w)
  (hroom : sLen + m ≤ sCap) (hfit : sLen * i.size + news.length ≤ cur.size) :
  (Builtin.append_ #[t, tx] ty #[.slice (some ⟨g, 0, none⟩) sLen sCap, x]).run P w =
   .ok (.slice (some ⟨g, 0, none⟩) (sLen + m) sCap) (w.setRow g (cur.toList.take (sLen * i.size) ++ news ++ cur.toList.drop (sLen * i.size + news.length)).toArray) := by
 have hst := run_storeCells_row P g (sLen * i.size) e news 0 cur w hg (by simpa using hfit) hs.one
 simp only [Nat.add_zero] at hst
 rcases hs.kind with ⟨e', hk⟩ | hk <;> simp [Builtin.append_, run_underlying ht, run_underlying hk, sizeOf, typeInfo, hi, hs.len, hroom, hs.cells, Addr.add_lit, hst]
theorem Mem.set_ (hm : Mem E m φ0 w0 φ H w) {i : Nat} {b b' : Blk} (hb : (H i).b = some b) {new : List PV} {news : List Value} (hr : RepL (Xof E φ) w (RefAt φ H) new news) (h1 : ∀ u ∈ news, u.oneCell' = true) (h0 : 0 < new.length) (o : Nat)
  (hbb : (∃ cs, b = .box cs ∧ b' = .box (splice cs o new) ∧ o + new.length ≤ cs.length ∧ okBox cs = true ∧ okBox (splice cs o new) = true) ∨ (∃ e k cs ds, b = .own e k cs ∧ b' = .own e k (splice cs o ds) ∧ new = ds.map .d ∧ o + new.length ≤ cs.length))
  (P : Program) : ∃ x c, φ i = .blk x c ∧ ∃ w', (storeCells ⟨x, o, none⟩ news).run P w = .ok () w' ∧ Mem E m φ0 w0 φ (up H i ⟨(H i).g, some b'⟩) w' ∧ Tr E φ H w φ (up H i ⟨(H i).g, some b'⟩) w' := by
 have hrep := hm.rep i b hb
 have hlen := hr.len
 cases hp : φ i with
 | nil a =>
  rw [hp] at hrep
  rcases hbb with ⟨cs, rfl, rfl, hl, _⟩ | ⟨e, k, cs, ds, rfl, rfl, rfl, hl⟩
  ·exact hrep.elim
  ·obtain ⟨_, rfl⟩ := hrep
   rw [List.length_nil] at hl
   omega
 | blk x c =>
  rw [hp] at hrep
  refine ⟨x, c, rfl, ?_⟩
  have key : ∀ (cur : Array Value) (T : TypeId), RowAt w x cur T → o + news.length ≤ cur.size →
    (∀ tr : Tr E φ H w φ (up H i ⟨(H i).g, some b'⟩) (w.setRow x (cur.toList.take (o + 0) ++ news ++ cur.toList.drop (o + 0 + news.length)).toArray),
     RepB (Xof E φ) (w.setRow x (cur.toList.take (o + 0) ++ news ++ cur.toList.drop (o + 0 + news.length)).toArray) φ (up H i ⟨(H i).g, some b'⟩) (.blk x c) b') →
    like (some b) (some b') →
    ∃ w', (storeCells ⟨x, o, none⟩ news).run P w = .ok () w' ∧ Mem E m φ0 w0 φ (up H i ⟨(H i).g, some b'⟩) w' ∧ Tr E φ H w φ (up H i ⟨(H i).g, some b'⟩) w' := by
   intro cur T hcur hfit hnew hlike
   refine ⟨_, run_storeCells_row P x o T news 0 cur w hcur (by omega) h1, ?_⟩
   refine hm.upd (fun j => j = i) (fun j hj => ⟨rfl, up_ne _ _ _ _ hj⟩) (fun j hj => by subst hj; rw [up_same]; exact .inr ⟨rfl, rfl, by rw [hb]; exact hlike⟩)
    (fun k hk hne => setRow_other w x k _ (fun e => hne i c rfl (by rw [hp, e])))
    (fun j k c' hj hk => ⟨by rw [setRow_size]; exact (hm.lt j k c' hk).1, .inr ⟨c', hk⟩⟩) (fun a a' _ _ _ h1 h2 _ _ => h1.trans h2.symm) (fun j hj _ => by
     subst hj
     rw [up_same, hb]
     exact ⟨fun b0 hk => by
      rcases hbb with ⟨cs, rfl, rfl, _⟩ | ⟨e, k, cs, ds, rfl, rfl, _⟩ <;> cases b0 <;> first | exact hk | exact hk.elim, .inl rfl⟩) (by simp) ⟨rfl, rfl, rfl⟩ ?_
   intro tr j b2 hj hb2
   subst hj
   rw [up_same] at hb2
   simp only [Option.some.injEq] at hb2
   subst hb2
   rw [hp]
   exact hnew tr
  rcases hbb with ⟨cs, rfl, rfl, hl, hk1, hk2⟩ | ⟨e, k, cs, ds, rfl, rfl, rfl, hl⟩
  ·obtain ⟨vs, T, q1, q2⟩ := hrep
   have hv := q2.len
   rw [boxObj_ok T hk1 q2] at q1
   refine key vs T (.of q1) (by simp at hv; omega) (fun tr => ⟨(vs.toList.take (o + 0) ++ news ++ vs.toList.drop (o + 0 + news.length)).toArray, T, by rw [boxObj_ok T hk2 (show RepL (Xof E φ) w (RefAt φ H) _ _ from by rw [List.toList_toArray, Nat.add_zero]; exact q2.splice hr o)]; exact setRow_heap w x vs _ T _ q1, ?_⟩) trivial
   simp only [Nat.add_zero]
   exact tr.l (q2.splice hr o)
  ·obtain ⟨q0, cur, xs, q1, q2, q3, q4, q5, q6, q7⟩ := hrep
   have hcl : xs.length = cs.length := by have := q7.len; simp at this; omega
   have hcs : cs.length ≤ cur.size := by omega
   simp only [List.length_map] at hl hlen
   have hsz2 : (cur.toList.take (o + 0) ++ news ++ cur.toList.drop (o + 0 + news.length)).toArray.size = cur.size := by
    rw [List.size_toArray, List.length_append, List.length_append, List.length_take, List.length_drop, Array.length_toList]
    omega
   refine key cur e q1 (by omega) (fun tr => ⟨q0, _, _, q1.set _ hsz2, ?_, q3, ?_, ?_, rfl, ?_⟩) ⟨rfl, rfl, (splice_len cs o ds hl).symm⟩
   ·rw [List.size_toArray, List.length_append, List.length_append, List.length_take, List.length_drop, Array.length_toList, ← q2]
    omega
   ·rw [splice_len cs o ds hl]; exact q4
   ·rw [splice_len cs o ds hl]; exact q5
   ·rw [splice_len cs o ds hl, map_splice]
    have := tr.l (q7.splice hr o)
    rw [← q6] at this
    rw [List.toList_toArray, Nat.add_zero, take_splice _ _ _ _ (by omega) (by simpa using hcs)]
    exact this

theorem up_up {α : Type} (f : Nat → α) (i : Nat) (x y : α) : up (up f i x) i y = up f i y := by funext j; unfold up; split <;> rfl
theorem Mem.list_at (hm : Mem E m φ0 w0 φ H w) {p : PV} {n : Nat} {cs : List PD} {v : Value} (h : asL H p = some (n, cs)) (hv : RepV (Xof E φ) w (RefAt φ H) p v) :
  ∃ a c us, v = .slice a n c ∧ n ≤ c ∧ c ≤ maxLen ∧ (a = none → c = 0) ∧ RepL (Xof E φ) w (RefAt φ H) (cs.map .d) us ∧ (cs = [] ∨ ∃ b o, a = some ⟨b, o, none⟩ ∧ b < w.heap.size ∧ ∀ j u, us[j]? = some u → w.cell? ⟨b, o + j, none⟩ = some u) := by
 have dat : RepD (Xof E φ) w (.sl n cs) v → ∃ a c us, v = .slice a n c ∧ n ≤ c ∧ c ≤ maxLen ∧ (a = none → c = 0) ∧ RepL (Xof E φ) w (RefAt φ H) (cs.map .d) us ∧ (cs = [] ∨ ∃ b o, a = some ⟨b, o, none⟩ ∧ b < w.heap.size ∧ ∀ j u, us[j]? = some u → w.cell? ⟨b, o + j, none⟩ = some u) := by
  intro hv
  obtain ⟨a, c, rfl, h1, h2, h3, h4⟩ := hv
  rcases h4 with rfl | ⟨b, o, e, hx, hl, hc⟩
  ·exact ⟨a, c, [], rfl, h1, h2, h3, rfl, .inl rfl⟩
  ·have hall : ∀ (ds : List PD) (o : Nat), RepC (Xof E φ) w ds b o → ∃ us, RepL (Xof E φ) w (RefAt φ H) (ds.map .d) us ∧ ∀ j u, us[j]? = some u → w.cell? ⟨b, o + j, none⟩ = some u := by
    intro ds
    induction ds with
    | nil => exact fun o _ => ⟨[], rfl, fun j u hu => by simp at hu⟩
    | cons x ds ih =>
     intro o ⟨⟨u, q1, q2⟩, q3⟩
     obtain ⟨us, r1, r2⟩ := ih (o + 1) q3
     refine ⟨u :: us, ⟨u, us, rfl, q2, r1⟩, fun j u' hu => ?_⟩
     cases j with
     | zero => simp at hu; subst hu; exact q1
     | succ j => have := r2 j u' (by simpa using hu); rwa [show o + (j + 1) = o + 1 + j by omega]
   obtain ⟨us, r1, r2⟩ := hall cs o hc
   exact ⟨a, c, us, rfl, h1, h2, h3, r1, .inr ⟨b, o, e, hl, r2⟩⟩
 unfold asL at h
 split at h
 ·cases h
  exact dat hv
 ·cases h
  obtain ⟨a, rfl⟩ := hv
  exact ⟨a, 0, [], rfl, Nat.le_refl _, by simp, fun _ => rfl, rfl, .inl rfl⟩
 ·cases h
  exact dat hv.1
 ·rename_i i g l n'
  split at h
  ·rename_i e k ds hl
   cases h
   obtain ⟨hg, hb⟩ := hm.blk_at hl
   obtain ⟨_, _, q2⟩ := hv
   obtain ⟨hk, hle, hp⟩ := q2 hg e k ds hb
   have hrep := hm.rep i _ hb
   cases hφ : φ i with
   | nil a =>
    rw [hφ] at hp
    obtain ⟨rfl, rfl, rfl⟩ := hp
    exact ⟨a, 0, [], rfl, Nat.le_refl _, by simp, fun _ => rfl, by simp; rfl, .inl (by simp)⟩
   | blk b c =>
    rw [hφ] at hp hrep
    obtain ⟨a, c', rfl, h1, h2, h3, h4, h5⟩ := hp
    obtain ⟨q0, cur, xs, r1, r2, r3, r4, r5, r6, r7⟩ := hrep
    refine ⟨a, c', (xs.drop (l * k)).take (n * k), rfl, h1, by omega, fun e => absurd e h5, ?_, ?_⟩
    ·rw [List.map_take, List.map_drop]; exact (r7.drop _).take _
    ·by_cases hn : 0 < n
     ·refine .inr ⟨b, l * k, h3 hn, (hm.lt i b c hφ).1, fun j u hu => ?_⟩
      rw [r1.cell]
      rw [List.getElem?_take] at hu
      split at hu
      ·rw [List.getElem?_drop, ← r6, List.getElem?_take] at hu
       split at hu
       ·simpa using hu
       ·cases hu
      ·cases hu
     ·have : n = 0 := by omega
      subst this
      exact .inl (by simp)
  ·cases h
 ·cases h
theorem run_append_zero (P : Program) (w : World) (t tx ty e : TypeId) (i : TypeInfo) (ht : P.underlying t = some (.slice e)) (hi : P.info? e = some i) (a : Option Addr) (n c : Nat) (hn : n ≤ c) {x : Value} (hs : Src P i.size tx x 0 [] w) :
  (Builtin.append_ #[t, tx] ty #[.slice a n c, x]).run P w = .ok (.slice a n c) w := by
 rcases hs.kind with ⟨e', hk⟩ | hk <;> cases a <;> simp [Builtin.append_, run_underlying ht, run_underlying hk, sizeOf, typeInfo, hi, hs.len, hn, hs.cells, storeCells]
set_option maxHeartbeats 2000000 in
theorem Mem.app (hm : Mem E m φ0 w0 φ H w) (P : Program) {i n k q bytes : Nat} {e t tx ty : TypeId} {it : TypeInfo} {z : Value} {cs ys : List PD} (hb : (H i).b = some (.own e k cs)) (hcs : cs.length = n * k) (hys : ys.length = q * k)
  (hbytes : (n + q) * bytes ≤ 140737488355328) (hb1 : 1 ≤ bytes) (ht : P.underlying t = some (.slice e)) (hi : P.info? e = some it) (hz : it.zero = some z) (hsz : it.size = k) (hby : it.bytes = bytes) (hzs : z.cells.size = k)
  {v x : Value} (hv : RefAt φ H (.msl i (H i).g 0 n) v)
  (hx : ∃ us, RepL (Xof E φ) w (RefAt φ H) (ys.map .d) us ∧ Src P k tx x q us w) :
  ∃ v' w' φ', (Builtin.append_ #[t, tx] ty #[v, x]).run P w = .ok v' w' ∧ Mem E m φ0 w0 φ' (up H i ⟨(H i).g + 1, some (.own e k (cs ++ ys))⟩) w' ∧ Tr E φ H w φ' (up H i ⟨(H i).g + 1, some (.own e k (cs ++ ys))⟩) w' ∧
   RefAt φ' (up H i ⟨(H i).g + 1, some (.own e k (cs ++ ys))⟩) (.msl i ((H i).g + 1) 0 (n + q)) v' := by
 obtain ⟨us, hus, hsrc⟩ := hx
 have husl := hus.len
 simp only [List.length_map] at husl
 obtain ⟨_, _, q2⟩ := hv
 obtain ⟨hk, _, hp⟩ := q2 rfl e k cs hb
 have hrep := hm.rep i _ hb
 have hle : n + q ≤ 140737488355328 := Nat.le_trans (by have := Nat.mul_le_mul_left (n + q) hb1; simpa using this) hbytes
 have hmax : n + q ≤ maxLen := by unfold maxLen; omega
 have hlen : (cs ++ ys).length = (n + q) * k := by rw [List.length_append, hcs, hys, Nat.add_mul]
 have h1 := hsrc.one
 by_cases hq : q = 0
 ·subst hq
  have hy : ys = [] := List.eq_nil_of_length_eq_zero (by simpa using hys)
  subst hy
  have hus0 : us = [] := List.eq_nil_of_length_eq_zero (by simpa using husl.symm)
  subst hus0
  have same : ∀ (vv : Value), v = vv → (∃ a c, vv = .slice a n c ∧ n ≤ c) → (Tr E φ H w φ (up H i ⟨(H i).g + 1, some (.own e k (cs ++ []))⟩) w → RefAt φ (up H i ⟨(H i).g + 1, some (.own e k (cs ++ []))⟩) (.msl i ((H i).g + 1) 0 (n + 0)) vv) →
    ∃ v' w' φ', (Builtin.append_ #[t, tx] ty #[v, x]).run P w = .ok v' w' ∧ Mem E m φ0 w0 φ' (up H i ⟨(H i).g + 1, some (.own e k (cs ++ []))⟩) w' ∧ Tr E φ H w φ' (up H i ⟨(H i).g + 1, some (.own e k (cs ++ []))⟩) w' ∧
   RefAt φ' (up H i ⟨(H i).g + 1, some (.own e k (cs ++ []))⟩) (.msl i ((H i).g + 1) 0 (n + 0)) v' := by
   rintro vv rfl ⟨a, c, rfl, hnc⟩ href
   have hup := hm.upd (φ' := φ) (w' := w) (H' := up H i ⟨(H i).g + 1, some (.own e k (cs ++ []))⟩) (fun j => j = i) (fun j hj => ⟨rfl, up_ne _ _ _ _ hj⟩) (fun j hj => by subst hj; rw [up_same]; exact .inl (Nat.lt_succ_self _)) (fun _ _ _ => rfl)
    (fun j b' c' hj hp => ⟨(hm.lt j b' c' hp).1, .inr ⟨c', hp⟩⟩) (fun a a' _ _ _ h1 h2 _ _ => h1.trans h2.symm) (fun j hj _ => by subst hj; rw [up_same, hb]; exact ⟨fun b0 hk => by cases b0 <;> exact hk, .inl rfl⟩) (Nat.le_refl _) ⟨rfl, rfl, rfl⟩ (fun tr j b' hj hb' => by
     subst hj
     rw [up_same] at hb'
     simp only [Option.some.injEq] at hb'
     subst hb'
     rw [List.append_nil]
     rw [List.append_nil] at tr
     generalize φ j = pj at *
     cases pj with
     | nil a => exact hrep
     | blk b c =>
      obtain ⟨q0, cur, xs, r1, r2, r3, r4, r5, r6, r7⟩ := hrep
      exact ⟨q0, cur, xs, r1, r2, r3, r4, r5, r6, tr.l r7⟩)
   exact ⟨_, w, φ, run_append_zero P w t tx ty e it ht hi a n c hnc (by rw [hsz]; exact hsrc), hup.1, hup.2, href hup.2⟩
  cases hφ : φ i with
  | nil a =>
   rw [hφ] at hp hrep
   obtain ⟨rfl, _, rfl⟩ := hp
   refine same _ rfl ⟨a, 0, rfl, Nat.le_refl _⟩ fun _ => ?_
   have := ref_nil (φ := φ) (H := up H i ⟨(H i).g + 1, some (.own e k (cs ++ []))⟩) (i := i) (k := k) (e := e) hφ (by rw [up_same, hrep.2]; rfl) hk
   rwa [up_same] at this
  | blk b c =>
   rw [hφ] at hp
   obtain ⟨a, c', rfl, h3, h4, h5, h6, h7⟩ := hp
   obtain rfl : c' = c := by omega
   have ha := h6 rfl
   subst ha
   refine same _ rfl ⟨_, c', rfl, h3⟩ fun _ => ?_
   have := ref_own (φ := φ) (H := up H i ⟨(H i).g + 1, some (.own e k (cs ++ []))⟩) (i := i) (k := k) (e := e) (n := n) (cs := cs ++ []) hφ (by rw [up_same]) hk (by simpa using hcs) h3
   rwa [up_same] at this
 · -- something is appended
  have hsrc : Src P it.size tx x q us w := by rw [hsz]; exact hsrc
  have hul : us.length = q * it.size := by rw [← husl, hys, hsz]
  -- a new block
  have grown : ∀ (old : Nat) (xs : List Value) (vv : Value) , old < n + q → RepL (Xof E φ) w (RefAt φ H) (cs.map .d) xs →
    (Builtin.append_ #[t, tx] ty #[v, x]).run P w = .ok (.slice (some ⟨w.heap.size, 0, none⟩) (n + q) (grownCap w (n + q) old e)) (w.drew.alloc (.cells (xs.toArray ++ us.toArray ++ Builtin.zeroCells z.cells (grownCap w (n + q) old e - (n + q))) e)) →
    ∃ v' w' φ', (Builtin.append_ #[t, tx] ty #[v, x]).run P w = .ok v' w' ∧ Mem E m φ0 w0 φ' (up H i ⟨(H i).g + 1, some (.own e k (cs ++ ys))⟩) w' ∧ Tr E φ H w φ' (up H i ⟨(H i).g + 1, some (.own e k (cs ++ ys))⟩) w' ∧
     RefAt φ' (up H i ⟨(H i).g + 1, some (.own e k (cs ++ ys))⟩) (.msl i ((H i).g + 1) 0 (n + q)) v' := by
   intro old xs vv ho hxs hrun
   have hge := grownCap_ge w (n + q) old e
   have hcm := grownCap_le_maxLen w (n + q) old e hmax
   have hxl := hxs.len
   simp only [List.length_map] at hxl
   obtain ⟨d1, d2⟩ := hm.drew
   obtain ⟨φ', p1, p2, p3, p4⟩ := d1.newG i (.own e k (cs ++ ys)) (xs.toArray ++ us.toArray ++ Builtin.zeroCells z.cells (grownCap w (n + q) old e - (n + q))) e (grownCap w (n + q) old e) (fun _ => ⟨fun b0 hk => by rw [hb] at hk; cases b0 <;> exact hk, _, _, _, hb⟩)
    (.inr ⟨k, _, rfl, hk, by
     simp only [Array.size_append, List.size_toArray, size_zeroCells, hzs, ← hxl, ← husl, hcs, hys, ← Nat.add_mul]
     congr 1; omega, hcm, ⟨n + q, hlen⟩, by rw [hlen]; exact Nat.mul_le_mul_right _ hge, by
     have e1 : (xs.toArray ++ us.toArray ++ Builtin.zeroCells z.cells (grownCap w (n + q) old e - (n + q))).toList.take (cs ++ ys).length = xs ++ us := by
      simp only [Array.toList_append]
      exact List.take_left' (by simp [← hxl, ← husl])
     rw [e1, List.map_append]
     exact d2.l (hxs.app hus)⟩)
   refine ⟨_, _, φ', hrun, p3, d2.trans p4, ?_⟩
   have := ref_own (φ := φ') (H := up H i ⟨(H i).g + 1, some (.own e k (cs ++ ys))⟩) (i := i) (k := k) (e := e) (n := n + q) (cs := cs ++ ys) p1 (by rw [up_same]) hk hlen hge
   rwa [up_same] at this
  cases hφ : φ i with
  | nil a =>
   rw [hφ] at hp hrep
   obtain ⟨rfl, _, rfl⟩ := hp
   obtain ⟨_, rfl⟩ := hrep
   refine grown 0 [] (.slice a 0 0) (by omega) rfl ?_
   have hr := run_append_grow_src (P := P) w t tx ty e it z ht hi hz a 0 0 [] (by cases a with | none => exact run_firstCells_none _ _ _ _ _ | some a => exact run_firstCells_some _ _ _ a 0 0 [] (by simp) (by simp)) x q us hsrc (by omega) (by omega) (growslice_fits (by omega) (by rw [hby]; exact hbytes))
   simpa using hr
  | blk b c =>
   rw [hφ] at hp hrep
   obtain ⟨a, c', rfl, h3, h4, h5, h6, h7⟩ := hp
   obtain rfl : c' = c := by omega
   have ha := h6 rfl
   subst ha
   obtain ⟨q0, cur, xs, r1, r2, r3, r4, r5, r6, r7⟩ := hrep
   have hxl := r7.len
   simp only [List.length_map] at hxl
   by_cases hroom : n + q ≤ c'
   ·have hfit : n * it.size + us.length ≤ cur.size := by rw [hul, r2, hsz, ← Nat.add_mul]; exact Nat.mul_le_mul_right _ hroom
    have hr := run_append_row (P := P) w t tx ty e it ht hi b n c' cur r1 hsrc hroom hfit
    rw [hsz] at hr hfit
    have hup := hm.upd (φ' := φ) (w' := w.setRow b (cur.toList.take (n * k) ++ us ++ cur.toList.drop (n * k + us.length)).toArray) (H' := up H i ⟨(H i).g + 1, some (.own e k (cs ++ ys))⟩) (fun j => j = i) (fun j hj => ⟨rfl, up_ne _ _ _ _ hj⟩)
     (fun j hj => by subst hj; rw [up_same]; exact .inl (Nat.lt_succ_self _)) (fun x hx hne => setRow_other w b x _ (fun e => hne i c' rfl (by rw [hφ, e])))
     (fun j b' c2 hj hp => ⟨by rw [setRow_size]; exact (hm.lt j b' c2 hp).1, .inr ⟨c2, hp⟩⟩) (fun a a' _ _ _ h1 h2 _ _ => h1.trans h2.symm) (fun j hj _ => by subst hj; rw [up_same, hb]; exact ⟨fun b0 hk => by cases b0 <;> exact hk, .inl rfl⟩) (by simp) ⟨rfl, rfl, rfl⟩ (fun tr j b' hj hb' => by
      subst hj
      rw [up_same] at hb'
      simp only [Option.some.injEq] at hb'
      subst hb'
      rw [hφ]
      refine ⟨hk, _, _, r1.set _ (by rw [List.size_toArray, List.length_append, List.length_append, List.length_take, List.length_drop, Array.length_toList]; omega), ?_, r3, ⟨n + q, hlen⟩, by rw [hlen]; exact Nat.mul_le_mul_right _ hroom, rfl, ?_⟩
      ·rw [List.size_toArray, List.length_append, List.length_append, List.length_take, List.length_drop, Array.length_toList, ← r2]; omega
      ·have e1 : (cur.toList.take (n * k) ++ us ++ cur.toList.drop (n * k + us.length)).toArray.toList.take (cs ++ ys).length = xs ++ us := by
        rw [List.toList_toArray, ← hcs, r6]
        exact List.take_left' (by simp [← hxl, ← husl])
       rw [e1, List.map_append]
       exact tr.l (r7.app hus))
    refine ⟨_, _, φ, hr, hup.1, hup.2, ?_⟩
    have := ref_own (φ := φ) (H := up H i ⟨(H i).g + 1, some (.own e k (cs ++ ys))⟩) (i := i) (k := k) (e := e) (n := n + q) (cs := cs ++ ys) hφ (by rw [up_same]) hk hlen hroom
    rwa [up_same] at this
   ·refine grown c' xs (.slice (some ⟨b, 0, none⟩) n c') (by omega) r7 ?_
    have hr := run_append_grow_src (P := P) w t tx ty e it z ht hi hz (some ⟨b, 0, none⟩) n c' xs (run_firstCells_some _ _ n ⟨b, 0, none⟩ n c' xs (by rw [← hxl, hcs, hsz]) (fun j u hu => by
     rw [add_off, Nat.zero_add]
     show w.cell? _ = _
     rw [r1.cell]
     rw [← r6, List.getElem?_take] at hu
     split at hu
     ·simpa using hu
     ·cases hu)) x q us hsrc (by omega) (by omega) (growslice_fits (by omega) (by rw [hby]; exact hbytes))
    simpa using hr
theorem bytesD_rep {X : Nat → Prop} {R : Ref → Value → Prop} : ∀ s : List UInt8, RepL X w R ((bytesD s).map .d) (s.map fun b => Value.int .u8 b.toNat)
 | [] => rfl
 | _ :: t => ⟨_, _, rfl, rfl, bytesD_rep t⟩
theorem Mem.src_at (hm : Mem E m φ0 w0 φ H w) {P : Program} {tx : TypeId} (hk : (∃ e', P.underlying tx = some (.slice e')) ∨ P.underlying tx = some .string) {p : PV} {n k : Nat} {cs : List PD} {v : Value} (h0 : 0 < k) (h : asB H k p = some (n, cs)) (hl : cs.length = n * k) (hv : RepV (Xof E φ) w (RefAt φ H) p v) :
  ∃ us, RepL (Xof E φ) w (RefAt φ H) (cs.map .d) us ∧ Src P k tx v n us w := by
 unfold asB at h
 split at h
 ·rename_i s
  split at h
  ·rename_i hk1
   subst hk1
   simp only [Option.some.injEq, Prod.mk.injEq] at h
   obtain ⟨rfl, rfl⟩ := h
   have hv : v = .string ⟨s.toArray⟩ := hv
   subst hv
   have hsz : (⟨s.toArray⟩ : ByteArray).size = s.length := by show s.toArray.size = _; simp
   have hb : byteCells ⟨s.toArray⟩ = s.map fun b => Value.int .u8 b.toNat := rfl
   refine ⟨byteCells ⟨s.toArray⟩, ?_, ⟨hk, fun _ => ?_, ?_, ?_, ?_, fun u hu => ?_⟩⟩
   ·rw [hb]; exact bytesD_rep s
   ·show (Builtin.lenOf (.string ⟨s.toArray⟩)).run P _ = _
    rw [← hsz]; rfl
   ·rw [← hsz]; exact firstCells_string _ _
   ·rw [← hsz]; exact firstCells_string _ _
   ·rw [byteCells_length, hsz, Nat.mul_one]
   ·obtain ⟨_, _, rfl⟩ := List.mem_map.1 hu
    rfl
  ·cases h
 ·obtain ⟨a, c, us, rfl, h2, h3, h4, h5, h6⟩ := hm.list_at h hv
  have husl := h5.len
  simp only [List.length_map] at husl
  refine ⟨us, h5, ?_⟩
  have h1 : ∀ u ∈ us, u.oneCell' = true := by
   intro u hu
   obtain ⟨j, hj, rfl⟩ := List.getElem_of_mem hu
   obtain ⟨u', r1, r2⟩ := h5.d_get j cs[j] (by simp [husl, hj])
   rw [List.getElem?_eq_getElem hj] at r1; cases r1
   exact RepD.one r2
  rcases h6 with rfl | ⟨b, o, rfl, hb, hc⟩
  ·have hn : n = 0 := by
    cases n with
    | zero => rfl
    | succ n =>
     have h9 : 0 < (n + 1) * k := Nat.mul_pos (Nat.succ_pos n) h0
     rw [List.length_nil] at hl
     omega
   subst hn
   have hus : us = [] := List.eq_nil_of_length_eq_zero (by simpa using husl.symm)
   subst hus
   refine ⟨hk, fun _ => rfl, ?_, ?_, by simp, h1⟩
   ·cases a with
    | none => exact run_firstCells_none _ _ _ _ _
    | some a => exact run_firstCells_some _ _ _ a _ c [] (by simp) (by simp)
   ·cases a with
    | none => exact run_firstCells_none _ _ _ _ _
    | some a => exact run_firstCells_some _ _ _ a _ c [] (by simp) (by simp)
  ·have hnews : ∀ j u, us[j]? = some u → w.cell? ((⟨b, o, none⟩ : Addr).add j) = some u := fun j u hu => by rw [add_off]; exact hc j u hu
   exact ⟨hk, fun _ => rfl, run_firstCells_some w k n ⟨b, o, none⟩ n c us (by omega) hnews, run_firstCells_some w.drew k n ⟨b, o, none⟩ n c us (by omega) (by simpa using hnews), by omega, h1⟩
theorem Mem.cut (hm : Mem E m φ0 w0 φ H w) {i n k : Nat} {e : TypeId} {cs : List PD} (hb : (H i).b = some (.own e k cs)) {v : Value} (hv : RefAt φ H (.msl i (H i).g 0 n) v) :
  Mem E m φ0 w0 φ (up H i ⟨(H i).g + 1, some (.own e k (cs.take (n * k)))⟩) w ∧ Tr E φ H w φ (up H i ⟨(H i).g + 1, some (.own e k (cs.take (n * k)))⟩) w ∧
   RefAt φ (up H i ⟨(H i).g + 1, some (.own e k (cs.take (n * k)))⟩) (.msl i ((H i).g + 1) 0 n) v := by
 obtain ⟨_, _, q2⟩ := hv
 obtain ⟨hk, hle, hp⟩ := q2 rfl e k cs hb
 rw [Nat.zero_add] at hle
 have hrep := hm.rep i _ hb
 have hlen : (cs.take (n * k)).length = n * k := by rw [List.length_take]; omega
 have hup := hm.upd (φ' := φ) (w' := w) (H' := up H i ⟨(H i).g + 1, some (.own e k (cs.take (n * k)))⟩) (fun j => j = i) (fun j hj => ⟨rfl, up_ne _ _ _ _ hj⟩) (fun j hj => by subst hj; rw [up_same]; exact .inl (Nat.lt_succ_self _)) (fun _ _ _ => rfl)
  (fun j b' c' hj hp => ⟨(hm.lt j b' c' hp).1, .inr ⟨c', hp⟩⟩) (fun a a' _ _ _ h1 h2 _ _ => h1.trans h2.symm) (fun j hj _ => by subst hj; rw [up_same, hb]; exact ⟨fun b0 hk => by cases b0 <;> exact hk, .inl rfl⟩) (Nat.le_refl _) ⟨rfl, rfl, rfl⟩ (fun tr j b' hj hb' => by
   subst hj
   rw [up_same] at hb'
   simp only [Option.some.injEq] at hb'
   subst hb'
   generalize φ j = pj at *
   cases pj with
   | nil a =>
    obtain ⟨r1, rfl⟩ := hrep
    exact ⟨r1, by simp⟩
   | blk b c =>
    obtain ⟨q0, cur, xs, r1, r2, r3, r4, r5, r6, r7⟩ := hrep
    have hxl := r7.len
    simp only [List.length_map] at hxl
    refine ⟨q0, cur, xs.take (n * k), r1, r2, r3, ⟨n, hlen⟩, by rw [hlen]; omega, ?_, ?_⟩
    ·rw [hlen, ← r6, List.take_take, Nat.min_eq_left hle]
    ·rw [List.map_take]
     exact tr.l (r7.take _))
 refine ⟨hup.1, hup.2, ?_⟩
 cases hφ : φ i with
 | nil a =>
  rw [hφ] at hp hrep
  obtain ⟨rfl, _, rfl⟩ := hp
  have := ref_nil (φ := φ) (H := up H i ⟨(H i).g + 1, some (.own e k (cs.take (0 * k)))⟩) (i := i) (k := k) (e := e) hφ (by rw [up_same]; simp) hk
  rwa [up_same] at this
 | blk b c =>
  rw [hφ] at hp
  obtain ⟨a, c', rfl, h3, h4, h5, h6, h7⟩ := hp
  obtain rfl : c' = c := by omega
  have ha := h6 rfl
  subst ha
  have := ref_own (φ := φ) (H := up H i ⟨(H i).g + 1, some (.own e k (cs.take (n * k)))⟩) (i := i) (k := k) (e := e) (n := n) (cs := cs.take (n * k)) hφ (by rw [up_same]) hk hlen h3
  rwa [up_same] at this
end
end Go.Proofs.YtobkkblijfhpoaaGreatDoor.Pm
