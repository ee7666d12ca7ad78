/- Slices whose elements have k cells: read, owned, appended to. No program is named here. -/
import Derived.Test.YtepegjihlppkcaaCom
import Derived.Test.YtepegjihlppkcaaAppS
namespace Go.Proofs.Ytepegjihlppkcaa.Com
open Go.ChangeShapes Go.WideShapes Go.ChangeAt Go.RowKit

/-- Block g is just these cells. -/
def Blk (w : World) (g : Nat) (cs : Array Value) (t : TypeId) : Prop := w.heap[g]? = some (.cells cs t (0, 0))
section
variable {w w' : World} {g : Nat} {t : TypeId} {cs : Array Value}
theorem Blk.lt (h : Blk w g cs t) : g < w.heap.size := by
  rcases Nat.lt_or_ge g w.heap.size with hlt | hge
  · exact hlt
  · unfold Blk at h; rw [Array.getElem?_eq_none hge] at h; cases h
theorem Blk.keepB {B : Nat} (h : Blk w g cs t) (hb : Below B w w') (hg : g < B) : Blk w' g cs t := (hb.block g hg).trans h
theorem Blk.keep (h : Blk w g cs t) (hb : Below w.heap.size w w') : Blk w' g cs t := h.keepB hb h.lt
theorem Blk.cell (h : Blk w g cs t) (i : Nat) {x : Value} (hx : cs[i]? = some x) : w.cell? ⟨g, i, none⟩ = some x ∧ w.frozen? ⟨g, i, none⟩ = false :=
  ⟨by rw [cell_of_row _ _ _ _ _ _ h]; exact hx, by unfold Blk at h; simp [World.frozen?, h]⟩
theorem Blk.c2 {x y : Value} (h : Blk w g #[x, y] t) : w.cell? ⟨g, 0, none⟩ = some x ∧ w.cell? ⟨g, 1, none⟩ = some y ∧ w.frozen? ⟨g, 0, none⟩ = false ∧ w.frozen? ⟨g, 1, none⟩ = false :=
  ⟨(h.cell 0 rfl).1, (h.cell 1 rfl).1, (h.cell 0 rfl).2, (h.cell 1 rfl).2⟩
theorem Blk.c3 {x y z : Value} (h : Blk w g #[x, y, z] t) : w.cell? ⟨g, 0, none⟩ = some x ∧ w.cell? ⟨g, 1, none⟩ = some y ∧ w.cell? ⟨g, 2, none⟩ = some z ∧ w.frozen? ⟨g, 0, none⟩ = false ∧ w.frozen? ⟨g, 1, none⟩ = false ∧ w.frozen? ⟨g, 2, none⟩ = false :=
  ⟨(h.cell 0 rfl).1, (h.cell 1 rfl).1, (h.cell 2 rfl).1, (h.cell 0 rfl).2, (h.cell 1 rfl).2, (h.cell 2 rfl).2⟩
theorem Blk.new (w : World) (cs : Array Value) (t : TypeId) : Blk (w.alloc (.cells cs t)) w.heap.size cs t := heap_alloc_new w _
theorem Blk.set_ (h : Blk w g cs t) (i : Nat) (u : Value) : Blk (w.setCell ⟨g, i, none⟩ u) g (cs.setIfInBounds i u) t := by
  unfold Blk at h ⊢
  simp [World.setCell, Array.getElem?_modify, h]
theorem Blk.far (h : Blk w g cs t) {p : Addr} (hp : g ≠ p.block) (u : Value) : Blk (w.setCell p u) g cs t := (Below.heap_setCell w p u g hp).trans h
theorem Blk.drewN (h : Blk w g cs t) (n : Nat) : Blk (w.drewN n) g cs t := h
/-- Two new blocks, and another call. -/
theorem two_blks {c1 c2 : Array Value} {t1 t2 : TypeId} (hb : Below ((w.alloc (.cells c1 t1)).alloc (.cells c2 t2)).heap.size ((w.alloc (.cells c1 t1)).alloc (.cells c2 t2)) w') :
    Blk w' w.heap.size c1 t1 ∧ Blk w' (w.heap.size + 1) c2 t2 ∧ w.heap.size + 2 ≤ w'.heap.size ∧ Below w.heap.size w w' := by
  have h0 : Blk ((w.alloc (.cells c1 t1)).alloc (.cells c2 t2)) w.heap.size c1 t1 := (Blk.new w c1 t1).keep (below_alloc _ _)
  have h1 : Blk ((w.alloc (.cells c1 t1)).alloc (.cells c2 t2)) (w.heap.size + 1) c2 t2 := by
    have := Blk.new (w.alloc (.cells c1 t1)) c2 t2
    rwa [show (w.alloc (.cells c1 t1)).heap.size = w.heap.size + 1 by simp] at this
  exact ⟨h0.keep hb, h1.keep hb, by have := hb.size; simp at this; omega, ((below_alloc w _).trans ((below_alloc _ _).mono (by simp))).trans (hb.mono (by simp; omega))⟩
end
theorem Own.far {w : World} {B : Nat} {e : TypeId} {v : Value} {xs : List Value} (h : Own w B e v xs) {p : Addr} (hp : p.block < B) (u : Value) : Own (w.setCell p u) B e v xs := ownsRow_setCell_below h hp u
theorem size_setCell (w : World) (p : Addr) (u : Value) : (w.setCell p u).heap.size = w.heap.size := by simp [World.setCell]
/-- One call behind the other. -/
theorem bt {a b c : World} (h : Below a.heap.size a b) (k : Below b.heap.size b c) : Below a.heap.size a c := h.trans (k.mono h.size)
/-- The value v is a slice of n elements of k cells each; all cells together are xs. -/
def RsK (w : World) (k : Nat) (v : Value) (n : Nat) (xs : List Value) : Prop :=
  xs.length = n * k ∧ ((n = 0 ∧ ∃ a cap, v = .slice a 0 cap) ∨
  ∃ b off cap, v = .slice (some ⟨b, off, none⟩) n cap ∧ n ≤ cap ∧ cap ≤ maxLen ∧ ∀ i x, xs[i]? = some x → w.cell? ⟨b, off + i, none⟩ = some x)
theorem RsK.keep {w w' : World} {k n : Nat} {v : Value} {xs : List Value} (h : RsK w k v n xs) (hb : Below w.heap.size w w') : RsK w' k v n xs := by
  obtain ⟨hl, h⟩ := h
  refine ⟨hl, ?_⟩
  rcases h with h | ⟨b, off, cap, h1, h2, h3, h4⟩
  · exact .inl h
  · exact .inr ⟨b, off, cap, h1, h2, h3, fun i x hx => cell_keep (h4 i x hx) hb⟩
def OwnK (w : World) (B : Nat) (e : TypeId) (k : Nat) (v : Value) (n : Nat) (xs : List Value) : Prop := w.ownsRow B e k v n xs
theorem OwnK.nil (w : World) (B : Nat) (e : TypeId) (k : Nat) : OwnK w B e k (.slice none 0 0) 0 [] := ⟨by simp, .inl ⟨rfl, rfl⟩⟩
theorem OwnK.rs {w : World} {B : Nat} {e : TypeId} {k n : Nat} {v : Value} {xs : List Value} (h : OwnK w B e k v n xs) : RsK w k v n xs := by
  obtain ⟨hl, h⟩ := h
  refine ⟨hl, ?_⟩
  rcases h with ⟨rfl, h2⟩ | ⟨g, cap, cur, rfl, h2, h3, h4, h5, h6, h7⟩
  · exact .inl ⟨h2, none, 0, rfl⟩
  · refine .inr ⟨g, 0, cap, rfl, h4, h5, fun i x hx => ?_⟩
    rw [cell_of_row w g (0 + i) cur e (0, 0) h3, Nat.zero_add]
    have hi : i < xs.length := by
      rcases Nat.lt_or_ge i xs.length with h' | h'
      · exact h'
      · rw [List.getElem?_eq_none h'] at hx; cases hx
    have : xs[i]? = cur.toList[i]? := by rw [← h7, List.getElem?_take_of_lt (by omega)]
    rw [← hx, this]; simp
theorem OwnK.mono {w : World} {B B' : Nat} {e : TypeId} {k n : Nat} {v : Value} {xs : List Value} (h : OwnK w B e k v n xs) (hB : B' ≤ B) : OwnK w B' e k v n xs := by
  obtain ⟨h1, h⟩ := h
  refine ⟨h1, ?_⟩
  rcases h with h | ⟨g, cap, cur, h2, h3, h4⟩
  · exact .inl h
  · exact .inr ⟨g, cap, cur, h2, by omega, h4⟩
theorem OwnK.keep {w w' : World} {B : Nat} {e : TypeId} {k n : Nat} {v : Value} {xs : List Value} (h : OwnK w B e k v n xs) (hb : Below w.heap.size w w') : OwnK w' B e k v n xs := by
  obtain ⟨h1, h⟩ := h
  refine ⟨h1, ?_⟩
  rcases h with h | ⟨g, cap, cur, h2, h3, h4, h5⟩
  · exact .inl h
  · refine .inr ⟨g, cap, cur, h2, h3, ?_, h5⟩
    have hg : g < w.heap.size := by
      rcases Nat.lt_or_ge g w.heap.size with h' | h'
      · exact h'
      · rw [Array.getElem?_eq_none h'] at h4; cases h4
    rw [hb.block g hg]; exact h4
theorem OwnK.alloc {w : World} {B : Nat} {e : TypeId} {k n : Nat} {v : Value} {xs : List Value} (h : OwnK w B e k v n xs) (o : Obj) : OwnK (w.alloc o) B e k v n xs :=
  h.keep ((Below.refl _ _).alloc (Nat.le_refl _) o)
theorem OwnK.nilcap {w : World} {B : Nat} {e : TypeId} {k n : Nat} {v : Value} {xs : List Value} (h : OwnK w B e k v n xs) : ∀ c, v = .slice none 0 c → c = 0 := by
  intro c hc
  subst hc
  rcases h.2 with ⟨h, _⟩ | ⟨k, cap, cur, h, _⟩
  · simpa using h
  · simp at h
theorem below_appK {B : Nat} {w0 w w1 : World} {o : Obj} {e : TypeId} {k n : Nat} {v : Value} {xs : List Value} (hb : Below B w0 w) (hB : B ≤ w0.heap.size) (hown : OwnK w B e k v n xs)
    (hg : (w.alloc o).grownBy w1 v.ownBlock) : Below B w0 w1 :=
  have hle : B ≤ w.heap.size := Nat.le_trans hB hb.size
  Below.grown (hb.alloc hle o) hg (Nat.le_trans hle (by simp)) (fun k hk => ((World.ownsRow.lt (h := hown)) k hk).1)
/-- 'append(out, x, ..)' to a slice of the call's own, the elements of k cells. -/
theorem wpList_appK {P : Program} {ops : Array Oper} {rest : List Oper} {o : Oper} {a : Act} {Q : Exit → Act → World → Prop} {w : World} (hgd : o.guard = none) (s x : Operand) (t e : TypeId)
    (ho : o.op = .call { callee := .builtin .append, args := #[s, x], argTypes := #[t, t] }) (B : Nat) (i : TypeInfo) (z : Value) (k bytes : Nat)
    (ht : P.underlying t = some (.slice e)) (hi : P.info? e = some i) (hz : i.zero = some z) (hsize : i.size = k) (hby : i.bytes = bytes) (hzs : z.cells.size = k) (hk : 0 < k)
    (v : Value) (n : Nat) (xs : List Value) (hs : a.eval s = v) (hown : OwnK w B e k v n xs) (l : List Value) (m : Nat) (hl : l.length = m * k) (hx : a.eval x = .slice (some ⟨w.heap.size, 0, none⟩) m m)
    (h1 : ∀ u ∈ l, u.oneCell' = true) (hb1 : 1 ≤ bytes) (hbytes : (n + m) * bytes ≤ 140737488355328) (w0 : World) (hbel : Below B w0 w) (hB : B ≤ w0.heap.size)
    (h : ∀ v' w', OwnK w' B e k v' (n + m) (xs ++ l) → Below B w0 w' → wpList P ops Q rest (a.put o.dst v') w') : wpList P ops Q (o :: rest) a (w.alloc (.cells l.toArray e)) := by
  have hle : n + m ≤ 140737488355328 := Nat.le_trans (by have := Nat.mul_le_mul_left (n + m) hb1; simpa using this) hbytes
  refine wpList_append_own _ hgd s x t ho B e i z k bytes ht hi hz hsize hby hzs hk v n xs hs (hown.alloc _) ⟨w.heap.size, 0, none⟩ m m l hx hl (fun j u hj => ?_) h1 (by unfold maxLen; omega) hbytes (by have := hbel.size; simp; omega) ?_
  · have hp : (⟨w.heap.size, 0, none⟩ : Addr).add j = ⟨w.heap.size, j, none⟩ := by unfold Addr.add; split <;> simp_all
    rw [hp, World.cell?_alloc_mark]
    simpa using hj
  · intro v' w' hown' hg _
    exact h v' w' hown' (below_appK hbel hB hown hg)
/-- 'append(out, src...)' to a slice of the call's own, the elements of k cells. -/
theorem wpOp_app_srcK {P : Program} {o : Oper} {a : Act} {K : Act → World → Prop} {Q : Exit → Act → World → Prop} {w : World} (s x : Operand) (t e : TypeId)
    (ho : o.op = .call { callee := .builtin .append, args := #[s, x], argTypes := #[t, t] }) (B : Nat) (i : TypeInfo) (z : Value) (k bytes : Nat)
    (ht : P.underlying t = some (.slice e)) (hi : P.info? e = some i) (hz : i.zero = some z) (hsize : i.size = k) (hby : i.bytes = bytes) (hzs : z.cells.size = k) (hk : 0 < k)
    (v : Value) (n : Nat) (xs : List Value) (hs : a.eval s = v) (hown : OwnK w B e k v n xs) (sv : Value) (m : Nat) (ys : List Value) (hx : a.eval x = sv) (hsrc : RsK w k sv m ys) (hnil : ∀ c, sv = .slice none 0 c → c = 0)
    (h1 : ∀ u ∈ ys, u.oneCell' = true) (hb1 : 1 ≤ bytes) (hbytes : (n + m) * bytes ≤ 140737488355328) (hB : B ≤ w.heap.size)
    (h : ∀ v' w', OwnK w' B e k v' (n + m) (xs ++ ys) → Below B w w' → w.grownBy w' v.ownBlock → K (a.put o.dst v') w') : o.wp P a w K Q := by
  have hle : n + m ≤ 140737488355328 := Nat.le_trans (by have := Nat.mul_le_mul_left (n + m) hb1; simpa using this) hbytes
  obtain ⟨hly, hsrc⟩ := hsrc
  have own := fun (ad : Addr) (c : Nat) (hx : a.eval x = .slice (some ad) m c) (hc : ∀ j u, ys[j]? = some u → w.cell? (ad.add j) = some u) =>
    wp_append_own (K := K) (Q := Q) w s x t ho B e i z k bytes ht hi hz hsize hby hzs hk v n xs hs hown ad m c ys hx hly hc h1 (by unfold maxLen; omega) hbytes hB
      (h := fun v' w' hown' hg _ => h v' w' hown' (Below.grown (Below.refl _ _) hg hB (fun k hk => ((World.ownsRow.lt (h := hown)) k hk).1)) hg)
  rcases hsrc with ⟨rfl, ad, c, rfl⟩ | ⟨b, off, c, rfl, _, _, hc⟩
  · have hy : ys = [] := List.eq_nil_of_length_eq_zero (by simpa using hly)
    subst hy
    cases ad with
    | none =>
      obtain rfl := hnil c rfl
      have hrun := run_append_owned_none (P := P) (w := w) B t o.type e i k ht hi v n xs hown
      unfold Oper.wp
      simp [execOp, ho, resolve, invoke, builtin, hs, hx, hrun, Result.andThen]
      exact h v w (by rw [List.append_nil]; exact hown) (Below.refl _ _) ⟨rfl, rfl, rfl, Nat.le_refl _, fun _ _ _ => rfl⟩
    | some ad => exact own ad c hx (fun j u hj => by simp at hj)
  · exact own ⟨b, off, none⟩ c hx (fun j u hj => by
      have hp : (⟨b, off, none⟩ : Addr).add j = ⟨b, off + j, none⟩ := by unfold Addr.add; split <;> simp_all
      rw [hp]; exact hc j u hj)
theorem wpList_app_srcK {P : Program} {ops : Array Oper} {rest : List Oper} {o : Oper} {a : Act} {Q : Exit → Act → World → Prop} {w : World} (hgd : o.guard = none) (s x : Operand) (t e : TypeId)
    (ho : o.op = .call { callee := .builtin .append, args := #[s, x], argTypes := #[t, t] }) (B : Nat) (i : TypeInfo) (z : Value) (k bytes : Nat)
    (ht : P.underlying t = some (.slice e)) (hi : P.info? e = some i) (hz : i.zero = some z) (hsize : i.size = k) (hby : i.bytes = bytes) (hzs : z.cells.size = k) (hk : 0 < k)
    (v : Value) (n : Nat) (xs : List Value) (hs : a.eval s = v) (hown : OwnK w B e k v n xs) (sv : Value) (m : Nat) (ys : List Value) (hx : a.eval x = sv) (hsrc : RsK w k sv m ys) (hnil : ∀ c, sv = .slice none 0 c → c = 0)
    (h1 : ∀ u ∈ ys, u.oneCell' = true) (hb1 : 1 ≤ bytes) (hbytes : (n + m) * bytes ≤ 140737488355328) (hB : B ≤ w.heap.size)
    (h : ∀ v' w', OwnK w' B e k v' (n + m) (xs ++ ys) → Below B w w' → w.grownBy w' v.ownBlock → wpList P ops Q rest (a.put o.dst v') w') : wpList P ops Q (o :: rest) a w :=
  wpList_plain hgd fun _ hK => wpOp_app_srcK s x t e ho B i z k bytes ht hi hz hsize hby hzs hk v n xs hs hown sv m ys hx hsrc hnil h1 hb1 hbytes hB fun v' w' h2 h3 h4 => hK _ _ (h v' w' h2 h3 h4)
/-- 'append(out, src...)' to a slice of the call's own, elements of one cell. -/
theorem wpOp_app_src {P : Program} {o : Oper} {a : Act} {K : Act → World → Prop} {Q : Exit → Act → World → Prop} {w : World} (s x : Operand) (t e : TypeId)
    (ho : o.op = .call { callee := .builtin .append, args := #[s, x], argTypes := #[t, t] }) (B : Nat) (i : TypeInfo) (z : Value) (bytes : Nat)
    (ht : P.underlying t = some (.slice e)) (hi : P.info? e = some i) (hz : i.zero = some z) (hsize : i.size = 1) (hby : i.bytes = bytes) (hzs : z.cells.size = 1)
    (v : Value) (xs : List Value) (hs : a.eval s = v) (hown : Own w B e v xs) (sv : Value) (ys : List Value) (hx : a.eval x = sv) (hsrc : Rs w sv ys) (hnil : ∀ c, sv = .slice none 0 c → c = 0)
    (h1 : ∀ u ∈ ys, u.oneCell' = true) (hb1 : 1 ≤ bytes) (hbytes : (xs.length + ys.length) * bytes ≤ 140737488355328) (hB : B ≤ w.heap.size)
    (h : ∀ v' w', Own w' B e v' (xs ++ ys) → Below B w w' → w.grownBy w' v.ownBlock → K (a.put o.dst v') w') : o.wp P a w K Q :=
  wpOp_app_srcK s x t e ho B i z 1 bytes ht hi hz hsize hby hzs (by decide) v xs.length xs hs hown sv ys.length ys hx
    (by refine ⟨by simp, ?_⟩
        rcases hsrc with ⟨rfl, q⟩ | ⟨b, off, cap, q⟩
        · exact .inl ⟨rfl, q⟩
        · exact .inr ⟨b, off, cap, q⟩) hnil h1 hb1 hbytes hB fun v' w' h2 h3 h4 => h v' w' (by unfold Own; rw [List.length_append]; exact h2) h3 h4
/-- Nothing appended to nil: only new memory. -/
theorem grown_nil {w w' : World} (h : w.grownBy w' (Value.ownBlock (.slice none 0 0))) : Below w.heap.size w w' :=
  ⟨h.os, h.tape, h.output, h.size, fun k hk => h.block k hk (by simp [Value.ownBlock])⟩
/-- Of one cell each: the elder words. -/
theorem Rs.k1 {w : World} {v : Value} {xs : List Value} (h : Rs w v xs) : RsK w 1 v xs.length xs := by
  refine ⟨by simp, ?_⟩
  rcases h with ⟨rfl, h⟩ | ⟨b, off, cap, h⟩
  · exact .inl ⟨rfl, h⟩
  · exact .inr ⟨b, off, cap, h⟩
theorem RsK.one {w : World} {v : Value} {n : Nat} {xs : List Value} (h : RsK w 1 v n xs) : Rs w v xs ∧ n = xs.length := by
  obtain ⟨h1, h⟩ := h
  have : n = xs.length := by omega
  subst this
  refine ⟨?_, rfl⟩
  rcases h with ⟨h0, h⟩ | ⟨b, off, cap, h⟩
  · exact .inl ⟨List.eq_nil_of_length_eq_zero h0, h⟩
  · exact .inr ⟨b, off, cap, h⟩
/-- The slice '.slice a n c' holds n elements of k cells each, all cells together are xs; nil is let in. -/
structure Sl (w : World) (k : Nat) (a : Option Addr) (n c : Nat) (xs : List Value) : Prop where
  len : xs.length = n * k
  le : n ≤ c
  cap : c ≤ maxLen
  nil : a = none → c = 0
  at_ : 0 < n → ∃ b off, a = some ⟨b, off, none⟩ ∧ ∀ i x, xs[i]? = some x → w.cell? ⟨b, off + i, none⟩ = some x
section
variable {w w' : World} {k n c : Nat} {a : Option Addr} {xs : List Value}
theorem Sl.keep (h : Sl w k a n c xs) (hb : Below w.heap.size w w') : Sl w' k a n c xs :=
  ⟨h.len, h.le, h.cap, h.nil, fun h0 => let ⟨b, off, e, hc⟩ := h.at_ h0; ⟨b, off, e, fun i x hx => cell_keep (hc i x hx) hb⟩⟩
theorem Sl.none_ (w : World) (k : Nat) : Sl w k none 0 0 [] := ⟨by simp, Nat.le_refl _, by simp, fun _ => rfl, fun h => absurd h (by omega)⟩
theorem Sl.take (h : Sl w k a n c xs) {m : Nat} (hm : m ≤ n) : Sl w k a m c (xs.take (m * k)) := by
  refine ⟨?_, Nat.le_trans hm h.le, h.cap, h.nil, fun h0 => ?_⟩
  · have := h.len; have := Nat.mul_le_mul_right k hm; simp; omega
  · obtain ⟨b, off, e, hc⟩ := h.at_ (by omega)
    refine ⟨b, off, e, fun i x hx => hc i x ?_⟩
    rw [List.getElem?_take] at hx
    split at hx
    · exact hx
    · simp at hx
theorem Sl.drop (h : Sl w k a n c xs) {l : Nat} (hl : l ≤ n) : Sl w k (if c = l then a else a.map (·.add (l * k))) (n - l) (c - l) (xs.drop (l * k)) := by
  have hle := h.le
  refine ⟨by rw [List.length_drop, h.len, Nat.sub_mul], by omega, by have := h.cap; omega, fun h0 => ?_, fun h0 => ?_⟩
  · split at h0
    · have := h.nil h0; omega
    · cases a with
      | none => have := h.nil rfl; omega
      | some a => simp at h0
  · obtain ⟨b, off, rfl, hc⟩ := h.at_ (by omega)
    rw [if_neg (by omega)]
    refine ⟨b, off + l * k, ?_, fun i x hx => ?_⟩
    · simp [Addr.add]
    · rw [List.getElem?_drop] at hx
      have := hc _ x hx
      rwa [← Nat.add_assoc] at this
/-- An element's cell. -/
theorem Sl.cell (h : Sl w k a n c xs) (h0 : 0 < n) : ∃ b off, a = some ⟨b, off, none⟩ ∧ ∀ i x, xs[i]? = some x → w.cell? ⟨b, off + i, none⟩ = some x := h.at_ h0
theorem Sl.rsK (h : Sl w k a n c xs) : RsK w k (.slice a n c) n xs := by
  refine ⟨h.len, ?_⟩
  by_cases h0 : 0 < n
  · obtain ⟨b, off, rfl, hc⟩ := h.at_ h0
    exact .inr ⟨b, off, c, rfl, h.le, h.cap, hc⟩
  · have : n = 0 := by omega
    subst this
    exact .inl ⟨rfl, a, c, rfl⟩
theorem Sl.nilcap (h : Sl w k a n c xs) : ∀ c', Value.slice a n c = .slice none 0 c' → c' = 0 := by
  intro c' e
  have e' := e
  injection e' with e1 e2 e3
  rw [← e3]; exact h.nil e1
theorem Sl.rs (h : Sl w 1 a n c xs) : Rs w (.slice a n c) xs := h.rsK.one.1
theorem Sl.of_rs {v : Value} (h : Rs w v xs) (hn : ∀ c, v = .slice none 0 c → c = 0) (hm : ∀ a c, v = .slice a 0 c → c ≤ maxLen) : ∃ a c, v = .slice a xs.length c ∧ Sl w 1 a xs.length c xs := by
  rcases h with ⟨rfl, a, cap, rfl⟩ | ⟨b, off, cap, rfl, h2, h3, h4⟩
  · exact ⟨a, cap, rfl, by simp, by simp, hm a cap rfl, fun h => by subst h; exact hn _ rfl, fun h => absurd h (by simp)⟩
  · exact ⟨_, cap, rfl, by simp, h2, h3, fun h => by simp at h, fun _ => ⟨b, off, rfl, h4⟩⟩
theorem Own.slAt {B : Nat} {e : TypeId} (h : w.ownsRow B e 1 (.slice a n c) xs.length xs) : Sl w 1 a n c xs := by
  have hn : n = xs.length := by
    rcases h.2 with ⟨h1, h2⟩ | ⟨g, cap, cur, h1, _⟩
    · simp at h1; omega
    · simp at h1; exact h1.2.1
  subst hn
  refine ⟨by simp, ?_, ?_, ?_, ?_⟩
  all_goals
    rcases h.2 with ⟨h1, h2⟩ | ⟨g, cap, cur, h1, h2, h3, h4, h5, h6, h7⟩
    · simp at h1; obtain ⟨rfl, h0, rfl⟩ := h1; simp [h0]
    · simp at h1; obtain ⟨rfl, rfl⟩ := h1
      first
        | exact h4
        | exact h5
        | (intro q; simp at q; done)
        | exact fun _ => ⟨g, 0, rfl, fun i x hx => by
            rw [cell_of_row w g (0 + i) cur e (0, 0) h3, Nat.zero_add]
            have hi : i < xs.length := by
              rcases Nat.lt_or_ge i xs.length with h' | h'
              · exact h'
              · rw [List.getElem?_eq_none h'] at hx; cases hx
            have : xs[i]? = cur.toList[i]? := by rw [← h7, List.getElem?_take_of_lt (by omega)]
            rw [← hx, this]; simp⟩
theorem Sl.new (w : World) (T : TypeId) (l : List Value) (n : Nat) (hn : n = l.length) (hm : l.length ≤ maxLen) : Sl (w.alloc (.cells l.toArray T)) 1 (some ⟨w.heap.size, 0, none⟩) n n l := by
  subst hn
  refine ⟨by simp, Nat.le_refl _, hm, fun h => by simp at h, fun _ => ⟨_, _, rfl, fun i x hx => ?_⟩⟩
  rw [World.cell?_alloc_mark, Nat.zero_add]
  simpa using hx
theorem OwnK.sl {B : Nat} {e : TypeId} {v : Value} (h : OwnK w B e k v n xs) : ∃ a c, v = .slice a n c ∧ Sl w k a n c xs := by
  have hr := h.rs
  obtain ⟨hl, h⟩ := h
  rcases h with ⟨rfl, rfl⟩ | ⟨g, cap, cur, rfl, h2, h3, h4, h5, h6, h7⟩
  · have : xs = [] := List.eq_nil_of_length_eq_zero (by simpa using hl)
    subst this
    exact ⟨none, 0, rfl, Sl.none_ _ _⟩
  · refine ⟨_, cap, rfl, hl, h4, h5, fun h => by simp at h, fun h0 => ?_⟩
    rcases hr.2 with ⟨h, _⟩ | ⟨b, off, cap', he, _, _, hc⟩
    · omega
    · simp at he
      obtain ⟨⟨rfl, rfl⟩, _⟩ := he
      exact ⟨_, _, rfl, hc⟩
theorem Own.sl {B : Nat} {e : TypeId} {v : Value} (h : Own w B e v xs) : ∃ a c, v = .slice a xs.length c ∧ Sl w 1 a xs.length c xs := OwnK.sl (k := 1) (n := xs.length) h
end
theorem Own.slice_len {w : World} {B : Nat} {e : TypeId} {a : Option Addr} {n c : Nat} {xs : List Value} (h : Own w B e (.slice a n c) xs) : n = xs.length := by
  rcases h.2 with ⟨h1, h2⟩ | ⟨g, cap, cur, h1, _⟩
  · simp at h1; omega
  · simp at h1; exact h1.2.1
theorem Own.at_ {w : World} {B : Nat} {e : TypeId} {g n c : Nat} {xs : List Value} (h : Own w B e (.slice (some ⟨g, 0, none⟩) n c) xs) {j : Nat} {x : Value} (hj : xs[j]? = some x) : w.cell? ⟨g, j, none⟩ = some x ∧ w.frozen? ⟨g, j, none⟩ = false := by
  have e1 := h.slice_len
  subst e1
  have hl : j < xs.length := (List.getElem?_eq_some_iff.1 hj).1
  exact ⟨(World.ownsRow.cellAt (h := h) j (by omega)).trans hj, World.ownsRow.frozenAt (h := h) j⟩
theorem Own.blk {w : World} {B : Nat} {e : TypeId} {g n c : Nat} {xs : List Value} (h : Own w B e (.slice (some ⟨g, 0, none⟩) n c) xs) : B ≤ g ∧ g < w.heap.size := World.ownsRow.lt (h := h) g rfl
theorem Own.set_ {w : World} {B : Nat} {e : TypeId} {g n c : Nat} {xs : List Value} (h : Own w B e (.slice (some ⟨g, 0, none⟩) n c) xs) (j : Nat) (u : Value) : Own (w.setCell ⟨g, j, none⟩ u) B e (.slice (some ⟨g, 0, none⟩) n c) (xs.set j u) := by
  have e1 := h.slice_len
  subst e1
  have := (World.ownsRow.stored (h := h) j u).1
  unfold Own
  rw [List.length_set]
  exact this
theorem Own.of_grown {w w' : World} {B : Nat} {e : TypeId} {v : Value} {xs : List Value} (h : Own w B e v xs) {row : Option Nat} (hg : w.grownBy w' row) (hne : v.ownBlock = none ∨ v.ownBlock ≠ row) : Own w' B e v xs := World.ownsRow.kept (h := h) hg hne
theorem Own.apart {w w2 : World} {B B2 : Nat} {e e2 : TypeId} {v v2 : Value} {xs ys : List Value} (h1 : Own w B e v xs) (h2 : Own w2 B2 e2 v2 ys) (hB : w.heap.size ≤ B2) : v2.ownBlock = none ∨ v2.ownBlock ≠ v.ownBlock := by
  cases hq : v2.ownBlock with
  | none => exact .inl rfl
  | some g =>
    right
    intro he
    have := (World.ownsRow.lt (h := h2) g hq).1
    have := (World.ownsRow.lt (h := h1) g he.symm).2
    omega
/-- 'append(out, x, ..)' to a slice of the call's own: which block has turned is told. -/
theorem wpList_appG {P : Program} {ops : Array Oper} {rest : List Oper} {o : Oper} {a : Act} {Q : Exit → Act → World → Prop} {w : World} (hgd : o.guard = none) (s x : Operand) (t e : TypeId)
    (ho : o.op = .call { callee := .builtin .append, args := #[s, x], argTypes := #[t, t] }) (B : Nat) (i : TypeInfo) (z : Value) (bytes : Nat)
    (ht : P.underlying t = some (.slice e)) (hi : P.info? e = some i) (hz : i.zero = some z) (hsize : i.size = 1) (hby : i.bytes = bytes) (hzs : z.cells.size = 1)
    (v : Value) (xs : List Value) (hs : a.eval s = v) (hown : Own w B e v xs) (l : List Value) (n : Nat) (hn : n = l.length) (hx : a.eval x = .slice (some ⟨w.heap.size, 0, none⟩) n n)
    (h1 : ∀ u ∈ l, u.oneCell' = true) (hb1 : 1 ≤ bytes) (hbytes : (xs.length + l.length) * bytes ≤ 140737488355328) (hB : B ≤ w.heap.size)
    (h : ∀ v' w', Own w' B e v' (xs ++ l) → (w.alloc (.cells l.toArray e)).grownBy w' v.ownBlock → Below B w w' → wpList P ops Q rest (a.put o.dst v') w') : wpList P ops Q (o :: rest) a (w.alloc (.cells l.toArray e)) := by
  subst hn
  have hle : xs.length + l.length ≤ 140737488355328 := Nat.le_trans (by have := Nat.mul_le_mul_left (xs.length + l.length) hb1; simpa using this) hbytes
  refine wpList_append_own _ hgd s x t ho B e i z 1 bytes ht hi hz hsize hby hzs (by decide) v xs.length xs hs (hown.alloc _) ⟨w.heap.size, 0, none⟩ l.length l.length l hx (by simp) (fun j u hj => ?_) h1 (by unfold maxLen; omega) hbytes (by simp; omega) ?_
  · have hp : (⟨w.heap.size, 0, none⟩ : Addr).add j = ⟨w.heap.size, j, none⟩ := by unfold Addr.add; split <;> simp_all
    rw [hp, World.cell?_alloc_mark]
    simpa using hj
  · intro v' w' hown' hg _
    exact h v' w' (by unfold Own; rw [List.length_append]; exact hown') hg (below_app (Below.refl _ _) hB hown hg)
/-- The row of a slice of the call's own, its room behind it, too. -/
theorem Own.row {w : World} {B : Nat} {e : TypeId} {a : Option Addr} {n c : Nat} {xs : List Value} (h : Own w B e (.slice a n c) xs) :
    (a = none ∧ n = 0 ∧ c = 0) ∨ ∃ g cur, a = some ⟨g, 0, none⟩ ∧ B ≤ g ∧ Blk w g cur e ∧ cur.size = c := by
  rcases h.2 with ⟨h1, _⟩ | ⟨g, cap, cur, h1, h2, h3, _, _, h6, _⟩
  · simp at h1; exact .inl h1
  · simp at h1
    obtain ⟨rfl, rfl, rfl⟩ := h1
    exact .inr ⟨g, cur, rfl, h2, h3, by simpa using h6⟩
end Go.Proofs.Ytepegjihlppkcaa.Com
