/- flow: FlowOwn, walked by hand. (r29) -/
import Derived.Test.YtnnnfncebpkaoaaFoD
import Derived.Deep.RegionHeld3
import Derived.Deep.DeepCutAuto
namespace Go.Proofs.Ytnnnfncebpkaoaa.Fo
open Go Go.Proofs Go.RowKit Go.Proofs.Ytnnnfncebpkaoaa.Com Go.Proofs.Ytnnnfncebpkaoaa.Pm
set_option linter.unusedVariables false
/-- A slice that holds these numbers, in a block from B on. -/
def CI (W : World) (B : Nat) (row : List Value) (v : Value) : Prop :=
  (row = [] ∧ ∃ a, v = .slice a 0 0) ∨ ∃ b n c cur, v = .slice (some ⟨b, 0, none⟩) n c ∧ row.length = n ∧ n ≤ c ∧ c ≤ maxLen ∧ B ≤ b ∧ RowAt W b cur 3 ∧ cur.toList.take row.length = row ∧ cur.size = c
theorem CI.keep {W W' : World} {B : Nat} {row : List Value} {v : Value} (h : CI W B row v) (hk : ∀ (b : Nat) cur f, W.heap[b]? = some (.cells cur 3 f) → W'.heap[b]? = some (.cells cur 3 f)) : CI W' B row v := by
  rcases h with h | ⟨b, n, c, cur, h1, h2, h3, h4, h5, ⟨f, h6, h8⟩, h7⟩
  · exact .inl h
  · exact .inr ⟨b, n, c, cur, h1, h2, h3, h4, h5, ⟨f, hk _ _ _ h6, h8⟩, h7⟩
theorem CI.mono {W : World} {B B' : Nat} {row : List Value} {v : Value} (h : CI W B row v) (hb : B' ≤ B) : CI W B' row v := by
  rcases h with h | ⟨b, n, c, cur, h1, h2, h3, h4, h5, h6⟩
  · exact .inl h
  · exact .inr ⟨b, n, c, cur, h1, h2, h3, h4, Nat.le_trans hb h5, h6⟩
theorem CI.sl {W : World} {B : Nat} {row : List Value} {v : Value} (h : CI W B row v) : ∃ a n c, v = .slice a n c := by
  rcases h with ⟨_, a, rfl⟩ | ⟨b, n, c, cur, rfl, _⟩ <;> exact ⟨_, _, _, rfl⟩
theorem below3 {W W' : World} (h : Below W.heap.size W W') : ∀ (b : Nat) cur f, W.heap[b]? = some (.cells cur 3 f) → W'.heap[b]? = some (.cells cur 3 f) :=
  fun b cur f q => (h.block b (Array.getElem?_eq_some_iff.1 q).1).trans q
/-- Lines of one's own that hold these numbers. -/
def AX (W : World) (B : Nat) (v : Value) (n : Nat) (Ls : List (List Value)) (xs : List Value) : Prop :=
  W.ownsRow B 32 1 v n xs ∧ Ls.length = n ∧ ∀ (i : Nat) u, xs[i]? = some u → ∃ l, Ls[i]? = some l ∧ CI W B l u
/-- Rows of one's own that hold these numbers. -/
def BX (W : World) (B : Nat) (v : Value) (n : Nat) (Rs : List (List Value × Bool)) (xs : List Value) : Prop :=
  W.ownsRow B 35 2 v n xs ∧ Rs.length = n ∧ ∀ (i : Nat) r, Rs[i]? = some r → ∃ u, xs[i * 2]? = some u ∧ xs[i * 2 + 1]? = some (.bool r.2) ∧ CI W B r.1 u
theorem AX.below {W W' : World} {B n : Nat} {v : Value} {Ls : List (List Value)} {xs : List Value} (h : AX W B v n Ls xs) (hb : Below W.heap.size W W') : AX W' B v n Ls xs :=
  ⟨ownsRow_below h.1 hb, h.2.1, fun i u hu => by obtain ⟨l, h1, h2⟩ := h.2.2 i u hu; exact ⟨l, h1, h2.keep (below3 hb)⟩⟩
theorem BX.below {W W' : World} {B n : Nat} {v : Value} {Rs : List (List Value × Bool)} {xs : List Value} (h : BX W B v n Rs xs) (hb : Below W.heap.size W W') : BX W' B v n Rs xs :=
  ⟨ownsRow_below h.1 hb, h.2.1, fun i r hr => by obtain ⟨u, h1, h2, h3⟩ := h.2.2 i r hr; exact ⟨u, h1, h2, h3.keep (below3 hb)⟩⟩
theorem AX.app {W W' : World} {B n : Nat} {v v' s : Value} {l : List Value} {Ls : List (List Value)} {xs : List Value} (h : AX W B v n Ls xs) (hs : CI W B l s) (ho : W'.ownsRow B 32 1 v' (n + 1) (xs ++ [s])) (hg : W.grownBy W' v.ownBlock) : AX W' B v' (n + 1) (Ls ++ [l]) (xs ++ [s]) := by
  have hk := (Kp.grown (B := B) (by decide) hg h.1).2.2
  have hl := h.1.1
  have hn := h.2.1
  refine ⟨ho, by simp [hn], fun i u hu => ?_⟩
  rw [List.getElem?_append] at hu
  split at hu
  · obtain ⟨l', h1, h2⟩ := h.2.2 i u hu
    exact ⟨l', by rw [List.getElem?_append_left (List.getElem?_eq_some_iff.1 h1).1]; exact h1, h2.keep hk⟩
  · have hi := (List.getElem?_eq_some_iff.1 hu).1
    have hi : i = n := by simp at hi; omega
    subst hi
    rw [show i - xs.length = 0 from by omega] at hu
    cases hu
    exact ⟨l, by rw [List.getElem?_append_right (by omega), hn, Nat.sub_self]; rfl, hs.keep hk⟩
theorem AX.grown {W W' : World} {B n m : Nat} {v o : Value} {Ls : List (List Value)} {xs ys : List Value} (h : AX W B v n Ls xs) (ho : W.ownsRow B 35 2 o m ys) (hg : W.grownBy W' o.ownBlock) : AX W' B v n Ls xs :=
  ⟨h.1.kept hg (own_ne (by decide) h.1 ho), h.2.1, fun i u hu => by obtain ⟨l, h1, h2⟩ := h.2.2 i u hu; exact ⟨l, h1, h2.keep (Kp.grown (B := B) (by decide) hg ho).2.2⟩⟩
theorem BX.app {W W' : World} {B n : Nat} {v v' s : Value} {r : List Value × Bool} {Rs : List (List Value × Bool)} {xs : List Value} (h : BX W B v n Rs xs) (hs : CI W B r.1 s) (ho : W'.ownsRow B 35 2 v' (n + 1) (xs ++ [s, .bool r.2])) (hg : W.grownBy W' v.ownBlock) : BX W' B v' (n + 1) (Rs ++ [r]) (xs ++ [s, .bool r.2]) := by
  have hk := (Kp.grown (B := B) (by decide) hg h.1).2.2
  have hl := h.1.1
  have hn := h.2.1
  refine ⟨ho, by simp [hn], fun i r' hr => ?_⟩
  rw [List.getElem?_append] at hr
  split at hr
  · obtain ⟨u, h1, h2, h3⟩ := h.2.2 i r' hr
    exact ⟨u, by rw [List.getElem?_append_left (List.getElem?_eq_some_iff.1 h1).1]; exact h1, by rw [List.getElem?_append_left (List.getElem?_eq_some_iff.1 h2).1]; exact h2, h3.keep hk⟩
  · have hi := (List.getElem?_eq_some_iff.1 hr).1
    have hi : i = n := by simp at hi; omega
    subst hi
    rw [hn, Nat.sub_self] at hr
    cases hr
    exact ⟨s, by rw [List.getElem?_append_right (by omega), show i * 2 - xs.length = 0 from by omega]; rfl, by rw [List.getElem?_append_right (by omega), show i * 2 + 1 - xs.length = 1 from by omega]; rfl, hs.keep hk⟩
/-- Lines of one's own, new numbers in each. -/
def Fns (W : World) (B : Nat) (v : Value) (n : Nat) (xs : List Value) : Prop := W.ownsRow B 32 1 v n xs ∧ ∀ u ∈ xs, FrI W B u
theorem Fns.below {W W' : World} {B n : Nat} {v : Value} {xs : List Value} (h : Fns W B v n xs) (hb : Below W.heap.size W W') : Fns W' B v n xs :=
  ⟨ownsRow_below h.1 hb, fun u hu => (h.2 u hu).keep (B' := B) (Kp.below hb)⟩
theorem Fns.grown {W W' : World} {B n m : Nat} {v o : Value} {xs ys : List Value} (h : Fns W B v n xs) (ho : W.ownsRow B 35 2 o m ys) (hg : W.grownBy W' o.ownBlock) : Fns W' B v n xs :=
  ⟨h.1.kept hg (own_ne (by decide) h.1 ho), fun u hu => (h.2 u hu).keep (Kp.grown (B := B) (by decide) hg ho)⟩
theorem ownsRow_sp {W W' : World} {B base e size n : Nat} {v : Value} {xs : List Value} (he : e ≠ 3) (h : W.ownsRow base e size v n xs) (hS : Sp B W W') : W'.ownsRow base e size v n xs :=
  ⟨h.1, h.2.imp id fun ⟨g, cap, cur, q1, q2, q3, q4⟩ => ⟨g, cap, cur, q1, q2, hS.2.1 _ _ _ _ he q3, q4⟩⟩
theorem Fns.sp {W W' : World} {B n : Nat} {v : Value} {xs : List Value} (h : Fns W B v n xs) (hS : Sp B W W') : Fns W' B v n xs :=
  ⟨ownsRow_sp (by decide) h.1 hS, fun u hu => hS.2.2 _ (h.2 u hu)⟩
theorem Rws.sp {W W' : World} {B n : Nat} {v : Value} {xs : List Value} (h : Rws W B v n xs) (hS : Sp B W W') : Rws W' B v n xs :=
  ⟨ownsRow_sp (by decide) h.1 hS, fun i u hu => hS.2.2 _ (h.2.1 i u hu), h.2.2⟩
theorem Lns.fns {W : World} {B B' T n : Nat} {v : Value} {xs : List Value} (h : Lns W B T v n xs) (hb : B' ≤ B) : Fns W B' v n xs :=
  ⟨⟨h.1.1, h.1.2.imp id fun ⟨g, cap, cur, q1, q2, q3⟩ => ⟨g, cap, cur, q1, Nat.le_trans hb q2, q3⟩⟩, fun u hu => (h.2 u hu).fr.mono hb⟩
theorem Rws.one {W : World} {B n : Nat} {v : Value} {xs : List Value} (h : Rws W B v n xs) : ∀ u ∈ xs, u.oneCell' = true := fun u hu => by
  obtain ⟨i, hi⟩ := List.mem_iff_getElem?.1 hu
  rcases Nat.mod_two_eq_zero_or_one i with e | e
  · rcases h.2.1 (i / 2) u (by rw [show i / 2 * 2 = i from by omega]; exact hi) with ⟨a, rfl⟩ | ⟨b, n, c, cur, rfl, _⟩ <;> rfl
  · obtain ⟨bb, rfl⟩ := h.2.2 (i / 2) u (by rw [show i / 2 * 2 + 1 = i from by omega]; exact hi)
    rfl
theorem Rws.app2 {W W' : World} {B n m : Nat} {v z o : Value} {xs ys : List Value} (h : Rws W B v n xs) (k : Rws W B z m ys) (ho : W'.ownsRow B 35 2 o (n + m) (xs ++ ys)) (hg : W.grownBy W' v.ownBlock) : Rws W' B o (n + m) (xs ++ ys) := by
  have hk : Kp B W W' := Kp.grown (by decide) hg h.1
  have hl := h.1.1
  refine ⟨ho, fun i u hu => ?_, fun i u hu => ?_⟩
  · rw [List.getElem?_append] at hu
    split at hu
    · exact (h.2.1 i u hu).keep hk
    · rw [show i * 2 - xs.length = (i - n) * 2 from by omega] at hu
      exact (k.2.1 _ u hu).keep hk
  · rw [List.getElem?_append] at hu
    split at hu
    · exact h.2.2 i u hu
    · rw [show i * 2 + 1 - xs.length = (i - n) * 2 + 1 from by omega] at hu
      exact k.2.2 _ u hu
theorem Rws.get {W : World} {B n : Nat} {v : Value} {xs : List Value} (h : Rws W B v n xs) {j : Nat} (hj : j < n) : ∃ g c u bb, v = .slice (some ⟨g, 0, none⟩) n c ∧ W.cell? ⟨g, j * 2, none⟩ = some u ∧ W.cell? ⟨g, j * 2 + 1, none⟩ = some (.bool bb) ∧ FrI W B u := by
  have hl := h.1.1
  rcases h.1.2 with ⟨_, rfl⟩ | ⟨g, cap, cur, rfl, q1, q2, q3, q4, q5, q6⟩
  · omega
  · have hc : ∀ i u, xs[i]? = some u → W.cell? ⟨g, i, none⟩ = some u := fun i u hu => by
      rw [cell_of_row _ _ _ _ _ _ q2]
      rw [← q6, List.getElem?_take] at hu
      split at hu
      · simpa using hu
      · cases hu
    obtain ⟨u, hu⟩ : ∃ u, xs[j * 2]? = some u := ⟨_, List.getElem?_eq_getElem (by omega)⟩
    obtain ⟨v, hv⟩ : ∃ v, xs[j * 2 + 1]? = some v := ⟨_, List.getElem?_eq_getElem (by omega)⟩
    obtain ⟨bb, rfl⟩ := h.2.2 j v hv
    exact ⟨g, cap, u, bb, rfl, hc _ _ hu, hc _ _ hv, h.2.1 j u hu⟩
theorem Fns.get {W : World} {B n : Nat} {v : Value} {xs : List Value} (h : Fns W B v n xs) {j : Nat} (hj : j < n) : ∃ g c u, v = .slice (some ⟨g, 0, none⟩) n c ∧ W.cell? ⟨g, j, none⟩ = some u ∧ FrI W B u := by
  have hl := h.1.1
  rcases h.1.2 with ⟨_, rfl⟩ | ⟨g, cap, cur, rfl, q1, q2, q3, q4, q5, q6⟩
  · omega
  · obtain ⟨u, hu⟩ : ∃ u, xs[j]? = some u := ⟨_, List.getElem?_eq_getElem (by omega)⟩
    refine ⟨g, cap, u, rfl, ?_, h.2 u (List.mem_of_getElem? hu)⟩
    rw [cell_of_row _ _ _ _ _ _ q2]
    rw [← q6, List.getElem?_take] at hu
    split at hu
    · simpa using hu
    · cases hu
theorem FrI.sl {W : World} {B : Nat} {s : Value} (h : FrI W B s) : ∃ a n c, s = .slice a n c := by
  rcases h with ⟨a, rfl⟩ | ⟨b, n, c, cur, rfl, _⟩ <;> exact ⟨_, _, _, rfl⟩
theorem cell_two_new (w : World) (x y : Value) (t : TypeId) : ∀ (j : Nat) u, [x, y][j]? = some u → (w.alloc (.cells #[x, y] t)).cell? ((⟨w.heap.size, 0, none⟩ : Addr).add j) = some u := fun j u hu => by
  rw [show ((⟨w.heap.size, 0, none⟩ : Addr).add j) = ⟨w.heap.size, j, none⟩ from by unfold Addr.add; split <;> simp_all]
  rw [cell_of_row _ _ _ _ _ _ (heap_alloc_new w _)]
  simpa using hu
/-- An append in a region that draws its order. -/
theorem step_append_own {P : Program} {w : World} {ops : Array Oper} {o : Oper} {a : Act} {K : Act → World → Prop} {Q : Exit → Act → World → Prop} {E : Prop} (hgd : o.guard = none) (s x : Operand) (t : TypeId)
    (ho : o.op = .call { callee := .builtin .append, args := #[s, x], argTypes := #[t, t] })
    (base : Nat) (e : TypeId) (i : TypeInfo) (z : Value) (size bytes : Nat) (ht : P.underlying t = some (.slice e)) (hi : P.info? e = some i) (hz : i.zero = some z)
    (hsize : i.size = size) (hby : i.bytes = bytes) (hzs : z.cells.size = size) (hsz : 0 < size)
    (v : Value) (n : Nat) (xs : List Value) (hs : a.eval s = v) (hown : w.ownsRow base e size v n xs)
    (ad : Addr) (m c : Nat) (news : List Value) (hx : a.eval x = .slice (some ad) m c) (hl : news.length = m * size) (hnews : ∀ j u, news[j]? = some u → w.cell? (ad.add j) = some u) (h1 : ∀ u ∈ news, u.oneCell' = true)
    (h63 : n + m ≤ maxLen) (hbytes : (n + m) * bytes ≤ 140737488355328) (hbase : base ≤ w.heap.size)
    (h : ∀ v' w', w'.ownsRow base e size v' (n + m) (xs ++ news) → w.grownBy w' v.ownBlock → K (a.put o.dst v') w') :
    if Region.wanted o (yielded ops a.tmps) = true then Oper.wp P o a w K Q else E := by
  have hw : Region.wanted o (yielded ops a.tmps) = true := by simp [Region.wanted, hgd]
  rw [if_pos hw]
  obtain ⟨v', w', hr, h2, h3, _⟩ := run_append_own_at (P := P) w base t o.type e i z size bytes ht hi hz hsize hby hzs hsz v n xs hown ad m c news hl hnews h1 h63 hbytes hbase
  unfold Oper.wp execOp
  simp only [ho, resolve, invoke, builtin, Sem.run_bind, Sem.run_pure, Result.andThen_ok, List.map_toArray, List.map_cons, List.map_nil, hs, hx, hr]
  exact h v' w' h2 h3
/-- An append of a slice that is one's own too, nil or not. -/
theorem wpList_append_z {P : Program} {w : World} {ops : Array Oper} {rest : List Oper} {o : Oper} {a : Act} {Q : Exit → Act → World → Prop} (hgd : o.guard = none) (s x : Operand) (t : TypeId)
    (ho : o.op = .call { callee := .builtin .append, args := #[s, x], argTypes := #[t, t] })
    (base base' : Nat) (e : TypeId) (i : TypeInfo) (z : Value) (size bytes : Nat) (ht : P.underlying t = some (.slice e)) (hi : P.info? e = some i) (hz : i.zero = some z)
    (hsize : i.size = size) (hby : i.bytes = bytes) (hzs : z.cells.size = size) (hsz : 0 < size)
    (v : Value) (n : Nat) (xs : List Value) (hs : a.eval s = v) (hown : w.ownsRow base e size v n xs)
    (y : Value) (m : Nat) (news : List Value) (hx : a.eval x = y) (hy : w.ownsRow base' e size y m news) (h1 : ∀ u ∈ news, u.oneCell' = true)
    (h63 : n + m ≤ maxLen) (hbytes : (n + m) * bytes ≤ 140737488355328) (hbase : base ≤ w.heap.size)
    (h : ∀ v' w', w'.ownsRow base e size v' (n + m) (xs ++ news) → w.grownBy w' v.ownBlock → wpList P ops Q rest (a.put o.dst v') w') : wpList P ops Q (o :: rest) a w := by
  have hl := hy.1
  rcases id hy.2 with ⟨rfl, rfl⟩ | ⟨g, cap, cur, rfl, _⟩
  · have e0 : news = [] := List.eq_nil_of_length_eq_zero (by omega)
    subst e0
    exact wpList_append_own_none hgd s x t ho base e i size ht hi v n xs hs hown hx (h v w (by rw [Nat.add_zero, List.append_nil]; exact hown) ⟨rfl, rfl, rfl, Nat.le_refl _, fun _ _ _ => rfl⟩)
  · exact wpList_append_own _ hgd s x t ho base e i z size bytes ht hi hz hsize hby hzs hsz v n xs hs hown ⟨g, 0, none⟩ m cap news hx hl (hy.cells rfl) h1 h63 hbytes hbase fun v' w' h2 h3 _ => h v' w' h2 h3
set_option maxRecDepth 100000 in
set_option maxHeartbeats 4000000 in
/-- slices.Clone of rows: the same elements, in a block of its own. -/
theorem clone_rows (w : World) (B : Nat) (v : Value) (m : Nat) (xs : List Value) (h : Rws w B v m xs) (hB : B ≤ w.heap.size) (hm : m ≤ 1099512676352) :
    Calls Go.Proofs.Try.prog 12 #[v] w fun e W => ∃ s, e = .returned s ∧ Below w.heap.size w W ∧ Rws W B s m xs := by
  obtain ⟨io, hio, hz0, hz1, hz2⟩ := info_parts infoRow
  have hl := h.1.1
  have hone := h.one
  rcases h.1.2 with ⟨rfl, rfl⟩ | ⟨g, cap, cur, rfl, q1, q2, q3, q4, q5, q6⟩
  · have q22 := fun (w : World) => Lib.run_eql_slice_nil (P := Go.Proofs.Try.prog) w 23 _ none 0 0 0 0 Go.Proofs.Try.underlying23
    go_enter Go.Proofs.Try.func12, Go.Proofs.Try.ntmps12
    go_wp2_with fail
    go_ret
    exact ⟨_, rfl, .refl _ _, h⟩
  · have q22 := fun (w : World) => Lib.run_eql_slice_nil (P := Go.Proofs.Try.prog) w 23 _ (some ⟨g, 0, none⟩) m cap 0 0 Go.Proofs.Try.underlying23
    have hcl : ∀ (j : Nat) u, xs[j]? = some u → (w.alloc (.cells #[] 35)).cell? ((⟨g, 0, none⟩ : Addr).add j) = some u := fun j u hu => (Below.cell (B := w.heap.size) ((Below.refl _ _).alloc (Nat.le_refl _) _) (by rw [show ((⟨g, 0, none⟩ : Addr).add j) = ⟨g, j, none⟩ from by unfold Addr.add; split <;> simp_all]; exact (Array.getElem?_eq_some_iff.1 q2).1)).trans (h.1.cells rfl j u hu)
    have hown : (w.alloc (.cells #[] 35)).ownsRow w.heap.size 35 2 (.slice (some ⟨w.heap.size, 0, none⟩) 0 0) 0 [] := World.ownsRow_made w #[] 0 (Nat.le_refl _) (Nat.zero_le _) (by simp)
    have hsz : w.heap.size ≤ (w.alloc (.cells #[] 35)).heap.size := by simp
    go_enter Go.Proofs.Try.func12, Go.Proofs.Try.ntmps12
    go_wp2_with (at_builtin; refine wpList_append_own _ rfl _ _ 23 rfl w.heap.size 35 io _ 2 32 Go.Proofs.Try.underlying23 hio hz0 hz1 hz2 rfl (by decide) _ _ _ rfl hown ⟨g, 0, none⟩ m cap xs rfl hl hcl hone (by unfold maxLen; omega) (by omega) hsz ?_; intro v1 w2 hown1 hb2 _)
    go_ret
    rw [Nat.zero_add, List.nil_append] at hown1
    have hBa : Below w.heap.size w (w.alloc (.cells #[] 35)) := (Below.refl _ _).alloc (Nat.le_refl _) _
    have hBb : Below w.heap.size w w2 := hBa.grown hb2 hsz (fun k e => (hown.lt k e).1)
    exact ⟨_, rfl, hBb, ⟨hown1.1, hown1.2.imp id fun ⟨g, cap, cur, q1, q2, q3⟩ => ⟨g, cap, cur, q1, Nat.le_trans hB q2, q3⟩⟩, fun i u hu => (h.2.1 i u hu).keep (B' := B) (Kp.below hBb), h.2.2⟩
set_option maxRecDepth 100000 in
set_option maxHeartbeats 4000000 in
theorem own_walk (w : World) (la ra : Option Addr) (n c rn rc : Nat) (wide : Int) (Ls : List (List Value)) (Rs : List (List Value × Bool)) (hn : n ≤ 1048576) (hrn : rn ≤ 1048576) (hLn : Ls.length = n) (hRn : Rs.length = rn)
    (hL : ∀ (i : Nat) l, Ls[i]? = some l → ∃ b o a m k, la = some ⟨b, o, none⟩ ∧ b < w.heap.size ∧ w.cell? ⟨b, o + i, none⟩ = some (.slice a m k) ∧ ∀ W, Below w.heap.size w W → Calls Go.Proofs.Try.prog 9 #[.slice a m k] W fun e W' => ∃ s, e = .returned s ∧ Below W.heap.size W W' ∧ CI W' W.heap.size l s)
    (hR : ∀ (i : Nat) r, Rs[i]? = some r → ∃ b o a m k, ra = some ⟨b, o, none⟩ ∧ b < w.heap.size ∧ w.cell? ⟨b, o + i * 2, none⟩ = some (.slice a m k) ∧ w.cell? ⟨b, o + i * 2 + 1, none⟩ = some (.bool r.2) ∧ ∀ W, Below w.heap.size w W → Calls Go.Proofs.Try.prog 9 #[.slice a m k] W fun e W' => ∃ s, e = .returned s ∧ Below W.heap.size W W' ∧ CI W' W.heap.size r.1 s)
    (KF : ∀ W, Below w.heap.size w W → Calls Go.Proofs.Try.prog 5 #[.slice la n c, .int .i64 wide] W (FlowPost W))
    (KL : ∀ W, Below w.heap.size w W → Calls Go.Proofs.Try.prog 7 #[.slice ra rn rc] W (LinesPost W))
    (KA : ∀ W, Below w.heap.size w W → Calls Go.Proofs.Try.prog 10 #[.slice ra rn rc, .int .i64 wide] W (FlowPost W))
    (KSL : ∀ W v xs, Below w.heap.size w W → AX W w.heap.size v n Ls xs → Calls Go.Proofs.Try.prog 8 #[.slice la n c, v] W fun e W' => e = .returned (.bool true) ∧ Below W.heap.size W W')
    (KSR : ∀ W v xs, Below w.heap.size w W → BX W w.heap.size v rn Rs xs → Calls Go.Proofs.Try.prog 11 #[.slice ra rn rc, v] W fun e W' => e = .returned (.bool true) ∧ Below W.heap.size W W')
    (K6 : ∀ W, Calls Go.Proofs.Try.prog 6 #[] W fun e W' => e = .returned (.bool true) ∧ Below W.heap.size W W') :
    Calls Go.Proofs.Try.prog 4 #[.slice la n c, .slice ra rn rc, .int .i64 wide] w fun e w' => e = .returned (.bool true) ∧ Below w.heap.size w w' := by
  obtain ⟨io, hio, hz0, hz1, hz2⟩ := info_parts infoRow
  obtain ⟨iS, hiS, hs0, hs1, hs2⟩ := info_parts infoS
  go_enter Go.Proofs.Try.func4, Go.Proofs.Try.ntmps4
  go_wp2_with fail
  go_loopw [7, 26] (fun o i wr => ∃ (j : Nat) (xs : List Value), j ≤ n ∧ i = .int .i64 j ∧ Below w.heap.size w wr ∧ AX wr w.heap.size o j (Ls.take j) xs) (fun _ i _ => n - (intOf i).toNat)
  case atStart => exact ⟨0, [], Nat.zero_le _, rfl, .refl _ _, World.ownsRow_nil .., rfl, fun i u hu => by simp at hu⟩
  case round =>
    obtain ⟨j, xs, hj, rfl, hB, hA⟩ := hrel
    obtain ⟨oa, oc, rfl⟩ := own_sl hA.1
    by_cases hlj : j < n
    · obtain ⟨l, hl⟩ : ∃ l, Ls[j]? = some l := ⟨_, List.getElem?_eq_getElem (by omega)⟩
      obtain ⟨b, o, a, m, k, rfl, hb, hc, K⟩ := hL j l hl
      have y0 := (hB.cell (p := ⟨b, o + j, none⟩) hb).trans hc
      go_wp2_with fail
      refine (K wr hB).mono ?_
      rintro e w2 ⟨s, rfl, b2, hci⟩
      obtain ⟨sa, sn, sc, rfl⟩ := hci.sl
      have hB2 := hB.trans (b2.mono hB.size)
      have hA2 := hA.below b2
      have hci := hci.mono hB.size
      have hr := hA2.1.alloc (.cells #[.slice sa sn sc] 32)
      have hon : ∀ u ∈ [Value.slice sa sn sc], u.oneCell' = true := fun u hu => by
        rw [List.mem_singleton.1 hu]; rfl
      have hsz := hB2.size
      go_wp2_with (at_builtin; refine wpList_append_own _ rfl _ _ 22 rfl w.heap.size 32 iS _ 1 24 Go.Proofs.Try.underlying22 hiS hs0 hs1 hs2 rfl (by decide) _ _ _ rfl hr ⟨w2.heap.size, 0, none⟩ 1 1 [.slice sa sn sc] rfl rfl (cell_one_new _ _ _) hon (by unfold maxLen; omega) (by omega) (by rw [World.size_alloc]; omega) ?_; intro o' w8 hown8 hgrow8 _)
      have qg8 : w2.grownBy w8 _ := (World.grownBy_alloc w2 _ _).trans hgrow8
      have hA8 := hA2.app hci hown8 qg8
      have hB8 := hB2.grown qg8 hsz (fun k e => (hA2.1.lt k e).1)
      have ht : Ls.take j ++ [l] = Ls.take (j + 1) := by rw [List.take_add_one, hl]; rfl
      rw [ht] at hA8
      go_roundw
      case rel => exact ⟨j + 1, _, hlj, by simp, hB8, hA8⟩
      case measure => simp [intOf]; omega
    · obtain rfl : j = n := by omega
      rw [List.take_of_length_le (by omega)] at hA
      have hB1 := hB
      go_wp2_with fail
      go_loopw [8, 38] (fun o i wr => ∃ (k : Nat) (ys : List Value), k ≤ rn ∧ i = .int .i64 k ∧ Below w.heap.size w wr ∧ AX wr w.heap.size (.slice oa j oc) j Ls xs ∧ BX wr w.heap.size o k (Rs.take k) ys) (fun _ i _ => rn - (intOf i).toNat)
      case atStart => exact ⟨0, [], Nat.zero_le _, rfl, hB, hA, World.ownsRow_nil .., rfl, fun i u hu => by simp at hu⟩
      case round =>
        clear hB hA hB1
        obtain ⟨k, ys, hk, rfl, hB, hA, hX⟩ := hrel
        obtain ⟨pa, pc, rfl⟩ := own_sl hX.1
        by_cases hlk : k < rn
        · obtain ⟨r, hr⟩ : ∃ r, Rs[k]? = some r := ⟨_, List.getElem?_eq_getElem (by omega)⟩
          obtain ⟨b, o, a, m, kc, rfl, hb, hc0, hc1, K⟩ := hR k r hr
          have y0 := (hB.cell (p := ⟨b, o + k * 2, none⟩) hb).trans hc0
          have y1 := (hB.cell (p := ⟨b, o + k * 2 + 1, none⟩) hb).trans hc1
          obtain ⟨r1, rb⟩ := r
          have hr0 := hr
          clear hr
          go_upto_region 11 with fail
          obtain ⟨wb, hwb⟩ : ∃ wb, wr.alloc (.cells #[.slice a m kc, .bool rb] 35) = wb := ⟨_, rfl⟩
          have hNb : Below wr.heap.size wr wb := by subst hwb; exact (Below.refl _ _).alloc (Nat.le_refl _) _
          have z0 : wb.cell? ⟨wr.heap.size, 0, none⟩ = some (.slice a m kc) := by subst hwb; simp
          have z1 : wb.cell? ⟨wr.heap.size, 1, none⟩ = some (.bool rb) := by subst hwb; simp
          have hsb : wb.heap.size = wr.heap.size + 1 := by subst hwb; simp
          rw [hwb]
          clear hwb
          have hBb := hB.trans (hNb.mono hB.size)
          have hAb := hA.below hNb
          have hXb := hX.below hNb
          have hXlt := hX.1.lt
          obtain ⟨bx, hbx⟩ : ∃ bx, wr.heap.size = bx := ⟨_, rfl⟩
          rw [hbx] at z0 z1 hsb hXlt ⊢
          have hs2 := hBb.size
          have b63 : k + 1 ≤ maxLen := by unfold maxLen; omega
          have b32 : (k + 1) * 32 ≤ 140737488355328 := by omega
          have KC : ∀ W, Below wb.heap.size wb W → Calls Go.Proofs.Try.prog 9 #[.slice a m kc] W fun e W' => ∃ sa sn sc, e = .returned (.slice sa sn sc) ∧ W'.cell? ⟨bx, 0, none⟩ = some (.slice a m kc) ∧ W'.cell? ⟨bx, 1, none⟩ = some (.bool rb) ∧ Below wb.heap.size wb W' ∧ CI W' w.heap.size r1 (.slice sa sn sc) ∧ w.heap.size ≤ (W'.alloc (.cells #[.slice sa sn sc, .bool rb] 35)).heap.size ∧ (W'.alloc (.cells #[.slice sa sn sc, .bool rb] 35)).ownsRow w.heap.size 35 2 (.slice pa k pc) k ys ∧ (∀ u ∈ [Value.slice sa sn sc, .bool rb], u.oneCell' = true) ∧ ((W'.alloc (.cells #[.slice sa sn sc, .bool rb] 35)).cell? ⟨bx, 0, none⟩ = some (.slice a m kc) ∧ (W'.alloc (.cells #[.slice sa sn sc, .bool rb] 35)).cell? ⟨bx, 1, none⟩ = some (.bool rb)) ∧ ∀ W6, (W'.alloc (.cells #[.slice sa sn sc, .bool rb] 35)).grownBy W6 (Value.slice pa k pc).ownBlock → W6.cell? ⟨bx, 0, none⟩ = some (.slice a m kc) ∧ W6.cell? ⟨bx, 1, none⟩ = some (.bool rb) := by
            intro W hW
            have hWs := hW.size
            refine (K _ (hBb.trans (hW.mono hs2))).mono ?_
            rintro e W' ⟨s, rfl, h1, h2⟩
            obtain ⟨sa, sn, sc, rfl⟩ := h2.sl
            have h3 : Below wb.heap.size wb W' := hW.trans (h1.mono hWs)
            have c0 : W'.cell? ⟨bx, 0, none⟩ = some (.slice a m kc) := cell_keep z0 h3
            have c1 : W'.cell? ⟨bx, 1, none⟩ = some (.bool rb) := cell_keep z1 h3
            have hal : Below W'.heap.size W' (W'.alloc (.cells #[.slice sa sn sc, .bool rb] 35)) := (Below.refl _ _).alloc (Nat.le_refl _) _
            have d0 := cell_keep c0 hal
            have d1 := cell_keep c1 hal
            refine ⟨sa, sn, sc, rfl, c0, c1, h3, h2.mono (Nat.le_trans hs2 hWs), ?_, (ownsRow_below hXb.1 h3).alloc _, fun u hu => ?_, ⟨d0, d1⟩, fun W6 hg => ⟨hg.cell d0 ?_, hg.cell d1 ?_⟩⟩
            · rw [World.size_alloc]; have := h3.size; omega
            · simp at hu; rcases hu with rfl | rfl <;> rfl
            · exact fun e => by have := (hXlt _ e.symm).2; exact absurd this (Nat.lt_irrefl _)
            · exact fun e => by have := (hXlt _ e.symm).2; exact absurd this (Nat.lt_irrefl _)
          have hBd : Below wb.heap.size wb wb.drew := (Below.refl _ _).drew
          go_region_held3 (fun W => W.cell? ⟨bx, 0, none⟩ = some (.slice a m kc) ∧ W.cell? ⟨bx, 1, none⟩ = some (.bool rb)) (first | exact ⟨z0, z1⟩ | exact ⟨x0, x1⟩ | exact g0 | exact ⟨k0, k1⟩)
            (first
              | (go_at_call 9; refine (KC _ hBd).mono ?_; rintro e w2 ⟨sa, sn, sc, rfl, x0, x1, b2, ci, hsz, hr, hon, g0, gg⟩)
              | (refine step_append_own rfl _ _ 23 rfl w.heap.size 35 io _ 2 32 Go.Proofs.Try.underlying23 hio hz0 hz1 hz2 rfl (by decide) _ _ _ rfl hr ⟨w2.heap.size, 0, none⟩ 1 1 [.slice sa sn sc, .bool rb] rfl rfl (cell_two_new _ _ _ _) hon b63 b32 hsz ?_; intro v' w6 hown' hgrow; obtain ⟨k0, k1⟩ := gg w6 hgrow))
          have hown2 : w6.ownsRow w.heap.size 35 2 v' (k + 1) (ys ++ [.slice sa sn sc, .bool rb]) := hown'
          have hg2 : (w2.alloc (.cells #[.slice sa sn sc, .bool rb] 35)).grownBy w6 (Value.slice pa k pc).ownBlock := hgrow
          have qg : w2.grownBy w6 (Value.slice pa k pc).ownBlock := (World.grownBy_alloc w2 _ _).trans hg2
          have hB2 := hBb.trans (b2.mono hs2)
          have hX2 := hXb.below (b2.mono (Nat.le_refl _))
          have hA6 := (hAb.below b2).grown hX2.1 qg
          have hX6 := BX.app (r := (r1, rb)) hX2 ci hown2 qg
          have hB6 := hB2.grown qg hB2.size (fun k e => (hX2.1.lt k e).1)
          have ht : Rs.take k ++ [(r1, rb)] = Rs.take (k + 1) := by rw [List.take_add_one, hr0]; rfl
          rw [ht] at hX6
          clear hown' hgrow
          go_wp2_with fail
          refine ⟨⟨k + 1, _, hlk, by simp, hB6, hA6, hX6⟩, ?_⟩
          simp [intOf]; omega
        · obtain rfl : k = rn := by omega
          rw [List.take_of_length_le (by omega)] at hX
          go_wp2_with fail
          obtain ⟨W0, rfl⟩ : ∃ W0, W0 = wr := ⟨_, rfl⟩
          have hWs := hB.size
          refine (KF W0 hB).mono ?_
          rintro e v1 ⟨x, k1, m1, xs1, rfl, c1, R1, hm1⟩
          obtain ⟨xa, xc, rfl⟩ := own_sl R1.1
          have hB1 := hB.trans (c1.mono hWs)
          go_wp2_with fail
          refine (KL v1 hB1).mono ?_
          rintro e v2 ⟨y, k2, m2, ys2, rfl, c2, hm2, L2⟩
          obtain ⟨ya, yc, rfl⟩ := own_sl L2.1
          have hB2 := hB1.trans (c2.mono hB1.size)
          have d2 := c1.trans (c2.mono c1.size)
          have R1 := R1.keep c2
          have F2 := L2.fns (B' := W0.heap.size) c1.size
          go_wp2_with fail
          refine (KA v2 hB2).mono ?_
          rintro e v3 ⟨z, k3, m3, zs, rfl, c3, R3, hm3⟩
          obtain ⟨za, zc, rfl⟩ := own_sl R3.1
          have hB3 := hB2.trans (c3.mono hB2.size)
          have d3 := d2.trans (c3.mono d2.size)
          have R1 := R1.keep c3
          have F2 := F2.below c3
          have R3 := R3.mono d2.size
          go_wp2_with fail
          refine (KSL v3 _ xs hB3 (hA.below d3)).mono ?_
          rintro e v4 ⟨rfl, c4⟩
          have hB4 := hB3.trans (c4.mono hB3.size)
          have d4 := d3.trans (c4.mono d3.size)
          have R1 := R1.keep c4
          have F2 := F2.below c4
          have R3 := R3.keep c4
          go_wp2_with fail
          refine (KSR v4 _ ys hB4 (hX.below d4)).mono ?_
          rintro e v5 ⟨rfl, c5⟩
          have hB5 := hB4.trans (c5.mono hB4.size)
          have d5 := d4.trans (c5.mono d4.size)
          have R1 := R1.keep c5
          have F2 := F2.below c5
          have R3 := R3.keep c5
          go_wp2_with fail
          refine (clone_rows v5 W0.heap.size _ m1 xs1 R1 d5.size hm1).mono ?_
          rintro e v6 ⟨x6, rfl, c6, R6⟩
          obtain ⟨qa, qc, rfl⟩ := own_sl R6.1
          have hB6 := hB5.trans (c6.mono hB5.size)
          have d6 := d5.trans (c6.mono d5.size)
          have F2 := F2.below c6
          have R3 := R3.keep c6
          have hz := R3.1
          have h63 : m1 + m3 ≤ maxLen := by unfold maxLen; omega
          have h32 : (m1 + m3) * 32 ≤ 140737488355328 := by omega
          have hone := R3.one
          have hsz := d6.size
          obtain ⟨mm, hmm⟩ : ∃ mm, m1 + m3 = mm := ⟨_, rfl⟩
          go_wp2_with (at_builtin; refine wpList_append_z rfl _ _ 23 rfl W0.heap.size W0.heap.size 35 io _ 2 32 Go.Proofs.Try.underlying23 hio hz0 hz1 hz2 rfl (by decide) _ _ _ rfl R6.1 _ _ _ rfl hz hone h63 h32 hsz ?_; intro o' w7 hown7 hgrow7; rw [hmm] at hown7; obtain ⟨ta, tc, rfl⟩ := own_sl hown7)
          have hg7 : v6.grownBy w7 (Value.slice qa m1 qc).ownBlock := hgrow7
          have R7 : Rws w7 W0.heap.size (.slice ta mm tc) mm (xs1 ++ zs) := by
            rw [← hmm] at hown7 ⊢
            exact R6.app2 R3 hown7 hg7
          have F7 := F2.grown R6.1 hg7
          have d7 : Below W0.heap.size W0 w7 := d6.grown hg7 hsz (fun k e => (R6.1.lt k e).1)
          have hmb : mm ≤ 9223372036854775806 := by unfold maxLen at h63; omega
          clear hgrow7 hg7 hown7 R6 R3 F2 R1 hz hone
          go_loopw [82] (fun i wr => ∃ q : Nat, q ≤ mm ∧ i = .int .i64 q ∧ Below W0.heap.size W0 wr ∧ Rws wr W0.heap.size (.slice ta mm tc) mm (xs1 ++ zs) ∧ Fns wr W0.heap.size (.slice ya m2 yc) m2 ys2) (fun i _ => mm - (intOf i).toNat)
          case atStart => exact ⟨0, Nat.zero_le _, rfl, d7, R7, F7⟩
          case round =>
            obtain ⟨q, hq, rfl, hD, hRq, hFq⟩ := hrel
            by_cases hlq : q < mm
            · obtain ⟨g, gc, u, bb, e, y0, y1, hu⟩ := hRq.get hlq
              cases e
              obtain ⟨ua, un, uc, rfl⟩ := hu.sl
              have hqb : (q : Int) + 1 ≤ 9223372036854775807 := by omega
              have hNb : Below wr.heap.size wr (wr.alloc (.cells #[.slice ua un uc, .bool bb] 35)) := (Below.refl _ _).alloc (Nat.le_refl _) _
              have hu2 := hu.keep (Kp.below (B := W0.heap.size) hNb)
              go_wp2_with fail
              refine (spoil_walk _ W0.heap.size _ hu2).mono ?_
              rintro e w9 ⟨⟨v9, rfl⟩, hS⟩
              have hD9 := (hD.trans (hNb.mono hD.size)).trans hS.1
              have hR9 := (hRq.keep hNb).sp hS
              have hF9 := (hFq.below hNb).sp hS
              go_wp2_with fail
              go_roundw
              case rel => exact ⟨q + 1, hlq, by simp, hD9, hR9, hF9⟩
              case measure => simp [intOf]; omega
            · obtain rfl : q = mm := by omega
              go_wp2_with fail
              go_loopw [92] (fun i wr => ∃ p : Nat, p ≤ m2 ∧ i = .int .i64 p ∧ Below W0.heap.size W0 wr ∧ Fns wr W0.heap.size (.slice ya m2 yc) m2 ys2) (fun i _ => m2 - (intOf i).toNat)
              case atStart => exact ⟨0, Nat.zero_le _, rfl, hD, hFq⟩
              case round =>
                clear hD hRq hFq
                obtain ⟨p, hp, rfl, hD, hFp⟩ := hrel
                by_cases hlp : p < m2
                · obtain ⟨g, gc, u, e, y0, hu⟩ := hFp.get hlp
                  cases e
                  obtain ⟨ua, un, uc, rfl⟩ := hu.sl
                  have hpb : (p : Int) + 1 ≤ 9223372036854775807 := by omega
                  go_wp2_with fail
                  refine (spoil_walk _ W0.heap.size _ hu).mono ?_
                  rintro e w9 ⟨⟨v9, rfl⟩, hS⟩
                  have hD9 := hD.trans hS.1
                  have hF9 := hFp.sp hS
                  go_wp2_with fail
                  go_roundw
                  case rel => exact ⟨p + 1, hlp, by simp, hD9, hF9⟩
                  case measure => simp [intOf]; omega
                · obtain rfl : p = m2 := by omega
                  have hBw := hB.trans (hD.mono hWs)
                  go_wp2_with fail
                  refine (K6 _).mono ?_
                  rintro e v10 ⟨rfl, c10⟩
                  have d10 := hD.trans (c10.mono hD.size)
                  have hB10 := hB.trans (d10.mono hWs)
                  go_wp2_with fail
                  refine (KSL v10 _ xs hB10 (hA.below d10)).mono ?_
                  rintro e v11 ⟨rfl, c11⟩
                  have d11 := d10.trans (c11.mono d10.size)
                  have hB11 := hB.trans (d11.mono hWs)
                  go_wp2_with fail
                  refine (KSR v11 _ ys hB11 (hX.below d11)).mono ?_
                  rintro e v12 ⟨rfl, c12⟩
                  go_wp2_with fail
                  go_ret
                  exact ⟨rfl, hB11.trans (c12.mono hB11.size)⟩
end Go.Proofs.Ytnnnfncebpkaoaa.Fo
