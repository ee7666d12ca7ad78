/- environ.Answer, walked: what the loops keep. -/
import Derived.Test.YtdphimcpcclifaaAnV
namespace Go.Proofs.Ytdphimcpcclifaa.An
open Go Go.Proofs Go.RowKit Go.Shelf
attribute [local go_sem] Oper.semAt_some
set_option linter.unusedVariables false
/-- The frame of the loop. -/
def ARR (pa : Option Addr) (hl pc : Nat) (data : ByteArray) (la : Option Addr) (L lc k : Nat) (out : Value) (f : Nat → Value) : Array Value := #[.slice pa hl pc, .string data, undef, undef, .string { data := #[] }, .int .i64 0, .slice la L lc, .int .i64 0, out, f 9, f 10, f 11, f 12, f 13, f 14, f 15, f 16, f 17, f 18, f 19, f 20, f 21, f 22, f 23, f 24, f 25, f 26, f 27, f 28, f 29, f 30, f 31, f 32, f 33, f 34, f 35, f 36, .slice la L lc, .int .i64 L, .int .i64 k, f 40, f 41, f 42, f 43, f 44, f 45, f 46, f 47, f 48, f 49, f 50, f 51, f 52, f 53, f 54, f 55, f 56, f 57, f 58, f 59, f 60, f 61, f 62, f 63, f 64, f 65, f 66, f 67, f 68, f 69, f 70, f 71, f 72, f 73, f 74, f 75, f 76, f 77, f 78, f 79, f 80, f 81, f 82, f 83, f 84, f 85, f 86, f 87, f 88, f 89, f 90, f 91, f 92]
def Inv (pa : Option Addr) (pc : Nat) (data : ByteArray) (la : Option Addr) (lc : Nat) (hv lv : List V) (L : Nat) (w1 : World) (a : Act) (W : World) : Prop :=
  ∃ (k : Nat) (ds : List Deferred) (out : Value) (f : Nat → Value), a = { tmps := ARR pa hv.length pc data la L lc k out f, defers := ds } ∧ k ≤ L ∧ W.ownsRow w1.heap.size 25 4 out (outF hv (lv.take k)).length (flat (outF hv (lv.take k))) ∧ (Marks w1.heap.size ds W ∧ ds.Nodup) ∧ Below w1.heap.size w1 W
theorem Inv.in {pa : Option Addr} {pc : Nat} {data : ByteArray} {la : Option Addr} {lc : Nat} {hv lv : List V} {L : Nat} {w1 : World} {tm : Array Value} {ds : List Deferred} {W : World} (k : Nat) (out : Value) (h : tm = ARR pa hv.length pc data la L lc k out (fun i => tm.getD i undef)) (hk : k ≤ L) (h1 : W.ownsRow w1.heap.size 25 4 out (outF hv (lv.take k)).length (flat (outF hv (lv.take k)))) (h2 : Marks w1.heap.size ds W ∧ ds.Nodup) (h3 : Below w1.heap.size w1 W) :
    Inv pa pc data la lc hv lv L w1 { tmps := tm, defers := ds } W := ⟨k, ds, out, _, by rw [← h], hk, h1, h2, h3⟩
/-- The frame of a round of the inner range. -/
def ARB (s vb : Nat) (f : Nat → Value) : Array Value := #[f 0, f 1, f 2, f 3, f 4, f 5, f 6, f 7, f 8, f 9, .pointer (some ⟨s, 0, none⟩), .pointer (some ⟨s + 1, 0, none⟩), f 12, .pointer (some ⟨vb, 0, none⟩), f 14, f 15, f 16, f 17, f 18, f 19, f 20, f 21, f 22, f 23, f 24, f 25, f 26, f 27, f 28, f 29, f 30, f 31, f 32, f 33, f 34, f 35, f 36, f 37, f 38, f 39, f 40, f 41, f 42, f 43, f 44, f 45, f 46, f 47, f 48, f 49, f 50, f 51, f 52, f 53, f 54, f 55, f 56, f 57, f 58, f 59, f 60, f 61, f 62, f 63, f 64, f 65, f 66, f 67, f 68, f 69, f 70, f 71, f 72, f 73, f 74, f 75, f 76, f 77, f 78, f 79, f 80, f 81, f 82, f 83, f 84, f 85, f 86, f 87, f 88, f 89, f 90, f 91, f 92]
def AxB (hv : List V) (s : Nat) (i : Nat) (a : Act) (W : World) : Prop := ∃ (vb : Nat) (f : Nat → Value), a = { tmps := ARB s vb f, defers := [] } ∧ s + 3 ≤ vb ∧ W.heap[vb]? = some (.cells (hv.getD i V0).cs.toArray 25 (0, 0))
theorem AxB.in {hv : List V} {s i : Nat} {tm : Array Value} {W : World} (vb : Nat) (h : tm = ARB s vb (fun i => tm.getD i undef)) (h1 : s + 3 ≤ vb) (h2 : W.heap[vb]? = some (.cells (hv.getD i V0).cs.toArray 25 (0, 0))) : AxB hv s i { tmps := tm, defers := [] } W := ⟨vb, _, by rw [← h], h1, h2⟩
/-- What has been found so far. -/
def fnd (hv : List V) (x : V) (pre : List Nat) : V := pre.foldl (fun f i => if (hv.getD i V0).u = x.u ∧ (hv.getD i V0).n = x.n then hv.getD i V0 else f) x
def IB (hv : List V) (x : V) (s : Nat) (W0 : World) (pre : List Nat) (W : World) : Prop :=
  W.heap[s]? = some (.cells x.cs.toArray 25 (0, 0)) ∧ W.heap[s + 1]? = some (.cells (fnd hv x pre).cs.toArray 25 (0, 0)) ∧ Below s W0 W ∧ s + 3 ≤ W.heap.size
theorem fnd_app (hv : List V) (x : V) (pre : List Nat) (i : Nat) : fnd hv x (pre ++ [i]) = if (hv.getD i V0).u = x.u ∧ (hv.getD i V0).n = x.n then hv.getD i V0 else fnd hv x pre := by
  unfold fnd; rw [List.foldl_append]; rfl
theorem infoV : (Go.Proofs.Try.prog.info? 25).map (fun i => (i.zero, i.size, i.bytes)) = some (some (.agg #[.string ⟨#[]⟩, .string ⟨#[]⟩, .bool false, .bool false]), 4, 40) := by kernel_rfl
theorem info_parts {z : Option Value} {s b : Nat} {o : Option TypeInfo} (h : o.map (fun i => (i.zero, i.size, i.bytes)) = some (z, s, b)) : ∃ i, o = some i ∧ i.zero = z ∧ i.size = s ∧ i.bytes = b := by
  cases o with
  | none => simp at h
  | some i => simp at h; exact ⟨i, rfl, h⟩
/-- What one owns stays where all that was stays. -/
theorem ownsRow_below {W W' : World} {base e size n : Nat} {v : Value} {xs : List Value} (h : W.ownsRow base e size v n xs) (hB : Below W.heap.size W W') : W'.ownsRow base e size v n xs :=
  ⟨h.1, h.2.imp id fun ⟨g, cap, cur, q1, q2, q3, q4⟩ => ⟨g, cap, cur, q1, q2, (hB.block _ (Array.getElem?_eq_some_iff.1 q3).1).trans q3, q4⟩⟩
theorem cells_new (W : World) (x : V) (T : Nat) : ∀ j u, x.cs[j]? = some u → (W.alloc (.cells x.cs.toArray T)).cell? ((⟨W.heap.size, 0, none⟩ : Addr).add j) = some u := by
  intro j u hu
  rw [show ((⟨W.heap.size, 0, none⟩ : Addr).add j) = ⟨W.heap.size, j, none⟩ from by unfold Addr.add; split <;> simp_all]
  rw [cell_of_row _ _ _ _ _ _ (World.alloc_heap_new W (.cells x.cs.toArray T))]
  simpa using hu
theorem one_cs (x : V) : ∀ u ∈ x.cs, u.oneCell' = true := by
  intro u hu; simp [V.cs] at hu; rcases hu with rfl | rfl | rfl | rfl <;> rfl
theorem Marks.keep {B : Nat} {ds : List Deferred} {W W' : World} (h : Marks B ds W) (hk : ∀ D : Nat, W.heap[D]? = some (.deferred (some [])) → W'.heap[D]? = some (.deferred (some []))) : Marks B ds W' := fun d hd => by
  obtain ⟨D, e, hB, hD⟩ := h d hd; exact ⟨D, e, hB, hk D hD⟩
theorem Marks.cons {B D : Nat} {ds : List Deferred} {W : World} (n : Nat) (h : Marks B ds W ∧ ds.Nodup) (hB : B ≤ D) (hD : W.heap[D]? = some (.deferred (some []))) (hn : ∀ d ∈ ds, ∀ D', d = { target := .collected D', args := #[] } → D' < D) : Marks B ({ target := .collected D, args := #[] } :: ds) W ∧ List.Nodup ({ target := .collected D, args := #[] } :: ds : List Deferred) := by
  refine ⟨fun d hd => ?_, List.nodup_cons.2 ⟨fun hm => Nat.lt_irrefl _ (hn _ hm D rfl), h.2⟩⟩
  rcases List.mem_cons.1 hd with rfl | hd
  · exact ⟨D, rfl, hB, hD⟩
  · exact h.1 d hd
/-- What is handed over at the end: nothing. -/
theorem leaves_marks {F : Fence} {n : Nat} {P : Program} {fn : Func} {tmps : Array Value} {R : Ending → World → Prop} {B : Nat} : ∀ (ds : List Deferred) (W : World), Marks B ds W ∧ ds.Nodup → B ≤ W.heap.size →
    (∀ W', Below B W W' → LeavesIn F n P fn tmps R [] .returning W') → LeavesInM F n P fn tmps R ds .returning W
  | [], W, _, _, h => h W (Below.refl _ _)
  | d :: ds, W, ⟨hm, hn⟩, hB, h => by
    obtain ⟨D, rfl, hBD, hD⟩ := hm d (List.mem_cons_self ..)
    have hn' := List.nodup_cons.1 hn
    have hb : Below B W (W.putObj D (.deferred none)) := (Below.refl B W).grown (grownBy_putObj' W D _) hB (fun k e => by cases e; exact hBD)
    refine ⟨by simp, .inl ⟨D, _, rfl, run_takeDeferred hD, leaves_marks ds _ ⟨fun d' hd' => ?_, hn'.2⟩ (Nat.le_trans hB hb.size) (fun W' hW' => h W' (hb.trans hW'))⟩⟩
    obtain ⟨D', rfl, hBD', hD'⟩ := hm d' (List.mem_cons_of_mem _ hd')
    refine ⟨D', rfl, hBD', ?_⟩
    rw [World.putObj_heap_other (fun e => ?_)]; · exact hD'
    subst e; exact hn'.1 hd'
theorem pickF_len (hv : List V) (x : V) : (pickF hv x).length ≤ hv.length + 1 := by
  unfold pickF; split
  · simp
  · have := List.length_filter_le (fun v => v.u == x.u) hv; omega
theorem outF_len (hv : List V) : ∀ l : List V, (outF hv l).length ≤ l.length * (hv.length + 1)
  | [] => by simp [outF]
  | x :: l => by
    have h1 := pickF_len hv x; have h2 := outF_len hv l
    show (pickF hv x ++ outF hv l).length ≤ _
    rw [List.length_append, List.length_cons, Nat.succ_mul]; omega
theorem outF_snoc (hv l : List V) (x : V) : outF hv (l ++ [x]) = outF hv l ++ pickF hv x := by unfold outF; rw [List.flatMap_append]; simp
theorem down_foldl {β : Type} (n : Nat) (g : β → Nat → β) (k : Nat) (b : β) : (down n (k + 1)).foldl g b = g ((down n k).foldl g b) (n - 1 - k) := by
  show (down n k ++ [n - 1 - k]).foldl g b = _; rw [List.foldl_append]; rfl
theorem fnd_down (hv : List V) (x : V) : ∀ k, k ≤ hv.length → fnd hv x (down hv.length k) = foundF (hv.drop (hv.length - k)) x
  | 0, _ => by simp [fnd, down, foundF]
  | k + 1, h => by
    have ih := fnd_down hv x k (by omega)
    have hm : hv.length - (k + 1) < hv.length := by omega
    show fnd hv x (down hv.length k ++ [hv.length - 1 - k]) = _
    rw [fnd_app, ih, List.drop_eq_getElem_cons hm, show hv.length - (k + 1) + 1 = hv.length - k from by omega]
    have hg : hv.getD (hv.length - 1 - k) V0 = hv[hv.length - (k + 1)] := by
      rw [List.getD_eq_getElem?_getD, show hv.length - 1 - k = hv.length - (k + 1) from by omega, List.getElem?_eq_getElem hm]; rfl
    rw [hg]; rfl
theorem fnd_all (hv : List V) (x : V) : fnd hv x (down hv.length hv.length) = foundF hv x := by
  rw [fnd_down hv x _ (Nat.le_refl _), Nat.sub_self, List.drop_zero]
/-- Four cells of a variable are written over. -/
theorem store4 {W : World} {b : Nat} {x : V} (y : V) (h : W.heap[b]? = some (.cells x.cs.toArray 25 (0, 0))) :
    ∃ W4, (((W.setCell ⟨b, 0, none⟩ (.string y.n)).setCell ⟨b, 1, none⟩ (.string y.v)).setCell ⟨b, 2, none⟩ (.bool y.u)).setCell ⟨b, 3, none⟩ (.bool y.s) = W4 ∧
      W4.heap[b]? = some (.cells y.cs.toArray 25 (0, 0)) ∧ (∀ k, k ≠ b → W4.heap[k]? = W.heap[k]?) ∧ (∀ n W0, n ≤ b → Below n W0 W → Below n W0 W4) ∧ W4.heap.size = W.heap.size := by
  refine ⟨_, rfl, ?_, fun k hk => ?_, fun n W0 hn hB => ?_, ?_⟩
  · have r1 := (heap_setCell_same W b 0 _ _ (.string y.n) h)
    have r2 := (heap_setCell_same _ b 1 _ _ (.string y.v) r1)
    have r3 := (heap_setCell_same _ b 2 _ _ (.bool y.u) r2)
    have r4 := (heap_setCell_same _ b 3 _ _ (.bool y.s) r3)
    rw [r4]; rfl
  · rw [Below.heap_setCell _ _ _ _ hk, Below.heap_setCell _ _ _ _ hk, Below.heap_setCell _ _ _ _ hk, Below.heap_setCell _ _ _ _ hk]
  · exact (((hB.setCell hn _).setCell hn _).setCell hn _).setCell hn _
  · simp
theorem flat_get : ∀ (l : List V) (j : Nat) (x : V) (k : Nat) (u : Value), l[j]? = some x → x.cs[k]? = some u → k < 4 → (flat l)[j * 4 + k]? = some u
  | [], j, x, k, u, h, _, _ => by simp at h
  | y :: l, 0, x, k, u, h, hu, hk => by
    have : y = x := by simpa using h
    subst this
    show (y.cs ++ flat l)[0 * 4 + k]? = _
    rw [Nat.zero_mul, Nat.zero_add, List.getElem?_append_left (by simp [V.cs]; omega)]; exact hu
  | y :: l, j + 1, x, k, u, h, hu, hk => by
    show (y.cs ++ flat l)[(j + 1) * 4 + k]? = _
    rw [List.getElem?_append_right (by simp [V.cs]; omega)]
    have := flat_get l j x k u (by simpa using h) hu hk
    rw [show (j + 1) * 4 + k - y.cs.length = j * 4 + k from by simp [V.cs]; omega]
    exact this
/-- An append to a row of one's own, and where it lands. -/
theorem wpListIn_append_own_at {F : Fence} {n : Nat} {P : Program} (w : World) {ops : Array Oper} {rest : List Oper} {o : Oper} {a : Act} {Q : Exit → Act → World → Prop}
    (hg : o.guard = none) (s x : Operand) (t : TypeId) (hop : o.op = Op.call { callee := Callee.builtin Builtin.append, args := #[s, x], argTypes := #[t, t] })
    (base : Nat) (e : TypeId) (i : TypeInfo) (z : Value) (size bytes : Nat) (h1 : P.underlying t = some (.slice e)) (h2 : P.info? e = some i) (h3 : i.zero = some z) (h4 : i.size = size) (h5 : i.bytes = bytes) (h6 : z.cells.size = size) (h7 : 0 < size)
    (v : Value) (k : Nat) (xs : List Value) (hs : a.eval s = v) (hown : w.ownsRow base e size v k xs) (ad : Addr) (m c : Nat) (news : List Value) (hx : a.eval x = .slice (some ad) m c) (hn : news.length = m * size)
    (hc : ∀ j u, news[j]? = some u → w.cell? (ad.add j) = some u) (h1c : ∀ u ∈ news, u.oneCell' = true) (b1 : k + m ≤ maxLen) (b2 : (k + m) * bytes ≤ 140737488355328) (b3 : base ≤ w.heap.size)
    (hK : ∀ v' w', w'.ownsRow base e size v' (k + m) (xs ++ news) → w.grownBy w' v.ownBlock → (v'.ownBlock = v.ownBlock ∨ v'.ownBlock = some w.heap.size) → wpListIn F n P ops Q rest (a.put o.dst v') w') :
    wpListIn F n P ops Q (o :: rest) a w := by
  refine wpListIn_plain hg fun K hK' => ?_
  obtain ⟨v', w', hrun, r1, r2, _, r3⟩ := run_append_own_at (P := P) (w := w) base t o.type e i z size bytes h1 h2 h3 h4 h5 h6 h7 v k xs hown ad m c news hn hc h1c b1 b2 b3
  unfold Oper.wpIn
  refine ⟨?_, ?_⟩
  · simp [Oper.about, hop, resolve, Target.leads, Sem.run_pure]
  · rw [Oper.semAt_plain F _ _ (by rw [hop]; intro c hc'; cases hc')]
    simp [execOp, hop, resolve, invoke, builtin, hs, hx, hrun, Result.andThen]
    exact hK' _ _ (hK v' w' r1 r2 r3)
theorem row_not {W : World} {base e size n D : Nat} {v : Value} {xs : List Value} (h : W.ownsRow base e size v n xs) (hD : W.heap[D]? = some (.deferred (some []))) : some D ≠ v.ownBlock := by
  rcases h.2 with ⟨rfl, _⟩ | ⟨g, cap, cur, rfl, _, hg, _⟩
  · simp [Value.ownBlock]
  · intro q; simp [Value.ownBlock] at q; subst q; rw [hg] at hD; cases hD
/-- The loop over all that is there. -/
def IN (hv : List V) (x : V) (pre : List V) (B : Nat) (w1 : World) (ds : List Deferred) (s m : Nat) (o : Value) (W : World) : Prop :=
  (W.ownsRow B 25 4 o (pre ++ (hv.take m).filter (fun v => v.u == x.u)).length (flat (pre ++ (hv.take m).filter (fun v => v.u == x.u))) ∧ o.ownBlock ≠ some s) ∧ (Marks B ds W ∧ ds.Nodup) ∧ Below B w1 W ∧ W.heap[s]? = some (.cells x.cs.toArray 25 (0, 0)) ∧ B ≤ W.heap.size
theorem IN.alloc {hv : List V} {x : V} {pre : List V} {B : Nat} {w1 : World} {ds : List Deferred} {s m : Nat} {o : Value} {W : World} (h : IN hv x pre B w1 ds s m o W) (ob : Obj) : IN hv x pre B w1 ds s m o (W.alloc ob) := by
  obtain ⟨⟨h1, h2⟩, ⟨h3, h4⟩, h5, h6, h7⟩ := h
  exact ⟨⟨h1.alloc _, h2⟩, ⟨h3.keep fun D hD => (Below.heap_alloc _ _ _ (Array.getElem?_eq_some_iff.1 hD).1).trans hD, h4⟩, h5.alloc h7 _, (Below.heap_alloc _ _ _ (Array.getElem?_eq_some_iff.1 h6).1).trans h6, by rw [World.size_alloc]; omega⟩
theorem take_one {hv : List V} {m : Nat} {y : V} (hy : hv[m]? = some y) : hv.take (m + 1) = hv.take m ++ [y] := by
  rw [List.take_add_one, hy]; rfl
theorem IN.skip {hv : List V} {x y : V} {pre : List V} {B : Nat} {w1 : World} {ds : List Deferred} {s m : Nat} {o : Value} {W : World} (h : IN hv x pre B w1 ds s m o W) (hy : hv[m]? = some y) (hu : (y.u == x.u) = false) : IN hv x pre B w1 ds s (m + 1) o W := by
  unfold IN at h ⊢
  rw [take_one hy, List.filter_append, show [y].filter (fun v => v.u == x.u) = [] from by simp only [List.filter_cons, hu]; rfl, List.append_nil]
  exact h
theorem IN.app {hv : List V} {x y : V} {pre : List V} {B : Nat} {w1 : World} {ds : List Deferred} {s m : Nat} {o v' : Value} {W w6 : World} (h : IN hv x pre B w1 ds s m o W) (hy : hv[m]? = some y) (hu : (y.u == x.u) = true)
    (hown : w6.ownsRow B 25 4 v' ((pre ++ (hv.take m).filter (fun v => v.u == x.u)).length + 1) (flat (pre ++ (hv.take m).filter (fun v => v.u == x.u)) ++ y.cs)) (hg : W.grownBy w6 o.ownBlock) (hat : v'.ownBlock = o.ownBlock ∨ v'.ownBlock = some W.heap.size) : IN hv x pre B w1 ds s (m + 1) v' w6 := by
  obtain ⟨⟨h1, h2⟩, ⟨h3, h4⟩, h5, h6, h7⟩ := h
  have hs := (Array.getElem?_eq_some_iff.1 h6).1
  unfold IN
  rw [take_one hy, List.filter_append, show [y].filter (fun v => v.u == x.u) = [y] from by simp only [List.filter_cons, hu]; rfl, ← List.append_assoc]
  refine ⟨⟨?_, ?_⟩, ⟨h3.keep fun D hD => (hg.block D (Array.getElem?_eq_some_iff.1 hD).1 (row_not h1 hD)).trans hD, h4⟩, h5.grown hg h7 (fun k e => (h1.lt k e).1), (hg.block s hs (fun e => h2 e.symm)).trans h6, Nat.le_trans h7 hg.size⟩
  · rw [List.length_append, flat_app]
    have : flat [y] = y.cs := by simp [flat]
    rw [this]; exact hown
  · rcases hat with e | e
    · rw [e]; exact h2
    · rw [e]; intro q; cases q; omega
theorem vs_of_row {W : World} {base : Nat} {l : List V} {v : Value} (h : W.ownsRow base 25 4 v l.length (flat l)) : ∃ a c, v = .slice a l.length c ∧ Vs W W.heap.size a l ∧ l.length ≤ c ∧ c ≤ maxLen ∧ (a = none → c = 0) := by
  rcases h.2 with ⟨rfl, hl⟩ | ⟨g, cap, cur, rfl, _, hg, h1, h2, h3, h4⟩
  · have : l = [] := List.eq_nil_of_length_eq_zero hl
    subst this
    exact ⟨none, 0, rfl, fun j x hj => by simp at hj, Nat.le_refl _, by unfold maxLen; omega, fun _ => rfl⟩
  · refine ⟨_, cap, rfl, fun j x hj => ⟨g, 0, rfl, (Array.getElem?_eq_some_iff.1 hg).1, fun k u hu => ?_⟩, h1, h2, fun e => by cases e⟩
    have hk : k < 4 := by have := (List.getElem?_eq_some_iff.1 hu).1; simpa [V.cs] using this
    have hf : (flat l)[j * 4 + k]? = some u := flat_get l j x k u hj hu hk
    rw [cell_of_row _ _ _ _ _ _ hg, Nat.zero_add, ← Array.getElem?_toList]
    rw [← h4, List.getElem?_take] at hf
    split at hf
    · exact hf
    · cases hf
end Go.Proofs.Ytdphimcpcclifaa.An
