/- A statement whose order is open, without looking at its orders: each operation is shown once, out of what it waits for. No program is named here. -/
import Derived.WalkKit
import Derived.ProofKit
import Derived.Orders
namespace Go.Proofs.Ytgokbjnpjjdboaa.Reg2
open Go.RowKit

/-- Does operation i wait for operation j by an edge of its own? -/
def waits (ops : Array Oper) (i j : Nat) : Bool :=
  match ops[i]? with
  | some o => o.after.toList.any fun e => Region.binds .any e && e.on == j
  | none => false
theorem waits_of {ops : Array Oper} {i j : Nat} {o : Oper} (ho : ops[i]? = some o) (h : waits ops i j = true) : ∃ e ∈ o.after, Region.binds .any e = true ∧ e.on = j := by
  simp only [waits, ho] at h
  rw [List.any_eq_true] at h
  obtain ⟨e, he, h⟩ := h
  simp only [Bool.and_eq_true, beq_iff_eq] at h
  exact ⟨e, by simpa using he, h⟩
/-- Does i wait for j, over others too? -/
def reach (ops : Array Oper) : Nat → Nat → Nat → Bool
  | 0, i, j => waits ops i j
  | n + 1, i, j => waits ops i j || (List.range ops.size).any fun k => waits ops i k && reach ops n k j
def waitsT (ops : Array Oper) (i j : Nat) : Bool := reach ops 3 i j
/-- It waits for j, and nobody spoils ahead of it what j has left. -/
def sees (ops : Array Oper) (sp : List (Nat × Nat)) (i j : Nat) : Bool :=
  waits ops i j && sp.all fun x => !Nat.beq x.2 j || Nat.beq x.1 i || waits ops x.1 i
/-- What is asked of the text of the statement: each operation has a place of its own; it waits for earlier ones alone. -/
def okOps (ops : Array Oper) (n : Nat) : Bool :=
  (ops.toList.zipIdx.all fun (o, i) => (match o.dst with | some d => decide (d < n) | none => false) && o.after.all fun e => !Region.binds .any e || decide (e.on < i)) &&
  ((ops.toList.filterMap (·.dst)).Nodup : Bool)
def free (ops : Array Oper) : Operand → Bool
  | .tmp t => ops.toList.all fun o => match o.dst with | some d => !Nat.beq d t | none => true
  | _ => true
/-- What else stood in the temporaries stands there still. -/
structure Agree (ops : Array Oper) (a a' : Act) : Prop where
  size : a'.tmps.size = a.tmps.size
  defers : a'.defers = a.defers
  tmps : ∀ t, (∀ o ∈ ops, o.dst ≠ some t) → a'.tmps[t]? = a.tmps[t]?
theorem Agree.eval {ops : Array Oper} {a a' : Act} (h : Agree ops a a') (x : Operand) (hx : free ops x = true) : a'.eval x = a.eval x := by
  cases x with
  | tmp t =>
    have := h.tmps t (fun o ho => by
      have h1 := (List.all_eq_true.1 hx) o (by simpa using ho)
      intro hd
      simp [hd] at h1)
    simp [Act.eval, this]
  | _ => rfl

section
variable {P : Program} {ops : Array Oper} {Q : Exit → Act → World → Prop} {a : Act} {w : World}
  (R : Nat → Value → World → Prop) (G : Nat → World → World → Prop) (S : World → Prop) (sp : List (Nat × Nat))

/-- What operation i has to do, whenever it comes up (and its guard, if it has one, wants it). -/
def Step0 (P : Program) (ops : Array Oper) (Q : Exit → Act → World → Prop) (a : Act) (i : Nat) (o : Oper) : Prop :=
  ∀ (a' : Act) (w' : World) (K : Act → World → Prop), Agree ops a a' → S w' →
    (∀ j, sees ops sp i j = true → ∀ d, (ops[j]?).bind (·.dst) = some d → R j (a'.eval (.tmp d)) w') →
    (∀ v w'', R i v w'' → G i w' w'' → S w'' → K (a'.put o.dst v) w'') → o.wp P a' w' K Q
def Step (P : Program) (ops : Array Oper) (Q : Exit → Act → World → Prop) (a : Act) (i : Nat) (o : Oper) : Prop :=
  ∀ (a' : Act) (w' : World) (K : Act → World → Prop), Agree ops a a' → S w' →
    (∀ j, sees ops sp i j = true → ∀ d, (ops[j]?).bind (·.dst) = some d → R j (a'.eval (.tmp d)) w') →
    (∀ v w'', R i v w'' → G i w' w'' → S w'' → K (a'.put o.dst v) w'') → if Region.wanted o (yielded ops a'.tmps) = true then o.wp P a' w' K Q else K (a'.put o.dst undef) w'
def Steps (P : Program) (ops : Array Oper) (Q : Exit → Act → World → Prop) (a : Act) : Nat → List Oper → Prop
  | _, [] => True
  | i, o :: rest => Step R G S sp P ops Q a i o ∧ Steps P ops Q a (i + 1) rest
/-- Behind it: each has left something. -/
def puts : Act → List Oper → Nat → (Nat → Value) → Act
  | a, [], _, _ => a
  | a, o :: rest, i, vs => puts (a.put o.dst (vs i)) rest (i + 1) vs

theorem Steps.get {i : Nat} : ∀ {l : List Oper} {k : Nat}, Steps R G S sp P ops Q a k l → ∀ o, l[i]? = some o → Step R G S sp P ops Q a (k + i) o := by
  induction i with
  | zero =>
    intro l k h o ho
    cases l with
    | nil => simp at ho
    | cons x r => simp at ho; subst ho; exact h.1
  | succ i ih =>
    intro l k h o ho
    cases l with
    | nil => simp at ho
    | cons x r =>
      have := ih h.2 o (by simpa using ho)
      rwa [Nat.add_assoc, Nat.add_comm 1 i] at this

structure Inv (ops : Array Oper) (a : Act) (listed : Array Bool) (a' : Act) (w' : World) : Prop where
  ag : Agree ops a a'
  s : S w'
  size : listed.size = ops.size
  has : ∀ j d, listed.getD j false = true → (∀ k, (k, j) ∈ sp → listed.getD k false = false) → (ops[j]?).bind (·.dst) = some d → R j (a'.eval (.tmp d)) w'
  down : ∀ j o, listed.getD j false = true → ops[j]? = some o → ∀ e ∈ o.after, Region.binds .any e = true → listed.getD e.on false = true

theorem reach_down {ops : Array Oper} {listed : Array Bool} (down : ∀ j o, listed.getD j false = true → ops[j]? = some o → ∀ e ∈ o.after, Region.binds .any e = true → listed.getD e.on false = true) :
    ∀ (n i j : Nat), reach ops n i j = true → listed.getD i false = true → listed.getD j false = true := by
  have one : ∀ i j, waits ops i j = true → listed.getD i false = true → listed.getD j false = true := by
    intro i j h hl
    cases ho : ops[i]? with
    | none => unfold waits at h; rw [ho] at h; cases h
    | some o =>
      obtain ⟨e, he, hb, rfl⟩ := waits_of ho h
      exact down i o hl ho e he hb
  intro n
  induction n with
  | zero => exact one
  | succ n ih =>
    intro i j h hl
    simp only [reach, Bool.or_eq_true, List.any_eq_true, Bool.and_eq_true] at h
    rcases h with h | ⟨k, _, h1, h2⟩
    · exact one i j h hl
    · exact ih k j h2 (one i k h1 hl)
theorem okOps_at {n : Nat} (h : okOps ops n = true) {i : Nat} {o : Oper} (hi : ops[i]? = some o) :
    (∃ d, o.dst = some d ∧ d < n) ∧ ∀ e ∈ o.after, Region.binds .any e = true → e.on < i := by
  simp only [okOps, Bool.and_eq_true, List.all_eq_true] at h
  have hm : (o, i) ∈ ops.toList.zipIdx := by
    rw [List.mem_zipIdx_iff_getElem?]; simpa using hi
  have h1 := h.1 _ hm
  simp only [Array.all_eq_true_iff_forall_mem] at h1
  refine ⟨?_, fun e he hb => ?_⟩
  · have := h1.1
    cases hd : o.dst with
    | none => simp [hd] at this
    | some d => simp [hd] at this; exact ⟨d, rfl, this⟩
  · have := h1.2 e he
    simpa [hb] using this
theorem okOps_ne {n : Nat} (h : okOps ops n = true) {i j : Nat} {oi oj : Oper} (hi : ops[i]? = some oi) (hj : ops[j]? = some oj) (hne : i ≠ j) : oi.dst ≠ oj.dst := by
  obtain ⟨⟨d, hd, _⟩, _⟩ := okOps_at h hi
  simp only [okOps, Bool.and_eq_true, decide_eq_true_eq] at h
  intro he
  have hj' : oj.dst = some d := by rw [← he, hd]
  have key : ∀ (l : List Oper), (l.filterMap (·.dst)).Nodup → ∀ (i j : Nat) (x y : Oper), i < j → l[i]? = some x → l[j]? = some y → x.dst = some d → y.dst = some d → False := by
    intro l
    induction l with
    | nil => intro _ i j x y _ h1; simp at h1
    | cons z r ih =>
      intro hn i j x y hlt h1 h2 h3 h4
      cases j with
      | zero => omega
      | succ j =>
        have hy : y ∈ r := List.mem_of_getElem? (by simpa using h2)
        cases i with
        | zero =>
          simp at h1; subst h1
          simp only [List.filterMap_cons, h3, List.nodup_cons] at hn
          exact hn.1 (List.mem_filterMap.2 ⟨y, hy, h4⟩)
        | succ i =>
          refine ih ?_ i j x y (by omega) (by simpa using h1) (by simpa using h2) h3 h4
          cases hz : z.dst with
          | none => simpa [List.filterMap_cons, hz] using hn
          | some d' => simp only [List.filterMap_cons, hz, List.nodup_cons] at hn; exact hn.2
  rcases Nat.lt_or_ge i j with h' | h'
  · exact key ops.toList h.2 i j oi oj h' (by simpa using hi) (by simpa using hj) hd hj'
  · exact key ops.toList h.2 j i oj oi (by omega) (by simpa using hj) (by simpa using hi) hj' hd

theorem getD_set {l : Array Bool} {i j : Nat} (h : (l.setIfInBounds i true).getD j false = true) : j = i ∨ l.getD j false = true := by
  by_cases e : j = i
  · exact .inl e
  · right
    have : (l.setIfInBounds i true)[j]? = l[j]? := Array.getElem?_setIfInBounds_ne (Ne.symm e)
    simpa [Array.getD_eq_getD_getElem?, this] using h

theorem all_listed {n : Nat} (hok : okOps ops n = true) {listed : Array Bool} (hs : listed.size = ops.size) (hr : Region.ready .any ops listed = []) :
    ∀ j, j < ops.size → listed.getD j false = true := by
  intro j
  induction j using Nat.strongRecOn with
  | ind j ih =>
    intro hj
    by_cases hl : listed.getD j false = true
    · exact hl
    · exfalso
      have ho : ops[j]? = some ops[j] := by simp [hj]
      have : j ∈ Region.ready .any ops listed := by
        rw [mem_ready]
        refine ⟨?_, _, ho, fun e he hb => ih e.on ((okOps_at hok ho).2 e he hb) (by have := (okOps_at hok ho).2 e he hb; omega)⟩
        have hjl : j < listed.size := by omega
        simp [hjl] at hl ⊢
        exact hl
      rw [hr] at this; cases this

theorem wants_or {c B C D : Prop} [Decidable c] (h : if c then B else C) : if c then B ∨ D else C := by
  by_cases hc : c
  · rw [if_pos hc] at h ⊢; exact .inl h
  · rw [if_neg hc] at h ⊢; exact h
theorem wp_region_stable {rid : Nat} (hm : P.follows .mixedOrders = true) (hok : okOps ops a.tmps.size = true)
    (hst : ∀ i j v w w', i ≠ j → waitsT ops i j = false → (j, i) ∉ sp → R i v w → G j w w' → R i v w')
    (hS : S w.drew)
    (hsteps : Steps R G S sp P ops Q a 0 ops.toList)
    (fin : ∀ (vs : Nat → Value) w', (∀ i, i < ops.size → (sp.all fun x => x.2 != i) = true → R i (vs i) w') → S w' → Q .normal (puts a ops.toList 0 vs) w') :
    (Code.region rid ops true).wp P Q a w := by
  refine wp_region_any hm ?_
  have main : ∀ (fuel : Nat) (listed : Array Bool) (a' : Act) (w' : World), ops.size ≤ fuel + (listed.toList.filter id).length → Inv R S sp ops a listed a' w' → wpAny P .any ops Q fuel listed a' w' := by
    have done : ∀ (listed : Array Bool) (a' : Act) (w' : World), Inv R S sp ops a listed a' w' → Region.ready .any ops listed = [] → Q .normal a' w' := by
      intro listed a' w' hi hr
      have hall := all_listed hok hi.size hr
      have hvs := fin (fun i => match ops[i]? with | some o => (match o.dst with | some d => a'.tmps.getD d undef | none => undef) | none => undef) w' (fun i hlt hns => by
        have ho : ops[i]? = some ops[i] := by simp [hlt]
        obtain ⟨⟨d, hd, _⟩, _⟩ := okOps_at hok ho
        have := hi.has i d (hall i hlt) (fun k hk => by have := List.all_eq_true.1 hns _ hk; simp at this) (by simp [ho, hd])
        simp only [ho, hd]
        exact this) hi.s
      have e : puts a ops.toList 0 (fun i => match ops[i]? with | some o => (match o.dst with | some d => a'.tmps.getD d undef | none => undef) | none => undef) = a' := by
        have gen : ∀ (l : List Oper) (k : Nat) (b : Act) (vs : Nat → Value), (∀ i, l[i]? = ops[k + i]?) → b.tmps.size = a.tmps.size → b.defers = a.defers → (∀ i o d, ops[i]? = some o → o.dst = some d → vs i = a'.tmps.getD d undef) →
            (∀ t, (∀ o ∈ l, o.dst ≠ some t) → b.tmps[t]? = a'.tmps[t]?) → puts b l k vs = a' := by
          intro l
          induction l with
          | nil =>
            intro k b vs _ hs hd _ ht
            obtain ⟨bt, bd⟩ := b
            obtain ⟨at', ad⟩ := a'
            simp only [puts, Act.mk.injEq]
            refine ⟨?_, by have := hi.ag.defers; simp at this hd; rw [hd, this]⟩
            apply Array.ext_getElem?
            intro t
            exact ht t (by simp)
          | cons o r ih =>
            intro k b vs hl hs hd hv ht
            have ho : ops[k]? = some o := by have := hl 0; simpa using this.symm
            obtain ⟨⟨d, hod, hdn⟩, _⟩ := okOps_at hok ho
            refine ih (k + 1) _ vs (fun i => by have := hl (i + 1); simpa [Nat.add_assoc, Nat.add_comm 1 i] using this) (by simp [Act.put, hod, hs]) (by simp [Act.put, hod, hd]) hv ?_
            intro t hnt
            by_cases e : t = d
            · subst e
              have h1 := hv k o t ho hod
              have hlt : t < b.tmps.size := by rw [hs]; exact hdn
              have hlt' : t < a'.tmps.size := by rw [hi.ag.size]; exact hdn
              simp [Act.put, hod, h1, hlt, hlt']
            · have h2 := ht t (by
                intro x hx
                rcases List.mem_cons.1 hx with rfl | hx
                · rw [hod]; simp; exact fun h => e h.symm
                · exact hnt x hx)
              simp only [Act.put, hod]
              rw [Array.getElem?_setIfInBounds_ne (Ne.symm e)]
              exact h2
        refine gen ops.toList 0 a _ (by simp) rfl rfl ?_ ?_
        · intro i o d ho hd; simp only [ho, hd]
        · intro t ht
          exact (hi.ag.tmps t (fun o ho => ht o (by simpa using ho))).symm
      rw [e] at hvs
      exact hvs
    intro fuel
    induction fuel with
    | zero =>
      intro listed a' w' hf hi
      have hall : ∀ j, j < ops.size → listed.getD j false = true := by
        intro j hj
        have h1 : (listed.toList.filter id).length = listed.toList.length := by
          have := List.length_filter_le id listed.toList
          have := hi.size
          simp at *; omega
        have h2 := List.length_filter_eq_length_iff.1 h1
        have hjl : j < listed.size := by have := hi.size; omega
        have := h2 listed[j] (by simp)
        simp [hjl]; simpa using this
      have hr : Region.ready .any ops listed = [] := by
        cases hq : Region.ready .any ops listed with
        | nil => rfl
        | cons x xs =>
          have hx : x ∈ Region.ready .any ops listed := by rw [hq]; simp
          obtain ⟨h0, o, ho, _⟩ := mem_ready.1 hx
          have hlt : x < ops.size := (Array.getElem?_eq_some_iff.1 ho).1
          have h1 := hall x hlt
          have hxl : x < listed.size := by have := hi.size; omega
          simp [hxl] at h0 h1
          rw [h0] at h1; cases h1
      exact ⟨hr, done _ _ _ hi hr⟩
    | succ fuel ih =>
      intro listed a' w' hf hi
      refine ⟨fun hr => done _ _ _ hi hr, fun i hri => ?_⟩
      obtain ⟨h0, o, ho, hall⟩ := mem_ready.1 hri
      obtain ⟨⟨d, hd, hdn⟩, hlt⟩ := okOps_at hok ho
      have hil : i < listed.size := by have := hi.size; have := (Array.getElem?_eq_some_iff.1 ho).1; omega
      unfold wpOp
      simp only [ho]
      have st := Steps.get R G S sp hsteps (i := i) o (by simpa using ho)
      rw [Nat.zero_add] at st
      refine wants_or ?_
      refine st a' w' _ hi.ag hi.s ?_ ?_
      · intro j hw d' hd'
        simp only [sees, Bool.and_eq_true] at hw
        obtain ⟨hw, hsp⟩ := hw
        refine hi.has j d' ?_ (fun k hk => ?_) hd'
        · obtain ⟨e, he, hb, rfl⟩ := waits_of ho hw
          exact hall e he hb
        · have hif : listed.getD i false = false := by
            have : listed[i] = false := by simpa [hil] using h0
            simpa [hil] using this
          have h1 := List.all_eq_true.1 hsp _ hk
          by_cases e : k = i
          · subst e; exact hif
          · have hwk : waits ops k i = true := by simpa [e] using h1
            cases hok2 : ops[k]? with
            | none => unfold waits at hwk; rw [hok2] at hwk; cases hwk
            | some o2 =>
              obtain ⟨e2, he2, hb2, h2⟩ := waits_of hok2 hwk
              cases hq : listed.getD k false with
              | false => rfl
              | true =>
                have := hi.down k o2 hq hok2 e2 he2 hb2
                rw [h2, hif] at this; cases this
      · intro v w'' hR' hG hS'
        refine ih _ _ _ ?_ ?_
        · have : ((listed.setIfInBounds i true).toList.filter id).length = (listed.toList.filter id).length + 1 := by
            have hlf : listed[i] = false := by simpa [hil] using h0
            rw [Array.toList_setIfInBounds, ← List.countP_eq_length_filter, ← List.countP_eq_length_filter, List.countP_set (by simpa using hil)]
            simp [hlf]
          omega
        · refine ⟨⟨by simp [Act.put, hd, hi.ag.size], by simp [Act.put, hd, hi.ag.defers], fun t ht => ?_⟩, hS', by simp [hi.size], fun j d' hj hns hd' => ?_, ?_⟩
          · have hne : d ≠ t := fun e => ht o (Array.mem_of_getElem? ho) (by rw [hd, e])
            simp only [Act.put, hd]
            rw [Array.getElem?_setIfInBounds_ne hne]
            exact hi.ag.tmps t ht
          · by_cases e : j = i
            · subst e
              have : d' = d := by simpa [ho, hd] using hd'.symm
              subst this
              have hlt' : d' < a'.tmps.size := by rw [hi.ag.size]; exact hdn
              have ev : (a'.put o.dst v).eval (.tmp d') = v := by simp [Act.put, hd, Act.eval, hlt']
              rw [ev]; exact hR'
            · have hj' := (getD_set hj).resolve_left e
              cases hoj : ops[j]? with
              | none => simp [hoj] at hd'
              | some oj =>
                have hdj : oj.dst = some d' := by simpa [hoj] using hd'
                have hne : d ≠ d' := fun h => okOps_ne hok hoj ho e (by rw [hdj, hd, h])
                have ev : (a'.put o.dst v).eval (.tmp d') = a'.eval (.tmp d') := Act.eval_put fun d2 h2 h3 => by
                  rw [hd] at h2; cases h2; cases h3; exact hne rfl
                rw [ev]
                have hset : (listed.setIfInBounds i true).getD i false = true := by simp [hil]
                have hns1 : (i, j) ∉ sp := fun hm => by have := hns i hm; rw [hset] at this; cases this
                have hns2 : ∀ k, (k, j) ∈ sp → listed.getD k false = false := fun k hk => by
                  have h5 := hns k hk
                  by_cases e2 : k = i
                  · subst e2; exact absurd hk hns1
                  · have h6 : (listed.setIfInBounds i true)[k]? = listed[k]? := Array.getElem?_setIfInBounds_ne (Ne.symm e2)
                    simpa [Array.getD_eq_getD_getElem?, h6] using h5
                refine hst j i _ w' w'' e ?_ hns1 (hi.has j d' hj' hns2 hd') hG
                cases hwt : waitsT ops j i with
                | false => rfl
                | true =>
                  exfalso
                  have h3 := reach_down hi.down 3 j i hwt hj'
                  have h4 : listed[i] = true := by simpa [hil] using h3
                  have h5 : listed[i] = false := by simpa [hil] using h0
                  rw [h4] at h5; cases h5
          · intro j oj hj hoj e he hb
            have up : ∀ k, listed.getD k false = true → (listed.setIfInBounds i true).getD k false = true := fun k hk => by
              by_cases e : k = i
              · subst e; simp [hil]
              · have : (listed.setIfInBounds i true)[k]? = listed[k]? := Array.getElem?_setIfInBounds_ne (Ne.symm e)
                simpa [Array.getD_eq_getD_getElem?, this] using hk
            rcases getD_set hj with rfl | hj'
            · rw [ho] at hoj; cases hoj
              exact up _ (hall e he hb)
            · exact up _ (hi.down j oj hj' hoj e he hb)
  refine main _ _ _ _ (by simp) ⟨⟨rfl, rfl, fun _ _ => rfl⟩, hS, by simp, fun j d hj _ hd => ?_, fun j o hj => ?_⟩
  all_goals
    exfalso
    by_cases hlt : j < ops.size <;> simp [hlt] at hj
end
section
variable {P : Program} {ops : Array Oper} {Q : Exit → Act → World → Prop} {a : Act} {R : Nat → Value → World → Prop} {G : Nat → World → World → Prop} {S : World → Prop} {sp : List (Nat × Nat)}
/-- An operation that yields a value and does nothing else. -/
theorem Step0.pure {i : Nat} {o : Oper} (hG : ∀ w, G i w w)
    (h : ∀ (a' : Act) (w' : World), Agree ops a a' → S w' → (∀ j, sees ops sp i j = true → ∀ d, (ops[j]?).bind (·.dst) = some d → R j (a'.eval (.tmp d)) w') →
      ∃ v, (execOp a'.eval o).run P w' = .ok (.value v) w' ∧ R i v w') : Step0 R G S sp P ops Q a i o := by
  intro a' w' K hag hS hw hK
  obtain ⟨v, h1, h2⟩ := h a' w' hag hS hw
  unfold Oper.wp
  rw [h1]
  exact hK v w' h2 (hG w') hS
theorem ev {a' : Act} {d : Tmp} {v : Value} (h : a'.eval (.tmp d) = v) : a'.tmps[d]?.getD undef = v := by simpa [Act.eval] using h
theorem Steps.nil {i : Nat} : Steps R G S sp P ops Q a i [] := trivial
theorem Steps.cons {i : Nat} {o : Oper} {l : List Oper} (h : Step R G S sp P ops Q a i o) (t : Steps R G S sp P ops Q a (i + 1) l) : Steps R G S sp P ops Q a i (o :: l) := ⟨h, t⟩
theorem run_move (ρ : Operand → Value) (d : Option Tmp) (x : Operand) (t : TypeId) (pos : String) (af : Array Edge) (g : Option (Nat × Bool)) (w : World) :
    (execOp ρ ⟨d, .move x, t, pos, af, g⟩).run P w = .ok (.value (ρ x)) w := rfl
theorem run_assign (ρ : Operand → Value) (d : Option Tmp) (x : Operand) (t : TypeId) (pos : String) (af : Array Edge) (g : Option (Nat × Bool)) (w : World) :
    (execOp ρ ⟨d, .assign x, t, pos, af, g⟩).run P w = .ok (.value (ρ x)) w := rfl
/-- A copy of what stood there. -/
theorem Step0.move {i : Nat} {o : Oper} {x : Operand} (ho : o.op = .move x ∨ o.op = .assign x) (hf : free ops x = true) (hG : ∀ w, G i w w) (hR : ∀ w, S w → R i (a.eval x) w) : Step0 R G S sp P ops Q a i o :=
  Step0.pure hG fun a' w' hag hS _ => ⟨a.eval x, by
    obtain ⟨d, op, t, pos, af, g⟩ := o
    rcases ho with ho | ho <;> (simp only at ho; subst ho; first | rw [run_move] | rw [run_assign]) <;> rw [hag.eval x hf], hR w' hS⟩
/-- A copy of what another operation of the statement has left. -/
theorem Step0.copy {i j : Nat} {o : Oper} {d : Tmp} (ho : o.op = .move (.tmp d) ∨ o.op = .assign (.tmp d)) (hw : sees ops sp i j = true) (hd : (ops[j]?).bind (·.dst) = some d) (hG : ∀ w, G i w w) (hR : ∀ v w, S w → R j v w → R i v w) : Step0 R G S sp P ops Q a i o :=
  Step0.pure hG fun a' w' hag hS h => ⟨a'.eval (.tmp d), by
    obtain ⟨d, op, t, pos, af, g⟩ := o
    rcases ho with ho | ho <;> (simp only at ho; subst ho; first | rw [run_move] | rw [run_assign]), hR _ w' hS (h j hw d hd)⟩
theorem Step.un {i : Nat} {o : Oper} (hg : o.guard = none) (h : Step0 R G S sp P ops Q a i o) : Step R G S sp P ops Q a i o := by
  intro a' w' K hag hS hw hK
  rw [if_pos (by simp [Region.wanted, hg])]
  exact h a' w' K hag hS hw hK
theorem yielded_of {a' : Act} {j : Nat} {d : Tmp} {b : Bool} (hd : (ops[j]?).bind (·.dst) = some d) (hv : a'.eval (.tmp d) = .bool b) : yielded ops a'.tmps j = some b := by
  unfold yielded
  rw [hd]
  have h := ev hv
  simp only [Option.bind_some]
  cases hq : a'.tmps[d]? with
  | none => rw [hq] at h; cases h
  | some x => rw [hq] at h; simp at h; subst h; rfl
theorem Step.on {i j : Nat} {o : Oper} {d : Tmp} {want : Bool} (hg : o.guard = some (j, want)) (hw : sees ops sp i j = true) (hd : (ops[j]?).bind (·.dst) = some d) (hv : ∀ v w, S w → R j v w → v = .bool want) (h : Step0 R G S sp P ops Q a i o) : Step R G S sp P ops Q a i o := by
  intro a' w' K hag hS hwt hK
  rw [if_pos (by simp [Region.wanted, hg, yielded_of hd (hv _ _ hS (hwt j hw d hd))])]
  exact h a' w' K hag hS hwt hK
theorem Step.off {i j : Nat} {o : Oper} {d : Tmp} {want : Bool} (hg : o.guard = some (j, want)) (hw : sees ops sp i j = true) (hd : (ops[j]?).bind (·.dst) = some d) (hG : ∀ w, G i w w) (hv : ∀ v w, S w → R j v w → v = .bool (!want)) (hR : ∀ w, S w → R i undef w) : Step R G S sp P ops Q a i o := by
  intro a' w' K hag hS hwt hK
  rw [if_neg (by simp [Region.wanted, hg, yielded_of hd (hv _ _ hS (hwt j hw d hd))])]
  exact hK undef w' (hR w' hS) (hG w') hS
theorem run_op_slice {a' : Act} {d : Option Tmp} {t ty : TypeId} {pos : String} {af : Array Edge} {g : Option (Nat × Bool)} {x l h : Tmp} {A : Option Addr} {n c : Nat} {kl kh : IntKind} {Lz Hz : Int} (w : World) (e : TypeId) (s L H : Nat)
    (ht : P.underlying t = some (.slice e)) (hs : ∀ w, (sizeOf e).run P w = .ok s w) (ex : a'.tmps[x]?.getD undef = .slice A n c) (el : a'.tmps[l]?.getD undef = .int kl Lz) (eh : a'.tmps[h]?.getD undef = .int kh Hz)
    (hL : Lz = (L : Int)) (hH : Hz = (H : Int)) (h1 : L ≤ H) (h2 : H ≤ c) :
    (execOp a'.eval ⟨d, .slice t (.tmp x) (some (.tmp l)) (some (.tmp h)) none, ty, pos, af, g⟩).run P w = .ok (.value (.slice (if c = L then A else A.map (·.add (L * s))) (H - L) (c - L))) w := by
  subst hL hH
  have he : P.elem t = e := by simp [Program.elem, ht]
  have hr := run_slice_lh (w := w) t A n c (by rw [he]; exact ht) kl kh (L : Int) (H : Int) (by omega) (by omega) (by omega)
  rw [he, hs] at hr
  simp [Result.andThen, sliced] at hr
  simp [execOp, Act.eval, ex, el, eh, run_sliceAt_slice (h := show P.underlying t = some (.slice (P.elem t)) by rw [he]; exact ht), hr, Result.andThen]
theorem run_op_slice1 {a' : Act} {d : Option Tmp} {t ty : TypeId} {pos : String} {af : Array Edge} {g : Option (Nat × Bool)} {x l h : Tmp} {A : Option Addr} {n c : Nat} {kl kh : IntKind} {Lz Hz : Int} (w : World) (e : TypeId) (L H : Nat)
    (ht : P.underlying t = some (.slice e)) (hs : ∀ w, (sizeOf e).run P w = .ok 1 w) (ex : a'.tmps[x]?.getD undef = .slice A n c) (el : a'.tmps[l]?.getD undef = .int kl Lz) (eh : a'.tmps[h]?.getD undef = .int kh Hz)
    (hL : Lz = (L : Int)) (hH : Hz = (H : Int)) (h1 : L ≤ H) (h2 : H ≤ c) :
    (execOp a'.eval ⟨d, .slice t (.tmp x) (some (.tmp l)) (some (.tmp h)) none, ty, pos, af, g⟩).run P w = .ok (.value (.slice (if c = L then A else A.map (·.add L)) (H - L) (c - L))) w := by
  simpa using run_op_slice w e 1 L H ht hs ex el eh hL hH h1 h2
/-- A call of a Go function. -/
theorem wpOp_call {o : Oper} {w : World} {f : Nat} {args : Array Value} {K : Act → World → Prop} {R' : Ending → World → Prop} (he : (execOp a.eval o).run P w = .ok (.enter f args) w) (hc : Calls P f args w R') (h : ∀ e w', R' e w' → ∃ v, e = .returned v ∧ K (a.put o.dst v) w') : o.wp P a w K Q := by
  unfold Oper.wp
  rw [he]
  show Calls P f args w _
  refine hc.mono fun e w' h' => ?_
  obtain ⟨v, rfl, h2⟩ := h e w' h'
  exact h2
end
/-- Operation k may write from block B on; the others only make memory. -/
def growG (k B j : Nat) (w w' : World) : Prop := if j = k then Below B w w' else Below w.heap.size w w'
theorem growG.refl (k B j : Nat) (w : World) : growG k B j w w := by unfold growG; split <;> exact Below.refl _ _
theorem growG.at_ {k B : Nat} {w w' : World} (h : Below B w w') : growG k B k w w' := by unfold growG; rw [if_pos rfl]; exact h
theorem growG.of {k B j : Nat} {w w' : World} (hne : j ≠ k) (h : Below w.heap.size w w') : growG k B j w w' := by unfold growG; rw [if_neg hne]; exact h
theorem growG.out {k B j : Nat} {w w' : World} (h : growG k B j w w') (hne : j = k → False) : Below w.heap.size w w' := by unfold growG at h; rw [if_neg hne] at h; exact h
/-- The same, what each leaves told out of the temporaries ahead. -/
theorem wp_region_st {P : Program} {ops : Array Oper} {Q : Exit → Act → World → Prop} {a : Act} {w : World} (R : Act → Nat → Value → World → Prop) (G : Nat → World → World → Prop) (S : World → Prop) (sp : List (Nat × Nat)) {rid : Nat} (hm : P.follows .mixedOrders = true) (hok : okOps ops a.tmps.size = true)
    (hst : ∀ i j v w w', i ≠ j → waitsT ops i j = false → (j, i) ∉ sp → R a i v w → G j w w' → R a i v w')
    (hS : S w.drew)
    (hsteps : Steps (R a) G S sp P ops Q a 0 ops.toList)
    (fin : ∀ (vs : Nat → Value) w', (∀ i, i < ops.size → (sp.all fun x => x.2 != i) = true → R a i (vs i) w') → S w' → Q .normal (puts a ops.toList 0 vs) w') :
    (Code.region rid ops true).wp P Q a w := wp_region_stable (R a) G S sp hm hok hst hS hsteps fin
end Go.Proofs.Ytgokbjnpjjdboaa.Reg2
