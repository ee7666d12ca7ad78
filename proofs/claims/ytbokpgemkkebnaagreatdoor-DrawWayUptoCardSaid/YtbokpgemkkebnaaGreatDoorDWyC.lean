/- The small machine's codes of some functions. Printed by dec.py. -/
import Derived.Test.YtbokpgemkkebnaaGreatDoorKrz
import Derived.Test.YtbokpgemkkebnaaGreatDoorLib1
import Derived.Test.YtbokpgemkkebnaaGreatDoorProg
namespace Go.Proofs.YtbokpgemkkebnaaGreatDoor.Pm
set_option maxRecDepth 1000000
set_option maxHeartbeats 20000000
set_option linter.unusedVariables false
abbrev tm (n : Nat) : Operand := .tmp n
abbrev ki (n : Int) : Operand := .const (.int .i64 n)
abbrev po (d : Nat) (o : POp) : PO := ⟨some d, o, none⟩
abbrev pm (d s : Nat) : PO := ⟨some d, .mov (.tmp s), none⟩
abbrev dI (x : Int) : PV := .d (.int .i64 x)
abbrev dB (b : Bool) : PV := .d (.bool b)
abbrev pt (n : Nat) : PV := .r (.ptr n 0 0)
abbrev u0 : Nat → PV := fun _ => .un
abbrev h0 : Nat → Cel := hB fun _ => 0
section
variable {γ : Orc} {Q : PX → St → Prop} {k : List It} {st : St} {p : List PO}
theorem zL {i : Nat} (n j : Nat) (h : ZL γ Q k (p.drop j) (stD (runD γ ((p.drop i).take n) st))) (hj : i + n = j := by rfl) (h1 : (runD γ ((p.drop i).take n) st).isSome = true := by kernel_rfl) : ZL γ Q k (p.drop i) st := zlRun hj h1 h
theorem zE {i : Nat} (h : ZK γ Q k .normal st) (h0 : p.drop i = [] := by kernel_rfl) : ZL γ Q k (p.drop i) st := zlEnd h0 h
theorem zT {c : Operand} {t e : PCode} (h : ZR γ Q t k st) (hc : (ρof st.s c).bool? = some true := by kernel_rfl) : ZR γ Q (.cond c t e) k st := zrCondT hc h
theorem zF {c : Operand} {t e : PCode} (h : ZR γ Q e k st) (hc : (ρof st.s c).bool? = some false := by kernel_rfl) : ZR γ Q (.cond c t e) k st := zrCondF hc h
theorem zO {i : Nat} {v : PV} {ups : Ups} (d : Option Nat) (j : Nat) (op : POp) (h1 : peval γ st.h (d.getD 0) (ρof st.s) op = some (v, ups)) (h : ZL γ Q k (p.drop j) (putO st d v ups)) (hp : (p.drop i).take 1 = [⟨d, op, none⟩] := by kernel_rfl) (hj : i + 1 = j := by rfl) (hg : gok st.s none = true := by rfl) : ZL γ Q k (p.drop i) st := zlOp hj hp hg h1 h
theorem fN {m : Nat} {fc : FCode} {r : PV × List Blk} {s : St} (h : outR s m fc.res = some r) (he : finSt fc.fin st = s := by kernel_rfl) (hx : fxC fc.fin = false := by kernel_rfl) : DoneF fc m r .normal st := fNorm hx ((congrArg (fun s => outR s m fc.res) he).trans h)
theorem fR {m : Nat} {fc : FCode} {r : PV × List Blk} {s : St} (h : outR s m fc.res = some r) (he : finSt fc.fin st = s := by kernel_rfl) (hx : fxC fc.fin = false := by kernel_rfl) : DoneF fc m r .ret st := fRet hx ((congrArg (fun s => outR s m fc.res) he).trans h)
end
abbrev eI : Enc Int := eInt .i64
abbrev dL (x : List Int) : PV := .d (.sl x.length (eI.cells x))
abbrev dE {α : Type} (E : Enc α) (x : List α) : PV := .d (.sl x.length (E.cells x))
abbrev LP := List PO
abbrev pg (d g : Nat) (o : POp) : PO := ⟨some d, o, some (g, true)⟩
abbrev pf (d g : Nat) (o : POp) : PO := ⟨some d, o, some (g, false)⟩
abbrev lf (e a : Nat) : POp := .load false e (.tmp a)
abbrev lt (e a : Nat) : POp := .load true e (.tmp a)
abbrev fd (k a : Nat) : POp := .fld k (.tmp a)
abbrev ck (a : Nat) (n : Int) : POp := .cmpI .eql (.tmp a) (.const (.int .i64 n))
abbrev c1 (f a : Nat) : POp := .call f [.tmp a]
abbrev pS (e a b : Nat) : PO := ⟨none, .store e (.tmp a) (.tmp b), none⟩
abbrev PQ := PX → St → Prop
abbrev FQ (A Q : PQ) : Prop := ∀ e st', A e st' → Q e st'
section
variable {γ : Orc} {Q : PX → St → Prop} {k : List It} {st : St} {p : List PO} {α : Type} {a b r : α} {c : Bool}
theorem sB {i : Nat} (d j : Nat) (op : POp) (hS : (bif c then a else b) = r) (ht : a = r → ZL γ Q k (p.drop j) (putB st d true)) (hf : b = r → ZL γ Q k (p.drop j) (putB st d false)) (hp : (p.drop i).take 1 = [⟨some d, op, none⟩] := by kernel_rfl) (h1 : peval γ st.h d (ρof st.s) op = some (.d (.bool c), []) := by kernel_rfl) (hj : i + 1 = j := by rfl) : ZL γ Q k (p.drop i) st := zlBool c hj hp rfl h1 (fun h => ht (cond_t h hS)) fun h => hf (cond_f h hS)
theorem sH {i : Nat} (d j g : Nat) (v : Bool) (op : POp) (hS : (bif c then a else b) = r) (ht : a = r → ZL γ Q k (p.drop j) (putB st d true)) (hf : b = r → ZL γ Q k (p.drop j) (putB st d false)) (hp : (p.drop i).take 1 = [⟨some d, op, some (g, v)⟩] := by kernel_rfl) (hg : gok st.s (some (g, v)) = true := by kernel_rfl) (h1 : peval γ st.h d (ρof st.s) op = some (.d (.bool c), []) := by kernel_rfl) (hj : i + 1 = j := by rfl) : ZL γ Q k (p.drop i) st := zlBool c hj hp hg h1 (fun h => ht (cond_t h hS)) fun h => hf (cond_f h hS)
theorem sR {c0 : PCode} (t : Nat) (hS : (bif c then a else b) = r) (ht : a = r → ZR γ Q c0 k (putB st t true)) (hf : b = r → ZR γ Q c0 k (putB st t false)) (h1 : st.s t = .d (.bool c) := by kernel_rfl) : ZR γ Q c0 k st := zrSplit t c h1 (fun h => ht (cond_t h hS)) fun h => hf (cond_f h hS)
theorem sL {l : List PO} (t : Nat) (hS : (bif c then a else b) = r) (ht : a = r → ZL γ Q k l (putB st t true)) (hf : b = r → ZL γ Q k l (putB st t false)) (h1 : st.s t = .d (.bool c) := by kernel_rfl) : ZL γ Q k l st := zlSplit t c h1 (fun h => ht (cond_t h hS)) fun h => hf (cond_f h hS)
theorem zG {i : Nat} {v : PV} {ups : Ups} (d : Option Nat) (j g : Nat) (w : Bool) (op : POp) (h1 : peval γ st.h (d.getD 0) (ρof st.s) op = some (v, ups)) (h : ZL γ Q k (p.drop j) (putO st d v ups)) (hp : (p.drop i).take 1 = [⟨d, op, some (g, w)⟩] := by kernel_rfl) (hg : gok st.s (some (g, w)) = true := by kernel_rfl) (hj : i + 1 = j := by rfl) : ZL γ Q k (p.drop i) st := zlOp hj hp hg h1 h
variable {prs : List (Nat × Nat)} {acc : List (List (Nat × Bool))}
theorem sDB {i : Nat} (d j : Nat) (g : Option (Nat × Bool)) (op : POp) (hS : (bif c then a else b) = r) (ht : a = r → ZD γ Q prs k (acc ++ [tcO st (some d) op]) (p.drop j) (putB st d true)) (hf : b = r → ZD γ Q prs k (acc ++ [tcO st (some d) op]) (p.drop j) (putB st d false)) (hp : (p.drop i).take 1 = [⟨some d, op, g⟩] := by kernel_rfl) (hg : gok st.s g = true := by kernel_rfl) (h1 : peval γ st.h d (ρof st.s) op = some (.d (.bool c), []) := by kernel_rfl) (hj : i + 1 = j := by rfl) : ZD γ Q prs k acc (p.drop i) st := zdBool c rfl rfl hj hp hg h1 (fun h => ht (cond_t h hS)) fun h => hf (cond_f h hS)
theorem zdR {i : Nat} (n j : Nat) (h : ZD γ Q prs k (acc ++ tcD (runD γ ((p.drop i).take n) st)) (p.drop j) (stD (runD γ ((p.drop i).take n) st))) (hj : i + n = j := by rfl) (h1 : (runD γ ((p.drop i).take n) st).isSome = true := by kernel_rfl) : ZD γ Q prs k acc (p.drop i) st := zdRun hj h1 rfl rfl h
theorem zdE {i : Nat} (h : ZK γ Q k .normal st) (h0 : p.drop i = [] := by kernel_rfl) (ha : (prs.all fun x => apart (acc.getD x.1 []) (acc.getD x.2 [])) = true := by kernel_rfl) : ZD γ Q prs k acc (p.drop i) st := zdEnd h0 ha h
theorem zdO {i : Nat} {v : PV} {ups : Ups} (d : Option Nat) (j : Nat) (g : Option (Nat × Bool)) (op : POp) (h1 : peval γ st.h (d.getD 0) (ρof st.s) op = some (v, ups)) (h : ZD γ Q prs k (acc ++ [tcO st d op]) (p.drop j) (putO st d v ups)) (hp : (p.drop i).take 1 = [⟨d, op, g⟩] := by kernel_rfl) (hg : gok st.s g = true := by kernel_rfl) (hj : i + 1 = j := by rfl) : ZD γ Q prs k acc (p.drop i) st := zdOp rfl rfl hj hp hg h1 h
theorem eX0 {σ ρ : Type} {H : σ → St → Prop} {X : ρ → PX → St → Prop} {z : ρ} {r : σ ⊕ ρ} {e : PX} (hS : some (Sum.inr z) = some r) (hQ : ∀ e st', finL H X r e st' → Q e st') (hne : e ≠ .normal := by intro h; cases h) (h : X z e st := by show _ = _ ∧ _ = _; exact ⟨rfl, rfl⟩) : Q e st := endQ hS hQ (finL_x hne h)
theorem eX1 {σ ρ : Type} {H : σ → St → Prop} {X : ρ → PX → St → Prop} {z : ρ} {r : σ ⊕ ρ} {e : PX} (hS : some (Sum.inr z) = some r) (hQ : ∀ e st', finL H X r e st' → Q e st') (hne : e ≠ .normal := by intro h; cases h) (h : X z e st := by show _ = _ ∧ _ = _; exact ⟨rfl, by kernel_rfl⟩) : Q e st := endQ hS hQ (finL_x hne h)
theorem eN1 {σ ρ : Type} {H : σ → St → Prop} {X : ρ → PX → St → Prop} {z : σ} {r : σ ⊕ ρ} (hS : some (Sum.inl z) = some r) (hQ : ∀ e st', finL H X r e st' → Q e st') (h : H z st := by show keepSt _ _ _ _ = _; kernel_rfl) : Q .normal st := endQ hS hQ (finL_n h)
variable {H : Nat → Cel} {ρ : Nat → PV} {d : Nat}
theorem ev_cA {ρ : Operand → PV} {f : Nat} {xs : List Operand} {l : List PV} {r : PV} (hc : γ f l [] = some (r, [])) (hl : lendL H (xs.map ρ) = some l := by kernel_rfl) (hf : ((refsL (xs.map ρ)).isEmpty || freeV r) = true := by kernel_rfl) (hr : (distinct ((owns r).map (·.1)) && (owns r).all (fun x => decide (x.1 < 8))) = true := by kernel_rfl) : peval γ H d ρ (.call f xs) = some (adV H d r, (owns r).map fun x => nw H (bid d x.1) x.2) := ev_callA hl hc hf hr
theorem ev_cR {ρ : Operand → PV} {f : Nat} {xs : List Operand} {l : List PV} (ids : List Nat) {bt bs' : List Blk} {r : PV} (hc : γ f l bt = some (r, bs')) (hi : idsOf H ((xs.map ρ).map nzA) = ids := by kernel_rfl) (hb : (blksOf H ids).map (List.map (trB ids H)) = some bt := by kernel_rfl) (hl : trL ids H ((xs.map ρ).map nzA) = l := by kernel_rfl)
  (hr : (decide (bs'.length = ids.length) && decide (ids.length ≤ 8) && distinct ((ownsAll r bs').map (·.1)) && (ownsAll r bs').all (fun x => decide (x.1 < 8) && !ids.any (Nat.beq (bid d x.1)))) = true := by kernel_rfl) :
  peval γ H d ρ (.callr f xs) = some (bkV false ids H d r, upsP false H ids d ids bs' ++ (ownsAll r bs').map fun x => nw H (bid d x.1) x.2) := ev_callrA hi hb hl hc hr
theorem ev_cX {ρ : Operand → PV} {f : Nat} {xs : List Operand} {l : List PV} (ids : List Nat) (bs : List Blk) {bt bs' : List Blk} {r : PV} (hc : γ f l bt = some (r, bs')) (hs : sameL H ids bs' = true) (hi : idsOf H ((xs.map ρ).map nzA) = ids := by kernel_rfl) (hb : blksOf H ids = some bs := by kernel_rfl) (hl : trL ids H ((xs.map ρ).map nzA) = l := by kernel_rfl) (ht : bs.map (trB ids H) = bt := by kernel_rfl)
  (hfx : fxOf ids bs' = true := by kernel_rfl) (hr : (decide (ids.length ≤ 8) && distinct ((ownsAll r bs').map (·.1)) && (ownsAll r bs').all (fun x => decide (x.1 < 8) && !ids.any (Nat.beq (bid d x.1)))) = true := by kernel_rfl) :
  peval γ H d ρ (.callr f xs) = some (bkV true ids H d r, upsP true H ids d ids bs' ++ (ownsAll r bs').map fun x => nw H (bid d x.1) x.2) := ev_callrXA hi hb hl ht hc hfx hs hr
theorem lk {p q : PV} {ps qs : List PV} (h2 : lendL H ps = some qs) (h1 : lendV H p = some q := by kernel_rfl) : lendL H (p :: ps) = some (q :: qs) := l_cons h1 h2
end
abbrev brs : List Nat := [100007, 12, 13, 100016, 100017, 25, 32, 100033, 35, 52, 53, 54, 55, 56, 57, 58, 61, 62, 63, 64, 66, 79, 80, 81, 84, 85, 87, 89, 91, 93, 94, 95, 96, 100, 101, 102, 103, 106, 107, 108, 119, 122, 124, 125, 127, 128, 130, 131, 133, 135, 136, 146, 147, 148, 149, 151, 193]
structure GPen where
 Flags : Int
 Fore : Int
 Back : Int
structure GCell where
 Rune : Int
 Pen : GPen
structure GGrid where
 Wide : Int
 High : Int
 Cells : List GCell
structure GStops where
 Bits : Nat → Int
structure GSaved where
 Row : Int
 Col : Int
 Pen : GPen
 Origin : Bool
 Pages : Int × Int
 Shift : Int
structure GLine where
 Cells : List GCell
structure GScreen where
 Grid : GGrid
 Row : Int
 Col : Int
 Late : Bool
 Top : Int
 Bottom : Int
 Pen : GPen
 Modes : Int
 Stops : GStops
 Pages : Int × Int
 Shift : Int
 Saved : GSaved
 Other : GGrid
 Title : List UInt8
 Past : List GLine
structure GAct where
 Kind : Int
 Code : Int
 Mark : Int
 Inter : List UInt8
 Args : List Int
 Text : List UInt8
structure GParser where
 State : Int
 Mark : Int
 Inter : List UInt8
 Args : List UInt8
 Text : List UInt8
structure Gterminal where
 Screen : GScreen
 sent : List UInt8
def e_GPen : Enc GPen := ⟨3, fun x => [.int .i64 x.Flags, .int .i64 x.Fore, .int .i64 x.Back], fun _ => rfl⟩
def e_GCell : Enc GCell := ⟨4, fun x => [.int .i64 x.Rune, .int .i64 x.Pen.Flags, .int .i64 x.Pen.Fore, .int .i64 x.Pen.Back], fun _ => rfl⟩
def e_A31 : Enc (Int × Int) := ⟨2, fun x => [.int .i64 x.1, .int .i64 x.2], fun _ => rfl⟩
def e_GLine : Enc GLine := ⟨1, fun x => [.sl x.Cells.length (e_GCell.cells x.Cells)], fun _ => rfl⟩
def e_GAct : Enc GAct := ⟨6, fun x => [.int .i64 x.Kind, .int .i64 x.Code, .int .i64 x.Mark, .str x.Inter, .sl x.Args.length (eI.cells x.Args), .str x.Text], fun _ => rfl⟩
def e_UGterminal : Enc Gterminal := ⟨34, fun x => (.int .i64 x.Screen.Grid.Wide :: (.int .i64 x.Screen.Grid.High :: (.un :: (.int .i64 x.Screen.Row :: (.int .i64 x.Screen.Col :: (.bool x.Screen.Late :: (.int .i64 x.Screen.Top :: (.int .i64 x.Screen.Bottom :: (.int .i64 x.Screen.Pen.Flags :: (.int .i64 x.Screen.Pen.Fore :: (.int .i64 x.Screen.Pen.Back :: (.int .i64 x.Screen.Modes :: ((eInt .u64).rowD 4 x.Screen.Stops.Bits ++ (.int .i64 x.Screen.Pages.1 :: (.int .i64 x.Screen.Pages.2 :: (.int .i64 x.Screen.Shift :: (.int .i64 x.Screen.Saved.Row :: (.int .i64 x.Screen.Saved.Col :: (.int .i64 x.Screen.Saved.Pen.Flags :: (.int .i64 x.Screen.Saved.Pen.Fore :: (.int .i64 x.Screen.Saved.Pen.Back :: (.bool x.Screen.Saved.Origin :: (.int .i64 x.Screen.Saved.Pages.1 :: (.int .i64 x.Screen.Saved.Pages.2 :: (.int .i64 x.Screen.Saved.Shift :: (.int .i64 x.Screen.Other.Wide :: (.int .i64 x.Screen.Other.High :: (.un :: (.str x.Screen.Title :: (.un :: (.str x.sent :: []))))))))))))))))))))))))))))))), fun x => by simp only [List.length_append, List.length_cons, List.length_nil, Enc.rowD_len]; rfl⟩
def e_GGrid : Enc GGrid := ⟨3, fun x => [.int .i64 x.Wide, .int .i64 x.High, .sl x.Cells.length (e_GCell.cells x.Cells)], fun _ => rfl⟩
def e_GSaved : Enc GSaved := ⟨9, fun x => [.int .i64 x.Row, .int .i64 x.Col, .int .i64 x.Pen.Flags, .int .i64 x.Pen.Fore, .int .i64 x.Pen.Back, .bool x.Origin, .int .i64 x.Pages.1, .int .i64 x.Pages.2, .int .i64 x.Shift], fun _ => rfl⟩
def bx_GScreen (x : GScreen) (c3 c2 c1 : PV) : List PV := ((dI x.Grid.Wide) :: ((dI x.Grid.High) :: (c3 :: ((dI x.Row) :: ((dI x.Col) :: ((dB x.Late) :: ((dI x.Top) :: ((dI x.Bottom) :: ((dI x.Pen.Flags) :: ((dI x.Pen.Fore) :: ((dI x.Pen.Back) :: ((dI x.Modes) :: (((eInt .u64).row 4 x.Stops.Bits) ++ ((dI x.Pages.1) :: ((dI x.Pages.2) :: ((dI x.Shift) :: ((dI x.Saved.Row) :: ((dI x.Saved.Col) :: ((dI x.Saved.Pen.Flags) :: ((dI x.Saved.Pen.Fore) :: ((dI x.Saved.Pen.Back) :: ((dB x.Saved.Origin) :: ((dI x.Saved.Pages.1) :: ((dI x.Saved.Pages.2) :: ((dI x.Saved.Shift) :: ((dI x.Other.Wide) :: ((dI x.Other.High) :: (c2 :: ((.d (.str x.Title)) :: (c1 :: []))))))))))))))))))))))))))))))
def bx_GAct (x : GAct) (c1 : PV) : List PV := ((dI x.Kind) :: ((dI x.Code) :: ((dI x.Mark) :: ((.d (.str x.Inter)) :: (c1 :: ((.d (.str x.Text)) :: []))))))
def bx_Gterminal (x : Gterminal) (c3 c2 c1 : PV) : List PV := ((dI x.Screen.Grid.Wide) :: ((dI x.Screen.Grid.High) :: (c3 :: ((dI x.Screen.Row) :: ((dI x.Screen.Col) :: ((dB x.Screen.Late) :: ((dI x.Screen.Top) :: ((dI x.Screen.Bottom) :: ((dI x.Screen.Pen.Flags) :: ((dI x.Screen.Pen.Fore) :: ((dI x.Screen.Pen.Back) :: ((dI x.Screen.Modes) :: (((eInt .u64).row 4 x.Screen.Stops.Bits) ++ ((dI x.Screen.Pages.1) :: ((dI x.Screen.Pages.2) :: ((dI x.Screen.Shift) :: ((dI x.Screen.Saved.Row) :: ((dI x.Screen.Saved.Col) :: ((dI x.Screen.Saved.Pen.Flags) :: ((dI x.Screen.Saved.Pen.Fore) :: ((dI x.Screen.Saved.Pen.Back) :: ((dB x.Screen.Saved.Origin) :: ((dI x.Screen.Saved.Pages.1) :: ((dI x.Screen.Saved.Pages.2) :: ((dI x.Screen.Saved.Shift) :: ((dI x.Screen.Other.Wide) :: ((dI x.Screen.Other.High) :: (c2 :: ((.d (.str x.Screen.Title)) :: (c1 :: ((.d (.str x.sent)) :: [])))))))))))))))))))))))))))))))
abbrev gx_GScreen (x : GScreen) (i0 i1 i2 : Nat) : Blk := .box (bx_GScreen x (.r (.msl i0 0 0 x.Grid.Cells.length)) (.r (.msl i1 0 0 x.Other.Cells.length)) (.r (.msl i2 0 0 x.Past.length)))
abbrev go0_GScreen (x : GScreen) : Blk := .own 49 4 (e_GCell.cells x.Grid.Cells)
abbrev go1_GScreen (x : GScreen) : Blk := .own 49 4 (e_GCell.cells x.Other.Cells)
abbrev go2_GScreen (x : GScreen) : Blk := .own 95 1 (e_GLine.cells x.Past)
abbrev gd0_GScreen (x : GScreen) : PV := .d (.sl x.Grid.Cells.length (e_GCell.cells x.Grid.Cells))
abbrev gw0_GScreen (x : GScreen) : PV := .r (.own 0 49 4 x.Grid.Cells.length (e_GCell.cells x.Grid.Cells))
abbrev gd1_GScreen (x : GScreen) : PV := .d (.sl x.Other.Cells.length (e_GCell.cells x.Other.Cells))
abbrev gw1_GScreen (x : GScreen) : PV := .r (.own 1 49 4 x.Other.Cells.length (e_GCell.cells x.Other.Cells))
abbrev gd2_GScreen (x : GScreen) : PV := .d (.sl x.Past.length (e_GLine.cells x.Past))
abbrev gw2_GScreen (x : GScreen) : PV := .r (.own 2 95 1 x.Past.length (e_GLine.cells x.Past))
abbrev bd_GScreen (x : GScreen) : List PV := bx_GScreen x (gd0_GScreen x) (gd1_GScreen x) (gd2_GScreen x)
abbrev bw_GScreen (x : GScreen) : List PV := bx_GScreen x (gw0_GScreen x) (gw1_GScreen x) (gw2_GScreen x)
abbrev bm_GScreen (x : GScreen) (i0 ji0 i1 ji1 i2 ji2 : Nat) : List PV := bx_GScreen x (.r (.msl i0 ji0 0 x.Grid.Cells.length)) (.r (.msl i1 ji1 0 x.Other.Cells.length)) (.r (.msl i2 ji2 0 x.Past.length))
abbrev gh_GScreen (h : Nat → Cel) (x : GScreen) (i : Nat) (i0 i1 i2 : Nat) : Nat → Cel := up (up (up (up h i2 ⟨0, some (go2_GScreen x)⟩) i1 ⟨0, some (go1_GScreen x)⟩) i0 ⟨0, some (go0_GScreen x)⟩) i ⟨0, some (gx_GScreen x i0 i1 i2)⟩
abbrev gx_Gterminal (x : Gterminal) (i0 i1 i2 : Nat) : Blk := .box (bx_Gterminal x (.r (.msl i0 0 0 x.Screen.Grid.Cells.length)) (.r (.msl i1 0 0 x.Screen.Other.Cells.length)) (.r (.msl i2 0 0 x.Screen.Past.length)))
abbrev go0_Gterminal (x : Gterminal) : Blk := .own 49 4 (e_GCell.cells x.Screen.Grid.Cells)
abbrev go1_Gterminal (x : Gterminal) : Blk := .own 49 4 (e_GCell.cells x.Screen.Other.Cells)
abbrev go2_Gterminal (x : Gterminal) : Blk := .own 95 1 (e_GLine.cells x.Screen.Past)
abbrev bm_Gterminal (x : Gterminal) (i0 ji0 i1 ji1 i2 ji2 : Nat) : List PV := bx_Gterminal x (.r (.msl i0 ji0 0 x.Screen.Grid.Cells.length)) (.r (.msl i1 ji1 0 x.Screen.Other.Cells.length)) (.r (.msl i2 ji2 0 x.Screen.Past.length))
abbrev gb_Gterminal (x : Gterminal) (i0 i1 i2 : Nat) : List Blk := [gx_Gterminal x i0 i1 i2, go0_Gterminal x, go1_Gterminal x, go2_Gterminal x]
abbrev gh_Gterminal (h : Nat → Cel) (x : Gterminal) (i : Nat) (i0 i1 i2 : Nat) : Nat → Cel := up (up (up (up h i2 ⟨0, some (go2_Gterminal x)⟩) i1 ⟨0, some (go1_Gterminal x)⟩) i0 ⟨0, some (go0_Gterminal x)⟩) i ⟨0, some (gx_Gterminal x i0 i1 i2)⟩
def p36_1 : LP := [po 4 (.mov (ki 0))]
def p36_2 : LP := [pm 5 0, po 6 (.cmpI .lss (tm 5) (ki 1)), pm 7 6, pf 8 7 (.mov (tm 0)), pf 9 7 (.cmpI .gtr (tm 8) (ki 160)), po 10 (.pick (tm 7) (.const (.bool .true)) (tm 9)), pm 11 10, pf 12 11 (.mov (tm 1)), pf 13 11 (.cmpI .lss (tm 12) (ki 1)), po 14 (.pick (tm 11) (.const (.bool .true)) (tm 13)), pm 15 14, pf 16 15 (.mov (tm 1)), pf 17 15 (.cmpI .gtr (tm 16) (ki 60)), po 18 (.pick (tm 15) (.const (.bool .true)) (tm 17))]
def p36_3 : LP := [po 4 (.mov (ki 1))]
def p36_4 : LP := [po 4 (.mov (ki 0))]
def c36_b : PCode := (.seq (.reg p36_1) (.seq (.seq (.reg p36_2) (.cond (.tmp 18) (.seq (.reg p36_3) .ret) .skip)) (.seq (.reg p36_4) .ret)))
def c36 : FCode := ⟨19, c36_b, [(.tmp 4)], some ([4], [], []), false⟩
theorem c36_ok : compF Go.Proofs.Tryz.prog brs 36 = some (eraseF c36) := by kernel_rfl
def p25_1 : LP := [po 2 (.box 3 (tm 0)), po 4 (.nilS 49 4)]
def p25_2 : LP := [po 5 (fd 2 2), po 6 (lf 1 5), pm 7 1, po 8 (fd 0 2), po 9 (lf 1 8), po 10 (.arI .mul (tm 7) (tm 9)), pm 11 1, po 12 (.arI .add (tm 11) (ki 1)), po 13 (fd 0 2), po 14 (lf 1 13), po 15 (.arI .mul (tm 12) (tm 14)), po 16 (.slS 49 4 (tm 6) (.some (tm 10)) (.some (tm 15))), pm 4 16]
def c25_b : PCode := (.seq (.reg p25_1) (.seq (.reg p25_2) .ret))
def c25 : FCode := ⟨17, c25_b, [(.tmp 4)], some ([4, 2000000], [(0, .id 0)], []), false⟩
theorem c25_ok : compF Go.Proofs.Tryz.prog brs 25 = some (eraseF c25) := by kernel_rfl
def p39_1 : LP := [po 2 (.mov (.const (.bool .false)))]
def p39_2 : LP := [pm 3 0, po 4 (.cmpI .geq (tm 3) (ki 0)), pm 5 4, pg 6 5 (.mov (tm 0)), pg 7 5 (.cmpI .leq (tm 6) (ki 256)), po 8 (.pick (tm 5) (tm 7) (.const (.bool .false))), pm 9 8, pf 10 9 (.mov (tm 0)), pf 11 9 (.cmpI .geq (tm 10) (ki 16777216)), pf 12 9 (.mov (tm 11)), pg 13 12 (.mov (tm 0)), pg 14 12 (.cmpI .lss (tm 13) (ki 33554432)), pf 15 9 (.pick (tm 12) (tm 14) (.const (.bool .false))), po 16 (.pick (tm 9) (.const (.bool .true)) (tm 15)), pm 2 16]
def c39_b : PCode := (.seq (.reg p39_1) (.seq (.reg p39_2) .ret))
def c39 : FCode := ⟨17, c39_b, [(.tmp 2)], some ([2], [], []), false⟩
theorem c39_ok : compF Go.Proofs.Tryz.prog brs 39 = some (eraseF c39) := by kernel_rfl
def p21_1 : LP := [po 1 (.box 3 (tm 0)), po 2 (.mov (ki 0))]
def p21_2 : LP := [po 3 (fd 0 1), po 4 (lf 1 3), po 5 (.cmpI .lss (tm 4) (ki 0)), pm 6 5, pf 7 6 (fd 0 1), pf 8 6 (lf 1 7), pf 9 6 (.cmpI .gtr (tm 8) (ki 255)), po 10 (.pick (tm 6) (.const (.bool .true)) (tm 9)), pm 11 10, pf 12 11 (fd 1 1), pf 13 11 (lf 1 12), pf 14 11 (c1 39 13), pf 15 11 (.un .not (tm 14)), po 16 (.pick (tm 11) (.const (.bool .true)) (tm 15)), pm 17 16, pf 18 17 (fd 2 1), pf 19 17 (lf 1 18), pf 20 17 (c1 39 19), pf 21 17 (.un .not (tm 20)), po 22 (.pick (tm 17) (.const (.bool .true)) (tm 21))]
def p21_3 : LP := [po 2 (.mov (ki 4))]
def p21_4 : LP := [po 2 (.mov (ki 0))]
def c21_b : PCode := (.seq (.reg p21_1) (.seq (.seq (.reg p21_2) (.cond (.tmp 22) (.seq (.reg p21_3) .ret) .skip)) (.seq (.reg p21_4) .ret)))
def c21 : FCode := ⟨23, c21_b, [(.tmp 2)], some ([2], [], []), false⟩
theorem c21_ok : compF Go.Proofs.Tryz.prog brs 21 = some (eraseF c21) := by kernel_rfl
def p67_4 : LP := [po 4 (.mov (.const (.bool .false)))]
def p67_5 : LP := [pm 7 1, po 8 (.len .false (tm 7)), po 9 (.mov (ki 0))]
def p67_6 : LP := [po 10 (.cmpI .lss (tm 9) (tm 8))]
def p67_7 : LP := [po 11 (.ixS 31 2 (tm 7) (tm 9)), po 12 (lt 2 11), po 6 (.alloc [(2, (.int .i64 0))]), pS 2 6 12]
def p67_8 : LP := [pm 13 0, po 14 (.ixA 2 1 (tm 6) (ki 0)), po 15 (lf 1 14), po 16 (.cmpI .geq (tm 13) (tm 15)), pm 17 16, pg 18 17 (.mov (tm 0)), pg 19 17 (.ixA 2 1 (tm 6) (ki 1)), pg 20 17 (lf 1 19), pg 21 17 (.cmpI .leq (tm 18) (tm 20)), po 22 (.pick (tm 17) (tm 21) (.const (.bool .false)))]
def p67_9 : LP := [po 4 (.mov (.const (.bool .true)))]
def p67_10 : LP := [po 23 (.arI .add (tm 9) (ki 1)), pm 9 23]
def c67_1 : PCode := (.keep [0, 7, 8, 9] [] [] (.seq (.block 1 (.seq (.reg p67_7) (.seq (.reg p67_8) (.cond (.tmp 22) (.seq (.reg p67_9) .ret) .skip)))) (.reg p67_10)))
def c67_2 : PCode := (.keep [0, 7, 8, 9, 10] [] [] (.seq (.cond (.tmp 10) .skip (.keep [] [] [] (.exit 0))) c67_1))
def c67_3 : PCode := (.keep [0, 7, 8, 9] [] [] (.seq (.reg p67_6) c67_2))
def p67_11 : LP := [po 4 (.mov (.const (.bool .false)))]
def c67_b : PCode := (.seq (.reg p67_4) (.seq (.seq (.reg p67_5) (.block 0 (.loop c67_3))) (.seq (.reg p67_11) .ret)))
def c67 : FCode := ⟨24, c67_b, [(.tmp 4)], some ([4], [], []), false⟩
theorem c67_ok : compF Go.Proofs.Tryz.prog brs 67 = some (eraseF c67) := by kernel_rfl
def p37_3 : LP := [po 2 (.mov (ki 0))]
def p37_4 : LP := [po 5 (.build [(2, (.int .i64 0))] [(0, (1, (ki 0))), (1, (1, (ki 31)))]), po 6 (.build [(2, (.int .i64 0))] [(0, (1, (ki 127))), (1, (1, (ki 159)))]), po 7 (.build [(2, (.int .i64 0))] [(0, (1, (ki 768))), (1, (1, (ki 879)))]), po 8 (.build [(2, (.int .i64 0))] [(0, (1, (ki 8203))), (1, (1, (ki 8207)))]), po 9 (.build [(2, (.int .i64 0))] [(0, (1, (ki 55296))), (1, (1, (ki 57343)))]), po 10 (.build [(2, (.int .i64 0))] [(0, (1, (ki 65024))), (1, (1, (ki 65039)))]), po 11 (.build [(12, (.int .i64 0))] [(0, (2, (tm 5))), (2, (2, (tm 6))), (4, (2, (tm 7))), (6, (2, (tm 8))), (8, (2, (tm 9))), (10, (2, (tm 10)))]), po 3 (.alloc [(12, (.int .i64 0))]), pS 12 3 11]
def p37_5 : LP := [po 12 (.build [(2, (.int .i64 0))] [(0, (1, (ki 4352))), (1, (1, (ki 4447)))]), po 13 (.build [(2, (.int .i64 0))] [(0, (1, (ki 11904))), (1, (1, (ki 12350)))]), po 14 (.build [(2, (.int .i64 0))] [(0, (1, (ki 12353))), (1, (1, (ki 19903)))]), po 15 (.build [(2, (.int .i64 0))] [(0, (1, (ki 19968))), (1, (1, (ki 42191)))]), po 16 (.build [(2, (.int .i64 0))] [(0, (1, (ki 44032))), (1, (1, (ki 55203)))]), po 17 (.build [(2, (.int .i64 0))] [(0, (1, (ki 63744))), (1, (1, (ki 64255)))]), po 18 (.build [(2, (.int .i64 0))] [(0, (1, (ki 65072))), (1, (1, (ki 65135)))]), po 19 (.build [(2, (.int .i64 0))] [(0, (1, (ki 65280))), (1, (1, (ki 65376)))]), po 20 (.build [(2, (.int .i64 0))] [(0, (1, (ki 65504))), (1, (1, (ki 65510)))]), po 21 (.build [(2, (.int .i64 0))] [(0, (1, (ki 127744))), (1, (1, (ki 128591)))]), po 22 (.build [(2, (.int .i64 0))] [(0, (1, (ki 129280))), (1, (1, (ki 129535)))]), po 23 (.build [(2, (.int .i64 0))] [(0, (1, (ki 131072))), (1, (1, (ki 262141)))]), po 24 (.build [(24, (.int .i64 0))] [(0, (2, (tm 12))), (2, (2, (tm 13))), (4, (2, (tm 14))), (6, (2, (tm 15))), (8, (2, (tm 16))), (10, (2, (tm 17))), (12, (2, (tm 18))), (14, (2, (tm 19))), (16, (2, (tm 20))), (18, (2, (tm 21))), (20, (2, (tm 22))), (22, (2, (tm 23)))]), po 4 (.alloc [(24, (.int .i64 0))]), pS 24 4 24]
def p37_6 : LP := [pm 26 0, po 27 (.cmpI .lss (tm 26) (ki 0)), pm 28 27, pf 29 28 (.mov (tm 0)), pf 30 28 (.cmpI .gtr (tm 29) (ki 1114111)), po 31 (.pick (tm 28) (.const (.bool .true)) (tm 30)), pm 32 31, pf 33 32 (.mov (tm 0)), pf 34 32 (.slA 6 2 (tm 3) .none .none), pf 35 32 (.call 67 [(tm 33), (tm 34)]), po 36 (.pick (tm 32) (.const (.bool .true)) (tm 35)), pm 25 36]
def p37_7 : LP := [po 2 (.mov (ki 0))]
def p37_8 : LP := [pm 38 0, po 39 (.slA 12 2 (tm 4) .none .none), po 40 (.call 67 [(tm 38), (tm 39)]), pm 37 40]
def p37_9 : LP := [po 2 (.mov (ki 2))]
def c37_1 : PCode := (.keep [0, 4, 25] [(40, .id 40)] [] (.cond (.tmp 25) (.seq (.reg p37_7) .ret) (.seq (.reg p37_8) (.cond (.tmp 37) (.seq (.reg p37_9) .ret) .skip))))
def p37_10 : LP := [po 2 (.mov (ki 1))]
def c37_2 : PCode := (.seq (.reg p37_10) .ret)
def c37_b : PCode := (.seq (.reg p37_3) (.seq (.reg p37_4) (.seq (.reg p37_5) (.seq (.block 0 (.seq (.reg p37_6) c37_1)) c37_2))))
def c37 : FCode := ⟨41, c37_b, [(.tmp 2)], some ([2], [], []), false⟩
theorem c37_ok : compF Go.Proofs.Tryz.prog brs 37 = some (eraseF c37) := by kernel_rfl
def p68_1 : LP := [po 3 (.mov (.const (.bool .false)))]
def p68_2 : LP := [pm 4 0, po 5 (lf 1 1), po 6 (.len .false (tm 5)), po 7 (.cmpI .lss (tm 4) (tm 6)), pm 8 7, pg 9 8 (lf 1 1), pg 10 8 (.mov (tm 0)), pg 11 8 (.ixS 49 4 (tm 9) (tm 10)), pg 12 8 (fd 0 11), pg 13 8 (lf 1 12), pg 14 8 (ck 13 0), po 15 (.pick (tm 8) (tm 14) (.const (.bool .false))), pm 16 15, pg 17 16 (lf 1 1), pg 18 16 (.mov (tm 0)), pg 19 16 (.ixS 49 4 (tm 17) (tm 18)), pg 20 16 (fd 1 19), pg 21 16 (lt 3 20), pg 22 16 (lf 1 1), pg 23 16 (.mov (tm 0)), pg 24 16 (.arI .sub (tm 23) (ki 1)), pg 25 16 (.ixS 49 4 (tm 22) (tm 24)), pg 26 16 (fd 1 25), pg 27 16 (lt 3 26), pg 28 16 (.eqA .false [(3, .int)] (tm 21) (tm 27)), po 29 (.pick (tm 16) (tm 28) (.const (.bool .false))), pm 3 29]
def c68_b : PCode := (.seq (.reg p68_1) (.seq (.regD p68_2 []) .ret))
def c68 : FCode := ⟨30, c68_b, [(.tmp 3)], some ([3], [], []), false⟩
theorem c68_ok : compF Go.Proofs.Tryz.prog brs 68 = some (eraseF c68) := by kernel_rfl
def p38_2 : LP := [po 2 (.box 1 (tm 0)), po 4 (.mov (.const (.bool .false)))]
def p38_3 : LP := [po 6 (.mkF 68 [(tm 2)]), pm 5 6]
def p38_4 : LP := [po 7 (lf 1 2), pm 8 1, po 9 (.ixS 49 4 (tm 7) (tm 8)), po 10 (fd 0 9), po 11 (lf 1 10), po 12 (ck 11 0)]
def p38_5 : LP := [pm 13 1, po 14 (ck 13 0), pm 15 14, pf 16 15 (lf 1 2), pf 17 15 (.mov (tm 1)), pf 18 15 (.arI .sub (tm 17) (ki 1)), pf 19 15 (.ixS 49 4 (tm 16) (tm 18)), pf 20 15 (fd 0 19), pf 21 15 (lf 1 20), pf 22 15 (c1 37 21), pf 23 15 (.cmpI .neq (tm 22) (ki 2)), po 24 (.pick (tm 15) (.const (.bool .true)) (tm 23)), pm 25 24, pf 26 25 (.mov (tm 5)), pf 27 25 (.mov (tm 1)), pf 28 25 (.callv (tm 26) [(tm 27)]), pf 29 25 (.un .not (tm 28)), po 30 (.pick (tm 25) (.const (.bool .true)) (tm 29)), pm 4 30]
def p38_6 : LP := [po 31 (lf 1 2), pm 32 1, po 33 (.ixS 49 4 (tm 31) (tm 32)), po 34 (fd 0 33), po 35 (lf 1 34), po 36 (c1 37 35), po 37 (ck 36 2), pm 38 37, pg 39 38 (.mov (tm 5)), pg 40 38 (.mov (tm 1)), pg 41 38 (.arI .add (tm 40) (ki 1)), pg 42 38 (.callv (tm 39) [(tm 41)]), pg 43 38 (.un .not (tm 42)), po 44 (.pick (tm 38) (tm 43) (.const (.bool .false))), pm 4 44]
def c38_1 : PCode := (.keep [1, 2, 5] [(24, .id 24)] [] (.seq (.reg p38_6) .ret))
def c38_b : PCode := (.seq (.reg p38_2) (.seq (.reg p38_3) (.seq (.seq (.reg p38_4) (.cond (.tmp 12) (.seq (.reg p38_5) .ret) .skip)) c38_1)))
def c38 : FCode := ⟨45, c38_b, [(.tmp 4)], some ([4], [], []), false⟩
theorem c38_ok : compF Go.Proofs.Tryz.prog brs 38 = some (eraseF c38) := by kernel_rfl
def p19_9 : LP := [po 1 (.box 3 (tm 0)), po 2 (.mov (ki 0))]
def p19_10 : LP := [po 8 (fd 0 1), po 9 (lf 1 8), po 10 (fd 1 1), po 11 (lf 1 10), po 12 (.call 36 [(tm 9), (tm 11)]), pm 3 12]
def p19_11 : LP := [pm 13 3, po 14 (.cmpI .neq (tm 13) (ki 0))]
def p19_12 : LP := [pm 15 3, pm 2 15]
def p19_13 : LP := [po 16 (fd 2 1), po 17 (lf 1 16), po 18 (.len .false (tm 17)), po 19 (fd 0 1), po 20 (lf 1 19), po 21 (fd 1 1), po 22 (lf 1 21), po 23 (.arI .mul (tm 20) (tm 22)), po 24 (.cmpI .neq (tm 18) (tm 23))]
def p19_14 : LP := [po 2 (.mov (ki 4))]
def p19_15 : LP := [po 25 (fd 1 1), po 26 (lf 1 25), po 27 (.mov (ki 0))]
def p19_16 : LP := [po 28 (.cmpI .lss (tm 27) (tm 26))]
def p19_17 : LP := [pm 29 27, pm 4 29]
def p19_18 : LP := [po 30 (lt 3 1), pm 31 4, po 32 (.callr 25 [(tm 30), (tm 31)]), pm 5 32]
def p19_19 : LP := [pm 33 5, po 34 (.len .false (tm 33)), po 35 (.mov (ki 0))]
def p19_20 : LP := [po 36 (.cmpI .lss (tm 35) (tm 34))]
def p19_21 : LP := [pm 37 35, po 38 (.ixS 49 4 (tm 33) (tm 35)), po 39 (lt 4 38), po 7 (.alloc [(4, (.int .i64 0))]), pm 6 37, pS 4 7 39]
def p19_22 : LP := [po 40 (fd 1 7), po 41 (lt 3 40), po 42 (c1 21 41), po 43 (.cmpI .neq (tm 42) (ki 0)), pm 44 43, pf 45 44 (fd 0 7), pf 46 44 (lf 1 45), pf 47 44 (.cmpI .neq (tm 46) (ki 0)), pf 48 44 (.mov (tm 47)), pg 49 48 (fd 0 7), pg 50 48 (lf 1 49), pg 51 48 (c1 37 50), pg 52 48 (ck 51 0), pf 53 44 (.pick (tm 48) (tm 52) (.const (.bool .false))), po 54 (.pick (tm 44) (.const (.bool .true)) (tm 53)), pm 55 54, pf 56 55 (.mov (tm 5)), pf 57 55 (.mov (tm 6)), pf 58 55 (.call 38 [(tm 56), (tm 57)]), po 59 (.pick (tm 55) (.const (.bool .true)) (tm 58))]
def p19_23 : LP := [po 2 (.mov (ki 4))]
def p19_24 : LP := [po 60 (.arI .add (tm 35) (ki 1)), pm 35 60]
def c19_1 : PCode := (.keep [1, 5, 26, 27, 33, 34, 35] [(16, .id 16)] [] (.seq (.block 3 (.seq (.reg p19_21) (.seq (.reg p19_22) (.cond (.tmp 59) (.seq (.reg p19_23) .ret) .skip)))) (.reg p19_24)))
def c19_2 : PCode := (.keep [1, 5, 26, 27, 33, 34, 35, 36] [(16, .id 16)] [] (.seq (.cond (.tmp 36) .skip (.keep [1, 26, 27] [(16, .id 16)] [] (.exit 2))) c19_1))
def c19_3 : PCode := (.keep [1, 5, 26, 27, 33, 34, 35] [(16, .id 16)] [] (.seq (.reg p19_20) c19_2))
def p19_25 : LP := [po 61 (.arI .add (tm 27) (ki 1)), pm 27 61]
def c19_4 : PCode := (.keep [1, 26, 27] [(16, .id 16)] [] (.seq (.block 1 (.seq (.reg p19_17) (.seq (.reg p19_18) (.seq (.reg p19_19) (.block 2 (.loop c19_3)))))) (.reg p19_25)))
def c19_5 : PCode := (.keep [1, 26, 27, 28] [(16, .id 16)] [] (.seq (.cond (.tmp 28) .skip (.keep [] [] [] (.exit 0))) c19_4))
def c19_6 : PCode := (.keep [1, 26, 27] [(16, .id 16)] [] (.seq (.reg p19_16) c19_5))
def p19_26 : LP := [po 2 (.mov (ki 0))]
def c19_7 : PCode := (.keep [1] [(16, .id 16)] [] (.seq (.seq (.reg p19_15) (.block 0 (.loop c19_6))) (.seq (.reg p19_26) .ret)))
def c19_8 : PCode := (.keep [1] [(16, .id 16)] [] (.seq (.seq (.reg p19_13) (.cond (.tmp 24) (.seq (.reg p19_14) .ret) .skip)) c19_7))
def c19_b : PCode := (.seq (.reg p19_9) (.seq (.seq (.reg p19_10) (.seq (.reg p19_11) (.cond (.tmp 14) (.seq (.reg p19_12) .ret) .skip))) c19_8))
def c19 : FCode := ⟨62, c19_b, [(.tmp 2)], some ([2], [], []), false⟩
theorem c19_ok : compF Go.Proofs.Tryz.prog brs 19 = some (eraseF c19) := by kernel_rfl
def p20_1 : LP := [po 6 (.mov (.const (.bool .false)))]
def p20_2 : LP := [pm 7 0, pm 8 1, po 9 (.cmpI .geq (tm 7) (tm 8)), pm 10 9, pg 11 10 (.mov (tm 0)), pg 12 10 (.mov (tm 2)), pg 13 10 (.cmpI .leq (tm 11) (tm 12)), po 14 (.pick (tm 10) (tm 13) (.const (.bool .false))), pm 6 14]
def c20_b : PCode := (.seq (.reg p20_1) (.seq (.reg p20_2) .ret))
def c20 : FCode := ⟨15, c20_b, [(.tmp 6)], some ([6], [], []), false⟩
theorem c20_ok : compF Go.Proofs.Tryz.prog brs 20 = some (eraseF c20) := by kernel_rfl
def p22_1 : LP := [po 2 (.mov (.const (.bool .false)))]
def p22_2 : LP := [pm 3 0, po 4 (.cmpI .geq (tm 3) (ki 1)), pm 5 4, pg 6 5 (.mov (tm 0)), pg 7 5 (.cmpI .leq (tm 6) (ki 4)), po 8 (.pick (tm 5) (tm 7) (.const (.bool .false))), pm 2 8]
def c22_b : PCode := (.seq (.reg p22_1) (.seq (.reg p22_2) .ret))
def c22 : FCode := ⟨9, c22_b, [(.tmp 2)], some ([2], [], []), false⟩
theorem c22_ok : compF Go.Proofs.Tryz.prog brs 22 = some (eraseF c22) := by kernel_rfl
def p23_4 : LP := [po 2 (.mov (.const (.bool .false)))]
def p23_5 : LP := [pm 5 0, po 6 (.len .false (tm 5)), po 7 (.mov (ki 0))]
def p23_6 : LP := [po 8 (.cmpI .lss (tm 7) (tm 6))]
def p23_7 : LP := [po 9 (.ixS 95 1 (tm 5) (tm 7)), po 10 (lt 1 9), po 4 (.alloc [(1, (.slice .none 0 0))]), pS 1 4 10]
def p23_8 : LP := [po 11 (fd 0 4), po 12 (lf 1 11), po 13 (.len .false (tm 12)), po 14 (fd 0 4), po 15 (lf 1 14), po 16 (.build [(2, (.int .i64 0)), (1, (.slice .none 0 0))] [(0, (1, (tm 13))), (1, (1, (ki 1))), (2, (1, (tm 15)))]), po 17 (c1 19 16), po 18 (.cmpI .neq (tm 17) (ki 0))]
def p23_9 : LP := [po 2 (.mov (.const (.bool .false)))]
def p23_10 : LP := [po 19 (.arI .add (tm 7) (ki 1)), pm 7 19]
def c23_1 : PCode := (.keep [0, 5, 6, 7] [] [] (.seq (.block 1 (.seq (.reg p23_7) (.seq (.reg p23_8) (.cond (.tmp 18) (.seq (.reg p23_9) .ret) .skip)))) (.reg p23_10)))
def c23_2 : PCode := (.keep [0, 5, 6, 7, 8] [] [] (.seq (.cond (.tmp 8) .skip (.keep [0] [] [] (.exit 0))) c23_1))
def c23_3 : PCode := (.keep [0, 5, 6, 7] [] [] (.seq (.reg p23_6) c23_2))
def p23_11 : LP := [pm 20 0, po 21 (.len .false (tm 20)), po 22 (.cmpI .leq (tm 21) (ki 40)), pm 2 22]
def c23_b : PCode := (.seq (.reg p23_4) (.seq (.seq (.reg p23_5) (.block 0 (.loop c23_3))) (.seq (.reg p23_11) .ret)))
def c23 : FCode := ⟨23, c23_b, [(.tmp 2)], some ([2], [], []), false⟩
theorem c23_ok : compF Go.Proofs.Tryz.prog brs 23 = some (eraseF c23) := by kernel_rfl
def p9_10 : LP := [po 1 (.box 33 (tm 0)), po 2 (.mov (ki 0))]
def p9_11 : LP := [po 7 (fd 0 1), po 8 (lt 3 7), po 9 (fd 28 1), po 10 (lt 3 9), po 3 (.alloc [(2, (.int .i64 0)), (1, (.slice .none 0 0))]), po 4 (.alloc [(2, (.int .i64 0)), (1, (.slice .none 0 0))]), pS 3 3 8, pS 3 4 10]
def p9_12 : LP := [po 11 (lt 3 3), po 12 (c1 19 11), po 13 (ck 12 0), pm 14 13, pg 15 14 (lt 3 4), pg 16 14 (c1 19 15), pg 17 14 (ck 16 0), po 18 (.pick (tm 14) (tm 17) (.const (.bool .false))), pm 19 18, pg 20 19 (fd 0 3), pg 21 19 (lf 1 20), pg 22 19 (fd 0 4), pg 23 19 (lf 1 22), pg 24 19 (.cmpI .eql (tm 21) (tm 23)), po 25 (.pick (tm 19) (tm 24) (.const (.bool .false))), pm 26 25, pg 27 26 (fd 1 3), pg 28 26 (lf 1 27), pg 29 26 (fd 1 4), pg 30 26 (lf 1 29), pg 31 26 (.cmpI .eql (tm 28) (tm 30)), po 32 (.pick (tm 26) (tm 31) (.const (.bool .false))), pm 5 32]
def p9_13 : LP := [pm 33 5, pm 34 33, pg 35 34 (fd 3 1), pg 36 34 (lf 1 35), pg 37 34 (fd 1 3), pg 38 34 (lf 1 37), pg 39 34 (.arI .sub (tm 38) (ki 1)), pg 40 34 (.call 20 [(tm 36), (ki 0), (tm 39)]), po 41 (.pick (tm 34) (tm 40) (.const (.bool .false))), pm 42 41, pg 43 42 (fd 4 1), pg 44 42 (lf 1 43), pg 45 42 (fd 0 3), pg 46 42 (lf 1 45), pg 47 42 (.arI .sub (tm 46) (ki 1)), pg 48 42 (.call 20 [(tm 44), (ki 0), (tm 47)]), po 49 (.pick (tm 42) (tm 48) (.const (.bool .false))), pm 50 49, pg 51 50 (fd 5 1), pg 52 50 (lf 1 51), pg 53 50 (.un .not (tm 52)), pg 54 50 (.mov (tm 53)), pf 55 54 (fd 4 1), pf 56 54 (lf 1 55), pf 57 54 (fd 0 3), pf 58 54 (lf 1 57), pf 59 54 (.arI .sub (tm 58) (ki 1)), pf 60 54 (.cmpI .eql (tm 56) (tm 59)), pg 61 50 (.pick (tm 54) (.const (.bool .true)) (tm 60)), po 62 (.pick (tm 50) (tm 61) (.const (.bool .false))), pm 5 62]
def p9_14 : LP := [pm 63 5, pm 64 63, pg 65 64 (fd 6 1), pg 66 64 (lf 1 65), pg 67 64 (fd 7 1), pg 68 64 (lf 1 67), pg 69 64 (.arI .sub (tm 68) (ki 1)), pg 70 64 (.call 20 [(tm 66), (ki 0), (tm 69)]), po 71 (.pick (tm 64) (tm 70) (.const (.bool .false))), pm 72 71, pg 73 72 (fd 7 1), pg 74 72 (lf 1 73), pg 75 72 (fd 1 3), pg 76 72 (lf 1 75), pg 77 72 (.cmpI .leq (tm 74) (tm 76)), po 78 (.pick (tm 72) (tm 77) (.const (.bool .false))), pm 5 78]
def p9_15 : LP := [pm 79 5, pm 80 79, pg 81 80 (fd 8 1), pg 82 80 (lt 3 81), pg 83 80 (c1 21 82), pg 84 80 (ck 83 0), po 85 (.pick (tm 80) (tm 84) (.const (.bool .false))), pm 86 85, pg 87 86 (fd 19 1), pg 88 86 (fd 2 87), pg 89 86 (lt 3 88), pg 90 86 (c1 21 89), pg 91 86 (ck 90 0), po 92 (.pick (tm 86) (tm 91) (.const (.bool .false))), pm 93 92, pg 94 93 (fd 11 1), pg 95 93 (lf 1 94), pg 96 93 (.call 20 [(tm 95), (ki 0), (ki 2047)]), po 97 (.pick (tm 93) (tm 96) (.const (.bool .false))), pm 5 97]
def p9_16 : LP := [po 98 (.mov (ki 0))]
def p9_17 : LP := [po 99 (.cmpI .lss (tm 98) (ki 2))]
def p9_18 : LP := [pm 100 98, pm 6 100]
def p9_19 : LP := [pm 101 5, pm 102 101, pg 103 102 (.mov (tm 6)), pg 104 102 (fd 16 1), pg 105 102 (.ixA 2 1 (tm 104) (tm 103)), pg 106 102 (lf 1 105), pg 107 102 (c1 22 106), po 108 (.pick (tm 102) (tm 107) (.const (.bool .false))), pm 109 108, pg 110 109 (.mov (tm 6)), pg 111 109 (fd 19 1), pg 112 109 (fd 6 111), pg 113 109 (.ixA 2 1 (tm 112) (tm 110)), pg 114 109 (lf 1 113), pg 115 109 (c1 22 114), po 116 (.pick (tm 109) (tm 115) (.const (.bool .false))), pm 5 116]
def p9_20 : LP := [po 117 (.arI .add (tm 98) (ki 1)), pm 98 117]
def c9_4 : PCode := (.keep [1, 5, 98] [(16, .id 16)] [] (.seq (.block 1 (.seq (.reg p9_18) (.reg p9_19))) (.reg p9_20)))
def c9_5 : PCode := (.loop (.seq (.reg p9_17) (.seq (.cond (.tmp 99) .skip (.exit 0)) c9_4)))
def p9_21 : LP := [pm 118 5, pm 119 118, pg 120 119 (fd 18 1), pg 121 119 (lf 1 120), pg 122 119 (.call 20 [(tm 121), (ki 0), (ki 1)]), po 123 (.pick (tm 119) (tm 122) (.const (.bool .false))), pm 124 123, pg 125 124 (fd 19 1), pg 126 124 (fd 8 125), pg 127 124 (lf 1 126), pg 128 124 (.call 20 [(tm 127), (ki 0), (ki 1)]), po 129 (.pick (tm 124) (tm 128) (.const (.bool .false))), pm 5 129]
def p9_22 : LP := [pm 130 5, pm 131 130, pg 132 131 (fd 19 1), pg 133 131 (fd 0 132), pg 134 131 (lf 1 133), pg 135 131 (.call 20 [(tm 134), (ki 0), (ki 59)]), po 136 (.pick (tm 131) (tm 135) (.const (.bool .false))), pm 137 136, pg 138 137 (fd 19 1), pg 139 137 (fd 1 138), pg 140 137 (lf 1 139), pg 141 137 (.call 20 [(tm 140), (ki 0), (ki 159)]), po 142 (.pick (tm 137) (tm 141) (.const (.bool .false))), pm 5 142]
def p9_23 : LP := [pm 143 5, pm 144 143, pg 145 144 (fd 31 1), pg 146 144 (lf 1 145), pg 147 144 (.len .true (tm 146)), pg 148 144 (.cmpI .leq (tm 147) (ki 256)), po 149 (.pick (tm 144) (tm 148) (.const (.bool .false))), pm 150 149, pg 151 150 (fd 32 1), pg 152 150 (lf 1 151), pg 153 150 (c1 23 152), po 154 (.pick (tm 150) (tm 153) (.const (.bool .false))), pm 5 154]
def p9_24 : LP := [pm 155 5, po 156 (.un .not (tm 155))]
def p9_25 : LP := [po 2 (.mov (ki 4))]
def p9_26 : LP := [po 2 (.mov (ki 0))]
def c9_1 : PCode := (.keep [1, 5] [(16, .id 16)] [] (.seq (.reg p9_23) (.seq (.seq (.reg p9_24) (.cond (.tmp 156) (.seq (.reg p9_25) .ret) .skip)) (.seq (.reg p9_26) .ret))))
def c9_2 : PCode := (.keep [1, 5] [(16, .id 16)] [] (.seq (.reg p9_22) c9_1))
def c9_3 : PCode := (.keep [1, 5] [(16, .id 16)] [] (.seq (.reg p9_21) c9_2))
def c9_6 : PCode := (.keep [1, 5] [(16, .id 16)] [] (.seq (.seq (.reg p9_16) (.block 0 c9_5)) c9_3))
def c9_7 : PCode := (.keep [1, 5] [(16, .id 16)] [] (.seq (.reg p9_15) c9_6))
def c9_8 : PCode := (.keep [1, 3, 5] [(16, .id 16), (32, .id 32)] [] (.seq (.reg p9_14) c9_7))
def c9_9 : PCode := (.keep [1, 3, 5] [(16, .id 16), (32, .id 32)] [] (.seq (.reg p9_13) c9_8))
def c9_b : PCode := (.seq (.reg p9_10) (.seq (.regD p9_11 [(1, 4), (3, 4), (1, 5), (3, 5), (4, 5), (3, 6)]) (.seq (.reg p9_12) c9_9)))
def c9 : FCode := ⟨157, c9_b, [(.tmp 2)], some ([2], [], []), false⟩
theorem c9_ok : compF Go.Proofs.Tryz.prog brs 9 = some (eraseF c9) := by kernel_rfl
def p10_5 : LP := [po 4 (.mov (.const (.bool .false)))]
def p10_6 : LP := [pm 6 0, po 7 (.len .false (tm 6)), pm 8 1, po 9 (.len .false (tm 8)), po 10 (.cmpI .neq (tm 7) (tm 9))]
def p10_7 : LP := [po 4 (.mov (.const (.bool .false)))]
def p10_8 : LP := [pm 11 0, po 12 (.len .false (tm 11)), po 13 (.mov (ki 0))]
def p10_9 : LP := [po 14 (.cmpI .lss (tm 13) (tm 12))]
def p10_10 : LP := [pm 15 13, pm 5 15]
def p10_11 : LP := [pm 16 0, pm 17 5, po 18 (.ixS 49 4 (tm 16) (tm 17)), po 19 (lt 4 18), pm 20 1, pm 21 5, po 22 (.ixS 49 4 (tm 20) (tm 21)), po 23 (lt 4 22), po 24 (.eqA .true [(4, .int)] (tm 19) (tm 23))]
def p10_12 : LP := [po 4 (.mov (.const (.bool .false)))]
def p10_13 : LP := [po 25 (.arI .add (tm 13) (ki 1)), pm 13 25]
def c10_1 : PCode := (.keep [0, 1, 12, 13] [] [] (.seq (.block 1 (.seq (.reg p10_10) (.seq (.regD p10_11 []) (.cond (.tmp 24) (.seq (.reg p10_12) .ret) .skip)))) (.reg p10_13)))
def c10_2 : PCode := (.keep [0, 1, 12, 13, 14] [] [] (.seq (.cond (.tmp 14) .skip (.keep [] [] [] (.exit 0))) c10_1))
def c10_3 : PCode := (.keep [0, 1, 12, 13] [] [] (.seq (.reg p10_9) c10_2))
def p10_14 : LP := [po 4 (.mov (.const (.bool .true)))]
def c10_4 : PCode := (.keep [0, 1] [] [] (.seq (.seq (.reg p10_8) (.block 0 (.loop c10_3))) (.seq (.reg p10_14) .ret)))
def c10_b : PCode := (.seq (.reg p10_5) (.seq (.seq (.reg p10_6) (.cond (.tmp 10) (.seq (.reg p10_7) .ret) .skip)) c10_4))
def c10 : FCode := ⟨26, c10_b, [(.tmp 4)], some ([4], [], []), false⟩
theorem c10_ok : compF Go.Proofs.Tryz.prog brs 10 = some (eraseF c10) := by kernel_rfl
def p24_1 : LP := [po 2 (.nilS 49 4)]
def p24_2 : LP := [pm 3 0, po 4 (.isN .false (tm 3))]
def p24_3 : LP := [po 2 (.nilS 49 4)]
def p24_4 : LP := [po 5 (.bsl 49 4 0 [] []), pm 6 0, po 7 (.app 49 4 32 (tm 5) (tm 6)), pm 2 7]
def c24_b : PCode := (.seq (.reg p24_1) (.seq (.seq (.reg p24_2) (.cond (.tmp 4) (.seq (.reg p24_3) .ret) .skip)) (.seq (.reg p24_4) .ret)))
def c24 : FCode := ⟨8, c24_b, [(.tmp 2)], some ([2], [(97, (.slot 2 none))], []), true⟩
theorem c24_ok : compF Go.Proofs.Tryz.prog brs 24 = some (eraseF c24) := by kernel_rfl
def p11_1 : LP := [po 2 (.box 3 (tm 0)), po 4 (.nilS 49 4)]
def p11_2 : LP := [po 5 (lt 3 2), pm 6 1, po 7 (.callr 25 [(tm 5), (tm 6)]), po 8 (c1 24 7), pm 4 8]
def c11_b : PCode := (.seq (.reg p11_1) (.seq (.reg p11_2) .ret))
def c11 : FCode := ⟨9, c11_b, [(.tmp 4)], some ([4], [(72, .id 72)], []), false⟩
theorem c11_ok : compF Go.Proofs.Tryz.prog brs 11 = some (eraseF c11) := by kernel_rfl
def p40_2 : LP := [po 1 (.box 6 (tm 0)), po 2 (.mov (.const (.bool .false)))]
def p40_3 : LP := [po 6 (fd 0 1), po 7 (lf 1 6), po 8 (ck 7 4), po 9 (fd 0 1), po 10 (lf 1 9), po 11 (ck 10 3), po 12 (fd 0 1), po 13 (lf 1 12), po 14 (ck 13 5), pm 3 8, pm 4 11, pm 5 14]
def p40_4 : LP := [pm 15 3, pm 16 15, pf 17 16 (fd 2 1), pf 18 16 (lf 1 17), pf 19 16 (ck 18 0), pf 20 16 (.mov (tm 19)), pg 21 20 (fd 4 1), pg 22 20 (lf 1 21), pg 23 20 (.len .false (tm 22)), pg 24 20 (ck 23 0), pf 25 16 (.pick (tm 20) (tm 24) (.const (.bool .false))), po 26 (.pick (tm 16) (.const (.bool .true)) (tm 25)), pm 27 26, pg 28 27 (.mov (tm 3)), pg 29 27 (.mov (tm 28)), pf 30 29 (.mov (tm 4)), pg 31 27 (.pick (tm 29) (.const (.bool .true)) (tm 30)), pg 32 27 (.mov (tm 31)), pf 33 32 (fd 3 1), pf 34 32 (lf 1 33), pf 35 32 (.strO .eql (tm 34) (.const (.string ⟨#[]⟩))), pg 36 27 (.pick (tm 32) (.const (.bool .true)) (tm 35)), po 37 (.pick (tm 27) (tm 36) (.const (.bool .false))), pm 38 37, pg 39 38 (.mov (tm 5)), pg 40 38 (.mov (tm 39)), pf 41 40 (fd 5 1), pf 42 40 (lf 1 41), pf 43 40 (.strO .eql (tm 42) (.const (.string ⟨#[]⟩))), pg 44 38 (.pick (tm 40) (.const (.bool .true)) (tm 43)), po 45 (.pick (tm 38) (tm 44) (.const (.bool .false))), pm 46 45, pg 47 46 (.mov (tm 5)), pg 48 46 (.un .not (tm 47)), pg 49 46 (.mov (tm 48)), pf 50 49 (fd 1 1), pf 51 49 (lf 1 50), pf 52 49 (ck 51 0), pg 53 46 (.pick (tm 49) (.const (.bool .true)) (tm 52)), po 54 (.pick (tm 46) (tm 53) (.const (.bool .false))), pm 2 54]
def c40_1 : PCode := (.keep [1, 3, 4, 5] [(16, .id 16)] [] (.seq (.reg p40_4) .ret))
def c40_b : PCode := (.seq (.reg p40_2) (.seq (.regD p40_3 []) c40_1))
def c40 : FCode := ⟨55, c40_b, [(.tmp 2)], some ([2], [], []), false⟩
theorem c40_ok : compF Go.Proofs.Tryz.prog brs 40 = some (eraseF c40) := by kernel_rfl
def p70_1 : LP := [po 2 (.mov (.const (.bool .false)))]
def p70_2 : LP := [pm 3 0, po 4 (.cmpI .lss (tm 3) (ki (-1))), pm 5 4, pf 6 5 (.mov (tm 0)), pf 7 5 (.cmpI .gtr (tm 6) (ki 16383)), po 8 (.pick (tm 5) (.const (.bool .true)) (tm 7)), pm 2 8]
def c70_b : PCode := (.seq (.reg p70_1) (.seq (.reg p70_2) .ret))
def c70 : FCode := ⟨9, c70_b, [(.tmp 2)], some ([2], [], []), false⟩
theorem c70_ok : compF Go.Proofs.Tryz.prog brs 70 = some (eraseF c70) := by kernel_rfl
def p82_4 : LP := [po 4 (.mov (ki 0))]
def p82_5 : LP := [pm 6 0, po 7 (.len .false (tm 6)), po 8 (.mov (ki 0))]
def p82_6 : LP := [po 9 (.cmpI .lss (tm 8) (tm 7))]
def p82_7 : LP := [pm 10 8, pm 5 10]
def p82_8 : LP := [pm 11 1, pm 12 0, pm 13 5, po 14 (.ixS 3 1 (tm 12) (tm 13)), po 15 (lf 1 14), po 16 (.callv (tm 11) [(tm 15)])]
def p82_9 : LP := [pm 17 5, pm 4 17]
def p82_10 : LP := [po 18 (.arI .add (tm 8) (ki 1)), pm 8 18]
def c82_1 : PCode := (.keep [0, 1, 7, 8] [] [] (.seq (.block 1 (.seq (.reg p82_7) (.seq (.reg p82_8) (.cond (.tmp 16) (.seq (.reg p82_9) .ret) .skip)))) (.reg p82_10)))
def c82_2 : PCode := (.keep [0, 1, 7, 8, 9] [] [] (.seq (.cond (.tmp 9) .skip (.keep [] [] [] (.exit 0))) c82_1))
def c82_3 : PCode := (.keep [0, 1, 7, 8] [] [] (.seq (.reg p82_6) c82_2))
def p82_11 : LP := [po 4 (.mov (ki (-1)))]
def c82_b : PCode := (.seq (.reg p82_4) (.seq (.seq (.reg p82_5) (.block 0 (.loop c82_3))) (.seq (.reg p82_11) .ret)))
def c82 : FCode := ⟨19, c82_b, [(.tmp 4)], some ([4], [], []), false⟩
theorem c82_ok : compF Go.Proofs.Tryz.prog brs 82 = some (eraseF c82) := by kernel_rfl
def p59_1 : LP := [po 4 (.mov (.const (.bool .false)))]
def p59_2 : LP := [pm 5 0, pm 6 1, po 7 (.call 82 [(tm 5), (tm 6)]), po 8 (.cmpI .geq (tm 7) (ki 0)), pm 4 8]
def c59_b : PCode := (.seq (.reg p59_1) (.seq (.reg p59_2) .ret))
def c59 : FCode := ⟨9, c59_b, [(.tmp 4)], some ([4], [], []), false⟩
theorem c59_ok : compF Go.Proofs.Tryz.prog brs 59 = some (eraseF c59) := by kernel_rfl
def p46_6 : LP := [po 2 (.mov (.const (.string ⟨#[]⟩))), po 3 (.mov (ki 0))]
def p46_7 : LP := [pm 7 0, po 8 (.len .false (tm 7)), po 9 (ck 8 0), pm 10 9, pf 11 10 (.mov (tm 0)), pf 12 10 (.call 59 [(tm 11), (.func 70)]), po 13 (.pick (tm 10) (.const (.bool .true)) (tm 12))]
def p46_8 : LP := [po 2 (.mov (.const (.string ⟨#[]⟩))), po 3 (.mov (ki 1))]
def p46_9 : LP := [pm 14 0, po 15 (.len .false (tm 14)), po 16 (.cmpI .gtr (tm 15) (ki 32))]
def p46_10 : LP := [po 2 (.mov (.const (.string ⟨#[]⟩))), po 3 (.mov (ki 2))]
def p46_11 : LP := [po 4 (.nilS 9 1)]
def p46_12 : LP := [pm 17 0, po 18 (.len .false (tm 17)), po 19 (.mov (ki 0))]
def p46_13 : LP := [po 20 (.cmpI .lss (tm 19) (tm 18))]
def p46_14 : LP := [po 21 (.ixS 3 1 (tm 17) (tm 19)), po 22 (lf 1 21), pm 6 22]
def p46_15 : LP := [pm 23 6, po 24 (.cmpI .lss (tm 23) (ki 0))]
def p46_16 : LP := [pm 25 4, po 26 (.bsl 9 1 1 [(1, (.string ⟨#[]⟩))] [(0, (1, (.const (.string ⟨#[]⟩))))]), po 27 (.app 9 1 16 (tm 25) (tm 26)), pm 4 27]
def p46_17 : LP := [pm 28 4, pm 29 6, po 30 (c1 71 29), po 31 (.bsl 9 1 1 [(1, (.string ⟨#[]⟩))] [(0, (1, (tm 30)))]), po 32 (.app 9 1 16 (tm 28) (tm 31)), pm 4 32]
def p46_18 : LP := [po 33 (.arI .add (tm 19) (ki 1)), pm 19 33]
def c46_1 : PCode := (.keep [4, 17, 18, 19] [(40, .id 40)] [] (.seq (.block 1 (.seq (.reg p46_14) (.seq (.reg p46_15) (.cond (.tmp 24) (.reg p46_16) (.reg p46_17))))) (.reg p46_18)))
def c46_2 : PCode := (.keep [4, 17, 18, 19, 20] [(40, .id 40)] [] (.seq (.cond (.tmp 20) .skip (.keep [4] [(40, .id 40)] [] (.exit 0))) c46_1))
def c46_3 : PCode := (.keep [4, 17, 18, 19] [(40, .id 40)] [] (.seq (.reg p46_13) c46_2))
def p46_19 : LP := [pm 34 4, po 35 (.call 72 [(tm 34), (.const (.string ⟨#[59]⟩))]), pm 2 35, po 3 (.mov (ki 0))]
def c46_4 : PCode := (.keep [0] [] [] (.seq (.reg p46_11) (.seq (.seq (.reg p46_12) (.block 0 (.loop c46_3))) (.seq (.reg p46_19) .ret))))
def c46_5 : PCode := (.keep [0] [] [] (.seq (.seq (.reg p46_9) (.cond (.tmp 16) (.seq (.reg p46_10) .ret) .skip)) c46_4))
def c46_b : PCode := (.seq (.reg p46_6) (.seq (.seq (.reg p46_7) (.cond (.tmp 13) (.seq (.reg p46_8) .ret) .skip)) c46_5))
def c46 : FCode := ⟨36, c46_b, [(.tmp 2), (.tmp 3)], some ([2, 3], [], []), false⟩
theorem c46_ok : compF Go.Proofs.Tryz.prog brs 46 = some (eraseF c46) := by kernel_rfl
def p42_1 : LP := [po 6 (.mov (.const (.bool .false)))]
def p42_2 : LP := [pm 7 0, pm 8 1, po 9 (.cmpI .geq (tm 7) (tm 8)), pm 10 9, pg 11 10 (.mov (tm 0)), pg 12 10 (.mov (tm 2)), pg 13 10 (.cmpI .leq (tm 11) (tm 12)), po 14 (.pick (tm 10) (tm 13) (.const (.bool .false))), pm 6 14]
def c42_b : PCode := (.seq (.reg p42_1) (.seq (.reg p42_2) .ret))
def c42 : FCode := ⟨15, c42_b, [(.tmp 6)], some ([6], [], []), false⟩
theorem c42_ok : compF Go.Proofs.Tryz.prog brs 42 = some (eraseF c42) := by kernel_rfl
def p43_4 : LP := [po 4 (.mov (.const (.bool .false)))]
def p43_5 : LP := [pm 6 0, po 7 (.len .true (tm 6)), po 8 (.mov (ki 0))]
def p43_6 : LP := [po 9 (.cmpI .lss (tm 8) (tm 7))]
def p43_7 : LP := [pm 10 8, pm 5 10]
def p43_8 : LP := [pm 11 0, pm 12 5, po 13 (.ixStr (tm 11) (tm 12)), po 14 (.cvI .i64 (tm 13)), po 15 (.call 42 [(tm 14), (ki 32), (ki 47)]), po 16 (.un .not (tm 15))]
def p43_9 : LP := [po 4 (.mov (.const (.bool .false)))]
def p43_10 : LP := [po 17 (.arI .add (tm 8) (ki 1)), pm 8 17]
def c43_1 : PCode := (.keep [0, 1, 7, 8] [] [] (.seq (.block 1 (.seq (.reg p43_7) (.seq (.reg p43_8) (.cond (.tmp 16) (.seq (.reg p43_9) .ret) .skip)))) (.reg p43_10)))
def c43_2 : PCode := (.keep [0, 1, 7, 8, 9] [] [] (.seq (.cond (.tmp 9) .skip (.keep [0, 1] [] [] (.exit 0))) c43_1))
def c43_3 : PCode := (.keep [0, 1, 7, 8] [] [] (.seq (.reg p43_6) c43_2))
def p43_11 : LP := [pm 18 0, po 19 (.len .true (tm 18)), pm 20 1, po 21 (.cmpI .leq (tm 19) (tm 20)), pm 4 21]
def c43_b : PCode := (.seq (.reg p43_4) (.seq (.seq (.reg p43_5) (.block 0 (.loop c43_3))) (.seq (.reg p43_11) .ret)))
def c43 : FCode := ⟨22, c43_b, [(.tmp 4)], some ([4], [], []), false⟩
theorem c43_ok : compF Go.Proofs.Tryz.prog brs 43 = some (eraseF c43) := by kernel_rfl
def p45_3 : LP := [po 2 (.nilS 3 1)]
def p45_4 : LP := [po 3 (.nilS 3 1)]
def p45_5 : LP := [pm 6 0, po 7 (.rng (tm 6))]
def p45_6 : LP := [po 8 (.nxt (tm 7)), po 9 (.ext (tm 8) 0)]
def p45_7 : LP := [po 10 (.ext (tm 8) 2), pm 5 10]
def p45_8 : LP := [pm 11 3, pm 12 5, po 13 (.cvI .i64 (tm 12)), po 14 (.bsl 3 1 1 [(1, (.int .i64 0))] [(0, (1, (tm 13)))]), po 15 (.app 3 1 8 (tm 11) (tm 14)), pm 3 15]
def c45_1 : PCode := (.keep [3, 7, 8] [(32, .id 32), (64, .id 64)] [] (.block 1 (.seq (.reg p45_7) (.reg p45_8))))
def c45_2 : PCode := (.keep [3, 7] [(32, .id 32), (64, .id 64)] [] (.seq (.reg p45_6) (.seq (.cond (.tmp 9) .skip (.keep [3] [(32, .id 32)] [] (.exit 0))) c45_1)))
def p45_9 : LP := [pm 16 3, pm 2 16]
def c45_b : PCode := (.seq (.reg p45_3) (.seq (.reg p45_4) (.seq (.seq (.reg p45_5) (.block 0 (.loop c45_2))) (.seq (.reg p45_9) .ret))))
def c45 : FCode := ⟨17, c45_b, [(.tmp 2)], some ([2], [(32, .id 32)], []), false⟩
theorem c45_ok : compF Go.Proofs.Tryz.prog brs 45 = some (eraseF c45) := by kernel_rfl
def p26_5 : LP := [po 1 (.box 6 (tm 0)), po 2 (.nilS 3 1), po 3 (.mov (ki 0))]
def p26_6 : LP := [po 8 (lt 6 1), po 9 (c1 40 8), po 10 (.un .not (tm 9))]
def p26_7 : LP := [po 2 (.nilS 3 1), po 3 (.mov (ki 1))]
def p26_8 : LP := [po 11 (fd 1 1), po 12 (lf 1 11), pm 4 12]
def p26_9 : LP := [po 13 (fd 0 1), po 14 (lf 1 13)]
def p26_10 : LP := [po 16 (ck 14 1), pm 15 16]
def p26_11 : LP := [pm 17 4, po 18 (.cmpI .geq (tm 17) (ki 32)), pm 19 18, pg 20 19 (.mov (tm 4)), pg 21 19 (c1 41 20), po 22 (.pick (tm 19) (tm 21) (.const (.bool .false))), pm 23 22, pg 24 23 (.mov (tm 4)), pg 25 23 (.call 42 [(tm 24), (ki 127), (ki 159)]), pg 26 23 (.un .not (tm 25)), po 27 (.pick (tm 23) (tm 26) (.const (.bool .false)))]
def p26_12 : LP := [pm 28 4, po 29 (.bsl 3 1 1 [(1, (.int .i64 0))] [(0, (1, (tm 28)))]), pm 2 29, po 3 (.mov (ki 0))]
def p26_13 : LP := [po 31 (ck 14 2), pm 30 31]
def p26_14 : LP := [pm 32 4, po 33 (.call 42 [(tm 32), (ki 0), (ki 31)]), pm 34 33, pg 35 34 (.mov (tm 4)), pg 36 34 (.cmpI .neq (tm 35) (ki 24)), po 37 (.pick (tm 34) (tm 36) (.const (.bool .false))), pm 38 37, pg 39 38 (.mov (tm 4)), pg 40 38 (.cmpI .neq (tm 39) (ki 26)), po 41 (.pick (tm 38) (tm 40) (.const (.bool .false))), pm 42 41, pg 43 42 (.mov (tm 4)), pg 44 42 (.cmpI .neq (tm 43) (ki 27)), po 45 (.pick (tm 42) (tm 44) (.const (.bool .false)))]
def p26_15 : LP := [pm 46 4, po 47 (.bsl 3 1 1 [(1, (.int .i64 0))] [(0, (1, (tm 46)))]), pm 2 47, po 3 (.mov (ki 0))]
def p26_16 : LP := [po 49 (ck 14 3), pm 48 49]
def p26_17 : LP := [po 50 (fd 3 1), po 51 (lf 1 50), po 52 (.call 43 [(tm 51), (ki 2)]), pm 53 52, pg 54 53 (.mov (tm 4)), pg 55 53 (.call 42 [(tm 54), (ki 48), (ki 126)]), po 56 (.pick (tm 53) (tm 55) (.const (.bool .false))), pm 57 56, pg 58 57 (fd 3 1), pg 59 57 (lf 1 58), pg 60 57 (.strO .neq (tm 59) (.const (.string ⟨#[]⟩))), pg 61 57 (.mov (tm 60)), pf 62 61 (.mov (tm 4)), pf 63 61 (.cvI .u8 (tm 62)), pf 64 61 (.call 44 [(.const (.string ⟨#[91, 93, 80, 88, 94, 95]⟩)), (tm 63)]), pf 65 61 (.cmpI .lss (tm 64) (ki 0)), pg 66 57 (.pick (tm 61) (.const (.bool .true)) (tm 65)), po 67 (.pick (tm 57) (tm 66) (.const (.bool .false)))]
def p26_18 : LP := [po 68 (.bsl 3 1 1 [(1, (.int .i64 0))] [(0, (1, (ki 27)))]), po 69 (fd 3 1), po 70 (lf 1 69), po 71 (c1 45 70), po 72 (.app 3 1 8 (tm 68) (tm 71)), pm 73 4, po 74 (.bsl 3 1 1 [(1, (.int .i64 0))] [(0, (1, (tm 73)))]), po 75 (.app 3 1 8 (tm 72) (tm 74)), pm 2 75, po 3 (.mov (ki 0))]
def p26_19 : LP := [po 77 (ck 14 4), pm 76 77]
def p26_20 : LP := [po 79 (fd 4 1), po 80 (lf 1 79), po 81 (c1 46 80), pm 78 81, po 82 (.ext (tm 78) 0), po 83 (.ext (tm 78) 1), pm 5 82, pm 6 83]
def p26_21 : LP := [po 84 (fd 2 1), po 85 (lf 1 84), po 86 (ck 85 0), pm 87 86, pf 88 87 (fd 2 1), pf 89 87 (lf 1 88), pf 90 87 (.call 42 [(tm 89), (ki 60), (ki 63)]), po 91 (.pick (tm 87) (.const (.bool .true)) (tm 90)), pm 92 91, pg 93 92 (fd 3 1), pg 94 92 (lf 1 93), pg 95 92 (.call 43 [(tm 94), (ki 2)]), po 96 (.pick (tm 92) (tm 95) (.const (.bool .false))), pm 97 96, pg 98 97 (.mov (tm 4)), pg 99 97 (.call 42 [(tm 98), (ki 64), (ki 126)]), po 100 (.pick (tm 97) (tm 99) (.const (.bool .false))), pm 101 100, pg 102 101 (.mov (tm 6)), pg 103 101 (ck 102 0), po 104 (.pick (tm 101) (tm 103) (.const (.bool .false))), pm 105 104, pg 106 105 (.mov (tm 5)), pg 107 105 (.len .true (tm 106)), pg 108 105 (.cmpI .leq (tm 107) (ki 100)), po 109 (.pick (tm 105) (tm 108) (.const (.bool .false)))]
def p26_22 : LP := [po 110 (.bsl 3 1 2 [(2, (.int .i64 0))] [(0, (1, (ki 27))), (1, (1, (ki 91)))]), pm 7 110]
def p26_23 : LP := [po 111 (fd 2 1), po 112 (lf 1 111), po 113 (.cmpI .neq (tm 112) (ki 0))]
def p26_24 : LP := [pm 114 7, po 115 (fd 2 1), po 116 (lf 1 115), po 117 (.bsl 3 1 1 [(1, (.int .i64 0))] [(0, (1, (tm 116)))]), po 118 (.app 3 1 8 (tm 114) (tm 117)), pm 7 118]
def p26_25 : LP := [pm 119 7, pm 120 5, po 121 (fd 3 1), po 122 (lf 1 121), po 123 (.strO .add (tm 120) (tm 122)), po 124 (c1 45 123), po 125 (.app 3 1 8 (tm 119) (tm 124)), pm 126 4, po 127 (.bsl 3 1 1 [(1, (.int .i64 0))] [(0, (1, (tm 126)))]), po 128 (.app 3 1 8 (tm 125) (tm 127)), pm 2 128, po 3 (.mov (ki 0))]
def c26_1 : PCode := (.keep [1, 4, 5, 7] [(16, .id 16), (888, .id 888)] [] (.seq (.reg p26_25) .ret))
def c26_3 : PCode := (.keep [1, 4, 5] [(16, .id 16)] [] (.seq (.reg p26_22) (.seq (.seq (.reg p26_23) (.cond (.tmp 113) (.reg p26_24) .skip)) c26_1)))
def p26_26 : LP := [po 130 (ck 14 5), pm 129 130]
def p26_27 : LP := [po 131 (fd 5 1), po 132 (lf 1 131), po 133 (c1 47 132)]
def p26_28 : LP := [po 134 (.bsl 3 1 2 [(2, (.int .i64 0))] [(0, (1, (ki 27))), (1, (1, (ki 93)))]), po 135 (fd 5 1), po 136 (lf 1 135), po 137 (c1 45 136), po 138 (.app 3 1 8 (tm 134) (tm 137)), po 139 (.bsl 3 1 1 [(1, (.int .i64 0))] [(0, (1, (ki 7)))]), po 140 (.app 3 1 8 (tm 138) (tm 139)), pm 2 140, po 3 (.mov (ki 0))]
def c26_29 : PCode := (.cond (.tmp 76) (.seq (.reg p26_20) (.seq (.reg p26_21) (.cond (.tmp 109) c26_3 .skip))) (.seq (.reg p26_26) (.cond (.tmp 129) (.seq (.reg p26_27) (.cond (.tmp 133) (.seq (.reg p26_28) .ret) .skip)) .skip)))
def c26_30 : PCode := (.cond (.tmp 30) (.seq (.reg p26_14) (.cond (.tmp 45) (.seq (.reg p26_15) .ret) .skip)) (.seq (.reg p26_16) (.cond (.tmp 48) (.seq (.reg p26_17) (.cond (.tmp 67) (.seq (.reg p26_18) .ret) .skip)) (.seq (.reg p26_19) c26_29))))
def p26_31 : LP := [po 2 (.nilS 3 1), po 3 (.mov (ki 1))]
def c26_2 : PCode := (.seq (.reg p26_31) .ret)
def c26_4 : PCode := (.keep [1] [(16, .id 16)] [] (.seq (.reg p26_8) (.seq (.seq (.reg p26_9) (.block 0 (.seq (.reg p26_10) (.cond (.tmp 15) (.seq (.reg p26_11) (.cond (.tmp 27) (.seq (.reg p26_12) .ret) .skip)) (.seq (.reg p26_13) c26_30))))) c26_2)))
def c26_b : PCode := (.seq (.reg p26_5) (.seq (.seq (.reg p26_6) (.cond (.tmp 10) (.seq (.reg p26_7) .ret) .skip)) c26_4))
def c26 : FCode := ⟨141, c26_b, [(.tmp 2), (.tmp 3)], some ([2, 3], [(1161, (.slot 2 none))], []), false⟩
theorem c26_ok : compF Go.Proofs.Tryz.prog brs 26 = some (eraseF c26) := by kernel_rfl
def p12_1 : LP := [pm 9 1, pm 10 2, po 11 (.build [(3, (.int .i64 0)), (1, (.string ⟨#[]⟩)), (1, (.slice .none 0 0)), (1, (.string ⟨#[]⟩))] [(0, (1, (ki 4))), (1, (1, (tm 9))), (4, (1, (tm 10)))]), po 12 (c1 26 11), pm 8 12, po 13 (.ext (tm 8) 0), po 14 (.ext (tm 8) 1), pm 6 13, pm 7 14]
def p12_2 : LP := [pm 15 0, pm 16 0, po 17 (.nilC (tm 16)), po 18 (fd 0 17), po 19 (lf 1 18), pm 20 6, po 21 (.app 3 1 8 (tm 19) (tm 20)), po 22 (.nilC (tm 15)), po 23 (fd 0 22), pS 1 23 21]
def c12_b : PCode := (.seq (.reg p12_1) (.reg p12_2))
def c12 : FCode := ⟨24, c12_b, [], some ([1000001, 1000002], [(0, .id 0), (2, .id 2), (1, .id 1)], []), false⟩
theorem c12_ok : compF Go.Proofs.Tryz.prog brs 12 = some (eraseF c12) := by kernel_rfl
def p48_1 : LP := [po 2 (.mov (ki 0))]
def p48_2 : LP := [po 3 (.build [(10, (.int .i64 0))] [(0, (1, (ki 0))), (1, (1, (ki 1))), (2, (1, (ki 2))), (3, (1, (ki 4))), (4, (1, (ki 8))), (5, (1, (ki 16))), (6, (1, (ki 0))), (7, (1, (ki 32))), (8, (1, (ki 64))), (9, (1, (ki 128)))]), pm 4 0, po 5 (.ixV .false 10 1 (tm 3) (tm 4)), pm 2 5]
def c48_b : PCode := (.seq (.reg p48_1) (.seq (.reg p48_2) .ret))
def c48 : FCode := ⟨6, c48_b, [(.tmp 2)], some ([2], [], []), false⟩
theorem c48_ok : compF Go.Proofs.Tryz.prog brs 48 = some (eraseF c48) := by kernel_rfl
def p49_2 : LP := [po 4 (.nilS 3 1)]
def p49_3 : LP := [pm 6 0, po 7 (.cmpI .leq (tm 6) (ki 8)), pm 5 7]
def p49_4 : LP := [pm 8 1, pm 9 0, po 10 (.arI .add (tm 8) (tm 9)), po 11 (.arI .sub (tm 10) (ki 1)), po 12 (.bsl 3 1 1 [(1, (.int .i64 0))] [(0, (1, (tm 11)))]), pm 4 12]
def p49_5 : LP := [pm 14 0, po 15 (.cmpI .leq (tm 14) (ki 16)), pm 13 15]
def p49_6 : LP := [pm 16 1, po 17 (.arI .add (tm 16) (ki 60)), pm 18 0, po 19 (.arI .add (tm 17) (tm 18)), po 20 (.arI .sub (tm 19) (ki 9)), po 21 (.bsl 3 1 1 [(1, (.int .i64 0))] [(0, (1, (tm 20)))]), pm 4 21]
def p49_7 : LP := [pm 23 0, po 24 (.cmpI .leq (tm 23) (ki 256)), pm 22 24]
def p49_8 : LP := [pm 25 1, po 26 (.arI .add (tm 25) (ki 8)), pm 27 0, po 28 (.arI .sub (tm 27) (ki 1)), po 29 (.bsl 3 1 3 [(3, (.int .i64 0))] [(0, (1, (tm 26))), (1, (1, (ki 5))), (2, (1, (tm 28)))]), pm 4 29]
def c49_9 : PCode := (.block 0 (.seq (.reg p49_3) (.cond (.tmp 5) (.seq (.reg p49_4) .ret) (.seq (.reg p49_5) (.cond (.tmp 13) (.seq (.reg p49_6) .ret) (.seq (.reg p49_7) (.cond (.tmp 22) (.seq (.reg p49_8) .ret) .skip)))))))
def p49_10 : LP := [pm 30 1, po 31 (.arI .add (tm 30) (ki 8)), pm 32 0, po 33 (.sh .shr (tm 32) (.const (.int .u64 16))), po 34 (.arI .and (tm 33) (ki 255)), pm 35 0, po 36 (.sh .shr (tm 35) (.const (.int .u64 8))), po 37 (.arI .and (tm 36) (ki 255)), pm 38 0, po 39 (.arI .and (tm 38) (ki 255)), po 40 (.bsl 3 1 5 [(5, (.int .i64 0))] [(0, (1, (tm 31))), (1, (1, (ki 2))), (2, (1, (tm 34))), (3, (1, (tm 37))), (4, (1, (tm 39)))]), pm 4 40]
def c49_1 : PCode := (.keep [0, 1] [] [] (.seq (.reg p49_10) .ret))
def c49_b : PCode := (.seq (.reg p49_2) (.seq c49_9 c49_1))
def c49 : FCode := ⟨41, c49_b, [(.tmp 4)], some ([4], [(361, (.slot 4 none))], []), false⟩
theorem c49_ok : compF Go.Proofs.Tryz.prog brs 49 = some (eraseF c49) := by kernel_rfl
def p27_11 : LP := [po 2 (.box 3 (tm 0)), po 3 (.box 3 (tm 1)), po 4 (.nilS 3 1), po 5 (.mov (ki 0))]
def p27_12 : LP := [po 11 (lt 3 2), po 12 (lt 3 3), po 13 (.build [(6, (.int .i64 0))] [(0, (3, (tm 11))), (3, (3, (tm 12)))]), po 14 (.mov (ki 0))]
def p27_13 : LP := [po 15 (.cmpI .lss (tm 14) (ki 2))]
def p27_14 : LP := [po 16 (.ixV .true 2 3 (tm 13) (tm 14)), po 7 (.alloc [(3, (.int .i64 0))]), pS 3 7 16]
def p27_15 : LP := [po 17 (lt 3 7), po 18 (c1 21 17), pm 8 18]
def p27_16 : LP := [pm 19 8, po 20 (.cmpI .neq (tm 19) (ki 0))]
def p27_17 : LP := [pm 21 8, po 4 (.nilS 3 1), pm 5 21]
def p27_18 : LP := [po 22 (.arI .add (tm 14) (ki 1)), pm 14 22]
def c27_9 : PCode := (.keep [2, 3, 13, 14] [(24, .id 24), (32, .id 32)] [] (.seq (.block 1 (.seq (.reg p27_14) (.seq (.reg p27_15) (.seq (.reg p27_16) (.cond (.tmp 20) (.seq (.reg p27_17) .ret) .skip))))) (.reg p27_18)))
def c27_10 : PCode := (.loop (.seq (.reg p27_13) (.seq (.cond (.tmp 15) .skip (.exit 0)) c27_9)))
def p27_19 : LP := [po 9 (.nilS 3 1)]
def p27_20 : LP := [po 23 (fd 0 2), po 24 (lf 1 23), po 25 (fd 0 3), po 26 (lf 1 25), po 27 (.arI .andNot (tm 24) (tm 26)), po 28 (.cmpI .neq (tm 27) (ki 0)), pm 29 28, pf 30 29 (fd 1 2), pf 31 29 (lf 1 30), pf 32 29 (.cmpI .neq (tm 31) (ki 0)), pf 33 29 (.mov (tm 32)), pg 34 33 (fd 1 3), pg 35 33 (lf 1 34), pg 36 33 (ck 35 0), pf 37 29 (.pick (tm 33) (tm 36) (.const (.bool .false))), po 38 (.pick (tm 29) (.const (.bool .true)) (tm 37)), pm 39 38, pf 40 39 (fd 2 2), pf 41 39 (lf 1 40), pf 42 39 (.cmpI .neq (tm 41) (ki 0)), pf 43 39 (.mov (tm 42)), pg 44 43 (fd 2 3), pg 45 43 (lf 1 44), pg 46 43 (ck 45 0), pf 47 39 (.pick (tm 43) (tm 46) (.const (.bool .false))), po 48 (.pick (tm 39) (.const (.bool .true)) (tm 47))]
def p27_21 : LP := [pm 49 9, po 50 (.bsl 3 1 1 [(1, (.int .i64 0))] [(0, (1, (ki 0)))]), po 51 (.app 3 1 8 (tm 49) (tm 50)), po 52 (.build [(3, (.int .i64 0))] []), pm 9 51, pS 3 2 52]
def c27_6 : PCode := (.keep [2, 3, 9] [(24, .id 24), (32, .id 32), (80, .id 80)] [] (.reg p27_21))
def c27_7 : PCode := (.keep [2, 3, 9] [(24, .id 24), (32, .id 32), (80, .id 80)] [] .skip)
def p27_22 : LP := [po 10 (.mov (ki 1))]
def p27_23 : LP := [pm 53 10, po 54 (.cmpI .leq (tm 53) (ki 9))]
def p27_24 : LP := [pm 57 10, po 58 (c1 48 57), po 59 (fd 0 3), po 60 (lf 1 59), po 61 (.arI .and (tm 58) (tm 60)), po 62 (fd 0 2), po 63 (lf 1 62), po 64 (.arI .andNot (tm 61) (tm 63)), po 65 (.cmpI .neq (tm 64) (ki 0))]
def p27_25 : LP := [pm 66 9, pm 67 10, po 68 (.bsl 3 1 1 [(1, (.int .i64 0))] [(0, (1, (tm 67)))]), po 69 (.app 3 1 8 (tm 66) (tm 68)), pm 9 69]
def p27_26 : LP := [pm 55 10, po 56 (.arI .add (tm 55) (ki 1)), pm 10 56]
def c27_3 : PCode := (.keep [2, 3, 9, 10] [(24, .id 24), (32, .id 32), (80, .id 80)] [] (.seq (.block 3 (.seq (.regD p27_24 [(1, 3), (1, 6)]) (.cond (.tmp 65) (.reg p27_25) .skip))) (.reg p27_26)))
def c27_4 : PCode := (.keep [2, 3, 9, 10] [(24, .id 24), (32, .id 32), (80, .id 80)] [] (.seq (.seq (.reg p27_23) (.cond (.tmp 54) .skip (.keep [2, 3, 9] [(24, .id 24), (32, .id 32), (80, .id 80)] [] (.exit 2)))) c27_3))
def p27_27 : LP := [po 70 (fd 1 3), po 71 (lf 1 70), po 72 (fd 1 2), po 73 (lf 1 72), po 74 (.cmpI .neq (tm 71) (tm 73))]
def p27_28 : LP := [pm 75 9, po 76 (fd 1 3), po 77 (lf 1 76), po 78 (.call 49 [(tm 77), (ki 30)]), po 79 (.app 3 1 8 (tm 75) (tm 78)), pm 9 79]
def p27_29 : LP := [po 80 (fd 2 3), po 81 (lf 1 80), po 82 (fd 2 2), po 83 (lf 1 82), po 84 (.cmpI .neq (tm 81) (tm 83))]
def p27_30 : LP := [pm 85 9, po 86 (fd 2 3), po 87 (lf 1 86), po 88 (.call 49 [(tm 87), (ki 40)]), po 89 (.app 3 1 8 (tm 85) (tm 88)), pm 9 89]
def p27_31 : LP := [pm 90 9, pm 4 90, po 5 (.mov (ki 0))]
def c27_1 : PCode := (.keep [2, 3, 9] [(24, .id 24), (32, .id 32), (80, .id 80)] [] (.seq (.seq (.reg p27_29) (.cond (.tmp 84) (.reg p27_30) .skip)) (.seq (.reg p27_31) .ret)))
def c27_2 : PCode := (.keep [2, 3, 9] [(24, .id 24), (32, .id 32), (80, .id 80)] [] (.seq (.seq (.reg p27_27) (.cond (.tmp 74) (.reg p27_28) .skip)) c27_1))
def c27_5 : PCode := (.keep [2, 3, 9] [(24, .id 24), (32, .id 32), (80, .id 80)] [] (.seq (.seq (.reg p27_22) (.block 2 (.loop c27_4))) c27_2))
def c27_8 : PCode := (.keep [2, 3] [(24, .id 24), (32, .id 32)] [] (.seq (.reg p27_19) (.seq (.seq (.reg p27_20) (.cond (.tmp 48) c27_6 c27_7)) c27_5)))
def c27_b : PCode := (.seq (.reg p27_11) (.seq (.seq (.reg p27_12) (.block 0 c27_10)) c27_8))
def c27 : FCode := ⟨91, c27_b, [(.tmp 4), (.tmp 5)], some ([4, 5], [(761, (.slot 4 none))], []), false⟩
theorem c27_ok : compF Go.Proofs.Tryz.prog brs 27 = some (eraseF c27) := by kernel_rfl
def p13_1 : LP := [po 3 (.box 3 (tm 1))]
def p13_2 : LP := [pm 7 0, po 8 (.nilC (tm 7)), po 9 (fd 1 8), po 10 (lt 3 9), po 11 (lt 3 3), po 12 (.call 27 [(tm 10), (tm 11)]), pm 6 12, po 13 (.ext (tm 6) 0), po 14 (.ext (tm 6) 1), pm 4 13, pm 5 14]
def p13_3 : LP := [pm 15 4, po 16 (.len .false (tm 15)), po 17 (.cmpI .gtr (tm 16) (ki 0))]
def p13_4 : LP := [pm 18 0, pm 19 4, po 20 (.callr 12 [(tm 18), (ki 109), (tm 19)])]
def p13_5 : LP := [pm 21 0, po 22 (lt 3 3), po 23 (.nilC (tm 21)), po 24 (fd 1 23), pS 3 24 22]
def c13_b : PCode := (.seq (.reg p13_1) (.seq (.seq (.regD p13_2 []) (.seq (.reg p13_3) (.cond (.tmp 17) (.reg p13_4) .skip))) (.reg p13_5)))
def c13 : FCode := ⟨25, c13_b, [], some ([1000001], [(0, .id 0), (1, .id 1)], []), false⟩
theorem c13_ok : compF Go.Proofs.Tryz.prog brs 13 = some (eraseF c13) := by kernel_rfl
def p5_15 : LP := [po 2 (.box 33 (tm 0)), po 3 (.box 33 (tm 1)), po 4 (.nilS 3 1), po 5 (.mov (ki 0))]
def p5_16 : LP := [po 13 (fd 0 2), po 14 (lt 3 13), po 15 (fd 0 3), po 16 (lt 3 15), po 6 (.alloc [(2, (.int .i64 0)), (1, (.slice .none 0 0))]), po 7 (.alloc [(2, (.int .i64 0)), (1, (.slice .none 0 0))]), pS 3 6 14, pS 3 7 16]
def p5_17 : LP := [po 18 (lt 33 2), po 19 (c1 9 18), po 20 (.cmpI .neq (tm 19) (ki 0)), pm 21 20, pf 22 21 (lt 33 3), pf 23 21 (c1 9 22), pf 24 21 (.cmpI .neq (tm 23) (ki 0)), po 25 (.pick (tm 21) (.const (.bool .true)) (tm 24)), pm 17 25]
def p5_18 : LP := [po 4 (.nilS 3 1), po 5 (.mov (ki 4))]
def c5_11 : PCode := (.keep [] [] [] (.seq (.reg p5_18) .ret))
def p5_19 : LP := [po 27 (fd 0 6), po 28 (lf 1 27), po 29 (fd 0 7), po 30 (lf 1 29), po 31 (.cmpI .neq (tm 28) (tm 30)), pm 32 31, pf 33 32 (fd 1 6), pf 34 32 (lf 1 33), pf 35 32 (fd 1 7), pf 36 32 (lf 1 35), pf 37 32 (.cmpI .neq (tm 34) (tm 36)), po 38 (.pick (tm 32) (.const (.bool .true)) (tm 37)), pm 26 38]
def p5_20 : LP := [po 4 (.nilS 3 1), po 5 (.mov (ki 1))]
def c5_12 : PCode := (.keep [] [] [] (.seq (.reg p5_20) .ret))
def p5_21 : LP := [po 40 (fd 11 2), po 41 (lf 1 40), po 42 (.arI .and (tm 41) (ki 3)), po 43 (.cmpI .neq (tm 42) (ki 0)), pm 44 43, pf 45 44 (fd 18 2), pf 46 44 (lf 1 45), pf 47 44 (fd 16 2), pf 48 44 (.ixA 2 1 (tm 47) (tm 46)), pf 49 44 (lf 1 48), pf 50 44 (.cmpI .neq (tm 49) (ki 1)), po 51 (.pick (tm 44) (.const (.bool .true)) (tm 50)), pm 39 51]
def p5_22 : LP := [po 4 (.nilS 3 1), po 5 (.mov (ki 7))]
def c5_13 : PCode := (.keep [] [] [] (.seq (.reg p5_22) .ret))
def p5_23 : LP := [po 53 (fd 2 6), po 54 (lf 1 53), po 55 (fd 2 7), po 56 (lf 1 55), po 57 (.call 10 [(tm 54), (tm 56)]), pm 58 57, pg 59 58 (fd 3 2), pg 60 58 (lf 1 59), pg 61 58 (fd 3 3), pg 62 58 (lf 1 61), pg 63 58 (.cmpI .eql (tm 60) (tm 62)), po 64 (.pick (tm 58) (tm 63) (.const (.bool .false))), pm 65 64, pg 66 65 (fd 4 2), pg 67 65 (lf 1 66), pg 68 65 (fd 4 3), pg 69 65 (lf 1 68), pg 70 65 (.cmpI .eql (tm 67) (tm 69)), po 71 (.pick (tm 65) (tm 70) (.const (.bool .false))), pm 72 71, pg 73 72 (fd 8 2), pg 74 72 (lt 3 73), pg 75 72 (fd 8 3), pg 76 72 (lt 3 75), pg 77 72 (.eqA .false [(3, .int)] (tm 74) (tm 76)), po 78 (.pick (tm 72) (tm 77) (.const (.bool .false))), pm 52 78]
def p5_24 : LP := [po 4 (.nilS 3 1), po 5 (.mov (ki 0))]
def c5_14 : PCode := (.keep [2, 3, 6, 7] [(24, .id 24), (32, .id 32), (56, .id 56), (64, .id 64)] [] (.seq (.reg p5_23) (.cond (.tmp 52) (.seq (.reg p5_24) .ret) .skip)))
def p5_25 : LP := [po 79 (fd 8 2), po 80 (lt 3 79), po 81 (.build [(1, (.slice .none 0 0)), (3, (.int .i64 0))] [(1, (3, (tm 80)))]), po 82 (.box 4 (tm 81)), pm 8 82]
def p5_26 : LP := [po 83 (fd 1 7), po 84 (lf 1 83), po 85 (.mov (ki 0))]
def p5_27 : LP := [po 86 (.cmpI .lss (tm 85) (tm 84))]
def p5_28 : LP := [pm 87 85, pm 9 87]
def p5_29 : LP := [po 88 (lt 3 7), pm 89 9, po 90 (.call 11 [(tm 88), (tm 89)]), pm 10 90]
def p5_30 : LP := [po 91 (lt 3 6), pm 92 9, po 93 (.call 11 [(tm 91), (tm 92)]), pm 94 10, po 95 (.call 10 [(tm 93), (tm 94)])]
def p5_31 : LP := [pm 96 8, pm 97 9, po 98 (.arI .add (tm 97) (ki 1)), po 99 (.bsl 3 1 2 [(2, (.int .i64 0))] [(0, (1, (tm 98))), (1, (1, (ki 1)))]), po 100 (.callr 12 [(tm 96), (ki 72), (tm 99)])]
def p5_32 : LP := [pm 101 10, po 102 (.len .false (tm 101)), po 103 (.mov (ki 0))]
def p5_33 : LP := [po 104 (.cmpI .lss (tm 103) (tm 102))]
def p5_34 : LP := [po 105 (.ixS 49 4 (tm 101) (tm 103)), po 106 (lt 4 105), po 12 (.alloc [(4, (.int .i64 0))]), pS 4 12 106]
def p5_35 : LP := [po 107 (fd 0 12), po 108 (lf 1 107), po 109 (.cmpI .neq (tm 108) (ki 0))]
def p5_36 : LP := [pm 110 8, po 111 (fd 1 12), po 112 (lt 3 111), po 113 (.callr 13 [(tm 110), (tm 112)])]
def p5_37 : LP := [pm 114 8, pm 115 8, po 116 (.nilC (tm 115)), po 117 (fd 0 116), po 118 (lf 1 117), po 119 (fd 0 12), po 120 (lf 1 119), po 121 (.bsl 3 1 1 [(1, (.int .i64 0))] [(0, (1, (tm 120)))]), po 122 (.app 3 1 8 (tm 118) (tm 121)), po 123 (.nilC (tm 114)), po 124 (fd 0 123), pS 1 124 122]
def p5_38 : LP := [po 125 (.arI .add (tm 103) (ki 1)), pm 103 125]
def c5_2 : PCode := (.keep [3, 6, 7, 8, 84, 85, 101, 102, 103] [(32, .id 32), (56, .id 56), (64, .id 64), (664, .id 664), (1185, .id 1185), (728, .id 728)] [] (.seq (.block 4 (.seq (.reg p5_34) (.seq (.reg p5_35) (.cond (.tmp 109) (.seq (.reg p5_36) (.regD p5_37 [(4, 7)])) .skip)))) (.reg p5_38)))
def c5_3 : PCode := (.keep [3, 6, 7, 8, 84, 85, 101, 102, 103, 104] [(32, .id 32), (56, .id 56), (64, .id 64), (664, .id 664), (1185, .id 1185), (728, .id 728)] [] (.seq (.cond (.tmp 104) .skip (.keep [3, 6, 7, 8, 84, 85] [(32, .id 32), (56, .id 56), (64, .id 64), (664, .id 664), (1185, .id 1185)] [] (.exit 3))) c5_2))
def c5_4 : PCode := (.keep [3, 6, 7, 8, 84, 85, 101, 102, 103] [(32, .id 32), (56, .id 56), (64, .id 64), (664, .id 664), (1185, .id 1185), (728, .id 728)] [] (.seq (.reg p5_33) c5_3))
def c5_5 : PCode := (.keep [3, 6, 7, 8, 9, 10, 84, 85] [(32, .id 32), (56, .id 56), (64, .id 64), (664, .id 664), (1185, .id 1185), (728, .id 728)] [] (.seq (.reg p5_31) (.seq (.reg p5_32) (.block 3 (.loop c5_4)))))
def p5_39 : LP := [po 126 (.arI .add (tm 85) (ki 1)), pm 85 126]
def c5_6 : PCode := (.reg p5_39)
def c5_7 : PCode := (.keep [3, 6, 7, 8, 84, 85] [(32, .id 32), (56, .id 56), (64, .id 64), (664, .id 664), (1185, .id 1185)] [] (.seq (.block 2 (.seq (.reg p5_28) (.seq (.reg p5_29) (.seq (.seq (.reg p5_30) (.cond (.tmp 95) (.exit 2) .skip)) c5_5)))) c5_6))
def c5_8 : PCode := (.keep [3, 6, 7, 8, 84, 85, 86] [(32, .id 32), (56, .id 56), (64, .id 64), (664, .id 664), (1185, .id 1185)] [] (.seq (.cond (.tmp 86) .skip (.keep [3, 8] [(32, .id 32), (664, .id 664), (1185, .id 1185)] [] (.exit 1))) c5_7))
def c5_9 : PCode := (.keep [3, 6, 7, 8, 84, 85] [(32, .id 32), (56, .id 56), (64, .id 64), (664, .id 664), (1185, (.cell 664 0))] [.cell 664 0 1185 3 1] (.seq (.reg p5_27) c5_8))
def p5_40 : LP := [pm 127 8, po 128 (fd 8 3), po 129 (lt 3 128), po 130 (.callr 13 [(tm 127), (tm 129)])]
def p5_41 : LP := [pm 131 8, po 132 (fd 3 3), po 133 (lf 1 132), po 134 (.arI .add (tm 133) (ki 1)), po 135 (fd 4 3), po 136 (lf 1 135), po 137 (.arI .add (tm 136) (ki 1)), po 138 (.bsl 3 1 2 [(2, (.int .i64 0))] [(0, (1, (tm 134))), (1, (1, (tm 137)))]), po 139 (.callr 12 [(tm 131), (ki 72), (tm 138)])]
def p5_42 : LP := [pm 140 8, po 141 (.nilC (tm 140)), po 142 (fd 0 141), po 143 (lf 1 142), pm 4 143, po 5 (.mov (ki 0))]
def c5_1 : PCode := (.keep [3, 8] [(32, .id 32), (664, .id 664), (1185, .id 1185)] [] (.seq (.reg p5_40) (.seq (.reg p5_41) (.seq (.reg p5_42) .ret))))
def c5_10 : PCode := (.keep [2, 3, 6, 7] [(24, .id 24), (32, .id 32), (56, .id 56), (64, .id 64)] [] (.seq (.reg p5_25) (.seq (.seq (.reg p5_26) (.block 1 (.loop c5_9))) c5_1)))
def c5_43 : PCode := (.seq (.regD p5_16 [(1, 4), (3, 4), (1, 5), (3, 5), (4, 5), (3, 6)]) (.seq (.block 0 (.seq (.reg p5_17) (.cond (.tmp 17) c5_11 (.seq (.reg p5_19) (.cond (.tmp 26) c5_12 (.seq (.reg p5_21) (.cond (.tmp 39) c5_13 c5_14))))))) c5_10))
def c5_b : PCode := (.seq (.reg p5_15) c5_43)
def c5 : FCode := ⟨144, c5_b, [(.tmp 4), (.tmp 5)], some ([4, 5], [(1186, (.slot 4 none))], []), false⟩
theorem c5_ok : compF Go.Proofs.Tryz.prog brs 5 = some (eraseF c5) := by kernel_rfl
def p51_14 : LP := [po 2 (.nilS 3 1), po 3 (.mov (ki 0))]
def p51_15 : LP := [pm 10 0, po 11 (.call 76 [(tm 10), (.const (.string ⟨#[48, 49, 50, 51, 52, 53, 54, 55, 56, 57, 59]⟩))]), po 12 (.strO .neq (tm 11) (.const (.string ⟨#[]⟩)))]
def p51_16 : LP := [po 2 (.nilS 3 1), po 3 (.mov (ki 4))]
def p51_17 : LP := [pm 13 0, po 14 (.len .true (tm 13)), po 15 (.mov (ki 0))]
def p51_18 : LP := [po 16 (.cmpI .lss (tm 15) (tm 14))]
def p51_19 : LP := [pm 17 15, pm 4 17]
def p51_20 : LP := [pm 18 0, pm 19 4, po 20 (.ixStr (tm 18) (tm 19)), po 21 (.cmpI .neq (tm 20) (.const (.int .u8 59))), pm 22 21, pg 23 22 (.mov (tm 0)), pg 24 22 (.mov (tm 4)), pg 25 22 (.ixStr (tm 23) (tm 24)), pg 26 22 (.cmpI .lss (tm 25) (.const (.int .u8 48))), pg 27 22 (.mov (tm 26)), pf 28 27 (.mov (tm 0)), pf 29 27 (.mov (tm 4)), pf 30 27 (.ixStr (tm 28) (tm 29)), pf 31 27 (.cmpI .gtr (tm 30) (.const (.int .u8 57))), pg 32 22 (.pick (tm 27) (.const (.bool .true)) (tm 31)), po 33 (.pick (tm 22) (tm 32) (.const (.bool .false)))]
def p51_21 : LP := [po 2 (.nilS 3 1), po 3 (.mov (ki 4))]
def p51_22 : LP := [po 34 (.arI .add (tm 15) (ki 1)), pm 15 34]
def c51_10 : PCode := (.keep [0, 14, 15] [] [] (.seq (.block 1 (.seq (.reg p51_19) (.seq (.reg p51_20) (.cond (.tmp 33) (.seq (.reg p51_21) .ret) .skip)))) (.reg p51_22)))
def c51_11 : PCode := (.keep [0, 14, 15, 16] [] [] (.seq (.cond (.tmp 16) .skip (.keep [0] [] [] (.exit 0))) c51_10))
def c51_12 : PCode := (.keep [0, 14, 15] [] [] (.seq (.reg p51_18) c51_11))
def p51_23 : LP := [po 5 (.nilS 3 1)]
def p51_24 : LP := [pm 35 0, po 36 (.call 77 [(tm 35), (.const (.string ⟨#[59]⟩))]), po 37 (.len .false (tm 36)), po 38 (.mov (ki 0))]
def p51_25 : LP := [po 39 (.cmpI .lss (tm 38) (tm 37))]
def p51_26 : LP := [po 40 (.ixS 9 1 (tm 36) (tm 38)), po 41 (lf 1 40), pm 7 41]
def p51_27 : LP := [pm 42 5, po 43 (.len .false (tm 42)), po 44 (ck 43 32)]
def p51_28 : LP := [po 8 (.mov (ki (-1)))]
def p51_29 : LP := [pm 45 7, po 46 (.len .true (tm 45)), po 47 (.mov (ki 0))]
def p51_30 : LP := [po 48 (.cmpI .lss (tm 47) (tm 46))]
def p51_31 : LP := [pm 49 47, pm 9 49]
def p51_32 : LP := [pm 50 8, po 51 (.mx [(tm 50), (ki 0)]), po 52 (.arI .mul (tm 51) (ki 10)), pm 53 7, pm 54 9, po 55 (.ixStr (tm 53) (tm 54)), po 56 (.arI .sub (tm 55) (.const (.int .u8 48))), po 57 (.cvI .i64 (tm 56)), po 58 (.arI .add (tm 52) (tm 57)), po 59 (.mn [(tm 58), (ki 16383)]), pm 8 59]
def p51_33 : LP := [po 60 (.arI .add (tm 47) (ki 1)), pm 47 60]
def c51_1 : PCode := (.keep [5, 7, 8, 36, 37, 38, 46, 47] [(48, .id 48)] [] (.seq (.block 5 (.seq (.reg p51_31) (.reg p51_32))) (.reg p51_33)))
def c51_2 : PCode := (.keep [5, 7, 8, 36, 37, 38, 46, 47, 48] [(48, .id 48)] [] (.seq (.cond (.tmp 48) .skip (.keep [5, 8, 36, 37, 38] [(48, .id 48)] [] (.exit 4))) c51_1))
def c51_3 : PCode := (.keep [5, 7, 8, 36, 37, 38, 46, 47] [(48, .id 48)] [] (.seq (.reg p51_30) c51_2))
def p51_34 : LP := [pm 61 5, pm 62 8, po 63 (.bsl 3 1 1 [(1, (.int .i64 0))] [(0, (1, (tm 62)))]), po 64 (.app 3 1 8 (tm 61) (tm 63)), pm 5 64]
def c51_4 : PCode := (.keep [5, 7, 36, 37, 38] [(48, .id 48)] [] (.seq (.reg p51_28) (.seq (.seq (.reg p51_29) (.block 4 (.loop c51_3))) (.reg p51_34))))
def p51_35 : LP := [po 65 (.arI .add (tm 38) (ki 1)), pm 38 65]
def c51_5 : PCode := (.reg p51_35)
def c51_6 : PCode := (.keep [5, 36, 37, 38] [(48, .id 48)] [] (.seq (.block 3 (.seq (.reg p51_26) (.seq (.seq (.reg p51_27) (.cond (.tmp 44) (.keep [5] [(48, .id 48)] [] (.exit 2)) .skip)) c51_4))) c51_5))
def c51_7 : PCode := (.keep [5, 36, 37, 38, 39] [(48, .id 48)] [] (.seq (.cond (.tmp 39) .skip (.keep [5] [(48, .id 48)] [] (.exit 2))) c51_6))
def c51_8 : PCode := (.keep [5, 36, 37, 38] [(48, .id 48)] [] (.seq (.reg p51_25) c51_7))
def p51_36 : LP := [pm 66 5, pm 2 66, po 3 (.mov (ki 0))]
def c51_9 : PCode := (.keep [0] [] [] (.seq (.reg p51_23) (.seq (.seq (.reg p51_24) (.block 2 (.loop c51_8))) (.seq (.reg p51_36) .ret))))
def c51_13 : PCode := (.keep [0] [] [] (.seq (.seq (.reg p51_17) (.block 0 (.loop c51_12))) c51_9))
def c51_b : PCode := (.seq (.reg p51_14) (.seq (.seq (.reg p51_15) (.cond (.tmp 12) (.seq (.reg p51_16) .ret) .skip)) c51_13))
def c51 : FCode := ⟨67, c51_b, [(.tmp 2), (.tmp 3)], some ([2, 3], [(569, (.slot 2 none))], []), false⟩
theorem c51_ok : compF Go.Proofs.Tryz.prog brs 51 = some (eraseF c51) := by kernel_rfl
def p31_5 : LP := [po 1 (.box 5 (tm 0)), po 2 (.mov (ki 0))]
def p31_6 : LP := [po 7 (fd 0 1), po 8 (lf 1 7), po 9 (ck 8 2), pm 10 9, pf 11 10 (fd 0 1), pf 12 10 (lf 1 11), pf 13 10 (ck 12 5), po 14 (.pick (tm 10) (.const (.bool .true)) (tm 13)), pm 3 14]
def p31_7 : LP := [po 16 (fd 3 1), po 17 (lf 1 16), po 18 (c1 51 17), pm 15 18, po 19 (.ext (tm 15) 0), po 20 (.ext (tm 15) 1), pm 4 19, pm 5 20]
def p31_8 : LP := [po 21 (fd 0 1), po 22 (lf 1 21), po 23 (.call 42 [(tm 22), (ki 0), (ki 10)]), pm 6 23]
def p31_9 : LP := [pm 24 6, pm 25 24, pg 26 25 (fd 1 1), pg 27 25 (lf 1 26), pg 28 25 (ck 27 0), pg 29 25 (.mov (tm 28)), pf 30 29 (fd 1 1), pf 31 29 (lf 1 30), pf 32 29 (.call 42 [(tm 31), (ki 60), (ki 63)]), pf 33 29 (.mov (tm 32)), pg 34 33 (fd 0 1), pg 35 33 (lf 1 34), pg 36 33 (ck 35 4), pg 37 33 (.mov (tm 36)), pf 38 37 (fd 0 1), pf 39 37 (lf 1 38), pf 40 37 (ck 39 5), pg 41 33 (.pick (tm 37) (.const (.bool .true)) (tm 40)), pf 42 29 (.pick (tm 33) (tm 41) (.const (.bool .false))), pg 43 25 (.pick (tm 29) (.const (.bool .true)) (tm 42)), po 44 (.pick (tm 25) (tm 43) (.const (.bool .false))), pm 6 44]
def p31_10 : LP := [pm 45 6, pm 46 45, pg 47 46 (fd 2 1), pg 48 46 (lf 1 47), pg 49 46 (.call 43 [(tm 48), (ki 3)]), po 50 (.pick (tm 46) (tm 49) (.const (.bool .false))), pm 51 50, pg 52 51 (fd 2 1), pg 53 51 (lf 1 52), pg 54 51 (.strO .neq (tm 53) (.const (.string ⟨#[]⟩))), pg 55 51 (.mov (tm 3)), pg 56 51 (.eqB .false (tm 54) (tm 55)), po 57 (.pick (tm 51) (tm 56) (.const (.bool .false))), pm 6 57]
def p31_11 : LP := [pm 58 6, pm 59 58, pg 60 59 (.mov (tm 5)), pg 61 59 (ck 60 0), po 62 (.pick (tm 59) (tm 61) (.const (.bool .false))), pm 63 62, pg 64 63 (fd 3 1), pg 65 63 (lf 1 64), pg 66 63 (.len .true (tm 65)), pg 67 63 (.cmpI .leq (tm 66) (ki 100)), po 68 (.pick (tm 63) (tm 67) (.const (.bool .false))), pm 69 68, pg 70 69 (fd 3 1), pg 71 69 (lf 1 70), pg 72 69 (.strO .eql (tm 71) (.const (.string ⟨#[]⟩))), pg 73 69 (.mov (tm 72)), pf 74 73 (fd 0 1), pf 75 73 (lf 1 74), pf 76 73 (ck 75 4), pg 77 69 (.pick (tm 73) (.const (.bool .true)) (tm 76)), pg 78 69 (.mov (tm 77)), pf 79 78 (fd 0 1), pf 80 78 (lf 1 79), pf 81 78 (ck 80 5), pg 82 69 (.pick (tm 78) (.const (.bool .true)) (tm 81)), po 83 (.pick (tm 69) (tm 82) (.const (.bool .false))), pm 6 83]
def p31_12 : LP := [pm 84 6, pm 85 84, pg 86 85 (fd 4 1), pg 87 85 (lf 1 86), pg 88 85 (.len .true (tm 87)), pg 89 85 (.cmpI .leq (tm 88) (ki 256)), po 90 (.pick (tm 85) (tm 89) (.const (.bool .false))), pm 91 90, pg 92 91 (fd 4 1), pg 93 91 (lf 1 92), pg 94 91 (.strO .eql (tm 93) (.const (.string ⟨#[]⟩))), pg 95 91 (.mov (tm 94)), pf 96 95 (fd 0 1), pf 97 95 (lf 1 96), pf 98 95 (ck 97 7), pg 99 91 (.pick (tm 95) (.const (.bool .true)) (tm 98)), pg 100 91 (.mov (tm 99)), pf 101 100 (fd 0 1), pf 102 100 (lf 1 101), pf 103 100 (ck 102 8), pg 104 91 (.pick (tm 100) (.const (.bool .true)) (tm 103)), po 105 (.pick (tm 91) (tm 104) (.const (.bool .false))), pm 6 105]
def p31_13 : LP := [pm 106 6, po 107 (.un .not (tm 106))]
def p31_14 : LP := [po 2 (.mov (ki 4))]
def p31_15 : LP := [po 2 (.mov (ki 0))]
def c31_1 : PCode := (.keep [1, 6] [(16, .id 16)] [] (.seq (.reg p31_12) (.seq (.seq (.reg p31_13) (.cond (.tmp 107) (.seq (.reg p31_14) .ret) .skip)) (.seq (.reg p31_15) .ret))))
def c31_2 : PCode := (.keep [1, 5, 6] [(16, .id 16)] [] (.seq (.reg p31_11) c31_1))
def c31_3 : PCode := (.keep [1, 3, 5, 6] [(16, .id 16)] [] (.seq (.reg p31_10) c31_2))
def c31_4 : PCode := (.keep [1, 3] [(16, .id 16)] [] (.seq (.reg p31_7) (.seq (.reg p31_8) (.seq (.reg p31_9) c31_3))))
def c31_b : PCode := (.seq (.reg p31_5) (.seq (.reg p31_6) c31_4))
def c31 : FCode := ⟨108, c31_b, [(.tmp 2)], some ([2], [], []), false⟩
theorem c31_ok : compF Go.Proofs.Tryz.prog brs 31 = some (eraseF c31) := by kernel_rfl
def p54_1 : LP := [pm 4 0, pm 5 1, po 6 (.build [(2, (.int .i64 0)), (3, (.string ⟨#[]⟩))] [(0, (1, (tm 5)))]), po 7 (.nilC (tm 4)), po 8 (fd 0 7), pS 5 8 6]
def c54_b : PCode := (.reg p54_1)
def c54 : FCode := ⟨9, c54_b, [], some ([1000001], [(0, .id 0), (1, .id 1)], []), false⟩
theorem c54_ok : compF Go.Proofs.Tryz.prog brs 54 = some (eraseF c54) := by kernel_rfl
def p56_3 : LP := [po 4 (.mov (.const (.bool .false)))]
def p56_4 : LP := [po 5 (.mov (ki 0))]
def p56_5 : LP := [pm 9 1, po 10 (ck 9 27), pm 8 10]
def p56_6 : LP := [po 5 (.mov (ki 1))]
def p56_7 : LP := [pm 12 1, po 13 (ck 12 24), pm 14 13, pf 15 14 (.mov (tm 1)), pf 16 14 (ck 15 26), po 17 (.pick (tm 14) (.const (.bool .true)) (tm 16)), pm 11 17]
def c56_2 : PCode := (.keep [0, 5, 1000001] [(0, .id 0), (1, .id 1)] [] .skip)
def p56_8 : LP := [pm 19 1, po 20 (.cmpI .lss (tm 19) (ki 32)), pm 18 20]
def p56_9 : LP := [pm 21 0, pm 22 1, po 23 (.build [(3, (.int .i64 0)), (1, (.string ⟨#[]⟩)), (1, (.slice .none 0 0)), (1, (.string ⟨#[]⟩))] [(0, (1, (ki 2))), (1, (1, (tm 22)))]), po 24 (.callr 53 [(tm 21), (tm 23)])]
def p56_10 : LP := [po 4 (.mov (.const (.bool .true)))]
def p56_11 : LP := [pm 6 1, po 7 (.call 42 [(tm 6), (ki 127), (ki 159)]), pm 4 7]
def c56_12 : PCode := (.seq (.reg p56_5) (.cond (.tmp 8) (.reg p56_6) (.seq (.reg p56_7) (.cond (.tmp 11) c56_2 (.seq (.reg p56_8) (.cond (.tmp 18) (.seq (.reg p56_9) (.seq (.reg p56_10) .ret)) (.seq (.reg p56_11) .ret)))))))
def p56_13 : LP := [pm 25 0, po 26 (.nilC (tm 25)), po 27 (fd 0 26), po 28 (fd 0 27), po 29 (lf 1 28), po 30 (.cmpI .neq (tm 29) (ki 0))]
def p56_14 : LP := [pm 31 0, po 32 (.build [(3, (.int .i64 0)), (1, (.string ⟨#[]⟩)), (1, (.slice .none 0 0)), (1, (.string ⟨#[]⟩))] [(0, (1, (ki 6)))]), po 33 (.callr 53 [(tm 31), (tm 32)])]
def p56_15 : LP := [pm 34 0, pm 35 5, po 36 (.callr 54 [(tm 34), (tm 35)])]
def p56_16 : LP := [po 4 (.mov (.const (.bool .true)))]
def c56_1 : PCode := (.keep [0, 5, 1000001] [(0, .id 0), (1, .id 1)] [] (.seq (.seq (.reg p56_13) (.cond (.tmp 30) (.reg p56_14) .skip)) (.seq (.reg p56_15) (.seq (.reg p56_16) .ret))))
def c56_b : PCode := (.seq (.reg p56_3) (.seq (.reg p56_4) (.seq (.block 0 c56_12) c56_1)))
def c56 : FCode := ⟨37, c56_b, [(.tmp 4)], some ([4, 1000001], [(0, .id 0), (1, .id 1)], []), false⟩
theorem c56_ok : compF Go.Proofs.Tryz.prog brs 56 = some (eraseF c56) := by kernel_rfl
def p53_1 : LP := [po 3 (.box 6 (tm 1))]
def p53_2 : LP := [pm 4 0, pm 5 0, po 6 (.nilC (tm 5)), po 7 (fd 5 6), po 8 (lf 1 7), po 9 (lt 6 3), po 10 (.bsl 74 6 1 [(3, (.int .i64 0)), (1, (.string ⟨#[]⟩)), (1, (.slice .none 0 0)), (1, (.string ⟨#[]⟩))] [(0, (6, (tm 9)))]), po 11 (.app 74 6 80 (tm 8) (tm 10)), po 12 (.nilC (tm 4)), po 13 (fd 5 12), pS 1 13 11]
def c53_b : PCode := (.seq (.reg p53_1) (.regD p53_2 [(4, 6)]))
def c53 : FCode := ⟨14, c53_b, [], some ([1000001], [(0, .id 0), (1, .id 1)], []), false⟩
theorem c53_ok : compF Go.Proofs.Tryz.prog brs 53 = some (eraseF c53) := by kernel_rfl
def p57_1 : LP := [pm 9 1, po 10 (.cmpI .lss (tm 9) (ki 48)), pm 8 10]
def p57_2 : LP := [pm 11 0, pm 12 1, po 13 (.callr 79 [(tm 11), (tm 12)])]
def p57_3 : LP := [pm 14 0, po 15 (.nilC (tm 14)), po 16 (fd 0 15), po 17 (fd 0 16), ⟨.none, (.store 1 (tm 17) (ki 2)), .none⟩]
def p57_4 : LP := [pm 19 0, po 20 (.nilC (tm 19)), po 21 (fd 0 20), po 22 (fd 0 21), po 23 (lf 1 22), po 24 (ck 23 2), pm 18 24]
def p57_5 : LP := [pm 25 0, pm 26 1, pm 27 0, po 28 (.nilC (tm 27)), po 29 (fd 0 28), po 30 (fd 2 29), po 31 (lf 1 30), po 32 (.build [(3, (.int .i64 0)), (1, (.string ⟨#[]⟩)), (1, (.slice .none 0 0)), (1, (.string ⟨#[]⟩))] [(0, (1, (ki 3))), (1, (1, (tm 26))), (3, (1, (tm 31)))]), po 33 (.callr 80 [(tm 25), (tm 32)])]
def p57_6 : LP := [pm 35 1, po 36 (ck 35 91), pm 34 36]
def p57_7 : LP := [pm 37 0, po 38 (.nilC (tm 37)), po 39 (fd 0 38), po 40 (fd 0 39), ⟨.none, (.store 1 (tm 40) (ki 3)), .none⟩]
def p57_8 : LP := [pm 42 1, po 43 (ck 42 93), pm 41 43]
def p57_9 : LP := [pm 44 0, po 45 (.nilC (tm 44)), po 46 (fd 0 45), po 47 (fd 0 46), ⟨.none, (.store 1 (tm 47) (ki 7)), .none⟩]
def p57_10 : LP := [pm 49 1, po 50 (.cvI .u8 (tm 49)), po 51 (.call 44 [(.const (.string ⟨#[80, 88, 94, 95]⟩)), (tm 50)]), po 52 (.cmpI .geq (tm 51) (ki 0)), pm 48 52]
def p57_11 : LP := [pm 53 0, po 54 (.nilC (tm 53)), po 55 (fd 0 54), po 56 (fd 0 55), ⟨.none, (.store 1 (tm 56) (ki 9)), .none⟩]
def p57_12 : LP := [pm 4 0, pm 5 1, po 6 (.build [(3, (.int .i64 0)), (1, (.string ⟨#[]⟩)), (1, (.slice .none 0 0)), (1, (.string ⟨#[]⟩))] [(0, (1, (ki 3))), (1, (1, (tm 5)))]), po 7 (.callr 80 [(tm 4), (tm 6)])]
def c57_13 : PCode := (.seq (.reg p57_4) (.cond (.tmp 18) (.reg p57_5) (.seq (.reg p57_6) (.cond (.tmp 34) (.reg p57_7) (.seq (.reg p57_8) (.cond (.tmp 41) (.reg p57_9) (.seq (.reg p57_10) (.cond (.tmp 48) (.reg p57_11) (.reg p57_12)))))))))
def c57_b : PCode := (.block 0 (.seq (.reg p57_1) (.cond (.tmp 8) (.seq (.reg p57_2) (.reg p57_3)) c57_13)))
def c57 : FCode := ⟨57, c57_b, [], some ([1000001], [(0, .id 0), (1, .id 1)], []), false⟩
theorem c57_ok : compF Go.Proofs.Tryz.prog brs 57 = some (eraseF c57) := by kernel_rfl
def p80_1 : LP := [po 3 (.box 6 (tm 1))]
def p80_2 : LP := [pm 4 0, po 5 (.nilC (tm 4)), po 6 (fd 0 5), po 7 (fd 2 6), po 8 (lf 1 7), po 9 (.len .true (tm 8)), po 10 (ck 9 3)]
def p80_3 : LP := [po 11 (.build [(3, (.int .i64 0)), (1, (.string ⟨#[]⟩)), (1, (.slice .none 0 0)), (1, (.string ⟨#[]⟩))] [(0, (1, (ki 6)))]), pS 6 3 11]
def p80_4 : LP := [pm 12 0, po 13 (lt 6 3), po 14 (.callr 53 [(tm 12), (tm 13)])]
def p80_5 : LP := [pm 15 0, po 16 (.callr 54 [(tm 15), (ki 0)])]
def c80_b : PCode := (.seq (.reg p80_1) (.seq (.seq (.reg p80_2) (.cond (.tmp 10) (.reg p80_3) .skip)) (.seq (.reg p80_4) (.reg p80_5))))
def c80 : FCode := ⟨17, c80_b, [], some ([1000001], [(0, .id 0), (1, .id 1)], []), false⟩
theorem c80_ok : compF Go.Proofs.Tryz.prog brs 80 = some (eraseF c80) := by kernel_rfl
def p58_2 : LP := [pm 9 0, po 10 (.nilC (tm 9)), po 11 (fd 0 10), po 12 (fd 0 11), po 13 (lf 1 12), po 14 (ck 13 6), pm 8 14]
def p58_3 : LP := [pm 15 1, po 16 (.cmpI .geq (tm 15) (ki 64))]
def p58_4 : LP := [pm 17 0, po 18 (.callr 55 [(tm 17), (ki 0)])]
def p58_5 : LP := [pm 20 1, po 21 (.cmpI .lss (tm 20) (ki 48)), pm 19 21]
def p58_6 : LP := [pm 22 0, pm 23 1, po 24 (.callr 79 [(tm 22), (tm 23)])]
def p58_7 : LP := [pm 25 0, po 26 (.nilC (tm 25)), po 27 (fd 0 26), po 28 (fd 0 27), ⟨.none, (.store 1 (tm 28) (ki 5)), .none⟩]
def p58_8 : LP := [pm 30 1, po 31 (.cmpI .geq (tm 30) (ki 64)), pm 29 31]
def p58_9 : LP := [pm 33 0, po 34 (.nilC (tm 33)), po 35 (fd 0 34), po 36 (fd 3 35), po 37 (lf 1 36), po 38 (c1 51 37), pm 32 38, po 39 (.ext (tm 32) 0), po 40 (.ext (tm 32) 1), pm 4 39, pm 5 40]
def p58_10 : LP := [pm 41 0, pm 42 1, pm 43 0, po 44 (.nilC (tm 43)), po 45 (fd 0 44), po 46 (fd 1 45), po 47 (lf 1 46), pm 48 0, po 49 (.nilC (tm 48)), po 50 (fd 0 49), po 51 (fd 2 50), po 52 (lf 1 51), pm 53 4, po 54 (.build [(3, (.int .i64 0)), (1, (.string ⟨#[]⟩)), (1, (.slice .none 0 0)), (1, (.string ⟨#[]⟩))] [(0, (1, (ki 4))), (1, (1, (tm 42))), (2, (1, (tm 47))), (3, (1, (tm 52))), (4, (1, (tm 53)))]), po 55 (.callr 80 [(tm 41), (tm 54)])]
def c58_1 : PCode := (.keep [0, 1, 4, 1000001] [(0, .id 0), (1, .id 1)] [] (.regD p58_10 []))
def p58_11 : LP := [pm 57 0, po 58 (.nilC (tm 57)), po 59 (fd 0 58), po 60 (fd 0 59), po 61 (lf 1 60), po 62 (ck 61 5), pm 63 62, pf 64 63 (.mov (tm 1)), pf 65 63 (ck 64 58), po 66 (.pick (tm 63) (.const (.bool .true)) (tm 65)), pm 56 66]
def p58_12 : LP := [pm 67 0, po 68 (.callr 81 [(tm 67)])]
def p58_13 : LP := [pm 70 1, po 71 (.cmpI .lss (tm 70) (ki 60)), pm 69 71]
def p58_14 : LP := [pm 72 0, po 73 (.nilC (tm 72)), po 74 (fd 0 73), po 75 (fd 3 74), po 76 (lf 1 75), po 77 (.len .true (tm 76)), po 78 (.cmpI .lss (tm 77) (ki 100))]
def p58_15 : LP := [pm 79 0, po 80 (.nilC (tm 79)), po 81 (fd 0 80), po 82 (fd 3 81), po 83 (lf 1 82), pm 84 1, po 85 (.cvI .i32 (tm 84)), po 86 (.cvIS (tm 85)), po 87 (.strO .add (tm 83) (tm 86)), po 88 (.nilC (tm 79)), po 89 (fd 0 88), po 90 (fd 3 89), pS 1 90 87]
def p58_16 : LP := [pm 91 0, po 92 (.nilC (tm 91)), po 93 (fd 0 92), po 94 (fd 0 93), ⟨.none, (.store 1 (tm 94) (ki 4)), .none⟩]
def p58_17 : LP := [pm 96 0, po 97 (.nilC (tm 96)), po 98 (fd 0 97), po 99 (fd 0 98), po 100 (lf 1 99), po 101 (ck 100 3), pm 95 101]
def p58_18 : LP := [pm 102 0, pm 103 0, pm 104 1, po 105 (.nilC (tm 102)), po 106 (fd 0 105), po 107 (fd 1 106), pS 1 107 104, po 108 (.nilC (tm 103)), po 109 (fd 0 108), po 110 (fd 0 109), ⟨.none, (.store 1 (tm 110) (ki 4)), .none⟩]
def p58_19 : LP := [pm 6 0, po 7 (.callr 81 [(tm 6)])]
def c58_20 : PCode := (.cond (.tmp 56) (.reg p58_12) (.seq (.reg p58_13) (.cond (.tmp 69) (.seq (.seq (.reg p58_14) (.cond (.tmp 78) (.reg p58_15) .skip)) (.reg p58_16)) (.seq (.reg p58_17) (.cond (.tmp 95) (.reg p58_18) (.reg p58_19))))))
def c58_21 : PCode := (.cond (.tmp 8) (.seq (.reg p58_3) (.cond (.tmp 16) (.reg p58_4) .skip)) (.seq (.reg p58_5) (.cond (.tmp 19) (.seq (.reg p58_6) (.reg p58_7)) (.seq (.reg p58_8) (.cond (.tmp 29) (.seq (.reg p58_9) c58_1) (.seq (.reg p58_11) c58_20))))))
def c58_b : PCode := (.block 0 (.seq (.reg p58_2) c58_21))
def c58 : FCode := ⟨111, c58_b, [], some ([1000001], [(0, .id 0), (1, .id 1)], []), false⟩
theorem c58_ok : compF Go.Proofs.Tryz.prog brs 58 = some (eraseF c58) := by kernel_rfl
def p32_5 : LP := [pm 5 1, po 6 (.cmpI .lss (tm 5) (ki 0)), pm 7 6, pf 8 7 (.mov (tm 1)), pf 9 7 (.cmpI .gtr (tm 8) (ki 1114111)), po 10 (.pick (tm 7) (.const (.bool .true)) (tm 9))]
def p32_6 : LP := [pm 11 0, po 12 (.nilC (tm 11)), po 13 (fd 0 12), po 14 (fd 0 13), po 15 (lf 1 14)]
def p32_7 : LP := [po 17 (ck 15 7), pm 16 17]
def p32_8 : LP := [po 18 (ck 15 9), pm 16 18]
def p32_9 : LP := [pm 19 0, pm 20 1, po 21 (.callr 52 [(tm 19), (tm 20)])]
def p32_10 : LP := [po 23 (ck 15 8), pm 22 23]
def p32_11 : LP := [po 24 (ck 15 10), pm 22 24]
def p32_12 : LP := [pm 25 1, po 26 (ck 25 92)]
def p32_13 : LP := [po 27 (.build [(3, (.int .i64 0)), (1, (.string ⟨#[]⟩)), (1, (.slice .none 0 0)), (1, (.string ⟨#[]⟩))] [(0, (1, (ki 6)))]), po 4 (.alloc [(3, (.int .i64 0)), (1, (.string ⟨#[]⟩)), (1, (.slice .none 0 0)), (1, (.string ⟨#[]⟩))]), pS 6 4 27]
def p32_14 : LP := [pm 28 0, po 29 (.nilC (tm 28)), po 30 (fd 0 29), po 31 (fd 0 30), po 32 (lf 1 31), po 33 (ck 32 8)]
def p32_15 : LP := [pm 34 0, po 35 (.nilC (tm 34)), po 36 (fd 0 35), po 37 (fd 4 36), po 38 (lf 1 37), po 39 (.build [(3, (.int .i64 0)), (1, (.string ⟨#[]⟩)), (1, (.slice .none 0 0)), (1, (.string ⟨#[]⟩))] [(0, (1, (ki 5))), (5, (1, (tm 38)))]), pS 6 4 39]
def p32_16 : LP := [pm 40 0, po 41 (lt 6 4), po 42 (.callr 53 [(tm 40), (tm 41)])]
def p32_17 : LP := [pm 43 0, po 44 (.callr 54 [(tm 43), (ki 0)])]
def p32_18 : LP := [pm 45 0, po 46 (.callr 55 [(tm 45), (ki 1)])]
def c32_2 : PCode := (.keep [0, 1, 22, 1000001] [(0, .id 0), (1, .id 1)] [] (.cond (.tmp 22) (.seq (.seq (.reg p32_12) (.cond (.tmp 26) (.seq (.reg p32_13) (.seq (.seq (.reg p32_14) (.cond (.tmp 33) (.reg p32_15) .skip)) (.seq (.reg p32_16) (.seq (.reg p32_17) .ret)))) .skip)) (.reg p32_18)) .skip))
def c32_3 : PCode := (.keep [0, 1, 15, 16, 1000001] [(0, .id 0), (1, .id 1)] [] (.cond (.tmp 16) (.seq (.reg p32_9) .ret) (.seq (.seq (.reg p32_10) (.cond (.tmp 22) .skip (.reg p32_11))) c32_2)))
def p32_19 : LP := [pm 51 0, pm 52 1, po 53 (.callr 56 [(tm 51), (tm 52)]), pm 50 53]
def p32_20 : LP := [pm 55 0, po 56 (.nilC (tm 55)), po 57 (fd 0 56), po 58 (fd 0 57), po 59 (lf 1 58), po 60 (ck 59 0), pm 54 60]
def p32_21 : LP := [pm 61 0, pm 62 1, po 63 (.build [(3, (.int .i64 0)), (1, (.string ⟨#[]⟩)), (1, (.slice .none 0 0)), (1, (.string ⟨#[]⟩))] [(0, (1, (ki 1))), (1, (1, (tm 62)))]), po 64 (.callr 53 [(tm 61), (tm 63)])]
def p32_22 : LP := [pm 66 1, po 67 (.cmpI .geq (tm 66) (ki 160)), pm 65 67]
def p32_23 : LP := [pm 68 0, po 69 (.callr 55 [(tm 68), (ki 0)])]
def p32_24 : LP := [pm 71 0, po 72 (.nilC (tm 71)), po 73 (fd 0 72), po 74 (fd 0 73), po 75 (lf 1 74), po 76 (.cmpI .leq (tm 75) (ki 2)), pm 70 76]
def p32_25 : LP := [pm 77 0, pm 78 1, po 79 (.callr 57 [(tm 77), (tm 78)])]
def p32_26 : LP := [pm 47 0, pm 48 1, po 49 (.callr 58 [(tm 47), (tm 48)])]
def c32_27 : PCode := (.seq (.reg p32_19) (.cond (.tmp 50) .skip (.seq (.reg p32_20) (.cond (.tmp 54) (.reg p32_21) (.seq (.reg p32_22) (.cond (.tmp 65) (.reg p32_23) (.seq (.reg p32_24) (.cond (.tmp 70) (.reg p32_25) (.reg p32_26)))))))))
def c32_1 : PCode := (.keep [0, 1, 1000001] [(0, .id 0), (1, .id 1)] [] (.block 1 c32_27))
def c32_4 : PCode := (.keep [0, 1, 1000001] [(0, .id 0), (1, .id 1)] [] (.seq (.seq (.reg p32_6) (.block 0 (.seq (.seq (.reg p32_7) (.cond (.tmp 16) .skip (.reg p32_8))) c32_3))) c32_1))
def c32_b : PCode := (.seq (.seq (.reg p32_5) (.cond (.tmp 10) .ret .skip)) c32_4)
def c32 : FCode := ⟨80, c32_b, [], some ([1000001], [(0, .id 0), (1, .id 1)], []), false⟩
theorem c32_ok : compF Go.Proofs.Tryz.prog brs 32 = some (eraseF c32) := by kernel_rfl
def p16_6 : LP := [po 2 (.box 5 (tm 0)), po 4 (.alloc [(2, (.int .i64 0)), (3, (.string ⟨#[]⟩))]), po 5 (.nilS 74 6), po 6 (.mov (ki 0))]
def p16_7 : LP := [po 11 (lt 5 2), po 12 (c1 31 11), pm 7 12]
def p16_8 : LP := [pm 13 7, po 14 (.cmpI .neq (tm 13) (ki 0))]
def p16_9 : LP := [po 15 (lt 5 2), pm 16 7, pS 5 4 15, po 5 (.nilS 74 6), pm 6 16]
def p16_10 : LP := [po 17 (lt 5 2), po 18 (.build [(2, (.int .i64 0)), (3, (.string ⟨#[]⟩)), (1, (.slice .none 0 0))] [(0, (5, (tm 17)))]), po 19 (.box 6 (tm 18)), pm 8 19]
def p16_11 : LP := [pm 20 1, po 21 (.len .false (tm 20)), po 22 (.mov (ki 0))]
def p16_12 : LP := [po 23 (.cmpI .lss (tm 22) (tm 21))]
def p16_13 : LP := [po 24 (.ixS 3 1 (tm 20) (tm 22)), po 25 (lf 1 24), pm 10 25]
def p16_14 : LP := [pm 26 8, pm 27 10, po 28 (.callr 32 [(tm 26), (tm 27)])]
def p16_15 : LP := [po 29 (.arI .add (tm 22) (ki 1)), pm 22 29]
def c16_2 : PCode := (.keep [4, 8, 20, 21, 22] [(40, .id 40), (160, .id 160), (337, .id 337)] [] (.seq (.block 1 (.seq (.reg p16_13) (.reg p16_14))) (.reg p16_15)))
def c16_3 : PCode := (.keep [4, 8, 20, 21, 22, 23] [(40, .id 40), (160, .id 160), (337, .id 337)] [] (.seq (.cond (.tmp 23) .skip (.keep [4, 8] [(40, .id 40), (160, .id 160), (337, .id 337)] [] (.exit 0))) c16_2))
def c16_4 : PCode := (.keep [4, 8, 20, 21, 22] [(40, .id 40), (160, .id 160), (337, (.cell 160 5))] [.cell 160 5 337 74 6] (.seq (.reg p16_12) c16_3))
def p16_16 : LP := [pm 30 8, po 31 (.nilC (tm 30)), po 32 (fd 0 31), po 33 (lt 5 32), pm 34 8, po 35 (.nilC (tm 34)), po 36 (fd 5 35), po 37 (lf 1 36), pS 5 4 33, pm 5 37, po 6 (.mov (ki 0))]
def c16_1 : PCode := (.keep [4, 8] [(40, .id 40), (160, .id 160), (337, .id 337)] [] (.seq (.regD p16_16 [(7, 8)]) .ret))
def c16_5 : PCode := (.keep [1, 2, 4] [(24, .id 24), (40, .id 40)] [] (.seq (.reg p16_10) (.seq (.seq (.reg p16_11) (.block 0 (.loop c16_4))) c16_1)))
def c16_b : PCode := (.seq (.reg p16_6) (.seq (.seq (.reg p16_7) (.seq (.reg p16_8) (.cond (.tmp 14) (.seq (.reg p16_9) .ret) .skip))) c16_5))
def c16 : FCode := ⟨38, c16_b, [(.cell 4 .true 5), (.tmp 5), (.tmp 6)], some ([4, 5, 6], [(40, .id 40), (338, (.slot 5 none))], []), false⟩
theorem c16_ok : compF Go.Proofs.Tryz.prog brs 16 = some (eraseF c16) := by kernel_rfl
def p29_1 : LP := [po 1 (.box 3 (tm 0)), po 2 (.alloc [(2, (.int .i64 0)), (1, (.slice .none 0 0))])]
def p29_2 : LP := [po 3 (fd 2 1), po 4 (lf 1 3), po 5 (c1 24 4), po 6 (fd 2 1), pS 1 6 5]
def p29_3 : LP := [po 7 (lt 3 1), pS 3 2 7]
def c29_b : PCode := (.seq (.reg p29_1) (.seq (.reg p29_2) (.seq (.reg p29_3) .ret)))
def c29 : FCode := ⟨8, c29_b, [(.cell 2 .true 3)], some ([2], [(24, .id 24), (48, .id 48)], []), false⟩
theorem c29_ok : compF Go.Proofs.Tryz.prog brs 29 = some (eraseF c29) := by kernel_rfl
def p33_4 : LP := [po 1 (.box 33 (tm 0)), po 2 (.alloc [(2, (.int .i64 0)), (1, (.slice .none 0 0)), (2, (.int .i64 0)), (1, (.bool .false)), (6, (.int .i64 0)), (4, (.int .u64 0)), (8, (.int .i64 0)), (1, (.bool .false)), (5, (.int .i64 0)), (1, (.slice .none 0 0)), (1, (.string ⟨#[]⟩)), (1, (.slice .none 0 0))])]
def p33_5 : LP := [po 6 (fd 0 1), po 7 (lt 3 6), po 8 (c1 29 7), po 9 (fd 28 1), po 10 (lt 3 9), po 11 (c1 29 10), po 12 (fd 0 1), pS 3 12 8, po 13 (fd 28 1), pS 3 13 11]
def p33_6 : LP := [po 3 (.nilS 95 1)]
def p33_7 : LP := [po 14 (fd 32 1), po 15 (lf 1 14), po 16 (.len .false (tm 15)), po 17 (.mov (ki 0))]
def p33_8 : LP := [po 18 (.cmpI .lss (tm 17) (tm 16))]
def p33_9 : LP := [po 19 (.ixS 95 1 (tm 15) (tm 17)), po 20 (lt 1 19), po 5 (.alloc [(1, (.slice .none 0 0))]), pS 1 5 20]
def p33_10 : LP := [pm 21 3, po 22 (fd 0 5), po 23 (lf 1 22), po 24 (c1 24 23), po 25 (.build [(1, (.slice .none 0 0))] [(0, (1, (tm 24)))]), po 26 (.bsl 95 1 1 [(1, (.slice .none 0 0))] [(0, (1, (tm 25)))]), po 27 (.app 95 1 24 (tm 21) (tm 26)), pm 3 27]
def p33_11 : LP := [po 28 (.arI .add (tm 17) (ki 1)), pm 17 28]
def c33_1 : PCode := (.keep [1, 2, 3, 15, 16, 17] [(16, .id 16), (72, .id 72), (96, .id 96), (24, .id 24), (32, .id 32)] [] (.seq (.block 1 (.seq (.reg p33_9) (.reg p33_10))) (.reg p33_11)))
def c33_2 : PCode := (.keep [1, 2, 3, 15, 16, 17, 18] [(16, .id 16), (72, .id 72), (96, .id 96), (24, .id 24), (32, .id 32)] [] (.seq (.cond (.tmp 18) .skip (.keep [1, 2, 3] [(16, .id 16), (72, .id 72), (96, .id 96), (24, .id 24), (32, .id 32)] [] (.exit 0))) c33_1))
def c33_3 : PCode := (.keep [1, 2, 3, 15, 16, 17] [(16, .id 16), (72, .id 72), (96, .id 96), (24, .id 24), (32, .id 32)] [.cell 24 2 0 0 1, .cell 24 30 0 0 1, .cell 24 32 0 0 1] (.seq (.reg p33_8) c33_2))
def p33_12 : LP := [pm 29 3, po 30 (fd 32 1), pS 1 30 29]
def p33_13 : LP := [po 31 (lt 33 1), pS 33 2 31]
def c33_b : PCode := (.seq (.reg p33_4) (.seq (.regD p33_5 [(2, 4)]) (.seq (.reg p33_6) (.seq (.seq (.reg p33_7) (.block 0 (.loop c33_3))) (.seq (.reg p33_12) (.seq (.reg p33_13) .ret))))))
def c33 : FCode := ⟨32, c33_b, [(.cell 2 .true 33)], some ([2], [(24, .id 24), (72, .id 72), (96, .id 96), (32, .id 32)], []), false⟩
theorem c33_ok : compF Go.Proofs.Tryz.prog brs 33 = some (eraseF c33) := by kernel_rfl
def p60_1 : LP := [po 2 (.mov (.const (.bool .false)))]
def p60_2 : LP := [pm 3 0, po 4 (.call 20 [(tm 3), (ki (-1)), (ki 16383)]), po 5 (.un .not (tm 4)), pm 2 5]
def c60_b : PCode := (.seq (.reg p60_1) (.seq (.reg p60_2) .ret))
def c60 : FCode := ⟨6, c60_b, [(.tmp 2)], some ([2], [], []), false⟩
theorem c60_ok : compF Go.Proofs.Tryz.prog brs 60 = some (eraseF c60) := by kernel_rfl
def p34_4 : LP := [po 2 (.mov (ki 0))]
def p34_5 : LP := [pm 5 0, po 6 (.len .false (tm 5)), po 7 (.mov (ki 0))]
def p34_6 : LP := [po 8 (.cmpI .lss (tm 7) (tm 6))]
def p34_7 : LP := [po 9 (.ixS 74 6 (tm 5) (tm 7)), po 10 (lt 6 9), po 4 (.alloc [(3, (.int .i64 0)), (1, (.string ⟨#[]⟩)), (1, (.slice .none 0 0)), (1, (.string ⟨#[]⟩))]), pS 6 4 10]
def p34_8 : LP := [po 11 (fd 4 4), po 12 (lf 1 11), po 13 (.len .false (tm 12)), po 14 (.cmpI .gtr (tm 13) (ki 32)), pm 15 14, pf 16 15 (fd 5 4), pf 17 15 (lf 1 16), pf 18 15 (.len .true (tm 17)), pf 19 15 (.cmpI .gtr (tm 18) (ki 256)), po 20 (.pick (tm 15) (.const (.bool .true)) (tm 19)), pm 21 20, pf 22 21 (fd 4 4), pf 23 21 (lf 1 22), pf 24 21 (.call 59 [(tm 23), (.func 60)]), po 25 (.pick (tm 21) (.const (.bool .true)) (tm 24))]
def p34_9 : LP := [po 2 (.mov (ki 1))]
def p34_10 : LP := [po 26 (.arI .add (tm 7) (ki 1)), pm 7 26]
def c34_1 : PCode := (.keep [5, 6, 7] [] [] (.seq (.block 1 (.seq (.reg p34_7) (.seq (.reg p34_8) (.cond (.tmp 25) (.seq (.reg p34_9) .ret) .skip)))) (.reg p34_10)))
def c34_2 : PCode := (.keep [5, 6, 7, 8] [] [] (.seq (.cond (.tmp 8) .skip (.keep [] [] [] (.exit 0))) c34_1))
def c34_3 : PCode := (.keep [5, 6, 7] [] [] (.seq (.reg p34_6) c34_2))
def p34_11 : LP := [po 2 (.mov (ki 0))]
def c34_b : PCode := (.seq (.reg p34_4) (.seq (.seq (.reg p34_5) (.block 0 (.loop c34_3))) (.seq (.reg p34_11) .ret)))
def c34 : FCode := ⟨27, c34_b, [(.tmp 2)], some ([2], [], []), false⟩
theorem c34_ok : compF Go.Proofs.Tryz.prog brs 34 = some (eraseF c34) := by kernel_rfl
def p120_3 : LP := [po 4 (.mov (ki 0))]
def p120_4 : LP := [po 6 (.build [(32, (.int .i64 0))] [(0, (1, (ki 160))), (1, (1, (ki 9670))), (2, (1, (ki 9618))), (3, (1, (ki 9225))), (4, (1, (ki 9228))), (5, (1, (ki 9229))), (6, (1, (ki 9226))), (7, (1, (ki 176))), (8, (1, (ki 177))), (9, (1, (ki 9252))), (10, (1, (ki 9227))), (11, (1, (ki 9496))), (12, (1, (ki 9488))), (13, (1, (ki 9484))), (14, (1, (ki 9492))), (15, (1, (ki 9532))), (16, (1, (ki 9146))), (17, (1, (ki 9147))), (18, (1, (ki 9472))), (19, (1, (ki 9148))), (20, (1, (ki 9149))), (21, (1, (ki 9500))), (22, (1, (ki 9508))), (23, (1, (ki 9524))), (24, (1, (ki 9516))), (25, (1, (ki 9474))), (26, (1, (ki 8804))), (27, (1, (ki 8805))), (28, (1, (ki 960))), (29, (1, (ki 8800))), (30, (1, (ki 163))), (31, (1, (ki 183)))]), po 5 (.alloc [(32, (.int .i64 0))]), pS 32 5 6]
def p120_5 : LP := [pm 8 0, po 9 (ck 8 2), pm 7 9]
def p120_6 : LP := [pm 10 1, po 11 (.cvI .i64 (tm 10)), pm 4 11]
def p120_7 : LP := [pm 13 1, po 14 (.cmpI .gtr (tm 13) (.const (.int .u8 127))), pm 12 14]
def p120_8 : LP := [po 4 (.mov (ki 65533))]
def p120_9 : LP := [pm 16 0, po 17 (ck 16 4), pm 18 17, pg 19 18 (.mov (tm 1)), pg 20 18 (.cmpI .eql (tm 19) (.const (.int .u8 35))), po 21 (.pick (tm 18) (tm 20) (.const (.bool .false))), pm 15 21]
def p120_10 : LP := [po 4 (.mov (ki 163))]
def p120_11 : LP := [pm 23 0, po 24 (ck 23 3), pm 25 24, pg 26 25 (.mov (tm 1)), pg 27 25 (.cmpI .geq (tm 26) (.const (.int .u8 95))), po 28 (.pick (tm 25) (tm 27) (.const (.bool .false))), pm 29 28, pg 30 29 (.mov (tm 1)), pg 31 29 (.cmpI .leq (tm 30) (.const (.int .u8 126))), po 32 (.pick (tm 29) (tm 31) (.const (.bool .false))), pm 22 32]
def p120_12 : LP := [pm 33 1, po 34 (.arI .sub (tm 33) (.const (.int .u8 95))), po 35 (.ixA 32 1 (tm 5) (tm 34)), po 36 (lf 1 35), pm 4 36]
def c120_1 : PCode := (.keep [0, 1, 5] [(48, .id 48)] [] (.seq (.reg p120_11) (.cond (.tmp 22) (.seq (.reg p120_12) .ret) .skip)))
def c120_13 : PCode := (.seq (.reg p120_5) (.cond (.tmp 7) (.seq (.reg p120_6) .ret) (.seq (.reg p120_7) (.cond (.tmp 12) (.seq (.reg p120_8) .ret) (.seq (.reg p120_9) (.cond (.tmp 15) (.seq (.reg p120_10) .ret) c120_1))))))
def p120_14 : LP := [pm 37 1, po 38 (.cvI .i64 (tm 37)), pm 4 38]
def c120_2 : PCode := (.seq (.reg p120_14) .ret)
def c120_b : PCode := (.seq (.reg p120_3) (.seq (.reg p120_4) (.seq (.block 0 c120_13) c120_2)))
def c120 : FCode := ⟨39, c120_b, [(.tmp 4)], some ([4], [], []), false⟩
theorem c120_ok : compF Go.Proofs.Tryz.prog brs 120 = some (eraseF c120) := by kernel_rfl
def p83_1 : LP := [po 4 (.mov (ki 0)), po 5 (.mov (ki 0))]
def p83_2 : LP := [pm 6 0, po 7 (c1 22 6), po 8 (.un .not (tm 7))]
def p83_3 : LP := [po 4 (.mov (ki 0)), po 5 (.mov (ki 6))]
def p83_4 : LP := [pm 9 0, pm 10 1, po 11 (.call 120 [(tm 9), (tm 10)]), pm 4 11, po 5 (.mov (ki 0))]
def c83_b : PCode := (.seq (.reg p83_1) (.seq (.seq (.reg p83_2) (.cond (.tmp 8) (.seq (.reg p83_3) .ret) .skip)) (.seq (.reg p83_4) .ret)))
def c83 : FCode := ⟨12, c83_b, [(.tmp 4), (.tmp 5)], some ([4, 5], [], []), false⟩
theorem c83_ok : compF Go.Proofs.Tryz.prog brs 83 = some (eraseF c83) := by kernel_rfl
def p86_1 : LP := [po 4 (.mov (.const (.bool .false)))]
def p86_2 : LP := [pm 5 0, po 6 (.nilC (tm 5)), po 7 (fd 0 6), po 8 (fd 11 7), po 9 (lf 1 8), pm 10 1, po 11 (.arI .and (tm 9) (tm 10)), po 12 (.cmpI .neq (tm 11) (ki 0)), pm 4 12]
def c86_b : PCode := (.seq (.reg p86_1) (.seq (.reg p86_2) .ret))
def c86 : FCode := ⟨13, c86_b, [(.tmp 4)], some ([4], [], []), false⟩
theorem c86_ok : compF Go.Proofs.Tryz.prog brs 86 = some (eraseF c86) := by kernel_rfl
def p75_1 : LP := [po 1 (.box 3 (tm 0)), po 2 (.alloc [(4, (.int .i64 0))])]
def p75_2 : LP := [po 3 (lt 3 1), po 4 (.build [(4, (.int .i64 0))] [(0, (1, (ki 32))), (1, (3, (tm 3)))]), pS 4 2 4]
def c75_b : PCode := (.seq (.reg p75_1) (.seq (.reg p75_2) .ret))
def c75 : FCode := ⟨5, c75_b, [(.cell 2 .true 4)], some ([2], [(24, .id 24)], []), false⟩
theorem c75_ok : compF Go.Proofs.Tryz.prog brs 75 = some (eraseF c75) := by kernel_rfl
def p125_4 : LP := [pm 4 0, po 5 (c1 24 4), pm 2 5]
def p125_5 : LP := [pm 6 0, po 7 (.len .false (tm 6)), po 8 (.mov (ki 0))]
def p125_6 : LP := [po 9 (.cmpI .lss (tm 8) (tm 7))]
def p125_7 : LP := [pm 10 8, pm 3 10]
def p125_8 : LP := [pm 11 2, pm 12 3, po 13 (.call 38 [(tm 11), (tm 12)])]
def p125_9 : LP := [pm 14 0, pm 15 3, pm 16 2, pm 17 3, po 18 (.ixS 49 4 (tm 16) (tm 17)), po 19 (fd 1 18), po 20 (lt 3 19), po 21 (c1 75 20), po 22 (.ixS 49 4 (tm 14) (tm 15)), pS 4 22 21]
def p125_10 : LP := [po 23 (.arI .add (tm 8) (ki 1)), pm 8 23]
def c125_1 : PCode := (.keep [0, 2, 7, 8] [(0, .id 0), (48, .id 48)] [] (.seq (.block 1 (.seq (.reg p125_7) (.seq (.reg p125_8) (.cond (.tmp 13) (.reg p125_9) .skip)))) (.reg p125_10)))
def c125_2 : PCode := (.keep [0, 2, 7, 8, 9] [(0, .id 0), (48, .id 48)] [] (.seq (.cond (.tmp 9) .skip (.keep [] [(0, .id 0)] [] (.exit 0))) c125_1))
def c125_3 : PCode := (.keep [0, 2, 7, 8] [(0, .id 0), (48, .id 48)] [] (.seq (.reg p125_6) c125_2))
def c125_b : PCode := (.seq (.reg p125_4) (.seq (.reg p125_5) (.block 0 (.loop c125_3))))
def c125 : FCode := ⟨24, c125_b, [], some ([2000000], [(0, .id 0)], []), false⟩
theorem c125_ok : compF Go.Proofs.Tryz.prog brs 125 = some (eraseF c125) := by kernel_rfl
def p89_1 : LP := [po 5 (.box 3 (tm 0)), po 9 (.box 3 (tm 4))]
def p89_2 : LP := [po 11 (lt 3 5), pm 12 1, po 13 (.callr 25 [(tm 11), (tm 12)]), pm 10 13]
def p89_3 : LP := [pm 14 10, pm 15 2, pm 16 3, po 17 (lt 3 9), po 18 (.build [(4, (.int .i64 0))] [(0, (1, (tm 16))), (1, (3, (tm 17)))]), po 19 (.ixS 49 4 (tm 14) (tm 15)), pS 4 19 18]
def p89_4 : LP := [pm 20 3, po 21 (c1 37 20), po 22 (ck 21 2)]
def p89_5 : LP := [pm 23 10, pm 24 2, po 25 (.arI .add (tm 24) (ki 1)), po 26 (lt 3 9), po 27 (.build [(4, (.int .i64 0))] [(1, (3, (tm 26)))]), po 28 (.ixS 49 4 (tm 23) (tm 25)), pS 4 28 27]
def p89_6 : LP := [pm 29 10, po 30 (.callr 125 [(tm 29)])]
def c89_b : PCode := (.seq (.reg p89_1) (.seq (.reg p89_2) (.seq (.reg p89_3) (.seq (.seq (.reg p89_4) (.cond (.tmp 22) (.reg p89_5) .skip)) (.reg p89_6)))))
def c89 : FCode := ⟨31, c89_b, [], some ([2000000], [(0, .id 0)], []), false⟩
theorem c89_ok : compF Go.Proofs.Tryz.prog brs 89 = some (eraseF c89) := by kernel_rfl
def p61_8 : LP := [pm 6 1, po 7 (.cmpI .geq (tm 6) (ki 0)), pm 8 7, pg 9 8 (.mov (tm 1)), pg 10 8 (.cmpI .leq (tm 9) (ki 127)), po 11 (.pick (tm 8) (tm 10) (.const (.bool .false)))]
def p61_9 : LP := [pm 13 0, pm 14 0, po 15 (.nilC (tm 14)), po 16 (fd 0 15), po 17 (fd 18 16), po 18 (lf 1 17), po 19 (.nilC (tm 13)), po 20 (fd 0 19), po 21 (fd 16 20), po 22 (.ixA 2 1 (tm 21) (tm 18)), po 23 (lf 1 22), pm 24 1, po 25 (.cvI .u8 (tm 24)), po 26 (.call 83 [(tm 23), (tm 25)]), pm 12 26, po 27 (.ext (tm 12) 0), po 28 (.ext (tm 12) 1), pm 1 27]
def c61_7 : PCode := (.keep [0, 1, 1000001, 1000002, 1000003] [(0, .id 0), (1, .id 1), (2, .id 2), (3, .id 3)] [] .skip)
def p61_10 : LP := [pm 29 1, po 30 (c1 37 29), pm 31 0, po 32 (.nilC (tm 31)), po 33 (fd 0 32), po 34 (fd 0 33), po 35 (fd 0 34), po 36 (lf 1 35), po 37 (.arI .sub (tm 36) (ki 1)), pm 4 30, pm 5 37]
def p61_11 : LP := [pm 38 4, po 39 (ck 38 0), pm 40 39, pf 41 40 (.mov (tm 4)), pf 42 40 (.mov (tm 0)), pf 43 40 (.nilC (tm 42)), pf 44 40 (fd 0 43), pf 45 40 (fd 0 44), pf 46 40 (fd 0 45), pf 47 40 (lf 1 46), pf 48 40 (.cmpI .gtr (tm 41) (tm 47)), po 49 (.pick (tm 40) (.const (.bool .true)) (tm 48))]
def p61_12 : LP := [pm 50 0, po 51 (.nilC (tm 50)), po 52 (fd 0 51), po 53 (fd 5 52), po 54 (lf 1 53)]
def p61_13 : LP := [pm 55 0, po 56 (.callr 84 [(tm 55), (ki 0)])]
def p61_14 : LP := [pm 57 0, po 58 (.callr 85 [(tm 57)])]
def p61_15 : LP := [pm 59 4, po 60 (ck 59 2), pm 61 60, pg 62 61 (.mov (tm 0)), pg 63 61 (.nilC (tm 62)), pg 64 61 (fd 0 63), pg 65 61 (fd 4 64), pg 66 61 (lf 1 65), pg 67 61 (.mov (tm 5)), pg 68 61 (.cmpI .eql (tm 66) (tm 67)), po 69 (.pick (tm 61) (tm 68) (.const (.bool .false)))]
def p61_16 : LP := [pm 70 0, po 71 (.call 86 [(tm 70), (ki 4)]), po 72 (.un .not (tm 71))]
def p61_17 : LP := [pm 73 0, po 74 (.callr 84 [(tm 73), (ki 0)])]
def p61_18 : LP := [pm 75 0, po 76 (.callr 85 [(tm 75)])]
def c61_3 : PCode := (.keep [0, 1, 4, 5, 1000001, 1000002, 1000003] [(0, .id 0), (1, .id 1), (2, .id 2), (3, .id 3)] [] .skip)
def p61_19 : LP := [pm 77 0, po 78 (.call 86 [(tm 77), (ki 1)])]
def p61_20 : LP := [pm 79 0, po 80 (.nilC (tm 79)), po 81 (fd 0 80), po 82 (fd 0 81), po 83 (lt 3 82), pm 84 0, po 85 (.nilC (tm 84)), po 86 (fd 0 85), po 87 (fd 3 86), po 88 (lf 1 87), pm 89 0, po 90 (.nilC (tm 89)), po 91 (fd 0 90), po 92 (fd 4 91), po 93 (lf 1 92), pm 94 0, po 95 (.nilC (tm 94)), po 96 (fd 0 95), po 97 (fd 0 96), po 98 (fd 0 97), po 99 (lf 1 98), pm 100 4, pm 101 0, po 102 (c1 88 101), po 103 (.callr 87 [(tm 83), (tm 88), (tm 93), (tm 99), (tm 100), (tm 102)])]
def p61_21 : LP := [pm 104 0, po 105 (.nilC (tm 104)), po 106 (fd 0 105), po 107 (fd 0 106), po 108 (lt 3 107), pm 109 0, po 110 (.nilC (tm 109)), po 111 (fd 0 110), po 112 (fd 3 111), po 113 (lf 1 112), pm 114 0, po 115 (.nilC (tm 114)), po 116 (fd 0 115), po 117 (fd 4 116), po 118 (lf 1 117), pm 119 1, pm 120 0, po 121 (.nilC (tm 120)), po 122 (fd 0 121), po 123 (fd 8 122), po 124 (lt 3 123), po 125 (.callr 89 [(tm 108), (tm 113), (tm 118), (tm 119), (tm 124)])]
def p61_22 : LP := [pm 126 0, po 127 (.nilC (tm 126)), po 128 (fd 0 127), po 129 (fd 4 128), po 130 (lf 1 129), pm 131 4, po 132 (.arI .add (tm 130) (tm 131)), po 133 (.nilC (tm 126)), po 134 (fd 0 133), po 135 (fd 4 134), pS 1 135 132]
def p61_23 : LP := [pm 136 0, po 137 (.nilC (tm 136)), po 138 (fd 0 137), po 139 (fd 4 138), po 140 (lf 1 139), pm 141 5, po 142 (.cmpI .gtr (tm 140) (tm 141))]
def p61_24 : LP := [pm 143 0, pm 144 0, pm 145 5, pm 146 0, po 147 (.call 86 [(tm 146), (ki 4)]), po 148 (.nilC (tm 143)), po 149 (fd 0 148), po 150 (fd 4 149), pS 1 150 145, po 151 (.nilC (tm 144)), po 152 (fd 0 151), po 153 (fd 5 152), pS 1 153 147]
def c61_1 : PCode := (.keep [0, 1, 4, 5, 1000001, 1000002, 1000003] [(0, .id 0), (1, .id 1), (2, .id 2), (3, .id 3)] [] (.seq (.regD p61_21 []) (.seq (.reg p61_22) (.seq (.reg p61_23) (.cond (.tmp 142) (.reg p61_24) .skip)))))
def c61_2 : PCode := (.keep [0, 1, 4, 5, 1000001, 1000002, 1000003] [(0, .id 0), (1, .id 1), (2, .id 2), (3, .id 3)] [] (.seq (.seq (.reg p61_19) (.cond (.tmp 78) (.regD p61_20 [(4, 23), (9, 23), (14, 23), (20, 23)]) .skip)) c61_1))
def c61_4 : PCode := (.keep [0, 1, 4, 5, 1000001, 1000002, 1000003] [(0, .id 0), (1, .id 1), (2, .id 2), (3, .id 3)] [] (.seq (.seq (.reg p61_15) (.cond (.tmp 69) (.seq (.seq (.reg p61_16) (.cond (.tmp 72) .ret .skip)) (.seq (.reg p61_17) (.reg p61_18))) c61_3)) c61_2))
def c61_5 : PCode := (.keep [0, 1, 4, 5, 1000001, 1000002, 1000003] [(0, .id 0), (1, .id 1), (2, .id 2), (3, .id 3)] [] (.seq (.seq (.reg p61_12) (.cond (.tmp 54) (.seq (.reg p61_13) (.reg p61_14)) .skip)) c61_4))
def c61_6 : PCode := (.keep [0, 1, 1000001, 1000002, 1000003] [(0, .id 0), (1, .id 1), (2, .id 2), (3, .id 3)] [] (.seq (.regD p61_10 [(1, 7)]) (.seq (.seq (.reg p61_11) (.cond (.tmp 49) .ret .skip)) c61_5)))
def c61_b : PCode := (.seq (.seq (.reg p61_8) (.cond (.tmp 11) (.regD p61_9 []) c61_7)) c61_6)
def c61 : FCode := ⟨154, c61_b, [], some ([1000001, 1000002, 1000003], [(0, .id 0), (1, .id 1), (2, .id 2), (3, .id 3)], []), false⟩
theorem c61_ok : compF Go.Proofs.Tryz.prog brs 61 = some (eraseF c61) := by kernel_rfl
def p99_1 : LP := [po 6 (.mov (ki 0))]
def p99_2 : LP := [pm 7 1, po 8 (.cmpI .lss (tm 7) (ki 0)), pm 9 8, pf 10 9 (.mov (tm 1)), pf 11 9 (.mov (tm 0)), pf 12 9 (.len .false (tm 11)), pf 13 9 (.cmpI .geq (tm 10) (tm 12)), po 14 (.pick (tm 9) (.const (.bool .true)) (tm 13)), pm 15 14, pf 16 15 (.mov (tm 0)), pf 17 15 (.mov (tm 1)), pf 18 15 (.ixS 3 1 (tm 16) (tm 17)), pf 19 15 (lf 1 18), pf 20 15 (.cmpI .eql (tm 19) (ki (-1))), po 21 (.pick (tm 15) (.const (.bool .true)) (tm 20))]
def p99_3 : LP := [pm 22 2, pm 6 22]
def p99_4 : LP := [pm 23 0, pm 24 1, po 25 (.ixS 3 1 (tm 23) (tm 24)), po 26 (lf 1 25), pm 6 26]
def c99_b : PCode := (.seq (.reg p99_1) (.seq (.seq (.reg p99_2) (.cond (.tmp 21) (.seq (.reg p99_3) .ret) .skip)) (.seq (.reg p99_4) .ret)))
def c99 : FCode := ⟨27, c99_b, [(.tmp 6)], some ([6], [], []), false⟩
theorem c99_ok : compF Go.Proofs.Tryz.prog brs 99 = some (eraseF c99) := by kernel_rfl
def p98_1 : LP := [po 4 (.mov (ki 0))]
def p98_2 : LP := [pm 5 0, pm 6 1, po 7 (.call 99 [(tm 5), (tm 6), (ki 1)]), po 8 (.mx [(tm 7), (ki 1)]), pm 4 8]
def c98_b : PCode := (.seq (.reg p98_1) (.seq (.reg p98_2) .ret))
def c98 : FCode := ⟨9, c98_b, [(.tmp 4)], some ([4], [], []), false⟩
theorem c98_ok : compF Go.Proofs.Tryz.prog brs 98 = some (eraseF c98) := by kernel_rfl
def p121_1 : LP := [po 6 (.mov (ki 0))]
def p121_2 : LP := [pm 7 1, pm 8 0, pm 9 2, po 10 (.mn [(tm 8), (tm 9)]), po 11 (.mx [(tm 7), (tm 10)]), pm 6 11]
def c121_b : PCode := (.seq (.reg p121_1) (.seq (.reg p121_2) .ret))
def c121 : FCode := ⟨12, c121_b, [(.tmp 6)], some ([6], [], []), false⟩
theorem c121_ok : compF Go.Proofs.Tryz.prog brs 121 = some (eraseF c121) := by kernel_rfl
def p84_1 : LP := [pm 4 0, po 5 (.nilC (tm 4)), po 6 (fd 0 5), po 7 (fd 5 6), ⟨.none, (.store 1 (tm 7) (.const (.bool .false))), .none⟩]
def p84_2 : LP := [pm 8 0, pm 9 1, pm 10 0, po 11 (.nilC (tm 10)), po 12 (fd 0 11), po 13 (fd 0 12), po 14 (fd 0 13), po 15 (lf 1 14), po 16 (.arI .sub (tm 15) (ki 1)), po 17 (.call 121 [(tm 9), (ki 0), (tm 16)]), po 18 (.nilC (tm 8)), po 19 (fd 0 18), po 20 (fd 4 19), pS 1 20 17]
def c84_b : PCode := (.seq (.reg p84_1) (.reg p84_2))
def c84 : FCode := ⟨21, c84_b, [], some ([2000000], [(0, .id 0), (1, .id 1), (2, .id 2), (3, .id 3)], []), false⟩
theorem c84_ok : compF Go.Proofs.Tryz.prog brs 84 = some (eraseF c84) := by kernel_rfl
def p128_1 : LP := [pm 6 0, po 7 (.call 86 [(tm 6), (ki 2)])]
def p128_2 : LP := [pm 8 0, pm 9 1, pm 10 0, po 11 (.nilC (tm 10)), po 12 (fd 0 11), po 13 (fd 6 12), po 14 (lf 1 13), po 15 (.arI .add (tm 9) (tm 14)), pm 16 0, po 17 (.nilC (tm 16)), po 18 (fd 0 17), po 19 (fd 6 18), po 20 (lf 1 19), pm 21 0, po 22 (.nilC (tm 21)), po 23 (fd 0 22), po 24 (fd 7 23), po 25 (lf 1 24), po 26 (.arI .sub (tm 25) (ki 1)), po 27 (.call 121 [(tm 15), (tm 20), (tm 26)]), po 28 (.nilC (tm 8)), po 29 (fd 0 28), po 30 (fd 3 29), pS 1 30 27]
def p128_3 : LP := [pm 31 0, pm 32 1, pm 33 0, po 34 (.nilC (tm 33)), po 35 (fd 0 34), po 36 (fd 0 35), po 37 (fd 1 36), po 38 (lf 1 37), po 39 (.arI .sub (tm 38) (ki 1)), po 40 (.call 121 [(tm 32), (ki 0), (tm 39)]), po 41 (.nilC (tm 31)), po 42 (fd 0 41), po 43 (fd 3 42), pS 1 43 40]
def p128_4 : LP := [pm 44 0, pm 45 2, po 46 (.callr 84 [(tm 44), (tm 45)])]
def c128_b : PCode := (.seq (.seq (.reg p128_1) (.cond (.tmp 7) (.regD p128_2 []) (.reg p128_3))) (.reg p128_4))
def c128 : FCode := ⟨47, c128_b, [], some ([2000000], [(0, .id 0), (1, .id 1), (2, .id 2), (3, .id 3)], []), false⟩
theorem c128_ok : compF Go.Proofs.Tryz.prog brs 128 = some (eraseF c128) := by kernel_rfl
def p100_4 : LP := [po 4 (.box 6 (tm 1)), po 6 (.mov (.const (.bool .false)))]
def p100_5 : LP := [po 11 (fd 1 4), po 12 (lf 1 11)]
def p100_6 : LP := [po 14 (ck 12 65), pm 13 14]
def p100_7 : LP := [pm 15 0, pm 16 2, po 17 (.callr 127 [(tm 15), (tm 16)])]
def p100_8 : LP := [po 19 (ck 12 66), pm 18 19]
def p100_9 : LP := [pm 20 0, pm 21 2, po 22 (.un .neg (tm 21)), po 23 (.callr 127 [(tm 20), (tm 22)])]
def p100_10 : LP := [po 25 (ck 12 67), pm 24 25]
def p100_11 : LP := [pm 26 0, pm 27 0, po 28 (.nilC (tm 27)), po 29 (fd 0 28), po 30 (fd 4 29), po 31 (lf 1 30), pm 32 2, po 33 (.arI .add (tm 31) (tm 32)), po 34 (.callr 84 [(tm 26), (tm 33)])]
def p100_12 : LP := [po 36 (ck 12 68), pm 35 36]
def p100_13 : LP := [pm 37 0, pm 38 0, po 39 (.nilC (tm 38)), po 40 (fd 0 39), po 41 (fd 4 40), po 42 (lf 1 41), pm 43 2, po 44 (.arI .sub (tm 42) (tm 43)), po 45 (.callr 84 [(tm 37), (tm 44)])]
def p100_14 : LP := [po 47 (ck 12 69), pm 46 47]
def p100_15 : LP := [pm 48 0, pm 49 2, po 50 (.un .neg (tm 49)), po 51 (.callr 127 [(tm 48), (tm 50)])]
def p100_16 : LP := [pm 52 0, po 53 (.callr 84 [(tm 52), (ki 0)])]
def p100_17 : LP := [po 55 (ck 12 70), pm 54 55]
def p100_18 : LP := [pm 56 0, pm 57 2, po 58 (.callr 127 [(tm 56), (tm 57)])]
def p100_19 : LP := [pm 59 0, po 60 (.callr 84 [(tm 59), (ki 0)])]
def p100_20 : LP := [po 62 (ck 12 71), pm 61 62]
def p100_21 : LP := [po 63 (ck 12 96), pm 61 63]
def p100_22 : LP := [pm 64 0, pm 65 2, po 66 (.arI .sub (tm 65) (ki 1)), po 67 (.callr 84 [(tm 64), (tm 66)])]
def p100_23 : LP := [po 69 (ck 12 100), pm 68 69]
def p100_24 : LP := [pm 70 0, pm 71 2, po 72 (.arI .sub (tm 71) (ki 1)), pm 73 0, po 74 (.nilC (tm 73)), po 75 (fd 0 74), po 76 (fd 4 75), po 77 (lf 1 76), po 78 (.callr 128 [(tm 70), (tm 72), (tm 77)])]
def p100_25 : LP := [po 80 (ck 12 72), pm 79 80]
def p100_26 : LP := [po 81 (ck 12 102), pm 79 81]
def p100_27 : LP := [pm 82 0, pm 83 2, po 84 (.arI .sub (tm 83) (ki 1)), po 85 (fd 4 4), po 86 (lf 1 85), po 87 (.call 98 [(tm 86), (ki 1)]), po 88 (.arI .sub (tm 87) (ki 1)), po 89 (.callr 128 [(tm 82), (tm 84), (tm 88)])]
def p100_28 : LP := [po 91 (ck 12 73), pm 90 91]
def p100_29 : LP := [pm 93 0, po 94 (.nilC (tm 93)), po 95 (fd 0 94), po 96 (fd 12 95), po 97 (lt 4 96), pm 98 0, po 99 (.nilC (tm 98)), po 100 (fd 0 99), po 101 (fd 4 100), po 102 (lf 1 101), pm 103 2, pm 104 0, po 105 (.nilC (tm 104)), po 106 (fd 0 105), po 107 (fd 0 106), po 108 (fd 0 107), po 109 (lf 1 108), po 110 (.call 90 [(tm 97), (tm 102), (tm 103), (tm 109)]), pm 92 110, po 111 (.ext (tm 92) 0), po 112 (.ext (tm 92) 1), pm 7 111, pm 8 112]
def p100_30 : LP := [pm 113 0, pm 114 7, po 115 (.callr 84 [(tm 113), (tm 114)])]
def p100_31 : LP := [po 117 (ck 12 90), pm 116 117]
def p100_32 : LP := [pm 119 0, po 120 (.nilC (tm 119)), po 121 (fd 0 120), po 122 (fd 12 121), po 123 (lt 4 122), pm 124 0, po 125 (.nilC (tm 124)), po 126 (fd 0 125), po 127 (fd 4 126), po 128 (lf 1 127), pm 129 2, po 130 (.call 129 [(tm 123), (tm 128), (tm 129)]), pm 118 130, po 131 (.ext (tm 118) 0), po 132 (.ext (tm 118) 1), pm 9 131, pm 10 132]
def p100_33 : LP := [pm 133 0, pm 134 9, po 135 (.callr 84 [(tm 133), (tm 134)])]
def p100_34 : LP := [po 137 (ck 12 115), pm 136 137]
def p100_35 : LP := [pm 138 0, po 139 (.callr 93 [(tm 138)])]
def p100_36 : LP := [po 141 (ck 12 117), pm 140 141]
def p100_37 : LP := [pm 142 0, po 143 (.callr 94 [(tm 142)])]
def p100_38 : LP := [po 6 (.mov (.const (.bool .false)))]
def c100_39 : PCode := (.seq (.reg p100_31) (.cond (.tmp 116) (.seq (.regD p100_32 []) (.reg p100_33)) (.seq (.reg p100_34) (.cond (.tmp 136) (.reg p100_35) (.seq (.reg p100_36) (.cond (.tmp 140) (.reg p100_37) (.seq (.reg p100_38) .ret)))))))
def c100_1 : PCode := (.keep [0, 2, 4, 12, 79] [(0, .id 0), (1, .id 1), (2, .id 2), (3, .id 3), (40, .id 40)] [] (.cond (.tmp 79) (.reg p100_27) (.seq (.reg p100_28) (.cond (.tmp 90) (.seq (.regD p100_29 []) (.reg p100_30)) c100_39))))
def c100_3 : PCode := (.keep [0, 2, 4, 12, 61] [(0, .id 0), (1, .id 1), (2, .id 2), (3, .id 3), (40, .id 40)] [] (.cond (.tmp 61) (.reg p100_22) (.seq (.reg p100_23) (.cond (.tmp 68) (.reg p100_24) (.seq (.seq (.reg p100_25) (.cond (.tmp 79) .skip (.reg p100_26))) c100_1)))))
def c100_40 : PCode := (.cond (.tmp 46) (.seq (.reg p100_15) (.reg p100_16)) (.seq (.reg p100_17) (.cond (.tmp 54) (.seq (.reg p100_18) (.reg p100_19)) (.seq (.seq (.reg p100_20) (.cond (.tmp 61) .skip (.reg p100_21))) c100_3))))
def c100_41 : PCode := (.cond (.tmp 13) (.reg p100_7) (.seq (.reg p100_8) (.cond (.tmp 18) (.reg p100_9) (.seq (.reg p100_10) (.cond (.tmp 24) (.reg p100_11) (.seq (.reg p100_12) (.cond (.tmp 35) (.reg p100_13) (.seq (.reg p100_14) c100_40))))))))
def p100_42 : LP := [po 6 (.mov (.const (.bool .true)))]
def c100_2 : PCode := (.seq (.reg p100_42) .ret)
def c100_b : PCode := (.seq (.reg p100_4) (.seq (.seq (.reg p100_5) (.block 0 (.seq (.reg p100_6) c100_41))) c100_2))
def c100 : FCode := ⟨144, c100_b, [(.tmp 6)], some ([6, 2000000], [(0, .id 0), (1, .id 1), (2, .id 2), (3, .id 3)], []), false⟩
theorem c100_ok : compF Go.Proofs.Tryz.prog brs 100 = some (eraseF c100) := by kernel_rfl
def p101_5 : LP := [po 8 (.mov (.const (.bool .false)))]
def p101_6 : LP := [pm 11 0, po 12 (.nilC (tm 11)), po 13 (fd 0 12), po 14 (fd 0 13), po 15 (fd 0 14), po 16 (lf 1 15), pm 9 16]
def p101_7 : LP := [pm 17 1]
def p101_8 : LP := [po 19 (ck 17 64), pm 18 19]
def p101_9 : LP := [po 20 (ck 17 80), pm 18 20]
def p101_10 : LP := [pm 21 1, po 22 (ck 21 80)]
def p101_11 : LP := [pm 23 2, po 24 (.un .neg (tm 23)), pm 2 24]
def p101_12 : LP := [pm 25 0, po 26 (.nilC (tm 25)), po 27 (fd 0 26), po 28 (fd 5 27), ⟨.none, (.store 1 (tm 28) (.const (.bool .false))), .none⟩]
def p101_13 : LP := [pm 29 0, po 30 (.nilC (tm 29)), po 31 (fd 0 30), po 32 (fd 0 31), po 33 (lt 3 32), pm 34 0, po 35 (.nilC (tm 34)), po 36 (fd 0 35), po 37 (fd 3 36), po 38 (lf 1 37), pm 39 0, po 40 (.nilC (tm 39)), po 41 (fd 0 40), po 42 (fd 4 41), po 43 (lf 1 42), pm 44 9, pm 45 2, pm 46 0, po 47 (c1 88 46), po 48 (.callr 87 [(tm 33), (tm 38), (tm 43), (tm 44), (tm 45), (tm 47)])]
def p101_14 : LP := [po 50 (ck 17 74), pm 49 50]
def p101_15 : LP := [pm 51 3, po 52 (ck 51 3)]
def p101_16 : LP := [pm 53 0, po 54 (.nilC (tm 53)), po 55 (fd 0 54), po 56 (fd 32 55), ⟨.none, (.store 1 (tm 56) (.const (.slice .none 0 0))), .none⟩]
def p101_17 : LP := [pm 57 0, pm 58 3, po 59 (.callr 130 [(tm 57), (tm 58)]), po 60 (.un .not (tm 59))]
def p101_18 : LP := [pm 61 0, po 62 (.nilC (tm 61)), po 63 (fd 0 62), po 64 (fd 0 63), po 65 (fd 1 64), po 66 (lf 1 65), po 67 (.mov (ki 0))]
def p101_19 : LP := [po 68 (.cmpI .lss (tm 67) (tm 66))]
def p101_20 : LP := [pm 69 67, pm 10 69]
def p101_21 : LP := [pm 70 3, po 71 (ck 70 2), pm 72 71, pf 73 72 (.mov (tm 3)), pf 74 72 (ck 73 0), pf 75 72 (.mov (tm 74)), pg 76 75 (.mov (tm 10)), pg 77 75 (.mov (tm 0)), pg 78 75 (.nilC (tm 77)), pg 79 75 (fd 0 78), pg 80 75 (fd 3 79), pg 81 75 (lf 1 80), pg 82 75 (.cmpI .gtr (tm 76) (tm 81)), pf 83 72 (.pick (tm 75) (tm 82) (.const (.bool .false))), po 84 (.pick (tm 72) (.const (.bool .true)) (tm 83)), pm 85 84, pf 86 85 (.mov (tm 3)), pf 87 85 (ck 86 1), pf 88 85 (.mov (tm 87)), pg 89 88 (.mov (tm 10)), pg 90 88 (.mov (tm 0)), pg 91 88 (.nilC (tm 90)), pg 92 88 (fd 0 91), pg 93 88 (fd 3 92), pg 94 88 (lf 1 93), pg 95 88 (.cmpI .lss (tm 89) (tm 94)), pf 96 85 (.pick (tm 88) (tm 95) (.const (.bool .false))), po 97 (.pick (tm 85) (.const (.bool .true)) (tm 96))]
def p101_22 : LP := [pm 98 0, pm 99 10, pm 100 9, po 101 (.callr 131 [(tm 98), (tm 99), (ki 0), (tm 100)])]
def p101_23 : LP := [po 102 (.arI .add (tm 67) (ki 1)), pm 67 102]
def c101_24 : PCode := (.seq (.reg p101_18) (.block 1 (.loop (.seq (.reg p101_19) (.seq (.cond (.tmp 68) .skip (.exit 1)) (.seq (.block 2 (.seq (.reg p101_20) (.seq (.reg p101_21) (.cond (.tmp 97) (.reg p101_22) .skip)))) (.reg p101_23)))))))
def p101_25 : LP := [po 104 (ck 17 75), pm 103 104]
def p101_26 : LP := [pm 105 0, pm 106 3, po 107 (.callr 130 [(tm 105), (tm 106)])]
def p101_27 : LP := [po 109 (ck 17 88), pm 108 109]
def p101_28 : LP := [pm 110 0, pm 111 0, po 112 (.nilC (tm 111)), po 113 (fd 0 112), po 114 (fd 3 113), po 115 (lf 1 114), pm 116 0, po 117 (.nilC (tm 116)), po 118 (fd 0 117), po 119 (fd 4 118), po 120 (lf 1 119), pm 121 0, po 122 (.nilC (tm 121)), po 123 (fd 0 122), po 124 (fd 4 123), po 125 (lf 1 124), pm 126 2, po 127 (.arI .add (tm 125) (tm 126)), pm 128 9, po 129 (.mn [(tm 127), (tm 128)]), po 130 (.callr 131 [(tm 110), (tm 115), (tm 120), (tm 129)])]
def p101_29 : LP := [po 132 (ck 17 76), pm 131 132]
def p101_30 : LP := [po 133 (ck 17 77), pm 131 133]
def p101_31 : LP := [pm 134 1, po 135 (ck 134 76)]
def p101_32 : LP := [pm 136 2, po 137 (.un .neg (tm 136)), pm 2 137]
def p101_33 : LP := [pm 138 0, po 139 (.nilC (tm 138)), po 140 (fd 0 139), po 141 (fd 3 140), po 142 (lf 1 141), pm 143 0, po 144 (.nilC (tm 143)), po 145 (fd 0 144), po 146 (fd 6 145), po 147 (lf 1 146), pm 148 0, po 149 (.nilC (tm 148)), po 150 (fd 0 149), po 151 (fd 7 150), po 152 (lf 1 151), po 153 (.arI .sub (tm 152) (ki 1)), po 154 (.call 20 [(tm 142), (tm 147), (tm 153)])]
def p101_34 : LP := [pm 155 0, po 156 (.nilC (tm 155)), po 157 (fd 0 156), po 158 (fd 0 157), po 159 (lt 3 158), pm 160 0, po 161 (.nilC (tm 160)), po 162 (fd 0 161), po 163 (fd 3 162), po 164 (lf 1 163), pm 165 0, po 166 (.nilC (tm 165)), po 167 (fd 0 166), po 168 (fd 7 167), po 169 (lf 1 168), pm 170 2, pm 171 0, po 172 (c1 88 171), po 173 (.callr 122 [(tm 159), (tm 164), (tm 169), (tm 170), (tm 172)])]
def p101_35 : LP := [pm 174 0, po 175 (.callr 84 [(tm 174), (ki 0)])]
def p101_36 : LP := [po 177 (ck 17 83), pm 176 177]
def p101_37 : LP := [po 178 (ck 17 84), pm 176 178]
def p101_38 : LP := [pm 179 1, po 180 (ck 179 84)]
def p101_39 : LP := [pm 181 2, po 182 (.un .neg (tm 181)), pm 2 182]
def p101_40 : LP := [pm 183 0, po 184 (.nilC (tm 183)), po 185 (fd 0 184), po 186 (fd 5 185), ⟨.none, (.store 1 (tm 186) (.const (.bool .false))), .none⟩]
def p101_41 : LP := [pm 187 0, po 188 (.nilC (tm 187)), po 189 (fd 0 188), po 190 (fd 0 189), po 191 (lt 3 190), pm 192 0, po 193 (.nilC (tm 192)), po 194 (fd 0 193), po 195 (fd 6 194), po 196 (lf 1 195), pm 197 0, po 198 (.nilC (tm 197)), po 199 (fd 0 198), po 200 (fd 7 199), po 201 (lf 1 200), pm 202 2, pm 203 0, po 204 (c1 88 203), po 205 (.callr 122 [(tm 191), (tm 196), (tm 201), (tm 202), (tm 204)])]
def p101_42 : LP := [po 8 (.mov (.const (.bool .false)))]
def c101_1 : PCode := (.keep [0, 1, 2, 176, 1000001, 1000002, 1000003] [(0, .id 0), (1, .id 1), (2, .id 2), (3, .id 3)] [] (.cond (.tmp 176) (.seq (.seq (.reg p101_38) (.cond (.tmp 180) (.reg p101_39) .skip)) (.seq (.reg p101_40) (.regD p101_41 [(4, 17), (9, 17), (14, 17)]))) (.seq (.reg p101_42) .ret)))
def c101_3 : PCode := (.keep [0, 1, 2, 17, 131, 1000001, 1000002, 1000003] [(0, .id 0), (1, .id 1), (2, .id 2), (3, .id 3)] [] (.cond (.tmp 131) (.seq (.seq (.reg p101_31) (.cond (.tmp 135) (.reg p101_32) .skip)) (.seq (.regD p101_33 []) (.cond (.tmp 154) (.seq (.regD p101_34 [(4, 17), (9, 17), (14, 17)]) (.reg p101_35)) .skip))) (.seq (.seq (.reg p101_36) (.cond (.tmp 176) .skip (.reg p101_37))) c101_1)))
def c101_43 : PCode := (.cond (.tmp 49) (.seq (.seq (.reg p101_15) (.cond (.tmp 52) (.reg p101_16) .skip)) (.seq (.seq (.reg p101_17) (.cond (.tmp 60) (.exit 0) .skip)) c101_24)) (.seq (.reg p101_25) (.cond (.tmp 103) (.reg p101_26) (.seq (.reg p101_27) (.cond (.tmp 108) (.regD p101_28 []) (.seq (.seq (.reg p101_29) (.cond (.tmp 131) .skip (.reg p101_30))) c101_3))))))
def c101_4 : PCode := (.keep [0, 1, 2, 3, 9, 17, 18, 1000001, 1000002, 1000003] [(0, .id 0), (1, .id 1), (2, .id 2), (3, .id 3)] [] (.cond (.tmp 18) (.seq (.seq (.reg p101_10) (.cond (.tmp 22) (.reg p101_11) .skip)) (.seq (.reg p101_12) (.regD p101_13 [(4, 18), (9, 18), (14, 18)]))) (.seq (.reg p101_14) c101_43)))
def p101_44 : LP := [po 8 (.mov (.const (.bool .true)))]
def c101_2 : PCode := (.seq (.reg p101_44) .ret)
def c101_b : PCode := (.seq (.reg p101_5) (.seq (.reg p101_6) (.seq (.seq (.reg p101_7) (.block 0 (.seq (.seq (.reg p101_8) (.cond (.tmp 18) .skip (.reg p101_9))) c101_4))) c101_2)))
def c101 : FCode := ⟨206, c101_b, [(.tmp 8)], some ([8, 1000001, 1000002, 1000003], [(0, .id 0), (1, .id 1), (2, .id 2), (3, .id 3)], []), false⟩
theorem c101_ok : compF Go.Proofs.Tryz.prog brs 101 = some (eraseF c101) := by kernel_rfl
def p150_1 : LP := [po 2 (.mov (.const (.bool .false)))]
def p150_2 : LP := [pm 3 0, po 4 (.cmpI .lss (tm 3) (ki (-1))), pm 5 4, pf 6 5 (.mov (tm 0)), pf 7 5 (.cmpI .gtr (tm 6) (ki 16383)), po 8 (.pick (tm 5) (.const (.bool .true)) (tm 7)), pm 2 8]
def c150_b : PCode := (.seq (.reg p150_1) (.seq (.reg p150_2) .ret))
def c150 : FCode := ⟨9, c150_b, [(.tmp 2)], some ([2], [], []), false⟩
theorem c150_ok : compF Go.Proofs.Tryz.prog brs 150 = some (eraseF c150) := by kernel_rfl
def p151_6 : LP := [pm 6 0, po 7 (.nilC (tm 6)), po 8 (fd 1 7), pm 4 8, po 5 (.mov (ki 30))]
def p151_7 : LP := [pm 9 1, po 10 (.cmpI .geq (tm 9) (ki 40)), pm 11 10, pg 12 11 (.mov (tm 1)), pg 13 11 (.cmpI .leq (tm 12) (ki 49)), po 14 (.pick (tm 11) (tm 13) (.const (.bool .false))), pm 15 14, pf 16 15 (.mov (tm 1)), pf 17 15 (.cmpI .geq (tm 16) (ki 100)), pf 18 15 (.mov (tm 17)), pg 19 18 (.mov (tm 1)), pg 20 18 (.cmpI .leq (tm 19) (ki 107)), pf 21 15 (.pick (tm 18) (tm 20) (.const (.bool .false))), po 22 (.pick (tm 15) (.const (.bool .true)) (tm 21))]
def p151_8 : LP := [pm 23 0, po 24 (.nilC (tm 23)), po 25 (fd 2 24), pm 4 25, po 5 (.mov (ki 40))]
def c151_4 : PCode := (.keep [0, 1] [(0, .id 0)] [] (.reg p151_8))
def c151_5 : PCode := (.keep [0, 1, 4, 5] [(0, .id 0)] [] .skip)
def p151_9 : LP := [pm 27 1, po 28 (ck 27 0), pm 26 28]
def p151_10 : LP := [pm 29 0, po 30 (.build [(3, (.int .i64 0))] []), po 31 (.nilC (tm 29)), pS 3 31 30]
def p151_11 : LP := [pm 33 1, po 34 (.cmpI .leq (tm 33) (ki 9)), pm 32 34]
def p151_12 : LP := [pm 35 0, po 36 (.nilC (tm 35)), po 37 (fd 0 36), po 38 (lf 1 37), pm 39 1, po 40 (c1 48 39), po 41 (.arI .or (tm 38) (tm 40)), po 42 (.nilC (tm 35)), po 43 (fd 0 42), pS 1 43 41]
def p151_13 : LP := [pm 45 1, po 46 (ck 45 22), pm 44 46]
def p151_14 : LP := [pm 47 0, po 48 (.nilC (tm 47)), po 49 (fd 0 48), po 50 (lf 1 49), po 51 (.arI .andNot (tm 50) (ki 3)), po 52 (.nilC (tm 47)), po 53 (fd 0 52), pS 1 53 51]
def p151_15 : LP := [pm 55 1, po 56 (.cmpI .geq (tm 55) (ki 23)), pm 57 56, pg 58 57 (.mov (tm 1)), pg 59 57 (.cmpI .leq (tm 58) (ki 29)), po 60 (.pick (tm 57) (tm 59) (.const (.bool .false))), pm 54 60]
def p151_16 : LP := [pm 61 0, po 62 (.nilC (tm 61)), po 63 (fd 0 62), po 64 (lf 1 63), pm 65 1, po 66 (.arI .sub (tm 65) (ki 20)), po 67 (c1 48 66), po 68 (.arI .andNot (tm 64) (tm 67)), po 69 (.nilC (tm 61)), po 70 (fd 0 69), pS 1 70 68]
def p151_17 : LP := [pm 72 1, pm 73 5, po 74 (.cmpI .geq (tm 72) (tm 73)), pm 75 74, pg 76 75 (.mov (tm 1)), pg 77 75 (.mov (tm 5)), pg 78 75 (.arI .add (tm 77) (ki 7)), pg 79 75 (.cmpI .leq (tm 76) (tm 78)), po 80 (.pick (tm 75) (tm 79) (.const (.bool .false))), pm 71 80]
def p151_18 : LP := [pm 81 4, pm 82 1, pm 83 5, po 84 (.arI .sub (tm 82) (tm 83)), po 85 (.arI .add (tm 84) (ki 1)), po 86 (.nilC (tm 81)), pS 1 86 85]
def p151_19 : LP := [pm 88 1, pm 89 5, po 90 (.arI .add (tm 89) (ki 9)), po 91 (.cmpI .eql (tm 88) (tm 90)), pm 87 91]
def p151_20 : LP := [pm 92 4, po 93 (.nilC (tm 92)), ⟨.none, (.store 1 (tm 93) (ki 0)), .none⟩]
def p151_21 : LP := [pm 95 1, pm 96 5, po 97 (.arI .add (tm 96) (ki 60)), po 98 (.cmpI .geq (tm 95) (tm 97)), pm 99 98, pg 100 99 (.mov (tm 1)), pg 101 99 (.mov (tm 5)), pg 102 99 (.arI .add (tm 101) (ki 67)), pg 103 99 (.cmpI .leq (tm 100) (tm 102)), po 104 (.pick (tm 99) (tm 103) (.const (.bool .false))), pm 94 104]
def p151_22 : LP := [pm 105 4, pm 106 1, pm 107 5, po 108 (.arI .sub (tm 106) (tm 107)), po 109 (.arI .sub (tm 108) (ki 60)), po 110 (.arI .add (tm 109) (ki 9)), po 111 (.nilC (tm 105)), pS 1 111 110]
def c151_1 : PCode := (.keep [1, 4, 5] [(0, .id 0)] [] (.seq (.reg p151_19) (.cond (.tmp 87) (.reg p151_20) (.seq (.reg p151_21) (.cond (.tmp 94) (.reg p151_22) .skip)))))
def c151_2 : PCode := (.keep [1, 4, 5] [(0, .id 0)] [] (.seq (.reg p151_17) (.cond (.tmp 71) (.reg p151_18) c151_1)))
def c151_23 : PCode := (.cond (.tmp 26) (.reg p151_10) (.seq (.reg p151_11) (.cond (.tmp 32) (.regD p151_12 [(3, 5)]) (.seq (.reg p151_13) (.cond (.tmp 44) (.reg p151_14) (.seq (.reg p151_15) (.cond (.tmp 54) (.regD p151_16 [(3, 6)]) c151_2)))))))
def c151_3 : PCode := (.keep [0, 1, 4, 5] [(0, .id 0)] [] (.block 0 (.seq (.reg p151_9) c151_23)))
def c151_b : PCode := (.seq (.reg p151_6) (.seq (.seq (.reg p151_7) (.cond (.tmp 22) c151_4 c151_5)) c151_3))
def c151 : FCode := ⟨112, c151_b, [], some ([], [(0, .id 0)], []), false⟩
theorem c151_ok : compF Go.Proofs.Tryz.prog brs 151 = some (eraseF c151) := by kernel_rfl
def p165_1 : LP := [po 2 (.mov (.const (.bool .false)))]
def p165_2 : LP := [pm 3 0, po 4 (.cmpI .gtr (tm 3) (ki 255)), pm 2 4]
def c165_b : PCode := (.seq (.reg p165_1) (.seq (.reg p165_2) .ret))
def c165 : FCode := ⟨5, c165_b, [(.tmp 2)], some ([2], [], []), false⟩
theorem c165_ok : compF Go.Proofs.Tryz.prog brs 165 = some (eraseF c165) := by kernel_rfl
def p152_4 : LP := [po 2 (.mov (ki 0)), po 3 (.mov (ki 0))]
def p152_5 : LP := [po 4 (.mov (.func 165))]
def p152_6 : LP := [pm 6 0, po 7 (.len .false (tm 6)), po 8 (.cmpI .geq (tm 7) (ki 2)), pm 9 8, pg 10 9 (.mov (tm 0)), pg 11 9 (.ixS 3 1 (tm 10) (ki 0)), pg 12 9 (lf 1 11), pg 13 9 (ck 12 5), po 14 (.pick (tm 9) (tm 13) (.const (.bool .false))), pm 15 14, pg 16 15 (.mov (tm 4)), pg 17 15 (.mov (tm 0)), pg 18 15 (.ixS 3 1 (tm 17) (ki 1)), pg 19 15 (lf 1 18), pg 20 15 (.callv (tm 16) [(tm 19)]), pg 21 15 (.un .not (tm 20)), po 22 (.pick (tm 15) (tm 21) (.const (.bool .false))), pm 5 22]
def p152_7 : LP := [pm 23 0, po 24 (.ixS 3 1 (tm 23) (ki 1)), po 25 (lf 1 24), po 26 (.arI .add (tm 25) (ki 1)), pm 2 26, po 3 (.mov (ki 2))]
def p152_8 : LP := [pm 28 0, po 29 (.len .false (tm 28)), po 30 (.cmpI .geq (tm 29) (ki 4)), pm 31 30, pg 32 31 (.mov (tm 0)), pg 33 31 (.ixS 3 1 (tm 32) (ki 0)), pg 34 31 (lf 1 33), pg 35 31 (ck 34 2), po 36 (.pick (tm 31) (tm 35) (.const (.bool .false))), pm 37 36, pg 38 37 (.mov (tm 0)), pg 39 37 (.slS 3 1 (tm 38) (.some (ki 1)) (.some (ki 4))), pg 40 37 (.mov (tm 4)), pg 41 37 (.call 59 [(tm 39), (tm 40)]), pg 42 37 (.un .not (tm 41)), po 43 (.pick (tm 37) (tm 42) (.const (.bool .false))), pm 27 43]
def p152_9 : LP := [pm 44 0, po 45 (.ixS 3 1 (tm 44) (ki 1)), po 46 (lf 1 45), po 47 (.sh .shl (tm 46) (.const (.int .u64 16))), po 48 (.arI .add (ki 16777216) (tm 47)), pm 49 0, po 50 (.ixS 3 1 (tm 49) (ki 2)), po 51 (lf 1 50), po 52 (.sh .shl (tm 51) (.const (.int .u64 8))), po 53 (.arI .add (tm 48) (tm 52)), pm 54 0, po 55 (.ixS 3 1 (tm 54) (ki 3)), po 56 (lf 1 55), po 57 (.arI .add (tm 53) (tm 56)), pm 2 57, po 3 (.mov (ki 4))]
def c152_1 : PCode := (.keep [0, 27] [] [] (.cond (.tmp 27) (.seq (.regD p152_9 []) .ret) .skip))
def c152_3 : PCode := (.keep [0, 4, 5] [] [] (.cond (.tmp 5) (.seq (.reg p152_7) .ret) (.seq (.reg p152_8) c152_1)))
def p152_10 : LP := [po 2 (.mov (ki 0)), po 3 (.mov (ki 0))]
def c152_2 : PCode := (.seq (.reg p152_10) .ret)
def c152_b : PCode := (.seq (.reg p152_4) (.seq (.reg p152_5) (.seq (.block 0 (.seq (.reg p152_6) c152_3)) c152_2)))
def c152 : FCode := ⟨58, c152_b, [(.tmp 2), (.tmp 3)], some ([2, 3], [], []), false⟩
theorem c152_ok : compF Go.Proofs.Tryz.prog brs 152 = some (eraseF c152) := by kernel_rfl
def p132_14 : LP := [po 2 (.box 3 (tm 0)), po 4 (.alloc [(3, (.int .i64 0))]), po 5 (.mov (ki 0))]
def p132_15 : LP := [po 13 (lt 3 2), po 14 (c1 21 13), pm 6 14]
def p132_16 : LP := [pm 15 6, po 16 (.cmpI .neq (tm 15) (ki 0))]
def p132_17 : LP := [po 17 (lt 3 2), pm 18 6, pS 3 4 17, pm 5 18]
def p132_18 : LP := [pm 19 1, po 20 (.len .false (tm 19)), po 21 (ck 20 0), pm 22 21, pf 23 22 (.mov (tm 1)), pf 24 22 (.call 59 [(tm 23), (.func 150)]), po 25 (.pick (tm 22) (.const (.bool .true)) (tm 24))]
def p132_19 : LP := [po 26 (lt 3 2), pS 3 4 26, po 5 (.mov (ki 1))]
def p132_20 : LP := [pm 27 1, po 28 (.len .false (tm 27)), po 29 (.cmpI .gtr (tm 28) (ki 32))]
def p132_21 : LP := [po 30 (lt 3 2), pS 3 4 30, po 5 (.mov (ki 2))]
def p132_22 : LP := [po 7 (.nilS 3 1)]
def p132_23 : LP := [pm 31 1, po 32 (.len .false (tm 31)), po 33 (.mov (ki 0))]
def p132_24 : LP := [po 34 (.cmpI .lss (tm 33) (tm 32))]
def p132_25 : LP := [po 35 (.ixS 3 1 (tm 31) (tm 33)), po 36 (lf 1 35), pm 9 36]
def p132_26 : LP := [pm 37 7, pm 38 9, po 39 (.mx [(tm 38), (ki 0)]), po 40 (.bsl 3 1 1 [(1, (.int .i64 0))] [(0, (1, (tm 39)))]), po 41 (.app 3 1 8 (tm 37) (tm 40)), pm 7 41]
def p132_27 : LP := [po 42 (.arI .add (tm 33) (ki 1)), pm 33 42]
def c132_8 : PCode := (.keep [2, 4, 7, 31, 32, 33] [(24, .id 24), (40, .id 40), (64, .id 64)] [] (.seq (.block 1 (.seq (.reg p132_25) (.reg p132_26))) (.reg p132_27)))
def c132_9 : PCode := (.keep [2, 4, 7, 31, 32, 33, 34] [(24, .id 24), (40, .id 40), (64, .id 64)] [] (.seq (.cond (.tmp 34) .skip (.keep [2, 4, 7] [(24, .id 24), (40, .id 40), (64, .id 64)] [] (.exit 0))) c132_8))
def c132_10 : PCode := (.keep [2, 4, 7, 31, 32, 33] [(24, .id 24), (40, .id 40), (64, .id 64)] [] (.seq (.reg p132_24) c132_9))
def p132_28 : LP := [po 10 (.mov (ki 0))]
def p132_29 : LP := [pm 43 10, pm 44 7, po 45 (.len .false (tm 44)), po 46 (.cmpI .lss (tm 43) (tm 45))]
def p132_30 : LP := [pm 49 7, pm 50 10, po 51 (.ixS 3 1 (tm 49) (tm 50)), po 52 (lf 1 51), po 53 (.cmpI .neq (tm 52) (ki 38)), pm 54 53, pg 55 54 (.mov (tm 7)), pg 56 54 (.mov (tm 10)), pg 57 54 (.ixS 3 1 (tm 55) (tm 56)), pg 58 54 (lf 1 57), pg 59 54 (.cmpI .neq (tm 58) (ki 48)), po 60 (.pick (tm 54) (tm 59) (.const (.bool .false)))]
def p132_31 : LP := [pm 61 7, pm 62 10, po 63 (.ixS 3 1 (tm 61) (tm 62)), po 64 (lf 1 63), po 65 (.callr 151 [(tm 2), (tm 64)])]
def c132_4 : PCode := (.keep [2, 4, 7, 10] [(24, .id 24), (40, .id 40), (64, .id 64)] [] .skip)
def p132_32 : LP := [pm 67 7, pm 68 10, po 69 (.arI .add (tm 68) (ki 1)), po 70 (.slS 3 1 (tm 67) (.some (tm 69)) .none), po 71 (c1 152 70), pm 66 71, po 72 (.ext (tm 66) 0), po 73 (.ext (tm 66) 1), pm 11 72, pm 12 73]
def p132_33 : LP := [pm 74 12, po 75 (ck 74 0)]
def p132_34 : LP := [pm 76 7, pm 77 10, po 78 (.ixS 3 1 (tm 76) (tm 77)), po 79 (lf 1 78), po 80 (ck 79 38)]
def p132_35 : LP := [pm 81 11, po 82 (fd 1 2), pS 1 82 81]
def p132_36 : LP := [pm 83 11, po 84 (fd 2 2), pS 1 84 83]
def p132_37 : LP := [pm 85 10, pm 86 12, po 87 (.arI .add (tm 85) (tm 86)), pm 10 87]
def c132_1 : PCode := (.keep [2, 4, 7, 10, 11, 12] [(24, .id 24), (40, .id 40), (64, .id 64)] [] (.seq (.seq (.reg p132_34) (.cond (.tmp 80) (.reg p132_35) (.reg p132_36))) (.reg p132_37)))
def c132_3 : PCode := (.keep [2, 4, 7, 10] [(24, .id 24), (40, .id 40), (64, .id 64)] [] (.seq (.reg p132_32) (.seq (.seq (.reg p132_33) (.cond (.tmp 75) (.keep [2, 4] [(24, .id 24), (40, .id 40)] [] (.exit 2)) .skip)) c132_1)))
def p132_38 : LP := [pm 47 10, po 48 (.arI .add (tm 47) (ki 1)), pm 10 48]
def c132_2 : PCode := (.reg p132_38)
def c132_5 : PCode := (.keep [2, 4, 7, 10] [(24, .id 24), (40, .id 40), (64, .id 64)] [] (.seq (.block 3 (.seq (.seq (.reg p132_30) (.cond (.tmp 60) (.seq (.reg p132_31) (.exit 3)) c132_4)) c132_3)) c132_2))
def c132_6 : PCode := (.keep [2, 4, 7, 10] [(24, .id 24), (40, .id 40), (64, .id 64)] [] (.seq (.seq (.reg p132_29) (.cond (.tmp 46) .skip (.keep [2, 4] [(24, .id 24), (40, .id 40)] [] (.exit 2)))) c132_5))
def p132_39 : LP := [po 88 (lt 3 2), pS 3 4 88, po 5 (.mov (ki 0))]
def c132_7 : PCode := (.keep [2, 4, 7] [(24, .id 24), (40, .id 40), (64, .id 64)] [] (.seq (.seq (.reg p132_28) (.block 2 (.loop c132_6))) (.seq (.reg p132_39) .ret)))
def c132_11 : PCode := (.keep [1, 2, 4] [(24, .id 24), (40, .id 40)] [] (.seq (.reg p132_22) (.seq (.seq (.reg p132_23) (.block 0 (.loop c132_10))) c132_7)))
def c132_12 : PCode := (.keep [1, 2, 4] [(24, .id 24), (40, .id 40)] [] (.seq (.seq (.reg p132_20) (.cond (.tmp 29) (.seq (.reg p132_21) .ret) .skip)) c132_11))
def c132_13 : PCode := (.keep [1, 2, 4] [(24, .id 24), (40, .id 40)] [] (.seq (.seq (.reg p132_18) (.cond (.tmp 25) (.seq (.reg p132_19) .ret) .skip)) c132_12))
def c132_b : PCode := (.seq (.reg p132_14) (.seq (.seq (.reg p132_15) (.seq (.reg p132_16) (.cond (.tmp 16) (.seq (.reg p132_17) .ret) .skip))) c132_13))
def c132 : FCode := ⟨89, c132_b, [(.cell 4 .true 3), (.tmp 5)], some ([4, 5], [(40, .id 40)], []), false⟩
theorem c132_ok : compF Go.Proofs.Tryz.prog brs 132 = some (eraseF c132) := by kernel_rfl
def p102_2 : LP := [po 5 (.box 6 (tm 1))]
def p102_3 : LP := [po 13 (fd 1 5), po 14 (lf 1 13)]
def p102_4 : LP := [po 16 (ck 14 103), pm 15 16]
def p102_5 : LP := [pm 17 3]
def p102_6 : LP := [po 19 (ck 17 0), pm 18 19]
def p102_7 : LP := [pm 21 0, pm 22 0, po 23 (.nilC (tm 22)), po 24 (fd 0 23), po 25 (fd 12 24), po 26 (lt 4 25), pm 27 0, po 28 (.nilC (tm 27)), po 29 (fd 0 28), po 30 (fd 4 29), po 31 (lf 1 30), po 32 (.call 92 [(tm 26), (tm 31), (.const (.bool .false))]), pm 20 32, po 33 (.ext (tm 20) 0), po 34 (.ext (tm 20) 1), po 35 (.nilC (tm 21)), po 36 (fd 0 35), po 37 (fd 12 36), pS 4 37 33]
def p102_8 : LP := [po 39 (ck 17 3), pm 38 39]
def p102_9 : LP := [pm 40 0, po 41 (.build [(4, (.int .u64 0))] []), po 42 (.nilC (tm 40)), po 43 (fd 0 42), po 44 (fd 12 43), pS 4 44 41]
def p102_10 : LP := [po 46 (ck 14 104), pm 45 46]
def p102_11 : LP := [po 47 (ck 14 108), pm 45 47]
def p102_12 : LP := [po 48 (fd 4 5), po 49 (lf 1 48), po 50 (.len .false (tm 49)), po 51 (.mov (ki 0))]
def p102_13 : LP := [po 52 (.cmpI .lss (tm 51) (tm 50))]
def p102_14 : LP := [po 53 (.ixS 3 1 (tm 49) (tm 51)), po 54 (lf 1 53), pm 9 54]
def p102_15 : LP := [pm 55 9]
def p102_16 : LP := [po 57 (ck 55 4), pm 56 57]
def p102_17 : LP := [pm 58 0, po 59 (fd 1 5), po 60 (lf 1 59), po 61 (ck 60 104), po 62 (.callr 95 [(tm 58), (ki 1), (tm 61)])]
def p102_18 : LP := [po 64 (ck 55 20), pm 63 64]
def p102_19 : LP := [pm 65 0, po 66 (fd 1 5), po 67 (lf 1 66), po 68 (ck 67 104), po 69 (.callr 95 [(tm 65), (ki 128), (tm 68)])]
def p102_20 : LP := [po 70 (.arI .add (tm 51) (ki 1)), pm 51 70]
def c102_21 : PCode := (.seq (.block 3 (.seq (.reg p102_14) (.seq (.reg p102_15) (.block 4 (.seq (.reg p102_16) (.cond (.tmp 56) (.reg p102_17) (.seq (.reg p102_18) (.cond (.tmp 63) (.reg p102_19) .skip)))))))) (.reg p102_20))
def p102_22 : LP := [po 72 (ck 14 109), pm 71 72]
def p102_23 : LP := [pm 74 0, po 75 (.nilC (tm 74)), po 76 (fd 0 75), po 77 (fd 8 76), po 78 (lt 3 77), po 79 (fd 4 5), po 80 (lf 1 79), po 81 (.call 132 [(tm 78), (tm 80)]), pm 73 81, po 82 (.ext (tm 73) 0), po 83 (.ext (tm 73) 1), po 10 (.alloc [(3, (.int .i64 0))]), pS 3 10 82, pm 11 83]
def p102_24 : LP := [pm 84 11, po 85 (ck 84 0)]
def p102_25 : LP := [pm 86 0, po 87 (lt 3 10), po 88 (.nilC (tm 86)), po 89 (fd 0 88), po 90 (fd 8 89), pS 3 90 87]
def p102_26 : LP := [po 92 (ck 14 114), pm 91 92]
def p102_27 : LP := [po 93 (fd 4 5), po 94 (lf 1 93), po 95 (.call 99 [(tm 94), (ki 1), (ki 0)]), pm 12 95]
def p102_28 : LP := [pm 96 12, po 97 (ck 96 0), pm 98 97, pf 99 98 (.mov (tm 12)), pf 100 98 (.mov (tm 0)), pf 101 98 (.nilC (tm 100)), pf 102 98 (fd 0 101), pf 103 98 (fd 0 102), pf 104 98 (fd 1 103), pf 105 98 (lf 1 104), pf 106 98 (.cmpI .gtr (tm 99) (tm 105)), po 107 (.pick (tm 98) (.const (.bool .true)) (tm 106))]
def p102_29 : LP := [pm 108 0, po 109 (.nilC (tm 108)), po 110 (fd 0 109), po 111 (fd 0 110), po 112 (fd 1 111), po 113 (lf 1 112), pm 12 113]
def p102_30 : LP := [pm 114 2, pm 115 12, po 116 (.cmpI .lss (tm 114) (tm 115))]
def p102_31 : LP := [pm 117 0, pm 118 0, pm 119 2, po 120 (.arI .sub (tm 119) (ki 1)), pm 121 12, po 122 (.nilC (tm 117)), po 123 (fd 0 122), po 124 (fd 6 123), pS 1 124 120, po 125 (.nilC (tm 118)), po 126 (fd 0 125), po 127 (fd 7 126), pS 1 127 121]
def p102_32 : LP := [pm 128 0, po 129 (.callr 128 [(tm 128), (ki 0), (ki 0)])]
def p102_33 : LP := [po 131 (ck 14 110), pm 130 131]
def p102_34 : LP := [pm 132 0, pm 133 3, po 134 (.callr 133 [(tm 132), (tm 133)])]
def p102_35 : LP := [po 136 (ck 14 99), pm 135 136]
def p102_36 : LP := [pm 137 3, po 138 (ck 137 0)]
def p102_37 : LP := [pm 139 0, po 140 (.nilC (tm 139)), po 141 (fd 33 140), po 142 (lf 1 141), po 143 (.strO .add (tm 142) (.const (.string ⟨#[27, 91, 63, 54, 50, 99]⟩))), po 144 (.nilC (tm 139)), po 145 (fd 33 144), pS 1 145 143]
def c102_38 : PCode := (.cond (.tmp 91) (.seq (.reg p102_27) (.seq (.seq (.reg p102_28) (.cond (.tmp 107) (.reg p102_29) .skip)) (.seq (.reg p102_30) (.cond (.tmp 116) (.seq (.reg p102_31) (.reg p102_32)) .skip)))) (.seq (.reg p102_33) (.cond (.tmp 130) (.reg p102_34) (.seq (.reg p102_35) (.cond (.tmp 135) (.seq (.reg p102_36) (.cond (.tmp 138) (.reg p102_37) .skip)) .skip)))))
def c102_1 : PCode := (.keep [0, 2, 3, 5, 14, 45, 1000001, 1000002, 1000003] [(0, .id 0), (1, .id 1), (2, .id 2), (3, .id 3), (48, .id 48)] [] (.cond (.tmp 45) (.seq (.reg p102_12) (.block 2 (.loop (.seq (.reg p102_13) (.seq (.cond (.tmp 52) .skip (.exit 2)) c102_21))))) (.seq (.reg p102_22) (.cond (.tmp 71) (.seq (.regD p102_23 [(4, 11), (6, 11), (7, 11)]) (.seq (.reg p102_24) (.cond (.tmp 85) (.reg p102_25) .skip))) (.seq (.reg p102_26) c102_38)))))
def c102_39 : PCode := (.cond (.tmp 15) (.seq (.reg p102_5) (.block 1 (.seq (.reg p102_6) (.cond (.tmp 18) (.regD p102_7 []) (.seq (.reg p102_8) (.cond (.tmp 38) (.reg p102_9) .skip)))))) (.seq (.seq (.reg p102_10) (.cond (.tmp 45) .skip (.reg p102_11))) c102_1))
def c102_b : PCode := (.seq (.reg p102_2) (.seq (.reg p102_3) (.block 0 (.seq (.reg p102_4) c102_39))))
def c102 : FCode := ⟨146, c102_b, [], some ([1000001, 1000002, 1000003], [(0, .id 0), (1, .id 1), (2, .id 2), (3, .id 3)], []), false⟩
theorem c102_ok : compF Go.Proofs.Tryz.prog brs 102 = some (eraseF c102) := by kernel_rfl
def p66_1 : LP := [po 3 (.box 6 (tm 1))]
def p66_2 : LP := [po 8 (fd 4 3), po 9 (lf 1 8), po 10 (.call 98 [(tm 9), (ki 0)]), po 11 (fd 4 3), po 12 (lf 1 11), po 13 (.call 99 [(tm 12), (ki 0), (ki 0)]), pm 4 10, pm 5 13]
def p66_3 : LP := [po 15 (fd 2 3), po 16 (lf 1 15), po 17 (ck 16 0), pm 14 17]
def p66_4 : LP := [pm 18 0, po 19 (lt 6 3), pm 20 4, po 21 (.callr 100 [(tm 18), (tm 19), (tm 20)]), po 22 (.un .not (tm 21)), pm 23 22, pg 24 23 (.mov (tm 0)), pg 25 23 (fd 1 3), pg 26 23 (lf 1 25), pg 27 23 (.mov (tm 4)), pg 28 23 (.mov (tm 5)), pg 29 23 (.callr 101 [(tm 24), (tm 26), (tm 27), (tm 28)]), pg 30 23 (.un .not (tm 29)), po 31 (.pick (tm 23) (tm 30) (.const (.bool .false)))]
def p66_5 : LP := [pm 32 0, po 33 (lt 6 3), pm 34 4, pm 35 5, po 36 (.callr 102 [(tm 32), (tm 33), (tm 34), (tm 35)])]
def p66_6 : LP := [po 38 (fd 2 3), po 39 (lf 1 38), po 40 (ck 39 62), pm 41 40, pg 42 41 (fd 1 3), pg 43 41 (lf 1 42), pg 44 41 (ck 43 99), po 45 (.pick (tm 41) (tm 44) (.const (.bool .false))), pm 46 45, pg 47 46 (.mov (tm 5)), pg 48 46 (ck 47 0), po 49 (.pick (tm 46) (tm 48) (.const (.bool .false))), pm 37 49]
def p66_7 : LP := [pm 50 0, po 51 (.nilC (tm 50)), po 52 (fd 33 51), po 53 (lf 1 52), po 54 (.strO .add (tm 53) (.const (.string ⟨#[27, 91, 62, 49, 59, 49, 48, 59, 48, 99]⟩))), po 55 (.nilC (tm 50)), po 56 (fd 33 55), pS 1 56 54]
def p66_8 : LP := [po 58 (fd 2 3), po 59 (lf 1 58), po 60 (ck 59 63), pm 61 60, pg 62 61 (fd 1 3), pg 63 61 (lf 1 62), pg 64 61 (ck 63 104), pg 65 61 (.mov (tm 64)), pf 66 65 (fd 1 3), pf 67 65 (lf 1 66), pf 68 65 (ck 67 108), pg 69 61 (.pick (tm 65) (.const (.bool .true)) (tm 68)), po 70 (.pick (tm 61) (tm 69) (.const (.bool .false))), pm 57 70]
def p66_9 : LP := [po 71 (fd 4 3), po 72 (lf 1 71), po 73 (.len .false (tm 72)), po 74 (.mov (ki 0))]
def p66_10 : LP := [po 75 (.cmpI .lss (tm 74) (tm 73))]
def p66_11 : LP := [po 76 (.ixS 3 1 (tm 72) (tm 74)), po 77 (lf 1 76), pm 7 77]
def p66_12 : LP := [pm 78 0, pm 79 7, po 80 (fd 1 3), po 81 (lf 1 80), po 82 (ck 81 104), po 83 (.callr 103 [(tm 78), (tm 79), (tm 82)])]
def p66_13 : LP := [po 84 (.arI .add (tm 74) (ki 1)), pm 74 84]
def c66_14 : PCode := (.seq (.reg p66_8) (.cond (.tmp 57) (.seq (.reg p66_9) (.block 1 (.loop (.seq (.reg p66_10) (.seq (.cond (.tmp 75) .skip (.exit 1)) (.seq (.block 2 (.seq (.reg p66_11) (.reg p66_12))) (.reg p66_13))))))) .skip))
def c66_15 : PCode := (.seq (.reg p66_1) (.seq (.regD p66_2 [(2, 4)]) (.block 0 (.seq (.reg p66_3) (.cond (.tmp 14) (.seq (.reg p66_4) (.cond (.tmp 31) (.reg p66_5) .skip)) (.seq (.reg p66_6) (.cond (.tmp 37) (.reg p66_7) c66_14)))))))
def c66_b : PCode := c66_15
def c66 : FCode := ⟨85, c66_b, [], some ([1000001, 1000002, 1000003], [(0, .id 0), (1, .id 1), (2, .id 2), (3, .id 3)], []), false⟩
theorem c66_ok : compF Go.Proofs.Tryz.prog brs 66 = some (eraseF c66) := by kernel_rfl
def p35_2 : LP := [po 3 (.box 6 (tm 1))]
def p35_3 : LP := [po 5 (fd 0 3), po 6 (lf 1 5), po 7 (ck 6 1), pm 4 7]
def p35_4 : LP := [pm 8 0, po 9 (fd 1 3), po 10 (lf 1 9), po 11 (.callr 61 [(tm 8), (tm 10)])]
def p35_5 : LP := [po 13 (fd 0 3), po 14 (lf 1 13), po 15 (ck 14 2), pm 12 15]
def p35_6 : LP := [pm 16 0, po 17 (fd 1 3), po 18 (lf 1 17), po 19 (.callr 62 [(tm 16), (tm 18)])]
def p35_7 : LP := [po 21 (fd 0 3), po 22 (lf 1 21), po 23 (ck 22 3), pm 24 23, pg 25 24 (fd 3 3), pg 26 24 (lf 1 25), pg 27 24 (.strO .eql (tm 26) (.const (.string ⟨#[]⟩))), po 28 (.pick (tm 24) (tm 27) (.const (.bool .false))), pm 20 28]
def p35_8 : LP := [pm 29 0, po 30 (fd 1 3), po 31 (lf 1 30), po 32 (.callr 63 [(tm 29), (tm 31)])]
def p35_9 : LP := [po 34 (fd 0 3), po 35 (lf 1 34), po 36 (ck 35 3), pm 33 36]
def p35_10 : LP := [pm 37 0, po 38 (fd 3 3), po 39 (lf 1 38), po 40 (fd 1 3), po 41 (lf 1 40), po 42 (.callr 64 [(tm 37), (tm 39), (tm 41)])]
def p35_11 : LP := [po 44 (fd 0 3), po 45 (lf 1 44), po 46 (ck 45 5), pm 43 46]
def p35_12 : LP := [po 47 (fd 5 3), po 48 (lf 1 47), po 49 (.call 65 [(tm 48), (.const (.string ⟨#[48, 59]⟩))]), pm 50 49, pf 51 50 (fd 5 3), pf 52 50 (lf 1 51), pf 53 50 (.call 65 [(tm 52), (.const (.string ⟨#[50, 59]⟩))]), po 54 (.pick (tm 50) (.const (.bool .true)) (tm 53))]
def p35_13 : LP := [pm 55 0, po 56 (fd 5 3), po 57 (lf 1 56), po 58 (.slStr (tm 57) (.some (ki 2)) .none), po 59 (.nilC (tm 55)), po 60 (fd 0 59), po 61 (fd 31 60), pS 1 61 58]
def p35_14 : LP := [po 63 (fd 0 3), po 64 (lf 1 63), po 65 (ck 64 4), pm 66 65, pg 67 66 (fd 3 3), pg 68 66 (lf 1 67), pg 69 66 (.strO .eql (tm 68) (.const (.string ⟨#[]⟩))), po 70 (.pick (tm 66) (tm 69) (.const (.bool .false))), pm 62 70]
def p35_15 : LP := [pm 71 0, po 72 (lt 6 3), po 73 (.callr 66 [(tm 71), (tm 72)])]
def c35_1 : PCode := (.keep [0, 3, 1000001, 1000002, 1000003] [(0, .id 0), (1, .id 1), (2, .id 2), (3, .id 3), (32, .id 32)] [] (.seq (.reg p35_9) (.cond (.tmp 33) (.reg p35_10) (.seq (.reg p35_11) (.cond (.tmp 43) (.seq (.reg p35_12) (.cond (.tmp 54) (.reg p35_13) .skip)) (.seq (.reg p35_14) (.cond (.tmp 62) (.reg p35_15) .skip)))))))
def c35_b : PCode := (.seq (.reg p35_2) (.block 0 (.seq (.reg p35_3) (.cond (.tmp 4) (.reg p35_4) (.seq (.reg p35_5) (.cond (.tmp 12) (.reg p35_6) (.seq (.reg p35_7) (.cond (.tmp 20) (.reg p35_8) c35_1))))))))
def c35 : FCode := ⟨74, c35_b, [], some ([1000001, 1000002, 1000003], [(0, .id 0), (1, .id 1), (2, .id 2), (3, .id 3)], []), false⟩
theorem c35_ok : compF Go.Proofs.Tryz.prog brs 35 = some (eraseF c35) := by kernel_rfl
def p17_7 : LP := [po 2 (.box 33 (tm 0)), po 4 (.alloc [(2, (.int .i64 0)), (1, (.slice .none 0 0)), (2, (.int .i64 0)), (1, (.bool .false)), (6, (.int .i64 0)), (4, (.int .u64 0)), (8, (.int .i64 0)), (1, (.bool .false)), (5, (.int .i64 0)), (1, (.slice .none 0 0)), (1, (.string ⟨#[]⟩)), (1, (.slice .none 0 0))]), po 5 (.mov (.const (.string ⟨#[]⟩))), po 6 (.mov (ki 0))]
def p17_8 : LP := [po 12 (lt 33 2), po 13 (c1 9 12), pm 7 13]
def p17_9 : LP := [pm 14 7, po 15 (.cmpI .neq (tm 14) (ki 0))]
def p17_10 : LP := [po 16 (lt 33 2), po 17 (.callf 33 [(tm 16)]), pm 18 7, pS 33 4 17, po 5 (.mov (.const (.string ⟨#[]⟩))), pm 6 18]
def p17_11 : LP := [pm 19 1, po 20 (c1 34 19), pm 8 20]
def p17_12 : LP := [pm 21 8, po 22 (.cmpI .neq (tm 21) (ki 0))]
def p17_13 : LP := [po 23 (lt 33 2), po 24 (.callf 33 [(tm 23)]), pm 25 8, pS 33 4 24, po 5 (.mov (.const (.string ⟨#[]⟩))), pm 6 25]
def p17_14 : LP := [po 26 (lt 33 2), po 27 (.callf 33 [(tm 26)]), po 28 (.build [(2, (.int .i64 0)), (1, (.slice .none 0 0)), (2, (.int .i64 0)), (1, (.bool .false)), (6, (.int .i64 0)), (4, (.int .u64 0)), (8, (.int .i64 0)), (1, (.bool .false)), (5, (.int .i64 0)), (1, (.slice .none 0 0)), (1, (.string ⟨#[]⟩)), (1, (.slice .none 0 0)), (1, (.string ⟨#[]⟩))] [(0, (33, (tm 27)))]), po 29 (.box 34 (tm 28)), pm 9 29]
def p17_15 : LP := [pm 30 1, po 31 (.len .false (tm 30)), po 32 (.mov (ki 0))]
def p17_16 : LP := [po 33 (.cmpI .lss (tm 32) (tm 31))]
def p17_17 : LP := [po 34 (.ixS 74 6 (tm 30) (tm 32)), po 35 (lt 6 34), po 11 (.alloc [(3, (.int .i64 0)), (1, (.string ⟨#[]⟩)), (1, (.slice .none 0 0)), (1, (.string ⟨#[]⟩))]), pS 6 11 35]
def p17_18 : LP := [pm 36 9, po 37 (lt 6 11), po 38 (.callr 35 [(tm 36), (tm 37)])]
def p17_19 : LP := [po 39 (.arI .add (tm 32) (ki 1)), pm 32 39]
def c17_2 : PCode := (.keep [4, 9, 30, 31, 32] [(40, .id 40), (240, .id 240), (224, .id 224), (225, .id 225), (226, .id 226)] [] (.seq (.block 1 (.seq (.reg p17_17) (.reg p17_18))) (.reg p17_19)))
def c17_3 : PCode := (.keep [4, 9, 30, 31, 32, 33] [(40, .id 40), (240, .id 240), (224, .id 224), (225, .id 225), (226, .id 226)] [] (.seq (.cond (.tmp 33) .skip (.keep [4, 9] [(40, .id 40), (240, .id 240), (224, .id 224), (225, .id 225), (226, .id 226)] [] (.exit 0))) c17_2))
def c17_4 : PCode := (.keep [4, 9, 30, 31, 32] [(40, .id 40), (240, .id 240), (224, .id 224), (225, .id 225), (226, .id 226)] [] (.seq (.reg p17_16) c17_3))
def p17_20 : LP := [pm 40 9, po 41 (.nilC (tm 40)), po 42 (fd 0 41), po 43 (lt 33 42), pm 44 9, po 45 (.nilC (tm 44)), po 46 (fd 33 45), po 47 (lf 1 46), pS 33 4 43, pm 5 47, po 6 (.mov (ki 0))]
def c17_1 : PCode := (.keep [4, 9] [(40, .id 40), (240, .id 240), (224, .id 224), (225, .id 225), (226, .id 226)] [] (.seq (.regD p17_20 [(7, 8)]) .ret))
def c17_5 : PCode := (.keep [1, 2, 4] [(24, .id 24), (40, .id 40)] [] (.seq (.reg p17_14) (.seq (.seq (.reg p17_15) (.block 0 (.loop c17_4))) c17_1)))
def c17_6 : PCode := (.keep [1, 2, 4] [(24, .id 24), (40, .id 40)] [.cell 40 2 0 0 1, .cell 40 30 0 0 1, .cell 40 32 0 0 1] (.seq (.seq (.reg p17_11) (.seq (.reg p17_12) (.cond (.tmp 22) (.seq (.reg p17_13) .ret) .skip))) c17_5))
def c17_b : PCode := (.seq (.reg p17_7) (.seq (.seq (.reg p17_8) (.seq (.reg p17_9) (.cond (.tmp 15) (.seq (.reg p17_10) .ret) .skip))) c17_6))
def c17 : FCode := ⟨48, c17_b, [(.cell 4 .true 33), (.tmp 5), (.tmp 6)], some ([4, 5, 6], [(40, .id 40), (420, (.cell 40 2)), (421, (.cell 40 30)), (422, (.cell 40 32))], []), false⟩
theorem c17_ok : compF Go.Proofs.Tryz.prog brs 17 = some (eraseF c17) := by kernel_rfl
def p7_2 : LP := [po 2 (.box 33 (tm 0)), po 4 (.alloc [(2, (.int .i64 0)), (1, (.slice .none 0 0)), (2, (.int .i64 0)), (1, (.bool .false)), (6, (.int .i64 0)), (4, (.int .u64 0)), (8, (.int .i64 0)), (1, (.bool .false)), (5, (.int .i64 0)), (1, (.slice .none 0 0)), (1, (.string ⟨#[]⟩)), (1, (.slice .none 0 0))]), po 5 (.mov (.const (.string ⟨#[]⟩))), po 6 (.mov (ki 0))]
def p7_3 : LP := [po 11 (.build [(2, (.int .i64 0)), (3, (.string ⟨#[]⟩))] []), pm 12 1, po 13 (.callf 16 [(tm 11), (tm 12)]), pm 10 13, po 14 (.ext (tm 10) 0), po 15 (.ext (tm 10) 1), po 16 (.ext (tm 10) 2), po 7 (.alloc [(2, (.int .i64 0)), (3, (.string ⟨#[]⟩))]), pS 5 7 14, pm 8 15, pm 9 16]
def p7_4 : LP := [po 17 (lt 33 2), pm 18 8, po 19 (.callf 17 [(tm 17), (tm 18)]), po 20 (.ext (tm 19) 0), po 21 (.ext (tm 19) 1), po 22 (.ext (tm 19) 2), pS 33 4 20, pm 5 21, pm 6 22]
def c7_1 : PCode := (.keep [2, 4, 8] [(24, .id 24), (40, .id 40)] [.cell 40 2 0 0 1, .cell 40 30 0 0 1, .cell 40 32 0 0 1] (.seq (.reg p7_4) .ret))
def c7_b : PCode := (.seq (.reg p7_2) (.seq (.reg p7_3) c7_1))
def c7 : FCode := ⟨23, c7_b, [(.cell 4 .true 33), (.tmp 5), (.tmp 6)], some ([4, 5, 6], [(40, .id 40), (160, .id 160), (161, .id 161), (162, .id 162)], []), false⟩
theorem c7_ok : compF Go.Proofs.Tryz.prog brs 7 = some (eraseF c7) := by kernel_rfl
def p18_1 : LP := [po 2 (.box 3 (tm 0)), po 3 (.box 3 (tm 1)), po 4 (.mov (.const (.bool .false)))]
def p18_2 : LP := [po 5 (fd 0 2), po 6 (lf 1 5), po 7 (fd 0 3), po 8 (lf 1 7), po 9 (.cmpI .eql (tm 6) (tm 8)), pm 10 9, pg 11 10 (fd 1 2), pg 12 10 (lf 1 11), pg 13 10 (fd 1 3), pg 14 10 (lf 1 13), pg 15 10 (.cmpI .eql (tm 12) (tm 14)), po 16 (.pick (tm 10) (tm 15) (.const (.bool .false))), pm 17 16, pg 18 17 (fd 2 2), pg 19 17 (lf 1 18), pg 20 17 (fd 2 3), pg 21 17 (lf 1 20), pg 22 17 (.call 10 [(tm 19), (tm 21)]), po 23 (.pick (tm 17) (tm 22) (.const (.bool .false))), pm 4 23]
def c18_b : PCode := (.seq (.reg p18_1) (.seq (.reg p18_2) .ret))
def c18 : FCode := ⟨24, c18_b, [(.tmp 4)], some ([4], [], []), false⟩
theorem c18_ok : compF Go.Proofs.Tryz.prog brs 18 = some (eraseF c18) := by kernel_rfl
def p8_1 : LP := [po 2 (.box 33 (tm 0)), po 3 (.box 33 (tm 1)), po 4 (.mov (.const (.bool .false)))]
def p8_2 : LP := [po 5 (fd 0 2), po 6 (lt 3 5), po 7 (fd 0 3), po 8 (lt 3 7), po 9 (.call 18 [(tm 6), (tm 8)]), pm 10 9, pg 11 10 (fd 3 2), pg 12 10 (lf 1 11), pg 13 10 (fd 3 3), pg 14 10 (lf 1 13), pg 15 10 (.cmpI .eql (tm 12) (tm 14)), po 16 (.pick (tm 10) (tm 15) (.const (.bool .false))), pm 17 16, pg 18 17 (fd 4 2), pg 19 17 (lf 1 18), pg 20 17 (fd 4 3), pg 21 17 (lf 1 20), pg 22 17 (.cmpI .eql (tm 19) (tm 21)), po 23 (.pick (tm 17) (tm 22) (.const (.bool .false))), pm 24 23, pg 25 24 (fd 8 2), pg 26 24 (lt 3 25), pg 27 24 (fd 8 3), pg 28 24 (lt 3 27), pg 29 24 (.eqA .false [(3, .int)] (tm 26) (tm 28)), po 30 (.pick (tm 24) (tm 29) (.const (.bool .false))), pm 4 30]
def c8_b : PCode := (.seq (.reg p8_1) (.seq (.reg p8_2) .ret))
def c8 : FCode := ⟨31, c8_b, [(.tmp 4)], some ([4], [], []), false⟩
theorem c8_ok : compF Go.Proofs.Tryz.prog brs 8 = some (eraseF c8) := by kernel_rfl
def p4_4 : LP := [po 3 (.box 33 (tm 0)), po 4 (.box 33 (tm 1)), po 5 (.box 33 (tm 2)), po 6 (.mov (.const (.bool .false)))]
def p4_5 : LP := [po 23 (lt 33 3), po 24 (lt 33 4), po 25 (.call 5 [(tm 23), (tm 24)]), pm 22 25, po 26 (.ext (tm 22) 0), po 27 (.ext (tm 22) 1), pm 7 26, pm 8 27]
def p4_6 : LP := [po 28 (.call 6 []), po 29 (.un .not (tm 28)), pm 30 29, pf 31 30 (.mov (tm 8)), pf 32 30 (.cmpI .neq (tm 31) (ki 0)), po 33 (.pick (tm 30) (.const (.bool .true)) (tm 32))]
def p4_7 : LP := [po 34 (.call 6 []), pm 6 34]
def p4_8 : LP := [po 36 (lt 33 3), pm 37 7, po 38 (.callf 7 [(tm 36), (tm 37)]), pm 35 38, po 39 (.ext (tm 35) 0), po 40 (.ext (tm 35) 1), po 41 (.ext (tm 35) 2), po 9 (.alloc [(2, (.int .i64 0)), (1, (.slice .none 0 0)), (2, (.int .i64 0)), (1, (.bool .false)), (6, (.int .i64 0)), (4, (.int .u64 0)), (8, (.int .i64 0)), (1, (.bool .false)), (5, (.int .i64 0)), (1, (.slice .none 0 0)), (1, (.string ⟨#[]⟩)), (1, (.slice .none 0 0))]), pS 33 9 39, pm 10 40, pm 11 41]
def p4_9 : LP := [po 43 (lt 33 9), po 44 (lt 33 5), po 45 (.call 5 [(tm 43), (tm 44)]), pm 42 45, po 46 (.ext (tm 42) 0), po 47 (.ext (tm 42) 1), pm 12 46, pm 13 47]
def p4_10 : LP := [po 49 (lt 33 3), po 50 (lt 33 5), po 51 (.call 5 [(tm 49), (tm 50)]), pm 48 51, po 52 (.ext (tm 48) 0), po 53 (.ext (tm 48) 1), pm 14 52, pm 15 53]
def p4_11 : LP := [po 55 (lt 33 9), pm 56 12, po 57 (.callf 7 [(tm 55), (tm 56)]), pm 54 57, po 58 (.ext (tm 54) 0), po 59 (.ext (tm 54) 1), po 60 (.ext (tm 54) 2), po 16 (.alloc [(2, (.int .i64 0)), (1, (.slice .none 0 0)), (2, (.int .i64 0)), (1, (.bool .false)), (6, (.int .i64 0)), (4, (.int .u64 0)), (8, (.int .i64 0)), (1, (.bool .false)), (5, (.int .i64 0)), (1, (.slice .none 0 0)), (1, (.string ⟨#[]⟩)), (1, (.slice .none 0 0))]), pS 33 16 58, pm 17 59, pm 18 60]
def p4_12 : LP := [po 62 (lt 33 3), pm 63 14, po 64 (.callf 7 [(tm 62), (tm 63)]), pm 61 64, po 65 (.ext (tm 61) 0), po 66 (.ext (tm 61) 1), po 67 (.ext (tm 61) 2), po 19 (.alloc [(2, (.int .i64 0)), (1, (.slice .none 0 0)), (2, (.int .i64 0)), (1, (.bool .false)), (6, (.int .i64 0)), (4, (.int .u64 0)), (8, (.int .i64 0)), (1, (.bool .false)), (5, (.int .i64 0)), (1, (.slice .none 0 0)), (1, (.string ⟨#[]⟩)), (1, (.slice .none 0 0))]), pS 33 19 65, pm 20 66, pm 21 67]
def p4_13 : LP := [pm 68 13, pm 69 15, po 70 (.cmpI .eql (tm 68) (tm 69)), pm 71 70, pg 72 71 (.mov (tm 13)), pg 73 71 (.cmpI .neq (tm 72) (ki 0)), pg 74 71 (.mov (tm 73)), pf 75 74 (lt 33 16), pf 76 74 (lt 33 19), pf 77 74 (.call 8 [(tm 75), (tm 76)]), pf 78 74 (.mov (tm 77)), pg 79 78 (lt 33 19), pg 80 78 (lt 33 5), pg 81 78 (.call 8 [(tm 79), (tm 80)]), pf 82 74 (.pick (tm 78) (tm 81) (.const (.bool .false))), pg 83 71 (.pick (tm 74) (.const (.bool .true)) (tm 82)), po 84 (.pick (tm 71) (tm 83) (.const (.bool .false))), pm 6 84]
def c4_1 : PCode := (.keep [3, 5, 13, 14, 15, 16] [(32, .id 32), (48, .id 48), (136, .id 136), (464, .id 464), (465, .id 465), (466, .id 466)] [] (.seq (.reg p4_12) (.seq (.reg p4_13) .ret)))
def c4_2 : PCode := (.keep [3, 5, 9, 12, 13, 14, 15] [(32, .id 32), (48, .id 48), (80, .id 80), (312, .id 312), (313, .id 313), (314, .id 314), (416, .id 416)] [] (.seq (.reg p4_11) c4_1))
def c4_3 : PCode := (.keep [3, 5, 7] [(32, .id 32), (48, .id 48), (208, .id 208)] [] (.seq (.reg p4_8) (.seq (.reg p4_9) (.seq (.reg p4_10) c4_2))))
def c4_b : PCode := (.seq (.reg p4_4) (.seq (.reg p4_5) (.seq (.seq (.reg p4_6) (.cond (.tmp 33) (.seq (.reg p4_7) .ret) .skip)) c4_3)))
def c4 : FCode := ⟨85, c4_b, [(.tmp 6)], some ([6], [], []), false⟩
theorem c4_ok : compF Go.Proofs.Tryz.prog brs 4 = some (eraseF c4) := by kernel_rfl
def codes : Nat → Option FCode
 | 4 => some c4
 | 5 => some c5
 | 7 => some c7
 | 8 => some c8
 | 9 => some c9
 | 10 => some c10
 | 11 => some c11
 | 12 => some c12
 | 13 => some c13
 | 16 => some c16
 | 17 => some c17
 | 18 => some c18
 | 19 => some c19
 | 20 => some c20
 | 21 => some c21
 | 22 => some c22
 | 23 => some c23
 | 24 => some c24
 | 25 => some c25
 | 26 => some c26
 | 27 => some c27
 | 29 => some c29
 | 31 => some c31
 | 32 => some c32
 | 33 => some c33
 | 34 => some c34
 | 35 => some c35
 | 36 => some c36
 | 37 => some c37
 | 38 => some c38
 | 39 => some c39
 | 40 => some c40
 | 42 => some c42
 | 43 => some c43
 | 45 => some c45
 | 46 => some c46
 | 48 => some c48
 | 49 => some c49
 | 51 => some c51
 | 53 => some c53
 | 54 => some c54
 | 56 => some c56
 | 57 => some c57
 | 58 => some c58
 | 59 => some c59
 | 60 => some c60
 | 61 => some c61
 | 66 => some c66
 | 67 => some c67
 | 68 => some c68
 | 70 => some c70
 | 75 => some c75
 | 80 => some c80
 | 82 => some c82
 | 83 => some c83
 | 84 => some c84
 | 86 => some c86
 | 89 => some c89
 | 98 => some c98
 | 99 => some c99
 | 100 => some c100
 | 101 => some c101
 | 102 => some c102
 | 120 => some c120
 | 121 => some c121
 | 125 => some c125
 | 128 => some c128
 | 132 => some c132
 | 150 => some c150
 | 151 => some c151
 | 152 => some c152
 | 165 => some c165
 | _ => none
theorem codes_ok : ∀ f fc, codes f = some fc → OkF Go.Proofs.Tryz.prog brs f fc := by
 intro f fc h
 unfold codes at h
 split at h
 ·cases h; exact compF_ok c4_ok
 ·cases h; exact compF_ok c5_ok
 ·cases h; exact compF_ok c7_ok
 ·cases h; exact compF_ok c8_ok
 ·cases h; exact compF_ok c9_ok
 ·cases h; exact compF_ok c10_ok
 ·cases h; exact compF_ok c11_ok
 ·cases h; exact compF_ok c12_ok
 ·cases h; exact compF_ok c13_ok
 ·cases h; exact compF_ok c16_ok
 ·cases h; exact compF_ok c17_ok
 ·cases h; exact compF_ok c18_ok
 ·cases h; exact compF_ok c19_ok
 ·cases h; exact compF_ok c20_ok
 ·cases h; exact compF_ok c21_ok
 ·cases h; exact compF_ok c22_ok
 ·cases h; exact compF_ok c23_ok
 ·cases h; exact compF_ok c24_ok
 ·cases h; exact compF_ok c25_ok
 ·cases h; exact compF_ok c26_ok
 ·cases h; exact compF_ok c27_ok
 ·cases h; exact compF_ok c29_ok
 ·cases h; exact compF_ok c31_ok
 ·cases h; exact compF_ok c32_ok
 ·cases h; exact compF_ok c33_ok
 ·cases h; exact compF_ok c34_ok
 ·cases h; exact compF_ok c35_ok
 ·cases h; exact compF_ok c36_ok
 ·cases h; exact compF_ok c37_ok
 ·cases h; exact compF_ok c38_ok
 ·cases h; exact compF_ok c39_ok
 ·cases h; exact compF_ok c40_ok
 ·cases h; exact compF_ok c42_ok
 ·cases h; exact compF_ok c43_ok
 ·cases h; exact compF_ok c45_ok
 ·cases h; exact compF_ok c46_ok
 ·cases h; exact compF_ok c48_ok
 ·cases h; exact compF_ok c49_ok
 ·cases h; exact compF_ok c51_ok
 ·cases h; exact compF_ok c53_ok
 ·cases h; exact compF_ok c54_ok
 ·cases h; exact compF_ok c56_ok
 ·cases h; exact compF_ok c57_ok
 ·cases h; exact compF_ok c58_ok
 ·cases h; exact compF_ok c59_ok
 ·cases h; exact compF_ok c60_ok
 ·cases h; exact compF_ok c61_ok
 ·cases h; exact compF_ok c66_ok
 ·cases h; exact compF_ok c67_ok
 ·cases h; exact compF_ok c68_ok
 ·cases h; exact compF_ok c70_ok
 ·cases h; exact compF_ok c75_ok
 ·cases h; exact compF_ok c80_ok
 ·cases h; exact compF_ok c82_ok
 ·cases h; exact compF_ok c83_ok
 ·cases h; exact compF_ok c84_ok
 ·cases h; exact compF_ok c86_ok
 ·cases h; exact compF_ok c89_ok
 ·cases h; exact compF_ok c98_ok
 ·cases h; exact compF_ok c99_ok
 ·cases h; exact compF_ok c100_ok
 ·cases h; exact compF_ok c101_ok
 ·cases h; exact compF_ok c102_ok
 ·cases h; exact compF_ok c120_ok
 ·cases h; exact compF_ok c121_ok
 ·cases h; exact compF_ok c125_ok
 ·cases h; exact compF_ok c128_ok
 ·cases h; exact compF_ok c132_ok
 ·cases h; exact compF_ok c150_ok
 ·cases h; exact compF_ok c151_ok
 ·cases h; exact compF_ok c152_ok
 ·cases h; exact compF_ok c165_ok
 ·cases h
theorem codes4 : codes 4 = some c4 := rfl
theorem codes5 : codes 5 = some c5 := rfl
theorem codes7 : codes 7 = some c7 := rfl
theorem codes8 : codes 8 = some c8 := rfl
theorem codes9 : codes 9 = some c9 := rfl
theorem codes10 : codes 10 = some c10 := rfl
theorem codes11 : codes 11 = some c11 := rfl
theorem codes12 : codes 12 = some c12 := rfl
theorem codes13 : codes 13 = some c13 := rfl
theorem codes16 : codes 16 = some c16 := rfl
theorem codes17 : codes 17 = some c17 := rfl
theorem codes18 : codes 18 = some c18 := rfl
theorem codes19 : codes 19 = some c19 := rfl
theorem codes20 : codes 20 = some c20 := rfl
theorem codes21 : codes 21 = some c21 := rfl
theorem codes22 : codes 22 = some c22 := rfl
theorem codes23 : codes 23 = some c23 := rfl
theorem codes24 : codes 24 = some c24 := rfl
theorem codes25 : codes 25 = some c25 := rfl
theorem codes26 : codes 26 = some c26 := rfl
theorem codes27 : codes 27 = some c27 := rfl
theorem codes29 : codes 29 = some c29 := rfl
theorem codes31 : codes 31 = some c31 := rfl
theorem codes32 : codes 32 = some c32 := rfl
theorem codes33 : codes 33 = some c33 := rfl
theorem codes34 : codes 34 = some c34 := rfl
theorem codes35 : codes 35 = some c35 := rfl
theorem codes36 : codes 36 = some c36 := rfl
theorem codes37 : codes 37 = some c37 := rfl
theorem codes38 : codes 38 = some c38 := rfl
theorem codes39 : codes 39 = some c39 := rfl
theorem codes40 : codes 40 = some c40 := rfl
theorem codes42 : codes 42 = some c42 := rfl
theorem codes43 : codes 43 = some c43 := rfl
theorem codes45 : codes 45 = some c45 := rfl
theorem codes46 : codes 46 = some c46 := rfl
theorem codes48 : codes 48 = some c48 := rfl
theorem codes49 : codes 49 = some c49 := rfl
theorem codes51 : codes 51 = some c51 := rfl
theorem codes53 : codes 53 = some c53 := rfl
theorem codes54 : codes 54 = some c54 := rfl
theorem codes56 : codes 56 = some c56 := rfl
theorem codes57 : codes 57 = some c57 := rfl
theorem codes58 : codes 58 = some c58 := rfl
theorem codes59 : codes 59 = some c59 := rfl
theorem codes60 : codes 60 = some c60 := rfl
theorem codes61 : codes 61 = some c61 := rfl
theorem codes66 : codes 66 = some c66 := rfl
theorem codes67 : codes 67 = some c67 := rfl
theorem codes68 : codes 68 = some c68 := rfl
theorem codes70 : codes 70 = some c70 := rfl
theorem codes75 : codes 75 = some c75 := rfl
theorem codes80 : codes 80 = some c80 := rfl
theorem codes82 : codes 82 = some c82 := rfl
theorem codes83 : codes 83 = some c83 := rfl
theorem codes84 : codes 84 = some c84 := rfl
theorem codes86 : codes 86 = some c86 := rfl
theorem codes89 : codes 89 = some c89 := rfl
theorem codes98 : codes 98 = some c98 := rfl
theorem codes99 : codes 99 = some c99 := rfl
theorem codes100 : codes 100 = some c100 := rfl
theorem codes101 : codes 101 = some c101 := rfl
theorem codes102 : codes 102 = some c102 := rfl
theorem codes120 : codes 120 = some c120 := rfl
theorem codes121 : codes 121 = some c121 := rfl
theorem codes125 : codes 125 = some c125 := rfl
theorem codes128 : codes 128 = some c128 := rfl
theorem codes132 : codes 132 = some c132 := rfl
theorem codes150 : codes 150 = some c150 := rfl
theorem codes151 : codes 151 = some c151 := rfl
theorem codes152 : codes 152 = some c152 := rfl
theorem codes165 : codes 165 = some c165 := rfl
noncomputable def libs : List (Nat × (List PV → Option PV)) := [(71, oiS libItoaL), (72, oSsS libJoin), (6, livesO libLives), (76, ossS libTrim), (77, ossL libSplit)]
noncomputable abbrev baseL : Orc := libO libs
end Go.Proofs.YtbokpgemkkebnaaGreatDoor.Pm
