/- The small machine's codes of some functions. Printed by dec.py. -/
import Derived.Test.YtobkkblijfhpoaaGreatDoorMpC
import Derived.Test.YtobkkblijfhpoaaGreatDoorKrz
import Derived.Test.YtobkkblijfhpoaaGreatDoorLib1
import Derived.Test.YtobkkblijfhpoaaGreatDoorProg
namespace Go.Proofs.YtobkkblijfhpoaaGreatDoor.Pm
set_option maxRecDepth 1000000
set_option maxHeartbeats 20000000
set_option linter.unusedVariables false
abbrev tm (n : Nat) : Operand := .tmp n
abbrev ki (n : Int) : Operand := .const (.int .i64 n)
abbrev po (d : Nat) (o : POp) : PO := ⟨some d, o, none⟩
abbrev pm (d s : Nat) : PO := ⟨some d, .mov (.tmp s), none⟩
abbrev dI (x : Int) : PV := .d (.int .i64 x)
abbrev dB (b : Bool) : PV := .d (.bool b)
abbrev pt (n : Nat) : PV := .r (.ptr n 0 0)
abbrev u0 : Nat → PV := fun _ => .un
abbrev h0 : Nat → Cel := hB fun _ => 0
section
variable {γ : Orc} {Q : PX → St → Prop} {k : List It} {st : St} {p : List PO}
theorem zL {i : Nat} (n j : Nat) (h : ZL γ Q k (p.drop j) (stD (runD γ ((p.drop i).take n) st))) (hj : i + n = j := by rfl) (h1 : (runD γ ((p.drop i).take n) st).isSome = true := by kernel_rfl) : ZL γ Q k (p.drop i) st := zlRun hj h1 h
theorem zE {i : Nat} (h : ZK γ Q k .normal st) (h0 : p.drop i = [] := by kernel_rfl) : ZL γ Q k (p.drop i) st := zlEnd h0 h
theorem zT {c : Operand} {t e : PCode} (h : ZR γ Q t k st) (hc : (ρof st.s c).bool? = some true := by kernel_rfl) : ZR γ Q (.cond c t e) k st := zrCondT hc h
theorem zF {c : Operand} {t e : PCode} (h : ZR γ Q e k st) (hc : (ρof st.s c).bool? = some false := by kernel_rfl) : ZR γ Q (.cond c t e) k st := zrCondF hc h
theorem zO {i : Nat} {v : PV} {ups : Ups} (d : Option Nat) (j : Nat) (op : POp) (h1 : peval γ st.h (d.getD 0) (ρof st.s) op = some (v, ups)) (h : ZL γ Q k (p.drop j) (putO st d v ups)) (hp : (p.drop i).take 1 = [⟨d, op, none⟩] := by kernel_rfl) (hj : i + 1 = j := by rfl) (hg : gok st.s none = true := by rfl) : ZL γ Q k (p.drop i) st := zlOp hj hp hg h1 h
theorem fN {m : Nat} {fc : FCode} {r : PV × List Blk} {s : St} (h : outR s m fc.res = some r) (he : finSt fc.fin st = s := by kernel_rfl) (hx : fxC fc.fin = false := by kernel_rfl) : DoneF fc m r .normal st := fNorm hx ((congrArg (fun s => outR s m fc.res) he).trans h)
theorem fR {m : Nat} {fc : FCode} {r : PV × List Blk} {s : St} (h : outR s m fc.res = some r) (he : finSt fc.fin st = s := by kernel_rfl) (hx : fxC fc.fin = false := by kernel_rfl) : DoneF fc m r .ret st := fRet hx ((congrArg (fun s => outR s m fc.res) he).trans h)
end
abbrev eI : Enc Int := eInt .i64
abbrev dL (x : List Int) : PV := .d (.sl x.length (eI.cells x))
abbrev dE {α : Type} (E : Enc α) (x : List α) : PV := .d (.sl x.length (E.cells x))
abbrev LP := List PO
abbrev pg (d g : Nat) (o : POp) : PO := ⟨some d, o, some (g, true)⟩
abbrev pf (d g : Nat) (o : POp) : PO := ⟨some d, o, some (g, false)⟩
abbrev lf (e a : Nat) : POp := .load false e (.tmp a)
abbrev lt (e a : Nat) : POp := .load true e (.tmp a)
abbrev fd (k a : Nat) : POp := .fld k (.tmp a)
abbrev ck (a : Nat) (n : Int) : POp := .cmpI .eql (.tmp a) (.const (.int .i64 n))
abbrev c1 (f a : Nat) : POp := .call f [.tmp a]
abbrev pS (e a b : Nat) : PO := ⟨none, .store e (.tmp a) (.tmp b), none⟩
abbrev PQ := PX → St → Prop
abbrev FQ (A Q : PQ) : Prop := ∀ e st', A e st' → Q e st'
section
variable {γ : Orc} {Q : PX → St → Prop} {k : List It} {st : St} {p : List PO} {α : Type} {a b r : α} {c : Bool}
theorem sB {i : Nat} (d j : Nat) (op : POp) (hS : (bif c then a else b) = r) (ht : a = r → ZL γ Q k (p.drop j) (putB st d true)) (hf : b = r → ZL γ Q k (p.drop j) (putB st d false)) (hp : (p.drop i).take 1 = [⟨some d, op, none⟩] := by kernel_rfl) (h1 : peval γ st.h d (ρof st.s) op = some (.d (.bool c), []) := by kernel_rfl) (hj : i + 1 = j := by rfl) : ZL γ Q k (p.drop i) st := zlBool c hj hp rfl h1 (fun h => ht (cond_t h hS)) fun h => hf (cond_f h hS)
theorem sH {i : Nat} (d j g : Nat) (v : Bool) (op : POp) (hS : (bif c then a else b) = r) (ht : a = r → ZL γ Q k (p.drop j) (putB st d true)) (hf : b = r → ZL γ Q k (p.drop j) (putB st d false)) (hp : (p.drop i).take 1 = [⟨some d, op, some (g, v)⟩] := by kernel_rfl) (hg : gok st.s (some (g, v)) = true := by kernel_rfl) (h1 : peval γ st.h d (ρof st.s) op = some (.d (.bool c), []) := by kernel_rfl) (hj : i + 1 = j := by rfl) : ZL γ Q k (p.drop i) st := zlBool c hj hp hg h1 (fun h => ht (cond_t h hS)) fun h => hf (cond_f h hS)
theorem sR {c0 : PCode} (t : Nat) (hS : (bif c then a else b) = r) (ht : a = r → ZR γ Q c0 k (putB st t true)) (hf : b = r → ZR γ Q c0 k (putB st t false)) (h1 : st.s t = .d (.bool c) := by kernel_rfl) : ZR γ Q c0 k st := zrSplit t c h1 (fun h => ht (cond_t h hS)) fun h => hf (cond_f h hS)
theorem sL {l : List PO} (t : Nat) (hS : (bif c then a else b) = r) (ht : a = r → ZL γ Q k l (putB st t true)) (hf : b = r → ZL γ Q k l (putB st t false)) (h1 : st.s t = .d (.bool c) := by kernel_rfl) : ZL γ Q k l st := zlSplit t c h1 (fun h => ht (cond_t h hS)) fun h => hf (cond_f h hS)
theorem zG {i : Nat} {v : PV} {ups : Ups} (d : Option Nat) (j g : Nat) (w : Bool) (op : POp) (h1 : peval γ st.h (d.getD 0) (ρof st.s) op = some (v, ups)) (h : ZL γ Q k (p.drop j) (putO st d v ups)) (hp : (p.drop i).take 1 = [⟨d, op, some (g, w)⟩] := by kernel_rfl) (hg : gok st.s (some (g, w)) = true := by kernel_rfl) (hj : i + 1 = j := by rfl) : ZL γ Q k (p.drop i) st := zlOp hj hp hg h1 h
variable {prs : List (Nat × Nat)} {acc : List (List (Nat × Bool))}
theorem sDB {i : Nat} (d j : Nat) (g : Option (Nat × Bool)) (op : POp) (hS : (bif c then a else b) = r) (ht : a = r → ZD γ Q prs k (acc ++ [tcO st (some d) op]) (p.drop j) (putB st d true)) (hf : b = r → ZD γ Q prs k (acc ++ [tcO st (some d) op]) (p.drop j) (putB st d false)) (hp : (p.drop i).take 1 = [⟨some d, op, g⟩] := by kernel_rfl) (hg : gok st.s g = true := by kernel_rfl) (h1 : peval γ st.h d (ρof st.s) op = some (.d (.bool c), []) := by kernel_rfl) (hj : i + 1 = j := by rfl) : ZD γ Q prs k acc (p.drop i) st := zdBool c rfl rfl hj hp hg h1 (fun h => ht (cond_t h hS)) fun h => hf (cond_f h hS)
theorem zdR {i : Nat} (n j : Nat) (h : ZD γ Q prs k (acc ++ tcD (runD γ ((p.drop i).take n) st)) (p.drop j) (stD (runD γ ((p.drop i).take n) st))) (hj : i + n = j := by rfl) (h1 : (runD γ ((p.drop i).take n) st).isSome = true := by kernel_rfl) : ZD γ Q prs k acc (p.drop i) st := zdRun hj h1 rfl rfl h
theorem zdE {i : Nat} (h : ZK γ Q k .normal st) (h0 : p.drop i = [] := by kernel_rfl) (ha : (prs.all fun x => apart (acc.getD x.1 []) (acc.getD x.2 [])) = true := by kernel_rfl) : ZD γ Q prs k acc (p.drop i) st := zdEnd h0 ha h
theorem zdO {i : Nat} {v : PV} {ups : Ups} (d : Option Nat) (j : Nat) (g : Option (Nat × Bool)) (op : POp) (h1 : peval γ st.h (d.getD 0) (ρof st.s) op = some (v, ups)) (h : ZD γ Q prs k (acc ++ [tcO st d op]) (p.drop j) (putO st d v ups)) (hp : (p.drop i).take 1 = [⟨d, op, g⟩] := by kernel_rfl) (hg : gok st.s g = true := by kernel_rfl) (hj : i + 1 = j := by rfl) : ZD γ Q prs k acc (p.drop i) st := zdOp rfl rfl hj hp hg h1 h
theorem eX0 {σ ρ : Type} {H : σ → St → Prop} {X : ρ → PX → St → Prop} {z : ρ} {r : σ ⊕ ρ} {e : PX} (hS : some (Sum.inr z) = some r) (hQ : ∀ e st', finL H X r e st' → Q e st') (hne : e ≠ .normal := by intro h; cases h) (h : X z e st := by show _ = _ ∧ _ = _; exact ⟨rfl, rfl⟩) : Q e st := endQ hS hQ (finL_x hne h)
theorem eX1 {σ ρ : Type} {H : σ → St → Prop} {X : ρ → PX → St → Prop} {z : ρ} {r : σ ⊕ ρ} {e : PX} (hS : some (Sum.inr z) = some r) (hQ : ∀ e st', finL H X r e st' → Q e st') (hne : e ≠ .normal := by intro h; cases h) (h : X z e st := by show _ = _ ∧ _ = _; exact ⟨rfl, by kernel_rfl⟩) : Q e st := endQ hS hQ (finL_x hne h)
theorem eN1 {σ ρ : Type} {H : σ → St → Prop} {X : ρ → PX → St → Prop} {z : σ} {r : σ ⊕ ρ} (hS : some (Sum.inl z) = some r) (hQ : ∀ e st', finL H X r e st' → Q e st') (h : H z st := by show keepSt _ _ _ _ = _; kernel_rfl) : Q .normal st := endQ hS hQ (finL_n h)
variable {H : Nat → Cel} {ρ : Nat → PV} {d : Nat}
theorem ev_cA {ρ : Operand → PV} {f : Nat} {xs : List Operand} {l : List PV} {r : PV} (hc : γ f l [] = some (r, [])) (hl : lendL H (xs.map ρ) = some l := by kernel_rfl) (hf : ((refsL (xs.map ρ)).isEmpty || freeV r) = true := by kernel_rfl) (hr : (distinct ((owns r).map (·.1)) && (owns r).all (fun x => decide (x.1 < 8))) = true := by kernel_rfl) : peval γ H d ρ (.call f xs) = some (adV H d r, (owns r).map fun x => nw H (bid d x.1) x.2) := ev_callA hl hc hf hr
theorem ev_cR {ρ : Operand → PV} {f : Nat} {xs : List Operand} {l : List PV} (ids : List Nat) {bt bs' : List Blk} {r : PV} (hc : γ f l bt = some (r, bs')) (hi : idsOf H ((xs.map ρ).map nzA) = ids := by kernel_rfl) (hb : (blksOf H ids).map (List.map (trB ids H)) = some bt := by kernel_rfl) (hl : trL ids H ((xs.map ρ).map nzA) = l := by kernel_rfl)
  (hr : (decide (bs'.length = ids.length) && decide (ids.length ≤ 8) && distinct ((ownsAll r bs').map (·.1)) && (ownsAll r bs').all (fun x => decide (x.1 < 8) && !ids.any (Nat.beq (bid d x.1)))) = true := by kernel_rfl) :
  peval γ H d ρ (.callr f xs) = some (bkV false ids H d r, upsP false H ids d ids bs' ++ (ownsAll r bs').map fun x => nw H (bid d x.1) x.2) := ev_callrA hi hb hl hc hr
theorem ev_cX {ρ : Operand → PV} {f : Nat} {xs : List Operand} {l : List PV} (ids : List Nat) (bs : List Blk) {bt bs' : List Blk} {r : PV} (hc : γ f l bt = some (r, bs')) (hs : sameL H ids bs' = true) (hi : idsOf H ((xs.map ρ).map nzA) = ids := by kernel_rfl) (hb : blksOf H ids = some bs := by kernel_rfl) (hl : trL ids H ((xs.map ρ).map nzA) = l := by kernel_rfl) (ht : bs.map (trB ids H) = bt := by kernel_rfl)
  (hfx : fxOf ids bs' = true := by kernel_rfl) (hr : (decide (ids.length ≤ 8) && distinct ((ownsAll r bs').map (·.1)) && (ownsAll r bs').all (fun x => decide (x.1 < 8) && !ids.any (Nat.beq (bid d x.1)))) = true := by kernel_rfl) :
  peval γ H d ρ (.callr f xs) = some (bkV true ids H d r, upsP true H ids d ids bs' ++ (ownsAll r bs').map fun x => nw H (bid d x.1) x.2) := ev_callrXA hi hb hl ht hc hfx hs hr
theorem lk {p q : PV} {ps qs : List PV} (h2 : lendL H ps = some qs) (h1 : lendV H p = some q := by kernel_rfl) : lendL H (p :: ps) = some (q :: qs) := l_cons h1 h2
end
abbrev S8 := List UInt8
section
variable {γ : Orc} {Q : PX → St → Prop} {k : List It} {st : St} {p : List PO} {b : PCode}
theorem zS (h : ZL γ Q (.seq b :: k) (p.drop 0) st) : ZR γ Q (.seq (.reg p) b) k st := zrSeq (zrReg h)
theorem zK {i : Nat} (h : ZR γ Q b k st) (h0 : p.drop i = [] := by kernel_rfl) : ZL γ Q (.seq b :: k) (p.drop i) st := zE (zkSeq h) h0
end
abbrev brs : List Nat := [8, 9, 10, 100011, 100015, 100029, 30, 100032, 100037, 38, 43, 51, 100059, 60, 61, 65, 100066, 68, 70, 72, 74, 76, 100077, 100078, 100079, 100080, 100082, 88, 103, 105, 108, 100116, 118, 123, 124, 100130, 100132, 100133, 100134, 100136, 100137, 100138, 100139, 100142, 100144, 100145, 156, 157, 100160, 100161, 100163, 165, 166, 100167, 170, 100179, 100180, 100181, 100183, 100186, 100191, 203, 204, 205, 206, 208, 210, 213, 217, 218, 200219, 219, 222, 100230, 238, 239, 240, 241, 242, 243, 244, 246, 247, 248, 249, 250, 255, 268, 269, 270, 272, 273, 275, 277, 279, 281, 282, 283, 284, 287, 288, 289, 290, 292, 301, 303, 305, 306, 308, 309, 311, 314, 315, 316, 318, 337, 100013]
set_option linter.unusedSimpArgs false
structure GEnds where
 UsOk : Nat → Int
 HimOk : Nat → Int
structure GVar where
 Name : S8
 Value : S8
 User : Bool
 Set : Bool
structure GPen where
 Flags : Int
 Fore : Int
 Back : Int
structure GCell where
 Rune : Int
 Pen : GPen
structure GGrid where
 Wide : Int
 High : Int
 Cells : List GCell
structure GStops where
 Bits : Nat → Int
structure GSaved where
 Row : Int
 Col : Int
 Pen : GPen
 Origin : Bool
 Pages : Int × Int
 Shift : Int
structure GLine where
 Cells : List GCell
structure GScreen where
 Grid : GGrid
 Row : Int
 Col : Int
 Late : Bool
 Top : Int
 Bottom : Int
 Pen : GPen
 Modes : Int
 Stops : GStops
 Pages : Int × Int
 Shift : Int
 Saved : GSaved
 Other : GGrid
 Title : S8
 Past : List GLine
structure GSorts where
 Names : List S8
 At : Int
structure GWire where
 Mode : Int
 Cmd : Int
 Opt : Int
 Buf : S8
 Over : Bool
structure GParser where
 State : Int
 Mark : Int
 Inter : S8
 Args : S8
 Text : S8
structure GNeg where
 Us : Nat → UInt8
 Him : Nat → UInt8
 UsOk : Nat → Int
 HimOk : Nat → Int
structure GKeys where
 Levels : Nat → UInt8
 Chars : Nat → UInt8
structure GMask where
 Bits : Nat → Int
structure GEditor where
 Buf : S8
 Quote : Bool
structure GClient where
 Wire : GWire
 Cr : Bool
 Part : S8
 Psr : GParser
 Screen : GScreen
 Neg : GNeg
 Sorts : GSorts
 Vars : List GVar
 Keys : GKeys
 Mask : GMask
 Editor : GEditor
 Edit : Bool
structure GKey where
 Name : Int
 Rune : Int
 Mods : Int
structure GMouse where
 Button : Int
 Col : Int
 Row : Int
 Mods : Int
 Up : Bool
structure GEvent where
 Kind : Int
 Data : S8
 Key : GKey
 Mouse : GMouse
 Runes : List Int
 Wide : Int
 High : Int
 Us : Bool
 Opt : Int
 On : Bool
structure Gworker where
 Client : GClient
 sent : S8
structure GTok where
 Kind : Int
 Cmd : Int
 Opt : Int
 Data : S8
structure Greceiver where
 Wire : GWire
 buf : S8
 data : S8
 l : List GTok
structure GAct where
 Kind : Int
 Code : Int
 Mark : Int
 Inter : S8
 Args : List Int
 Text : S8
structure Gterminal where
 Screen : GScreen
 sent : S8
def e_GPen : Enc GPen := ⟨3, fun x => [.int .i64 x.Flags, .int .i64 x.Fore, .int .i64 x.Back], fun _ => rfl⟩
def e_GCell : Enc GCell := ⟨4, fun x => [.int .i64 x.Rune, .int .i64 x.Pen.Flags, .int .i64 x.Pen.Fore, .int .i64 x.Pen.Back], fun _ => rfl⟩
def e_GLine : Enc GLine := ⟨1, fun x => [.sl x.Cells.length (e_GCell.cells x.Cells)], fun _ => rfl⟩
def e_GVar : Enc GVar := ⟨4, fun x => [.str x.Name, .str x.Value, .bool x.User, .bool x.Set], fun _ => rfl⟩
def e_A39 : Enc (Int × Int) := ⟨2, fun x => [.int .i64 x.1, .int .i64 x.2], fun _ => rfl⟩
def e_GTok : Enc GTok := ⟨4, fun x => [.int .i64 x.Kind, .int .i64 x.Cmd, .int .i64 x.Opt, .str x.Data], fun _ => rfl⟩
def e_RGworker : Enc Gworker := ⟨614, fun x => (.int .i64 x.Client.Wire.Mode :: (.int .i64 x.Client.Wire.Cmd :: (.int .i64 x.Client.Wire.Opt :: (.str x.Client.Wire.Buf :: (.bool x.Client.Wire.Over :: (.bool x.Client.Cr :: (.str x.Client.Part :: (.int .i64 x.Client.Psr.State :: (.int .i64 x.Client.Psr.Mark :: (.str x.Client.Psr.Inter :: (.str x.Client.Psr.Args :: (.str x.Client.Psr.Text :: (.int .i64 x.Client.Screen.Grid.Wide :: (.int .i64 x.Client.Screen.Grid.High :: (.sl x.Client.Screen.Grid.Cells.length (e_GCell.cells x.Client.Screen.Grid.Cells) :: (.int .i64 x.Client.Screen.Row :: (.int .i64 x.Client.Screen.Col :: (.bool x.Client.Screen.Late :: (.int .i64 x.Client.Screen.Top :: (.int .i64 x.Client.Screen.Bottom :: (.int .i64 x.Client.Screen.Pen.Flags :: (.int .i64 x.Client.Screen.Pen.Fore :: (.int .i64 x.Client.Screen.Pen.Back :: (.int .i64 x.Client.Screen.Modes :: ((eInt .u64).rowD 4 x.Client.Screen.Stops.Bits ++ (.int .i64 x.Client.Screen.Pages.1 :: (.int .i64 x.Client.Screen.Pages.2 :: (.int .i64 x.Client.Screen.Shift :: (.int .i64 x.Client.Screen.Saved.Row :: (.int .i64 x.Client.Screen.Saved.Col :: (.int .i64 x.Client.Screen.Saved.Pen.Flags :: (.int .i64 x.Client.Screen.Saved.Pen.Fore :: (.int .i64 x.Client.Screen.Saved.Pen.Back :: (.bool x.Client.Screen.Saved.Origin :: (.int .i64 x.Client.Screen.Saved.Pages.1 :: (.int .i64 x.Client.Screen.Saved.Pages.2 :: (.int .i64 x.Client.Screen.Saved.Shift :: (.int .i64 x.Client.Screen.Other.Wide :: (.int .i64 x.Client.Screen.Other.High :: (.sl x.Client.Screen.Other.Cells.length (e_GCell.cells x.Client.Screen.Other.Cells) :: (.str x.Client.Screen.Title :: (.sl x.Client.Screen.Past.length (e_GLine.cells x.Client.Screen.Past) :: (eU8.rowD 256 x.Client.Neg.Us ++ (eU8.rowD 256 x.Client.Neg.Him ++ ((eInt .u64).rowD 4 x.Client.Neg.UsOk ++ ((eInt .u64).rowD 4 x.Client.Neg.HimOk ++ (.sl x.Client.Sorts.Names.length (eStr.cells x.Client.Sorts.Names) :: (.int .i64 x.Client.Sorts.At :: (.sl x.Client.Vars.length (e_GVar.cells x.Client.Vars) :: (eU8.rowD 19 x.Client.Keys.Levels ++ (eU8.rowD 19 x.Client.Keys.Chars ++ ((eInt .u64).rowD 4 x.Client.Mask.Bits ++ (.str x.Client.Editor.Buf :: (.bool x.Client.Editor.Quote :: (.bool x.Client.Edit :: (.str x.sent :: [])))))))))))))))))))))))))))))))))))))))))))))))))))))))), fun x => by simp only [List.length_append, List.length_cons, List.length_nil, Enc.rowD_len]; rfl⟩
def e_GAct : Enc GAct := ⟨6, fun x => [.int .i64 x.Kind, .int .i64 x.Code, .int .i64 x.Mark, .str x.Inter, .sl x.Args.length (eI.cells x.Args), .str x.Text], fun _ => rfl⟩
def e_UGterminal : Enc Gterminal := ⟨34, fun x => (.int .i64 x.Screen.Grid.Wide :: (.int .i64 x.Screen.Grid.High :: (.un :: (.int .i64 x.Screen.Row :: (.int .i64 x.Screen.Col :: (.bool x.Screen.Late :: (.int .i64 x.Screen.Top :: (.int .i64 x.Screen.Bottom :: (.int .i64 x.Screen.Pen.Flags :: (.int .i64 x.Screen.Pen.Fore :: (.int .i64 x.Screen.Pen.Back :: (.int .i64 x.Screen.Modes :: ((eInt .u64).rowD 4 x.Screen.Stops.Bits ++ (.int .i64 x.Screen.Pages.1 :: (.int .i64 x.Screen.Pages.2 :: (.int .i64 x.Screen.Shift :: (.int .i64 x.Screen.Saved.Row :: (.int .i64 x.Screen.Saved.Col :: (.int .i64 x.Screen.Saved.Pen.Flags :: (.int .i64 x.Screen.Saved.Pen.Fore :: (.int .i64 x.Screen.Saved.Pen.Back :: (.bool x.Screen.Saved.Origin :: (.int .i64 x.Screen.Saved.Pages.1 :: (.int .i64 x.Screen.Saved.Pages.2 :: (.int .i64 x.Screen.Saved.Shift :: (.int .i64 x.Screen.Other.Wide :: (.int .i64 x.Screen.Other.High :: (.un :: (.str x.Screen.Title :: (.un :: (.str x.sent :: []))))))))))))))))))))))))))))))), fun x => by simp only [List.length_append, List.length_cons, List.length_nil, Enc.rowD_len]; rfl⟩
def bx_GScreen (x : GScreen) (c3 c2 c1 : PV) : List PV := ((dI x.Grid.Wide) :: ((dI x.Grid.High) :: (c3 :: ((dI x.Row) :: ((dI x.Col) :: ((dB x.Late) :: ((dI x.Top) :: ((dI x.Bottom) :: ((dI x.Pen.Flags) :: ((dI x.Pen.Fore) :: ((dI x.Pen.Back) :: ((dI x.Modes) :: (((eInt .u64).row 4 x.Stops.Bits) ++ ((dI x.Pages.1) :: ((dI x.Pages.2) :: ((dI x.Shift) :: ((dI x.Saved.Row) :: ((dI x.Saved.Col) :: ((dI x.Saved.Pen.Flags) :: ((dI x.Saved.Pen.Fore) :: ((dI x.Saved.Pen.Back) :: ((dB x.Saved.Origin) :: ((dI x.Saved.Pages.1) :: ((dI x.Saved.Pages.2) :: ((dI x.Saved.Shift) :: ((dI x.Other.Wide) :: ((dI x.Other.High) :: (c2 :: ((.d (.str x.Title)) :: (c1 :: []))))))))))))))))))))))))))))))
def bx_GClient (x : GClient) (c5 c4 c3 c2 c1 : PV) : List PV := ((dI x.Wire.Mode) :: ((dI x.Wire.Cmd) :: ((dI x.Wire.Opt) :: ((.d (.str x.Wire.Buf)) :: ((dB x.Wire.Over) :: ((dB x.Cr) :: ((.d (.str x.Part)) :: ((dI x.Psr.State) :: ((dI x.Psr.Mark) :: ((.d (.str x.Psr.Inter)) :: ((.d (.str x.Psr.Args)) :: ((.d (.str x.Psr.Text)) :: ((dI x.Screen.Grid.Wide) :: ((dI x.Screen.Grid.High) :: (c5 :: ((dI x.Screen.Row) :: ((dI x.Screen.Col) :: ((dB x.Screen.Late) :: ((dI x.Screen.Top) :: ((dI x.Screen.Bottom) :: ((dI x.Screen.Pen.Flags) :: ((dI x.Screen.Pen.Fore) :: ((dI x.Screen.Pen.Back) :: ((dI x.Screen.Modes) :: (((eInt .u64).row 4 x.Screen.Stops.Bits) ++ ((dI x.Screen.Pages.1) :: ((dI x.Screen.Pages.2) :: ((dI x.Screen.Shift) :: ((dI x.Screen.Saved.Row) :: ((dI x.Screen.Saved.Col) :: ((dI x.Screen.Saved.Pen.Flags) :: ((dI x.Screen.Saved.Pen.Fore) :: ((dI x.Screen.Saved.Pen.Back) :: ((dB x.Screen.Saved.Origin) :: ((dI x.Screen.Saved.Pages.1) :: ((dI x.Screen.Saved.Pages.2) :: ((dI x.Screen.Saved.Shift) :: ((dI x.Screen.Other.Wide) :: ((dI x.Screen.Other.High) :: (c4 :: ((.d (.str x.Screen.Title)) :: (c3 :: ((eU8.row 256 x.Neg.Us) ++ ((eU8.row 256 x.Neg.Him) ++ (((eInt .u64).row 4 x.Neg.UsOk) ++ (((eInt .u64).row 4 x.Neg.HimOk) ++ (c2 :: ((dI x.Sorts.At) :: (c1 :: ((eU8.row 19 x.Keys.Levels) ++ ((eU8.row 19 x.Keys.Chars) ++ (((eInt .u64).row 4 x.Mask.Bits) ++ ((.d (.str x.Editor.Buf)) :: ((dB x.Editor.Quote) :: ((dB x.Edit) :: [])))))))))))))))))))))))))))))))))))))))))))))))))))))))
def bx_GEvent (x : GEvent) (c1 : PV) : List PV := ((dI x.Kind) :: ((.d (.str x.Data)) :: ((dI x.Key.Name) :: ((dI x.Key.Rune) :: ((dI x.Key.Mods) :: ((dI x.Mouse.Button) :: ((dI x.Mouse.Col) :: ((dI x.Mouse.Row) :: ((dI x.Mouse.Mods) :: ((dB x.Mouse.Up) :: (c1 :: ((dI x.Wide) :: ((dI x.High) :: ((dB x.Us) :: ((dI x.Opt) :: ((dB x.On) :: []))))))))))))))))
def bx_Greceiver (x : Greceiver) (c3 c2 c1 : PV) : List PV := ((dI x.Wire.Mode) :: ((dI x.Wire.Cmd) :: ((dI x.Wire.Opt) :: ((.d (.str x.Wire.Buf)) :: ((dB x.Wire.Over) :: (c3 :: (c2 :: (c1 :: []))))))))
def bx_Gterminal (x : Gterminal) (c3 c2 c1 : PV) : List PV := ((dI x.Screen.Grid.Wide) :: ((dI x.Screen.Grid.High) :: (c3 :: ((dI x.Screen.Row) :: ((dI x.Screen.Col) :: ((dB x.Screen.Late) :: ((dI x.Screen.Top) :: ((dI x.Screen.Bottom) :: ((dI x.Screen.Pen.Flags) :: ((dI x.Screen.Pen.Fore) :: ((dI x.Screen.Pen.Back) :: ((dI x.Screen.Modes) :: (((eInt .u64).row 4 x.Screen.Stops.Bits) ++ ((dI x.Screen.Pages.1) :: ((dI x.Screen.Pages.2) :: ((dI x.Screen.Shift) :: ((dI x.Screen.Saved.Row) :: ((dI x.Screen.Saved.Col) :: ((dI x.Screen.Saved.Pen.Flags) :: ((dI x.Screen.Saved.Pen.Fore) :: ((dI x.Screen.Saved.Pen.Back) :: ((dB x.Screen.Saved.Origin) :: ((dI x.Screen.Saved.Pages.1) :: ((dI x.Screen.Saved.Pages.2) :: ((dI x.Screen.Saved.Shift) :: ((dI x.Screen.Other.Wide) :: ((dI x.Screen.Other.High) :: (c2 :: ((.d (.str x.Screen.Title)) :: (c1 :: ((.d (.str x.sent)) :: [])))))))))))))))))))))))))))))))
def bx_Gworker (x : Gworker) (c5 c4 c3 c2 c1 : PV) : List PV := ((dI x.Client.Wire.Mode) :: ((dI x.Client.Wire.Cmd) :: ((dI x.Client.Wire.Opt) :: ((.d (.str x.Client.Wire.Buf)) :: ((dB x.Client.Wire.Over) :: ((dB x.Client.Cr) :: ((.d (.str x.Client.Part)) :: ((dI x.Client.Psr.State) :: ((dI x.Client.Psr.Mark) :: ((.d (.str x.Client.Psr.Inter)) :: ((.d (.str x.Client.Psr.Args)) :: ((.d (.str x.Client.Psr.Text)) :: ((dI x.Client.Screen.Grid.Wide) :: ((dI x.Client.Screen.Grid.High) :: (c5 :: ((dI x.Client.Screen.Row) :: ((dI x.Client.Screen.Col) :: ((dB x.Client.Screen.Late) :: ((dI x.Client.Screen.Top) :: ((dI x.Client.Screen.Bottom) :: ((dI x.Client.Screen.Pen.Flags) :: ((dI x.Client.Screen.Pen.Fore) :: ((dI x.Client.Screen.Pen.Back) :: ((dI x.Client.Screen.Modes) :: (((eInt .u64).row 4 x.Client.Screen.Stops.Bits) ++ ((dI x.Client.Screen.Pages.1) :: ((dI x.Client.Screen.Pages.2) :: ((dI x.Client.Screen.Shift) :: ((dI x.Client.Screen.Saved.Row) :: ((dI x.Client.Screen.Saved.Col) :: ((dI x.Client.Screen.Saved.Pen.Flags) :: ((dI x.Client.Screen.Saved.Pen.Fore) :: ((dI x.Client.Screen.Saved.Pen.Back) :: ((dB x.Client.Screen.Saved.Origin) :: ((dI x.Client.Screen.Saved.Pages.1) :: ((dI x.Client.Screen.Saved.Pages.2) :: ((dI x.Client.Screen.Saved.Shift) :: ((dI x.Client.Screen.Other.Wide) :: ((dI x.Client.Screen.Other.High) :: (c4 :: ((.d (.str x.Client.Screen.Title)) :: (c3 :: ((eU8.row 256 x.Client.Neg.Us) ++ ((eU8.row 256 x.Client.Neg.Him) ++ (((eInt .u64).row 4 x.Client.Neg.UsOk) ++ (((eInt .u64).row 4 x.Client.Neg.HimOk) ++ (c2 :: ((dI x.Client.Sorts.At) :: (c1 :: ((eU8.row 19 x.Client.Keys.Levels) ++ ((eU8.row 19 x.Client.Keys.Chars) ++ (((eInt .u64).row 4 x.Client.Mask.Bits) ++ ((.d (.str x.Client.Editor.Buf)) :: ((dB x.Client.Editor.Quote) :: ((dB x.Client.Edit) :: ((.d (.str x.sent)) :: []))))))))))))))))))))))))))))))))))))))))))))))))))))))))
abbrev gx_GScreen (x : GScreen) (i0 i1 i2 : Nat) : Blk := .box (bx_GScreen x (.r (.msl i0 0 0 x.Grid.Cells.length)) (.r (.msl i1 0 0 x.Other.Cells.length)) (.r (.msl i2 0 0 x.Past.length)))
abbrev go0_GScreen (x : GScreen) : Blk := .own 100 4 (e_GCell.cells x.Grid.Cells)
abbrev go1_GScreen (x : GScreen) : Blk := .own 100 4 (e_GCell.cells x.Other.Cells)
abbrev go2_GScreen (x : GScreen) : Blk := .own 91 1 (e_GLine.cells x.Past)
abbrev gd0_GScreen (x : GScreen) : PV := .d (.sl x.Grid.Cells.length (e_GCell.cells x.Grid.Cells))
abbrev gw0_GScreen (x : GScreen) : PV := .r (.own 0 100 4 x.Grid.Cells.length (e_GCell.cells x.Grid.Cells))
abbrev gd1_GScreen (x : GScreen) : PV := .d (.sl x.Other.Cells.length (e_GCell.cells x.Other.Cells))
abbrev gw1_GScreen (x : GScreen) : PV := .r (.own 1 100 4 x.Other.Cells.length (e_GCell.cells x.Other.Cells))
abbrev gd2_GScreen (x : GScreen) : PV := .d (.sl x.Past.length (e_GLine.cells x.Past))
abbrev gw2_GScreen (x : GScreen) : PV := .r (.own 2 91 1 x.Past.length (e_GLine.cells x.Past))
abbrev bd_GScreen (x : GScreen) : List PV := bx_GScreen x (gd0_GScreen x) (gd1_GScreen x) (gd2_GScreen x)
abbrev bw_GScreen (x : GScreen) : List PV := bx_GScreen x (gw0_GScreen x) (gw1_GScreen x) (gw2_GScreen x)
abbrev bm_GScreen (x : GScreen) (i0 ji0 i1 ji1 i2 ji2 : Nat) : List PV := bx_GScreen x (.r (.msl i0 ji0 0 x.Grid.Cells.length)) (.r (.msl i1 ji1 0 x.Other.Cells.length)) (.r (.msl i2 ji2 0 x.Past.length))
abbrev gh_GScreen (h : Nat → Cel) (x : GScreen) (i : Nat) (i0 i1 i2 : Nat) : Nat → Cel := up (up (up (up h i2 ⟨0, some (go2_GScreen x)⟩) i1 ⟨0, some (go1_GScreen x)⟩) i0 ⟨0, some (go0_GScreen x)⟩) i ⟨0, some (gx_GScreen x i0 i1 i2)⟩
abbrev q1_ (x : GClient) : PV := (.agg ((dI x.Wire.Mode) :: ((dI x.Wire.Cmd) :: ((dI x.Wire.Opt) :: ((.d (.str x.Wire.Buf)) :: ((dB x.Wire.Over) :: ((dB x.Cr) :: ((.d (.str x.Part)) :: ((dI x.Psr.State) :: ((dI x.Psr.Mark) :: ((.d (.str x.Psr.Inter)) :: ((.d (.str x.Psr.Args)) :: ((.d (.str x.Psr.Text)) :: ((dI x.Screen.Grid.Wide) :: ((dI x.Screen.Grid.High) :: ((gd0_GScreen x.Screen) :: ((dI x.Screen.Row) :: ((dI x.Screen.Col) :: ((dB x.Screen.Late) :: ((dI x.Screen.Top) :: ((dI x.Screen.Bottom) :: ((dI x.Screen.Pen.Flags) :: ((dI x.Screen.Pen.Fore) :: ((dI x.Screen.Pen.Back) :: ((dI x.Screen.Modes) :: (((eInt .u64).row 4 x.Screen.Stops.Bits) ++ ((dI x.Screen.Pages.1) :: ((dI x.Screen.Pages.2) :: ((dI x.Screen.Shift) :: ((dI x.Screen.Saved.Row) :: ((dI x.Screen.Saved.Col) :: ((dI x.Screen.Saved.Pen.Flags) :: ((dI x.Screen.Saved.Pen.Fore) :: ((dI x.Screen.Saved.Pen.Back) :: ((dB x.Screen.Saved.Origin) :: ((dI x.Screen.Saved.Pages.1) :: ((dI x.Screen.Saved.Pages.2) :: ((dI x.Screen.Saved.Shift) :: ((dI x.Screen.Other.Wide) :: ((dI x.Screen.Other.High) :: ((gd1_GScreen x.Screen) :: ((.d (.str x.Screen.Title)) :: ((gd2_GScreen x.Screen) :: ((eU8.row 256 x.Neg.Us) ++ ((eU8.row 256 x.Neg.Him) ++ (((eInt .u64).row 4 x.Neg.UsOk) ++ (((eInt .u64).row 4 x.Neg.HimOk) ++ ((dE eStr x.Sorts.Names) :: ((dI x.Sorts.At) :: ((dE e_GVar x.Vars) :: ((eU8.row 19 x.Keys.Levels) ++ ((eU8.row 19 x.Keys.Chars) ++ (((eInt .u64).row 4 x.Mask.Bits) ++ ((.d (.str x.Editor.Buf)) :: ((dB x.Editor.Quote) :: ((dB x.Edit) :: []))))))))))))))))))))))))))))))))))))))))))))))))))))))))
abbrev q2_ (x : GClient) : PV := (.tup [(.agg ((dI x.Wire.Mode) :: ((dI x.Wire.Cmd) :: ((dI x.Wire.Opt) :: ((.d (.str x.Wire.Buf)) :: ((dB x.Wire.Over) :: ((dB x.Cr) :: ((.d (.str x.Part)) :: ((dI x.Psr.State) :: ((dI x.Psr.Mark) :: ((.d (.str x.Psr.Inter)) :: ((.d (.str x.Psr.Args)) :: ((.d (.str x.Psr.Text)) :: ((dI x.Screen.Grid.Wide) :: ((dI x.Screen.Grid.High) :: ((gw0_GScreen x.Screen) :: ((dI x.Screen.Row) :: ((dI x.Screen.Col) :: ((dB x.Screen.Late) :: ((dI x.Screen.Top) :: ((dI x.Screen.Bottom) :: ((dI x.Screen.Pen.Flags) :: ((dI x.Screen.Pen.Fore) :: ((dI x.Screen.Pen.Back) :: ((dI x.Screen.Modes) :: (((eInt .u64).row 4 x.Screen.Stops.Bits) ++ ((dI x.Screen.Pages.1) :: ((dI x.Screen.Pages.2) :: ((dI x.Screen.Shift) :: ((dI x.Screen.Saved.Row) :: ((dI x.Screen.Saved.Col) :: ((dI x.Screen.Saved.Pen.Flags) :: ((dI x.Screen.Saved.Pen.Fore) :: ((dI x.Screen.Saved.Pen.Back) :: ((dB x.Screen.Saved.Origin) :: ((dI x.Screen.Saved.Pages.1) :: ((dI x.Screen.Saved.Pages.2) :: ((dI x.Screen.Saved.Shift) :: ((dI x.Screen.Other.Wide) :: ((dI x.Screen.Other.High) :: ((gw1_GScreen x.Screen) :: ((.d (.str x.Screen.Title)) :: (.nil :: ((eU8.row 256 x.Neg.Us) ++ ((eU8.row 256 x.Neg.Him) ++ (((eInt .u64).row 4 x.Neg.UsOk) ++ (((eInt .u64).row 4 x.Neg.HimOk) ++ ((.r (.own 2 9 1 x.Sorts.Names.length (eStr.cells x.Sorts.Names))) :: ((dI x.Sorts.At) :: ((.r (.own 3 107 4 x.Vars.length (e_GVar.cells x.Vars))) :: ((eU8.row 19 x.Keys.Levels) ++ ((eU8.row 19 x.Keys.Chars) ++ (((eInt .u64).row 4 x.Mask.Bits) ++ ((.d (.str x.Editor.Buf)) :: ((dB x.Editor.Quote) :: ((dB x.Edit) :: [])))))))))))))))))))))))))))))))))))))))))))))))))))))))), (dI 0)])
abbrev q3_ (x : GClient) : PV := (.agg ((dI x.Wire.Mode) :: ((dI x.Wire.Cmd) :: ((dI x.Wire.Opt) :: ((.d (.str x.Wire.Buf)) :: ((dB x.Wire.Over) :: ((dB x.Cr) :: ((.d (.str x.Part)) :: ((dI x.Psr.State) :: ((dI x.Psr.Mark) :: ((.d (.str x.Psr.Inter)) :: ((.d (.str x.Psr.Args)) :: ((.d (.str x.Psr.Text)) :: ((dI x.Screen.Grid.Wide) :: ((dI x.Screen.Grid.High) :: ((gw0_GScreen x.Screen) :: ((dI x.Screen.Row) :: ((dI x.Screen.Col) :: ((dB x.Screen.Late) :: ((dI x.Screen.Top) :: ((dI x.Screen.Bottom) :: ((dI x.Screen.Pen.Flags) :: ((dI x.Screen.Pen.Fore) :: ((dI x.Screen.Pen.Back) :: ((dI x.Screen.Modes) :: (((eInt .u64).row 4 x.Screen.Stops.Bits) ++ ((dI x.Screen.Pages.1) :: ((dI x.Screen.Pages.2) :: ((dI x.Screen.Shift) :: ((dI x.Screen.Saved.Row) :: ((dI x.Screen.Saved.Col) :: ((dI x.Screen.Saved.Pen.Flags) :: ((dI x.Screen.Saved.Pen.Fore) :: ((dI x.Screen.Saved.Pen.Back) :: ((dB x.Screen.Saved.Origin) :: ((dI x.Screen.Saved.Pages.1) :: ((dI x.Screen.Saved.Pages.2) :: ((dI x.Screen.Saved.Shift) :: ((dI x.Screen.Other.Wide) :: ((dI x.Screen.Other.High) :: ((gw1_GScreen x.Screen) :: ((.d (.str x.Screen.Title)) :: ((gw2_GScreen x.Screen) :: ((eU8.row 256 x.Neg.Us) ++ ((eU8.row 256 x.Neg.Him) ++ (((eInt .u64).row 4 x.Neg.UsOk) ++ (((eInt .u64).row 4 x.Neg.HimOk) ++ ((.r (.own 3 9 1 x.Sorts.Names.length (eStr.cells x.Sorts.Names))) :: ((dI x.Sorts.At) :: ((.r (.own 4 107 4 x.Vars.length (e_GVar.cells x.Vars))) :: ((eU8.row 19 x.Keys.Levels) ++ ((eU8.row 19 x.Keys.Chars) ++ (((eInt .u64).row 4 x.Mask.Bits) ++ ((.d (.str x.Editor.Buf)) :: ((dB x.Editor.Quote) :: ((dB x.Edit) :: []))))))))))))))))))))))))))))))))))))))))))))))))))))))))
abbrev q4_ : List (Nat × Value) := [(3, (.int .i64 0)), (1, (.string ⟨#[]⟩)), (2, (.bool .false)), (1, (.string ⟨#[]⟩)), (2, (.int .i64 0)), (3, (.string ⟨#[]⟩)), (2, (.int .i64 0)), (1, (.slice .none 0 0)), (2, (.int .i64 0)), (1, (.bool .false)), (6, (.int .i64 0)), (4, (.int .u64 0)), (8, (.int .i64 0)), (1, (.bool .false)), (5, (.int .i64 0)), (1, (.slice .none 0 0)), (1, (.string ⟨#[]⟩)), (1, (.slice .none 0 0)), (512, (.int .u8 0)), (8, (.int .u64 0)), (1, (.slice .none 0 0)), (1, (.int .i64 0)), (1, (.slice .none 0 0)), (38, (.int .u8 0)), (4, (.int .u64 0)), (1, (.string ⟨#[]⟩)), (2, (.bool .false))]
abbrev q5_ : Cel := ⟨0, some (.box (bx_GClient (GClient.mk (GWire.mk 0 0 0 ([]) false) false ([]) (GParser.mk 0 0 ([]) ([]) ([])) (GScreen.mk (GGrid.mk 0 0 ([])) 0 0 false 0 0 (GPen.mk 0 0 0) 0 (GStops.mk (fun _ => 0)) (0, 0) 0 (GSaved.mk 0 0 (GPen.mk 0 0 0) false (0, 0) 0) (GGrid.mk 0 0 ([])) ([]) ([])) (GNeg.mk (fun _ => 0) (fun _ => 0) (fun _ => 0) (fun _ => 0)) (GSorts.mk ([]) 0) ([]) (GKeys.mk (fun _ => 0) (fun _ => 0)) (GMask.mk (fun _ => 0)) (GEditor.mk ([]) false) false) (.d (.sl ([] : List GCell).length (e_GCell.cells ([])))) (.d (.sl ([] : List GCell).length (e_GCell.cells ([])))) (.d (.sl ([] : List GLine).length (e_GLine.cells ([])))) (.d (.sl ([] : List S8).length (eStr.cells ([])))) (.d (.sl ([] : List GVar).length (e_GVar.cells ([]))))))⟩
abbrev q6_ : Cel := ⟨0, some (.box (bx_GScreen (GScreen.mk (GGrid.mk 0 0 ([])) 0 0 false 0 0 (GPen.mk 0 0 0) 0 (GStops.mk (fun _ => 0)) (0, 0) 0 (GSaved.mk 0 0 (GPen.mk 0 0 0) false (0, 0) 0) (GGrid.mk 0 0 ([])) ([]) ([])) (.d (.sl ([] : List GCell).length (e_GCell.cells ([])))) (.d (.sl ([] : List GCell).length (e_GCell.cells ([])))) (.d (.sl ([] : List GLine).length (e_GLine.cells ([]))))))⟩
abbrev q7_ (x : GClient) : Nat → Cel := (up (up (up (up (up h0 171 ⟨0, some (.own 107 4 (e_GVar.cells x.Vars))⟩) 170 ⟨0, some (.own 9 1 (eStr.cells x.Sorts.Names))⟩) 169 ⟨0, some (go1_GScreen x.Screen)⟩) 168 ⟨0, some (go0_GScreen x.Screen)⟩) 32 ⟨0, some (.box (bx_GClient x (.r (.msl 168 0 0 x.Screen.Grid.Cells.length)) (.r (.msl 169 0 0 x.Screen.Other.Cells.length)) .nil (.r (.msl 170 0 0 x.Sorts.Names.length)) (.r (.msl 171 0 0 x.Vars.length))))⟩)
abbrev q8_ (x : Gworker) : Blk := (.box (bx_Gworker x (gd0_GScreen x.Client.Screen) (gd1_GScreen x.Client.Screen) (gd2_GScreen x.Client.Screen) (dE eStr x.Client.Sorts.Names) (dE e_GVar x.Client.Vars)))
abbrev q9_ (x : GClient) : GClient := (GClient.mk x.Wire x.Cr x.Part x.Psr (GScreen.mk x.Screen.Grid x.Screen.Row x.Screen.Col x.Screen.Late x.Screen.Top x.Screen.Bottom x.Screen.Pen x.Screen.Modes x.Screen.Stops x.Screen.Pages x.Screen.Shift x.Screen.Saved x.Screen.Other x.Screen.Title ([])) x.Neg x.Sorts x.Vars x.Keys x.Mask x.Editor x.Edit)
abbrev q10_ (x : Gterminal) : Nat → Cel := (up (up (up (up h0 3 ⟨1, some (go2_GScreen x.Screen)⟩) 2 ⟨1, some (go1_GScreen x.Screen)⟩) 1 ⟨1, some (go0_GScreen x.Screen)⟩) 0 ⟨0, some (.box (bx_Gterminal x (.r (.msl 1 1 0 x.Screen.Grid.Cells.length)) (.r (.msl 2 1 0 x.Screen.Other.Cells.length)) (.r (.msl 3 1 0 x.Screen.Past.length))))⟩)
abbrev q11_ (x : Gterminal) : Blk := (.box (bx_Gterminal x (.r (.msl 1 0 0 x.Screen.Grid.Cells.length)) (.r (.msl 2 0 0 x.Screen.Other.Cells.length)) (.r (.msl 3 0 0 x.Screen.Past.length))))
abbrev q12_ (x : GEvent) : PV := (.agg ((dI x.Kind) :: ((.d (.str x.Data)) :: ((dI x.Key.Name) :: ((dI x.Key.Rune) :: ((dI x.Key.Mods) :: ((dI x.Mouse.Button) :: ((dI x.Mouse.Col) :: ((dI x.Mouse.Row) :: ((dI x.Mouse.Mods) :: ((dB x.Mouse.Up) :: ((dL x.Runes) :: ((dI x.Wide) :: ((dI x.High) :: ((dB x.Us) :: ((dI x.Opt) :: ((dB x.On) :: [])))))))))))))))))
abbrev q13_ (x : GClient) : Cel := ⟨0, some (.box (bx_GClient x (gd0_GScreen x.Screen) (gd1_GScreen x.Screen) (gd2_GScreen x.Screen) (dE eStr x.Sorts.Names) (dE e_GVar x.Vars)))⟩
abbrev q14_ (x : GClient) : PV := (.agg ((dI x.Wire.Mode) :: ((dI x.Wire.Cmd) :: ((dI x.Wire.Opt) :: ((.d (.str x.Wire.Buf)) :: ((dB x.Wire.Over) :: ((dB x.Cr) :: ((.d (.str x.Part)) :: ((dI x.Psr.State) :: ((dI x.Psr.Mark) :: ((.d (.str x.Psr.Inter)) :: ((.d (.str x.Psr.Args)) :: ((.d (.str x.Psr.Text)) :: ((dI x.Screen.Grid.Wide) :: ((dI x.Screen.Grid.High) :: ((.r (.msl 152 1 0 x.Screen.Grid.Cells.length)) :: ((dI x.Screen.Row) :: ((dI x.Screen.Col) :: ((dB x.Screen.Late) :: ((dI x.Screen.Top) :: ((dI x.Screen.Bottom) :: ((dI x.Screen.Pen.Flags) :: ((dI x.Screen.Pen.Fore) :: ((dI x.Screen.Pen.Back) :: ((dI x.Screen.Modes) :: (((eInt .u64).row 4 x.Screen.Stops.Bits) ++ ((dI x.Screen.Pages.1) :: ((dI x.Screen.Pages.2) :: ((dI x.Screen.Shift) :: ((dI x.Screen.Saved.Row) :: ((dI x.Screen.Saved.Col) :: ((dI x.Screen.Saved.Pen.Flags) :: ((dI x.Screen.Saved.Pen.Fore) :: ((dI x.Screen.Saved.Pen.Back) :: ((dB x.Screen.Saved.Origin) :: ((dI x.Screen.Saved.Pages.1) :: ((dI x.Screen.Saved.Pages.2) :: ((dI x.Screen.Saved.Shift) :: ((dI x.Screen.Other.Wide) :: ((dI x.Screen.Other.High) :: ((.r (.msl 153 1 0 x.Screen.Other.Cells.length)) :: ((.d (.str x.Screen.Title)) :: ((.r (.msl 154 1 0 x.Screen.Past.length)) :: ((eU8.row 256 x.Neg.Us) ++ ((eU8.row 256 x.Neg.Him) ++ (((eInt .u64).row 4 x.Neg.UsOk) ++ (((eInt .u64).row 4 x.Neg.HimOk) ++ ((.r (.msl 155 1 0 x.Sorts.Names.length)) :: ((dI x.Sorts.At) :: ((.r (.msl 156 1 0 x.Vars.length)) :: ((eU8.row 19 x.Keys.Levels) ++ ((eU8.row 19 x.Keys.Chars) ++ (((eInt .u64).row 4 x.Mask.Bits) ++ ((.d (.str x.Editor.Buf)) :: ((dB x.Editor.Quote) :: ((dB x.Edit) :: []))))))))))))))))))))))))))))))))))))))))))))))))))))))))
abbrev q15_ (x : GClient) : PV := (.tup [(.agg ((dI x.Wire.Mode) :: ((dI x.Wire.Cmd) :: ((dI x.Wire.Opt) :: ((.d (.str x.Wire.Buf)) :: ((dB x.Wire.Over) :: ((dB x.Cr) :: ((.d (.str x.Part)) :: ((dI x.Psr.State) :: ((dI x.Psr.Mark) :: ((.d (.str x.Psr.Inter)) :: ((.d (.str x.Psr.Args)) :: ((.d (.str x.Psr.Text)) :: ((dI x.Screen.Grid.Wide) :: ((dI x.Screen.Grid.High) :: ((.r (.msl 104 1 0 x.Screen.Grid.Cells.length)) :: ((dI x.Screen.Row) :: ((dI x.Screen.Col) :: ((dB x.Screen.Late) :: ((dI x.Screen.Top) :: ((dI x.Screen.Bottom) :: ((dI x.Screen.Pen.Flags) :: ((dI x.Screen.Pen.Fore) :: ((dI x.Screen.Pen.Back) :: ((dI x.Screen.Modes) :: (((eInt .u64).row 4 x.Screen.Stops.Bits) ++ ((dI x.Screen.Pages.1) :: ((dI x.Screen.Pages.2) :: ((dI x.Screen.Shift) :: ((dI x.Screen.Saved.Row) :: ((dI x.Screen.Saved.Col) :: ((dI x.Screen.Saved.Pen.Flags) :: ((dI x.Screen.Saved.Pen.Fore) :: ((dI x.Screen.Saved.Pen.Back) :: ((dB x.Screen.Saved.Origin) :: ((dI x.Screen.Saved.Pages.1) :: ((dI x.Screen.Saved.Pages.2) :: ((dI x.Screen.Saved.Shift) :: ((dI x.Screen.Other.Wide) :: ((dI x.Screen.Other.High) :: ((.r (.msl 105 1 0 x.Screen.Other.Cells.length)) :: ((.d (.str x.Screen.Title)) :: (.nil :: ((eU8.row 256 x.Neg.Us) ++ ((eU8.row 256 x.Neg.Him) ++ (((eInt .u64).row 4 x.Neg.UsOk) ++ (((eInt .u64).row 4 x.Neg.HimOk) ++ ((.r (.msl 106 1 0 x.Sorts.Names.length)) :: ((dI x.Sorts.At) :: ((.r (.msl 107 1 0 x.Vars.length)) :: ((eU8.row 19 x.Keys.Levels) ++ ((eU8.row 19 x.Keys.Chars) ++ (((eInt .u64).row 4 x.Mask.Bits) ++ ((.d (.str x.Editor.Buf)) :: ((dB x.Editor.Quote) :: ((dB x.Edit) :: [])))))))))))))))))))))))))))))))))))))))))))))))))))))))), (dI 0)])
abbrev q16_ (x : GParser) : List PV := ((dI x.State) :: ((dI x.Mark) :: ((.d (.str x.Inter)) :: ((.d (.str x.Args)) :: ((.d (.str x.Text)) :: [])))))
abbrev q17_ (x : GScreen) : PV := (.tup [(.agg ((dI x.Grid.Wide) :: ((dI x.Grid.High) :: ((gw0_GScreen x) :: ((dI x.Row) :: ((dI x.Col) :: ((dB x.Late) :: ((dI x.Top) :: ((dI x.Bottom) :: ((dI x.Pen.Flags) :: ((dI x.Pen.Fore) :: ((dI x.Pen.Back) :: ((dI x.Modes) :: (((eInt .u64).row 4 x.Stops.Bits) ++ ((dI x.Pages.1) :: ((dI x.Pages.2) :: ((dI x.Shift) :: ((dI x.Saved.Row) :: ((dI x.Saved.Col) :: ((dI x.Saved.Pen.Flags) :: ((dI x.Saved.Pen.Fore) :: ((dI x.Saved.Pen.Back) :: ((dB x.Saved.Origin) :: ((dI x.Saved.Pages.1) :: ((dI x.Saved.Pages.2) :: ((dI x.Saved.Shift) :: ((dI x.Other.Wide) :: ((dI x.Other.High) :: ((gw1_GScreen x) :: ((.d (.str x.Title)) :: (.nil :: []))))))))))))))))))))))))))))))), (dI 0)])
abbrev q18_ : List (Nat × Value) := [(2, (.int .i64 0)), (1, (.slice .none 0 0)), (2, (.int .i64 0)), (1, (.bool .false)), (6, (.int .i64 0)), (4, (.int .u64 0)), (8, (.int .i64 0)), (1, (.bool .false)), (5, (.int .i64 0)), (1, (.slice .none 0 0)), (1, (.string ⟨#[]⟩)), (1, (.slice .none 0 0))]
abbrev q19_ (x : Gterminal) : Nat → Cel := (up (up (up (up (up h0 226 ⟨0, some (go2_GScreen x.Screen)⟩) 225 ⟨0, some (go1_GScreen x.Screen)⟩) 224 ⟨0, some (go0_GScreen x.Screen)⟩) 240 ⟨0, some (.box (bx_Gterminal x (.r (.msl 224 0 0 x.Screen.Grid.Cells.length)) (.r (.msl 225 0 0 x.Screen.Other.Cells.length)) (.r (.msl 226 0 0 x.Screen.Past.length))))⟩) 40 q6_)
abbrev q20_ (x : GGrid) : List PV := ((dI x.Wide) :: ((dI x.High) :: ((dE e_GCell x.Cells) :: [])))
abbrev q21_ (x : GPen) : Cel := ⟨0, some (.box ((dI x.Flags) :: ((dI x.Fore) :: ((dI x.Back) :: []))))⟩
abbrev q22_ (x : GWire) : List PV := ((dI x.Mode) :: ((dI x.Cmd) :: ((dI x.Opt) :: ((.d (.str x.Buf)) :: ((dB x.Over) :: [])))))
abbrev q23_ : List (Nat × Value) := [(3, (.int .i64 0)), (1, (.string ⟨#[]⟩)), (1, (.slice .none 0 0)), (1, (.string ⟨#[]⟩))]
abbrev q24_ (x : GPen) : PV := (.agg ((dI x.Flags) :: ((dI x.Fore) :: ((dI x.Back) :: []))))
abbrev q25_ : Cel := ⟨0, some (.box ((dI 0) :: ((dI 0) :: ((.d (.str ([]))) :: ((.d (.str ([]))) :: ((.d (.str ([]))) :: []))))))⟩
abbrev q26_ (x : GNeg) : PV := (.agg ((eU8.row 256 x.Us) ++ ((eU8.row 256 x.Him) ++ [])))
abbrev q27_ (x : GClient) : Nat → Cel := (up (up (up (up (up (up h0 288 ⟨0, some (.own 107 4 (e_GVar.cells x.Vars))⟩) 264 ⟨0, some (.own 9 1 (eStr.cells x.Sorts.Names))⟩) 193 ⟨0, some (go1_GScreen x.Screen)⟩) 192 ⟨0, some (go0_GScreen x.Screen)⟩) 120 ⟨0, some (.box (bx_GClient x (.r (.msl 192 0 0 x.Screen.Grid.Cells.length)) (.r (.msl 193 0 0 x.Screen.Other.Cells.length)) .nil (.r (.msl 264 0 0 x.Sorts.Names.length)) (.r (.msl 288 0 0 x.Vars.length))))⟩) 88 q5_)
abbrev q28_ : Cel := ⟨0, some (.box ((dI 0) :: ((dI 0) :: ((dI 0) :: ((.d (.str ([]))) :: ((dB false) :: []))))))⟩
abbrev q29_ (x : GScreen) : Cel := ⟨0, some (.box (bx_GScreen x (.r (.msl 72 0 0 x.Grid.Cells.length)) (.r (.msl 96 0 0 x.Other.Cells.length)) (gd2_GScreen x)))⟩
abbrev q30_ (x : GCell) : List PV := ((dI x.Rune) :: ((dI x.Pen.Flags) :: ((dI x.Pen.Fore) :: ((dI x.Pen.Back) :: []))))
abbrev q31_ (x : GSorts) : Nat → Cel := (up h0 16 ⟨0, some (.box ((dE eStr x.Names) :: ((dI x.At) :: [])))⟩)
abbrev q32_ (x : GKeys) : Nat → Cel := (up h0 16 ⟨0, some (.box ((eU8.row 19 x.Levels) ++ ((eU8.row 19 x.Chars) ++ [])))⟩)
abbrev q33_ (x : GScreen) : Nat → PV := (up (up (up (up u0 1000003 .un) 1000002 .un) 1000001 .un) 5 (dI (IntKind.i64.wrap (x.Grid.Wide - 1))))
abbrev q34_ : Nat → Cel := (up h0 56 ⟨0, some (.box ((dI 0) :: ((dI 0) :: ((.d (.sl ([] : List GCell).length (e_GCell.cells ([])))) :: []))))⟩)
abbrev q35_ (x : GClient) : GClient := ({ x with Screen := { x.Screen with Past := [] }, Keys := (GKeys.mk (upd (upd (upd (upd (upd x.Keys.Levels 10 2) 11 2) 12 2) 13 2) 14 2) (upd (upd (upd (upd (upd x.Keys.Chars 10 127) 11 21) 12 23) 13 18) 14 22)) })
abbrev q36_ : List (Nat × Value) := [(1, (.int .i64 0)), (1, (.string ⟨#[]⟩)), (7, (.int .i64 0)), (1, (.bool .false)), (1, (.slice .none 0 0)), (2, (.int .i64 0)), (1, (.bool .false)), (1, (.int .i64 0)), (1, (.bool .false))]
def p89_1 : LP := [po 4 (.mov (ki 0))]
def p89_2 : LP := [pm 5 0, po 6 (.cmpI .lss (tm 5) (ki 1)), pm 7 6, pf 8 7 (.mov (tm 0)), pf 9 7 (.cmpI .gtr (tm 8) (ki 160)), po 10 (.pick (tm 7) (.const (.bool .true)) (tm 9)), pm 11 10, pf 12 11 (.mov (tm 1)), pf 13 11 (.cmpI .lss (tm 12) (ki 1)), po 14 (.pick (tm 11) (.const (.bool .true)) (tm 13)), pm 15 14, pf 16 15 (.mov (tm 1)), pf 17 15 (.cmpI .gtr (tm 16) (ki 60)), po 18 (.pick (tm 15) (.const (.bool .true)) (tm 17))]
def p89_3 : LP := [po 4 (.mov (ki 1))]
def p89_4 : LP := [po 4 (.mov (ki 0))]
def c89_b : PCode := (.seq (.reg p89_1) (.seq (.seq (.reg p89_2) (.cond (.tmp 18) (.seq (.reg p89_3) .ret) .skip)) (.seq (.reg p89_4) .ret)))
def c89 : FCode := ⟨19, c89_b, [(.tmp 4)], some ([4], [], []), false⟩
theorem c89_ok : compF Go.Proofs.Tryz.prog brs 89 = some (eraseF c89) := by kernel_rfl
def p148_1 : LP := [po 2 (.mov (.const (.bool .false)))]
def p148_2 : LP := [pm 3 0, po 4 (.cmpI .geq (tm 3) (ki 0)), pm 5 4, pg 6 5 (.mov (tm 0)), pg 7 5 (.cmpI .leq (tm 6) (ki 256)), po 8 (.pick (tm 5) (tm 7) (.const (.bool .false))), pm 9 8, pf 10 9 (.mov (tm 0)), pf 11 9 (.cmpI .geq (tm 10) (ki 16777216)), pf 12 9 (.mov (tm 11)), pg 13 12 (.mov (tm 0)), pg 14 12 (.cmpI .lss (tm 13) (ki 33554432)), pf 15 9 (.pick (tm 12) (tm 14) (.const (.bool .false))), po 16 (.pick (tm 9) (.const (.bool .true)) (tm 15)), pm 2 16]
def c148_b : PCode := (.seq (.reg p148_1) (.seq (.reg p148_2) .ret))
def c148 : FCode := ⟨17, c148_b, [(.tmp 2)], some ([2], [], []), false⟩
theorem c148_ok : compF Go.Proofs.Tryz.prog brs 148 = some (eraseF c148) := by kernel_rfl
def p84_1 : LP := [po 1 (.box 3 (tm 0)), po 2 (.mov (ki 0))]
def p84_2 : LP := [po 3 (fd 0 1), po 4 (lf 1 3), po 5 (.cmpI .lss (tm 4) (ki 0)), pm 6 5, pf 7 6 (fd 0 1), pf 8 6 (lf 1 7), pf 9 6 (.cmpI .gtr (tm 8) (ki 255)), po 10 (.pick (tm 6) (.const (.bool .true)) (tm 9)), pm 11 10, pf 12 11 (fd 1 1), pf 13 11 (lf 1 12), pf 14 11 (c1 148 13), pf 15 11 (.un .not (tm 14)), po 16 (.pick (tm 11) (.const (.bool .true)) (tm 15)), pm 17 16, pf 18 17 (fd 2 1), pf 19 17 (lf 1 18), pf 20 17 (c1 148 19), pf 21 17 (.un .not (tm 20)), po 22 (.pick (tm 17) (.const (.bool .true)) (tm 21))]
def p84_3 : LP := [po 2 (.mov (ki 4))]
def p84_4 : LP := [po 2 (.mov (ki 0))]
def c84_b : PCode := (.seq (.reg p84_1) (.seq (.seq (.reg p84_2) (.cond (.tmp 22) (.seq (.reg p84_3) .ret) .skip)) (.seq (.reg p84_4) .ret)))
def c84 : FCode := ⟨23, c84_b, [(.tmp 2)], some ([2], [], []), false⟩
theorem c84_ok : compF Go.Proofs.Tryz.prog brs 84 = some (eraseF c84) := by kernel_rfl
def p152_1 : LP := [po 1 (.box 3 (tm 0)), po 2 (.alloc [(4, (.int .i64 0))])]
def p152_2 : LP := [po 3 (lt 3 1), po 4 (.build [(4, (.int .i64 0))] [(0, (1, (ki 32))), (1, (3, (tm 3)))]), pS 4 2 4]
def c152_b : PCode := (.seq (.reg p152_1) (.seq (.reg p152_2) .ret))
def c152 : FCode := ⟨5, c152_b, [(.cell 2 .true 4)], some ([2], [(24, .id 24)], []), false⟩
theorem c152_ok : compF Go.Proofs.Tryz.prog brs 152 = some (eraseF c152) := by kernel_rfl
def p236_1 : LP := [po 4 (.mov (.const (.int .u64 0))), po 5 (.mov (.const (.int .u64 0)))]
def p236_2 : LP := [pm 14 0, po 15 (.arI .and (tm 14) (.const (.int .u64 4294967295))), pm 6 15]
def p236_3 : LP := [pm 16 0, po 17 (.sh .shr (tm 16) (.const (.int .u64 32))), pm 7 17]
def p236_4 : LP := [pm 18 1, po 19 (.arI .and (tm 18) (.const (.int .u64 4294967295))), pm 8 19]
def p236_5 : LP := [pm 20 1, po 21 (.sh .shr (tm 20) (.const (.int .u64 32))), pm 9 21]
def p236_6 : LP := [pm 22 6, pm 23 8, po 24 (.arI .mul (tm 22) (tm 23)), pm 10 24]
def p236_7 : LP := [pm 25 7, pm 26 8, po 27 (.arI .mul (tm 25) (tm 26)), pm 28 10, po 29 (.sh .shr (tm 28) (.const (.int .u64 32))), po 30 (.arI .add (tm 27) (tm 29)), pm 11 30]
def p236_8 : LP := [pm 31 11, po 32 (.arI .and (tm 31) (.const (.int .u64 4294967295))), pm 12 32]
def p236_9 : LP := [pm 33 11, po 34 (.sh .shr (tm 33) (.const (.int .u64 32))), pm 13 34]
def p236_10 : LP := [pm 35 12, pm 36 6, pm 37 9, po 38 (.arI .mul (tm 36) (tm 37)), po 39 (.arI .add (tm 35) (tm 38)), pm 12 39]
def p236_11 : LP := [pm 40 7, pm 41 9, po 42 (.arI .mul (tm 40) (tm 41)), pm 43 13, po 44 (.arI .add (tm 42) (tm 43)), pm 45 12, po 46 (.sh .shr (tm 45) (.const (.int .u64 32))), po 47 (.arI .add (tm 44) (tm 46)), pm 4 47]
def p236_12 : LP := [pm 48 0, pm 49 1, po 50 (.arI .mul (tm 48) (tm 49)), pm 5 50]
def c236_13 : PCode := (.seq (.reg p236_3) (.seq (.reg p236_4) (.seq (.reg p236_5) (.seq (.reg p236_6) (.seq (.reg p236_7) (.seq (.reg p236_8) (.seq (.reg p236_9) (.seq (.reg p236_10) (.seq (.reg p236_11) (.seq (.reg p236_12) .ret))))))))))
def c236_b : PCode := (.seq (.reg p236_1) (.seq (.reg p236_2) c236_13))
def c236 : FCode := ⟨51, c236_b, [(.tmp 4), (.tmp 5)], some ([4, 5], [], []), false⟩
theorem c236_ok : compF Go.Proofs.Tryz.prog brs 236 = some (eraseF c236) := by kernel_rfl
def p198_2 : LP := [po 4 (.mov (.const (.int .u64 0))), po 5 (.mov (.const (.int .u64 0)))]
def p198_3 : LP := [pm 11 0, po 12 (.cvI .u32 (tm 11)), pm 13 1, po 14 (.cvI .u32 (tm 13)), po 15 (.call 235 [(tm 12), (tm 14)]), pm 10 15, po 16 (.ext (tm 10) 0), po 17 (.ext (tm 10) 1), pm 6 16, pm 7 17]
def p198_4 : LP := [pm 18 6, po 19 (.cvI .u64 (tm 18)), pm 20 7, po 21 (.cvI .u64 (tm 20)), pm 4 19, pm 5 21]
def p198_5 : LP := [pm 23 0, pm 24 1, po 25 (.call 236 [(tm 23), (tm 24)]), pm 22 25, po 26 (.ext (tm 22) 0), po 27 (.ext (tm 22) 1), pm 8 26, pm 9 27]
def p198_6 : LP := [pm 28 8, pm 29 9, pm 4 28, pm 5 29]
def c198_1 : PCode := (.keep [0, 1] [] [] (.seq (.reg p198_5) (.seq (.reg p198_6) .ret)))
def c198_b : PCode := (.seq (.reg p198_2) (.seq (.cond (.const (.bool .false)) (.seq (.reg p198_3) (.seq (.reg p198_4) .ret)) .skip) c198_1))
def c198 : FCode := ⟨30, c198_b, [(.tmp 4), (.tmp 5)], some ([4, 5], [], []), false⟩
theorem c198_ok : compF Go.Proofs.Tryz.prog brs 198 = some (eraseF c198) := by kernel_rfl
def p151_5 : LP := [po 4 (.nilS 100 4)]
def p151_6 : LP := [pm 9 1, po 10 (.cmpI .lss (tm 9) (ki 0))]
def p151_7 : LP := [po 11 (.mx []), ⟨.none, (.mx []), .none⟩]
def p151_8 : LP := [pm 13 0, po 14 (.len .false (tm 13)), po 15 (.cvI .u64 (tm 14)), pm 16 1, po 17 (.cvI .u64 (tm 16)), po 18 (.call 198 [(tm 15), (tm 17)]), pm 12 18, po 19 (.ext (tm 12) 0), po 20 (.ext (tm 12) 1), pm 5 19, pm 6 20]
def p151_9 : LP := [pm 21 5, po 22 (.cmpI .gtr (tm 21) (.const (.int .u64 0))), pm 23 22, pf 24 23 (.mov (tm 6)), pf 25 23 (.cmpI .gtr (tm 24) (.const (.int .u64 9223372036854775807))), po 26 (.pick (tm 23) (.const (.bool .true)) (tm 25))]
def p151_10 : LP := [po 27 (.mx []), ⟨.none, (.mx []), .none⟩]
def p151_11 : LP := [pm 28 6, po 29 (.cvI .i64 (tm 28)), po 30 (.mks 100 4 32 [(4, (.int .i64 0))] (tm 29) (tm 29)), pm 7 30]
def p151_12 : LP := [pm 31 7, pm 32 0, po 33 (.cpy 4 (tm 31) (tm 32)), pm 8 33]
def p151_13 : LP := [pm 34 8, pm 35 7, po 36 (.len .false (tm 35)), po 37 (.cmpI .lss (tm 34) (tm 36))]
def p151_14 : LP := [pm 38 8, pm 39 7, pm 40 8, po 41 (.slS 100 4 (tm 39) (.some (tm 40)) .none), pm 42 7, pm 43 8, po 44 (.slS 100 4 (tm 42) .none (.some (tm 43))), po 45 (.cpy 4 (tm 41) (tm 44)), po 46 (.arI .add (tm 38) (tm 45)), pm 8 46]
def c151_1 : PCode := (.keep [7, 8] [(248, .id 248)] [] (.block 1 (.regD p151_14 [])))
def c151_2 : PCode := (.keep [7, 8] [(248, .id 248)] [] (.seq (.seq (.reg p151_13) (.cond (.tmp 37) .skip (.keep [7] [(248, .id 248)] [] (.exit 0)))) c151_1))
def p151_15 : LP := [pm 47 7, pm 4 47]
def c151_3 : PCode := (.keep [0, 6] [] [] (.seq (.reg p151_11) (.seq (.reg p151_12) (.seq (.block 0 (.loop c151_2)) (.seq (.reg p151_15) .ret)))))
def c151_4 : PCode := (.keep [0, 1] [] [] (.seq (.reg p151_8) (.seq (.seq (.reg p151_9) (.cond (.tmp 26) (.reg p151_10) .skip)) c151_3)))
def c151_b : PCode := (.seq (.reg p151_5) (.seq (.seq (.reg p151_6) (.cond (.tmp 10) (.reg p151_7) .skip)) c151_4))
def c151 : FCode := ⟨48, c151_b, [(.tmp 4)], some ([4], [(248, .id 248)], []), false⟩
theorem c151_ok : compF Go.Proofs.Tryz.prog brs 151 = some (eraseF c151) := by kernel_rfl
def p90_1 : LP := [po 5 (.box 3 (tm 2)), po 6 (.alloc [(2, (.int .i64 0)), (1, (.slice .none 0 0))])]
def p90_2 : LP := [pm 7 0, pm 8 1, po 9 (lt 3 5), po 10 (c1 152 9), po 11 (.bsl 100 4 1 [(4, (.int .i64 0))] [(0, (4, (tm 10)))]), pm 12 0, pm 13 1, po 14 (.arI .mul (tm 12) (tm 13)), po 15 (.call 151 [(tm 11), (tm 14)]), po 16 (.build [(2, (.int .i64 0)), (1, (.slice .none 0 0))] [(0, (1, (tm 7))), (1, (1, (tm 8))), (2, (1, (tm 15)))]), pS 3 6 16]
def c90_b : PCode := (.seq (.reg p90_1) (.seq (.reg p90_2) .ret))
def c90 : FCode := ⟨17, c90_b, [(.cell 6 .true 3)], some ([6], [(56, .id 56), (128, .id 128)], []), false⟩
theorem c90_ok : compF Go.Proofs.Tryz.prog brs 90 = some (eraseF c90) := by kernel_rfl
def p44_2 : LP := [po 5 (.box 3 (tm 2)), po 6 (.alloc [(2, (.int .i64 0)), (1, (.slice .none 0 0))]), po 7 (.mov (ki 0))]
def p44_3 : LP := [pm 10 0, pm 11 1, po 12 (.call 89 [(tm 10), (tm 11)]), pm 8 12]
def p44_4 : LP := [pm 13 8, po 14 (.cmpI .neq (tm 13) (ki 0))]
def p44_5 : LP := [po 15 (.build [(2, (.int .i64 0)), (1, (.slice .none 0 0))] []), pm 16 8, pS 3 6 15, pm 7 16]
def p44_6 : LP := [po 17 (lt 3 5), po 18 (c1 84 17), pm 9 18]
def p44_7 : LP := [pm 19 9, po 20 (.cmpI .neq (tm 19) (ki 0))]
def p44_8 : LP := [po 21 (.build [(2, (.int .i64 0)), (1, (.slice .none 0 0))] []), pm 22 9, pS 3 6 21, pm 7 22]
def p44_9 : LP := [pm 23 0, pm 24 1, po 25 (lt 3 5), po 26 (.call 90 [(tm 23), (tm 24), (tm 25)]), pS 3 6 26, po 7 (.mov (ki 0))]
def c44_1 : PCode := (.keep [0, 1, 5, 6] [(48, .id 48), (56, .id 56)] [.cell 56 2 0 0 1] (.seq (.seq (.reg p44_6) (.seq (.reg p44_7) (.cond (.tmp 20) (.seq (.reg p44_8) .ret) .skip))) (.seq (.reg p44_9) .ret)))
def c44_b : PCode := (.seq (.reg p44_2) (.seq (.seq (.reg p44_3) (.seq (.reg p44_4) (.cond (.tmp 14) (.seq (.reg p44_5) .ret) .skip))) c44_1))
def c44 : FCode := ⟨27, c44_b, [(.cell 6 .true 3), (.tmp 7)], some ([6, 7], [(56, .id 56), (216, .id 216)], []), false⟩
theorem c44_ok : compF Go.Proofs.Tryz.prog brs 44 = some (eraseF c44) := by kernel_rfl
def p91_1 : LP := [po 2 (.nilS 100 4)]
def p91_2 : LP := [pm 3 0, po 4 (.isN .false (tm 3))]
def p91_3 : LP := [po 2 (.nilS 100 4)]
def p91_4 : LP := [po 5 (.bsl 100 4 0 [] []), pm 6 0, po 7 (.app 100 4 32 (tm 5) (tm 6)), pm 2 7]
def c91_b : PCode := (.seq (.reg p91_1) (.seq (.seq (.reg p91_2) (.cond (.tmp 4) (.seq (.reg p91_3) .ret) .skip)) (.seq (.reg p91_4) .ret)))
def c91 : FCode := ⟨8, c91_b, [(.tmp 2)], some ([2], [(97, (.slot 2 none))], []), true⟩
theorem c91_ok : compF Go.Proofs.Tryz.prog brs 91 = some (eraseF c91) := by kernel_rfl
def p45_1 : LP := [po 1 (.box 3 (tm 0)), po 2 (.alloc [(2, (.int .i64 0)), (1, (.slice .none 0 0))])]
def p45_2 : LP := [po 3 (fd 2 1), po 4 (lf 1 3), po 5 (c1 91 4), po 6 (fd 2 1), pS 1 6 5]
def p45_3 : LP := [po 7 (lt 3 1), pS 3 2 7]
def c45_b : PCode := (.seq (.reg p45_1) (.seq (.reg p45_2) (.seq (.reg p45_3) .ret)))
def c45 : FCode := ⟨8, c45_b, [(.cell 2 .true 3)], some ([2], [(24, .id 24), (48, .id 48)], []), false⟩
theorem c45_ok : compF Go.Proofs.Tryz.prog brs 45 = some (eraseF c45) := by kernel_rfl
def p46_3 : LP := [po 0 (.alloc [(4, (.int .u64 0))])]
def p46_4 : LP := [po 1 (.alloc [(4, (.int .u64 0))])]
def p46_5 : LP := [po 2 (.mov (ki 8))]
def p46_6 : LP := [pm 3 2, po 4 (.cmpI .leq (tm 3) (ki 248))]
def p46_7 : LP := [pm 7 2, po 8 (.arI .quo (tm 7) (ki 64)), po 9 (fd 0 1), po 10 (.ixA 4 1 (tm 9) (tm 8)), po 11 (lf 1 10), pm 12 2, po 13 (.arI .rem (tm 12) (ki 64)), po 14 (.sh .shl (.const (.int .u64 1)) (tm 13)), po 15 (.arI .or (tm 11) (tm 14)), po 16 (fd 0 1), po 17 (.ixA 4 1 (tm 16) (tm 8)), pS 1 17 15]
def p46_8 : LP := [pm 5 2, po 6 (.arI .add (tm 5) (ki 8)), pm 2 6]
def c46_1 : PCode := (.keep [0, 1, 2] [(8, .id 8), (16, .id 16)] [] (.seq (.block 1 (.regD p46_7 [])) (.reg p46_8)))
def c46_2 : PCode := (.keep [0, 1, 2] [(8, .id 8), (16, .id 16)] [] (.seq (.seq (.reg p46_6) (.cond (.tmp 4) .skip (.keep [0, 1] [(8, .id 8), (16, .id 16)] [] (.exit 0)))) c46_1))
def p46_9 : LP := [po 18 (lt 4 1), pS 4 0 18]
def c46_b : PCode := (.seq (.reg p46_3) (.seq (.reg p46_4) (.seq (.seq (.reg p46_5) (.block 0 (.loop c46_2))) (.seq (.reg p46_9) .ret))))
def c46 : FCode := ⟨19, c46_b, [(.cell 0 .true 4)], some ([0], [(8, .id 8)], []), false⟩
theorem c46_ok : compF Go.Proofs.Tryz.prog brs 46 = some (eraseF c46) := by kernel_rfl
def p23_2 : LP := [po 4 (.alloc q18_), po 5 (.mov (ki 0))]
def p23_3 : LP := [pm 10 0, pm 11 1, po 12 (.build [(3, (.int .i64 0))] []), po 13 (.call 44 [(tm 10), (tm 11), (tm 12)]), pm 9 13, po 14 (.ext (tm 9) 0), po 15 (.ext (tm 9) 1), po 6 (.alloc [(2, (.int .i64 0)), (1, (.slice .none 0 0))]), pS 3 6 14, pm 7 15]
def p23_4 : LP := [pm 16 7, po 17 (.cmpI .neq (tm 16) (ki 0))]
def p23_5 : LP := [po 18 (.build q18_ []), pm 19 7, pS 33 4 18, pm 5 19]
def p23_6 : LP := [po 20 (.build [(2, (.int .i64 0))] [(0, (1, (ki 1))), (1, (1, (ki 1)))]), po 8 (.alloc [(2, (.int .i64 0))]), pS 2 8 20]
def p23_7 : LP := [po 21 (lt 3 6), po 22 (lt 3 6), po 23 (c1 45 22), pm 24 1, po 25 (.call 46 []), po 26 (lt 2 8), po 27 (lt 2 8), po 28 (.build [(5, (.int .i64 0)), (1, (.bool .false)), (3, (.int .i64 0))] [(6, (2, (tm 27)))]), po 29 (.build q18_ [(0, (3, (tm 21))), (28, (3, (tm 23))), (7, (1, (tm 24))), (11, (1, (ki 12))), (12, (4, (tm 25))), (16, (2, (tm 26))), (19, (9, (tm 28)))]), pS 33 4 29, po 5 (.mov (ki 0))]
def c23_1 : PCode := (.keep [1, 4, 6] [(40, .id 40), (56, .id 56), (112, .id 112)] [.cell 40 2 0 0 1, .cell 40 30 0 0 1, .cell 40 32 0 0 1] (.seq (.reg p23_6) (.seq (.regD p23_7 [(0, 2), (0, 4), (2, 5), (4, 5), (2, 6), (4, 6)]) .ret)))
def c23_b : PCode := (.seq (.reg p23_2) (.seq (.reg p23_3) (.seq (.seq (.reg p23_4) (.cond (.tmp 17) (.seq (.reg p23_5) .ret) .skip)) c23_1)))
def c23 : FCode := ⟨30, c23_b, [(.cell 4 .true 33), (.tmp 5)], some ([4, 5], [(40, .id 40), (112, .id 112), (192, .id 192)], []), false⟩
theorem c23_ok : compF Go.Proofs.Tryz.prog brs 23 = some (eraseF c23) := by kernel_rfl
def p24_1 : LP := [po 2 (.nilS 9 1)]
def p24_2 : LP := [pm 3 0, po 4 (.isN .false (tm 3))]
def p24_3 : LP := [po 2 (.nilS 9 1)]
def p24_4 : LP := [po 5 (.bsl 9 1 0 [] []), pm 6 0, po 7 (.app 9 1 16 (tm 5) (tm 6)), pm 2 7]
def c24_b : PCode := (.seq (.reg p24_1) (.seq (.seq (.reg p24_2) (.cond (.tmp 4) (.seq (.reg p24_3) .ret) .skip)) (.seq (.reg p24_4) .ret)))
def c24 : FCode := ⟨8, c24_b, [(.tmp 2)], some ([2], [(97, (.slot 2 none))], []), true⟩
theorem c24_ok : compF Go.Proofs.Tryz.prog brs 24 = some (eraseF c24) := by kernel_rfl
def p25_1 : LP := [po 2 (.nilS 107 4)]
def p25_2 : LP := [pm 3 0, po 4 (.isN .false (tm 3))]
def p25_3 : LP := [po 2 (.nilS 107 4)]
def p25_4 : LP := [po 5 (.bsl 107 4 0 [] []), pm 6 0, po 7 (.app 107 4 40 (tm 5) (tm 6)), pm 2 7]
def c25_b : PCode := (.seq (.reg p25_1) (.seq (.seq (.reg p25_2) (.cond (.tmp 4) (.seq (.reg p25_3) .ret) .skip)) (.seq (.reg p25_4) .ret)))
def c25 : FCode := ⟨8, c25_b, [(.tmp 2)], some ([2], [(97, (.slot 2 none))], []), true⟩
theorem c25_ok : compF Go.Proofs.Tryz.prog brs 25 = some (eraseF c25) := by kernel_rfl
def p47_5 : LP := [po 2 (.mov (.const (.bool .false)))]
def p47_6 : LP := [pm 4 0, po 5 (.len .true (tm 4)), po 6 (.mov (ki 0))]
def p47_7 : LP := [po 7 (.cmpI .lss (tm 6) (tm 5))]
def p47_8 : LP := [pm 8 6, pm 3 8]
def p47_9 : LP := [pm 9 0, pm 10 3, po 11 (.ixStr (tm 9) (tm 10)), po 12 (.cmpI .lss (tm 11) (.const (.int .u8 33))), pm 13 12, pf 14 13 (.mov (tm 0)), pf 15 13 (.mov (tm 3)), pf 16 13 (.ixStr (tm 14) (tm 15)), pf 17 13 (.cmpI .gtr (tm 16) (.const (.int .u8 126))), po 18 (.pick (tm 13) (.const (.bool .true)) (tm 17))]
def p47_10 : LP := [po 2 (.mov (.const (.bool .false)))]
def p47_11 : LP := [po 19 (.arI .add (tm 6) (ki 1)), pm 6 19]
def c47_2 : PCode := (.keep [0, 5, 6] [] [] (.seq (.block 1 (.seq (.reg p47_8) (.seq (.reg p47_9) (.cond (.tmp 18) (.seq (.reg p47_10) .ret) .skip)))) (.reg p47_11)))
def c47_3 : PCode := (.keep [0, 5, 6, 7] [] [] (.seq (.cond (.tmp 7) .skip (.keep [0] [] [] (.exit 0))) c47_2))
def c47_4 : PCode := (.keep [0, 5, 6] [] [] (.seq (.reg p47_7) c47_3))
def p47_12 : LP := [pm 20 0, po 21 (.strO .neq (tm 20) (.const (.string ⟨#[]⟩))), pm 22 21, pg 23 22 (.mov (tm 0)), pg 24 22 (.len .true (tm 23)), pg 25 22 (.cmpI .leq (tm 24) (ki 40)), po 26 (.pick (tm 22) (tm 25) (.const (.bool .false))), pm 2 26]
def c47_1 : PCode := (.keep [0] [] [] (.seq (.reg p47_12) .ret))
def c47_b : PCode := (.seq (.reg p47_5) (.seq (.seq (.reg p47_6) (.block 0 (.loop c47_4))) c47_1))
def c47 : FCode := ⟨27, c47_b, [(.tmp 2)], some ([2], [], []), false⟩
theorem c47_ok : compF Go.Proofs.Tryz.prog brs 47 = some (eraseF c47) := by kernel_rfl
def p92_1 : LP := [po 4 (.mov (ki 0))]
def p92_2 : LP := [pm 6 0, po 7 (.len .false (tm 6)), po 8 (.mov (ki 0))]
def p92_3 : LP := [po 9 (.cmpI .lss (tm 8) (tm 7))]
def p92_4 : LP := [pm 10 8, pm 5 10]
def p92_5 : LP := [pm 11 1, pm 12 0, pm 13 5, po 14 (.ixS 9 1 (tm 12) (tm 13)), po 15 (lf 1 14), po 16 (.strO .eql (tm 11) (tm 15))]
def p92_6 : LP := [pm 17 5, pm 4 17]
def p92_7 : LP := [po 18 (.arI .add (tm 8) (ki 1)), pm 8 18]
def c92_8 : PCode := (.seq (.reg p92_2) (.block 0 (.loop (.seq (.reg p92_3) (.seq (.cond (.tmp 9) .skip (.exit 0)) (.seq (.block 1 (.seq (.reg p92_4) (.seq (.reg p92_5) (.cond (.tmp 16) (.seq (.reg p92_6) .ret) .skip)))) (.reg p92_7)))))))
def p92_9 : LP := [po 4 (.mov (ki (-1)))]
def c92_b : PCode := (.seq (.reg p92_1) (.seq c92_8 (.seq (.reg p92_9) .ret)))
def c92 : FCode := ⟨19, c92_b, [(.tmp 4)], some ([4], [], []), false⟩
theorem c92_ok : compF Go.Proofs.Tryz.prog brs 92 = some (eraseF c92) := by kernel_rfl
def p48_1 : LP := [po 4 (.mov (.const (.bool .false)))]
def p48_2 : LP := [pm 5 0, pm 6 1, po 7 (.call 92 [(tm 5), (tm 6)]), po 8 (.cmpI .geq (tm 7) (ki 0)), pm 4 8]
def c48_b : PCode := (.seq (.reg p48_1) (.seq (.reg p48_2) .ret))
def c48 : FCode := ⟨9, c48_b, [(.tmp 4)], some ([4], [], []), false⟩
theorem c48_ok : compF Go.Proofs.Tryz.prog brs 48 = some (eraseF c48) := by kernel_rfl
def p26_6 : LP := [po 1 (.box 2 (tm 0)), po 2 (.mov (ki 0))]
def p26_7 : LP := [po 5 (fd 0 1), po 6 (lf 1 5), po 7 (.len .false (tm 6)), po 8 (.cmpI .lss (tm 7) (ki 1)), pm 9 8, pf 10 9 (fd 0 1), pf 11 9 (lf 1 10), pf 12 9 (.len .false (tm 11)), pf 13 9 (.cmpI .gtr (tm 12) (ki 8)), po 14 (.pick (tm 9) (.const (.bool .true)) (tm 13))]
def p26_8 : LP := [po 2 (.mov (ki 1))]
def p26_9 : LP := [po 15 (fd 0 1), po 16 (lf 1 15), po 17 (.len .false (tm 16)), po 18 (.mov (ki 0))]
def p26_10 : LP := [po 19 (.cmpI .lss (tm 18) (tm 17))]
def p26_11 : LP := [pm 20 18, po 21 (.ixS 9 1 (tm 16) (tm 18)), po 22 (lf 1 21), pm 3 20, pm 4 22]
def p26_12 : LP := [pm 23 4, po 24 (c1 47 23), po 25 (.un .not (tm 24)), pm 26 25, pf 27 26 (fd 0 1), pf 28 26 (lf 1 27), pf 29 26 (.mov (tm 3)), pf 30 26 (.slS 9 1 (tm 28) .none (.some (tm 29))), pf 31 26 (.mov (tm 4)), pf 32 26 (.call 48 [(tm 30), (tm 31)]), po 33 (.pick (tm 26) (.const (.bool .true)) (tm 32))]
def p26_13 : LP := [po 2 (.mov (ki 4))]
def p26_14 : LP := [po 34 (.arI .add (tm 18) (ki 1)), pm 18 34]
def c26_2 : PCode := (.keep [1, 16, 17, 18] [(16, .id 16)] [] (.seq (.block 1 (.seq (.reg p26_11) (.seq (.reg p26_12) (.cond (.tmp 33) (.seq (.reg p26_13) .ret) .skip)))) (.reg p26_14)))
def c26_3 : PCode := (.keep [1, 16, 17, 18, 19] [(16, .id 16)] [] (.seq (.cond (.tmp 19) .skip (.keep [1] [(16, .id 16)] [] (.exit 0))) c26_2))
def c26_4 : PCode := (.keep [1, 16, 17, 18] [(16, .id 16)] [] (.seq (.reg p26_10) c26_3))
def p26_15 : LP := [po 35 (fd 1 1), po 36 (lf 1 35), po 37 (.cmpI .lss (tm 36) (ki 0)), pm 38 37, pf 39 38 (fd 1 1), pf 40 38 (lf 1 39), pf 41 38 (fd 0 1), pf 42 38 (lf 1 41), pf 43 38 (.len .false (tm 42)), pf 44 38 (.cmpI .gtr (tm 40) (tm 43)), po 45 (.pick (tm 38) (.const (.bool .true)) (tm 44))]
def p26_16 : LP := [po 2 (.mov (ki 1))]
def p26_17 : LP := [po 2 (.mov (ki 0))]
def c26_1 : PCode := (.keep [1] [(16, .id 16)] [] (.seq (.seq (.reg p26_15) (.cond (.tmp 45) (.seq (.reg p26_16) .ret) .skip)) (.seq (.reg p26_17) .ret)))
def c26_5 : PCode := (.keep [1] [(16, .id 16)] [] (.seq (.seq (.reg p26_9) (.block 0 (.loop c26_4))) c26_1))
def c26_b : PCode := (.seq (.reg p26_6) (.seq (.seq (.reg p26_7) (.cond (.tmp 14) (.seq (.reg p26_8) .ret) .skip)) c26_5))
def c26 : FCode := ⟨46, c26_b, [(.tmp 2)], some ([2], [], []), false⟩
theorem c26_ok : compF Go.Proofs.Tryz.prog brs 26 = some (eraseF c26) := by kernel_rfl
def p93_1 : LP := [po 4 (.mov (ki 0))]
def p93_2 : LP := [pm 6 0, po 7 (.len .false (tm 6)), po 8 (.mov (ki 0))]
def p93_3 : LP := [po 9 (.cmpI .lss (tm 8) (tm 7))]
def p93_4 : LP := [pm 10 8, pm 5 10]
def p93_5 : LP := [pm 11 1, pm 12 0, pm 13 5, po 14 (.ixS 107 4 (tm 12) (tm 13)), po 15 (lt 4 14), po 16 (.callv (tm 11) [(tm 15)])]
def p93_6 : LP := [pm 17 5, pm 4 17]
def p93_7 : LP := [po 18 (.arI .add (tm 8) (ki 1)), pm 8 18]
def c93_8 : PCode := (.seq (.reg p93_2) (.block 0 (.loop (.seq (.reg p93_3) (.seq (.cond (.tmp 9) .skip (.exit 0)) (.seq (.block 1 (.seq (.reg p93_4) (.seq (.reg p93_5) (.cond (.tmp 16) (.seq (.reg p93_6) .ret) .skip)))) (.reg p93_7)))))))
def p93_9 : LP := [po 4 (.mov (ki (-1)))]
def c93_b : PCode := (.seq (.reg p93_1) (.seq c93_8 (.seq (.reg p93_9) .ret)))
def c93 : FCode := ⟨19, c93_b, [(.tmp 4)], some ([4], [], []), false⟩
theorem c93_ok : compF Go.Proofs.Tryz.prog brs 93 = some (eraseF c93) := by kernel_rfl
def p49_1 : LP := [po 4 (.mov (.const (.bool .false)))]
def p49_2 : LP := [pm 5 0, pm 6 1, po 7 (.call 93 [(tm 5), (tm 6)]), po 8 (.cmpI .geq (tm 7) (ki 0)), pm 4 8]
def c49_b : PCode := (.seq (.reg p49_1) (.seq (.reg p49_2) .ret))
def c49 : FCode := ⟨9, c49_b, [(.tmp 4)], some ([4], [], []), false⟩
theorem c49_ok : compF Go.Proofs.Tryz.prog brs 49 = some (eraseF c49) := by kernel_rfl
def p27_2 : LP := [po 2 (.mov (.const (.string ⟨#[]⟩))), po 3 (.mov (ki 0))]
def p27_3 : LP := [pm 8 0, po 9 (.len .false (tm 8)), po 10 (.cmpI .gtr (tm 9) (ki 20)), pm 11 10, pf 12 11 (.mov (tm 0)), pf 13 11 (.call 49 [(tm 12), (.func 50)]), po 14 (.pick (tm 11) (.const (.bool .true)) (tm 13))]
def p27_4 : LP := [po 2 (.mov (.const (.string ⟨#[]⟩))), po 3 (.mov (ki 2))]
def p27_5 : LP := [po 4 (.nilS 5 1)]
def p27_6 : LP := [pm 15 0, po 16 (.len .false (tm 15)), po 17 (.mov (ki 0))]
def p27_7 : LP := [po 18 (.cmpI .lss (tm 17) (tm 16))]
def p27_8 : LP := [po 19 (.ixS 107 4 (tm 15) (tm 17)), po 20 (lt 4 19), po 6 (.alloc [(2, (.string ⟨#[]⟩)), (2, (.bool .false))]), pS 4 6 20]
def p27_9 : LP := [po 21 (fd 3 6), po 22 (lf 1 21), po 23 (.un .not (tm 22)), pm 24 23, pg 25 24 (fd 1 6), pg 26 24 (lf 1 25), pg 27 24 (.strO .neq (tm 26) (.const (.string ⟨#[]⟩))), po 28 (.pick (tm 24) (tm 27) (.const (.bool .false)))]
def p27_10 : LP := [po 2 (.mov (.const (.string ⟨#[]⟩))), po 3 (.mov (ki 4))]
def p27_11 : LP := [po 7 (.mov (.const (.int .u8 0)))]
def p27_12 : LP := [po 29 (fd 2 6), po 30 (lf 1 29)]
def p27_13 : LP := [po 7 (.mov (.const (.int .u8 3)))]
def p27_14 : LP := [pm 31 4, pm 32 7, po 33 (.bsl 5 1 1 [(1, (.int .u8 0))] [(0, (1, (tm 32)))]), po 34 (.app 5 1 1 (tm 31) (tm 33)), po 35 (fd 0 6), po 36 (lf 1 35), po 37 (.callr 51 [(tm 34), (tm 36)]), pm 4 37]
def p27_15 : LP := [po 38 (fd 3 6), po 39 (lf 1 38)]
def p27_16 : LP := [pm 40 4, po 41 (.bsl 5 1 1 [(1, (.int .u8 0))] [(0, (1, (.const (.int .u8 1))))]), po 42 (.app 5 1 1 (tm 40) (tm 41)), po 43 (fd 1 6), po 44 (lf 1 43), po 45 (.callr 51 [(tm 42), (tm 44)]), pm 4 45]
def c27_17 : PCode := (.seq (.reg p27_11) (.seq (.seq (.reg p27_12) (.cond (.tmp 30) (.reg p27_13) .skip)) (.seq (.regD p27_14 [(2, 5), (3, 5)]) (.seq (.reg p27_15) (.cond (.tmp 39) (.regD p27_16 [(1, 4), (2, 4)]) .skip)))))
def p27_18 : LP := [po 46 (.arI .add (tm 17) (ki 1)), pm 17 46]
def c27_19 : PCode := (.loop (.seq (.reg p27_7) (.seq (.cond (.tmp 18) .skip (.exit 0)) (.seq (.block 1 (.seq (.reg p27_8) (.seq (.seq (.reg p27_9) (.cond (.tmp 28) (.seq (.reg p27_10) .ret) .skip)) c27_17))) (.reg p27_18)))))
def p27_20 : LP := [pm 47 4, po 48 (.cvBS (tm 47)), pm 2 48, po 3 (.mov (ki 0))]
def c27_1 : PCode := (.keep [0] [] [] (.seq (.reg p27_5) (.seq (.seq (.reg p27_6) (.block 0 c27_19)) (.seq (.reg p27_20) .ret))))
def c27_b : PCode := (.seq (.reg p27_2) (.seq (.seq (.reg p27_3) (.cond (.tmp 14) (.seq (.reg p27_4) .ret) .skip)) c27_1))
def c27 : FCode := ⟨49, c27_b, [(.tmp 2), (.tmp 3)], some ([2, 3], [], []), false⟩
theorem c27_ok : compF Go.Proofs.Tryz.prog brs 27 = some (eraseF c27) := by kernel_rfl
def p11_4 : LP := [po 9 (.box 8 (tm 4)), po 10 (.alloc q4_), po 11 (.mov (ki 0))]
def p11_5 : LP := [pm 21 0, pm 22 1, po 23 (.call 23 [(tm 21), (tm 22)]), pm 20 23, po 24 (.ext (tm 20) 0), po 25 (.ext (tm 20) 1), po 12 (.alloc q18_), pS 33 12 24, pm 13 25]
def p11_6 : LP := [pm 26 13, po 27 (.cmpI .neq (tm 26) (ki 0))]
def p11_7 : LP := [po 28 (.build q4_ []), pm 29 13, pS 613 10 28, pm 11 29]
def p11_8 : LP := [po 30 (lt 33 12), pm 31 2, po 32 (c1 24 31), po 33 (.build [(1, (.slice .none 0 0)), (1, (.int .i64 0))] [(0, (1, (tm 32)))]), pm 34 3, po 35 (c1 25 34), po 36 (fd 0 9), po 37 (lt 4 36), po 38 (fd 4 9), po 39 (lt 4 38), po 40 (.build [(512, (.int .u8 0)), (8, (.int .u64 0))] [(512, (4, (tm 37))), (516, (4, (tm 39)))]), po 41 (.build q4_ [(12, (33, (tm 30))), (565, (2, (tm 33))), (567, (1, (tm 35))), (45, (520, (tm 40)))]), po 14 (.alloc q4_), pS 613 14 41]
def p11_9 : LP := [po 42 (fd 565 14), po 43 (lt 2 42), po 44 (c1 26 43), pm 15 44]
def p11_10 : LP := [pm 45 15, po 46 (.cmpI .neq (tm 45) (ki 0))]
def p11_11 : LP := [po 47 (.build q4_ []), pm 48 15, pS 613 10 47, pm 11 48]
def p11_12 : LP := [pm 50 3, po 51 (c1 27 50), pm 49 51, po 52 (.ext (tm 49) 0), po 53 (.ext (tm 49) 1), pm 16 52, pm 17 53]
def p11_13 : LP := [pm 54 17, po 55 (.cmpI .neq (tm 54) (ki 0))]
def p11_14 : LP := [po 56 (.build q4_ []), pm 57 17, pS 613 10 56, pm 11 57]
def p11_15 : LP := [po 75 (lf 1 14), po 74 (.cvI .i64 (tm 75)), pS 1 14 14, pS 1 14 75, po 75 (lt 613 14), po 71 (fd 578 14), ⟨.none, (.store 1 (tm 71) (.const (.int .u8 2))), .none⟩, po 71 (fd 579 14), ⟨.none, (.store 1 (tm 71) (.const (.int .u8 2))), .none⟩, po 71 (fd 580 14), ⟨.none, (.store 1 (tm 71) (.const (.int .u8 2))), .none⟩, po 71 (fd 581 14), ⟨.none, (.store 1 (tm 71) (.const (.int .u8 2))), .none⟩, po 71 (fd 582 14), ⟨.none, (.store 1 (tm 71) (.const (.int .u8 2))), .none⟩, po 71 (fd 597 14), ⟨.none, (.store 1 (tm 71) (.const (.int .u8 127))), .none⟩, po 71 (fd 598 14), ⟨.none, (.store 1 (tm 71) (.const (.int .u8 21))), .none⟩, po 71 (fd 599 14), ⟨.none, (.store 1 (tm 71) (.const (.int .u8 23))), .none⟩, po 71 (fd 600 14), ⟨.none, (.store 1 (tm 71) (.const (.int .u8 18))), .none⟩, po 71 (fd 601 14), ⟨.none, (.store 1 (tm 71) (.const (.int .u8 22))), .none⟩, po 18 (.mov (.const (.map .none))), po 19 (.mov (.const (.map .none))), po 58 (.mov (.const (.map .none))), po 59 (.mov (.const (.map .none))), po 60 (.mov (.const (.map .none))), po 61 (.mov (.const (.map .none))), po 62 (.mov (.const (.map .none))), po 63 (.mov (.const (.map .none))), po 64 (.mov (.const (.map .none))), po 65 (.mov (.const (.map .none))), po 66 (.mov (.const (.map .none))), po 67 (.mov (.const (.map .none))), po 68 (.mov (.const (.map .none))), po 69 (.mov (.const (.map .none))), po 70 (.mov (.const (.map .none))), po 71 (.mov (.const (.map .none))), po 72 (.mov (.const (.map .none))), po 73 (.mov (.const (.map .none))), po 74 (.mov (.const (.map .none))), po 75 (.mov (.const (.map .none)))]
def p11_16 : LP := [po 75 (lt 613 14), pS 613 10 75, po 11 (.mov (ki 0))]
def c11_1 : PCode := (.keep [10, 14] [(88, .id 88), (120, .id 120), (192, .id 192), (193, .id 193), (264, .id 264), (288, .id 288)] [] (.seq (.reg p11_15) (.seq (.reg p11_16) .ret)))
def c11_2 : PCode := (.keep [3, 10, 14] [(88, .id 88), (120, .id 120), (192, .id 192), (193, .id 193), (264, .id 264), (288, .id 288)] [] (.seq (.seq (.reg p11_12) (.seq (.reg p11_13) (.cond (.tmp 55) (.seq (.reg p11_14) .ret) .skip))) c11_1))
def c11_3 : PCode := (.keep [2, 3, 9, 10, 12] [(80, .id 80), (88, .id 88), (104, .id 104), (192, .id 192), (193, .id 193)] [.cell 88 14 0 0 1, .cell 88 42 0 0 1, .cell 88 44 0 0 1, .cell 88 565 0 0 1, .cell 88 567 0 0 1] (.seq (.regD p11_8 [(0, 2), (0, 5), (2, 7), (5, 7), (2, 9), (5, 9), (0, 12), (2, 12), (5, 12), (7, 12), (9, 12)]) (.seq (.seq (.reg p11_9) (.seq (.reg p11_10) (.cond (.tmp 46) (.seq (.reg p11_11) .ret) .skip))) c11_2)))
def c11_b : PCode := (.seq (.reg p11_4) (.seq (.reg p11_5) (.seq (.seq (.reg p11_6) (.cond (.tmp 27) (.seq (.reg p11_7) .ret) .skip)) c11_3)))
def c11 : FCode := ⟨76, c11_b, [(.cell 10 .true 613), (.tmp 11)], some ([10, 11], [(88, .id 88), (192, .id 192), (193, .id 193), (264, .id 264), (288, .id 288)], []), false⟩
theorem c11_okF : OkF Go.Proofs.Tryz.prog brs 11 c11 := Mp.new_ok rfl (by kernel_rfl) (Mp.sq (c := Mp.newBody) (p := (.seq (.reg p11_4) (.seq (.reg p11_5) (.seq (.seq (.reg p11_6) (.cond (.tmp 27) (.seq (.reg p11_7) .ret) .skip)) c11_3)))) (c1 := Mp.fs Mp.newBody) (c2 := Mp.sn Mp.newBody) (p1 := (.reg p11_4)) (p2 := (.seq (.reg p11_5) (.seq (.seq (.reg p11_6) (.cond (.tmp 27) (.seq (.reg p11_7) .ret) .skip)) c11_3))) (by kernel_rfl) (by kernel_rfl) (Refines.code (br := brs) (c := (Mp.fs Mp.newBody)) (p := (.reg p11_4)) (by kernel_rfl)) (Mp.sq (c := (Mp.sn Mp.newBody)) (p := (.seq (.reg p11_5) (.seq (.seq (.reg p11_6) (.cond (.tmp 27) (.seq (.reg p11_7) .ret) .skip)) c11_3))) (c1 := Mp.fs (Mp.sn Mp.newBody)) (c2 := Mp.sn (Mp.sn Mp.newBody)) (p1 := (.reg p11_5)) (p2 := (.seq (.seq (.reg p11_6) (.cond (.tmp 27) (.seq (.reg p11_7) .ret) .skip)) c11_3)) (by kernel_rfl) (by kernel_rfl) (Refines.code (br := brs) (c := (Mp.fs (Mp.sn Mp.newBody))) (p := (.reg p11_5)) (by kernel_rfl)) (Mp.sq (c := (Mp.sn (Mp.sn Mp.newBody))) (p := (.seq (.seq (.reg p11_6) (.cond (.tmp 27) (.seq (.reg p11_7) .ret) .skip)) c11_3)) (c1 := Mp.fs (Mp.sn (Mp.sn Mp.newBody))) (c2 := Mp.sn (Mp.sn (Mp.sn Mp.newBody))) (p1 := (.seq (.reg p11_6) (.cond (.tmp 27) (.seq (.reg p11_7) .ret) .skip))) (p2 := c11_3) (by kernel_rfl) (by kernel_rfl) (Refines.code (br := brs) (c := (Mp.fs (Mp.sn (Mp.sn Mp.newBody)))) (p := (.seq (.reg p11_6) (.cond (.tmp 27) (.seq (.reg p11_7) .ret) .skip))) (by kernel_rfl)) (Mp.kp (p := c11_3) (q := (.seq (.regD p11_8 [(0, 2), (0, 5), (2, 7), (5, 7), (2, 9), (5, 9), (0, 12), (2, 12), (5, 12), (7, 12), (9, 12)]) (.seq (.seq (.reg p11_9) (.seq (.reg p11_10) (.cond (.tmp 46) (.seq (.reg p11_11) .ret) .skip))) c11_2))) (L := [2, 3, 9, 10, 12]) (B := [(80, .id 80), (88, .id 88), (104, .id 104), (192, .id 192), (193, .id 193)]) (A := [.cell 88 14 0 0 1, .cell 88 42 0 0 1, .cell 88 44 0 0 1, .cell 88 565 0 0 1, .cell 88 567 0 0 1]) (by kernel_rfl) (Mp.sq (c := (Mp.sn (Mp.sn (Mp.sn Mp.newBody)))) (p := (.seq (.regD p11_8 [(0, 2), (0, 5), (2, 7), (5, 7), (2, 9), (5, 9), (0, 12), (2, 12), (5, 12), (7, 12), (9, 12)]) (.seq (.seq (.reg p11_9) (.seq (.reg p11_10) (.cond (.tmp 46) (.seq (.reg p11_11) .ret) .skip))) c11_2))) (c1 := Mp.fs (Mp.sn (Mp.sn (Mp.sn Mp.newBody)))) (c2 := Mp.sn (Mp.sn (Mp.sn (Mp.sn Mp.newBody)))) (p1 := (.regD p11_8 [(0, 2), (0, 5), (2, 7), (5, 7), (2, 9), (5, 9), (0, 12), (2, 12), (5, 12), (7, 12), (9, 12)])) (p2 := (.seq (.seq (.reg p11_9) (.seq (.reg p11_10) (.cond (.tmp 46) (.seq (.reg p11_11) .ret) .skip))) c11_2)) (by kernel_rfl) (by kernel_rfl) (Refines.code (br := brs) (c := (Mp.fs (Mp.sn (Mp.sn (Mp.sn Mp.newBody))))) (p := (.regD p11_8 [(0, 2), (0, 5), (2, 7), (5, 7), (2, 9), (5, 9), (0, 12), (2, 12), (5, 12), (7, 12), (9, 12)])) (by kernel_rfl)) (Mp.sq (c := (Mp.sn (Mp.sn (Mp.sn (Mp.sn Mp.newBody))))) (p := (.seq (.seq (.reg p11_9) (.seq (.reg p11_10) (.cond (.tmp 46) (.seq (.reg p11_11) .ret) .skip))) c11_2)) (c1 := Mp.fs (Mp.sn (Mp.sn (Mp.sn (Mp.sn Mp.newBody))))) (c2 := Mp.sn (Mp.sn (Mp.sn (Mp.sn (Mp.sn Mp.newBody))))) (p1 := (.seq (.reg p11_9) (.seq (.reg p11_10) (.cond (.tmp 46) (.seq (.reg p11_11) .ret) .skip)))) (p2 := c11_2) (by kernel_rfl) (by kernel_rfl) (Refines.code (br := brs) (c := (Mp.fs (Mp.sn (Mp.sn (Mp.sn (Mp.sn Mp.newBody)))))) (p := (.seq (.reg p11_9) (.seq (.reg p11_10) (.cond (.tmp 46) (.seq (.reg p11_11) .ret) .skip)))) (by kernel_rfl)) (Mp.kp (p := c11_2) (q := (.seq (.seq (.reg p11_12) (.seq (.reg p11_13) (.cond (.tmp 55) (.seq (.reg p11_14) .ret) .skip))) c11_1)) (L := [3, 10, 14]) (B := [(88, .id 88), (120, .id 120), (192, .id 192), (193, .id 193), (264, .id 264), (288, .id 288)]) (A := []) (by kernel_rfl) (Mp.sq (c := (Mp.sn (Mp.sn (Mp.sn (Mp.sn (Mp.sn Mp.newBody)))))) (p := (.seq (.seq (.reg p11_12) (.seq (.reg p11_13) (.cond (.tmp 55) (.seq (.reg p11_14) .ret) .skip))) c11_1)) (c1 := Mp.fs (Mp.sn (Mp.sn (Mp.sn (Mp.sn (Mp.sn Mp.newBody)))))) (c2 := Mp.sn (Mp.sn (Mp.sn (Mp.sn (Mp.sn (Mp.sn Mp.newBody)))))) (p1 := (.seq (.reg p11_12) (.seq (.reg p11_13) (.cond (.tmp 55) (.seq (.reg p11_14) .ret) .skip)))) (p2 := c11_1) (by kernel_rfl) (by kernel_rfl) (Refines.code (br := brs) (c := (Mp.fs (Mp.sn (Mp.sn (Mp.sn (Mp.sn (Mp.sn Mp.newBody))))))) (p := (.seq (.reg p11_12) (.seq (.reg p11_13) (.cond (.tmp 55) (.seq (.reg p11_14) .ret) .skip)))) (by kernel_rfl)) (Mp.kp (p := c11_1) (q := (.seq (.reg p11_15) (.seq (.reg p11_16) .ret))) (L := [10, 14]) (B := [(88, .id 88), (120, .id 120), (192, .id 192), (193, .id 193), (264, .id 264), (288, .id 288)]) (A := []) (by kernel_rfl) (Mp.sq (c := (Mp.sn (Mp.sn (Mp.sn (Mp.sn (Mp.sn (Mp.sn Mp.newBody))))))) (p := (.seq (.reg p11_15) (.seq (.reg p11_16) .ret))) (c1 := Mp.fs (Mp.sn (Mp.sn (Mp.sn (Mp.sn (Mp.sn (Mp.sn Mp.newBody))))))) (c2 := Mp.sn (Mp.sn (Mp.sn (Mp.sn (Mp.sn (Mp.sn (Mp.sn Mp.newBody))))))) (p1 := (.reg p11_15)) (p2 := (.seq (.reg p11_16) .ret)) (by kernel_rfl) (by kernel_rfl) (Mp.rq (p := (.reg p11_15)) (q := Mp.pL) (by kernel_rfl) Mp.ref_L) (Refines.code (br := brs) (c := (Mp.sn (Mp.sn (Mp.sn (Mp.sn (Mp.sn (Mp.sn (Mp.sn Mp.newBody)))))))) (p := (.seq (.reg p11_16) .ret)) (by kernel_rfl))))))))))))
def p6_1 : LP := [po 5 (.box 8 (tm 2)), po 6 (.alloc q4_), po 7 (.mov (ki 0))]
def p6_2 : LP := [pm 8 0, pm 9 1, po 10 (.bsl 9 1 1 [(1, (.string ⟨#[]⟩))] [(0, (1, (.const (.string ⟨#[88, 84, 69, 82, 77]⟩))))]), po 11 (lt 8 5), po 12 (.callf 11 [(tm 8), (tm 9), (tm 10), (.const (.slice .none 0 0)), (tm 11)]), po 13 (.ext (tm 12) 0), po 14 (.ext (tm 12) 1), pS 613 6 13, pm 7 14]
def c6_b : PCode := (.seq (.reg p6_1) (.seq (.reg p6_2) .ret))
def c6 : FCode := ⟨15, c6_b, [(.cell 6 .true 613), (.tmp 7)], some ([6, 7], [(56, .id 56), (104, .id 104), (105, .id 105), (106, .id 106), (107, .id 107)], []), false⟩
theorem c6_ok : compF Go.Proofs.Tryz.prog brs 6 = some (eraseF c6) := by kernel_rfl
def p17_1 : LP := [po 2 (.alloc q36_)]
def p17_2 : LP := [pm 3 0, po 4 (.build q36_ [(0, (1, (ki 1))), (1, (1, (tm 3)))]), pS 16 2 4]
def c17_b : PCode := (.seq (.reg p17_1) (.seq (.reg p17_2) .ret))
def c17 : FCode := ⟨5, c17_b, [(.cell 2 .true 16)], some ([2], [(24, .id 24)], [.cell 24 10 0 0 1]), false⟩
theorem c17_ok : compF Go.Proofs.Tryz.prog brs 17 = some (eraseF c17) := by kernel_rfl
def p52_2 : LP := [po 1 (.box 5 (tm 0)), po 2 (.mov (ki 0))]
def p52_3 : LP := [po 5 (fd 0 1), po 6 (lf 1 5), po 7 (ck 6 4), pm 8 7, pf 9 8 (fd 0 1), pf 10 8 (lf 1 9), pf 11 8 (ck 10 5), po 12 (.pick (tm 8) (.const (.bool .true)) (tm 11)), pm 3 12]
def p52_4 : LP := [po 13 (fd 0 1), po 14 (lf 1 13), po 15 (.cmpI .geq (tm 14) (ki 0)), pm 16 15, pg 17 16 (fd 0 1), pg 18 16 (lf 1 17), pg 19 16 (.cmpI .leq (tm 18) (ki 5)), po 20 (.pick (tm 16) (tm 19) (.const (.bool .false))), pm 4 20]
def p52_5 : LP := [po 21 (fd 0 1), po 22 (lf 1 21), po 23 (ck 22 2)]
def p52_6 : LP := [pm 24 4, pm 25 24, pg 26 25 (fd 1 1), pg 27 25 (lf 1 26), pg 28 25 (.cmpI .geq (tm 27) (ki 251)), po 29 (.pick (tm 25) (tm 28) (.const (.bool .false))), pm 30 29, pg 31 30 (fd 1 1), pg 32 30 (lf 1 31), pg 33 30 (.cmpI .leq (tm 32) (ki 254)), po 34 (.pick (tm 30) (tm 33) (.const (.bool .false))), pm 4 34]
def p52_7 : LP := [pm 35 4, pm 36 35, pg 37 36 (fd 1 1), pg 38 36 (lf 1 37), pg 39 36 (ck 38 0), po 40 (.pick (tm 36) (tm 39) (.const (.bool .false))), pm 4 40]
def p52_8 : LP := [pm 41 3]
def p52_9 : LP := [pm 42 4, pm 43 42, pg 44 43 (fd 2 1), pg 45 43 (lf 1 44), pg 46 43 (.cmpI .geq (tm 45) (ki 0)), po 47 (.pick (tm 43) (tm 46) (.const (.bool .false))), pm 48 47, pg 49 48 (fd 2 1), pg 50 48 (lf 1 49), pg 51 48 (.cmpI .leq (tm 50) (ki 255)), po 52 (.pick (tm 48) (tm 51) (.const (.bool .false))), pm 53 52, pg 54 53 (fd 3 1), pg 55 53 (lf 1 54), pg 56 53 (.len .true (tm 55)), pg 57 53 (.cmpI .leq (tm 56) (ki 4096)), po 58 (.pick (tm 53) (tm 57) (.const (.bool .false))), pm 59 58, pg 60 59 (fd 4 1), pg 61 59 (lf 1 60), pg 62 59 (.un .not (tm 61)), pg 63 59 (.mov (tm 62)), pf 64 63 (fd 3 1), pf 65 63 (lf 1 64), pf 66 63 (.strO .eql (tm 65) (.const (.string ⟨#[]⟩))), pg 67 59 (.pick (tm 63) (.const (.bool .true)) (tm 66)), po 68 (.pick (tm 59) (tm 67) (.const (.bool .false))), pm 4 68]
def p52_10 : LP := [pm 69 4, pm 70 69, pg 71 70 (fd 2 1), pg 72 70 (lf 1 71), pg 73 70 (ck 72 0), po 74 (.pick (tm 70) (tm 73) (.const (.bool .false))), pm 75 74, pg 76 75 (fd 3 1), pg 77 75 (lf 1 76), pg 78 75 (.strO .eql (tm 77) (.const (.string ⟨#[]⟩))), po 79 (.pick (tm 75) (tm 78) (.const (.bool .false))), pm 80 79, pg 81 80 (fd 4 1), pg 82 80 (lf 1 81), pg 83 80 (.un .not (tm 82)), po 84 (.pick (tm 80) (tm 83) (.const (.bool .false))), pm 4 84]
def p52_11 : LP := [pm 85 4, po 86 (.un .not (tm 85))]
def p52_12 : LP := [po 2 (.mov (ki 4))]
def p52_13 : LP := [po 2 (.mov (ki 0))]
def c52_1 : PCode := (.keep [1, 3, 4] [(16, .id 16)] [] (.seq (.seq (.reg p52_8) (.cond (.tmp 41) (.reg p52_9) (.reg p52_10))) (.seq (.seq (.reg p52_11) (.cond (.tmp 86) (.seq (.reg p52_12) .ret) .skip)) (.seq (.reg p52_13) .ret))))
def c52_b : PCode := (.seq (.reg p52_2) (.seq (.reg p52_3) (.seq (.reg p52_4) (.seq (.seq (.reg p52_5) (.cond (.tmp 23) (.reg p52_6) (.reg p52_7))) c52_1))))
def c52 : FCode := ⟨87, c52_b, [(.tmp 2)], some ([2], [], []), false⟩
theorem c52_ok : compF Go.Proofs.Tryz.prog brs 52 = some (eraseF c52) := by kernel_rfl
def p53_1 : LP := [po 2 (.mov (ki 0))]
def p53_2 : LP := [pm 5 0, po 6 (.strO .eql (tm 5) (.const (.string ⟨#[]⟩)))]
def p53_3 : LP := [po 2 (.mov (ki 0))]
def p53_4 : LP := [pm 8 0, po 9 (c1 94 8), pm 7 9, po 10 (.ext (tm 7) 0), po 11 (.ext (tm 7) 1), pm 3 10, pm 4 11]
def p53_5 : LP := [pm 12 4, pm 13 12, pf 14 13 (.mov (tm 3)), pf 15 13 (.mov (tm 0)), pf 16 13 (.len .true (tm 15)), pf 17 13 (.cmpI .neq (tm 14) (tm 16)), po 18 (.pick (tm 13) (.const (.bool .true)) (tm 17))]
def p53_6 : LP := [po 2 (.mov (ki 4))]
def p53_7 : LP := [po 2 (.mov (ki 0))]
def c53_8 : PCode := (.seq (.reg p53_1) (.seq (.seq (.reg p53_2) (.cond (.tmp 6) (.seq (.reg p53_3) .ret) .skip)) (.seq (.seq (.reg p53_4) (.seq (.reg p53_5) (.cond (.tmp 18) (.seq (.reg p53_6) .ret) .skip))) (.seq (.reg p53_7) .ret))))
def c53_b : PCode := c53_8
def c53 : FCode := ⟨19, c53_b, [(.tmp 2)], some ([2], [], []), false⟩
theorem c53_ok : compF Go.Proofs.Tryz.prog brs 53 = some (eraseF c53) := by kernel_rfl
def p95_11 : LP := [po 2 (.nilS 3 1), po 3 (.mov (ki 0))]
def p95_12 : LP := [pm 10 0, po 11 (.call 154 [(tm 10), (.const (.string ⟨#[48, 49, 50, 51, 52, 53, 54, 55, 56, 57, 59]⟩))]), po 12 (.strO .neq (tm 11) (.const (.string ⟨#[]⟩)))]
def p95_13 : LP := [po 2 (.nilS 3 1), po 3 (.mov (ki 4))]
def p95_14 : LP := [pm 13 0, po 14 (.len .true (tm 13)), po 15 (.mov (ki 0))]
def p95_15 : LP := [po 16 (.cmpI .lss (tm 15) (tm 14))]
def p95_16 : LP := [pm 17 15, pm 4 17]
def p95_17 : LP := [pm 18 0, pm 19 4, po 20 (.ixStr (tm 18) (tm 19)), po 21 (.cmpI .neq (tm 20) (.const (.int .u8 59))), pm 22 21, pg 23 22 (.mov (tm 0)), pg 24 22 (.mov (tm 4)), pg 25 22 (.ixStr (tm 23) (tm 24)), pg 26 22 (.cmpI .lss (tm 25) (.const (.int .u8 48))), pg 27 22 (.mov (tm 26)), pf 28 27 (.mov (tm 0)), pf 29 27 (.mov (tm 4)), pf 30 27 (.ixStr (tm 28) (tm 29)), pf 31 27 (.cmpI .gtr (tm 30) (.const (.int .u8 57))), pg 32 22 (.pick (tm 27) (.const (.bool .true)) (tm 31)), po 33 (.pick (tm 22) (tm 32) (.const (.bool .false)))]
def p95_18 : LP := [po 2 (.nilS 3 1), po 3 (.mov (ki 4))]
def p95_19 : LP := [po 34 (.arI .add (tm 15) (ki 1)), pm 15 34]
def c95_7 : PCode := (.keep [0, 14, 15] [] [] (.seq (.block 1 (.seq (.reg p95_16) (.seq (.reg p95_17) (.cond (.tmp 33) (.seq (.reg p95_18) .ret) .skip)))) (.reg p95_19)))
def c95_8 : PCode := (.keep [0, 14, 15, 16] [] [] (.seq (.cond (.tmp 16) .skip (.keep [0] [] [] (.exit 0))) c95_7))
def c95_9 : PCode := (.keep [0, 14, 15] [] [] (.seq (.reg p95_15) c95_8))
def p95_20 : LP := [po 5 (.nilS 3 1)]
def p95_21 : LP := [pm 35 0, po 36 (.call 155 [(tm 35), (.const (.string ⟨#[59]⟩))]), po 37 (.len .false (tm 36)), po 38 (.mov (ki 0))]
def p95_22 : LP := [po 39 (.cmpI .lss (tm 38) (tm 37))]
def p95_23 : LP := [po 40 (.ixS 9 1 (tm 36) (tm 38)), po 41 (lf 1 40), pm 7 41]
def p95_24 : LP := [pm 42 5, po 43 (.len .false (tm 42)), po 44 (ck 43 32)]
def p95_25 : LP := [po 8 (.mov (ki (-1)))]
def p95_26 : LP := [pm 45 7, po 46 (.len .true (tm 45)), po 47 (.mov (ki 0))]
def p95_27 : LP := [po 48 (.cmpI .lss (tm 47) (tm 46))]
def p95_28 : LP := [pm 49 47, pm 9 49]
def p95_29 : LP := [pm 50 8, po 51 (.mx [(tm 50), (ki 0)]), po 52 (.arI .mul (tm 51) (ki 10)), pm 53 7, pm 54 9, po 55 (.ixStr (tm 53) (tm 54)), po 56 (.arI .sub (tm 55) (.const (.int .u8 48))), po 57 (.cvI .i64 (tm 56)), po 58 (.arI .add (tm 52) (tm 57)), po 59 (.mn [(tm 58), (ki 16383)]), pm 8 59]
def p95_30 : LP := [po 60 (.arI .add (tm 47) (ki 1)), pm 47 60]
def p95_31 : LP := [pm 61 5, pm 62 8, po 63 (.bsl 3 1 1 [(1, (.int .i64 0))] [(0, (1, (tm 62)))]), po 64 (.app 3 1 8 (tm 61) (tm 63)), pm 5 64]
def c95_1 : PCode := (.keep [5, 7, 36, 37, 38] [(48, .id 48)] [] (.seq (.reg p95_25) (.seq (.seq (.reg p95_26) (.block 4 (.loop (.seq (.reg p95_27) (.seq (.cond (.tmp 48) .skip (.exit 4)) (.seq (.block 5 (.seq (.reg p95_28) (.reg p95_29))) (.reg p95_30))))))) (.reg p95_31))))
def p95_32 : LP := [po 65 (.arI .add (tm 38) (ki 1)), pm 38 65]
def c95_2 : PCode := (.reg p95_32)
def c95_3 : PCode := (.keep [5, 36, 37, 38] [(48, .id 48)] [] (.seq (.block 3 (.seq (.reg p95_23) (.seq (.seq (.reg p95_24) (.cond (.tmp 44) (.exit 2) .skip)) c95_1))) c95_2))
def c95_4 : PCode := (.keep [5, 36, 37, 38, 39] [(48, .id 48)] [] (.seq (.cond (.tmp 39) .skip (.keep [5] [(48, .id 48)] [] (.exit 2))) c95_3))
def c95_5 : PCode := (.keep [5, 36, 37, 38] [(48, .id 48)] [] (.seq (.reg p95_22) c95_4))
def p95_33 : LP := [pm 66 5, pm 2 66, po 3 (.mov (ki 0))]
def c95_6 : PCode := (.keep [0] [] [] (.seq (.reg p95_20) (.seq (.seq (.reg p95_21) (.block 2 (.loop c95_5))) (.seq (.reg p95_33) .ret))))
def c95_10 : PCode := (.keep [0] [] [] (.seq (.seq (.reg p95_14) (.block 0 (.loop c95_9))) c95_6))
def c95_b : PCode := (.seq (.reg p95_11) (.seq (.seq (.reg p95_12) (.cond (.tmp 12) (.seq (.reg p95_13) .ret) .skip)) c95_10))
def c95 : FCode := ⟨67, c95_b, [(.tmp 2), (.tmp 3)], some ([2, 3], [(48, .id 48)], []), false⟩
theorem c95_ok : compF Go.Proofs.Tryz.prog brs 95 = some (eraseF c95) := by kernel_rfl
def p96_1 : LP := [po 6 (.mov (.const (.bool .false)))]
def p96_2 : LP := [pm 7 0, pm 8 1, po 9 (.cmpI .geq (tm 7) (tm 8)), pm 10 9, pg 11 10 (.mov (tm 0)), pg 12 10 (.mov (tm 2)), pg 13 10 (.cmpI .leq (tm 11) (tm 12)), po 14 (.pick (tm 10) (tm 13) (.const (.bool .false))), pm 6 14]
def c96_b : PCode := (.seq (.reg p96_1) (.seq (.reg p96_2) .ret))
def c96 : FCode := ⟨15, c96_b, [(.tmp 6)], some ([6], [], []), false⟩
theorem c96_ok : compF Go.Proofs.Tryz.prog brs 96 = some (eraseF c96) := by kernel_rfl
def p97_4 : LP := [po 4 (.mov (.const (.bool .false)))]
def p97_5 : LP := [pm 6 0, po 7 (.len .true (tm 6)), po 8 (.mov (ki 0))]
def p97_6 : LP := [po 9 (.cmpI .lss (tm 8) (tm 7))]
def p97_7 : LP := [pm 10 8, pm 5 10]
def p97_8 : LP := [pm 11 0, pm 12 5, po 13 (.ixStr (tm 11) (tm 12)), po 14 (.cvI .i64 (tm 13)), po 15 (.call 96 [(tm 14), (ki 32), (ki 47)]), po 16 (.un .not (tm 15))]
def p97_9 : LP := [po 4 (.mov (.const (.bool .false)))]
def p97_10 : LP := [po 17 (.arI .add (tm 8) (ki 1)), pm 8 17]
def c97_1 : PCode := (.keep [0, 1, 7, 8] [] [] (.seq (.block 1 (.seq (.reg p97_7) (.seq (.reg p97_8) (.cond (.tmp 16) (.seq (.reg p97_9) .ret) .skip)))) (.reg p97_10)))
def c97_2 : PCode := (.keep [0, 1, 7, 8, 9] [] [] (.seq (.cond (.tmp 9) .skip (.keep [0, 1] [] [] (.exit 0))) c97_1))
def c97_3 : PCode := (.keep [0, 1, 7, 8] [] [] (.seq (.reg p97_6) c97_2))
def p97_11 : LP := [pm 18 0, po 19 (.len .true (tm 18)), pm 20 1, po 21 (.cmpI .leq (tm 19) (tm 20)), pm 4 21]
def c97_b : PCode := (.seq (.reg p97_4) (.seq (.seq (.reg p97_5) (.block 0 (.loop c97_3))) (.seq (.reg p97_11) .ret)))
def c97 : FCode := ⟨22, c97_b, [(.tmp 4)], some ([4], [], []), false⟩
theorem c97_ok : compF Go.Proofs.Tryz.prog brs 97 = some (eraseF c97) := by kernel_rfl
def p54_2 : LP := [po 1 (.box 5 (tm 0)), po 2 (.mov (ki 0))]
def p54_3 : LP := [po 7 (fd 0 1), po 8 (lf 1 7), po 9 (ck 8 2), pm 10 9, pf 11 10 (fd 0 1), pf 12 10 (lf 1 11), pf 13 10 (ck 12 5), po 14 (.pick (tm 10) (.const (.bool .true)) (tm 13)), pm 3 14]
def p54_4 : LP := [po 16 (fd 3 1), po 17 (lf 1 16), po 18 (c1 95 17), pm 15 18, po 19 (.ext (tm 15) 0), po 20 (.ext (tm 15) 1), pm 4 19, pm 5 20]
def p54_5 : LP := [po 21 (fd 0 1), po 22 (lf 1 21), po 23 (.call 96 [(tm 22), (ki 0), (ki 10)]), pm 6 23]
def p54_6 : LP := [pm 24 6, pm 25 24, pg 26 25 (fd 1 1), pg 27 25 (lf 1 26), pg 28 25 (ck 27 0), pg 29 25 (.mov (tm 28)), pf 30 29 (fd 1 1), pf 31 29 (lf 1 30), pf 32 29 (.call 96 [(tm 31), (ki 60), (ki 63)]), pf 33 29 (.mov (tm 32)), pg 34 33 (fd 0 1), pg 35 33 (lf 1 34), pg 36 33 (ck 35 4), pg 37 33 (.mov (tm 36)), pf 38 37 (fd 0 1), pf 39 37 (lf 1 38), pf 40 37 (ck 39 5), pg 41 33 (.pick (tm 37) (.const (.bool .true)) (tm 40)), pf 42 29 (.pick (tm 33) (tm 41) (.const (.bool .false))), pg 43 25 (.pick (tm 29) (.const (.bool .true)) (tm 42)), po 44 (.pick (tm 25) (tm 43) (.const (.bool .false))), pm 6 44]
def p54_7 : LP := [pm 45 6, pm 46 45, pg 47 46 (fd 2 1), pg 48 46 (lf 1 47), pg 49 46 (.call 97 [(tm 48), (ki 3)]), po 50 (.pick (tm 46) (tm 49) (.const (.bool .false))), pm 51 50, pg 52 51 (fd 2 1), pg 53 51 (lf 1 52), pg 54 51 (.strO .neq (tm 53) (.const (.string ⟨#[]⟩))), pg 55 51 (.mov (tm 3)), pg 56 51 (.eqB .false (tm 54) (tm 55)), po 57 (.pick (tm 51) (tm 56) (.const (.bool .false))), pm 6 57]
def p54_8 : LP := [pm 58 6, pm 59 58, pg 60 59 (.mov (tm 5)), pg 61 59 (ck 60 0), po 62 (.pick (tm 59) (tm 61) (.const (.bool .false))), pm 63 62, pg 64 63 (fd 3 1), pg 65 63 (lf 1 64), pg 66 63 (.len .true (tm 65)), pg 67 63 (.cmpI .leq (tm 66) (ki 100)), po 68 (.pick (tm 63) (tm 67) (.const (.bool .false))), pm 69 68, pg 70 69 (fd 3 1), pg 71 69 (lf 1 70), pg 72 69 (.strO .eql (tm 71) (.const (.string ⟨#[]⟩))), pg 73 69 (.mov (tm 72)), pf 74 73 (fd 0 1), pf 75 73 (lf 1 74), pf 76 73 (ck 75 4), pg 77 69 (.pick (tm 73) (.const (.bool .true)) (tm 76)), pg 78 69 (.mov (tm 77)), pf 79 78 (fd 0 1), pf 80 78 (lf 1 79), pf 81 78 (ck 80 5), pg 82 69 (.pick (tm 78) (.const (.bool .true)) (tm 81)), po 83 (.pick (tm 69) (tm 82) (.const (.bool .false))), pm 6 83]
def p54_9 : LP := [pm 84 6, pm 85 84, pg 86 85 (fd 4 1), pg 87 85 (lf 1 86), pg 88 85 (.len .true (tm 87)), pg 89 85 (.cmpI .leq (tm 88) (ki 256)), po 90 (.pick (tm 85) (tm 89) (.const (.bool .false))), pm 91 90, pg 92 91 (fd 4 1), pg 93 91 (lf 1 92), pg 94 91 (.strO .eql (tm 93) (.const (.string ⟨#[]⟩))), pg 95 91 (.mov (tm 94)), pf 96 95 (fd 0 1), pf 97 95 (lf 1 96), pf 98 95 (ck 97 7), pg 99 91 (.pick (tm 95) (.const (.bool .true)) (tm 98)), pg 100 91 (.mov (tm 99)), pf 101 100 (fd 0 1), pf 102 100 (lf 1 101), pf 103 100 (ck 102 8), pg 104 91 (.pick (tm 100) (.const (.bool .true)) (tm 103)), po 105 (.pick (tm 91) (tm 104) (.const (.bool .false))), pm 6 105]
def p54_10 : LP := [pm 106 6, po 107 (.un .not (tm 106))]
def p54_11 : LP := [po 2 (.mov (ki 4))]
def p54_12 : LP := [po 2 (.mov (ki 0))]
def c54_1 : PCode := (.keep [1, 5, 6] [(16, .id 16)] [] (.seq (.reg p54_8) (.seq (.reg p54_9) (.seq (.seq (.reg p54_10) (.cond (.tmp 107) (.seq (.reg p54_11) .ret) .skip)) (.seq (.reg p54_12) .ret)))))
def c54_b : PCode := (.seq (.reg p54_2) (.seq (.reg p54_3) (.seq (.reg p54_4) (.seq (.reg p54_5) (.seq (.reg p54_6) (.seq (.reg p54_7) c54_1))))))
def c54 : FCode := ⟨108, c54_b, [(.tmp 2)], some ([2], [], []), false⟩
theorem c54_ok : compF Go.Proofs.Tryz.prog brs 54 = some (eraseF c54) := by kernel_rfl
def p38_1 : LP := [po 2 (.box 3 (tm 0)), po 4 (.nilS 100 4)]
def p38_2 : LP := [po 5 (fd 2 2), po 6 (lf 1 5), pm 7 1, po 8 (fd 0 2), po 9 (lf 1 8), po 10 (.arI .mul (tm 7) (tm 9)), pm 11 1, po 12 (.arI .add (tm 11) (ki 1)), po 13 (fd 0 2), po 14 (lf 1 13), po 15 (.arI .mul (tm 12) (tm 14)), po 16 (.slS 100 4 (tm 6) (.some (tm 10)) (.some (tm 15))), pm 4 16]
def c38_b : PCode := (.seq (.reg p38_1) (.seq (.reg p38_2) .ret))
def c38 : FCode := ⟨17, c38_b, [(.tmp 4)], some ([4, 2000000], [(0, .id 0)], []), false⟩
theorem c38_ok : compF Go.Proofs.Tryz.prog brs 38 = some (eraseF c38) := by kernel_rfl
def p194_4 : LP := [po 4 (.mov (.const (.bool .false)))]
def p194_5 : LP := [pm 7 1, po 8 (.len .false (tm 7)), po 9 (.mov (ki 0))]
def p194_6 : LP := [po 10 (.cmpI .lss (tm 9) (tm 8))]
def p194_7 : LP := [po 11 (.ixS 39 2 (tm 7) (tm 9)), po 12 (lt 2 11), po 6 (.alloc [(2, (.int .i64 0))]), pS 2 6 12]
def p194_8 : LP := [pm 13 0, po 14 (.ixA 2 1 (tm 6) (ki 0)), po 15 (lf 1 14), po 16 (.cmpI .geq (tm 13) (tm 15)), pm 17 16, pg 18 17 (.mov (tm 0)), pg 19 17 (.ixA 2 1 (tm 6) (ki 1)), pg 20 17 (lf 1 19), pg 21 17 (.cmpI .leq (tm 18) (tm 20)), po 22 (.pick (tm 17) (tm 21) (.const (.bool .false)))]
def p194_9 : LP := [po 4 (.mov (.const (.bool .true)))]
def p194_10 : LP := [po 23 (.arI .add (tm 9) (ki 1)), pm 9 23]
def c194_1 : PCode := (.keep [0, 7, 8, 9] [] [] (.seq (.block 1 (.seq (.reg p194_7) (.seq (.reg p194_8) (.cond (.tmp 22) (.seq (.reg p194_9) .ret) .skip)))) (.reg p194_10)))
def c194_2 : PCode := (.keep [0, 7, 8, 9, 10] [] [] (.seq (.cond (.tmp 10) .skip (.keep [] [] [] (.exit 0))) c194_1))
def c194_3 : PCode := (.keep [0, 7, 8, 9] [] [] (.seq (.reg p194_6) c194_2))
def p194_11 : LP := [po 4 (.mov (.const (.bool .false)))]
def c194_b : PCode := (.seq (.reg p194_4) (.seq (.seq (.reg p194_5) (.block 0 (.loop c194_3))) (.seq (.reg p194_11) .ret)))
def c194 : FCode := ⟨24, c194_b, [(.tmp 4)], some ([4], [], []), false⟩
theorem c194_ok : compF Go.Proofs.Tryz.prog brs 194 = some (eraseF c194) := by kernel_rfl
def p146_3 : LP := [po 2 (.mov (ki 0))]
def p146_4 : LP := [po 5 (.build [(2, (.int .i64 0))] [(0, (1, (ki 0))), (1, (1, (ki 31)))]), po 6 (.build [(2, (.int .i64 0))] [(0, (1, (ki 127))), (1, (1, (ki 159)))]), po 7 (.build [(2, (.int .i64 0))] [(0, (1, (ki 768))), (1, (1, (ki 879)))]), po 8 (.build [(2, (.int .i64 0))] [(0, (1, (ki 8203))), (1, (1, (ki 8207)))]), po 9 (.build [(2, (.int .i64 0))] [(0, (1, (ki 55296))), (1, (1, (ki 57343)))]), po 10 (.build [(2, (.int .i64 0))] [(0, (1, (ki 65024))), (1, (1, (ki 65039)))]), po 11 (.build [(12, (.int .i64 0))] [(0, (2, (tm 5))), (2, (2, (tm 6))), (4, (2, (tm 7))), (6, (2, (tm 8))), (8, (2, (tm 9))), (10, (2, (tm 10)))]), po 3 (.alloc [(12, (.int .i64 0))]), pS 12 3 11]
def p146_5 : LP := [po 12 (.build [(2, (.int .i64 0))] [(0, (1, (ki 4352))), (1, (1, (ki 4447)))]), po 13 (.build [(2, (.int .i64 0))] [(0, (1, (ki 11904))), (1, (1, (ki 12350)))]), po 14 (.build [(2, (.int .i64 0))] [(0, (1, (ki 12353))), (1, (1, (ki 19903)))]), po 15 (.build [(2, (.int .i64 0))] [(0, (1, (ki 19968))), (1, (1, (ki 42191)))]), po 16 (.build [(2, (.int .i64 0))] [(0, (1, (ki 44032))), (1, (1, (ki 55203)))]), po 17 (.build [(2, (.int .i64 0))] [(0, (1, (ki 63744))), (1, (1, (ki 64255)))]), po 18 (.build [(2, (.int .i64 0))] [(0, (1, (ki 65072))), (1, (1, (ki 65135)))]), po 19 (.build [(2, (.int .i64 0))] [(0, (1, (ki 65280))), (1, (1, (ki 65376)))]), po 20 (.build [(2, (.int .i64 0))] [(0, (1, (ki 65504))), (1, (1, (ki 65510)))]), po 21 (.build [(2, (.int .i64 0))] [(0, (1, (ki 127744))), (1, (1, (ki 128591)))]), po 22 (.build [(2, (.int .i64 0))] [(0, (1, (ki 129280))), (1, (1, (ki 129535)))]), po 23 (.build [(2, (.int .i64 0))] [(0, (1, (ki 131072))), (1, (1, (ki 262141)))]), po 24 (.build [(24, (.int .i64 0))] [(0, (2, (tm 12))), (2, (2, (tm 13))), (4, (2, (tm 14))), (6, (2, (tm 15))), (8, (2, (tm 16))), (10, (2, (tm 17))), (12, (2, (tm 18))), (14, (2, (tm 19))), (16, (2, (tm 20))), (18, (2, (tm 21))), (20, (2, (tm 22))), (22, (2, (tm 23)))]), po 4 (.alloc [(24, (.int .i64 0))]), pS 24 4 24]
def p146_6 : LP := [pm 26 0, po 27 (.cmpI .lss (tm 26) (ki 0)), pm 28 27, pf 29 28 (.mov (tm 0)), pf 30 28 (.cmpI .gtr (tm 29) (ki 1114111)), po 31 (.pick (tm 28) (.const (.bool .true)) (tm 30)), pm 32 31, pf 33 32 (.mov (tm 0)), pf 34 32 (.slA 6 2 (tm 3) .none .none), pf 35 32 (.call 194 [(tm 33), (tm 34)]), po 36 (.pick (tm 32) (.const (.bool .true)) (tm 35)), pm 25 36]
def p146_7 : LP := [po 2 (.mov (ki 0))]
def p146_8 : LP := [pm 38 0, po 39 (.slA 12 2 (tm 4) .none .none), po 40 (.call 194 [(tm 38), (tm 39)]), pm 37 40]
def p146_9 : LP := [po 2 (.mov (ki 2))]
def c146_1 : PCode := (.keep [0, 4, 25] [(40, .id 40)] [] (.cond (.tmp 25) (.seq (.reg p146_7) .ret) (.seq (.reg p146_8) (.cond (.tmp 37) (.seq (.reg p146_9) .ret) .skip))))
def p146_10 : LP := [po 2 (.mov (ki 1))]
def c146_2 : PCode := (.seq (.reg p146_10) .ret)
def c146_b : PCode := (.seq (.reg p146_3) (.seq (.reg p146_4) (.seq (.reg p146_5) (.seq (.block 0 (.seq (.reg p146_6) c146_1)) c146_2))))
def c146 : FCode := ⟨41, c146_b, [(.tmp 2)], some ([2], [], []), false⟩
theorem c146_ok : compF Go.Proofs.Tryz.prog brs 146 = some (eraseF c146) := by kernel_rfl
def p195_1 : LP := [po 3 (.mov (.const (.bool .false)))]
def p195_2 : LP := [pm 4 0, po 5 (lf 1 1), po 6 (.len .false (tm 5)), po 7 (.cmpI .lss (tm 4) (tm 6)), pm 8 7, pg 9 8 (lf 1 1), pg 10 8 (.mov (tm 0)), pg 11 8 (.ixS 100 4 (tm 9) (tm 10)), pg 12 8 (fd 0 11), pg 13 8 (lf 1 12), pg 14 8 (ck 13 0), po 15 (.pick (tm 8) (tm 14) (.const (.bool .false))), pm 16 15, pg 17 16 (lf 1 1), pg 18 16 (.mov (tm 0)), pg 19 16 (.ixS 100 4 (tm 17) (tm 18)), pg 20 16 (fd 1 19), pg 21 16 (lt 3 20), pg 22 16 (lf 1 1), pg 23 16 (.mov (tm 0)), pg 24 16 (.arI .sub (tm 23) (ki 1)), pg 25 16 (.ixS 100 4 (tm 22) (tm 24)), pg 26 16 (fd 1 25), pg 27 16 (lt 3 26), pg 28 16 (.eqA .false [(3, .int)] (tm 21) (tm 27)), po 29 (.pick (tm 16) (tm 28) (.const (.bool .false))), pm 3 29]
def c195_b : PCode := (.seq (.reg p195_1) (.seq (.regD p195_2 []) .ret))
def c195 : FCode := ⟨30, c195_b, [(.tmp 3)], some ([3], [], []), false⟩
theorem c195_ok : compF Go.Proofs.Tryz.prog brs 195 = some (eraseF c195) := by kernel_rfl
def p147_2 : LP := [po 2 (.box 1 (tm 0)), po 4 (.mov (.const (.bool .false)))]
def p147_3 : LP := [po 6 (.mkF 195 [(tm 2)]), pm 5 6]
def p147_4 : LP := [po 7 (lf 1 2), pm 8 1, po 9 (.ixS 100 4 (tm 7) (tm 8)), po 10 (fd 0 9), po 11 (lf 1 10), po 12 (ck 11 0)]
def p147_5 : LP := [pm 13 1, po 14 (ck 13 0), pm 15 14, pf 16 15 (lf 1 2), pf 17 15 (.mov (tm 1)), pf 18 15 (.arI .sub (tm 17) (ki 1)), pf 19 15 (.ixS 100 4 (tm 16) (tm 18)), pf 20 15 (fd 0 19), pf 21 15 (lf 1 20), pf 22 15 (c1 146 21), pf 23 15 (.cmpI .neq (tm 22) (ki 2)), po 24 (.pick (tm 15) (.const (.bool .true)) (tm 23)), pm 25 24, pf 26 25 (.mov (tm 5)), pf 27 25 (.mov (tm 1)), pf 28 25 (.callv (tm 26) [(tm 27)]), pf 29 25 (.un .not (tm 28)), po 30 (.pick (tm 25) (.const (.bool .true)) (tm 29)), pm 4 30]
def p147_6 : LP := [po 31 (lf 1 2), pm 32 1, po 33 (.ixS 100 4 (tm 31) (tm 32)), po 34 (fd 0 33), po 35 (lf 1 34), po 36 (c1 146 35), po 37 (ck 36 2), pm 38 37, pg 39 38 (.mov (tm 5)), pg 40 38 (.mov (tm 1)), pg 41 38 (.arI .add (tm 40) (ki 1)), pg 42 38 (.callv (tm 39) [(tm 41)]), pg 43 38 (.un .not (tm 42)), po 44 (.pick (tm 38) (tm 43) (.const (.bool .false))), pm 4 44]
def c147_1 : PCode := (.keep [1, 2, 5] [(24, .id 24)] [] (.seq (.reg p147_6) .ret))
def c147_b : PCode := (.seq (.reg p147_2) (.seq (.reg p147_3) (.seq (.seq (.reg p147_4) (.cond (.tmp 12) (.seq (.reg p147_5) .ret) .skip)) c147_1)))
def c147 : FCode := ⟨45, c147_b, [(.tmp 4)], some ([4], [], []), false⟩
theorem c147_ok : compF Go.Proofs.Tryz.prog brs 147 = some (eraseF c147) := by kernel_rfl
def p83_9 : LP := [po 1 (.box 3 (tm 0)), po 2 (.mov (ki 0))]
def p83_10 : LP := [po 8 (fd 0 1), po 9 (lf 1 8), po 10 (fd 1 1), po 11 (lf 1 10), po 12 (.call 89 [(tm 9), (tm 11)]), pm 3 12]
def p83_11 : LP := [pm 13 3, po 14 (.cmpI .neq (tm 13) (ki 0))]
def p83_12 : LP := [pm 15 3, pm 2 15]
def p83_13 : LP := [po 16 (fd 2 1), po 17 (lf 1 16), po 18 (.len .false (tm 17)), po 19 (fd 0 1), po 20 (lf 1 19), po 21 (fd 1 1), po 22 (lf 1 21), po 23 (.arI .mul (tm 20) (tm 22)), po 24 (.cmpI .neq (tm 18) (tm 23))]
def p83_14 : LP := [po 2 (.mov (ki 4))]
def p83_15 : LP := [po 25 (fd 1 1), po 26 (lf 1 25), po 27 (.mov (ki 0))]
def p83_16 : LP := [po 28 (.cmpI .lss (tm 27) (tm 26))]
def p83_17 : LP := [pm 29 27, pm 4 29]
def p83_18 : LP := [po 30 (lt 3 1), pm 31 4, po 32 (.callr 38 [(tm 30), (tm 31)]), pm 5 32]
def p83_19 : LP := [pm 33 5, po 34 (.len .false (tm 33)), po 35 (.mov (ki 0))]
def p83_20 : LP := [po 36 (.cmpI .lss (tm 35) (tm 34))]
def p83_21 : LP := [pm 37 35, po 38 (.ixS 100 4 (tm 33) (tm 35)), po 39 (lt 4 38), po 7 (.alloc [(4, (.int .i64 0))]), pm 6 37, pS 4 7 39]
def p83_22 : LP := [po 40 (fd 1 7), po 41 (lt 3 40), po 42 (c1 84 41), po 43 (.cmpI .neq (tm 42) (ki 0)), pm 44 43, pf 45 44 (fd 0 7), pf 46 44 (lf 1 45), pf 47 44 (.cmpI .neq (tm 46) (ki 0)), pf 48 44 (.mov (tm 47)), pg 49 48 (fd 0 7), pg 50 48 (lf 1 49), pg 51 48 (c1 146 50), pg 52 48 (ck 51 0), pf 53 44 (.pick (tm 48) (tm 52) (.const (.bool .false))), po 54 (.pick (tm 44) (.const (.bool .true)) (tm 53)), pm 55 54, pf 56 55 (.mov (tm 5)), pf 57 55 (.mov (tm 6)), pf 58 55 (.call 147 [(tm 56), (tm 57)]), po 59 (.pick (tm 55) (.const (.bool .true)) (tm 58))]
def p83_23 : LP := [po 2 (.mov (ki 4))]
def p83_24 : LP := [po 60 (.arI .add (tm 35) (ki 1)), pm 35 60]
def c83_1 : PCode := (.keep [1, 5, 26, 27, 33, 34, 35] [(16, .id 16)] [] (.seq (.block 3 (.seq (.reg p83_21) (.seq (.reg p83_22) (.cond (.tmp 59) (.seq (.reg p83_23) .ret) .skip)))) (.reg p83_24)))
def c83_2 : PCode := (.keep [1, 5, 26, 27, 33, 34, 35, 36] [(16, .id 16)] [] (.seq (.cond (.tmp 36) .skip (.keep [1, 26, 27] [(16, .id 16)] [] (.exit 2))) c83_1))
def c83_3 : PCode := (.keep [1, 5, 26, 27, 33, 34, 35] [(16, .id 16)] [] (.seq (.reg p83_20) c83_2))
def p83_25 : LP := [po 61 (.arI .add (tm 27) (ki 1)), pm 27 61]
def c83_4 : PCode := (.keep [1, 26, 27] [(16, .id 16)] [] (.seq (.block 1 (.seq (.reg p83_17) (.seq (.reg p83_18) (.seq (.reg p83_19) (.block 2 (.loop c83_3)))))) (.reg p83_25)))
def c83_5 : PCode := (.keep [1, 26, 27, 28] [(16, .id 16)] [] (.seq (.cond (.tmp 28) .skip (.keep [] [] [] (.exit 0))) c83_4))
def c83_6 : PCode := (.keep [1, 26, 27] [(16, .id 16)] [] (.seq (.reg p83_16) c83_5))
def p83_26 : LP := [po 2 (.mov (ki 0))]
def c83_7 : PCode := (.keep [1] [(16, .id 16)] [] (.seq (.seq (.reg p83_15) (.block 0 (.loop c83_6))) (.seq (.reg p83_26) .ret)))
def c83_8 : PCode := (.keep [1] [(16, .id 16)] [] (.seq (.seq (.reg p83_13) (.cond (.tmp 24) (.seq (.reg p83_14) .ret) .skip)) c83_7))
def c83_b : PCode := (.seq (.reg p83_9) (.seq (.seq (.reg p83_10) (.seq (.reg p83_11) (.cond (.tmp 14) (.seq (.reg p83_12) .ret) .skip))) c83_8))
def c83 : FCode := ⟨62, c83_b, [(.tmp 2)], some ([2], [], []), false⟩
theorem c83_ok : compF Go.Proofs.Tryz.prog brs 83 = some (eraseF c83) := by kernel_rfl
def p98_1 : LP := [po 6 (.mov (.const (.bool .false)))]
def p98_2 : LP := [pm 7 0, pm 8 1, po 9 (.cmpI .geq (tm 7) (tm 8)), pm 10 9, pg 11 10 (.mov (tm 0)), pg 12 10 (.mov (tm 2)), pg 13 10 (.cmpI .leq (tm 11) (tm 12)), po 14 (.pick (tm 10) (tm 13) (.const (.bool .false))), pm 6 14]
def c98_b : PCode := (.seq (.reg p98_1) (.seq (.reg p98_2) .ret))
def c98 : FCode := ⟨15, c98_b, [(.tmp 6)], some ([6], [], []), false⟩
theorem c98_ok : compF Go.Proofs.Tryz.prog brs 98 = some (eraseF c98) := by kernel_rfl
def p99_1 : LP := [po 2 (.mov (.const (.bool .false)))]
def p99_2 : LP := [pm 3 0, po 4 (.cmpI .geq (tm 3) (ki 1)), pm 5 4, pg 6 5 (.mov (tm 0)), pg 7 5 (.cmpI .leq (tm 6) (ki 4)), po 8 (.pick (tm 5) (tm 7) (.const (.bool .false))), pm 2 8]
def c99_b : PCode := (.seq (.reg p99_1) (.seq (.reg p99_2) .ret))
def c99 : FCode := ⟨9, c99_b, [(.tmp 2)], some ([2], [], []), false⟩
theorem c99_ok : compF Go.Proofs.Tryz.prog brs 99 = some (eraseF c99) := by kernel_rfl
def p100_1 : LP := [po 2 (.mov (.const (.bool .false)))]
def p100_2 : LP := [pm 5 0, po 6 (.len .false (tm 5)), po 7 (.mov (ki 0))]
def p100_3 : LP := [po 8 (.cmpI .lss (tm 7) (tm 6))]
def p100_4 : LP := [po 9 (.ixS 91 1 (tm 5) (tm 7)), po 10 (lt 1 9), po 4 (.alloc [(1, (.slice .none 0 0))]), pS 1 4 10]
def p100_5 : LP := [po 11 (fd 0 4), po 12 (lf 1 11), po 13 (.len .false (tm 12)), po 14 (fd 0 4), po 15 (lf 1 14), po 16 (.build [(2, (.int .i64 0)), (1, (.slice .none 0 0))] [(0, (1, (tm 13))), (1, (1, (ki 1))), (2, (1, (tm 15)))]), po 17 (c1 83 16), po 18 (.cmpI .neq (tm 17) (ki 0))]
def p100_6 : LP := [po 2 (.mov (.const (.bool .false)))]
def p100_7 : LP := [po 19 (.arI .add (tm 7) (ki 1)), pm 7 19]
def c100_8 : PCode := (.block 0 (.loop (.seq (.reg p100_3) (.seq (.cond (.tmp 8) .skip (.exit 0)) (.seq (.block 1 (.seq (.reg p100_4) (.seq (.reg p100_5) (.cond (.tmp 18) (.seq (.reg p100_6) .ret) .skip)))) (.reg p100_7))))))
def p100_9 : LP := [pm 20 0, po 21 (.len .false (tm 20)), po 22 (.cmpI .leq (tm 21) (ki 40)), pm 2 22]
def c100_b : PCode := (.seq (.reg p100_1) (.seq (.seq (.reg p100_2) c100_8) (.seq (.reg p100_9) .ret)))
def c100 : FCode := ⟨23, c100_b, [(.tmp 2)], some ([2], [], []), false⟩
theorem c100_ok : compF Go.Proofs.Tryz.prog brs 100 = some (eraseF c100) := by kernel_rfl
def p55_6 : LP := [po 1 (.box 33 (tm 0)), po 2 (.mov (ki 0))]
def p55_7 : LP := [po 7 (fd 0 1), po 8 (lt 3 7), po 9 (fd 28 1), po 10 (lt 3 9), po 3 (.alloc [(2, (.int .i64 0)), (1, (.slice .none 0 0))]), po 4 (.alloc [(2, (.int .i64 0)), (1, (.slice .none 0 0))]), pS 3 3 8, pS 3 4 10]
def p55_8 : LP := [po 11 (lt 3 3), po 12 (c1 83 11), po 13 (ck 12 0), pm 14 13, pg 15 14 (lt 3 4), pg 16 14 (c1 83 15), pg 17 14 (ck 16 0), po 18 (.pick (tm 14) (tm 17) (.const (.bool .false))), pm 19 18, pg 20 19 (fd 0 3), pg 21 19 (lf 1 20), pg 22 19 (fd 0 4), pg 23 19 (lf 1 22), pg 24 19 (.cmpI .eql (tm 21) (tm 23)), po 25 (.pick (tm 19) (tm 24) (.const (.bool .false))), pm 26 25, pg 27 26 (fd 1 3), pg 28 26 (lf 1 27), pg 29 26 (fd 1 4), pg 30 26 (lf 1 29), pg 31 26 (.cmpI .eql (tm 28) (tm 30)), po 32 (.pick (tm 26) (tm 31) (.const (.bool .false))), pm 5 32]
def p55_9 : LP := [pm 33 5, pm 34 33, pg 35 34 (fd 3 1), pg 36 34 (lf 1 35), pg 37 34 (fd 1 3), pg 38 34 (lf 1 37), pg 39 34 (.arI .sub (tm 38) (ki 1)), pg 40 34 (.call 98 [(tm 36), (ki 0), (tm 39)]), po 41 (.pick (tm 34) (tm 40) (.const (.bool .false))), pm 42 41, pg 43 42 (fd 4 1), pg 44 42 (lf 1 43), pg 45 42 (fd 0 3), pg 46 42 (lf 1 45), pg 47 42 (.arI .sub (tm 46) (ki 1)), pg 48 42 (.call 98 [(tm 44), (ki 0), (tm 47)]), po 49 (.pick (tm 42) (tm 48) (.const (.bool .false))), pm 50 49, pg 51 50 (fd 5 1), pg 52 50 (lf 1 51), pg 53 50 (.un .not (tm 52)), pg 54 50 (.mov (tm 53)), pf 55 54 (fd 4 1), pf 56 54 (lf 1 55), pf 57 54 (fd 0 3), pf 58 54 (lf 1 57), pf 59 54 (.arI .sub (tm 58) (ki 1)), pf 60 54 (.cmpI .eql (tm 56) (tm 59)), pg 61 50 (.pick (tm 54) (.const (.bool .true)) (tm 60)), po 62 (.pick (tm 50) (tm 61) (.const (.bool .false))), pm 5 62]
def p55_10 : LP := [pm 63 5, pm 64 63, pg 65 64 (fd 6 1), pg 66 64 (lf 1 65), pg 67 64 (fd 7 1), pg 68 64 (lf 1 67), pg 69 64 (.arI .sub (tm 68) (ki 1)), pg 70 64 (.call 98 [(tm 66), (ki 0), (tm 69)]), po 71 (.pick (tm 64) (tm 70) (.const (.bool .false))), pm 72 71, pg 73 72 (fd 7 1), pg 74 72 (lf 1 73), pg 75 72 (fd 1 3), pg 76 72 (lf 1 75), pg 77 72 (.cmpI .leq (tm 74) (tm 76)), po 78 (.pick (tm 72) (tm 77) (.const (.bool .false))), pm 5 78]
def p55_11 : LP := [pm 79 5, pm 80 79, pg 81 80 (fd 8 1), pg 82 80 (lt 3 81), pg 83 80 (c1 84 82), pg 84 80 (ck 83 0), po 85 (.pick (tm 80) (tm 84) (.const (.bool .false))), pm 86 85, pg 87 86 (fd 19 1), pg 88 86 (fd 2 87), pg 89 86 (lt 3 88), pg 90 86 (c1 84 89), pg 91 86 (ck 90 0), po 92 (.pick (tm 86) (tm 91) (.const (.bool .false))), pm 93 92, pg 94 93 (fd 11 1), pg 95 93 (lf 1 94), pg 96 93 (.call 98 [(tm 95), (ki 0), (ki 2047)]), po 97 (.pick (tm 93) (tm 96) (.const (.bool .false))), pm 5 97]
def p55_12 : LP := [po 98 (.mov (ki 0))]
def p55_13 : LP := [po 99 (.cmpI .lss (tm 98) (ki 2))]
def p55_14 : LP := [pm 100 98, pm 6 100]
def p55_15 : LP := [pm 101 5, pm 102 101, pg 103 102 (.mov (tm 6)), pg 104 102 (fd 16 1), pg 105 102 (.ixA 2 1 (tm 104) (tm 103)), pg 106 102 (lf 1 105), pg 107 102 (c1 99 106), po 108 (.pick (tm 102) (tm 107) (.const (.bool .false))), pm 109 108, pg 110 109 (.mov (tm 6)), pg 111 109 (fd 19 1), pg 112 109 (fd 6 111), pg 113 109 (.ixA 2 1 (tm 112) (tm 110)), pg 114 109 (lf 1 113), pg 115 109 (c1 99 114), po 116 (.pick (tm 109) (tm 115) (.const (.bool .false))), pm 5 116]
def p55_16 : LP := [po 117 (.arI .add (tm 98) (ki 1)), pm 98 117]
def c55_2 : PCode := (.keep [1, 5, 98] [(16, .id 16)] [] (.seq (.block 1 (.seq (.reg p55_14) (.reg p55_15))) (.reg p55_16)))
def c55_3 : PCode := (.loop (.seq (.reg p55_13) (.seq (.cond (.tmp 99) .skip (.exit 0)) c55_2)))
def p55_17 : LP := [pm 118 5, pm 119 118, pg 120 119 (fd 18 1), pg 121 119 (lf 1 120), pg 122 119 (.call 98 [(tm 121), (ki 0), (ki 1)]), po 123 (.pick (tm 119) (tm 122) (.const (.bool .false))), pm 124 123, pg 125 124 (fd 19 1), pg 126 124 (fd 8 125), pg 127 124 (lf 1 126), pg 128 124 (.call 98 [(tm 127), (ki 0), (ki 1)]), po 129 (.pick (tm 124) (tm 128) (.const (.bool .false))), pm 5 129]
def p55_18 : LP := [pm 130 5, pm 131 130, pg 132 131 (fd 19 1), pg 133 131 (fd 0 132), pg 134 131 (lf 1 133), pg 135 131 (.call 98 [(tm 134), (ki 0), (ki 59)]), po 136 (.pick (tm 131) (tm 135) (.const (.bool .false))), pm 137 136, pg 138 137 (fd 19 1), pg 139 137 (fd 1 138), pg 140 137 (lf 1 139), pg 141 137 (.call 98 [(tm 140), (ki 0), (ki 159)]), po 142 (.pick (tm 137) (tm 141) (.const (.bool .false))), pm 5 142]
def p55_19 : LP := [pm 143 5, pm 144 143, pg 145 144 (fd 31 1), pg 146 144 (lf 1 145), pg 147 144 (.len .true (tm 146)), pg 148 144 (.cmpI .leq (tm 147) (ki 256)), po 149 (.pick (tm 144) (tm 148) (.const (.bool .false))), pm 150 149, pg 151 150 (fd 32 1), pg 152 150 (lf 1 151), pg 153 150 (c1 100 152), po 154 (.pick (tm 150) (tm 153) (.const (.bool .false))), pm 5 154]
def p55_20 : LP := [pm 155 5, po 156 (.un .not (tm 155))]
def p55_21 : LP := [po 2 (.mov (ki 4))]
def p55_22 : LP := [po 2 (.mov (ki 0))]
def c55_1 : PCode := (.keep [1, 5] [(16, .id 16)] [] (.seq (.reg p55_17) (.seq (.reg p55_18) (.seq (.reg p55_19) (.seq (.seq (.reg p55_20) (.cond (.tmp 156) (.seq (.reg p55_21) .ret) .skip)) (.seq (.reg p55_22) .ret))))))
def c55_4 : PCode := (.keep [1, 5] [(16, .id 16)] [] (.seq (.reg p55_11) (.seq (.seq (.reg p55_12) (.block 0 c55_3)) c55_1)))
def c55_5 : PCode := (.keep [1, 3, 5] [(16, .id 16), (32, .id 32)] [] (.seq (.reg p55_9) (.seq (.reg p55_10) c55_4)))
def c55_b : PCode := (.seq (.reg p55_6) (.seq (.regD p55_7 [(1, 4), (3, 4), (1, 5), (3, 5), (4, 5), (3, 6)]) (.seq (.reg p55_8) c55_5)))
def c55 : FCode := ⟨157, c55_b, [(.tmp 2)], some ([2], [], []), false⟩
theorem c55_ok : compF Go.Proofs.Tryz.prog brs 55 = some (eraseF c55) := by kernel_rfl
def p101_1 : LP := [po 2 (.mov (.const (.bool .false)))]
def p101_2 : LP := [pm 3 0, po 4 (.cmpI .geq (tm 3) (ki 0)), pm 5 4, pg 6 5 (.mov (tm 0)), pg 7 5 (.cmpI .leq (tm 6) (ki 5)), po 8 (.pick (tm 5) (tm 7) (.const (.bool .false))), pm 2 8]
def c101_b : PCode := (.seq (.reg p101_1) (.seq (.reg p101_2) .ret))
def c101 : FCode := ⟨9, c101_b, [(.tmp 2)], some ([2], [], []), false⟩
theorem c101_ok : compF Go.Proofs.Tryz.prog brs 101 = some (eraseF c101) := by kernel_rfl
def p56_7 : LP := [po 1 (.box 520 (tm 0)), po 2 (.mov (ki 0))]
def p56_8 : LP := [po 7 (fd 0 1), po 8 (lt 256 7), po 9 (fd 256 1), po 10 (lt 256 9), po 11 (.build [(512, (.int .u8 0))] [(0, (256, (tm 8))), (256, (256, (tm 10)))]), po 12 (.mov (ki 0))]
def p56_9 : LP := [po 13 (.cmpI .lss (tm 12) (ki 2))]
def p56_10 : LP := [po 14 (.ixV .true 2 256 (tm 11) (tm 12)), po 4 (.alloc [(256, (.int .u8 0))]), pS 256 4 14]
def p56_11 : LP := [po 15 (lt 256 4), po 16 (.mov (ki 0))]
def p56_12 : LP := [po 17 (.cmpI .lss (tm 16) (ki 256))]
def p56_13 : LP := [po 18 (.ixV .false 256 1 (tm 15) (tm 16)), pm 6 18]
def p56_14 : LP := [pm 19 6, po 20 (.cvI .i64 (tm 19)), po 21 (c1 101 20), po 22 (.un .not (tm 21))]
def p56_15 : LP := [po 2 (.mov (ki 4))]
def p56_16 : LP := [po 23 (.arI .add (tm 16) (ki 1)), pm 16 23]
def c56_1 : PCode := (.keep [11, 12, 15, 16] [] [] (.seq (.block 3 (.seq (.reg p56_13) (.seq (.reg p56_14) (.cond (.tmp 22) (.seq (.reg p56_15) .ret) .skip)))) (.reg p56_16)))
def c56_2 : PCode := (.keep [11, 12, 15, 16, 17] [] [] (.seq (.cond (.tmp 17) .skip (.keep [11, 12] [] [] (.exit 2))) c56_1))
def c56_3 : PCode := (.keep [11, 12, 15, 16] [] [] (.seq (.reg p56_12) c56_2))
def p56_17 : LP := [po 24 (.arI .add (tm 12) (ki 1)), pm 12 24]
def c56_4 : PCode := (.keep [11, 12] [] [] (.seq (.block 1 (.seq (.reg p56_10) (.seq (.reg p56_11) (.block 2 (.loop c56_3))))) (.reg p56_17)))
def c56_5 : PCode := (.loop (.seq (.reg p56_9) (.seq (.cond (.tmp 13) .skip (.exit 0)) c56_4)))
def p56_18 : LP := [po 2 (.mov (ki 0))]
def c56_6 : PCode := (.seq (.reg p56_18) .ret)
def c56_b : PCode := (.seq (.reg p56_7) (.seq (.seq (.reg p56_8) (.block 0 c56_5)) c56_6))
def c56 : FCode := ⟨25, c56_b, [(.tmp 2)], some ([2], [], []), false⟩
theorem c56_ok : compF Go.Proofs.Tryz.prog brs 56 = some (eraseF c56) := by kernel_rfl
def p57_5 : LP := [po 1 (.box 38 (tm 0)), po 2 (.mov (ki 0))]
def p57_6 : LP := [po 5 (fd 0 1), po 6 (lt 19 5), po 7 (.mov (ki 0))]
def p57_7 : LP := [po 8 (.cmpI .lss (tm 7) (ki 19))]
def p57_8 : LP := [po 9 (.ixV .false 19 1 (tm 6) (tm 7)), pm 4 9]
def p57_9 : LP := [pm 10 4, po 11 (.cmpI .gtr (tm 10) (.const (.int .u8 2)))]
def p57_10 : LP := [po 2 (.mov (ki 4))]
def p57_11 : LP := [po 12 (.arI .add (tm 7) (ki 1)), pm 7 12]
def c57_2 : PCode := (.keep [1, 6, 7] [(16, .id 16)] [] (.seq (.block 1 (.seq (.reg p57_8) (.seq (.reg p57_9) (.cond (.tmp 11) (.seq (.reg p57_10) .ret) .skip)))) (.reg p57_11)))
def c57_3 : PCode := (.keep [1, 6, 7, 8] [(16, .id 16)] [] (.seq (.cond (.tmp 8) .skip (.keep [1] [(16, .id 16)] [] (.exit 0))) c57_2))
def c57_4 : PCode := (.keep [1, 6, 7] [(16, .id 16)] [] (.seq (.reg p57_7) c57_3))
def p57_12 : LP := [po 13 (fd 0 1), po 14 (.ixA 19 1 (tm 13) (ki 0)), po 15 (lf 1 14), po 16 (.cmpI .neq (tm 15) (.const (.int .u8 0))), pm 17 16, pf 18 17 (fd 19 1), pf 19 17 (.ixA 19 1 (tm 18) (ki 0)), pf 20 17 (lf 1 19), pf 21 17 (.cmpI .neq (tm 20) (.const (.int .u8 0))), po 22 (.pick (tm 17) (.const (.bool .true)) (tm 21))]
def p57_13 : LP := [po 2 (.mov (ki 4))]
def p57_14 : LP := [po 2 (.mov (ki 0))]
def c57_1 : PCode := (.keep [1] [(16, .id 16)] [] (.seq (.seq (.reg p57_12) (.cond (.tmp 22) (.seq (.reg p57_13) .ret) .skip)) (.seq (.reg p57_14) .ret)))
def c57_b : PCode := (.seq (.reg p57_5) (.seq (.seq (.reg p57_6) (.block 0 (.loop c57_4))) c57_1))
def c57 : FCode := ⟨23, c57_b, [(.tmp 2)], some ([2], [], []), false⟩
theorem c57_ok : compF Go.Proofs.Tryz.prog brs 57 = some (eraseF c57) := by kernel_rfl
def p58_1 : LP := [po 1 (.box 2 (tm 0)), po 2 (.mov (ki 0))]
def p58_2 : LP := [po 3 (fd 0 1), po 4 (lf 1 3), po 5 (.len .true (tm 4)), po 6 (.cmpI .geq (tm 5) (ki 1024))]
def p58_3 : LP := [po 2 (.mov (ki 2))]
def p58_4 : LP := [po 2 (.mov (ki 0))]
def c58_b : PCode := (.seq (.reg p58_1) (.seq (.seq (.reg p58_2) (.cond (.tmp 6) (.seq (.reg p58_3) .ret) .skip)) (.seq (.reg p58_4) .ret)))
def c58 : FCode := ⟨7, c58_b, [(.tmp 2)], some ([2], [], []), false⟩
theorem c58_ok : compF Go.Proofs.Tryz.prog brs 58 = some (eraseF c58) := by kernel_rfl
def p28_4 : LP := [po 1 (.box 613 (tm 0)), po 2 (.mov (ki 0))]
def p28_5 : LP := [po 8 (fd 567 1), po 9 (lf 1 8), po 10 (c1 27 9), pm 7 10, po 11 (.ext (tm 7) 0), po 12 (.ext (tm 7) 1), pm 3 11, pm 4 12]
def p28_6 : LP := [po 13 (fd 0 1), po 14 (lt 5 13), po 15 (c1 52 14), po 16 (fd 6 1), po 17 (lf 1 16), po 18 (c1 53 17), po 19 (fd 7 1), po 20 (lt 5 19), po 21 (c1 54 20), po 22 (fd 12 1), po 23 (lt 33 22), po 24 (c1 55 23), po 25 (fd 45 1), po 26 (lt 520 25), po 27 (c1 56 26), po 28 (fd 565 1), po 29 (lt 2 28), po 30 (c1 26 29), pm 31 4, po 32 (fd 568 1), po 33 (lt 38 32), po 34 (c1 57 33), po 35 (fd 610 1), po 36 (lt 2 35), po 37 (c1 58 36), po 38 (.build [(9, (.int .i64 0))] [(0, (1, (tm 15))), (1, (1, (tm 18))), (2, (1, (tm 21))), (3, (1, (tm 24))), (4, (1, (tm 27))), (5, (1, (tm 30))), (6, (1, (tm 31))), (7, (1, (tm 34))), (8, (1, (tm 37)))]), po 39 (.mov (ki 0))]
def c28_7 : PCode := (.regD p28_6 [(2, 4), (2, 7), (5, 7), (2, 10), (5, 10), (8, 10), (2, 13), (5, 13), (8, 13), (11, 13), (2, 16), (5, 16), (8, 16), (11, 16), (14, 16), (2, 20), (5, 20), (8, 20), (11, 20), (14, 20), (17, 20), (2, 23), (5, 23), (8, 23), (11, 23), (14, 23), (17, 23), (21, 23)])
def p28_8 : LP := [po 40 (.cmpI .lss (tm 39) (ki 9))]
def p28_9 : LP := [po 41 (.ixV .false 9 1 (tm 38) (tm 39)), pm 6 41]
def p28_10 : LP := [pm 42 6, po 43 (.cmpI .neq (tm 42) (ki 0))]
def p28_11 : LP := [po 2 (.mov (ki 4))]
def p28_12 : LP := [po 44 (.arI .add (tm 39) (ki 1)), pm 39 44]
def c28_1 : PCode := (.keep [38, 39] [] [] (.seq (.block 1 (.seq (.reg p28_9) (.seq (.reg p28_10) (.cond (.tmp 43) (.seq (.reg p28_11) .ret) .skip)))) (.reg p28_12)))
def c28_2 : PCode := (.keep [38, 39, 40] [] [] (.seq (.cond (.tmp 40) .skip (.keep [] [] [] (.exit 0))) c28_1))
def c28_3 : PCode := (.keep [38, 39] [] [] (.seq (.reg p28_8) c28_2))
def p28_13 : LP := [po 2 (.mov (ki 0))]
def c28_b : PCode := (.seq (.reg p28_4) (.seq (.reg p28_5) (.seq (.seq c28_7 (.block 0 (.loop c28_3))) (.seq (.reg p28_13) .ret))))
def c28 : FCode := ⟨45, c28_b, [(.tmp 2)], some ([2], [], []), false⟩
theorem c28_ok : compF Go.Proofs.Tryz.prog brs 28 = some (eraseF c28) := by kernel_rfl
def p59_4 : LP := [po 1 (.box 33 (tm 0)), po 2 (.alloc q18_)]
def p59_5 : LP := [po 6 (fd 0 1), po 7 (lt 3 6), po 8 (c1 45 7), po 9 (fd 28 1), po 10 (lt 3 9), po 11 (c1 45 10), po 12 (fd 0 1), pS 3 12 8, po 13 (fd 28 1), pS 3 13 11]
def p59_6 : LP := [po 3 (.nilS 91 1)]
def p59_7 : LP := [po 14 (fd 32 1), po 15 (lf 1 14), po 16 (.len .false (tm 15)), po 17 (.mov (ki 0))]
def p59_8 : LP := [po 18 (.cmpI .lss (tm 17) (tm 16))]
def p59_9 : LP := [po 19 (.ixS 91 1 (tm 15) (tm 17)), po 20 (lt 1 19), po 5 (.alloc [(1, (.slice .none 0 0))]), pS 1 5 20]
def p59_10 : LP := [pm 21 3, po 22 (fd 0 5), po 23 (lf 1 22), po 24 (c1 91 23), po 25 (.build [(1, (.slice .none 0 0))] [(0, (1, (tm 24)))]), po 26 (.bsl 91 1 1 [(1, (.slice .none 0 0))] [(0, (1, (tm 25)))]), po 27 (.app 91 1 24 (tm 21) (tm 26)), pm 3 27]
def p59_11 : LP := [po 28 (.arI .add (tm 17) (ki 1)), pm 17 28]
def c59_1 : PCode := (.keep [1, 2, 3, 15, 16, 17] [(16, .id 16), (72, .id 72), (96, .id 96), (24, .id 24), (32, .id 32)] [] (.seq (.block 1 (.seq (.reg p59_9) (.reg p59_10))) (.reg p59_11)))
def c59_2 : PCode := (.keep [1, 2, 3, 15, 16, 17, 18] [(16, .id 16), (72, .id 72), (96, .id 96), (24, .id 24), (32, .id 32)] [] (.seq (.cond (.tmp 18) .skip (.keep [1, 2, 3] [(16, .id 16), (72, .id 72), (96, .id 96), (24, .id 24), (32, .id 32)] [] (.exit 0))) c59_1))
def c59_3 : PCode := (.keep [1, 2, 3, 15, 16, 17] [(16, .id 16), (72, .id 72), (96, .id 96), (24, .id 24), (32, .id 32)] [.cell 24 2 0 0 1, .cell 24 30 0 0 1, .cell 24 32 0 0 1] (.seq (.reg p59_8) c59_2))
def p59_12 : LP := [pm 29 3, po 30 (fd 32 1), pS 1 30 29]
def p59_13 : LP := [po 31 (lt 33 1), pS 33 2 31]
def c59_b : PCode := (.seq (.reg p59_4) (.seq (.regD p59_5 [(2, 4)]) (.seq (.reg p59_6) (.seq (.seq (.reg p59_7) (.block 0 (.loop c59_3))) (.seq (.reg p59_12) (.seq (.reg p59_13) .ret))))))
def c59 : FCode := ⟨32, c59_b, [(.cell 2 .true 33)], some ([2], [(24, .id 24), (72, .id 72), (96, .id 96), (32, .id 32)], []), false⟩
theorem c59_ok : compF Go.Proofs.Tryz.prog brs 59 = some (eraseF c59) := by kernel_rfl
def p29_1 : LP := [po 1 (.box 613 (tm 0)), po 2 (.alloc q4_)]
def p29_2 : LP := [po 3 (fd 12 1), po 4 (lt 33 3), po 5 (.callf 59 [(tm 4)]), po 6 (fd 12 1), pS 33 6 5]
def p29_3 : LP := [po 7 (fd 565 1), po 8 (fd 0 7), po 9 (lf 1 8), po 10 (c1 24 9), po 11 (fd 567 1), po 12 (lf 1 11), po 13 (c1 25 12), po 14 (fd 565 1), po 15 (fd 0 14), pS 1 15 10, po 16 (fd 567 1), pS 1 16 13]
def p29_4 : LP := [po 17 (lt 613 1), pS 613 2 17]
def c29_b : PCode := (.seq (.reg p29_1) (.seq (.reg p29_2) (.seq (.regD p29_3 [(3, 5)]) (.seq (.reg p29_4) .ret))))
def c29 : FCode := ⟨18, c29_b, [(.cell 2 .true 613)], some ([2], [(24, .id 24), (48, .id 48), (49, .id 49), (50, .id 50), (88, .id 88), (112, .id 112)], []), false⟩
theorem c29_ok : compF Go.Proofs.Tryz.prog brs 29 = some (eraseF c29) := by kernel_rfl
def p156_1 : LP := [pm 4 0, po 5 (.nilC (tm 4)), po 6 (fd 0 5), po 7 (fd 0 6), po 8 (lf 1 7)]
def p156_2 : LP := [po 22 (ck 8 0), pm 21 22]
def p156_3 : LP := [pm 23 1, po 24 (.cmpI .eql (tm 23) (.const (.int .u8 255)))]
def p156_4 : LP := [pm 25 0, po 26 (.nilC (tm 25)), po 27 (fd 0 26), po 28 (fd 0 27), ⟨.none, (.store 1 (tm 28) (ki 1)), .none⟩]
def p156_5 : LP := [pm 29 0, pm 30 0, po 31 (.nilC (tm 30)), po 32 (fd 6 31), po 33 (lf 1 32), pm 34 1, po 35 (.bsl 5 1 1 [(1, (.int .u8 0))] [(0, (1, (tm 34)))]), po 36 (.app 5 1 1 (tm 33) (tm 35)), po 37 (.nilC (tm 29)), po 38 (fd 6 37), pS 1 38 36]
def p156_6 : LP := [po 40 (ck 8 1), pm 39 40]
def p156_7 : LP := [pm 41 0, pm 42 1, po 43 (.callr 203 [(tm 41), (tm 42)])]
def p156_8 : LP := [po 45 (ck 8 2), pm 44 45]
def p156_9 : LP := [pm 46 0, pm 47 0, po 48 (.nilC (tm 47)), po 49 (fd 0 48), po 50 (fd 1 49), po 51 (lf 1 50), pm 52 1, po 53 (.cvI .i64 (tm 52)), po 54 (.build [(3, (.int .i64 0)), (1, (.string ⟨#[]⟩))] [(0, (1, (ki 3))), (1, (1, (tm 51))), (2, (1, (tm 53)))]), po 55 (.callr 204 [(tm 46), (tm 54)])]
def p156_10 : LP := [pm 56 0, pm 57 0, po 58 (.nilC (tm 56)), po 59 (fd 0 58), po 60 (fd 0 59), ⟨.none, (.store 1 (tm 60) (ki 0)), .none⟩, po 61 (.nilC (tm 57)), po 62 (fd 0 61), po 63 (fd 1 62), ⟨.none, (.store 1 (tm 63) (ki 0)), .none⟩]
def p156_11 : LP := [po 65 (ck 8 3), pm 64 65]
def p156_12 : LP := [pm 66 0, pm 67 0, pm 68 1, po 69 (.cvI .i64 (tm 68)), po 70 (.nilC (tm 66)), po 71 (fd 0 70), po 72 (fd 0 71), ⟨.none, (.store 1 (tm 72) (ki 4)), .none⟩, po 73 (.nilC (tm 67)), po 74 (fd 0 73), po 75 (fd 2 74), pS 1 75 69]
def p156_13 : LP := [po 77 (ck 8 4), pm 76 77]
def p156_14 : LP := [pm 78 1, po 79 (.cmpI .eql (tm 78) (.const (.int .u8 255)))]
def p156_15 : LP := [pm 80 0, po 81 (.nilC (tm 80)), po 82 (fd 0 81), po 83 (fd 0 82), ⟨.none, (.store 1 (tm 83) (ki 5)), .none⟩]
def p156_16 : LP := [pm 84 0, pm 85 1, po 86 (.callr 205 [(tm 84), (tm 85)])]
def p156_17 : LP := [pm 9 1, po 10 (.cmpI .eql (tm 9) (.const (.int .u8 255)))]
def p156_18 : LP := [pm 11 0, po 12 (.nilC (tm 11)), po 13 (fd 0 12), po 14 (fd 0 13), ⟨.none, (.store 1 (tm 14) (ki 4)), .none⟩]
def p156_19 : LP := [pm 15 0, pm 16 1, po 17 (.callr 205 [(tm 15), (tm 16)])]
def p156_20 : LP := [pm 18 0, pm 19 1, po 20 (.callr 206 [(tm 18), (tm 19)])]
def c156_21 : PCode := (.seq (.reg p156_13) (.cond (.tmp 76) (.seq (.reg p156_14) (.cond (.tmp 79) (.reg p156_15) (.reg p156_16))) (.seq (.reg p156_17) (.cond (.tmp 10) (.seq (.reg p156_18) (.reg p156_19)) (.reg p156_20)))))
def c156_22 : PCode := (.cond (.tmp 21) (.seq (.reg p156_3) (.cond (.tmp 24) (.reg p156_4) (.reg p156_5))) (.seq (.reg p156_6) (.cond (.tmp 39) (.reg p156_7) (.seq (.reg p156_8) (.cond (.tmp 44) (.seq (.reg p156_9) (.reg p156_10)) (.seq (.reg p156_11) (.cond (.tmp 64) (.reg p156_12) c156_21)))))))
def c156_b : PCode := (.seq (.reg p156_1) (.block 0 (.seq (.reg p156_2) c156_22)))
def c156 : FCode := ⟨87, c156_b, [], some ([1000001, 1000002, 1000003], [(0, .id 0), (1, .id 1), (2, .id 2), (3, .id 3)], []), false⟩
theorem c156_ok : compF Go.Proofs.Tryz.prog brs 156 = some (eraseF c156) := by kernel_rfl
def p157_1 : LP := [pm 2 0, po 3 (.nilC (tm 2)), po 4 (fd 6 3), po 5 (lf 1 4), po 6 (.len .false (tm 5)), po 7 (.cmpI .gtr (tm 6) (ki 0))]
def p157_2 : LP := [pm 8 0, pm 9 0, po 10 (.nilC (tm 9)), po 11 (fd 7 10), po 12 (lf 1 11), pm 13 0, po 14 (.nilC (tm 13)), po 15 (fd 6 14), po 16 (lf 1 15), po 17 (.cvBS (tm 16)), po 18 (.build [(3, (.int .i64 0)), (1, (.string ⟨#[]⟩))] [(0, (1, (ki 1))), (3, (1, (tm 17)))]), po 19 (.bsl 201 4 1 [(3, (.int .i64 0)), (1, (.string ⟨#[]⟩))] [(0, (4, (tm 18)))]), po 20 (.app 201 4 40 (tm 12) (tm 19)), po 21 (.nilC (tm 8)), po 22 (fd 7 21), pS 1 22 20]
def p157_3 : LP := [pm 23 0, po 24 (.nilC (tm 23)), po 25 (fd 6 24), ⟨.none, (.store 1 (tm 25) (.const (.slice .none 0 0))), .none⟩]
def c157_b : PCode := (.seq (.reg p157_1) (.cond (.tmp 7) (.seq (.regD p157_2 [(4, 11)]) (.reg p157_3)) .skip))
def c157 : FCode := ⟨26, c157_b, [], some ([1000001, 1000002, 1000003], [(0, .id 0), (1, .id 1), (2, .id 2), (3, .id 3)], [.cell 0 6 2 5 1]), false⟩
theorem c157_ok : compF Go.Proofs.Tryz.prog brs 157 = some (eraseF c157) := by kernel_rfl
def p102_6 : LP := [po 2 (.box 5 (tm 0)), po 4 (.alloc [(3, (.int .i64 0)), (1, (.string ⟨#[]⟩)), (1, (.bool .false))]), po 5 (.nilS 201 4), po 6 (.mov (ki 0))]
def p102_7 : LP := [po 10 (lt 5 2), po 11 (c1 52 10), pm 7 11]
def p102_8 : LP := [pm 12 7, po 13 (.cmpI .neq (tm 12) (ki 0))]
def p102_9 : LP := [po 14 (lt 5 2), pm 15 7, pS 5 4 14, po 5 (.nilS 201 4), pm 6 15]
def p102_10 : LP := [po 16 (lt 5 2), po 17 (fd 3 2), po 18 (lf 1 17), po 19 (.cvSO 5 (tm 18)), po 20 (.build [(3, (.int .i64 0)), (1, (.string ⟨#[]⟩)), (1, (.bool .false)), (1, (.slice .none 0 0)), (1, (.slice .none 0 0)), (1, (.slice .none 0 0))] [(0, (5, (tm 16))), (5, (1, (tm 19)))]), po 21 (.box 8 (tm 20)), pm 8 21]
def p102_11 : LP := [pm 22 1, po 23 (.len .true (tm 22)), po 24 (.mov (ki 0))]
def p102_12 : LP := [po 25 (.cmpI .lss (tm 24) (tm 23))]
def p102_13 : LP := [pm 26 24, pm 9 26]
def p102_14 : LP := [pm 27 8, pm 28 1, pm 29 9, po 30 (.ixStr (tm 28) (tm 29)), po 31 (.callr 156 [(tm 27), (tm 30)])]
def p102_15 : LP := [po 32 (.arI .add (tm 24) (ki 1)), pm 24 32]
def c102_2 : PCode := (.keep [1, 4, 8, 23, 24] [(40, .id 40), (176, .id 176), (160, .id 160), (452, .id 452), (453, .id 453)] [] (.seq (.block 1 (.seq (.reg p102_13) (.reg p102_14))) (.reg p102_15)))
def c102_3 : PCode := (.keep [1, 4, 8, 23, 24, 25] [(40, .id 40), (176, .id 176), (160, .id 160), (452, .id 452), (453, .id 453)] [] (.seq (.cond (.tmp 25) .skip (.keep [4, 8] [(40, .id 40), (176, .id 176), (160, .id 160), (452, .id 452), (453, .id 453)] [] (.exit 0))) c102_2))
def c102_4 : PCode := (.keep [1, 4, 8, 23, 24] [(40, .id 40), (176, .id 176), (160, .id 160), (452, (.cell 176 6)), (453, (.cell 176 7))] [.cell 176 6 452 5 1, .cell 176 7 453 201 4] (.seq (.reg p102_12) c102_3))
def p102_16 : LP := [pm 33 8, po 34 (.callr 157 [(tm 33)])]
def p102_17 : LP := [pm 35 8, pm 36 8, po 37 (.nilC (tm 36)), po 38 (fd 5 37), po 39 (lf 1 38), po 40 (.cvBS (tm 39)), po 41 (.nilC (tm 35)), po 42 (fd 0 41), po 43 (fd 3 42), pS 1 43 40]
def p102_18 : LP := [pm 44 8, po 45 (.nilC (tm 44)), po 46 (fd 0 45), po 47 (lt 5 46), pm 48 8, po 49 (.nilC (tm 48)), po 50 (fd 7 49), po 51 (lf 1 50), pS 5 4 47, pm 5 51, po 6 (.mov (ki 0))]
def c102_1 : PCode := (.keep [4, 8] [(40, .id 40), (176, .id 176), (160, .id 160), (452, .id 452), (453, .id 453)] [] (.seq (.reg p102_16) (.seq (.reg p102_17) (.seq (.regD p102_18 [(7, 8)]) .ret))))
def c102_5 : PCode := (.keep [1, 2, 4] [(24, .id 24), (40, .id 40)] [] (.seq (.reg p102_10) (.seq (.seq (.reg p102_11) (.block 0 (.loop c102_4))) c102_1)))
def c102_b : PCode := (.seq (.reg p102_6) (.seq (.seq (.reg p102_7) (.seq (.reg p102_8) (.cond (.tmp 13) (.seq (.reg p102_9) .ret) .skip))) c102_5))
def c102 : FCode := ⟨52, c102_b, [(.cell 4 .true 5), (.tmp 5), (.tmp 6)], some ([4, 5, 6], [(40, .id 40), (451, (.slot 5 none))], []), false⟩
theorem c102_ok : compF Go.Proofs.Tryz.prog brs 102 = some (eraseF c102) := by kernel_rfl
def p107_1 : LP := [po 4 (.mov (.const (.bool .false)))]
def p107_2 : LP := [pm 5 0, pm 6 1, po 7 (.nilC (tm 5)), po 8 (fd 0 7), po 9 (fd 45 8), po 10 (fd 256 9), po 11 (.ixA 256 1 (tm 10) (tm 6)), po 12 (lf 1 11), po 13 (.cmpI .eql (tm 12) (.const (.int .u8 1))), pm 4 13]
def c107_b : PCode := (.seq (.reg p107_1) (.seq (.reg p107_2) .ret))
def c107 : FCode := ⟨14, c107_b, [(.tmp 4)], some ([4], [], []), false⟩
theorem c107_ok : compF Go.Proofs.Tryz.prog brs 107 = some (eraseF c107) := by kernel_rfl
def p158_7 : LP := [po 6 (.mov (.const (.bool .false))), po 7 (.mov (.const (.string ⟨#[]⟩)))]
def p158_8 : LP := [pm 11 2]
def p158_9 : LP := [pm 12 0, po 13 (c1 207 12), pm 14 1, po 15 (.strO .add (tm 13) (tm 14)), po 6 (.mov (.const (.bool .false))), pm 7 15]
def p158_10 : LP := [po 8 (.nilS 5 1)]
def p158_11 : LP := [pm 16 1, po 17 (.len .true (tm 16)), po 18 (.mov (ki 0))]
def p158_12 : LP := [po 19 (.cmpI .lss (tm 18) (tm 17))]
def p158_13 : LP := [pm 20 18, pm 9 20]
def p158_14 : LP := [pm 21 1, pm 22 9, po 23 (.ixStr (tm 21) (tm 22)), pm 10 23]
def p158_15 : LP := [pm 24 0]
def p158_16 : LP := [po 0 (.mov (.const (.bool .false)))]
def p158_17 : LP := [pm 25 10]
def p158_18 : LP := [po 27 (.cmpI .eql (tm 25) (.const (.int .u8 10))), pm 26 27]
def p158_19 : LP := [pm 28 8, po 29 (.bsl 5 1 1 [(1, (.int .u8 0))] [(0, (1, (.const (.int .u8 10))))]), po 30 (.app 5 1 1 (tm 28) (tm 29)), pm 8 30]
def p158_20 : LP := [po 32 (.cmpI .eql (tm 25) (.const (.int .u8 0))), pm 31 32]
def p158_21 : LP := [pm 33 8, po 34 (.bsl 5 1 1 [(1, (.int .u8 0))] [(0, (1, (.const (.int .u8 13))))]), po 35 (.app 5 1 1 (tm 33) (tm 34)), pm 8 35]
def p158_22 : LP := [pm 36 8, po 37 (.bsl 5 1 1 [(1, (.int .u8 0))] [(0, (1, (.const (.int .u8 13))))]), po 38 (.app 5 1 1 (tm 36) (tm 37)), pm 8 38]
def c158_23 : PCode := (.seq (.seq (.reg p158_17) (.block 2 (.seq (.reg p158_18) (.cond (.tmp 26) (.seq (.reg p158_19) (.exit 1)) (.seq (.reg p158_20) (.cond (.tmp 31) (.seq (.reg p158_21) (.exit 1)) .skip)))))) (.reg p158_22))
def p158_24 : LP := [pm 39 10, po 40 (.cmpI .eql (tm 39) (.const (.int .u8 13)))]
def p158_25 : LP := [po 0 (.mov (.const (.bool .true)))]
def p158_26 : LP := [pm 41 8, pm 42 10, po 43 (.bsl 5 1 1 [(1, (.int .u8 0))] [(0, (1, (tm 42)))]), po 44 (.app 5 1 1 (tm 41) (tm 43)), pm 8 44]
def c158_1 : PCode := (.keep [0, 1, 8, 10, 17, 18] [(72, .id 72)] [] (.seq (.reg p158_24) (.cond (.tmp 40) (.reg p158_25) (.reg p158_26))))
def p158_27 : LP := [po 45 (.arI .add (tm 18) (ki 1)), pm 18 45]
def c158_2 : PCode := (.reg p158_27)
def c158_3 : PCode := (.keep [0, 1, 8, 17, 18] [(72, .id 72)] [] (.seq (.block 1 (.seq (.reg p158_13) (.seq (.reg p158_14) (.seq (.seq (.reg p158_15) (.cond (.tmp 24) (.seq (.reg p158_16) c158_23) .skip)) c158_1)))) c158_2))
def c158_4 : PCode := (.keep [0, 1, 8, 17, 18, 19] [(72, .id 72)] [] (.seq (.cond (.tmp 19) .skip (.keep [0, 8] [(72, .id 72)] [] (.exit 0))) c158_3))
def c158_5 : PCode := (.keep [0, 1, 8, 17, 18] [(72, .id 72)] [] (.seq (.reg p158_12) c158_4))
def p158_28 : LP := [pm 46 0, pm 47 8, po 48 (.cvBS (tm 47)), pm 6 46, pm 7 48]
def c158_6 : PCode := (.keep [0, 1] [] [] (.seq (.reg p158_10) (.seq (.seq (.reg p158_11) (.block 0 (.loop c158_5))) (.seq (.regD p158_28 []) .ret))))
def c158_b : PCode := (.seq (.reg p158_7) (.seq (.seq (.reg p158_8) (.cond (.tmp 11) (.seq (.reg p158_9) .ret) .skip)) c158_6))
def c158 : FCode := ⟨49, c158_b, [(.tmp 6), (.tmp 7)], some ([6, 7], [], []), false⟩
theorem c158_ok : compF Go.Proofs.Tryz.prog brs 158 = some (eraseF c158) := by kernel_rfl
def p159_4 : LP := [po 4 (.mov (.const (.string ⟨#[]⟩))), po 5 (.nilS 3 1), po 6 (.mov (ki 0))]
def p159_5 : LP := [pm 13 0, po 14 (c1 53 13), pm 7 14]
def p159_6 : LP := [pm 15 7, po 16 (.cmpI .neq (tm 15) (ki 0))]
def p159_7 : LP := [pm 17 7, po 4 (.mov (.const (.string ⟨#[]⟩))), po 5 (.nilS 3 1), pm 6 17]
def p159_8 : LP := [po 8 (.nilS 3 1)]
def p159_9 : LP := [pm 18 0, pm 19 1, po 20 (.strO .add (tm 18) (tm 19)), pm 1 20]
def p159_10 : LP := [pm 21 1, po 22 (.strO .neq (tm 21) (.const (.string ⟨#[]⟩)))]
def p159_11 : LP := [pm 23 1, po 24 (.ixStr (tm 23) (ki 0)), po 25 (.cmpI .lss (tm 24) (.const (.int .u8 128)))]
def p159_12 : LP := [pm 26 8, pm 27 1, po 28 (.ixStr (tm 27) (ki 0)), po 29 (.cvI .i64 (tm 28)), po 30 (.bsl 3 1 1 [(1, (.int .i64 0))] [(0, (1, (tm 29)))]), po 31 (.app 3 1 8 (tm 26) (tm 30)), pm 32 1, po 33 (.slStr (tm 32) (.some (ki 1)) .none), pm 8 31, pm 1 33]
def p159_13 : LP := [pm 35 1, po 36 (c1 94 35), pm 34 36, po 37 (.ext (tm 34) 0), po 38 (.ext (tm 34) 1), pm 9 37, pm 10 38]
def p159_14 : LP := [pm 43 10, pm 42 43]
def p159_15 : LP := [pm 45 1, po 46 (c1 75 45), pm 44 46, po 47 (.ext (tm 44) 0), po 48 (.ext (tm 44) 1), pm 11 47, pm 12 48]
def p159_16 : LP := [pm 49 8, pm 50 11, po 51 (.cvI .i64 (tm 50)), po 52 (.bsl 3 1 1 [(1, (.int .i64 0))] [(0, (1, (tm 51)))]), po 53 (.app 3 1 8 (tm 49) (tm 52)), pm 8 53]
def p159_17 : LP := [pm 55 9, po 56 (.cmpI .gtr (tm 55) (ki 0)), pm 57 56, pg 58 57 (.mov (tm 9)), pg 59 57 (.mov (tm 1)), pg 60 57 (.len .true (tm 59)), pg 61 57 (.cmpI .eql (tm 58) (tm 60)), po 62 (.pick (tm 57) (tm 61) (.const (.bool .false))), pm 54 62]
def p159_18 : LP := [pm 63 1, pm 64 8, pm 4 63, pm 5 64, po 6 (.mov (ki 0))]
def p159_19 : LP := [pm 39 8, po 40 (.bsl 3 1 1 [(1, (.int .i64 0))] [(0, (1, (ki 65533)))]), po 41 (.app 3 1 8 (tm 39) (tm 40)), pm 8 41]
def p159_20 : LP := [pm 65 1, pm 66 9, po 67 (.mx [(tm 66), (ki 1)]), po 68 (.slStr (tm 65) (.some (tm 67)) .none), pm 1 68]
def c159_21 : PCode := (.seq (.reg p159_13) (.seq (.block 2 (.seq (.reg p159_14) (.cond (.tmp 42) (.seq (.reg p159_15) (.reg p159_16)) (.seq (.reg p159_17) (.cond (.tmp 54) (.seq (.reg p159_18) .ret) (.reg p159_19)))))) (.reg p159_20)))
def c159_1 : PCode := (.keep [1, 8] [(72, .id 72)] [] (.block 1 (.seq (.seq (.reg p159_11) (.cond (.tmp 25) (.seq (.regD p159_12 []) (.exit 1)) .skip)) c159_21)))
def c159_2 : PCode := (.keep [1, 8] [(72, .id 72)] [] (.seq (.seq (.reg p159_10) (.cond (.tmp 22) .skip (.keep [8] [(72, .id 72)] [] (.exit 0)))) c159_1))
def p159_22 : LP := [pm 69 8, po 4 (.mov (.const (.string ⟨#[]⟩))), pm 5 69, po 6 (.mov (ki 0))]
def c159_3 : PCode := (.keep [0, 1] [] [] (.seq (.reg p159_8) (.seq (.seq (.reg p159_9) (.block 0 (.loop c159_2))) (.seq (.reg p159_22) .ret))))
def c159_b : PCode := (.seq (.reg p159_4) (.seq (.seq (.reg p159_5) (.seq (.reg p159_6) (.cond (.tmp 16) (.seq (.reg p159_7) .ret) .skip))) c159_3))
def c159 : FCode := ⟨70, c159_b, [(.tmp 4), (.tmp 5), (.tmp 6)], some ([4, 5, 6], [(72, .id 72)], []), false⟩
theorem c159_ok : compF Go.Proofs.Tryz.prog brs 159 = some (eraseF c159) := by kernel_rfl
def p239_1 : LP := [po 3 (.box 6 (tm 1))]
def p239_2 : LP := [pm 4 0, pm 5 0, po 6 (.nilC (tm 5)), po 7 (fd 5 6), po 8 (lf 1 7), po 9 (lt 6 3), po 10 (.bsl 81 6 1 q23_ [(0, (6, (tm 9)))]), po 11 (.app 81 6 80 (tm 8) (tm 10)), po 12 (.nilC (tm 4)), po 13 (fd 5 12), pS 1 13 11]
def c239_b : PCode := (.seq (.reg p239_1) (.regD p239_2 [(4, 6)]))
def c239 : FCode := ⟨14, c239_b, [], some ([1000001], [(0, .id 0), (1, .id 1)], []), false⟩
theorem c239_ok : compF Go.Proofs.Tryz.prog brs 239 = some (eraseF c239) := by kernel_rfl
def p242_1 : LP := [po 4 (.mov (.const (.bool .false)))]
def p242_2 : LP := [po 5 (.mov (ki 0))]
def p242_3 : LP := [pm 9 1, po 10 (ck 9 27), pm 8 10]
def p242_4 : LP := [po 5 (.mov (ki 1))]
def p242_5 : LP := [pm 12 1, po 13 (ck 12 24), pm 14 13, pf 15 14 (.mov (tm 1)), pf 16 14 (ck 15 26), po 17 (.pick (tm 14) (.const (.bool .true)) (tm 16)), pm 11 17]
def p242_6 : LP := [pm 19 1, po 20 (.cmpI .lss (tm 19) (ki 32)), pm 18 20]
def p242_7 : LP := [pm 21 0, pm 22 1, po 23 (.build q23_ [(0, (1, (ki 2))), (1, (1, (tm 22)))]), po 24 (.callr 239 [(tm 21), (tm 23)])]
def p242_8 : LP := [po 4 (.mov (.const (.bool .true)))]
def p242_9 : LP := [pm 6 1, po 7 (.call 96 [(tm 6), (ki 127), (ki 159)]), pm 4 7]
def c242_10 : PCode := (.seq (.reg p242_3) (.cond (.tmp 8) (.reg p242_4) (.seq (.reg p242_5) (.cond (.tmp 11) .skip (.seq (.reg p242_6) (.cond (.tmp 18) (.seq (.reg p242_7) (.seq (.reg p242_8) .ret)) (.seq (.reg p242_9) .ret)))))))
def p242_11 : LP := [pm 25 0, po 26 (.nilC (tm 25)), po 27 (fd 0 26), po 28 (fd 0 27), po 29 (lf 1 28), po 30 (.cmpI .neq (tm 29) (ki 0))]
def p242_12 : LP := [pm 31 0, po 32 (.build q23_ [(0, (1, (ki 6)))]), po 33 (.callr 239 [(tm 31), (tm 32)])]
def p242_13 : LP := [pm 34 0, pm 35 5, po 36 (.callr 240 [(tm 34), (tm 35)])]
def p242_14 : LP := [po 4 (.mov (.const (.bool .true)))]
def c242_b : PCode := (.seq (.reg p242_1) (.seq (.reg p242_2) (.seq (.block 0 c242_10) (.seq (.seq (.reg p242_11) (.cond (.tmp 30) (.reg p242_12) .skip)) (.seq (.reg p242_13) (.seq (.reg p242_14) .ret))))))
def c242 : FCode := ⟨37, c242_b, [(.tmp 4)], some ([4, 1000001], [(0, .id 0), (1, .id 1)], []), false⟩
theorem c242_ok : compF Go.Proofs.Tryz.prog brs 242 = some (eraseF c242) := by kernel_rfl
def p208_5 : LP := [pm 5 1, po 6 (.cmpI .lss (tm 5) (ki 0)), pm 7 6, pf 8 7 (.mov (tm 1)), pf 9 7 (.cmpI .gtr (tm 8) (ki 1114111)), po 10 (.pick (tm 7) (.const (.bool .true)) (tm 9))]
def p208_6 : LP := [pm 11 0, po 12 (.nilC (tm 11)), po 13 (fd 0 12), po 14 (fd 0 13), po 15 (lf 1 14)]
def p208_7 : LP := [po 17 (ck 15 7), pm 16 17]
def p208_8 : LP := [po 18 (ck 15 9), pm 16 18]
def p208_9 : LP := [pm 19 0, pm 20 1, po 21 (.callr 238 [(tm 19), (tm 20)])]
def p208_10 : LP := [po 23 (ck 15 8), pm 22 23]
def p208_11 : LP := [po 24 (ck 15 10), pm 22 24]
def p208_12 : LP := [pm 25 1, po 26 (ck 25 92)]
def p208_13 : LP := [po 27 (.build q23_ [(0, (1, (ki 6)))]), po 4 (.alloc q23_), pS 6 4 27]
def p208_14 : LP := [pm 28 0, po 29 (.nilC (tm 28)), po 30 (fd 0 29), po 31 (fd 0 30), po 32 (lf 1 31), po 33 (ck 32 8)]
def p208_15 : LP := [pm 34 0, po 35 (.nilC (tm 34)), po 36 (fd 0 35), po 37 (fd 4 36), po 38 (lf 1 37), po 39 (.build q23_ [(0, (1, (ki 5))), (5, (1, (tm 38)))]), pS 6 4 39]
def p208_16 : LP := [pm 40 0, po 41 (lt 6 4), po 42 (.callr 239 [(tm 40), (tm 41)])]
def p208_17 : LP := [pm 43 0, po 44 (.callr 240 [(tm 43), (ki 0)])]
def p208_18 : LP := [pm 45 0, po 46 (.callr 241 [(tm 45), (ki 1)])]
def c208_19 : PCode := (.seq (.seq (.reg p208_12) (.cond (.tmp 26) (.seq (.reg p208_13) (.seq (.seq (.reg p208_14) (.cond (.tmp 33) (.reg p208_15) .skip)) (.seq (.reg p208_16) (.seq (.reg p208_17) .ret)))) .skip)) (.reg p208_18))
def c208_2 : PCode := (.keep [0, 1, 22, 1000001] [(0, .id 0), (1, .id 1)] [] (.cond (.tmp 22) c208_19 .skip))
def c208_3 : PCode := (.keep [0, 1, 15, 16, 1000001] [(0, .id 0), (1, .id 1)] [] (.cond (.tmp 16) (.seq (.reg p208_9) .ret) (.seq (.seq (.reg p208_10) (.cond (.tmp 22) .skip (.reg p208_11))) c208_2)))
def p208_20 : LP := [pm 51 0, pm 52 1, po 53 (.callr 242 [(tm 51), (tm 52)]), pm 50 53]
def p208_21 : LP := [pm 55 0, po 56 (.nilC (tm 55)), po 57 (fd 0 56), po 58 (fd 0 57), po 59 (lf 1 58), po 60 (ck 59 0), pm 54 60]
def p208_22 : LP := [pm 61 0, pm 62 1, po 63 (.build q23_ [(0, (1, (ki 1))), (1, (1, (tm 62)))]), po 64 (.callr 239 [(tm 61), (tm 63)])]
def p208_23 : LP := [pm 66 1, po 67 (.cmpI .geq (tm 66) (ki 160)), pm 65 67]
def p208_24 : LP := [pm 68 0, po 69 (.callr 241 [(tm 68), (ki 0)])]
def p208_25 : LP := [pm 71 0, po 72 (.nilC (tm 71)), po 73 (fd 0 72), po 74 (fd 0 73), po 75 (lf 1 74), po 76 (.cmpI .leq (tm 75) (ki 2)), pm 70 76]
def p208_26 : LP := [pm 77 0, pm 78 1, po 79 (.callr 243 [(tm 77), (tm 78)])]
def p208_27 : LP := [pm 47 0, pm 48 1, po 49 (.callr 244 [(tm 47), (tm 48)])]
def c208_28 : PCode := (.cond (.tmp 50) .skip (.seq (.reg p208_21) (.cond (.tmp 54) (.reg p208_22) (.seq (.reg p208_23) (.cond (.tmp 65) (.reg p208_24) (.seq (.reg p208_25) (.cond (.tmp 70) (.reg p208_26) (.reg p208_27))))))))
def c208_1 : PCode := (.keep [0, 1, 1000001] [(0, .id 0), (1, .id 1)] [] (.block 1 (.seq (.reg p208_20) c208_28)))
def c208_4 : PCode := (.keep [0, 1, 1000001] [(0, .id 0), (1, .id 1)] [] (.seq (.seq (.reg p208_6) (.block 0 (.seq (.seq (.reg p208_7) (.cond (.tmp 16) .skip (.reg p208_8))) c208_3))) c208_1))
def c208_b : PCode := (.seq (.seq (.reg p208_5) (.cond (.tmp 10) .ret .skip)) c208_4)
def c208 : FCode := ⟨80, c208_b, [], some ([1000001], [(0, .id 0), (1, .id 1)], []), false⟩
theorem c208_ok : compF Go.Proofs.Tryz.prog brs 208 = some (eraseF c208) := by kernel_rfl
def p160_6 : LP := [po 2 (.box 5 (tm 0)), po 4 (.alloc [(2, (.int .i64 0)), (3, (.string ⟨#[]⟩))]), po 5 (.nilS 81 6), po 6 (.mov (ki 0))]
def p160_7 : LP := [po 11 (lt 5 2), po 12 (c1 54 11), pm 7 12]
def p160_8 : LP := [pm 13 7, po 14 (.cmpI .neq (tm 13) (ki 0))]
def p160_9 : LP := [po 15 (lt 5 2), pm 16 7, pS 5 4 15, po 5 (.nilS 81 6), pm 6 16]
def p160_10 : LP := [po 17 (lt 5 2), po 18 (.build [(2, (.int .i64 0)), (3, (.string ⟨#[]⟩)), (1, (.slice .none 0 0))] [(0, (5, (tm 17)))]), po 19 (.box 6 (tm 18)), pm 8 19]
def p160_11 : LP := [pm 20 1, po 21 (.len .false (tm 20)), po 22 (.mov (ki 0))]
def p160_12 : LP := [po 23 (.cmpI .lss (tm 22) (tm 21))]
def p160_13 : LP := [po 24 (.ixS 3 1 (tm 20) (tm 22)), po 25 (lf 1 24), pm 10 25]
def p160_14 : LP := [pm 26 8, pm 27 10, po 28 (.callr 208 [(tm 26), (tm 27)])]
def p160_15 : LP := [po 29 (.arI .add (tm 22) (ki 1)), pm 22 29]
def c160_2 : PCode := (.keep [4, 8, 20, 21, 22] [(40, .id 40), (160, .id 160), (339, .id 339)] [] (.seq (.block 1 (.seq (.reg p160_13) (.reg p160_14))) (.reg p160_15)))
def c160_3 : PCode := (.keep [4, 8, 20, 21, 22, 23] [(40, .id 40), (160, .id 160), (339, .id 339)] [] (.seq (.cond (.tmp 23) .skip (.keep [4, 8] [(40, .id 40), (160, .id 160), (339, .id 339)] [] (.exit 0))) c160_2))
def c160_4 : PCode := (.keep [4, 8, 20, 21, 22] [(40, .id 40), (160, .id 160), (339, (.cell 160 5))] [.cell 160 5 339 81 6] (.seq (.reg p160_12) c160_3))
def p160_16 : LP := [pm 30 8, po 31 (.nilC (tm 30)), po 32 (fd 0 31), po 33 (lt 5 32), pm 34 8, po 35 (.nilC (tm 34)), po 36 (fd 5 35), po 37 (lf 1 36), pS 5 4 33, pm 5 37, po 6 (.mov (ki 0))]
def c160_1 : PCode := (.keep [4, 8] [(40, .id 40), (160, .id 160), (339, .id 339)] [] (.seq (.regD p160_16 [(7, 8)]) .ret))
def c160_5 : PCode := (.keep [1, 2, 4] [(24, .id 24), (40, .id 40)] [] (.seq (.reg p160_10) (.seq (.seq (.reg p160_11) (.block 0 (.loop c160_4))) c160_1)))
def c160_b : PCode := (.seq (.reg p160_6) (.seq (.seq (.reg p160_7) (.seq (.reg p160_8) (.cond (.tmp 14) (.seq (.reg p160_9) .ret) .skip))) c160_5))
def c160 : FCode := ⟨38, c160_b, [(.cell 4 .true 5), (.tmp 5), (.tmp 6)], some ([4, 5, 6], [(40, .id 40), (338, (.slot 5 none))], []), false⟩
theorem c160_ok : compF Go.Proofs.Tryz.prog brs 160 = some (eraseF c160) := by kernel_rfl
def p263_1 : LP := [po 4 (.mov (ki 0))]
def p263_2 : LP := [pm 6 0, po 7 (.len .false (tm 6)), po 8 (.mov (ki 0))]
def p263_3 : LP := [po 9 (.cmpI .lss (tm 8) (tm 7))]
def p263_4 : LP := [pm 10 8, pm 5 10]
def p263_5 : LP := [pm 11 1, pm 12 0, pm 13 5, po 14 (.ixS 3 1 (tm 12) (tm 13)), po 15 (lf 1 14), po 16 (.callv (tm 11) [(tm 15)])]
def p263_6 : LP := [pm 17 5, pm 4 17]
def p263_7 : LP := [po 18 (.arI .add (tm 8) (ki 1)), pm 8 18]
def c263_8 : PCode := (.block 0 (.loop (.seq (.reg p263_3) (.seq (.cond (.tmp 9) .skip (.exit 0)) (.seq (.block 1 (.seq (.reg p263_4) (.seq (.reg p263_5) (.cond (.tmp 16) (.seq (.reg p263_6) .ret) .skip)))) (.reg p263_7))))))
def p263_9 : LP := [po 4 (.mov (ki (-1)))]
def c263_b : PCode := (.seq (.reg p263_1) (.seq (.seq (.reg p263_2) c263_8) (.seq (.reg p263_9) .ret)))
def c263 : FCode := ⟨19, c263_b, [(.tmp 4)], some ([4], [], []), false⟩
theorem c263_ok : compF Go.Proofs.Tryz.prog brs 263 = some (eraseF c263) := by kernel_rfl
def p232_1 : LP := [po 4 (.mov (.const (.bool .false)))]
def p232_2 : LP := [pm 5 0, pm 6 1, po 7 (.call 263 [(tm 5), (tm 6)]), po 8 (.cmpI .geq (tm 7) (ki 0)), pm 4 8]
def c232_b : PCode := (.seq (.reg p232_1) (.seq (.reg p232_2) .ret))
def c232 : FCode := ⟨9, c232_b, [(.tmp 4)], some ([4], [], []), false⟩
theorem c232_ok : compF Go.Proofs.Tryz.prog brs 232 = some (eraseF c232) := by kernel_rfl
def p209_4 : LP := [po 2 (.mov (ki 0))]
def p209_5 : LP := [pm 5 0, po 6 (.len .false (tm 5)), po 7 (.mov (ki 0))]
def p209_6 : LP := [po 8 (.cmpI .lss (tm 7) (tm 6))]
def p209_7 : LP := [po 9 (.ixS 81 6 (tm 5) (tm 7)), po 10 (lt 6 9), po 4 (.alloc q23_), pS 6 4 10]
def p209_8 : LP := [po 11 (fd 4 4), po 12 (lf 1 11), po 13 (.len .false (tm 12)), po 14 (.cmpI .gtr (tm 13) (ki 32)), pm 15 14, pf 16 15 (fd 5 4), pf 17 15 (lf 1 16), pf 18 15 (.len .true (tm 17)), pf 19 15 (.cmpI .gtr (tm 18) (ki 256)), po 20 (.pick (tm 15) (.const (.bool .true)) (tm 19)), pm 21 20, pf 22 21 (fd 4 4), pf 23 21 (lf 1 22), pf 24 21 (.call 232 [(tm 23), (.func 245)]), po 25 (.pick (tm 21) (.const (.bool .true)) (tm 24))]
def p209_9 : LP := [po 2 (.mov (ki 1))]
def p209_10 : LP := [po 26 (.arI .add (tm 7) (ki 1)), pm 7 26]
def c209_1 : PCode := (.keep [5, 6, 7] [] [] (.seq (.block 1 (.seq (.reg p209_7) (.seq (.reg p209_8) (.cond (.tmp 25) (.seq (.reg p209_9) .ret) .skip)))) (.reg p209_10)))
def c209_2 : PCode := (.keep [5, 6, 7, 8] [] [] (.seq (.cond (.tmp 8) .skip (.keep [] [] [] (.exit 0))) c209_1))
def c209_3 : PCode := (.keep [5, 6, 7] [] [] (.seq (.reg p209_6) c209_2))
def p209_11 : LP := [po 2 (.mov (ki 0))]
def c209_b : PCode := (.seq (.reg p209_4) (.seq (.seq (.reg p209_5) (.block 0 (.loop c209_3))) (.seq (.reg p209_11) .ret)))
def c209 : FCode := ⟨27, c209_b, [(.tmp 2)], some ([2], [], []), false⟩
theorem c209_ok : compF Go.Proofs.Tryz.prog brs 209 = some (eraseF c209) := by kernel_rfl
def p298_1 : LP := [po 4 (.mov (ki 0))]
def p298_2 : LP := [po 6 (.build [(32, (.int .i64 0))] [(0, (1, (ki 160))), (1, (1, (ki 9670))), (2, (1, (ki 9618))), (3, (1, (ki 9225))), (4, (1, (ki 9228))), (5, (1, (ki 9229))), (6, (1, (ki 9226))), (7, (1, (ki 176))), (8, (1, (ki 177))), (9, (1, (ki 9252))), (10, (1, (ki 9227))), (11, (1, (ki 9496))), (12, (1, (ki 9488))), (13, (1, (ki 9484))), (14, (1, (ki 9492))), (15, (1, (ki 9532))), (16, (1, (ki 9146))), (17, (1, (ki 9147))), (18, (1, (ki 9472))), (19, (1, (ki 9148))), (20, (1, (ki 9149))), (21, (1, (ki 9500))), (22, (1, (ki 9508))), (23, (1, (ki 9524))), (24, (1, (ki 9516))), (25, (1, (ki 9474))), (26, (1, (ki 8804))), (27, (1, (ki 8805))), (28, (1, (ki 960))), (29, (1, (ki 8800))), (30, (1, (ki 163))), (31, (1, (ki 183)))]), po 5 (.alloc [(32, (.int .i64 0))]), pS 32 5 6]
def p298_3 : LP := [pm 8 0, po 9 (ck 8 2), pm 7 9]
def p298_4 : LP := [pm 10 1, po 11 (.cvI .i64 (tm 10)), pm 4 11]
def p298_5 : LP := [pm 13 1, po 14 (.cmpI .gtr (tm 13) (.const (.int .u8 127))), pm 12 14]
def p298_6 : LP := [po 4 (.mov (ki 65533))]
def p298_7 : LP := [pm 16 0, po 17 (ck 16 4), pm 18 17, pg 19 18 (.mov (tm 1)), pg 20 18 (.cmpI .eql (tm 19) (.const (.int .u8 35))), po 21 (.pick (tm 18) (tm 20) (.const (.bool .false))), pm 15 21]
def p298_8 : LP := [po 4 (.mov (ki 163))]
def p298_9 : LP := [pm 23 0, po 24 (ck 23 3), pm 25 24, pg 26 25 (.mov (tm 1)), pg 27 25 (.cmpI .geq (tm 26) (.const (.int .u8 95))), po 28 (.pick (tm 25) (tm 27) (.const (.bool .false))), pm 29 28, pg 30 29 (.mov (tm 1)), pg 31 29 (.cmpI .leq (tm 30) (.const (.int .u8 126))), po 32 (.pick (tm 29) (tm 31) (.const (.bool .false))), pm 22 32]
def p298_10 : LP := [pm 33 1, po 34 (.arI .sub (tm 33) (.const (.int .u8 95))), po 35 (.ixA 32 1 (tm 5) (tm 34)), po 36 (lf 1 35), pm 4 36]
def c298_11 : PCode := (.seq (.reg p298_5) (.cond (.tmp 12) (.seq (.reg p298_6) .ret) (.seq (.reg p298_7) (.cond (.tmp 15) (.seq (.reg p298_8) .ret) (.seq (.reg p298_9) (.cond (.tmp 22) (.seq (.reg p298_10) .ret) .skip))))))
def p298_12 : LP := [pm 37 1, po 38 (.cvI .i64 (tm 37)), pm 4 38]
def c298_b : PCode := (.seq (.reg p298_1) (.seq (.reg p298_2) (.seq (.block 0 (.seq (.reg p298_3) (.cond (.tmp 7) (.seq (.reg p298_4) .ret) c298_11))) (.seq (.reg p298_12) .ret))))
def c298 : FCode := ⟨39, c298_b, [(.tmp 4)], some ([4], [], []), false⟩
theorem c298_ok : compF Go.Proofs.Tryz.prog brs 298 = some (eraseF c298) := by kernel_rfl
def p271_1 : LP := [po 4 (.mov (ki 0)), po 5 (.mov (ki 0))]
def p271_2 : LP := [pm 6 0, po 7 (c1 99 6), po 8 (.un .not (tm 7))]
def p271_3 : LP := [po 4 (.mov (ki 0)), po 5 (.mov (ki 6))]
def p271_4 : LP := [pm 9 0, pm 10 1, po 11 (.call 298 [(tm 9), (tm 10)]), pm 4 11, po 5 (.mov (ki 0))]
def c271_b : PCode := (.seq (.reg p271_1) (.seq (.seq (.reg p271_2) (.cond (.tmp 8) (.seq (.reg p271_3) .ret) .skip)) (.seq (.reg p271_4) .ret)))
def c271 : FCode := ⟨12, c271_b, [(.tmp 4), (.tmp 5)], some ([4, 5], [], []), false⟩
theorem c271_ok : compF Go.Proofs.Tryz.prog brs 271 = some (eraseF c271) := by kernel_rfl
def p274_1 : LP := [po 4 (.mov (.const (.bool .false)))]
def p274_2 : LP := [pm 5 0, po 6 (.nilC (tm 5)), po 7 (fd 0 6), po 8 (fd 11 7), po 9 (lf 1 8), pm 10 1, po 11 (.arI .and (tm 9) (tm 10)), po 12 (.cmpI .neq (tm 11) (ki 0)), pm 4 12]
def c274_b : PCode := (.seq (.reg p274_1) (.seq (.reg p274_2) .ret))
def c274 : FCode := ⟨13, c274_b, [(.tmp 4)], some ([4], [], []), false⟩
theorem c274_ok : compF Go.Proofs.Tryz.prog brs 274 = some (eraseF c274) := by kernel_rfl
def p276_1 : LP := [po 2 (.alloc [(3, (.int .i64 0))])]
def p276_2 : LP := [pm 3 0, po 4 (.nilC (tm 3)), po 5 (fd 0 4), po 6 (fd 8 5), po 7 (fd 2 6), po 8 (lf 1 7), po 9 (.build [(3, (.int .i64 0))] [(2, (1, (tm 8)))]), pS 3 2 9]
def c276_b : PCode := (.seq (.reg p276_1) (.seq (.reg p276_2) .ret))
def c276 : FCode := ⟨10, c276_b, [(.cell 2 .true 3)], some ([2], [(24, .id 24)], []), false⟩
theorem c276_ok : compF Go.Proofs.Tryz.prog brs 276 = some (eraseF c276) := by kernel_rfl
def p170_4 : LP := [pm 4 0, po 5 (c1 91 4), pm 2 5]
def p170_5 : LP := [pm 6 0, po 7 (.len .false (tm 6)), po 8 (.mov (ki 0))]
def p170_6 : LP := [po 9 (.cmpI .lss (tm 8) (tm 7))]
def p170_7 : LP := [pm 10 8, pm 3 10]
def p170_8 : LP := [pm 11 2, pm 12 3, po 13 (.call 147 [(tm 11), (tm 12)])]
def p170_9 : LP := [pm 14 0, pm 15 3, pm 16 2, pm 17 3, po 18 (.ixS 100 4 (tm 16) (tm 17)), po 19 (fd 1 18), po 20 (lt 3 19), po 21 (c1 152 20), po 22 (.ixS 100 4 (tm 14) (tm 15)), pS 4 22 21]
def p170_10 : LP := [po 23 (.arI .add (tm 8) (ki 1)), pm 8 23]
def c170_1 : PCode := (.keep [0, 2, 7, 8] [(0, .id 0), (48, .id 48)] [] (.seq (.block 1 (.seq (.reg p170_7) (.seq (.reg p170_8) (.cond (.tmp 13) (.reg p170_9) .skip)))) (.reg p170_10)))
def c170_2 : PCode := (.keep [0, 2, 7, 8, 9] [(0, .id 0), (48, .id 48)] [] (.seq (.cond (.tmp 9) .skip (.keep [] [(0, .id 0)] [] (.exit 0))) c170_1))
def c170_3 : PCode := (.keep [0, 2, 7, 8] [(0, .id 0), (48, .id 48)] [] (.seq (.reg p170_6) c170_2))
def c170_b : PCode := (.seq (.reg p170_4) (.seq (.reg p170_5) (.block 0 (.loop c170_3))))
def c170 : FCode := ⟨24, c170_b, [], some ([2000000], [(0, .id 0)], []), false⟩
theorem c170_ok : compF Go.Proofs.Tryz.prog brs 170 = some (eraseF c170) := by kernel_rfl
def p277_1 : LP := [po 5 (.box 3 (tm 0)), po 9 (.box 3 (tm 4))]
def p277_2 : LP := [po 11 (lt 3 5), pm 12 1, po 13 (.callr 38 [(tm 11), (tm 12)]), pm 10 13]
def p277_3 : LP := [pm 14 10, pm 15 2, pm 16 3, po 17 (lt 3 9), po 18 (.build [(4, (.int .i64 0))] [(0, (1, (tm 16))), (1, (3, (tm 17)))]), po 19 (.ixS 100 4 (tm 14) (tm 15)), pS 4 19 18]
def p277_4 : LP := [pm 20 3, po 21 (c1 146 20), po 22 (ck 21 2)]
def p277_5 : LP := [pm 23 10, pm 24 2, po 25 (.arI .add (tm 24) (ki 1)), po 26 (lt 3 9), po 27 (.build [(4, (.int .i64 0))] [(1, (3, (tm 26)))]), po 28 (.ixS 100 4 (tm 23) (tm 25)), pS 4 28 27]
def p277_6 : LP := [pm 29 10, po 30 (.callr 170 [(tm 29)])]
def c277_b : PCode := (.seq (.reg p277_1) (.seq (.reg p277_2) (.seq (.reg p277_3) (.seq (.seq (.reg p277_4) (.cond (.tmp 22) (.reg p277_5) .skip)) (.reg p277_6)))))
def c277 : FCode := ⟨31, c277_b, [], some ([2000000], [(0, .id 0)], []), false⟩
theorem c277_ok : compF Go.Proofs.Tryz.prog brs 277 = some (eraseF c277) := by kernel_rfl
def p246_6 : LP := [pm 6 1, po 7 (.cmpI .geq (tm 6) (ki 0)), pm 8 7, pg 9 8 (.mov (tm 1)), pg 10 8 (.cmpI .leq (tm 9) (ki 127)), po 11 (.pick (tm 8) (tm 10) (.const (.bool .false)))]
def p246_7 : LP := [pm 13 0, pm 14 0, po 15 (.nilC (tm 14)), po 16 (fd 0 15), po 17 (fd 18 16), po 18 (lf 1 17), po 19 (.nilC (tm 13)), po 20 (fd 0 19), po 21 (fd 16 20), po 22 (.ixA 2 1 (tm 21) (tm 18)), po 23 (lf 1 22), pm 24 1, po 25 (.cvI .u8 (tm 24)), po 26 (.call 271 [(tm 23), (tm 25)]), pm 12 26, po 27 (.ext (tm 12) 0), po 28 (.ext (tm 12) 1), pm 1 27]
def p246_8 : LP := [pm 29 1, po 30 (c1 146 29), pm 31 0, po 32 (.nilC (tm 31)), po 33 (fd 0 32), po 34 (fd 0 33), po 35 (fd 0 34), po 36 (lf 1 35), po 37 (.arI .sub (tm 36) (ki 1)), pm 4 30, pm 5 37]
def p246_9 : LP := [pm 38 4, po 39 (ck 38 0), pm 40 39, pf 41 40 (.mov (tm 4)), pf 42 40 (.mov (tm 0)), pf 43 40 (.nilC (tm 42)), pf 44 40 (fd 0 43), pf 45 40 (fd 0 44), pf 46 40 (fd 0 45), pf 47 40 (lf 1 46), pf 48 40 (.cmpI .gtr (tm 41) (tm 47)), po 49 (.pick (tm 40) (.const (.bool .true)) (tm 48))]
def p246_10 : LP := [pm 50 0, po 51 (.nilC (tm 50)), po 52 (fd 0 51), po 53 (fd 5 52), po 54 (lf 1 53)]
def p246_11 : LP := [pm 55 0, po 56 (.callr 272 [(tm 55), (ki 0)])]
def p246_12 : LP := [pm 57 0, po 58 (.callr 273 [(tm 57)])]
def p246_13 : LP := [pm 59 4, po 60 (ck 59 2), pm 61 60, pg 62 61 (.mov (tm 0)), pg 63 61 (.nilC (tm 62)), pg 64 61 (fd 0 63), pg 65 61 (fd 4 64), pg 66 61 (lf 1 65), pg 67 61 (.mov (tm 5)), pg 68 61 (.cmpI .eql (tm 66) (tm 67)), po 69 (.pick (tm 61) (tm 68) (.const (.bool .false)))]
def p246_14 : LP := [pm 70 0, po 71 (.call 274 [(tm 70), (ki 4)]), po 72 (.un .not (tm 71))]
def p246_15 : LP := [pm 73 0, po 74 (.callr 272 [(tm 73), (ki 0)])]
def p246_16 : LP := [pm 75 0, po 76 (.callr 273 [(tm 75)])]
def p246_17 : LP := [pm 77 0, po 78 (.call 274 [(tm 77), (ki 1)])]
def p246_18 : LP := [pm 79 0, po 80 (.nilC (tm 79)), po 81 (fd 0 80), po 82 (fd 0 81), po 83 (lt 3 82), pm 84 0, po 85 (.nilC (tm 84)), po 86 (fd 0 85), po 87 (fd 3 86), po 88 (lf 1 87), pm 89 0, po 90 (.nilC (tm 89)), po 91 (fd 0 90), po 92 (fd 4 91), po 93 (lf 1 92), pm 94 0, po 95 (.nilC (tm 94)), po 96 (fd 0 95), po 97 (fd 0 96), po 98 (fd 0 97), po 99 (lf 1 98), pm 100 4, pm 101 0, po 102 (c1 276 101), po 103 (.callr 275 [(tm 83), (tm 88), (tm 93), (tm 99), (tm 100), (tm 102)])]
def p246_19 : LP := [pm 104 0, po 105 (.nilC (tm 104)), po 106 (fd 0 105), po 107 (fd 0 106), po 108 (lt 3 107), pm 109 0, po 110 (.nilC (tm 109)), po 111 (fd 0 110), po 112 (fd 3 111), po 113 (lf 1 112), pm 114 0, po 115 (.nilC (tm 114)), po 116 (fd 0 115), po 117 (fd 4 116), po 118 (lf 1 117), pm 119 1, pm 120 0, po 121 (.nilC (tm 120)), po 122 (fd 0 121), po 123 (fd 8 122), po 124 (lt 3 123), po 125 (.callr 277 [(tm 108), (tm 113), (tm 118), (tm 119), (tm 124)])]
def p246_20 : LP := [pm 126 0, po 127 (.nilC (tm 126)), po 128 (fd 0 127), po 129 (fd 4 128), po 130 (lf 1 129), pm 131 4, po 132 (.arI .add (tm 130) (tm 131)), po 133 (.nilC (tm 126)), po 134 (fd 0 133), po 135 (fd 4 134), pS 1 135 132]
def p246_21 : LP := [pm 136 0, po 137 (.nilC (tm 136)), po 138 (fd 0 137), po 139 (fd 4 138), po 140 (lf 1 139), pm 141 5, po 142 (.cmpI .gtr (tm 140) (tm 141))]
def p246_22 : LP := [pm 143 0, pm 144 0, pm 145 5, pm 146 0, po 147 (.call 274 [(tm 146), (ki 4)]), po 148 (.nilC (tm 143)), po 149 (fd 0 148), po 150 (fd 4 149), pS 1 150 145, po 151 (.nilC (tm 144)), po 152 (fd 0 151), po 153 (fd 5 152), pS 1 153 147]
def c246_1 : PCode := (.keep [0, 1, 4, 5, 1000001, 1000002, 1000003] [(0, .id 0), (1, .id 1), (2, .id 2), (3, .id 3)] [] (.seq (.regD p246_19 []) (.seq (.reg p246_20) (.seq (.reg p246_21) (.cond (.tmp 142) (.reg p246_22) .skip)))))
def c246_2 : PCode := (.keep [0, 1, 4, 5, 1000001, 1000002, 1000003] [(0, .id 0), (1, .id 1), (2, .id 2), (3, .id 3)] [] (.seq (.seq (.reg p246_17) (.cond (.tmp 78) (.regD p246_18 [(4, 23), (9, 23), (14, 23), (20, 23)]) .skip)) c246_1))
def c246_3 : PCode := (.keep [0, 1, 4, 5, 1000001, 1000002, 1000003] [(0, .id 0), (1, .id 1), (2, .id 2), (3, .id 3)] [] (.seq (.seq (.reg p246_13) (.cond (.tmp 69) (.seq (.seq (.reg p246_14) (.cond (.tmp 72) .ret .skip)) (.seq (.reg p246_15) (.reg p246_16))) .skip)) c246_2))
def c246_4 : PCode := (.keep [0, 1, 4, 5, 1000001, 1000002, 1000003] [(0, .id 0), (1, .id 1), (2, .id 2), (3, .id 3)] [] (.seq (.seq (.reg p246_10) (.cond (.tmp 54) (.seq (.reg p246_11) (.reg p246_12)) .skip)) c246_3))
def c246_5 : PCode := (.keep [0, 1, 1000001, 1000002, 1000003] [(0, .id 0), (1, .id 1), (2, .id 2), (3, .id 3)] [] (.seq (.regD p246_8 [(1, 7)]) (.seq (.seq (.reg p246_9) (.cond (.tmp 49) .ret .skip)) c246_4)))
def c246_b : PCode := (.seq (.seq (.reg p246_6) (.cond (.tmp 11) (.regD p246_7 []) .skip)) c246_5)
def c246 : FCode := ⟨154, c246_b, [], some ([1000001, 1000002, 1000003], [(0, .id 0), (1, .id 1), (2, .id 2), (3, .id 3)], []), false⟩
theorem c246_ok : compF Go.Proofs.Tryz.prog brs 246 = some (eraseF c246) := by kernel_rfl
def p300_1 : LP := [po 2 (.box 3 (tm 0)), po 4 (.nilS 100 4)]
def p300_2 : LP := [po 5 (lt 3 2), pm 6 1, po 7 (.callr 38 [(tm 5), (tm 6)]), po 8 (c1 91 7), pm 4 8]
def c300_b : PCode := (.seq (.reg p300_1) (.seq (.reg p300_2) .ret))
def c300 : FCode := ⟨9, c300_b, [(.tmp 4)], some ([4], [(72, .id 72)], []), false⟩
theorem c300_ok : compF Go.Proofs.Tryz.prog brs 300 = some (eraseF c300) := by kernel_rfl
def p315_1 : LP := [po 2 (.nilS 100 4)]
def p315_2 : LP := [po 3 (fd 0 0), po 4 (lf 1 3), po 5 (lt 3 1), po 6 (.call 90 [(tm 4), (ki 1), (tm 5)]), po 7 (.fldV .false 2 1 (tm 6)), pm 2 7]
def c315_b : PCode := (.seq (.reg p315_1) (.seq (.reg p315_2) .ret))
def c315 : FCode := ⟨8, c315_b, [(.tmp 2)], some ([2], [(56, .id 56)], []), false⟩
theorem c315_ok : compF Go.Proofs.Tryz.prog brs 315 = some (eraseF c315) := by kernel_rfl
def p314_6 : LP := [po 6 (.nilS 32 1)]
def p314_7 : LP := [po 7 (.nilS 32 1)]
def p314_8 : LP := [pm 10 0, po 11 (.len .false (tm 10)), po 12 (.mov (ki 0))]
def p314_9 : LP := [po 13 (.cmpI .lss (tm 12) (tm 11))]
def p314_10 : LP := [pm 14 12, pm 8 14]
def p314_11 : LP := [pm 15 8, pm 16 1, po 17 (.arI .sub (tm 15) (tm 16)), pm 9 17]
def p314_12 : LP := [pm 18 9, po 19 (.cmpI .geq (tm 18) (ki 0)), pm 20 19, pg 21 20 (.mov (tm 9)), pg 22 20 (.mov (tm 0)), pg 23 20 (.len .false (tm 22)), pg 24 20 (.cmpI .lss (tm 21) (tm 23)), po 25 (.pick (tm 20) (tm 24) (.const (.bool .false)))]
def p314_13 : LP := [pm 26 7, pm 27 0, pm 28 9, po 29 (.ixS 32 1 (tm 27) (tm 28)), po 30 (lf 1 29), po 31 (.bsl 32 1 1 [(1, (.slice .none 0 0))] [(0, (1, (tm 30)))]), po 32 (.app 32 1 24 (tm 26) (tm 31)), pm 7 32]
def p314_14 : LP := [pm 33 7, pm 34 2, po 35 (.callv (tm 34) []), po 36 (.bsl 32 1 1 [(1, (.slice .none 0 0))] [(0, (1, (tm 35)))]), po 37 (.app 32 1 24 (tm 33) (tm 36)), pm 7 37]
def c314_1 : PCode := (.keep [0, 1, 2, 7, 11, 12] [(1, .id 1), (3, .id 3), (2, .id 2), (0, .id 0), (64, .id 64)] [] (.reg p314_14))
def p314_15 : LP := [po 38 (.arI .add (tm 12) (ki 1)), pm 12 38]
def c314_2 : PCode := (.reg p314_15)
def c314_3 : PCode := (.keep [0, 1, 2, 7, 11, 12] [(1, .id 1), (3, .id 3), (2, .id 2), (0, .id 0), (64, .id 64)] [] (.seq (.block 1 (.seq (.reg p314_10) (.seq (.reg p314_11) (.seq (.reg p314_12) (.cond (.tmp 25) (.reg p314_13) c314_1))))) c314_2))
def c314_4 : PCode := (.keep [0, 1, 2, 7, 11, 12, 13] [(1, .id 1), (3, .id 3), (2, .id 2), (0, .id 0), (64, .id 64)] [] (.seq (.cond (.tmp 13) .skip (.keep [7] [(1, .id 1), (3, .id 3), (2, .id 2), (0, .id 0), (64, .id 64)] [] (.exit 0))) c314_3))
def c314_5 : PCode := (.keep [0, 1, 2, 7, 11, 12] [(1, .id 1), (3, .id 3), (2, .id 2), (0, .id 0), (64, .id 64)] [] (.seq (.reg p314_9) c314_4))
def p314_16 : LP := [pm 39 7, pm 6 39]
def c314_b : PCode := (.seq (.reg p314_6) (.seq (.reg p314_7) (.seq (.seq (.reg p314_8) (.block 0 (.loop c314_5))) (.seq (.reg p314_16) .ret))))
def c314 : FCode := ⟨40, c314_b, [(.tmp 6)], some ([6, 2000000], [(1, .id 1), (3, .id 3), (2, .id 2), (0, .id 0), (64, .id 64)], []), false⟩
theorem c314_ok : compF Go.Proofs.Tryz.prog brs 314 = some (eraseF c314) := by kernel_rfl
def p301_7 : LP := [po 5 (.box 3 (tm 0)), po 9 (.box 3 (tm 4))]
def p301_8 : LP := [po 10 (.nilS 32 1)]
def p301_9 : LP := [pm 14 1, pm 11 14]
def p301_10 : LP := [pm 15 11, pm 16 2, po 17 (.cmpI .lss (tm 15) (tm 16))]
def p301_11 : LP := [pm 20 10, po 21 (lt 3 5), pm 22 11, po 23 (.callr 38 [(tm 21), (tm 22)]), po 24 (c1 91 23), po 25 (.bsl 32 1 1 [(1, (.slice .none 0 0))] [(0, (1, (tm 24)))]), po 26 (.app 32 1 24 (tm 20) (tm 25)), pm 10 26]
def p301_12 : LP := [pm 18 11, po 19 (.arI .add (tm 18) (ki 1)), pm 11 19]
def c301_5 : PCode := (.keep [1, 2, 3, 5, 9, 10, 11] [(0, .id 0), (48, .id 48), (80, .id 80), (88, .id 88)] [] (.seq (.block 1 (.reg p301_11)) (.reg p301_12)))
def c301_6 : PCode := (.keep [1, 2, 3, 5, 9, 10, 11] [(0, .id 0), (48, .id 48), (80, .id 80), (88, .id 88)] [] (.seq (.seq (.reg p301_10) (.cond (.tmp 17) .skip (.keep [1, 3, 5, 9, 10] [(0, .id 0), (48, .id 48), (80, .id 80), (88, .id 88)] [] (.exit 0)))) c301_5))
def p301_13 : LP := [pm 27 10, pm 28 3, po 29 (.un .neg (tm 28)), po 30 (.mkF 315 [(tm 5), (tm 9)]), po 31 (.callr 314 [(tm 27), (tm 29), (tm 30)]), pm 10 31]
def p301_14 : LP := [pm 32 10, po 33 (.len .false (tm 32)), po 34 (.mov (ki 0))]
def p301_15 : LP := [po 35 (.cmpI .lss (tm 34) (tm 33))]
def p301_16 : LP := [pm 36 34, po 37 (.ixS 32 1 (tm 32) (tm 34)), po 38 (lf 1 37), pm 12 36, pm 13 38]
def p301_17 : LP := [po 39 (lt 3 5), pm 40 1, pm 41 12, po 42 (.arI .add (tm 40) (tm 41)), po 43 (.callr 38 [(tm 39), (tm 42)]), pm 44 13, po 45 (.cpy 4 (tm 43) (tm 44))]
def p301_18 : LP := [po 46 (.arI .add (tm 34) (ki 1)), pm 34 46]
def c301_1 : PCode := (.keep [1, 5, 32, 33, 34] [(0, .id 0), (48, .id 48), (256, .id 256)] [] (.seq (.block 3 (.seq (.reg p301_16) (.reg p301_17))) (.reg p301_18)))
def c301_2 : PCode := (.keep [1, 5, 32, 33, 34, 35] [(0, .id 0), (48, .id 48), (256, .id 256)] [] (.seq (.cond (.tmp 35) .skip (.keep [] [(0, .id 0)] [] (.exit 2))) c301_1))
def c301_3 : PCode := (.keep [1, 5, 32, 33, 34] [(0, .id 0), (48, .id 48), (256, .id 256)] [] (.seq (.reg p301_15) c301_2))
def c301_4 : PCode := (.keep [1, 3, 5, 9, 10] [(0, .id 0), (48, .id 48), (80, .id 80), (88, .id 88)] [] (.seq (.reg p301_13) (.seq (.reg p301_14) (.block 2 (.loop c301_3)))))
def c301_b : PCode := (.seq (.reg p301_7) (.seq (.reg p301_8) (.seq (.seq (.reg p301_9) (.block 0 (.loop c301_6))) c301_4)))
def c301 : FCode := ⟨47, c301_b, [], some ([2000000], [(0, .id 0)], []), false⟩
theorem c301_ok : compF Go.Proofs.Tryz.prog brs 301 = some (eraseF c301) := by kernel_rfl
def p273_2 : LP := [pm 2 0, po 3 (.nilC (tm 2)), po 4 (fd 0 3), po 5 (fd 5 4), ⟨.none, (.store 1 (tm 5) (.const (.bool .false))), .none⟩]
def p273_3 : LP := [pm 7 0, po 8 (.nilC (tm 7)), po 9 (fd 0 8), po 10 (fd 3 9), po 11 (lf 1 10), pm 12 0, po 13 (.nilC (tm 12)), po 14 (fd 0 13), po 15 (fd 7 14), po 16 (lf 1 15), po 17 (.arI .sub (tm 16) (ki 1)), po 18 (.cmpI .eql (tm 11) (tm 17)), pm 6 18]
def p273_4 : LP := [pm 19 0, po 20 (.nilC (tm 19)), po 21 (fd 0 20), po 22 (fd 6 21), po 23 (lf 1 22), po 24 (ck 23 0), pm 25 24, pg 26 25 (.mov (tm 0)), pg 27 25 (.call 274 [(tm 26), (ki 256)]), pg 28 25 (.un .not (tm 27)), po 29 (.pick (tm 25) (tm 28) (.const (.bool .false)))]
def p273_5 : LP := [pm 30 0, pm 31 0, po 32 (.nilC (tm 31)), po 33 (fd 0 32), po 34 (fd 32 33), po 35 (lf 1 34), pm 36 0, po 37 (.nilC (tm 36)), po 38 (fd 0 37), po 39 (fd 0 38), po 40 (lt 3 39), po 41 (.call 300 [(tm 40), (ki 0)]), po 42 (.build [(1, (.slice .none 0 0))] [(0, (1, (tm 41)))]), po 43 (.bsl 91 1 1 [(1, (.slice .none 0 0))] [(0, (1, (tm 42)))]), po 44 (.app 91 1 24 (tm 35) (tm 43)), po 45 (.nilC (tm 30)), po 46 (fd 0 45), po 47 (fd 32 46), pS 1 47 44]
def p273_6 : LP := [pm 48 0, po 49 (.nilC (tm 48)), po 50 (fd 0 49), po 51 (fd 32 50), po 52 (lf 1 51), po 53 (.len .false (tm 52)), po 54 (.cmpI .gtr (tm 53) (ki 40))]
def p273_7 : LP := [pm 55 0, pm 56 0, po 57 (.nilC (tm 56)), po 58 (fd 0 57), po 59 (fd 32 58), po 60 (lf 1 59), po 61 (.slS 91 1 (tm 60) (.some (ki 1)) .none), po 62 (.nilC (tm 55)), po 63 (fd 0 62), po 64 (fd 32 63), pS 1 64 61]
def p273_8 : LP := [pm 65 0, po 66 (.nilC (tm 65)), po 67 (fd 0 66), po 68 (fd 0 67), po 69 (lt 3 68), pm 70 0, po 71 (.nilC (tm 70)), po 72 (fd 0 71), po 73 (fd 6 72), po 74 (lf 1 73), pm 75 0, po 76 (.nilC (tm 75)), po 77 (fd 0 76), po 78 (fd 7 77), po 79 (lf 1 78), pm 80 0, po 81 (c1 276 80), po 82 (.callr 301 [(tm 69), (tm 74), (tm 79), (ki 1), (tm 81)])]
def c273_1 : PCode := (.keep [0, 1000001, 1000002, 1000003] [(0, .id 0), (1, .id 1), (2, .id 2), (3, .id 3)] [] (.regD p273_8 [(4, 16), (9, 16), (14, 16)]))
def p273_9 : LP := [pm 84 0, po 85 (.nilC (tm 84)), po 86 (fd 0 85), po 87 (fd 3 86), po 88 (lf 1 87), pm 89 0, po 90 (.nilC (tm 89)), po 91 (fd 0 90), po 92 (fd 0 91), po 93 (fd 1 92), po 94 (lf 1 93), po 95 (.arI .sub (tm 94) (ki 1)), po 96 (.cmpI .lss (tm 88) (tm 95)), pm 83 96]
def p273_10 : LP := [pm 97 0, po 98 (.nilC (tm 97)), po 99 (fd 0 98), po 100 (fd 3 99), po 101 (lf 1 100), po 102 (.arI .add (tm 101) (ki 1)), po 103 (.nilC (tm 97)), po 104 (fd 0 103), po 105 (fd 3 104), pS 1 105 102]
def c273_11 : PCode := (.cond (.tmp 6) (.seq (.seq (.reg p273_4) (.cond (.tmp 29) (.seq (.regD p273_5 [(5, 11), (5, 13)]) (.seq (.reg p273_6) (.cond (.tmp 54) (.reg p273_7) .skip))) .skip)) c273_1) (.seq (.regD p273_9 []) (.cond (.tmp 83) (.reg p273_10) .skip)))
def c273_b : PCode := (.seq (.reg p273_2) (.block 0 (.seq (.regD p273_3 []) c273_11)))
def c273 : FCode := ⟨106, c273_b, [], some ([1000001, 1000002, 1000003], [(0, .id 0), (1, .id 1), (2, .id 2), (3, .id 3)], []), false⟩
theorem c273_ok : compF Go.Proofs.Tryz.prog brs 273 = some (eraseF c273) := by kernel_rfl
def p299_1 : LP := [po 6 (.mov (ki 0))]
def p299_2 : LP := [pm 7 1, pm 8 0, pm 9 2, po 10 (.mn [(tm 8), (tm 9)]), po 11 (.mx [(tm 7), (tm 10)]), pm 6 11]
def c299_b : PCode := (.seq (.reg p299_1) (.seq (.reg p299_2) .ret))
def c299 : FCode := ⟨12, c299_b, [(.tmp 6)], some ([6], [], []), false⟩
theorem c299_ok : compF Go.Proofs.Tryz.prog brs 299 = some (eraseF c299) := by kernel_rfl
def p272_1 : LP := [pm 4 0, po 5 (.nilC (tm 4)), po 6 (fd 0 5), po 7 (fd 5 6), ⟨.none, (.store 1 (tm 7) (.const (.bool .false))), .none⟩]
def p272_2 : LP := [pm 8 0, pm 9 1, pm 10 0, po 11 (.nilC (tm 10)), po 12 (fd 0 11), po 13 (fd 0 12), po 14 (fd 0 13), po 15 (lf 1 14), po 16 (.arI .sub (tm 15) (ki 1)), po 17 (.call 299 [(tm 9), (ki 0), (tm 16)]), po 18 (.nilC (tm 8)), po 19 (fd 0 18), po 20 (fd 4 19), pS 1 20 17]
def c272_b : PCode := (.seq (.reg p272_1) (.reg p272_2))
def c272 : FCode := ⟨21, c272_b, [], some ([2000000], [(0, .id 0), (1, .id 1), (2, .id 2), (3, .id 3)], []), false⟩
theorem c272_ok : compF Go.Proofs.Tryz.prog brs 272 = some (eraseF c272) := by kernel_rfl
def p247_2 : LP := [pm 6 1]
def p247_3 : LP := [po 8 (ck 6 8), pm 7 8]
def p247_4 : LP := [pm 9 0, pm 10 0, po 11 (.nilC (tm 10)), po 12 (fd 0 11), po 13 (fd 4 12), po 14 (lf 1 13), po 15 (.arI .sub (tm 14) (ki 1)), po 16 (.callr 272 [(tm 9), (tm 15)])]
def p247_5 : LP := [po 18 (ck 6 9), pm 17 18]
def p247_6 : LP := [pm 20 0, po 21 (.nilC (tm 20)), po 22 (fd 0 21), po 23 (fd 12 22), po 24 (lt 4 23), pm 25 0, po 26 (.nilC (tm 25)), po 27 (fd 0 26), po 28 (fd 4 27), po 29 (lf 1 28), pm 30 0, po 31 (.nilC (tm 30)), po 32 (fd 0 31), po 33 (fd 0 32), po 34 (fd 0 33), po 35 (lf 1 34), po 36 (.call 278 [(tm 24), (tm 29), (ki 1), (tm 35)]), pm 19 36, po 37 (.ext (tm 19) 0), po 38 (.ext (tm 19) 1), pm 4 37, pm 5 38]
def p247_7 : LP := [pm 39 0, pm 40 4, po 41 (.callr 272 [(tm 39), (tm 40)])]
def p247_8 : LP := [po 43 (ck 6 10), pm 42 43]
def p247_9 : LP := [po 44 (ck 6 11), pm 42 44]
def p247_10 : LP := [po 45 (ck 6 12), pm 42 45]
def p247_11 : LP := [pm 46 0, po 47 (.callr 273 [(tm 46)])]
def p247_12 : LP := [pm 48 0, po 49 (.call 274 [(tm 48), (ki 128)])]
def p247_13 : LP := [pm 50 0, po 51 (.callr 272 [(tm 50), (ki 0)])]
def p247_14 : LP := [po 53 (ck 6 13), pm 52 53]
def p247_15 : LP := [pm 54 0, po 55 (.callr 272 [(tm 54), (ki 0)])]
def p247_16 : LP := [po 57 (ck 6 14), pm 56 57]
def p247_17 : LP := [pm 58 0, po 59 (.nilC (tm 58)), po 60 (fd 0 59), po 61 (fd 18 60), ⟨.none, (.store 1 (tm 61) (ki 1)), .none⟩]
def p247_18 : LP := [po 63 (ck 6 15), pm 62 63]
def p247_19 : LP := [pm 64 0, po 65 (.nilC (tm 64)), po 66 (fd 0 65), po 67 (fd 18 66), ⟨.none, (.store 1 (tm 67) (ki 0)), .none⟩]
def c247_1 : PCode := (.keep [0, 6, 42, 1000001, 1000002, 1000003] [(0, .id 0), (1, .id 1), (2, .id 2), (3, .id 3)] [] (.cond (.tmp 42) (.seq (.reg p247_11) (.seq (.reg p247_12) (.cond (.tmp 49) (.reg p247_13) .skip))) (.seq (.reg p247_14) (.cond (.tmp 52) (.reg p247_15) (.seq (.reg p247_16) (.cond (.tmp 56) (.reg p247_17) (.seq (.reg p247_18) (.cond (.tmp 62) (.reg p247_19) .skip))))))))
def c247_20 : PCode := (.cond (.tmp 7) (.reg p247_4) (.seq (.reg p247_5) (.cond (.tmp 17) (.seq (.regD p247_6 []) (.reg p247_7)) (.seq (.seq (.reg p247_8) (.cond (.tmp 42) .skip (.seq (.reg p247_9) (.cond (.tmp 42) .skip (.reg p247_10))))) c247_1))))
def c247_b : PCode := (.seq (.reg p247_2) (.block 0 (.seq (.reg p247_3) c247_20)))
def c247 : FCode := ⟨68, c247_b, [], some ([1000001, 1000002, 1000003], [(0, .id 0), (1, .id 1), (2, .id 2), (3, .id 3)], []), false⟩
theorem c247_ok : compF Go.Proofs.Tryz.prog brs 247 = some (eraseF c247) := by kernel_rfl
def p210_1 : LP := [po 3 (.box 6 (tm 1))]
def p210_2 : LP := [po 5 (fd 0 3), po 6 (lf 1 5), po 7 (ck 6 1), pm 4 7]
def p210_3 : LP := [pm 8 0, po 9 (fd 1 3), po 10 (lf 1 9), po 11 (.callr 246 [(tm 8), (tm 10)])]
def p210_4 : LP := [po 13 (fd 0 3), po 14 (lf 1 13), po 15 (ck 14 2), pm 12 15]
def p210_5 : LP := [pm 16 0, po 17 (fd 1 3), po 18 (lf 1 17), po 19 (.callr 247 [(tm 16), (tm 18)])]
def p210_6 : LP := [po 21 (fd 0 3), po 22 (lf 1 21), po 23 (ck 22 3), pm 24 23, pg 25 24 (fd 3 3), pg 26 24 (lf 1 25), pg 27 24 (.strO .eql (tm 26) (.const (.string ⟨#[]⟩))), po 28 (.pick (tm 24) (tm 27) (.const (.bool .false))), pm 20 28]
def p210_7 : LP := [pm 29 0, po 30 (fd 1 3), po 31 (lf 1 30), po 32 (.callr 248 [(tm 29), (tm 31)])]
def p210_8 : LP := [po 34 (fd 0 3), po 35 (lf 1 34), po 36 (ck 35 3), pm 33 36]
def p210_9 : LP := [pm 37 0, po 38 (fd 3 3), po 39 (lf 1 38), po 40 (fd 1 3), po 41 (lf 1 40), po 42 (.callr 249 [(tm 37), (tm 39), (tm 41)])]
def p210_10 : LP := [po 44 (fd 0 3), po 45 (lf 1 44), po 46 (ck 45 5), pm 43 46]
def p210_11 : LP := [po 47 (fd 5 3), po 48 (lf 1 47), po 49 (.call 214 [(tm 48), (.const (.string ⟨#[48, 59]⟩))]), pm 50 49, pf 51 50 (fd 5 3), pf 52 50 (lf 1 51), pf 53 50 (.call 214 [(tm 52), (.const (.string ⟨#[50, 59]⟩))]), po 54 (.pick (tm 50) (.const (.bool .true)) (tm 53))]
def p210_12 : LP := [pm 55 0, po 56 (fd 5 3), po 57 (lf 1 56), po 58 (.slStr (tm 57) (.some (ki 2)) .none), po 59 (.nilC (tm 55)), po 60 (fd 0 59), po 61 (fd 31 60), pS 1 61 58]
def p210_13 : LP := [po 63 (fd 0 3), po 64 (lf 1 63), po 65 (ck 64 4), pm 66 65, pg 67 66 (fd 3 3), pg 68 66 (lf 1 67), pg 69 66 (.strO .eql (tm 68) (.const (.string ⟨#[]⟩))), po 70 (.pick (tm 66) (tm 69) (.const (.bool .false))), pm 62 70]
def p210_14 : LP := [pm 71 0, po 72 (lt 6 3), po 73 (.callr 250 [(tm 71), (tm 72)])]
def c210_15 : PCode := (.seq (.reg p210_8) (.cond (.tmp 33) (.reg p210_9) (.seq (.reg p210_10) (.cond (.tmp 43) (.seq (.reg p210_11) (.cond (.tmp 54) (.reg p210_12) .skip)) (.seq (.reg p210_13) (.cond (.tmp 62) (.reg p210_14) .skip))))))
def c210_b : PCode := (.seq (.reg p210_1) (.block 0 (.seq (.reg p210_2) (.cond (.tmp 4) (.reg p210_3) (.seq (.reg p210_4) (.cond (.tmp 12) (.reg p210_5) (.seq (.reg p210_6) (.cond (.tmp 20) (.reg p210_7) c210_15))))))))
def c210 : FCode := ⟨74, c210_b, [], some ([1000001, 1000002, 1000003], [(0, .id 0), (1, .id 1), (2, .id 2), (3, .id 3)], []), false⟩
theorem c210_ok : compF Go.Proofs.Tryz.prog brs 210 = some (eraseF c210) := by kernel_rfl
def p161_7 : LP := [po 2 (.box 33 (tm 0)), po 4 (.alloc q18_), po 5 (.mov (.const (.string ⟨#[]⟩))), po 6 (.mov (ki 0))]
def p161_8 : LP := [po 12 (lt 33 2), po 13 (c1 55 12), pm 7 13]
def p161_9 : LP := [pm 14 7, po 15 (.cmpI .neq (tm 14) (ki 0))]
def p161_10 : LP := [po 16 (lt 33 2), po 17 (.callf 59 [(tm 16)]), pm 18 7, pS 33 4 17, po 5 (.mov (.const (.string ⟨#[]⟩))), pm 6 18]
def p161_11 : LP := [pm 19 1, po 20 (c1 209 19), pm 8 20]
def p161_12 : LP := [pm 21 8, po 22 (.cmpI .neq (tm 21) (ki 0))]
def p161_13 : LP := [po 23 (lt 33 2), po 24 (.callf 59 [(tm 23)]), pm 25 8, pS 33 4 24, po 5 (.mov (.const (.string ⟨#[]⟩))), pm 6 25]
def p161_14 : LP := [po 26 (lt 33 2), po 27 (.callf 59 [(tm 26)]), po 28 (.build [(2, (.int .i64 0)), (1, (.slice .none 0 0)), (2, (.int .i64 0)), (1, (.bool .false)), (6, (.int .i64 0)), (4, (.int .u64 0)), (8, (.int .i64 0)), (1, (.bool .false)), (5, (.int .i64 0)), (1, (.slice .none 0 0)), (1, (.string ⟨#[]⟩)), (1, (.slice .none 0 0)), (1, (.string ⟨#[]⟩))] [(0, (33, (tm 27)))]), po 29 (.box 34 (tm 28)), pm 9 29]
def p161_15 : LP := [pm 30 1, po 31 (.len .false (tm 30)), po 32 (.mov (ki 0))]
def p161_16 : LP := [po 33 (.cmpI .lss (tm 32) (tm 31))]
def p161_17 : LP := [po 34 (.ixS 81 6 (tm 30) (tm 32)), po 35 (lt 6 34), po 11 (.alloc q23_), pS 6 11 35]
def p161_18 : LP := [pm 36 9, po 37 (lt 6 11), po 38 (.callr 210 [(tm 36), (tm 37)])]
def p161_19 : LP := [po 39 (.arI .add (tm 32) (ki 1)), pm 32 39]
def c161_2 : PCode := (.keep [4, 9, 30, 31, 32] [(40, .id 40), (240, .id 240), (224, .id 224), (225, .id 225), (226, .id 226)] [] (.seq (.block 1 (.seq (.reg p161_17) (.reg p161_18))) (.reg p161_19)))
def c161_3 : PCode := (.keep [4, 9, 30, 31, 32, 33] [(40, .id 40), (240, .id 240), (224, .id 224), (225, .id 225), (226, .id 226)] [] (.seq (.cond (.tmp 33) .skip (.keep [4, 9] [(40, .id 40), (240, .id 240), (224, .id 224), (225, .id 225), (226, .id 226)] [] (.exit 0))) c161_2))
def c161_4 : PCode := (.keep [4, 9, 30, 31, 32] [(40, .id 40), (240, .id 240), (224, .id 224), (225, .id 225), (226, .id 226)] [] (.seq (.reg p161_16) c161_3))
def p161_20 : LP := [pm 40 9, po 41 (.nilC (tm 40)), po 42 (fd 0 41), po 43 (lt 33 42), pm 44 9, po 45 (.nilC (tm 44)), po 46 (fd 33 45), po 47 (lf 1 46), pS 33 4 43, pm 5 47, po 6 (.mov (ki 0))]
def c161_1 : PCode := (.keep [4, 9] [(40, .id 40), (240, .id 240), (224, .id 224), (225, .id 225), (226, .id 226)] [] (.seq (.regD p161_20 [(7, 8)]) .ret))
def c161_5 : PCode := (.keep [1, 2, 4] [(24, .id 24), (40, .id 40)] [] (.seq (.reg p161_14) (.seq (.seq (.reg p161_15) (.block 0 (.loop c161_4))) c161_1)))
def c161_6 : PCode := (.keep [1, 2, 4] [(24, .id 24), (40, .id 40)] [.cell 40 2 0 0 1, .cell 40 30 0 0 1, .cell 40 32 0 0 1] (.seq (.seq (.reg p161_11) (.seq (.reg p161_12) (.cond (.tmp 22) (.seq (.reg p161_13) .ret) .skip))) c161_5))
def c161_b : PCode := (.seq (.reg p161_7) (.seq (.seq (.reg p161_8) (.seq (.reg p161_9) (.cond (.tmp 15) (.seq (.reg p161_10) .ret) .skip))) c161_6))
def c161 : FCode := ⟨48, c161_b, [(.cell 4 .true 33), (.tmp 5), (.tmp 6)], some ([4, 5, 6], [(40, .id 40), (224, .id 224), (225, .id 225), (226, .id 226)], []), false⟩
theorem c161_ok : compF Go.Proofs.Tryz.prog brs 161 = some (eraseF c161) := by kernel_rfl
def p103_3 : LP := [pm 8 0, pm 9 0, po 10 (.nilC (tm 9)), po 11 (fd 0 10), po 12 (fd 5 11), po 13 (lf 1 12), pm 14 1, pm 15 0, po 16 (.call 107 [(tm 15), (ki 0)]), po 17 (.call 158 [(tm 13), (tm 14), (tm 16)]), pm 7 17, po 18 (.ext (tm 7) 0), po 19 (.ext (tm 7) 1), po 20 (.nilC (tm 8)), po 21 (fd 0 20), po 22 (fd 5 21), pS 1 22 18, pm 1 19]
def p103_4 : LP := [po 4 (.nilS 3 1)]
def p103_5 : LP := [pm 24 0, pm 25 0, po 26 (.nilC (tm 25)), po 27 (fd 0 26), po 28 (fd 6 27), po 29 (lf 1 28), pm 30 1, po 31 (.call 159 [(tm 29), (tm 30)]), pm 23 31, po 32 (.ext (tm 23) 0), po 33 (.ext (tm 23) 1), po 34 (.ext (tm 23) 2), po 35 (.nilC (tm 24)), po 36 (fd 0 35), po 37 (fd 6 36), pS 1 37 32, pm 4 33]
def p103_6 : LP := [po 5 (.nilS 81 6)]
def p103_7 : LP := [pm 39 0, pm 40 0, po 41 (.nilC (tm 40)), po 42 (fd 0 41), po 43 (fd 7 42), po 44 (lt 5 43), pm 45 4, po 46 (.callf 160 [(tm 44), (tm 45)]), pm 38 46, po 47 (.ext (tm 38) 0), po 48 (.ext (tm 38) 1), po 49 (.ext (tm 38) 2), po 50 (.nilC (tm 39)), po 51 (fd 0 50), po 52 (fd 7 51), pS 5 52 47, pm 5 48]
def p103_8 : LP := [po 6 (.mov (.const (.string ⟨#[]⟩)))]
def p103_9 : LP := [pm 54 0, pm 55 0, po 56 (.nilC (tm 55)), po 57 (fd 0 56), po 58 (fd 12 57), po 59 (lt 33 58), pm 60 5, po 61 (.callf 161 [(tm 59), (tm 60)]), pm 53 61, po 62 (.ext (tm 53) 0), po 63 (.ext (tm 53) 1), po 64 (.ext (tm 53) 2), po 65 (.nilC (tm 54)), po 66 (fd 0 65), po 67 (fd 12 66), pS 33 67 62, pm 6 63]
def p103_10 : LP := [pm 68 6, po 69 (.strO .neq (tm 68) (.const (.string ⟨#[]⟩)))]
def p103_11 : LP := [pm 70 0, pm 71 6, po 72 (.callr 65 [(tm 70), (tm 71)])]
def c103_1 : PCode := (.keep [0, 5] [(0, .id 0)] [] (.seq (.reg p103_9) (.seq (.reg p103_10) (.cond (.tmp 69) (.reg p103_11) .skip))))
def c103_2 : PCode := (.keep [0, 4] [(0, .id 0)] [] (.seq (.reg p103_7) (.seq (.reg p103_8) c103_1)))
def c103_b : PCode := (.seq (.regD p103_3 [(5, 8)]) (.seq (.reg p103_4) (.seq (.reg p103_5) (.seq (.reg p103_6) c103_2))))
def c103 : FCode := ⟨73, c103_b, [], some ([], [(0, .id 0)], []), false⟩
theorem c103_ok : compF Go.Proofs.Tryz.prog brs 103 = some (eraseF c103) := by kernel_rfl
def p60_5 : LP := [po 4 (.mov (ki 0))]
def p60_6 : LP := [pm 10 1, po 11 (.len .true (tm 10)), po 12 (.cmpI .gtr (tm 11) (ki 4096))]
def p60_7 : LP := [po 4 (.mov (ki 2))]
def p60_8 : LP := [pm 14 0, po 15 (.nilC (tm 14)), po 16 (fd 0 15), po 17 (fd 0 16), po 18 (lt 5 17), pm 19 1, po 20 (.call 102 [(tm 18), (tm 19)]), pm 13 20, po 21 (.ext (tm 13) 0), po 22 (.ext (tm 13) 1), po 23 (.ext (tm 13) 2), po 5 (.alloc [(3, (.int .i64 0)), (1, (.string ⟨#[]⟩)), (1, (.bool .false))]), pS 5 5 21, pm 6 22, pm 7 23]
def p60_9 : LP := [pm 24 0, po 25 (lt 5 5), po 26 (.nilC (tm 24)), po 27 (fd 0 26), po 28 (fd 0 27), pS 5 28 25]
def p60_10 : LP := [pm 29 6, po 30 (.len .false (tm 29)), po 31 (.mov (ki 0))]
def p60_11 : LP := [po 32 (.cmpI .lss (tm 31) (tm 30))]
def p60_12 : LP := [po 33 (.ixS 201 4 (tm 29) (tm 31)), po 34 (lt 4 33), po 9 (.alloc [(3, (.int .i64 0)), (1, (.string ⟨#[]⟩))]), pS 4 9 34]
def p60_13 : LP := [po 36 (fd 0 9), po 37 (lf 1 36), po 38 (ck 37 1), pm 35 38]
def p60_14 : LP := [pm 39 0, po 40 (fd 3 9), po 41 (lf 1 40), po 42 (.callr 103 [(tm 39), (tm 41)])]
def p60_15 : LP := [po 44 (fd 0 9), po 45 (lf 1 44), po 46 (ck 45 2), pm 47 46, pg 48 47 (fd 1 9), pg 49 47 (lf 1 48), pg 50 47 (ck 49 246), po 51 (.pick (tm 47) (tm 50) (.const (.bool .false))), pm 43 51]
def p60_16 : LP := [pm 52 0, po 53 (.callr 65 [(tm 52), (.const (.string ⟨#[10, 91, 121, 101, 115, 93, 10]⟩))])]
def p60_17 : LP := [po 55 (fd 0 9), po 56 (lf 1 55), po 57 (ck 56 3), pm 54 57]
def p60_18 : LP := [pm 58 0, pm 59 0, po 60 (.nilC (tm 59)), po 61 (fd 0 60), po 62 (fd 45 61), po 63 (lt 520 62), po 64 (lt 4 9), po 65 (.call 104 [(tm 63), (tm 64)]), po 66 (.ext (tm 65) 0), po 67 (.ext (tm 65) 1), po 68 (.callr 70 [(tm 58), (tm 66), (tm 67)])]
def p60_19 : LP := [po 70 (fd 0 9), po 71 (lf 1 70), po 72 (ck 71 4), pm 73 72, pg 74 73 (.mov (tm 0)), pg 75 73 (fd 2 9), pg 76 73 (lf 1 75), pg 77 73 (.call 67 [(tm 74), (tm 76)]), po 78 (.pick (tm 73) (tm 77) (.const (.bool .false))), pm 69 78]
def p60_20 : LP := [pm 79 0, po 80 (lt 4 9), po 81 (.callr 105 [(tm 79), (tm 80)])]
def c60_21 : PCode := (.seq (.reg p60_13) (.cond (.tmp 35) (.reg p60_14) (.seq (.reg p60_15) (.cond (.tmp 43) (.reg p60_16) (.seq (.reg p60_17) (.cond (.tmp 54) (.regD p60_18 []) (.seq (.reg p60_19) (.cond (.tmp 69) (.reg p60_20) .skip))))))))
def p60_22 : LP := [po 82 (.arI .add (tm 31) (ki 1)), pm 31 82]
def c60_1 : PCode := (.keep [0, 29, 30, 31] [(0, .id 0), (168, .id 168)] [] (.seq (.block 1 (.seq (.reg p60_12) (.block 2 c60_21))) (.reg p60_22)))
def c60_2 : PCode := (.keep [0, 29, 30, 31, 32] [(0, .id 0), (168, .id 168)] [] (.seq (.cond (.tmp 32) .skip (.keep [] [(0, .id 0)] [] (.exit 0))) c60_1))
def c60_3 : PCode := (.keep [0, 29, 30, 31] [(0, .id 0), (168, .id 168)] [] (.seq (.reg p60_11) c60_2))
def p60_23 : LP := [po 4 (.mov (ki 0))]
def c60_4 : PCode := (.keep [0, 1] [(0, .id 0)] [] (.seq (.reg p60_8) (.seq (.reg p60_9) (.seq (.seq (.reg p60_10) (.block 0 (.loop c60_3))) (.seq (.reg p60_23) .ret)))))
def c60_b : PCode := (.seq (.reg p60_5) (.seq (.seq (.reg p60_6) (.cond (.tmp 12) (.seq (.reg p60_7) .ret) .skip)) c60_4))
def c60 : FCode := ⟨83, c60_b, [(.tmp 4)], some ([4], [(0, .id 0)], []), false⟩
theorem c60_ok : compF Go.Proofs.Tryz.prog brs 60 = some (eraseF c60) := by kernel_rfl
def p30_1 : LP := [po 3 (.box 16 (tm 1)), po 4 (.mov (ki 0))]
def p30_2 : LP := [pm 13 0, po 14 (.nilC (tm 13)), po 15 (fd 0 14), po 16 (fd 12 15), po 17 (fd 11 16), po 18 (lf 1 17), pm 5 18]
def p30_3 : LP := [po 19 (fd 0 3), po 20 (lf 1 19)]
def p30_4 : LP := [po 22 (ck 20 1), pm 21 22]
def p30_5 : LP := [pm 23 0, po 24 (fd 1 3), po 25 (lf 1 24), po 26 (.callr 60 [(tm 23), (tm 25)]), pm 4 26]
def p30_6 : LP := [po 28 (ck 20 2), pm 27 28]
def p30_7 : LP := [pm 29 0, po 30 (fd 2 3), po 31 (lt 3 30), pm 32 5, po 33 (.call 62 [(tm 31), (tm 32)]), po 34 (.ext (tm 33) 0), po 35 (.ext (tm 33) 1), po 36 (.callr 61 [(tm 29), (tm 34), (tm 35)]), pm 4 36]
def p30_8 : LP := [po 38 (ck 20 4), pm 37 38]
def p30_9 : LP := [pm 39 0, po 40 (fd 10 3), po 41 (lf 1 40), pm 42 5, po 43 (.call 63 [(tm 41), (tm 42)]), po 44 (.ext (tm 43) 0), po 45 (.ext (tm 43) 1), po 46 (.callr 61 [(tm 39), (tm 44), (tm 45)]), pm 4 46]
def p30_10 : LP := [po 48 (ck 20 3), pm 47 48]
def p30_11 : LP := [po 50 (fd 5 3), po 51 (lt 5 50), pm 52 5, po 53 (.call 64 [(tm 51), (tm 52)]), pm 49 53, po 54 (.ext (tm 49) 0), po 55 (.ext (tm 49) 1), pm 6 54, pm 7 55]
def p30_12 : LP := [pm 56 7, po 57 (ck 56 0)]
def p30_13 : LP := [pm 58 0, pm 59 6, po 60 (.callr 65 [(tm 58), (tm 59)])]
def p30_14 : LP := [pm 61 7, pm 4 61]
def p30_15 : LP := [po 63 (ck 20 5), pm 62 63]
def p30_16 : LP := [pm 65 0, po 66 (.nilC (tm 65)), po 67 (fd 0 66), po 68 (fd 12 67), po 69 (lt 33 68), po 70 (fd 11 3), po 71 (lf 1 70), po 72 (fd 12 3), po 73 (lf 1 72), po 74 (.callf 66 [(tm 69), (tm 71), (tm 73)]), pm 64 74, po 75 (.ext (tm 64) 0), po 76 (.ext (tm 64) 1), po 8 (.alloc q18_), pS 33 8 75, pm 9 76]
def p30_17 : LP := [pm 77 9, po 78 (.cmpI .neq (tm 77) (ki 0))]
def p30_18 : LP := [pm 79 9, pm 4 79]
def p30_19 : LP := [pm 80 0, po 81 (lt 33 8), po 82 (.nilC (tm 80)), po 83 (fd 0 82), po 84 (fd 12 83), pS 33 84 81]
def p30_20 : LP := [pm 85 0, po 86 (.call 67 [(tm 85), (ki 31)])]
def p30_21 : LP := [pm 87 0, po 88 (.callr 68 [(tm 87)])]
def p30_22 : LP := [po 4 (.mov (ki 0))]
def c30_23 : PCode := (.seq (.regD p30_16 [(4, 13), (6, 13), (8, 13), (9, 13)]) (.seq (.seq (.reg p30_17) (.cond (.tmp 78) (.seq (.reg p30_18) .ret) .skip)) (.seq (.seq (.reg p30_19) (.seq (.reg p30_20) (.cond (.tmp 86) (.reg p30_21) .skip))) (.seq (.reg p30_22) .ret))))
def p30_24 : LP := [po 90 (ck 20 6), pm 89 90]
def p30_25 : LP := [pm 92 0, po 93 (.nilC (tm 92)), po 94 (fd 0 93), po 95 (fd 45 94), po 96 (lt 520 95), po 97 (fd 13 3), po 98 (lf 1 97), po 99 (fd 14 3), po 100 (lf 1 99), po 101 (fd 15 3), po 102 (lf 1 101), po 103 (.call 69 [(tm 96), (tm 98), (tm 100), (tm 102)]), pm 91 103, po 104 (.ext (tm 91) 0), po 105 (.ext (tm 91) 1), po 106 (.ext (tm 91) 2), po 10 (.alloc [(512, (.int .u8 0)), (8, (.int .u64 0))]), pS 520 10 104, pm 11 105, pm 12 106]
def p30_26 : LP := [pm 107 12, po 108 (ck 107 0)]
def p30_27 : LP := [pm 109 0, po 110 (lt 520 10), pm 111 11, po 112 (.callr 70 [(tm 109), (tm 110), (tm 111)])]
def p30_28 : LP := [pm 113 12, pm 4 113]
def c30_29 : PCode := (.seq (.reg p30_24) (.cond (.tmp 89) (.seq (.regD p30_25 [(4, 16), (6, 16), (8, 16), (10, 16), (11, 16)]) (.seq (.seq (.reg p30_26) (.cond (.tmp 108) (.reg p30_27) .skip)) (.seq (.reg p30_28) .ret))) .skip))
def c30_30 : PCode := (.seq (.reg p30_10) (.cond (.tmp 47) (.seq (.reg p30_11) (.seq (.seq (.reg p30_12) (.cond (.tmp 57) (.reg p30_13) .skip)) (.seq (.reg p30_14) .ret))) (.seq (.reg p30_15) (.cond (.tmp 62) c30_23 c30_29))))
def c30_31 : PCode := (.block 0 (.seq (.reg p30_4) (.cond (.tmp 21) (.seq (.reg p30_5) .ret) (.seq (.reg p30_6) (.cond (.tmp 27) (.seq (.reg p30_7) .ret) (.seq (.reg p30_8) (.cond (.tmp 37) (.seq (.reg p30_9) .ret) c30_30)))))))
def p30_32 : LP := [po 4 (.mov (ki 1))]
def c30_b : PCode := (.seq (.reg p30_1) (.seq (.reg p30_2) (.seq (.seq (.reg p30_3) c30_31) (.seq (.reg p30_32) .ret))))
def c30 : FCode := ⟨114, c30_b, [(.tmp 4)], some ([4], [(0, .id 0)], []), false⟩
theorem c30_ok : compF Go.Proofs.Tryz.prog brs 30 = some (eraseF c30) := by kernel_rfl
def p13_4 : LP := [po 2 (.box 613 (tm 0)), po 3 (.box 16 (tm 1)), po 4 (.alloc q4_), po 5 (.mov (.const (.string ⟨#[]⟩))), po 6 (.mov (ki 0))]
def p13_5 : LP := [po 10 (lt 613 2), po 11 (c1 28 10), pm 7 11]
def p13_6 : LP := [pm 12 7, po 13 (.cmpI .neq (tm 12) (ki 0))]
def p13_7 : LP := [po 14 (lt 613 2), po 15 (.callf 29 [(tm 14)]), pm 16 7, pS 613 4 15, po 5 (.mov (.const (.string ⟨#[]⟩))), pm 6 16]
def p13_8 : LP := [po 17 (lt 613 2), po 18 (.callf 29 [(tm 17)]), po 19 (.build [(3, (.int .i64 0)), (1, (.string ⟨#[]⟩)), (2, (.bool .false)), (1, (.string ⟨#[]⟩)), (2, (.int .i64 0)), (3, (.string ⟨#[]⟩)), (2, (.int .i64 0)), (1, (.slice .none 0 0)), (2, (.int .i64 0)), (1, (.bool .false)), (6, (.int .i64 0)), (4, (.int .u64 0)), (8, (.int .i64 0)), (1, (.bool .false)), (5, (.int .i64 0)), (1, (.slice .none 0 0)), (1, (.string ⟨#[]⟩)), (1, (.slice .none 0 0)), (512, (.int .u8 0)), (8, (.int .u64 0)), (1, (.slice .none 0 0)), (1, (.int .i64 0)), (1, (.slice .none 0 0)), (38, (.int .u8 0)), (4, (.int .u64 0)), (1, (.string ⟨#[]⟩)), (2, (.bool .false)), (1, (.string ⟨#[]⟩))] [(0, (613, (tm 18)))]), po 20 (.box 614 (tm 19)), pm 8 20]
def p13_9 : LP := [pm 21 8, po 22 (lt 16 3), po 23 (.callr 30 [(tm 21), (tm 22)]), pm 9 23]
def p13_10 : LP := [pm 24 9, po 25 (.cmpI .neq (tm 24) (ki 0))]
def p13_11 : LP := [po 26 (lt 613 2), po 27 (.callf 29 [(tm 26)]), pm 28 9, pS 613 4 27, po 5 (.mov (.const (.string ⟨#[]⟩))), pm 6 28]
def p13_12 : LP := [pm 29 8, po 30 (.nilC (tm 29)), po 31 (fd 0 30), po 32 (lt 613 31), pm 33 8, po 34 (.nilC (tm 33)), po 35 (fd 613 34), po 36 (lf 1 35), pS 613 4 32, pm 5 36, po 6 (.mov (ki 0))]
def c13_1 : PCode := (.keep [4, 8] [(40, .id 40), (168, .id 168)] [] (.seq (.regD p13_12 [(7, 8)]) .ret))
def c13_2 : PCode := (.keep [2, 3, 4, 8] [(24, .id 24), (32, .id 32), (40, .id 40), (168, .id 168)] [] (.seq (.seq (.reg p13_9) (.seq (.reg p13_10) (.cond (.tmp 25) (.seq (.reg p13_11) .ret) .skip))) c13_1))
def c13_3 : PCode := (.keep [2, 3, 4] [(24, .id 24), (32, .id 32), (40, .id 40)] [.cell 40 14 0 0 1, .cell 40 42 0 0 1, .cell 40 44 0 0 1, .cell 40 565 0 0 1, .cell 40 567 0 0 1] (.seq (.reg p13_8) c13_2))
def c13_b : PCode := (.seq (.reg p13_4) (.seq (.seq (.reg p13_5) (.seq (.reg p13_6) (.cond (.tmp 13) (.seq (.reg p13_7) .ret) .skip))) c13_3))
def c13 : FCode := ⟨37, c13_b, [(.cell 4 .true 613), (.tmp 5), (.tmp 6)], some ([4, 5, 6], [(40, .id 40)], []), false⟩
theorem c13_ok : compF Go.Proofs.Tryz.prog brs 13 = some (eraseF c13) := by kernel_rfl
def p43_1 : LP := [po 4 (.nilS 5 1)]
def p43_2 : LP := [pm 5 1, po 6 (.cvI .u32 (tm 5)), po 7 (.cmpI .leq (tm 6) (.const (.int .u32 127)))]
def p43_3 : LP := [pm 8 0, pm 9 1, po 10 (.cvI .u8 (tm 9)), po 11 (.bsl 5 1 1 [(1, (.int .u8 0))] [(0, (1, (tm 10)))]), po 12 (.app 5 1 1 (tm 8) (tm 11)), pm 4 12]
def p43_4 : LP := [pm 13 0, pm 14 1, po 15 (.callr 88 [(tm 13), (tm 14)]), pm 4 15]
def c43_b : PCode := (.seq (.reg p43_1) (.seq (.seq (.reg p43_2) (.cond (.tmp 7) (.seq (.reg p43_3) .ret) .skip)) (.seq (.reg p43_4) .ret)))
def c43 : FCode := ⟨16, c43_b, [(.tmp 4)], some ([4, 1000000], [(0, .id 0)], []), false⟩
theorem c43_ok : compF Go.Proofs.Tryz.prog brs 43 = some (eraseF c43) := by kernel_rfl
def p21_4 : LP := [po 2 (.mov (.const (.string ⟨#[]⟩)))]
def p21_5 : LP := [po 3 (.nilS 5 1)]
def p21_6 : LP := [pm 6 0, po 7 (.len .false (tm 6)), po 8 (.mov (ki 0))]
def p21_7 : LP := [po 9 (.cmpI .lss (tm 8) (tm 7))]
def p21_8 : LP := [po 10 (.ixS 3 1 (tm 6) (tm 8)), po 11 (lf 1 10), pm 5 11]
def p21_9 : LP := [pm 12 5, po 13 (.cmpI .lss (tm 12) (ki 0)), pm 14 13, pf 15 14 (.mov (tm 5)), pf 16 14 (.cmpI .gtr (tm 15) (ki 1114111)), po 17 (.pick (tm 14) (.const (.bool .true)) (tm 16)), pm 18 17, pf 19 18 (.mov (tm 5)), pf 20 18 (.cmpI .geq (tm 19) (ki 55296)), pf 21 18 (.mov (tm 20)), pg 22 21 (.mov (tm 5)), pg 23 21 (.cmpI .leq (tm 22) (ki 57343)), pf 24 18 (.pick (tm 21) (tm 23) (.const (.bool .false))), po 25 (.pick (tm 18) (.const (.bool .true)) (tm 24))]
def p21_10 : LP := [po 5 (.mov (ki 65533))]
def p21_11 : LP := [pm 26 3, pm 27 5, po 28 (.cvI .i32 (tm 27)), po 29 (.callr 43 [(tm 26), (tm 28)]), pm 3 29]
def p21_12 : LP := [po 30 (.arI .add (tm 8) (ki 1)), pm 8 30]
def c21_1 : PCode := (.keep [3, 6, 7, 8] [(32, .id 32)] [] (.seq (.block 1 (.seq (.reg p21_8) (.seq (.seq (.reg p21_9) (.cond (.tmp 25) (.reg p21_10) .skip)) (.reg p21_11)))) (.reg p21_12)))
def c21_2 : PCode := (.keep [3, 6, 7, 8, 9] [(32, .id 32)] [] (.seq (.cond (.tmp 9) .skip (.keep [3] [(32, .id 32)] [] (.exit 0))) c21_1))
def c21_3 : PCode := (.keep [3, 6, 7, 8] [(32, .id 32)] [] (.seq (.reg p21_7) c21_2))
def p21_13 : LP := [pm 31 3, po 32 (.cvBS (tm 31)), pm 2 32]
def c21_b : PCode := (.seq (.reg p21_4) (.seq (.reg p21_5) (.seq (.seq (.reg p21_6) (.block 0 (.loop c21_3))) (.seq (.reg p21_13) .ret))))
def c21 : FCode := ⟨33, c21_b, [(.tmp 2)], some ([2], [], []), false⟩
theorem c21_ok : compF Go.Proofs.Tryz.prog brs 21 = some (eraseF c21) := by kernel_rfl
def p18_4 : LP := [po 2 (.mov (.const (.string ⟨#[]⟩)))]
def p18_5 : LP := [po 3 (.nilS 3 1)]
def p18_6 : LP := [pm 6 0, po 7 (.len .false (tm 6)), po 8 (.mov (ki 0))]
def p18_7 : LP := [po 9 (.cmpI .lss (tm 8) (tm 7))]
def p18_8 : LP := [po 10 (.ixS 100 4 (tm 6) (tm 8)), po 11 (lt 4 10), po 5 (.alloc [(4, (.int .i64 0))]), pS 4 5 11]
def p18_9 : LP := [po 12 (fd 0 5), po 13 (lf 1 12), po 14 (.cmpI .neq (tm 13) (ki 0))]
def p18_10 : LP := [pm 15 3, po 16 (fd 0 5), po 17 (lf 1 16), po 18 (.bsl 3 1 1 [(1, (.int .i64 0))] [(0, (1, (tm 17)))]), po 19 (.app 3 1 8 (tm 15) (tm 18)), pm 3 19]
def p18_11 : LP := [po 20 (.arI .add (tm 8) (ki 1)), pm 8 20]
def c18_1 : PCode := (.keep [3, 6, 7, 8] [(32, .id 32)] [] (.seq (.block 1 (.seq (.reg p18_8) (.seq (.reg p18_9) (.cond (.tmp 14) (.reg p18_10) .skip)))) (.reg p18_11)))
def c18_2 : PCode := (.keep [3, 6, 7, 8, 9] [(32, .id 32)] [] (.seq (.cond (.tmp 9) .skip (.keep [3] [(32, .id 32)] [] (.exit 0))) c18_1))
def c18_3 : PCode := (.keep [3, 6, 7, 8] [(32, .id 32)] [] (.seq (.reg p18_7) c18_2))
def p18_12 : LP := [pm 21 3, po 22 (c1 21 21), po 23 (.call 20 [(tm 22), (.const (.string ⟨#[32]⟩))]), pm 2 23]
def c18_b : PCode := (.seq (.reg p18_4) (.seq (.reg p18_5) (.seq (.seq (.reg p18_6) (.block 0 (.loop c18_3))) (.seq (.reg p18_12) .ret))))
def c18 : FCode := ⟨24, c18_b, [(.tmp 2)], some ([2], [], []), false⟩
theorem c18_ok : compF Go.Proofs.Tryz.prog brs 18 = some (eraseF c18) := by kernel_rfl
def p37_3 : LP := [po 3 (.box 3 (tm 0)), po 5 (.box 3 (tm 2)), po 6 (.alloc [(2, (.int .i64 0)), (1, (.slice .none 0 0))]), po 7 (.mov (ki 0))]
def p37_4 : LP := [po 10 (lt 3 3), po 11 (c1 83 10), pm 8 11]
def p37_5 : LP := [pm 12 8, po 13 (.cmpI .neq (tm 12) (ki 0))]
def p37_6 : LP := [po 14 (.build [(2, (.int .i64 0)), (1, (.slice .none 0 0))] []), pm 15 8, pS 3 6 14, pm 7 15]
def p37_7 : LP := [pm 16 1, po 17 (.un .not (tm 16))]
def p37_8 : LP := [po 18 (.build [(2, (.int .i64 0)), (1, (.slice .none 0 0))] []), pS 3 6 18, po 7 (.mov (ki 1))]
def p37_9 : LP := [po 19 (lt 3 5), po 20 (c1 84 19), pm 9 20]
def p37_10 : LP := [pm 21 9, po 22 (.cmpI .neq (tm 21) (ki 0))]
def p37_11 : LP := [po 23 (.build [(2, (.int .i64 0)), (1, (.slice .none 0 0))] []), pm 24 9, pS 3 6 23, pm 7 24]
def p37_12 : LP := [po 25 (lt 3 3), po 26 (c1 45 25), pS 3 6 26, po 7 (.mov (ki 0))]
def c37_1 : PCode := (.keep [3, 5, 6] [(32, .id 32), (48, .id 48), (56, .id 56)] [] (.seq (.seq (.reg p37_9) (.seq (.reg p37_10) (.cond (.tmp 22) (.seq (.reg p37_11) .ret) .skip))) (.seq (.reg p37_12) .ret)))
def c37_2 : PCode := (.keep [1, 3, 5, 6] [(32, .id 32), (48, .id 48), (56, .id 56)] [.cell 56 2 0 0 1] (.seq (.seq (.reg p37_7) (.cond (.tmp 17) (.seq (.reg p37_8) .ret) .skip)) c37_1))
def c37_b : PCode := (.seq (.reg p37_3) (.seq (.seq (.reg p37_4) (.seq (.reg p37_5) (.cond (.tmp 13) (.seq (.reg p37_6) .ret) .skip))) c37_2))
def c37 : FCode := ⟨27, c37_b, [(.cell 6 .true 3), (.tmp 7)], some ([6, 7], [(56, .id 56), (216, (.cell 56 2))], [.cell 56 2 216 100 4]), false⟩
theorem c37_ok : compF Go.Proofs.Tryz.prog brs 37 = some (eraseF c37) := by kernel_rfl
def p19_5 : LP := [po 2 (.box 3 (tm 0)), po 4 (.nilS 3 1), po 5 (.mov (ki 0))]
def p19_6 : LP := [po 11 (lt 3 2), pm 12 1, po 13 (.cmpI .geq (tm 12) (ki 0)), pm 14 13, pg 15 14 (.mov (tm 1)), pg 16 14 (fd 1 2), pg 17 14 (lf 1 16), pg 18 14 (.cmpI .lss (tm 15) (tm 17)), po 19 (.pick (tm 14) (tm 18) (.const (.bool .false))), po 20 (.build [(3, (.int .i64 0))] []), po 21 (.callf 37 [(tm 11), (tm 19), (tm 20)]), pm 10 21, po 22 (.ext (tm 10) 0), po 23 (.ext (tm 10) 1), pS 3 2 22, pm 6 23]
def p19_7 : LP := [pm 24 6, po 25 (.cmpI .neq (tm 24) (ki 0))]
def p19_8 : LP := [pm 26 6, po 4 (.nilS 3 1), pm 5 26]
def p19_9 : LP := [po 7 (.nilS 3 1)]
def p19_10 : LP := [po 27 (lt 3 2), pm 28 1, po 29 (.callr 38 [(tm 27), (tm 28)]), po 30 (.len .false (tm 29)), po 31 (.mov (ki 0))]
def p19_11 : LP := [po 32 (.cmpI .lss (tm 31) (tm 30))]
def p19_12 : LP := [po 33 (.ixS 100 4 (tm 29) (tm 31)), po 34 (lt 4 33), po 9 (.alloc [(4, (.int .i64 0))]), pS 4 9 34]
def p19_13 : LP := [po 35 (fd 0 9), po 36 (lf 1 35), po 37 (.cmpI .neq (tm 36) (ki 0))]
def p19_14 : LP := [pm 38 7, po 39 (fd 0 9), po 40 (lf 1 39), po 41 (.bsl 3 1 1 [(1, (.int .i64 0))] [(0, (1, (tm 40)))]), po 42 (.app 3 1 8 (tm 38) (tm 41)), pm 7 42]
def p19_15 : LP := [po 43 (.arI .add (tm 31) (ki 1)), pm 31 43]
def c19_1 : PCode := (.keep [7, 29, 30, 31] [(64, .id 64), (176, .id 176)] [] (.seq (.block 1 (.seq (.reg p19_12) (.seq (.reg p19_13) (.cond (.tmp 37) (.reg p19_14) .skip)))) (.reg p19_15)))
def c19_2 : PCode := (.keep [7, 29, 30, 31, 32] [(64, .id 64), (176, .id 176)] [] (.seq (.cond (.tmp 32) .skip (.keep [7] [(64, .id 64)] [] (.exit 0))) c19_1))
def c19_3 : PCode := (.keep [7, 29, 30, 31] [(64, .id 64), (176, .id 176)] [] (.seq (.reg p19_11) c19_2))
def p19_16 : LP := [pm 44 7, pm 4 44, po 5 (.mov (ki 0))]
def c19_4 : PCode := (.keep [1, 2] [(24, .id 24), (176, .id 176)] [] (.seq (.reg p19_9) (.seq (.seq (.reg p19_10) (.block 0 (.loop c19_3))) (.seq (.reg p19_16) .ret))))
def c19_b : PCode := (.seq (.reg p19_5) (.seq (.reg p19_6) (.seq (.seq (.reg p19_7) (.cond (.tmp 25) (.seq (.reg p19_8) .ret) .skip)) c19_4)))
def c19 : FCode := ⟨45, c19_b, [(.tmp 4), (.tmp 5)], some ([4, 5], [(64, .id 64)], []), false⟩
theorem c19_ok : compF Go.Proofs.Tryz.prog brs 19 = some (eraseF c19) := by kernel_rfl
def p22_5 : LP := [po 4 (.mov (.const (.bool .false)))]
def p22_6 : LP := [pm 6 0, po 7 (.len .false (tm 6)), pm 8 1, po 9 (.len .false (tm 8)), po 10 (.cmpI .neq (tm 7) (tm 9))]
def p22_7 : LP := [po 4 (.mov (.const (.bool .false)))]
def p22_8 : LP := [pm 11 0, po 12 (.len .false (tm 11)), po 13 (.mov (ki 0))]
def p22_9 : LP := [po 14 (.cmpI .lss (tm 13) (tm 12))]
def p22_10 : LP := [pm 15 13, pm 5 15]
def p22_11 : LP := [pm 16 0, pm 17 5, po 18 (.ixS 9 1 (tm 16) (tm 17)), po 19 (lf 1 18), pm 20 1, pm 21 5, po 22 (.ixS 9 1 (tm 20) (tm 21)), po 23 (lf 1 22), po 24 (.strO .neq (tm 19) (tm 23))]
def p22_12 : LP := [po 4 (.mov (.const (.bool .false)))]
def p22_13 : LP := [po 25 (.arI .add (tm 13) (ki 1)), pm 13 25]
def c22_1 : PCode := (.keep [0, 1, 12, 13] [] [] (.seq (.block 1 (.seq (.reg p22_10) (.seq (.regD p22_11 []) (.cond (.tmp 24) (.seq (.reg p22_12) .ret) .skip)))) (.reg p22_13)))
def c22_2 : PCode := (.keep [0, 1, 12, 13, 14] [] [] (.seq (.cond (.tmp 14) .skip (.keep [] [] [] (.exit 0))) c22_1))
def c22_3 : PCode := (.keep [0, 1, 12, 13] [] [] (.seq (.reg p22_9) c22_2))
def p22_14 : LP := [po 4 (.mov (.const (.bool .true)))]
def c22_4 : PCode := (.keep [0, 1] [] [] (.seq (.seq (.reg p22_8) (.block 0 (.loop c22_3))) (.seq (.reg p22_14) .ret)))
def c22_b : PCode := (.seq (.reg p22_5) (.seq (.seq (.reg p22_6) (.cond (.tmp 10) (.seq (.reg p22_7) .ret) .skip)) c22_4))
def c22 : FCode := ⟨26, c22_b, [(.tmp 4)], some ([4], [], []), false⟩
theorem c22_ok : compF Go.Proofs.Tryz.prog brs 22 = some (eraseF c22) := by kernel_rfl
def p5_24 : LP := [po 2 (.mov (.const (.bool .false)))]
def p5_25 : LP := [po 19 (.build [(8, (.int .u64 0))] []), po 20 (.call 6 [(ki 8), (ki 3), (tm 19)]), pm 18 20, po 21 (.ext (tm 18) 0), po 22 (.ext (tm 18) 1), po 3 (.alloc q4_), pS 613 3 21, pm 4 22]
def p5_26 : LP := [po 23 (.call 7 []), po 24 (.un .not (tm 23)), pm 25 24, pf 26 25 (.mov (tm 4)), pf 27 25 (.cmpI .neq (tm 26) (ki 0)), po 28 (.pick (tm 25) (.const (.bool .true)) (tm 27)), pm 29 28, pf 30 29 (.mov (tm 0)), pf 31 29 (.len .false (tm 30)), pf 32 29 (.cmpI .gtr (tm 31) (ki 42)), po 33 (.pick (tm 29) (.const (.bool .true)) (tm 32))]
def p5_27 : LP := [po 34 (.call 7 []), pm 2 34]
def p5_28 : LP := [po 5 (.mov (.const (.string ⟨#[]⟩)))]
def p5_29 : LP := [pm 35 0, po 36 (.len .false (tm 35)), po 37 (.mov (ki 0))]
def p5_30 : LP := [po 38 (.cmpI .lss (tm 37) (tm 36))]
def p5_31 : LP := [po 39 (.ixS 9 1 (tm 35) (tm 37)), po 40 (lf 1 39), pm 7 40]
def p5_32 : LP := [pm 41 7, po 42 (.len .true (tm 41)), po 43 (.mov (ki 0))]
def p5_33 : LP := [po 44 (.cmpI .lss (tm 43) (tm 42))]
def p5_34 : LP := [pm 45 43, pm 8 45]
def p5_35 : LP := [pm 46 7, pm 47 8, po 48 (.ixStr (tm 46) (tm 47)), po 49 (.cmpI .lss (tm 48) (.const (.int .u8 32))), pm 50 49, pf 51 50 (.mov (tm 7)), pf 52 50 (.mov (tm 8)), pf 53 50 (.ixStr (tm 51) (tm 52)), pf 54 50 (.cmpI .gtr (tm 53) (.const (.int .u8 126))), po 55 (.pick (tm 50) (.const (.bool .true)) (tm 54)), pm 56 55, pf 57 56 (.mov (tm 7)), pf 58 56 (.len .true (tm 57)), pf 59 56 (.cmpI .gtr (tm 58) (ki 7)), po 60 (.pick (tm 56) (.const (.bool .true)) (tm 59))]
def p5_36 : LP := [po 2 (.mov (.const (.bool .true)))]
def p5_37 : LP := [po 61 (.arI .add (tm 43) (ki 1)), pm 43 61]
def c5_17 : PCode := (.keep [0, 3, 5, 7, 35, 36, 37, 42, 43] [(32, .id 32), (168, .id 168), (169, .id 169), (170, .id 170), (171, .id 171)] [] (.seq (.block 3 (.seq (.reg p5_34) (.seq (.reg p5_35) (.cond (.tmp 60) (.seq (.reg p5_36) .ret) .skip)))) (.reg p5_37)))
def c5_18 : PCode := (.keep [0, 3, 5, 7, 35, 36, 37, 42, 43, 44] [(32, .id 32), (168, .id 168), (169, .id 169), (170, .id 170), (171, .id 171)] [] (.seq (.cond (.tmp 44) .skip (.keep [0, 3, 5, 7, 35, 36, 37] [(32, .id 32), (168, .id 168), (169, .id 169), (170, .id 170), (171, .id 171)] [] (.exit 2))) c5_17))
def c5_19 : PCode := (.keep [0, 3, 5, 7, 35, 36, 37, 42, 43] [(32, .id 32), (168, .id 168), (169, .id 169), (170, .id 170), (171, .id 171)] [] (.seq (.reg p5_33) c5_18))
def p5_38 : LP := [pm 62 5, pm 63 7, po 64 (.strO .add (tm 63) (.const (.string ⟨#[13, 0, 13, 10]⟩))), po 65 (.strO .add (tm 62) (tm 64)), pm 5 65]
def p5_39 : LP := [po 66 (.arI .add (tm 37) (ki 1)), pm 37 66]
def c5_20 : PCode := (.keep [0, 3, 5, 35, 36, 37] [(32, .id 32), (168, .id 168), (169, .id 169), (170, .id 170), (171, .id 171)] [] (.seq (.block 1 (.seq (.reg p5_31) (.seq (.seq (.reg p5_32) (.block 2 (.loop c5_19))) (.reg p5_38)))) (.reg p5_39)))
def c5_21 : PCode := (.keep [0, 3, 5, 35, 36, 37, 38] [(32, .id 32), (168, .id 168), (169, .id 169), (170, .id 170), (171, .id 171)] [] (.seq (.cond (.tmp 38) .skip (.keep [0, 3, 5] [(32, .id 32), (168, .id 168), (169, .id 169), (170, .id 170), (171, .id 171)] [] (.exit 0))) c5_20))
def c5_22 : PCode := (.keep [0, 3, 5, 35, 36, 37] [(32, .id 32), (168, .id 168), (169, .id 169), (170, .id 170), (171, .id 171)] [] (.seq (.reg p5_30) c5_21))
def p5_40 : LP := [po 68 (lt 613 3), pm 69 5, po 70 (c1 17 69), po 71 (.callf 13 [(tm 68), (tm 70)]), pm 67 71, po 72 (.ext (tm 67) 0), po 73 (.ext (tm 67) 1), po 74 (.ext (tm 67) 2), pS 613 3 72, pm 4 74]
def p5_41 : LP := [pm 75 4, po 76 (.cmpI .neq (tm 75) (ki 0))]
def p5_42 : LP := [po 2 (.mov (.const (.bool .false)))]
def p5_43 : LP := [po 9 (.nilS 9 1)]
def p5_44 : LP := [po 77 (fd 12 3), po 78 (fd 32 77), po 79 (lf 1 78), po 80 (.len .false (tm 79)), po 81 (.mov (ki 0))]
def p5_45 : LP := [po 82 (.cmpI .lss (tm 81) (tm 80))]
def p5_46 : LP := [po 83 (.ixS 91 1 (tm 79) (tm 81)), po 84 (lt 1 83), po 11 (.alloc [(1, (.slice .none 0 0))]), pS 1 11 84]
def p5_47 : LP := [pm 85 9, po 86 (fd 0 11), po 87 (lf 1 86), po 88 (c1 18 87), po 89 (.bsl 9 1 1 [(1, (.string ⟨#[]⟩))] [(0, (1, (tm 88)))]), po 90 (.app 9 1 16 (tm 85) (tm 89)), pm 9 90]
def p5_48 : LP := [po 91 (.arI .add (tm 81) (ki 1)), pm 81 91]
def c5_12 : PCode := (.keep [0, 3, 9, 79, 80, 81] [(32, .id 32), (80, .id 80)] [] (.seq (.block 5 (.seq (.reg p5_46) (.reg p5_47))) (.reg p5_48)))
def c5_13 : PCode := (.keep [0, 3, 9, 79, 80, 81, 82] [(32, .id 32), (80, .id 80)] [] (.seq (.cond (.tmp 82) .skip (.keep [0, 3, 9] [(32, .id 32), (80, .id 80)] [] (.exit 4))) c5_12))
def c5_14 : PCode := (.keep [0, 3, 9, 79, 80, 81] [(32, .id 32), (80, .id 80)] [] (.seq (.reg p5_45) c5_13))
def p5_49 : LP := [po 92 (.mov (ki 0))]
def p5_50 : LP := [po 93 (.cmpI .lss (tm 92) (ki 3))]
def p5_51 : LP := [pm 94 92, pm 12 94]
def p5_52 : LP := [po 96 (fd 12 3), po 97 (fd 0 96), po 98 (lt 3 97), pm 99 12, po 100 (.call 19 [(tm 98), (tm 99)]), pm 95 100, po 101 (.ext (tm 95) 0), po 102 (.ext (tm 95) 1), pm 13 101, pm 14 102]
def p5_53 : LP := [pm 103 14, po 104 (.cmpI .neq (tm 103) (ki 0))]
def p5_54 : LP := [po 2 (.mov (.const (.bool .false)))]
def p5_55 : LP := [pm 105 9, pm 106 13, po 107 (c1 21 106), po 108 (.call 20 [(tm 107), (.const (.string ⟨#[32]⟩))]), po 109 (.bsl 9 1 1 [(1, (.string ⟨#[]⟩))] [(0, (1, (tm 108)))]), po 110 (.app 9 1 16 (tm 105) (tm 109)), pm 9 110]
def c5_7 : PCode := (.keep [0, 3, 9, 13, 92] [(32, .id 32), (80, .id 80), (808, .id 808)] [] (.reg p5_55))
def p5_56 : LP := [po 111 (.arI .add (tm 92) (ki 1)), pm 92 111]
def c5_8 : PCode := (.reg p5_56)
def c5_10 : PCode := (.keep [0, 3, 9, 92] [(32, .id 32), (80, .id 80)] [] (.seq (.block 7 (.seq (.reg p5_51) (.seq (.reg p5_52) (.seq (.seq (.reg p5_53) (.cond (.tmp 104) (.seq (.reg p5_54) .ret) .skip)) c5_7)))) c5_8))
def c5_9 : PCode := (.loop (.seq (.reg p5_50) (.seq (.cond (.tmp 93) .skip (.exit 6)) c5_10)))
def p5_57 : LP := [po 15 (.nilS 9 1)]
def p5_58 : LP := [pm 112 0, po 113 (.len .false (tm 112)), po 114 (.mov (ki 0))]
def p5_59 : LP := [po 115 (.cmpI .lss (tm 114) (tm 113))]
def p5_60 : LP := [po 116 (.ixS 9 1 (tm 112) (tm 114)), po 117 (lf 1 116), pm 17 117]
def p5_61 : LP := [pm 118 15, pm 119 17, po 120 (.call 20 [(tm 119), (.const (.string ⟨#[32]⟩))]), po 121 (.bsl 9 1 1 [(1, (.string ⟨#[]⟩))] [(0, (1, (tm 120)))]), po 122 (.app 9 1 16 (tm 118) (tm 121)), pm 15 122]
def p5_62 : LP := [po 123 (.arI .add (tm 114) (ki 1)), pm 114 123]
def c5_3 : PCode := (.keep [0, 9, 15, 112, 113, 114] [(80, .id 80), (128, .id 128)] [] (.seq (.block 9 (.seq (.reg p5_60) (.reg p5_61))) (.reg p5_62)))
def c5_4 : PCode := (.keep [0, 9, 15, 112, 113, 114, 115] [(80, .id 80), (128, .id 128)] [] (.seq (.cond (.tmp 115) .skip (.keep [0, 9, 15] [(80, .id 80), (128, .id 128)] [] (.exit 8))) c5_3))
def c5_5 : PCode := (.keep [0, 9, 15, 112, 113, 114] [(80, .id 80), (128, .id 128)] [] (.seq (.reg p5_59) c5_4))
def p5_63 : LP := [pm 124 15, po 125 (.len .false (tm 124)), po 126 (.cmpI .lss (tm 125) (ki 3)), pm 127 126, pf 128 127 (.mov (tm 0)), pf 129 127 (.len .false (tm 128)), pf 130 127 (.cmpI .gtr (tm 129) (ki 2)), pf 131 127 (.mov (tm 130)), pg 132 131 (.mov (tm 15)), pg 133 131 (.len .false (tm 132)), pg 134 131 (.mov (tm 0)), pg 135 131 (.len .false (tm 134)), pg 136 131 (.cmpI .eql (tm 133) (tm 135)), pf 137 127 (.pick (tm 131) (tm 136) (.const (.bool .false))), po 138 (.pick (tm 127) (.const (.bool .true)) (tm 137))]
def p5_64 : LP := [pm 139 15, po 140 (.bsl 9 1 1 [(1, (.string ⟨#[]⟩))] [(0, (1, (.const (.string ⟨#[]⟩))))]), po 141 (.app 9 1 16 (tm 139) (tm 140)), pm 15 141]
def c5_1 : PCode := (.keep [0, 9, 15] [(80, .id 80), (128, .id 128)] [] (.seq (.seq (.reg p5_63) (.cond (.tmp 138) .skip (.keep [9, 15] [(80, .id 80), (128, .id 128)] [] (.exit 10)))) (.block 11 (.reg p5_64))))
def p5_65 : LP := [pm 142 9, pm 143 15, po 144 (.call 22 [(tm 142), (tm 143)]), pm 2 144]
def c5_2 : PCode := (.keep [0, 9, 15] [(80, .id 80), (128, .id 128)] [] (.seq (.block 10 (.loop c5_1)) (.seq (.reg p5_65) .ret)))
def c5_6 : PCode := (.keep [0, 9] [(80, .id 80)] [] (.seq (.reg p5_57) (.seq (.seq (.reg p5_58) (.block 8 (.loop c5_5))) c5_2)))
def c5_11 : PCode := (.keep [0, 3, 9] [(32, .id 32), (80, .id 80)] [] (.seq (.seq (.reg p5_49) (.block 6 c5_9)) c5_6))
def c5_15 : PCode := (.keep [0, 3] [(32, .id 32)] [] (.seq (.reg p5_43) (.seq (.seq (.reg p5_44) (.block 4 (.loop c5_14))) c5_11)))
def c5_16 : PCode := (.keep [0, 3, 5] [(32, .id 32), (168, .id 168), (169, .id 169), (170, .id 170), (171, .id 171)] [] (.seq (.regD p5_40 [(0, 2)]) (.seq (.seq (.reg p5_41) (.cond (.tmp 76) (.seq (.reg p5_42) .ret) .skip)) c5_15)))
def c5_23 : PCode := (.keep [0, 3] [(32, .id 32), (168, .id 168), (169, .id 169), (170, .id 170), (171, .id 171)] [] (.seq (.reg p5_28) (.seq (.seq (.reg p5_29) (.block 0 (.loop c5_22))) c5_16)))
def c5_b : PCode := (.seq (.reg p5_24) (.seq (.reg p5_25) (.seq (.seq (.reg p5_26) (.cond (.tmp 33) (.seq (.reg p5_27) .ret) .skip)) c5_23)))
def c5 : FCode := ⟨145, c5_b, [(.tmp 2)], some ([2], [], []), false⟩
theorem c5_ok : compF Go.Proofs.Tryz.prog brs 5 = some (eraseF c5) := by kernel_rfl
def codes : Nat → Option FCode
 | 5 => some c5
 | 6 => some c6
 | 11 => some c11
 | 13 => some c13
 | 17 => some c17
 | 18 => some c18
 | 19 => some c19
 | 21 => some c21
 | 22 => some c22
 | 23 => some c23
 | 24 => some c24
 | 25 => some c25
 | 26 => some c26
 | 27 => some c27
 | 28 => some c28
 | 29 => some c29
 | 30 => some c30
 | 37 => some c37
 | 38 => some c38
 | 43 => some c43
 | 44 => some c44
 | 45 => some c45
 | 46 => some c46
 | 47 => some c47
 | 48 => some c48
 | 49 => some c49
 | 52 => some c52
 | 53 => some c53
 | 54 => some c54
 | 55 => some c55
 | 56 => some c56
 | 57 => some c57
 | 58 => some c58
 | 59 => some c59
 | 60 => some c60
 | 83 => some c83
 | 84 => some c84
 | 89 => some c89
 | 90 => some c90
 | 91 => some c91
 | 92 => some c92
 | 93 => some c93
 | 95 => some c95
 | 96 => some c96
 | 97 => some c97
 | 98 => some c98
 | 99 => some c99
 | 100 => some c100
 | 101 => some c101
 | 102 => some c102
 | 103 => some c103
 | 107 => some c107
 | 146 => some c146
 | 147 => some c147
 | 148 => some c148
 | 151 => some c151
 | 152 => some c152
 | 156 => some c156
 | 157 => some c157
 | 158 => some c158
 | 159 => some c159
 | 160 => some c160
 | 161 => some c161
 | 170 => some c170
 | 194 => some c194
 | 195 => some c195
 | 198 => some c198
 | 208 => some c208
 | 209 => some c209
 | 210 => some c210
 | 232 => some c232
 | 236 => some c236
 | 239 => some c239
 | 242 => some c242
 | 246 => some c246
 | 247 => some c247
 | 263 => some c263
 | 271 => some c271
 | 272 => some c272
 | 273 => some c273
 | 274 => some c274
 | 276 => some c276
 | 277 => some c277
 | 298 => some c298
 | 299 => some c299
 | 300 => some c300
 | 301 => some c301
 | 314 => some c314
 | 315 => some c315
 | _ => none
theorem codes_ok : ∀ f fc, codes f = some fc → OkF Go.Proofs.Tryz.prog brs f fc := by
 intro f fc h
 unfold codes at h
 split at h
 ·cases h; exact compF_ok c5_ok
 ·cases h; exact compF_ok c6_ok
 ·cases h; exact c11_okF
 ·cases h; exact compF_ok c13_ok
 ·cases h; exact compF_ok c17_ok
 ·cases h; exact compF_ok c18_ok
 ·cases h; exact compF_ok c19_ok
 ·cases h; exact compF_ok c21_ok
 ·cases h; exact compF_ok c22_ok
 ·cases h; exact compF_ok c23_ok
 ·cases h; exact compF_ok c24_ok
 ·cases h; exact compF_ok c25_ok
 ·cases h; exact compF_ok c26_ok
 ·cases h; exact compF_ok c27_ok
 ·cases h; exact compF_ok c28_ok
 ·cases h; exact compF_ok c29_ok
 ·cases h; exact compF_ok c30_ok
 ·cases h; exact compF_ok c37_ok
 ·cases h; exact compF_ok c38_ok
 ·cases h; exact compF_ok c43_ok
 ·cases h; exact compF_ok c44_ok
 ·cases h; exact compF_ok c45_ok
 ·cases h; exact compF_ok c46_ok
 ·cases h; exact compF_ok c47_ok
 ·cases h; exact compF_ok c48_ok
 ·cases h; exact compF_ok c49_ok
 ·cases h; exact compF_ok c52_ok
 ·cases h; exact compF_ok c53_ok
 ·cases h; exact compF_ok c54_ok
 ·cases h; exact compF_ok c55_ok
 ·cases h; exact compF_ok c56_ok
 ·cases h; exact compF_ok c57_ok
 ·cases h; exact compF_ok c58_ok
 ·cases h; exact compF_ok c59_ok
 ·cases h; exact compF_ok c60_ok
 ·cases h; exact compF_ok c83_ok
 ·cases h; exact compF_ok c84_ok
 ·cases h; exact compF_ok c89_ok
 ·cases h; exact compF_ok c90_ok
 ·cases h; exact compF_ok c91_ok
 ·cases h; exact compF_ok c92_ok
 ·cases h; exact compF_ok c93_ok
 ·cases h; exact compF_ok c95_ok
 ·cases h; exact compF_ok c96_ok
 ·cases h; exact compF_ok c97_ok
 ·cases h; exact compF_ok c98_ok
 ·cases h; exact compF_ok c99_ok
 ·cases h; exact compF_ok c100_ok
 ·cases h; exact compF_ok c101_ok
 ·cases h; exact compF_ok c102_ok
 ·cases h; exact compF_ok c103_ok
 ·cases h; exact compF_ok c107_ok
 ·cases h; exact compF_ok c146_ok
 ·cases h; exact compF_ok c147_ok
 ·cases h; exact compF_ok c148_ok
 ·cases h; exact compF_ok c151_ok
 ·cases h; exact compF_ok c152_ok
 ·cases h; exact compF_ok c156_ok
 ·cases h; exact compF_ok c157_ok
 ·cases h; exact compF_ok c158_ok
 ·cases h; exact compF_ok c159_ok
 ·cases h; exact compF_ok c160_ok
 ·cases h; exact compF_ok c161_ok
 ·cases h; exact compF_ok c170_ok
 ·cases h; exact compF_ok c194_ok
 ·cases h; exact compF_ok c195_ok
 ·cases h; exact compF_ok c198_ok
 ·cases h; exact compF_ok c208_ok
 ·cases h; exact compF_ok c209_ok
 ·cases h; exact compF_ok c210_ok
 ·cases h; exact compF_ok c232_ok
 ·cases h; exact compF_ok c236_ok
 ·cases h; exact compF_ok c239_ok
 ·cases h; exact compF_ok c242_ok
 ·cases h; exact compF_ok c246_ok
 ·cases h; exact compF_ok c247_ok
 ·cases h; exact compF_ok c263_ok
 ·cases h; exact compF_ok c271_ok
 ·cases h; exact compF_ok c272_ok
 ·cases h; exact compF_ok c273_ok
 ·cases h; exact compF_ok c274_ok
 ·cases h; exact compF_ok c276_ok
 ·cases h; exact compF_ok c277_ok
 ·cases h; exact compF_ok c298_ok
 ·cases h; exact compF_ok c299_ok
 ·cases h; exact compF_ok c300_ok
 ·cases h; exact compF_ok c301_ok
 ·cases h; exact compF_ok c314_ok
 ·cases h; exact compF_ok c315_ok
 ·cases h
theorem codes5 : codes 5 = some c5 := rfl
theorem codes6 : codes 6 = some c6 := rfl
theorem codes11 : codes 11 = some c11 := rfl
theorem codes13 : codes 13 = some c13 := rfl
theorem codes17 : codes 17 = some c17 := rfl
theorem codes18 : codes 18 = some c18 := rfl
theorem codes19 : codes 19 = some c19 := rfl
theorem codes21 : codes 21 = some c21 := rfl
theorem codes22 : codes 22 = some c22 := rfl
theorem codes23 : codes 23 = some c23 := rfl
theorem codes24 : codes 24 = some c24 := rfl
theorem codes25 : codes 25 = some c25 := rfl
theorem codes26 : codes 26 = some c26 := rfl
theorem codes27 : codes 27 = some c27 := rfl
theorem codes28 : codes 28 = some c28 := rfl
theorem codes29 : codes 29 = some c29 := rfl
theorem codes30 : codes 30 = some c30 := rfl
theorem codes37 : codes 37 = some c37 := rfl
theorem codes38 : codes 38 = some c38 := rfl
theorem codes43 : codes 43 = some c43 := rfl
theorem codes44 : codes 44 = some c44 := rfl
theorem codes45 : codes 45 = some c45 := rfl
theorem codes46 : codes 46 = some c46 := rfl
theorem codes47 : codes 47 = some c47 := rfl
theorem codes48 : codes 48 = some c48 := rfl
theorem codes49 : codes 49 = some c49 := rfl
theorem codes52 : codes 52 = some c52 := rfl
theorem codes53 : codes 53 = some c53 := rfl
theorem codes54 : codes 54 = some c54 := rfl
theorem codes55 : codes 55 = some c55 := rfl
theorem codes56 : codes 56 = some c56 := rfl
theorem codes57 : codes 57 = some c57 := rfl
theorem codes58 : codes 58 = some c58 := rfl
theorem codes59 : codes 59 = some c59 := rfl
theorem codes60 : codes 60 = some c60 := rfl
theorem codes83 : codes 83 = some c83 := rfl
theorem codes84 : codes 84 = some c84 := rfl
theorem codes89 : codes 89 = some c89 := rfl
theorem codes90 : codes 90 = some c90 := rfl
theorem codes91 : codes 91 = some c91 := rfl
theorem codes92 : codes 92 = some c92 := rfl
theorem codes93 : codes 93 = some c93 := rfl
theorem codes95 : codes 95 = some c95 := rfl
theorem codes96 : codes 96 = some c96 := rfl
theorem codes97 : codes 97 = some c97 := rfl
theorem codes98 : codes 98 = some c98 := rfl
theorem codes99 : codes 99 = some c99 := rfl
theorem codes100 : codes 100 = some c100 := rfl
theorem codes101 : codes 101 = some c101 := rfl
theorem codes102 : codes 102 = some c102 := rfl
theorem codes103 : codes 103 = some c103 := rfl
theorem codes107 : codes 107 = some c107 := rfl
theorem codes146 : codes 146 = some c146 := rfl
theorem codes147 : codes 147 = some c147 := rfl
theorem codes148 : codes 148 = some c148 := rfl
theorem codes151 : codes 151 = some c151 := rfl
theorem codes152 : codes 152 = some c152 := rfl
theorem codes156 : codes 156 = some c156 := rfl
theorem codes157 : codes 157 = some c157 := rfl
theorem codes158 : codes 158 = some c158 := rfl
theorem codes159 : codes 159 = some c159 := rfl
theorem codes160 : codes 160 = some c160 := rfl
theorem codes161 : codes 161 = some c161 := rfl
theorem codes170 : codes 170 = some c170 := rfl
theorem codes194 : codes 194 = some c194 := rfl
theorem codes195 : codes 195 = some c195 := rfl
theorem codes198 : codes 198 = some c198 := rfl
theorem codes208 : codes 208 = some c208 := rfl
theorem codes209 : codes 209 = some c209 := rfl
theorem codes210 : codes 210 = some c210 := rfl
theorem codes232 : codes 232 = some c232 := rfl
theorem codes236 : codes 236 = some c236 := rfl
theorem codes239 : codes 239 = some c239 := rfl
theorem codes242 : codes 242 = some c242 := rfl
theorem codes246 : codes 246 = some c246 := rfl
theorem codes247 : codes 247 = some c247 := rfl
theorem codes263 : codes 263 = some c263 := rfl
theorem codes271 : codes 271 = some c271 := rfl
theorem codes272 : codes 272 = some c272 := rfl
theorem codes273 : codes 273 = some c273 := rfl
theorem codes274 : codes 274 = some c274 := rfl
theorem codes276 : codes 276 = some c276 := rfl
theorem codes277 : codes 277 = some c277 := rfl
theorem codes298 : codes 298 = some c298 := rfl
theorem codes299 : codes 299 = some c299 := rfl
theorem codes300 : codes 300 = some c300 := rfl
theorem codes301 : codes 301 = some c301 := rfl
theorem codes314 : codes 314 = some c314 := rfl
theorem codes315 : codes 315 = some c315 := rfl
noncomputable def libs : List (Nat × (List PV → Option PV)) := [(7, livesO libLives), (154, ossS libTrim), (155, ossL libSplit), (20, ossS libTrimRight)]
noncomputable abbrev baseL : Orc := libO libs
abbrev ZX (d : Nat) (Q : PQ) (c : PCode) (k : List It) (st : St) : Prop := ZR (lev codes baseL (d - 1)) Q c k st
theorem lvG {d f n : Nat} {fc : FCode} {args : List PV} {bs : List Blk} {r : PV × List Blk} (hd : n ≤ d) (h : ∀ Q : PX → St → Prop, (∀ e st', DoneF fc bs.length r e st' → Q e st') → ZX d Q fc.body [] (st0 args bs)) (hc : codes f = some fc) (hz : fc.z = false := by rfl) (hl : Nat.ble args.length fc.N = true := by rfl) (hn : Nat.ble 1 n = true := by rfl) : lev codes baseL d f args bs = some r :=
 lev_go hc hz hl (Nat.le_trans (Nat.le_of_ble_eq_true hn) hd) h
end Go.Proofs.YtobkkblijfhpoaaGreatDoor.Pm
