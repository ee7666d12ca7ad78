/- The library functions do what is said of them. Printed by dec.py. -/
import Derived.Test.YtcbhpadficfnnaaDoorDPkC
import Derived.Test.YtcbhpadficfnnaaDoorShelf
import Derived.Test.YtcbhpadficfnnaaDoorLibE
namespace Go.Proofs.YtcbhpadficfnnaaDoor.Pm
set_option maxRecDepth 1000000
set_option maxHeartbeats 20000000
set_option linter.unusedVariables false
theorem baseL_snd (W : World) (Φ : Nat → Phys) (hΦ : ∀ i b c, Φ i ≠ .blk b c) (hm : ∃ m, W.cell? ⟨3, 0, none⟩ = some (.int .i64 m)) (ht : Lib.TabIs Go.Proofs.Tryd.prog W "internal/strconv.uint64pow10" .u64 Lib.pow10Tab) (he : ErrAt 0 W ∧ ErrAt 1 W) : Snd Go.Proofs.Tryd.prog baseL W Φ := libO_snd fun x hx => by
  simp only [libs, List.mem_cons, List.not_mem_nil, or_false] at hx
  rcases hx with rfl | rfl | rfl | rfl | rfl
  · exact lok_ItoaL hΦ ht (canEnter_b (by kernel_rfl)) (fun n h0 h1 w htab => Go.Proofs.Tryd.strconv_Itoa n h0 h1 w htab)
  · exact lok_TrimRightS (canEnter_b (by kernel_rfl)) (fun s c w h1 h2 h3 => Any.strings_TrimRight_laid Go.Proofs.Tryd.lays162 (by kernel_rfl) s c w h1 h2 h3)
  · exact lok_Split 3 (fun i c => hΦ i 3 c) hm (canEnter_b (by kernel_rfl)) (fun s sep m w h1 h2 h3 => Go.Proofs.Tryd.strings_Split s sep m w h1 h2 h3)
  · exact lok_Atoi hΦ he.1 he.2 (canEnter_b (by kernel_rfl)) (fun s hs v hv w => (Go.Proofs.Tryd.strconv_Atoi_ok s hs v hv w).mono fun e w' ⟨a, b⟩ => ⟨a, b.imp id fun ⟨t, q⟩ => ⟨_, t, q⟩⟩) (fun s hs hv ev w a b => (Go.Proofs.Tryd.strconv_Atoi_syntax s hs hv ev w a b).mono fun e w' ⟨n, q, _, _, r⟩ => ⟨⟨_, n, q⟩, r⟩) (fun s hs hv ev w a b => (Go.Proofs.Tryd.strconv_Atoi_range s hs hv ev w a b).mono fun e w' ⟨n, q, _, _, r⟩ => ⟨⟨_, n, q⟩, r⟩)
  · exact lok_HasSuffix (canEnter_b (by kernel_rfl)) (fun s p w hs => Go.Proofs.Tryd.strings_HasSuffix s p w hs)
end Go.Proofs.YtcbhpadficfnnaaDoor.Pm
