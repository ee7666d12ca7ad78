/- The library functions do what is said of them. Printed by dec.py. -/
import Derived.Test.YthblnlmpfgfgcaaDoorDIbC
import Derived.Test.YthblnlmpfgfgcaaDoorShelf
namespace Go.Proofs.YthblnlmpfgfgcaaDoor.Pm
set_option maxRecDepth 1000000
set_option maxHeartbeats 20000000
set_option linter.unusedVariables false
theorem libL_snd (W : World) (Φ : Nat → Phys) (hΦ : ∀ i b c, Φ i ≠ .blk b c) (hm : ∃ m, W.cell? ⟨0, 0, none⟩ = some (.int .i64 m)) : Snd Go.Proofs.Tryd.prog (libO libs) W Φ := libO_snd fun x hx => by
  simp only [libs, List.mem_cons, List.not_mem_nil, or_false] at hx
  rcases hx with rfl
  · exact lok_ReplaceAll 0 (fun i c => hΦ i 0 c) hm (canEnter_b (by kernel_rfl)) (fun s o n m w h1 h2 h3 h4 => Go.Proofs.Tryd.strings_ReplaceAll s o n m w h1 h2 h3 h4)
theorem baseL_snd (W : World) (Φ : Nat → Phys) (hΦ : ∀ i b c, Φ i ≠ .blk b c) (hm : ∃ m, W.cell? ⟨0, 0, none⟩ = some (.int .i64 m)) : Snd Go.Proofs.Tryd.prog baseL W Φ := blO_snd (libL_snd W Φ hΦ hm) (canEnter_b (by kernel_rfl)) (canEnter_b (by kernel_rfl))
  (fun b c0 u l s w h1 h2 h3 h4 h5 => Lb.WriteString_any (ρ := Go.Proofs.Tryd.lays155_ren) { Go.Proofs.Tryd.lays155 with } Go.Proofs.Tryd.Builder_Extra_155 b c0 u l s w h1 h2 h3 h4 h5) (fun b c0 u l w h1 h2 => Lb.String_buf Go.Proofs.Tryd.lays169 Go.Proofs.Tryd.Builder_Extra_169 b c0 u l w h1 h2)
end Go.Proofs.YthblnlmpfgfgcaaDoor.Pm
