/-
  What the package-level variables hold ('Glob'), and that it stays while old memory stays.
-/
import Derived.Test.YtfdemglcjfdodaaDoorProg
import Derived.Below
import Derived.Lib.LaidTab
import Derived.Lib.ItoaNum
import Derived.Deep.Draws
namespace Go.Proofs.YtfdemglcjfdodaaDoor
open Go.RowKit

/-- The variables that the library reads: the table of powers, the two sentinels, a length. -/
structure Glob (w : World) : Prop where
  size : 8 ≤ w.heap.size
  pow10 : Lib.TabIs Tryd.prog w "internal/strconv.uint64pow10" .u64 Lib.pow10Tab
  syn : ∃ te pe, w.cell? ⟨0, 0, none⟩ = some (.iface te pe)
  rng : ∃ te pe, w.cell? ⟨1, 0, none⟩ = some (.iface te pe)
  maxlen : ∃ m, w.cell? ⟨3, 0, none⟩ = some (.int .i64 m)

theorem g2 : Tryd.prog.globalNamed "internal/strconv.uint64pow10" = some 2 := by kernel_rfl

theorem cell_same {w w' : World} {g : Nat} (h : w'.heap[g]? = w.heap[g]?) (o : Nat) : w'.cell? ⟨g, o, none⟩ = w.cell? ⟨g, o, none⟩ := by
  simp [World.cell?, h]

theorem Glob.same {w w' : World} (h : Glob w) (hs : w.heap.size ≤ w'.heap.size) (hb : ∀ g, g < 8 → w'.heap[g]? = w.heap[g]?) : Glob w' where
  size := Nat.le_trans h.size hs
  pow10 := by
    have := h.pow10
    unfold Lib.TabIs World.var? at this ⊢
    rw [g2] at this ⊢
    simp only [Option.bind_some] at this ⊢
    rw [hb 2 (by decide)]
    exact this
  syn := by rw [cell_same (hb 0 (by decide))]; exact h.syn
  rng := by rw [cell_same (hb 1 (by decide))]; exact h.rng
  maxlen := by rw [cell_same (hb 3 (by decide))]; exact h.maxlen

theorem Glob.below {w w' : World} (h : Glob w) (hb : Below w.heap.size w w') : Glob w' :=
  h.same hb.size (fun g hg => hb.block g (Nat.lt_of_lt_of_le hg h.size))
theorem Glob.drew {w : World} (h : Glob w) : Glob w.drew := h.same (Nat.le_refl _) (fun _ _ => rfl)
theorem Glob.drewN {w : World} (h : Glob w) (n : Nat) : Glob (w.drewN n) := h.same (Nat.le_refl _) (fun _ _ => rfl)
end Go.Proofs.YtfdemglcjfdodaaDoor
