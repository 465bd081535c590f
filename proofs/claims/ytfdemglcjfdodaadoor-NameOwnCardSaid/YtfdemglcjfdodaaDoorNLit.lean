/-
  name.lit.
-/
import Derived.Test.YtfdemglcjfdodaaDoorNPlace
namespace Go.Proofs.YtfdemglcjfdodaaDoor.N
open Go.RowKit Go.Lib Go.Proofs.YtfdemglcjfdodaaDoorW.PrintWords Go.Proofs.YtfdemglcjfdodaaDoorW.PrintLast Go.Proofs.YtfdemglcjfdodaaDoorW.PrintMore
set_option linter.unusedVariables false

set_option maxHeartbeats 1000000 in
theorem lit01 (c : Cv) (k i : Nat) (hk : k = 0 ∨ k = 1) (hi : i < 100000) (h0 : 0 ≤ c.inp) (h1 : c.inp ≤ 16384) (w : World) :
    Calls Tryd.prog 54 #[c.val, .int .i64 k, .int .i64 i] w fun e w' => e = .returned (.int .u32 (litF c.inp.toNat c.lat.length c.out c.bad c.con k i)) ∧ Below w.heap.size w w' := by
  have H0 := Aside0.mk (And.intro h0 (And.intro h1 hi))
  obtain ⟨r, hr⟩ : ∃ r, r = litF c.inp.toNat c.lat.length c.out c.bad c.con k i := ⟨_, rfl⟩
  rw [← hr]
  have HR := Aside0.mk hr
  clear h0 h1 hr
  unfold Cv.val
  rcases hk with rfl | rfl
  · go_enter Tryd.func54, Tryd.ntmps54
    go_wp2_with fail
    go_ret
    refine ⟨?_, below_alloc (Below.refl _ _) _⟩
    rw [HR.out]
    have := H0.out
    have e : (1 + (i : Int)) * 2 = litF c.inp.toNat c.lat.length c.out c.bad c.con 0 i := by
      simp only [litF, if_true]
      omega
    rw [← e]
    rfl
  · go_enter Tryd.func54, Tryd.ntmps54
    go_wp2_with fail
    go_ret
    refine ⟨?_, below_alloc (Below.refl _ _) _⟩
    rw [HR.out]
    have := H0.out
    have e : wrap64 (wrap64 (1 + c.inp) + (i : Int)) % 4294967296 * 2 % 4294967296 = litF c.inp.toNat c.lat.length c.out c.bad c.con 1 i := by
      simp only [litF, wrap64, if_true]
      rw [if_neg (by omega)]
      omega
    rw [← e]
    rfl
theorem idx121 (x y z : Value) : (∀ W : World, (Instr.index 121 (.agg #[x, y, z]) (.int .i64 0)).run Tryd.prog W = .ok x W) ∧ (∀ W : World, (Instr.index 121 (.agg #[x, y, z]) (.int .i64 1)).run Tryd.prog W = .ok y W) ∧ (∀ W : World, (Instr.index 121 (.agg #[x, y, z]) (.int .i64 2)).run Tryd.prog W = .ok z W) :=
  ⟨fun W => by simp [Instr.index, run_underlying Tryd.underlying121, asIntOf, go_sem], fun W => by simp [Instr.index, run_underlying Tryd.underlying121, asIntOf, go_sem], fun W => by simp [Instr.index, run_underlying Tryd.underlying121, asIntOf, go_sem]⟩
set_option maxHeartbeats 1000000 in
set_option maxRecDepth 100000 in
theorem lit234 (c : Cv) (k i : Nat) (hk : k < 3) (hi : i < (c.lit k).length) (w : World) (hc : c.Held w) :
    Calls Tryd.prog 54 #[c.val, .int .i64 ((k + 2 : Nat) : Int), .int .i64 i] w fun e w' => e = .returned (.int .u32 ((c.lit k).getD i 0)) ∧ Below w.heap.size w w' := by
  have hm : (c.lit k).length ≤ 9223372036854775807 := (hc.at k hk).2.1
  obtain ⟨r, hr⟩ : ∃ r, r = (c.lit k).getD i 0 := ⟨_, rfl⟩
  have hrd : ReadsOf (Value.int .u32) (0 : Int) (w.alloc (.cells c.cells 26)) (c.litA k) (c.lit k).length (c.lit k) := Kd.reads_of_C (Kd.C_below (hc.at k hk) (below_alloc (Below.refl _ _) _))
  obtain ⟨a, ha, hcs⟩ := hrd.2.2 (by omega)
  have hcell := hcs i hi
  rw [← hr] at hcell ⊢
  have HR := Aside0.mk hr
  clear hr hcs hrd hc
  have e : k = 0 ∨ k = 1 ∨ k = 2 := by omega
  unfold Cv.cells at hcell
  unfold Cv.val
  rcases e with rfl | rfl | rfl
  · have ha' : c.A3 = some a := ha
    have hi' : i < c.out.length := hi
    have hm' : c.out.length ≤ 9223372036854775807 := hm
    have hx := (idx121 (.slice (some a) c.out.length c.c3) (.slice c.A4 c.bad.length c.c4) (.slice c.A5 c.con.length c.c5)).1
    rw [ha'] at hcell
    clear ha hi hm
    go_enter Tryd.func54, Tryd.ntmps54
    go_wp2_with fail
    go_ret
    exact ⟨rfl, below_alloc (Below.refl _ _) _⟩
  · have ha' : c.A4 = some a := ha
    have hi' : i < c.bad.length := hi
    have hm' : c.bad.length ≤ 9223372036854775807 := hm
    have hx := (idx121 (.slice c.A3 c.out.length c.c3) (.slice (some a) c.bad.length c.c4) (.slice c.A5 c.con.length c.c5)).2.1
    rw [ha'] at hcell
    clear ha hi hm
    go_enter Tryd.func54, Tryd.ntmps54
    go_wp2_with fail
    go_ret
    exact ⟨rfl, below_alloc (Below.refl _ _) _⟩
  · have ha' : c.A5 = some a := ha
    have hi' : i < c.con.length := hi
    have hm' : c.con.length ≤ 9223372036854775807 := hm
    have hx := (idx121 (.slice c.A3 c.out.length c.c3) (.slice c.A4 c.bad.length c.c4) (.slice (some a) c.con.length c.c5)).2.2
    rw [ha'] at hcell
    clear ha hi hm
    go_enter Tryd.func54, Tryd.ntmps54
    go_wp2_with fail
    go_ret
    exact ⟨rfl, below_alloc (Below.refl _ _) _⟩
end Go.Proofs.YtfdemglcjfdodaaDoor.N
namespace Go.Proofs.YtfdemglcjfdodaaDoor.N
open Go.RowKit Go.Lib
/-- name.lit. -/
theorem lit (c : Cv) (k i : Nat) (hk : k < 5) (hi : (i : Int) < c.many k) (h0 : 0 ≤ c.inp) (h1 : c.inp ≤ 16384) (h2 : c.lat.length ≤ 16384) (w : World) (hc : c.Held w) :
    Calls Tryd.prog 54 #[c.val, .int .i64 k, .int .i64 i] w fun e w' => e = .returned (.int .u32 (litF c.inp.toNat c.lat.length c.out c.bad c.con k i)) ∧ Below w.heap.size w w' := by
  have e : k = 0 ∨ k = 1 ∨ k = 2 ∨ k = 3 ∨ k = 4 := by omega
  rcases e with rfl | rfl | rfl | rfl | rfl
  · exact lit01 c 0 i (.inl rfl) (by have : (i : Int) < c.inp := hi; omega) h0 h1 w
  · exact lit01 c 1 i (.inr rfl) (by have : (i : Int) < c.lat.length := hi; omega) h0 h1 w
  · exact lit234 c 0 i (by omega) (by have : (i : Int) < c.out.length := hi; show i < c.out.length; omega) w hc
  · exact lit234 c 1 i (by omega) (by have : (i : Int) < c.bad.length := hi; show i < c.bad.length; omega) w hc
  · exact lit234 c 2 i (by omega) (by have : (i : Int) < c.con.length := hi; show i < c.con.length; omega) w hc
end Go.Proofs.YtfdemglcjfdodaaDoor.N
