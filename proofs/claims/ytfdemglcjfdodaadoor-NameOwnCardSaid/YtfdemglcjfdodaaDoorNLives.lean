/-
  The law's own 'lives': names that the document tells of.
-/
import Derived.Test.YtfdemglcjfdodaaDoorNCall2
namespace Go.Proofs.YtfdemglcjfdodaaDoor.N
open Go.RowKit Go.Lib Go.Proofs.YtfdemglcjfdodaaDoorW.PrintWords Go.Proofs.YtfdemglcjfdodaaDoorW.PrintLast Go.Proofs.YtfdemglcjfdodaaDoorW.PrintMore
set_option linter.unusedVariables false

/-- One input, one bad; the input is called x. -/
def cL (g : Nat) : Cv := ⟨1, none, 0, [], none, 0, [], none, 0, [], some ⟨g, 0, none⟩, 1, [2], none, 0, []⟩
def nL (g : Nat) : Nv := ⟨some ⟨g, 0, none⟩, 1, [⟨#[120]⟩], none, 0, [], none, 0, [], none, 0, [], none, 0, []⟩
theorem plain_x : badB ⟨#[120]⟩ = false := by decide +kernel
theorem fit_L (g : Nat) : Fit (cL g) := ⟨by simp [cL], by simp [cL], fun i hi => by simp [cL] at hi, fun i hi => by simp [cL] at hi⟩
theorem may_L (g h : Nat) : mayB (cL g) (nL h) = true := by
  refine mayB_true ⟨⟨show (0 : Int) ≤ 1 by decide, show (1 : Int) ≤ 16384 by decide, show (1 : Int) + ((0 : Nat) : Int) + ((0 : Nat) : Int) ≤ 16384 by decide, ?_, ?_, ?_⟩, ?_⟩
  · exact three (P := fun k => ((cL g).lit k).length ≤ 1024 ∧ ((cL g).lit k).any (bey (cL g)) = false) ⟨by simp [cL, Cv.lit], rfl⟩ ⟨by simp [cL, Cv.lit], by simp [cL, Cv.lit, bey, Cv.V, wrap64]⟩ ⟨by simp [cL, Cv.lit], rfl⟩
  · intro i hi
    simp [cL] at hi
  · intro i hi
    simp [cL] at hi
  · exact five (P := fun k => ((nL h).l k).length = 0 ∨ ((((nL h).l k).length : Int) = (cL g).many k ∧ ((nL h).l k).any badB = false ∧ ((nL h).l k).any toldB = true)) (.inr ⟨rfl, by simp [nL, Nv.l, Nv.ls, plain_x], show [(⟨#[120]⟩ : ByteArray)].any toldB = true by decide⟩) (.inl rfl) (.inl rfl) (.inl rfl) (.inl rfl)
theorem f1 (g h : Nat) : findV (cL g) (nL h) ⟨#[120]⟩ = (2, 0) := by
  show findF 1 0 0 [] [2] [] [[⟨#[120]⟩], [], [], [], []] ⟨#[120]⟩ = (2, 0)
  decide +kernel
theorem f2 (g h : Nat) : findV (cL g) (nL h) ⟨#[105, 48]⟩ = (2, 0) := by
  show findF 1 0 0 [] [2] [] [[⟨#[120]⟩], [], [], [], []] ⟨#[105, 48]⟩ = (2, 0)
  decide +kernel
theorem f3 (g h : Nat) : findV (cL g) (nL h) ⟨#[98, 48]⟩ = (2, 0) := by
  show findF 1 0 0 [] [2] [] [[⟨#[120]⟩], [], [], [], []] ⟨#[98, 48]⟩ = (2, 0)
  decide +kernel
theorem f4 (g h : Nat) : findV (cL g) (nL h) ⟨#[121]⟩ = (0, 7) := by
  show findF 1 0 0 [] [2] [] [[⟨#[120]⟩], [], [], [], []] ⟨#[121]⟩ = (0, 7)
  decide +kernel
theorem c2 (g h : Nat) : callR (cL g) (nL h) 2 = (⟨#[120]⟩, 0) := by
  unfold callR
  rw [if_neg (by simp [cL]), if_neg (by decide), if_neg (by decide)]
  show (callF 1 0 [⟨#[120]⟩] [] 1, (0 : Int)) = (⟨#[120]⟩, 0)
  decide +kernel
theorem c3 (g h : Nat) : callR (cL g) (nL h) 3 = (⟨#[33, 120]⟩, 0) := by
  unfold callR
  rw [if_neg (by simp [cL]), if_neg (by decide), if_pos (by decide)]
  show (⟨#[33]⟩ ++ callF 1 0 [⟨#[120]⟩] [] 1, (0 : Int)) = (⟨#[33, 120]⟩, 0)
  decide +kernel
theorem c1 (g h : Nat) : callR (cL g) (nL h) 1 = (⟨#[49]⟩, 0) := by
  unfold callR
  rw [if_neg (by simp [cL]), if_pos (by decide)]
  decide +kernel

theorem held_c {g : Nat} {W : World} (h : W.cell? ⟨g, 0, none⟩ = some (.int .u32 2)) : (cL g).Held W := by
  refine ⟨Kd.C_nil _ _, Nat.le_refl _, Kd.C_nil _ _, Nat.le_refl _, Kd.C_nil _ _, Nat.le_refl _, ?_, Nat.le_refl _, Kd.C_nil _ _, Nat.le_refl _⟩
  refine Kd.C_of_reads (d := (0 : Int)) (h1 := fun _ => rfl) ⟨rfl, by simp [cL], fun _ => ⟨_, rfl, fun j hj => ?_⟩⟩
  obtain rfl : j = 0 := by simpa [cL] using hj
  exact h
theorem held_n {g : Nat} {W : World} (h : W.cell? ⟨g, 0, none⟩ = some (.string ⟨#[120]⟩)) : (nL g).Held W := by
  refine ⟨?_, Nat.le_refl _, Kd.C_nil _ _, Nat.le_refl _, Kd.C_nil _ _, Nat.le_refl _, Kd.C_nil _ _, Nat.le_refl _, Kd.C_nil _ _, Nat.le_refl _⟩
  refine Kd.C_of_reads (d := ByteArray.empty) (h1 := fun _ => rfl) ⟨rfl, by simp [nL], fun _ => ⟨_, rfl, fun j hj => ?_⟩⟩
  obtain rfl : j = 0 := by simpa [nL] using hj
  exact h
theorem below_st {w0 W w3 : World} (h : Below w0.heap.size w0 W) (k : Below W.heap.size W w3) : Below w0.heap.size w0 w3 := below_then h h.size k
set_option maxHeartbeats 4000000 in
set_option maxRecDepth 100000 in
theorem lives (w : World) (hG : Glob w) : Calls Tryd.prog 13 #[] w fun e w' => e = .returned (.bool true) ∧ Below w.heap.size w w' := by
  have HX : Aside0 (Boxed (cL w.heap.size) (w.heap.size + 1) ((((w.alloc (.cells #[.int .u32 2] 30)).alloc (.cells #[.int .i64 1, .slice none 0 0, .slice none 0 0, .slice none 0 0, .slice (some ⟨w.heap.size, 0, none⟩) 1 1, .slice none 0 0] 26)).alloc (.cells #[.string ⟨#[120]⟩] 9)).alloc (.cells #[.slice (some ⟨w.heap.size + 1 + 1, 0, none⟩) 1 1, .slice none 0 0, .slice none 0 0, .slice none 0 0, .slice none 0 0] 29))) := ⟨Boxed.below (Boxed.below (heap_alloc2_new w _ _) (below_alloc (Below.refl _ _) _)) (below_alloc (Below.refl _ _) _)⟩
  have HY : Aside0 (NBoxed (nL (w.heap.size + 1 + 1)) (w.heap.size + 1 + 1 + 1) ((((w.alloc (.cells #[.int .u32 2] 30)).alloc (.cells #[.int .i64 1, .slice none 0 0, .slice none 0 0, .slice none 0 0, .slice (some ⟨w.heap.size, 0, none⟩) 1 1, .slice none 0 0] 26)).alloc (.cells #[.string ⟨#[120]⟩] 9)).alloc (.cells #[.slice (some ⟨w.heap.size + 1 + 1, 0, none⟩) 1 1, .slice none 0 0, .slice none 0 0, .slice none 0 0, .slice none 0 0] 29))) := by
    refine ⟨?_⟩
    have := heap_alloc2_new ((w.alloc (.cells #[.int .u32 2] 30)).alloc (.cells #[.int .i64 1, .slice none 0 0, .slice none 0 0, .slice none 0 0, .slice (some ⟨w.heap.size, 0, none⟩) 1 1, .slice none 0 0] 26)) (.cells #[.string ⟨#[120]⟩] 9) (.cells #[.slice (some ⟨w.heap.size + 1 + 1, 0, none⟩) 1 1, .slice none 0 0, .slice none 0 0, .slice none 0 0, .slice none 0 0] 29)
    rw [show ((w.alloc (.cells #[.int .u32 2] 30)).alloc (.cells #[.int .i64 1, .slice none 0 0, .slice none 0 0, .slice none 0 0, .slice (some ⟨w.heap.size, 0, none⟩) 1 1, .slice none 0 0] 26)).heap.size = w.heap.size + 1 + 1 by simp] at this
    exact this
  have HBW := Aside0.mk (below_alloc (below_alloc (below_alloc (below_alloc (Below.refl w.heap.size w) (.cells #[.int .u32 2] 30)) (.cells #[.int .i64 1, .slice none 0 0, .slice none 0 0, .slice none 0 0, .slice (some ⟨w.heap.size, 0, none⟩) 1 1, .slice none 0 0] 26)) (.cells #[.string ⟨#[120]⟩] 9)) (.cells #[.slice (some ⟨w.heap.size + 1 + 1, 0, none⟩) 1 1, .slice none 0 0, .slice none 0 0, .slice none 0 0, .slice none 0 0] 29))
  have HCc : Aside0 (((((w.alloc (.cells #[.int .u32 2] 30)).alloc (.cells #[.int .i64 1, .slice none 0 0, .slice none 0 0, .slice none 0 0, .slice (some ⟨w.heap.size, 0, none⟩) 1 1, .slice none 0 0] 26)).alloc (.cells #[.string ⟨#[120]⟩] 9)).alloc (.cells #[.slice (some ⟨w.heap.size + 1 + 1, 0, none⟩) 1 1, .slice none 0 0, .slice none 0 0, .slice none 0 0, .slice none 0 0] 29)).cell? ⟨w.heap.size, 0, none⟩ = some (.int .u32 2)) := ⟨by first | (simp; done) | (go_simp; done)⟩
  have HDd : Aside0 (((((w.alloc (.cells #[.int .u32 2] 30)).alloc (.cells #[.int .i64 1, .slice none 0 0, .slice none 0 0, .slice none 0 0, .slice (some ⟨w.heap.size, 0, none⟩) 1 1, .slice none 0 0] 26)).alloc (.cells #[.string ⟨#[120]⟩] 9)).alloc (.cells #[.slice (some ⟨w.heap.size + 1 + 1, 0, none⟩) 1 1, .slice none 0 0, .slice none 0 0, .slice none 0 0, .slice none 0 0] 29)).cell? ⟨w.heap.size + 1 + 1, 0, none⟩ = some (.string ⟨#[120]⟩)) := ⟨by first | (simp; done) | (go_simp; done)⟩
  have HG := Aside0.mk hG
  clear hG
  go_enter Tryd.func13, Tryd.ntmps13
  go_wp2_with fail
  refine (find (cL w.heap.size) (nL (w.heap.size + 1 + 1)) ⟨#[120]⟩ (by decide) _ (held_c HCc.out) (held_n HDd.out) (Glob.below HG.out HBW.out) (fit_L _)).mono ?_
  rw [may_L, if_pos rfl]
  unfold findR
  rw [f1]
  rintro e w1 ⟨rfl, hb⟩
  have B1 := Aside0.mk (below_st HBW.out hb)
  have X1 := Aside0.mk (HX.out.below hb)
  have Y1 := Aside0.mk (HY.out.below hb)
  have C1 := Aside0.mk ((hb.cell (World.block_lt_of_cell? _ _ HCc.out)).trans HCc.out)
  have D1 := Aside0.mk ((hb.cell (World.block_lt_of_cell? _ _ HDd.out)).trans HDd.out)
  clear hb HX HY HCc HDd HBW
  generalize w.heap.size + 1 + 1 + 1 = gn at Y1 ⊢
  generalize w.heap.size + 1 + 1 = gx at Y1 D1 ⊢
  generalize w.heap.size + 1 = gc at X1 ⊢
  obtain ⟨e0, e1, e2, e3, e4, e5⟩ := X1.out.open
  obtain ⟨f0, f1', f2', f3', f4'⟩ := Y1.out.open
  unfold cL at e0 e1 e2 e3 e4 e5
  unfold nL at f0 f1' f2' f3' f4'
  dsimp only at e0 e1 e2 e3 e4 e5 f0 f1' f2' f3' f4'
  go_wp2_with fail
  refine (find (cL w.heap.size) (nL gx) ⟨#[105, 48]⟩ (by decide) w1 (held_c C1.out) (held_n D1.out) (Glob.below HG.out B1.out) (fit_L _)).mono ?_
  rw [may_L, if_pos rfl]
  unfold findR
  rw [f2]
  rintro e w2 ⟨rfl, hb⟩
  have B2 := Aside0.mk (below_st B1.out hb)
  have X2 := Aside0.mk (X1.out.below hb)
  have Y2 := Aside0.mk (Y1.out.below hb)
  have C2 := Aside0.mk ((hb.cell (World.block_lt_of_cell? _ _ C1.out)).trans C1.out)
  have D2 := Aside0.mk ((hb.cell (World.block_lt_of_cell? _ _ D1.out)).trans D1.out)
  clear hb e0 e1 e2 e3 e4 e5 f0 f1' f2' f3' f4' X1 Y1 C1 D1 B1
  obtain ⟨e0, e1, e2, e3, e4, e5⟩ := X2.out.open
  obtain ⟨f0, f1', f2', f3', f4'⟩ := Y2.out.open
  unfold cL at e0 e1 e2 e3 e4 e5
  unfold nL at f0 f1' f2' f3' f4'
  dsimp only at e0 e1 e2 e3 e4 e5 f0 f1' f2' f3' f4'
  go_wp2_with fail
  refine (find (cL w.heap.size) (nL gx) ⟨#[98, 48]⟩ (by decide) w2 (held_c C2.out) (held_n D2.out) (Glob.below HG.out B2.out) (fit_L _)).mono ?_
  rw [may_L, if_pos rfl]
  unfold findR
  rw [f3]
  rintro e w3 ⟨rfl, hb⟩
  have B3 := Aside0.mk (below_st B2.out hb)
  have X3 := Aside0.mk (X2.out.below hb)
  have Y3 := Aside0.mk (Y2.out.below hb)
  have C3 := Aside0.mk ((hb.cell (World.block_lt_of_cell? _ _ C2.out)).trans C2.out)
  have D3 := Aside0.mk ((hb.cell (World.block_lt_of_cell? _ _ D2.out)).trans D2.out)
  clear hb e0 e1 e2 e3 e4 e5 f0 f1' f2' f3' f4' X2 Y2 C2 D2 B2
  obtain ⟨e0, e1, e2, e3, e4, e5⟩ := X3.out.open
  obtain ⟨f0, f1', f2', f3', f4'⟩ := Y3.out.open
  unfold cL at e0 e1 e2 e3 e4 e5
  unfold nL at f0 f1' f2' f3' f4'
  dsimp only at e0 e1 e2 e3 e4 e5 f0 f1' f2' f3' f4'
  go_wp2_with fail
  refine (find (cL w.heap.size) (nL gx) ⟨#[121]⟩ (by decide) w3 (held_c C3.out) (held_n D3.out) (Glob.below HG.out B3.out) (fit_L _)).mono ?_
  rw [may_L, if_pos rfl]
  unfold findR
  rw [f4]
  rintro e w4 ⟨rfl, hb⟩
  have B4 := Aside0.mk (below_st B3.out hb)
  have X4 := Aside0.mk (X3.out.below hb)
  have Y4 := Aside0.mk (Y3.out.below hb)
  have C4 := Aside0.mk ((hb.cell (World.block_lt_of_cell? _ _ C3.out)).trans C3.out)
  have D4 := Aside0.mk ((hb.cell (World.block_lt_of_cell? _ _ D3.out)).trans D3.out)
  clear hb e0 e1 e2 e3 e4 e5 f0 f1' f2' f3' f4' X3 Y3 C3 D3 B3
  obtain ⟨e0, e1, e2, e3, e4, e5⟩ := X4.out.open
  obtain ⟨f0, f1', f2', f3', f4'⟩ := Y4.out.open
  unfold cL at e0 e1 e2 e3 e4 e5
  unfold nL at f0 f1' f2' f3' f4'
  dsimp only at e0 e1 e2 e3 e4 e5 f0 f1' f2' f3' f4'
  go_wp2_with fail
  refine (call (cL w.heap.size) (nL gx) 2 (by decide) w4 (held_c C4.out) (held_n D4.out) (Glob.below HG.out B4.out) (fit_L _)).mono ?_
  rw [may_L, if_pos rfl]
  rw [c2]
  rintro e w5 ⟨rfl, hb⟩
  have B5 := Aside0.mk (below_st B4.out hb)
  have X5 := Aside0.mk (X4.out.below hb)
  have Y5 := Aside0.mk (Y4.out.below hb)
  have C5 := Aside0.mk ((hb.cell (World.block_lt_of_cell? _ _ C4.out)).trans C4.out)
  have D5 := Aside0.mk ((hb.cell (World.block_lt_of_cell? _ _ D4.out)).trans D4.out)
  clear hb e0 e1 e2 e3 e4 e5 f0 f1' f2' f3' f4' X4 Y4 C4 D4 B4
  obtain ⟨e0, e1, e2, e3, e4, e5⟩ := X5.out.open
  obtain ⟨f0, f1', f2', f3', f4'⟩ := Y5.out.open
  unfold cL at e0 e1 e2 e3 e4 e5
  unfold nL at f0 f1' f2' f3' f4'
  dsimp only at e0 e1 e2 e3 e4 e5 f0 f1' f2' f3' f4'
  go_wp2_with fail
  refine (call (cL w.heap.size) (nL gx) 3 (by decide) w5 (held_c C5.out) (held_n D5.out) (Glob.below HG.out B5.out) (fit_L _)).mono ?_
  rw [may_L, if_pos rfl]
  rw [c3]
  rintro e w6 ⟨rfl, hb⟩
  have B6 := Aside0.mk (below_st B5.out hb)
  have X6 := Aside0.mk (X5.out.below hb)
  have Y6 := Aside0.mk (Y5.out.below hb)
  have C6 := Aside0.mk ((hb.cell (World.block_lt_of_cell? _ _ C5.out)).trans C5.out)
  have D6 := Aside0.mk ((hb.cell (World.block_lt_of_cell? _ _ D5.out)).trans D5.out)
  clear hb e0 e1 e2 e3 e4 e5 f0 f1' f2' f3' f4' X5 Y5 C5 D5 B5
  obtain ⟨e0, e1, e2, e3, e4, e5⟩ := X6.out.open
  obtain ⟨f0, f1', f2', f3', f4'⟩ := Y6.out.open
  unfold cL at e0 e1 e2 e3 e4 e5
  unfold nL at f0 f1' f2' f3' f4'
  dsimp only at e0 e1 e2 e3 e4 e5 f0 f1' f2' f3' f4'
  go_wp2_with fail
  refine (call (cL w.heap.size) (nL gx) 1 (by decide) w6 (held_c C6.out) (held_n D6.out) (Glob.below HG.out B6.out) (fit_L _)).mono ?_
  rw [may_L, if_pos rfl]
  rw [c1]
  rintro e w7 ⟨rfl, hb⟩
  have B7 := Aside0.mk (below_st B6.out hb)
  have X7 := Aside0.mk (X6.out.below hb)
  have Y7 := Aside0.mk (Y6.out.below hb)
  have C7 := Aside0.mk ((hb.cell (World.block_lt_of_cell? _ _ C6.out)).trans C6.out)
  have D7 := Aside0.mk ((hb.cell (World.block_lt_of_cell? _ _ D6.out)).trans D6.out)
  clear hb e0 e1 e2 e3 e4 e5 f0 f1' f2' f3' f4' X6 Y6 C6 D6 B6
  go_wp2_with fail
  go_ret
  exact ⟨rfl, B7.out⟩
end Go.Proofs.YtfdemglcjfdodaaDoor.N
