/-
  norm.Vars and name.May.
-/
import Derived.Test.YtfdemglcjfdodaaDoorNNorm
import Derived.Deep.RegionHeld3
namespace Go.Proofs.YtfdemglcjfdodaaDoor.N
open Go.RowKit Go.Lib Go.Proofs.YtfdemglcjfdodaaDoorW.PrintWords Go.Proofs.YtfdemglcjfdodaaDoorW.PrintLast Go.Proofs.YtfdemglcjfdodaaDoorW.PrintMore
set_option linter.unusedVariables false

set_option maxHeartbeats 2000000 in
theorem nvars (c : Cv) (w : World) (hc : c.Held w) (hs : Fit c) :
    Calls Tryd.prog 50 #[c.val] w fun e w' => e = .returned (.int .i64 (if normB c then c.inp + c.lat.length + c.gat.length else 0)) ∧ Below w.heap.size w w' := by
  have HC := Aside0.mk hc
  have HM := Aside0.mk (nmay c (w.alloc (.cells c.cells 26)) (hc.below (below_alloc (Below.refl _ _) _)) hs)
  have HX : Aside0 (Boxed c w.heap.size (w.alloc (.cells c.cells 26))) := ⟨heap_alloc_new w _⟩
  have HB := Aside0.mk (below_alloc (Below.refl w.heap.size w) (.cells c.cells 26))
  clear hc
  unfold Cv.cells at HM HX HB
  unfold Cv.val
  cases hn : normB c with
  | false =>
    rw [hn] at HM
    go_enter Tryd.func50, Tryd.ntmps50
    go_wp2_with fail
    refine HM.out.mono ?_
    rintro e w1 ⟨rfl, hb⟩
    go_wp2_with fail
    go_ret
    exact ⟨rfl, below_then HB.out HB.out.size hb⟩
  | true =>
    rw [hn] at HM
    have ho := normB_ok hn
    have HV := Aside0.mk (fun W (h : c.Held W) => vars c W h ho.h0 ho.h1 (by have := ho.h2; have := ho.h0; omega))
    clear ho
    go_enter Tryd.func50, Tryd.ntmps50
    go_wp2_with fail
    refine HM.out.mono ?_
    rintro e w1 ⟨rfl, hb⟩
    have B1 := Aside0.mk (below_then HB.out HB.out.size hb)
    obtain ⟨e0, e1, e2, e3, e4, e5⟩ := (HX.out.below hb).open
    go_wp2_with fail
    refine (HV.out w1 (HC.out.below B1.out)).mono ?_
    rintro e w2 ⟨rfl, hb2⟩
    go_wp2_with fail
    go_ret
    exact ⟨rfl, below_then B1.out B1.out.size hb2⟩

/-- Names in a box. -/
def NBoxed (n : Nv) (B : Nat) (w : World) : Prop := w.heap[B]? = some (.cells #[.slice n.A0 n.l0.length n.c0, .slice n.A1 n.l1.length n.c1, .slice n.A2 n.l2.length n.c2, .slice n.A3 n.l3.length n.c3, .slice n.A4 n.l4.length n.c4] 29 (0, 0))
theorem NBoxed.cell {n : Nv} {B : Nat} {w : World} (h : NBoxed n B w) (k : Nat) (hk : k < 5) : w.cell? ⟨B, k, none⟩ = some (.slice (n.A k) (n.l k).length (n.c k)) := by
  unfold NBoxed at h
  simp only [World.cell?, h]
  exact five (P := fun k => (#[Value.slice n.A0 n.l0.length n.c0, .slice n.A1 n.l1.length n.c1, .slice n.A2 n.l2.length n.c2, .slice n.A3 n.l3.length n.c3, .slice n.A4 n.l4.length n.c4] : Array Value)[k]? = some (.slice (n.A k) (n.l k).length (n.c k))) rfl rfl rfl rfl rfl k hk
theorem NBoxed.below {n : Nv} {B : Nat} {w w' : World} (h : NBoxed n B w) (hb : Below w.heap.size w w') : NBoxed n B w' := by
  unfold NBoxed at h ⊢
  rw [hb.block B (Array.getElem?_eq_some_iff.1 h).1]
  exact h
structure NBoxed.Cells (n : Nv) (B : Nat) (w : World) : Prop where
  e0 : w.cell? ⟨B, 0, none⟩ = some (.slice n.A0 n.l0.length n.c0)
  e1 : w.cell? ⟨B, 1, none⟩ = some (.slice n.A1 n.l1.length n.c1)
  e2 : w.cell? ⟨B, 2, none⟩ = some (.slice n.A2 n.l2.length n.c2)
  e3 : w.cell? ⟨B, 3, none⟩ = some (.slice n.A3 n.l3.length n.c3)
  e4 : w.cell? ⟨B, 4, none⟩ = some (.slice n.A4 n.l4.length n.c4)
theorem NBoxed.open {n : Nv} {B : Nat} {w : World} (h : NBoxed n B w) : NBoxed.Cells n B w := ⟨h.cell 0 (by omega), h.cell 1 (by omega), h.cell 2 (by omega), h.cell 3 (by omega), h.cell 4 (by omega)⟩
theorem ptr_at (B : Nat) (k : Nat) (hk : k < 5) : (#[Value.pointer (some ⟨B, 0, none⟩), .pointer (some ⟨B, 1, none⟩), .pointer (some ⟨B, 2, none⟩), .pointer (some ⟨B, 3, none⟩), .pointer (some ⟨B, 4, none⟩)] : Array Value)[k]? = some (.pointer (some ⟨B, k, none⟩)) :=
  five (P := fun k => (#[Value.pointer (some ⟨B, 0, none⟩), .pointer (some ⟨B, 1, none⟩), .pointer (some ⟨B, 2, none⟩), .pointer (some ⟨B, 3, none⟩), .pointer (some ⟨B, 4, none⟩)] : Array Value)[k]? = some (.pointer (some ⟨B, k, none⟩))) rfl rfl rfl rfl rfl k hk
theorem many_at (c : Cv) (k : Nat) (hk : k < 5) : (#[Value.int .i64 c.inp, .int .i64 c.lat.length, .int .i64 c.out.length, .int .i64 c.bad.length, .int .i64 c.con.length] : Array Value)[k]? = some (.int .i64 (c.many k)) :=
  five (P := fun k => (#[Value.int .i64 c.inp, .int .i64 c.lat.length, .int .i64 c.out.length, .int .i64 c.bad.length, .int .i64 c.con.length] : Array Value)[k]? = some (.int .i64 (c.many k))) rfl rfl rfl rfl rfl k hk

structure NameOk (c : Cv) (n : Nv) : Prop where
  norm : NormOk c
  lists : ∀ k, k < 5 → (n.l k).length = 0 ∨ (((n.l k).length : Int) = c.many k ∧ (n.l k).any badB = false ∧ (n.l k).any toldB = true)
open Classical in
noncomputable def mayB (c : Cv) (n : Nv) : Bool := decide (NameOk c n)
open Classical in
theorem mayB_true {c : Cv} {n : Nv} (h : NameOk c n) : mayB c n = true := decide_eq_true h
open Classical in
theorem mayB_false {c : Cv} {n : Nv} (h : ¬ NameOk c n) : mayB c n = false := decide_eq_false h
open Classical in
theorem mayB_ok {c : Cv} {n : Nv} (h : mayB c n = true) : NameOk c n := of_decide_eq_true h
theorem eg42 : ∀ args w, (callFunc 42 args).run Tryd.prog w = .ok (.enter 42 args) w := enters_of Tryd.func42 (by kernel_rfl) rfl
theorem eg44 : ∀ args w, (callFunc 44 args).run Tryd.prog w = .ok (.enter 44 args) w := enters_of Tryd.func44 (by kernel_rfl) rfl

set_option maxHeartbeats 2000000 in
theorem may_norm (c : Cv) (n : Nv) (w : World) (hc : c.Held w) (hs : Fit c) (hn : normB c = false) :
    Calls Tryd.prog 11 #[c.val, n.val] w fun e w' => e = .returned (.bool false) ∧ Below w.heap.size w w' := by
  have HB := Aside0.mk (below_alloc (below_alloc (Below.refl w.heap.size w) (.cells c.cells 26)) (.cells #[.slice n.A0 n.l0.length n.c0, .slice n.A1 n.l1.length n.c1, .slice n.A2 n.l2.length n.c2, .slice n.A3 n.l3.length n.c3, .slice n.A4 n.l4.length n.c4] 29))
  have HM := Aside0.mk (nmay c _ (hc.below HB.out) hs)
  rw [hn] at HM
  clear hc
  unfold Cv.cells at HM HB
  unfold Cv.val Nv.val
  go_enter Tryd.func11, Tryd.ntmps11
  go_wp2_with fail
  refine HM.out.mono ?_
  rintro e w1 ⟨rfl, hb⟩
  go_wp2_with fail
  go_ret
  exact ⟨rfl, below_then HB.out HB.out.size hb⟩
theorem idx_ptr (g : Nat) (k : Nat) (hk : k < 5) : ∀ W : World, (Instr.index 70 (.agg #[.pointer (some ⟨g, 0, none⟩), .pointer (some ⟨g, 1, none⟩), .pointer (some ⟨g, 2, none⟩), .pointer (some ⟨g, 3, none⟩), .pointer (some ⟨g, 4, none⟩)]) (.int .i64 k)).run Tryd.prog W = .ok (.pointer (some ⟨g, k, none⟩)) W :=
  five (P := fun k => ∀ W : World, (Instr.index 70 (.agg #[.pointer (some ⟨g, 0, none⟩), .pointer (some ⟨g, 1, none⟩), .pointer (some ⟨g, 2, none⟩), .pointer (some ⟨g, 3, none⟩), .pointer (some ⟨g, 4, none⟩)]) (.int .i64 k)).run Tryd.prog W = .ok (.pointer (some ⟨g, k, none⟩)) W)
    (fun W => by simp [Instr.index, run_underlying Tryd.underlying70, asIntOf, go_sem]) (fun W => by simp [Instr.index, run_underlying Tryd.underlying70, asIntOf, go_sem]) (fun W => by simp [Instr.index, run_underlying Tryd.underlying70, asIntOf, go_sem]) (fun W => by simp [Instr.index, run_underlying Tryd.underlying70, asIntOf, go_sem]) (fun W => by simp [Instr.index, run_underlying Tryd.underlying70, asIntOf, go_sem]) k hk
theorem idx_many (c : Cv) (k : Nat) (hk : k < 5) : ∀ W : World, (Instr.index 74 (.agg #[.int .i64 c.inp, .int .i64 c.lat.length, .int .i64 c.out.length, .int .i64 c.bad.length, .int .i64 c.con.length]) (.int .i64 k)).run Tryd.prog W = .ok (.int .i64 (c.many k)) W :=
  five (P := fun k => ∀ W : World, (Instr.index 74 (.agg #[.int .i64 c.inp, .int .i64 c.lat.length, .int .i64 c.out.length, .int .i64 c.bad.length, .int .i64 c.con.length]) (.int .i64 k)).run Tryd.prog W = .ok (.int .i64 (c.many k)) W)
    (fun W => by simp [Instr.index, run_underlying Tryd.underlying74, asIntOf, go_sem]; rfl) (fun W => by simp [Instr.index, run_underlying Tryd.underlying74, asIntOf, go_sem]; rfl) (fun W => by simp [Instr.index, run_underlying Tryd.underlying74, asIntOf, go_sem]; rfl) (fun W => by simp [Instr.index, run_underlying Tryd.underlying74, asIntOf, go_sem]; rfl) (fun W => by simp [Instr.index, run_underlying Tryd.underlying74, asIntOf, go_sem]; rfl) k hk
section
variable {P : Program} {ops : Array Oper} {Q : Exit → Act → World → Prop} {md : Region.Mode} {S : World → Prop}
theorem take_ {i : Nat} {oi : Oper} {v : Value} (N : Tmp) {fuel : Nat} {listed : Array Bool} {a : Act} {w : World} (hi : ops[i]? = some oi) (hd : oi.dst = some N)
    (hT : wpAnyH P md ops Q S fuel (listed.setIfInBounds i true) (a.put oi.dst v) w → wpAnyH P md ops Q S (fuel + 1) listed a w)
    (h : wpAnyH P md ops Q S fuel (listed.setIfInBounds i true) (a.put (some N) v) w) : wpAnyH P md ops Q S (fuel + 1) listed a w :=
  hT (by rw [hd]; exact h)
theorem call_ {i : Nat} {o : Oper} (N : Tmp) {fuel : Nat} {listed : Array Bool} {a : Act} {w : World} (hr : Region.ready md ops listed = [i]) (ho : ops[i]? = some o)
    (h : ∀ K' : Act → World → Prop, Shut (∀ a w, S w → (S w → wpAnyH P md ops Q S fuel (listed.setIfInBounds i true) a w) → K' a w) → if Region.wanted o (yielded ops a.tmps) = true then Oper.wp P o a w K' Q else K' (a.put o.dst undef) w) : wpAnyH P md ops Q S (fuel + 1) listed a w :=
  wpAnyH_ready hr (by simp) (AllReadyH.cons ho h AllReadyH.nil)
end
set_option maxHeartbeats 8000000 in
set_option maxRecDepth 100000 in
theorem may_lists (c : Cv) (n : Nv) (w : World) (hc : c.Held w) (hh : n.Held w) (hs : Fit c) (hn : normB c = true) :
    Calls Tryd.prog 11 #[c.val, n.val] w fun e w' => e = .returned (.bool (mayB c n)) ∧ Below w.heap.size w w' := by
  have HB := Aside0.mk (below_alloc (below_alloc (Below.refl w.heap.size w) (.cells c.cells 26)) (.cells #[.slice n.A0 n.l0.length n.c0, .slice n.A1 n.l1.length n.c1, .slice n.A2 n.l2.length n.c2, .slice n.A3 n.l3.length n.c3, .slice n.A4 n.l4.length n.c4] 29))
  have HM := Aside0.mk (nmay c _ (hc.below HB.out) hs)
  have HX : Aside0 (Boxed c w.heap.size ((w.alloc (.cells c.cells 26)).alloc (.cells #[.slice n.A0 n.l0.length n.c0, .slice n.A1 n.l1.length n.c1, .slice n.A2 n.l2.length n.c2, .slice n.A3 n.l3.length n.c3, .slice n.A4 n.l4.length n.c4] 29))) := ⟨(show Boxed c w.heap.size (w.alloc (.cells c.cells 26)) from heap_alloc_new w _).below (below_alloc (Below.refl _ _) _)⟩
  have HY : Aside0 (NBoxed n (w.heap.size + 1) ((w.alloc (.cells c.cells 26)).alloc (.cells #[.slice n.A0 n.l0.length n.c0, .slice n.A1 n.l1.length n.c1, .slice n.A2 n.l2.length n.c2, .slice n.A3 n.l3.length n.c3, .slice n.A4 n.l4.length n.c4] 29))) := ⟨heap_alloc2_new w _ _⟩
  rw [hn] at HM
  have HC := Aside0.mk hc
  have HH := Aside0.mk hh
  clear hc hh
  unfold Cv.cells at HM HB HX HY
  unfold Cv.val Nv.val
  go_enter Tryd.func11, Tryd.ntmps11
  go_wp2_with fail
  refine HM.out.mono ?_
  rintro e w1 ⟨rfl, hb⟩
  have B1 := Aside0.mk (below_then HB.out HB.out.size hb)
  have X1 := Aside0.mk (HX.out.below hb)
  have Y1 := Aside0.mk (HY.out.below hb)
  clear HB HX HY HM hb
  go_wp2_with fail
  refine (kinds _ _).mono ?_
  rintro e w2 ⟨rfl, hb⟩
  have B2 := Aside0.mk (below_then B1.out B1.out.size hb)
  have X2 := Aside0.mk (X1.out.below hb)
  have Y2 := Aside0.mk (Y1.out.below hb)
  clear B1 X1 Y1 hb
  go_wp2_with fail
  generalize w.heap.size + 1 = g at Y2 ⊢
  go_loopw [13] (fun v13 wr => ∃ k : Nat, k ≤ 5 ∧ v13 = .int .i64 k ∧ Aside0 (Below w2.heap.size w2 wr) ∧ Aside0 (∀ j, j < k → (n.l j).length = 0 ∨ (((n.l j).length : Int) = c.many j ∧ (n.l j).any badB = false ∧ (n.l j).any toldB = true))) (fun i _ => 5 - (intOf i).toNat)
  case atStart => exact ⟨0, Nat.zero_le _, rfl, ⟨Below.refl _ _⟩, ⟨fun j hj => absurd hj (Nat.not_lt_zero _)⟩⟩
  case round =>
    obtain ⟨k, hk, rfl, HB, HN⟩ := hrel
    have BB := Aside0.mk (below_then B2.out B2.out.size HB.out)
    have XX := Aside0.mk (X2.out.below HB.out)
    have YY := Aside0.mk (Y2.out.below HB.out)
    rcases Nat.lt_or_ge k 5 with hk5 | hk5
    · have hp := idx_ptr g k hk5
      have hm := idx_many c k hk5
      have hk5' : ((k : Int) < 5) := by omega
      have hcell := YY.out.cell k hk5
      by_cases hl : (n.l k).length = 0
      · have hl' : (((n.l k).length : Int) == 0) = true := by simp [hl]
        have HL := Aside0.mk hl
        clear hl
        go_wp2_with fail
        refine ⟨⟨k + 1, by omega, by go_num, HB, ⟨fun j hj => ?_⟩⟩, by simp [intOf]; omega⟩
        rcases Nat.lt_or_ge j k with h1 | h1
        · exact HN.out j h1
        · obtain rfl : j = k := by omega
          exact .inl HL.out
      · have hl' : (((n.l k).length : Int) == 0) = false := beq_eq_false_iff_ne.2 (by omega)
        have HL := Aside0.mk hl
        clear hl
        have HS : Aside0 (∀ w', Below wr.heap.size wr w' → (w'.cell? ⟨g, k, none⟩ = some (.slice (n.A k) (n.l k).length (n.c k)) ∧ w'.cell? ⟨w.heap.size, 0, none⟩ = some (.int .i64 c.inp) ∧ w'.cell? ⟨w.heap.size, 1, none⟩ = some (.slice c.A1 c.lat.length c.c1) ∧ w'.cell? ⟨w.heap.size, 2, none⟩ = some (.slice c.A2 c.gat.length c.c2) ∧ w'.cell? ⟨w.heap.size, 3, none⟩ = some (.slice c.A3 c.out.length c.c3) ∧ w'.cell? ⟨w.heap.size, 4, none⟩ = some (.slice c.A4 c.bad.length c.c4) ∧ w'.cell? ⟨w.heap.size, 5, none⟩ = some (.slice c.A5 c.con.length c.c5))) := by
          refine ⟨fun w' h => ?_⟩
          obtain ⟨e0, e1, e2, e3, e4, e5⟩ := (XX.out.below h).open
          exact ⟨(YY.out.below h).cell k hk5, e0, e1, e2, e3, e4, e5⟩
        have HBad := Aside0.mk (fun W (h : Below wr.heap.size wr W) => conf_str badB 42 #[] eg42 (n.A k) (n.c k) (n.l k) W (bad W) ((HH.out.below (below_then BB.out BB.out.size h)).at k hk5))
        have HTold := Aside0.mk (fun W (h : Below wr.heap.size wr W) => conf_str toldB 44 #[] eg44 (n.A k) (n.c k) (n.l k) W (told W) ((HH.out.below (below_then BB.out BB.out.size h)).at k hk5))
        by_cases hq : ((n.l k).length : Int) = c.many k
        · have hq' : ((((n.l k).length : Int)) != c.many k) = false := by simp [hq]
          have HQ := Aside0.mk hq
          clear hq
          cases hb : (n.l k).any badB with
          | true =>
            rw [hb] at HBad
            go_wp2_with fail
            refine wp_region_held_drew (S := (fun w' => (w'.cell? ⟨g, k, none⟩ = some (.slice (n.A k) (n.l k).length (n.c k)) ∧ w'.cell? ⟨w.heap.size, 0, none⟩ = some (.int .i64 c.inp) ∧ w'.cell? ⟨w.heap.size, 1, none⟩ = some (.slice c.A1 c.lat.length c.c1) ∧ w'.cell? ⟨w.heap.size, 2, none⟩ = some (.slice c.A2 c.gat.length c.c2) ∧ w'.cell? ⟨w.heap.size, 3, none⟩ = some (.slice c.A3 c.out.length c.c3) ∧ w'.cell? ⟨w.heap.size, 4, none⟩ = some (.slice c.A4 c.bad.length c.c4) ∧ w'.cell? ⟨w.heap.size, 5, none⟩ = some (.slice c.A5 c.con.length c.c5)))) (by kernel_rfl) (HS.out _ (below_drew (Below.refl _ _))) (fun hHeld => ?_)
            refine take_ (i := 0) (v := ?v1) 22 rfl rfl (wpAnyH_take (i := 0) rfl (by kernel_rfl) (by kernel_rfl) (by kernel_rfl) (fun _ _ _ h => h) (Or.inl ⟨by rfl, ?hy1⟩) (by assumption)) ?rest1
            case hy1 => (intro w_ hSw; (try dsimp only at hSw); go_simp <;> with_reducible rfl)
            (try simp only [Act.put, List.setIfInBounds_toArray, List.set_cons_zero, List.set_cons_succ])
            refine take_ (i := 1) (v := ?v2) 23 rfl rfl (wpAnyH_take (i := 1) rfl (by kernel_rfl) (by kernel_rfl) (by kernel_rfl) (fun _ _ _ h => h) (Or.inl ⟨by rfl, ?hy2⟩) (by assumption)) ?rest2
            case hy2 => (intro w_ hSw; (try dsimp only at hSw); go_simp <;> with_reducible rfl)
            (try simp only [Act.put, List.setIfInBounds_toArray, List.set_cons_zero, List.set_cons_succ])
            refine take_ (i := 2) (v := ?v3) 24 rfl rfl (wpAnyH_take (i := 2) rfl (by kernel_rfl) (by kernel_rfl) (by kernel_rfl) (fun _ _ _ h => h) (Or.inl ⟨by rfl, ?hy3⟩) (by assumption)) ?rest3
            case hy3 => (intro w_ hSw; (try dsimp only at hSw); go_simp <;> with_reducible rfl)
            (try simp only [Act.put, List.setIfInBounds_toArray, List.set_cons_zero, List.set_cons_succ])
            refine take_ (i := 3) (v := ?v4) 25 rfl rfl (wpAnyH_take (i := 3) rfl (by kernel_rfl) (by kernel_rfl) (by kernel_rfl) (fun _ _ _ h => h) (Or.inl ⟨by rfl, ?hy4⟩) (by assumption)) ?rest4
            case hy4 => (intro w_ hSw; (try dsimp only at hSw); go_simp <;> with_reducible rfl)
            (try simp only [Act.put, List.setIfInBounds_toArray, List.set_cons_zero, List.set_cons_succ])
            refine take_ (i := 4) (v := ?v5) 26 rfl rfl (wpAnyH_take (i := 4) rfl (by kernel_rfl) (by kernel_rfl) (by kernel_rfl) (fun _ _ _ h => h) (Or.inl ⟨by rfl, ?hy5⟩) (by assumption)) ?rest5
            case hy5 => (intro w_ hSw; (try dsimp only at hSw); go_simp <;> with_reducible rfl)
            (try simp only [Act.put, List.setIfInBounds_toArray, List.set_cons_zero, List.set_cons_succ])
            refine take_ (i := 6) (v := ?v6) 28 rfl rfl (wpAnyH_take (i := 6) rfl (by kernel_rfl) (by kernel_rfl) (by kernel_rfl) (fun _ _ _ h => h) (Or.inl ⟨by rfl, ?hy6⟩) (by assumption)) ?rest6
            case hy6 => (intro w_ hSw; (try dsimp only at hSw); go_simp <;> with_reducible rfl)
            (try simp only [Act.put, List.setIfInBounds_toArray, List.set_cons_zero, List.set_cons_succ])
            refine wpAnyH_ready (rs := [5]) (by kernel_rfl) (by simp) ?_
            refine AllReadyH.cons rfl (fun K hK => ?_) AllReadyH.nil
            go_simp
            refine (many c _).mono ?_
            rintro e w5 ⟨rfl, hb5⟩
            have hb45 : Below wr.heap.size wr w5 := below_then (below_drew (Below.refl _ _)) (Nat.le_refl _) hb5
            (try go_wp2_with fail)
            refine hK.out _ _ (HS.out _ hb45) (fun hHeld => ?_)
            clear hK K
            (try simp only [Act.put, List.setIfInBounds_toArray, List.set_cons_zero, List.set_cons_succ])
            refine take_ (i := 7) (v := ?v7) 29 rfl rfl (wpAnyH_take (i := 7) rfl (by kernel_rfl) (by kernel_rfl) (by kernel_rfl) (fun _ _ _ h => h) (Or.inl ⟨by rfl, ?hy7⟩) (by assumption)) ?rest7
            case hy7 => (intro w_ hSw; (try dsimp only at hSw); go_simp <;> with_reducible rfl)
            (try simp only [Act.put, List.setIfInBounds_toArray, List.set_cons_zero, List.set_cons_succ])
            refine take_ (i := 8) (v := ?v8) 30 rfl rfl (wpAnyH_take (i := 8) rfl (by kernel_rfl) (by kernel_rfl) (by kernel_rfl) (fun _ _ _ h => h) (Or.inl ⟨by rfl, ?hy8⟩) (by assumption)) ?rest8
            case hy8 => (intro w_ hSw; (try dsimp only at hSw); go_simp <;> with_reducible rfl)
            (try simp only [Act.put, List.setIfInBounds_toArray, List.set_cons_zero, List.set_cons_succ])
            refine take_ (i := 9) (v := ?v9) 31 rfl rfl (wpAnyH_take (i := 9) rfl (by kernel_rfl) (by kernel_rfl) (by kernel_rfl) (fun _ _ _ h => h) (Or.inl ⟨by rfl, ?hy9⟩) (by assumption)) ?rest9
            case hy9 => (intro w_ hSw; (try dsimp only at hSw); go_simp <;> with_reducible rfl)
            (try simp only [Act.put, List.setIfInBounds_toArray, List.set_cons_zero, List.set_cons_succ])
            refine take_ (i := 10) (v := ?v10) 32 rfl rfl (wpAnyH_take (i := 10) rfl (by kernel_rfl) (by kernel_rfl) (by kernel_rfl) (fun _ _ _ h => h) (Or.inl ⟨by rfl, ?hy10⟩) (by assumption)) ?rest10
            case hy10 => (intro w_ hSw; (try dsimp only at hSw); go_simp <;> with_reducible rfl)
            (try simp only [Act.put, List.setIfInBounds_toArray, List.set_cons_zero, List.set_cons_succ])
            refine take_ (i := 11) (v := ?v11) 33 rfl rfl (wpAnyH_take (i := 11) rfl (by kernel_rfl) (by kernel_rfl) (by kernel_rfl) (fun _ _ _ h => h) (Or.inl ⟨by rfl, ?hy11⟩) (by assumption)) ?rest11
            case hy11 => (intro w_ hSw; (try dsimp only at hSw); go_simp <;> with_reducible rfl)
            (try simp only [Act.put, List.setIfInBounds_toArray, List.set_cons_zero, List.set_cons_succ])
            refine take_ (i := 12) (v := ?v12) 34 rfl rfl (wpAnyH_take (i := 12) rfl (by kernel_rfl) (by kernel_rfl) (by kernel_rfl) (fun _ _ _ h => h) (Or.inl ⟨by rfl, ?hy12⟩) (by assumption)) ?rest12
            case hy12 => (intro w_ hSw; (try dsimp only at hSw); go_simp <;> with_reducible rfl)
            (try simp only [Act.put, List.setIfInBounds_toArray, List.set_cons_zero, List.set_cons_succ])
            refine take_ (i := 13) (v := ?v13) 35 rfl rfl (wpAnyH_take (i := 13) rfl (by kernel_rfl) (by kernel_rfl) (by kernel_rfl) (fun _ _ _ h => h) (Or.inl ⟨by rfl, ?hy13⟩) (by assumption)) ?rest13
            case hy13 => (intro w_ hSw; (try dsimp only at hSw); go_simp <;> with_reducible rfl)
            (try simp only [Act.put, List.setIfInBounds_toArray, List.set_cons_zero, List.set_cons_succ])
            refine wpAnyH_ready (rs := [14]) (by kernel_rfl) (by simp) ?_
            refine AllReadyH.cons rfl (fun K hK => ?_) AllReadyH.nil
            go_simp
            refine (HBad.out _ hb45).mono ?_
            rintro e w6 ⟨rfl, hb6⟩
            have hb46 : Below wr.heap.size wr w6 := below_then hb45 hb45.size hb6
            (try go_wp2_with fail)
            refine hK.out _ _ (HS.out _ hb46) (fun hHeld => ?_)
            clear hK K
            (try simp only [Act.put, List.setIfInBounds_toArray, List.set_cons_zero, List.set_cons_succ])
            refine take_ (i := 15) (v := ?v14) 37 rfl rfl (wpAnyH_take (i := 15) rfl (by kernel_rfl) (by kernel_rfl) (by kernel_rfl) (fun _ _ _ h => h) (Or.inl ⟨by rfl, ?hy14⟩) (by assumption)) ?rest14
            case hy14 => (intro w_ hSw; (try dsimp only at hSw); go_simp <;> with_reducible rfl)
            (try simp only [Act.put, List.setIfInBounds_toArray, List.set_cons_zero, List.set_cons_succ])
            refine take_ (i := 16) (v := ?v15) 38 rfl rfl (wpAnyH_take (i := 16) rfl (by kernel_rfl) (by kernel_rfl) (by kernel_rfl) (fun _ _ _ h => h) (Or.inl ⟨by rfl, ?hy15⟩) (by assumption)) ?rest15
            case hy15 => (intro w_ hSw; (try dsimp only at hSw); go_simp <;> with_reducible rfl)
            (try simp only [Act.put, List.setIfInBounds_toArray, List.set_cons_zero, List.set_cons_succ])
            refine take_ (i := 17) (v := undef) 39 rfl rfl (wpAnyH_take (i := 17) rfl (by kernel_rfl) (by kernel_rfl) (by kernel_rfl) (fun _ _ _ h => h) (Or.inr ⟨by rfl, rfl⟩) (by assumption)) ?_
            (try simp only [Act.put, List.setIfInBounds_toArray, List.set_cons_zero, List.set_cons_succ])
            refine take_ (i := 18) (v := undef) 40 rfl rfl (wpAnyH_take (i := 18) rfl (by kernel_rfl) (by kernel_rfl) (by kernel_rfl) (fun _ _ _ h => h) (Or.inr ⟨by rfl, rfl⟩) (by assumption)) ?_
            (try simp only [Act.put, List.setIfInBounds_toArray, List.set_cons_zero, List.set_cons_succ])
            refine take_ (i := 19) (v := undef) 41 rfl rfl (wpAnyH_take (i := 19) rfl (by kernel_rfl) (by kernel_rfl) (by kernel_rfl) (fun _ _ _ h => h) (Or.inr ⟨by rfl, rfl⟩) (by assumption)) ?_
            (try simp only [Act.put, List.setIfInBounds_toArray, List.set_cons_zero, List.set_cons_succ])
            refine take_ (i := 20) (v := undef) 42 rfl rfl (wpAnyH_take (i := 20) rfl (by kernel_rfl) (by kernel_rfl) (by kernel_rfl) (fun _ _ _ h => h) (Or.inr ⟨by rfl, rfl⟩) (by assumption)) ?_
            (try simp only [Act.put, List.setIfInBounds_toArray, List.set_cons_zero, List.set_cons_succ])
            refine take_ (i := 21) (v := undef) 43 rfl rfl (wpAnyH_take (i := 21) rfl (by kernel_rfl) (by kernel_rfl) (by kernel_rfl) (fun _ _ _ h => h) (Or.inr ⟨by rfl, rfl⟩) (by assumption)) ?_
            (try simp only [Act.put, List.setIfInBounds_toArray, List.set_cons_zero, List.set_cons_succ])
            refine take_ (i := 22) (v := undef) 44 rfl rfl (wpAnyH_take (i := 22) rfl (by kernel_rfl) (by kernel_rfl) (by kernel_rfl) (fun _ _ _ h => h) (Or.inr ⟨by rfl, rfl⟩) (by assumption)) ?_
            (try simp only [Act.put, List.setIfInBounds_toArray, List.set_cons_zero, List.set_cons_succ])
            refine take_ (i := 23) (v := ?v16) 45 rfl rfl (wpAnyH_take (i := 23) rfl (by kernel_rfl) (by kernel_rfl) (by kernel_rfl) (fun _ _ _ h => h) (Or.inl ⟨by rfl, ?hy16⟩) (by assumption)) ?rest16
            case hy16 => (intro w_ hSw; (try dsimp only at hSw); go_simp <;> with_reducible rfl)
            (try simp only [Act.put, List.setIfInBounds_toArray, List.set_cons_zero, List.set_cons_succ])
            refine wpAnyH_done (by kernel_rfl) ?_ _
            go_wp2_with fail
            go_ret
            refine ⟨?_, below_then BB.out BB.out.size hb46⟩
            rw [mayB_false (fun h => by rcases h.lists k hk5 with h1 | h1; exact HL.out h1; rw [hb] at h1; cases h1.2.1)]
            rfl
          | false =>
            rw [hb] at HBad
            cases ht : (n.l k).any toldB with
            | false =>
              rw [ht] at HTold
              go_wp2_with fail
              refine wp_region_held_drew (S := (fun w' => (w'.cell? ⟨g, k, none⟩ = some (.slice (n.A k) (n.l k).length (n.c k)) ∧ w'.cell? ⟨w.heap.size, 0, none⟩ = some (.int .i64 c.inp) ∧ w'.cell? ⟨w.heap.size, 1, none⟩ = some (.slice c.A1 c.lat.length c.c1) ∧ w'.cell? ⟨w.heap.size, 2, none⟩ = some (.slice c.A2 c.gat.length c.c2) ∧ w'.cell? ⟨w.heap.size, 3, none⟩ = some (.slice c.A3 c.out.length c.c3) ∧ w'.cell? ⟨w.heap.size, 4, none⟩ = some (.slice c.A4 c.bad.length c.c4) ∧ w'.cell? ⟨w.heap.size, 5, none⟩ = some (.slice c.A5 c.con.length c.c5)))) (by kernel_rfl) (HS.out _ (below_drew (Below.refl _ _))) (fun hHeld => ?_)
              refine take_ (i := 0) (v := ?v17) 22 rfl rfl (wpAnyH_take (i := 0) rfl (by kernel_rfl) (by kernel_rfl) (by kernel_rfl) (fun _ _ _ h => h) (Or.inl ⟨by rfl, ?hy17⟩) (by assumption)) ?rest17
              case hy17 => (intro w_ hSw; (try dsimp only at hSw); go_simp <;> with_reducible rfl)
              (try simp only [Act.put, List.setIfInBounds_toArray, List.set_cons_zero, List.set_cons_succ])
              refine take_ (i := 1) (v := ?v18) 23 rfl rfl (wpAnyH_take (i := 1) rfl (by kernel_rfl) (by kernel_rfl) (by kernel_rfl) (fun _ _ _ h => h) (Or.inl ⟨by rfl, ?hy18⟩) (by assumption)) ?rest18
              case hy18 => (intro w_ hSw; (try dsimp only at hSw); go_simp <;> with_reducible rfl)
              (try simp only [Act.put, List.setIfInBounds_toArray, List.set_cons_zero, List.set_cons_succ])
              refine take_ (i := 2) (v := ?v19) 24 rfl rfl (wpAnyH_take (i := 2) rfl (by kernel_rfl) (by kernel_rfl) (by kernel_rfl) (fun _ _ _ h => h) (Or.inl ⟨by rfl, ?hy19⟩) (by assumption)) ?rest19
              case hy19 => (intro w_ hSw; (try dsimp only at hSw); go_simp <;> with_reducible rfl)
              (try simp only [Act.put, List.setIfInBounds_toArray, List.set_cons_zero, List.set_cons_succ])
              refine take_ (i := 3) (v := ?v20) 25 rfl rfl (wpAnyH_take (i := 3) rfl (by kernel_rfl) (by kernel_rfl) (by kernel_rfl) (fun _ _ _ h => h) (Or.inl ⟨by rfl, ?hy20⟩) (by assumption)) ?rest20
              case hy20 => (intro w_ hSw; (try dsimp only at hSw); go_simp <;> with_reducible rfl)
              (try simp only [Act.put, List.setIfInBounds_toArray, List.set_cons_zero, List.set_cons_succ])
              refine take_ (i := 4) (v := ?v21) 26 rfl rfl (wpAnyH_take (i := 4) rfl (by kernel_rfl) (by kernel_rfl) (by kernel_rfl) (fun _ _ _ h => h) (Or.inl ⟨by rfl, ?hy21⟩) (by assumption)) ?rest21
              case hy21 => (intro w_ hSw; (try dsimp only at hSw); go_simp <;> with_reducible rfl)
              (try simp only [Act.put, List.setIfInBounds_toArray, List.set_cons_zero, List.set_cons_succ])
              refine take_ (i := 6) (v := ?v22) 28 rfl rfl (wpAnyH_take (i := 6) rfl (by kernel_rfl) (by kernel_rfl) (by kernel_rfl) (fun _ _ _ h => h) (Or.inl ⟨by rfl, ?hy22⟩) (by assumption)) ?rest22
              case hy22 => (intro w_ hSw; (try dsimp only at hSw); go_simp <;> with_reducible rfl)
              (try simp only [Act.put, List.setIfInBounds_toArray, List.set_cons_zero, List.set_cons_succ])
              refine wpAnyH_ready (rs := [5]) (by kernel_rfl) (by simp) ?_
              refine AllReadyH.cons rfl (fun K hK => ?_) AllReadyH.nil
              go_simp
              refine (many c _).mono ?_
              rintro e w5 ⟨rfl, hb5⟩
              have hb45 : Below wr.heap.size wr w5 := below_then (below_drew (Below.refl _ _)) (Nat.le_refl _) hb5
              (try go_wp2_with fail)
              refine hK.out _ _ (HS.out _ hb45) (fun hHeld => ?_)
              clear hK K
              (try simp only [Act.put, List.setIfInBounds_toArray, List.set_cons_zero, List.set_cons_succ])
              refine take_ (i := 7) (v := ?v23) 29 rfl rfl (wpAnyH_take (i := 7) rfl (by kernel_rfl) (by kernel_rfl) (by kernel_rfl) (fun _ _ _ h => h) (Or.inl ⟨by rfl, ?hy23⟩) (by assumption)) ?rest23
              case hy23 => (intro w_ hSw; (try dsimp only at hSw); go_simp <;> with_reducible rfl)
              (try simp only [Act.put, List.setIfInBounds_toArray, List.set_cons_zero, List.set_cons_succ])
              refine take_ (i := 8) (v := ?v24) 30 rfl rfl (wpAnyH_take (i := 8) rfl (by kernel_rfl) (by kernel_rfl) (by kernel_rfl) (fun _ _ _ h => h) (Or.inl ⟨by rfl, ?hy24⟩) (by assumption)) ?rest24
              case hy24 => (intro w_ hSw; (try dsimp only at hSw); go_simp <;> with_reducible rfl)
              (try simp only [Act.put, List.setIfInBounds_toArray, List.set_cons_zero, List.set_cons_succ])
              refine take_ (i := 9) (v := ?v25) 31 rfl rfl (wpAnyH_take (i := 9) rfl (by kernel_rfl) (by kernel_rfl) (by kernel_rfl) (fun _ _ _ h => h) (Or.inl ⟨by rfl, ?hy25⟩) (by assumption)) ?rest25
              case hy25 => (intro w_ hSw; (try dsimp only at hSw); go_simp <;> with_reducible rfl)
              (try simp only [Act.put, List.setIfInBounds_toArray, List.set_cons_zero, List.set_cons_succ])
              refine take_ (i := 10) (v := ?v26) 32 rfl rfl (wpAnyH_take (i := 10) rfl (by kernel_rfl) (by kernel_rfl) (by kernel_rfl) (fun _ _ _ h => h) (Or.inl ⟨by rfl, ?hy26⟩) (by assumption)) ?rest26
              case hy26 => (intro w_ hSw; (try dsimp only at hSw); go_simp <;> with_reducible rfl)
              (try simp only [Act.put, List.setIfInBounds_toArray, List.set_cons_zero, List.set_cons_succ])
              refine take_ (i := 11) (v := ?v27) 33 rfl rfl (wpAnyH_take (i := 11) rfl (by kernel_rfl) (by kernel_rfl) (by kernel_rfl) (fun _ _ _ h => h) (Or.inl ⟨by rfl, ?hy27⟩) (by assumption)) ?rest27
              case hy27 => (intro w_ hSw; (try dsimp only at hSw); go_simp <;> with_reducible rfl)
              (try simp only [Act.put, List.setIfInBounds_toArray, List.set_cons_zero, List.set_cons_succ])
              refine take_ (i := 12) (v := ?v28) 34 rfl rfl (wpAnyH_take (i := 12) rfl (by kernel_rfl) (by kernel_rfl) (by kernel_rfl) (fun _ _ _ h => h) (Or.inl ⟨by rfl, ?hy28⟩) (by assumption)) ?rest28
              case hy28 => (intro w_ hSw; (try dsimp only at hSw); go_simp <;> with_reducible rfl)
              (try simp only [Act.put, List.setIfInBounds_toArray, List.set_cons_zero, List.set_cons_succ])
              refine take_ (i := 13) (v := ?v29) 35 rfl rfl (wpAnyH_take (i := 13) rfl (by kernel_rfl) (by kernel_rfl) (by kernel_rfl) (fun _ _ _ h => h) (Or.inl ⟨by rfl, ?hy29⟩) (by assumption)) ?rest29
              case hy29 => (intro w_ hSw; (try dsimp only at hSw); go_simp <;> with_reducible rfl)
              (try simp only [Act.put, List.setIfInBounds_toArray, List.set_cons_zero, List.set_cons_succ])
              refine wpAnyH_ready (rs := [14]) (by kernel_rfl) (by simp) ?_
              refine AllReadyH.cons rfl (fun K hK => ?_) AllReadyH.nil
              go_simp
              refine (HBad.out _ hb45).mono ?_
              rintro e w6 ⟨rfl, hb6⟩
              have hb46 : Below wr.heap.size wr w6 := below_then hb45 hb45.size hb6
              (try go_wp2_with fail)
              refine hK.out _ _ (HS.out _ hb46) (fun hHeld => ?_)
              clear hK K
              (try simp only [Act.put, List.setIfInBounds_toArray, List.set_cons_zero, List.set_cons_succ])
              refine take_ (i := 15) (v := ?v30) 37 rfl rfl (wpAnyH_take (i := 15) rfl (by kernel_rfl) (by kernel_rfl) (by kernel_rfl) (fun _ _ _ h => h) (Or.inl ⟨by rfl, ?hy30⟩) (by assumption)) ?rest30
              case hy30 => (intro w_ hSw; (try dsimp only at hSw); go_simp <;> with_reducible rfl)
              (try simp only [Act.put, List.setIfInBounds_toArray, List.set_cons_zero, List.set_cons_succ])
              refine take_ (i := 16) (v := ?v31) 38 rfl rfl (wpAnyH_take (i := 16) rfl (by kernel_rfl) (by kernel_rfl) (by kernel_rfl) (fun _ _ _ h => h) (Or.inl ⟨by rfl, ?hy31⟩) (by assumption)) ?rest31
              case hy31 => (intro w_ hSw; (try dsimp only at hSw); go_simp <;> with_reducible rfl)
              (try simp only [Act.put, List.setIfInBounds_toArray, List.set_cons_zero, List.set_cons_succ])
              refine take_ (i := 17) (v := ?v32) 39 rfl rfl (wpAnyH_take (i := 17) rfl (by kernel_rfl) (by kernel_rfl) (by kernel_rfl) (fun _ _ _ h => h) (Or.inl ⟨by rfl, ?hy32⟩) (by assumption)) ?rest32
              case hy32 => (intro w_ hSw; (try dsimp only at hSw); go_simp <;> with_reducible rfl)
              (try simp only [Act.put, List.setIfInBounds_toArray, List.set_cons_zero, List.set_cons_succ])
              refine take_ (i := 18) (v := ?v33) 40 rfl rfl (wpAnyH_take (i := 18) rfl (by kernel_rfl) (by kernel_rfl) (by kernel_rfl) (fun _ _ _ h => h) (Or.inl ⟨by rfl, ?hy33⟩) (by assumption)) ?rest33
              case hy33 => (intro w_ hSw; (try dsimp only at hSw); go_simp <;> with_reducible rfl)
              (try simp only [Act.put, List.setIfInBounds_toArray, List.set_cons_zero, List.set_cons_succ])
              refine take_ (i := 19) (v := ?v34) 41 rfl rfl (wpAnyH_take (i := 19) rfl (by kernel_rfl) (by kernel_rfl) (by kernel_rfl) (fun _ _ _ h => h) (Or.inl ⟨by rfl, ?hy34⟩) (by assumption)) ?rest34
              case hy34 => (intro w_ hSw; (try dsimp only at hSw); go_simp <;> with_reducible rfl)
              (try simp only [Act.put, List.setIfInBounds_toArray, List.set_cons_zero, List.set_cons_succ])
              refine take_ (i := 20) (v := ?v35) 42 rfl rfl (wpAnyH_take (i := 20) rfl (by kernel_rfl) (by kernel_rfl) (by kernel_rfl) (fun _ _ _ h => h) (Or.inl ⟨by rfl, ?hy35⟩) (by assumption)) ?rest35
              case hy35 => (intro w_ hSw; (try dsimp only at hSw); go_simp <;> with_reducible rfl)
              (try simp only [Act.put, List.setIfInBounds_toArray, List.set_cons_zero, List.set_cons_succ])
              refine wpAnyH_ready (rs := [21]) (by kernel_rfl) (by simp) ?_
              refine AllReadyH.cons rfl (fun K hK => ?_) AllReadyH.nil
              go_simp
              refine (HTold.out _ hb46).mono ?_
              rintro e w7 ⟨rfl, hb7⟩
              have hb47 : Below wr.heap.size wr w7 := below_then hb46 hb46.size hb7
              (try go_wp2_with fail)
              refine hK.out _ _ (HS.out _ hb47) (fun hHeld => ?_)
              clear hK K
              (try simp only [Act.put, List.setIfInBounds_toArray, List.set_cons_zero, List.set_cons_succ])
              refine take_ (i := 22) (v := ?v36) 44 rfl rfl (wpAnyH_take (i := 22) rfl (by kernel_rfl) (by kernel_rfl) (by kernel_rfl) (fun _ _ _ h => h) (Or.inl ⟨by rfl, ?hy36⟩) (by assumption)) ?rest36
              case hy36 => (intro w_ hSw; (try dsimp only at hSw); go_simp <;> with_reducible rfl)
              (try simp only [Act.put, List.setIfInBounds_toArray, List.set_cons_zero, List.set_cons_succ])
              refine take_ (i := 23) (v := ?v37) 45 rfl rfl (wpAnyH_take (i := 23) rfl (by kernel_rfl) (by kernel_rfl) (by kernel_rfl) (fun _ _ _ h => h) (Or.inl ⟨by rfl, ?hy37⟩) (by assumption)) ?rest37
              case hy37 => (intro w_ hSw; (try dsimp only at hSw); go_simp <;> with_reducible rfl)
              (try simp only [Act.put, List.setIfInBounds_toArray, List.set_cons_zero, List.set_cons_succ])
              refine wpAnyH_done (by kernel_rfl) ?_ _
              go_wp2_with fail
              go_ret
              refine ⟨?_, below_then BB.out BB.out.size hb47⟩
              rw [mayB_false (fun h => by rcases h.lists k hk5 with h1 | h1; exact HL.out h1; rw [ht] at h1; cases h1.2.2)]
              rfl
            | true =>
              rw [ht] at HTold
              go_wp2_with fail
              refine wp_region_held_drew (S := (fun w' => (w'.cell? ⟨g, k, none⟩ = some (.slice (n.A k) (n.l k).length (n.c k)) ∧ w'.cell? ⟨w.heap.size, 0, none⟩ = some (.int .i64 c.inp) ∧ w'.cell? ⟨w.heap.size, 1, none⟩ = some (.slice c.A1 c.lat.length c.c1) ∧ w'.cell? ⟨w.heap.size, 2, none⟩ = some (.slice c.A2 c.gat.length c.c2) ∧ w'.cell? ⟨w.heap.size, 3, none⟩ = some (.slice c.A3 c.out.length c.c3) ∧ w'.cell? ⟨w.heap.size, 4, none⟩ = some (.slice c.A4 c.bad.length c.c4) ∧ w'.cell? ⟨w.heap.size, 5, none⟩ = some (.slice c.A5 c.con.length c.c5)))) (by kernel_rfl) (HS.out _ (below_drew (Below.refl _ _))) (fun hHeld => ?_)
              refine take_ (i := 0) (v := ?v38) 22 rfl rfl (wpAnyH_take (i := 0) rfl (by kernel_rfl) (by kernel_rfl) (by kernel_rfl) (fun _ _ _ h => h) (Or.inl ⟨by rfl, ?hy38⟩) (by assumption)) ?rest38
              case hy38 => (intro w_ hSw; (try dsimp only at hSw); go_simp <;> with_reducible rfl)
              (try simp only [Act.put, List.setIfInBounds_toArray, List.set_cons_zero, List.set_cons_succ])
              refine take_ (i := 1) (v := ?v39) 23 rfl rfl (wpAnyH_take (i := 1) rfl (by kernel_rfl) (by kernel_rfl) (by kernel_rfl) (fun _ _ _ h => h) (Or.inl ⟨by rfl, ?hy39⟩) (by assumption)) ?rest39
              case hy39 => (intro w_ hSw; (try dsimp only at hSw); go_simp <;> with_reducible rfl)
              (try simp only [Act.put, List.setIfInBounds_toArray, List.set_cons_zero, List.set_cons_succ])
              refine take_ (i := 2) (v := ?v40) 24 rfl rfl (wpAnyH_take (i := 2) rfl (by kernel_rfl) (by kernel_rfl) (by kernel_rfl) (fun _ _ _ h => h) (Or.inl ⟨by rfl, ?hy40⟩) (by assumption)) ?rest40
              case hy40 => (intro w_ hSw; (try dsimp only at hSw); go_simp <;> with_reducible rfl)
              (try simp only [Act.put, List.setIfInBounds_toArray, List.set_cons_zero, List.set_cons_succ])
              refine take_ (i := 3) (v := ?v41) 25 rfl rfl (wpAnyH_take (i := 3) rfl (by kernel_rfl) (by kernel_rfl) (by kernel_rfl) (fun _ _ _ h => h) (Or.inl ⟨by rfl, ?hy41⟩) (by assumption)) ?rest41
              case hy41 => (intro w_ hSw; (try dsimp only at hSw); go_simp <;> with_reducible rfl)
              (try simp only [Act.put, List.setIfInBounds_toArray, List.set_cons_zero, List.set_cons_succ])
              refine take_ (i := 4) (v := ?v42) 26 rfl rfl (wpAnyH_take (i := 4) rfl (by kernel_rfl) (by kernel_rfl) (by kernel_rfl) (fun _ _ _ h => h) (Or.inl ⟨by rfl, ?hy42⟩) (by assumption)) ?rest42
              case hy42 => (intro w_ hSw; (try dsimp only at hSw); go_simp <;> with_reducible rfl)
              (try simp only [Act.put, List.setIfInBounds_toArray, List.set_cons_zero, List.set_cons_succ])
              refine take_ (i := 6) (v := ?v43) 28 rfl rfl (wpAnyH_take (i := 6) rfl (by kernel_rfl) (by kernel_rfl) (by kernel_rfl) (fun _ _ _ h => h) (Or.inl ⟨by rfl, ?hy43⟩) (by assumption)) ?rest43
              case hy43 => (intro w_ hSw; (try dsimp only at hSw); go_simp <;> with_reducible rfl)
              (try simp only [Act.put, List.setIfInBounds_toArray, List.set_cons_zero, List.set_cons_succ])
              refine wpAnyH_ready (rs := [5]) (by kernel_rfl) (by simp) ?_
              refine AllReadyH.cons rfl (fun K hK => ?_) AllReadyH.nil
              go_simp
              refine (many c _).mono ?_
              rintro e w5 ⟨rfl, hb5⟩
              have hb45 : Below wr.heap.size wr w5 := below_then (below_drew (Below.refl _ _)) (Nat.le_refl _) hb5
              (try go_wp2_with fail)
              refine hK.out _ _ (HS.out _ hb45) (fun hHeld => ?_)
              clear hK K
              (try simp only [Act.put, List.setIfInBounds_toArray, List.set_cons_zero, List.set_cons_succ])
              refine take_ (i := 7) (v := ?v44) 29 rfl rfl (wpAnyH_take (i := 7) rfl (by kernel_rfl) (by kernel_rfl) (by kernel_rfl) (fun _ _ _ h => h) (Or.inl ⟨by rfl, ?hy44⟩) (by assumption)) ?rest44
              case hy44 => (intro w_ hSw; (try dsimp only at hSw); go_simp <;> with_reducible rfl)
              (try simp only [Act.put, List.setIfInBounds_toArray, List.set_cons_zero, List.set_cons_succ])
              refine take_ (i := 8) (v := ?v45) 30 rfl rfl (wpAnyH_take (i := 8) rfl (by kernel_rfl) (by kernel_rfl) (by kernel_rfl) (fun _ _ _ h => h) (Or.inl ⟨by rfl, ?hy45⟩) (by assumption)) ?rest45
              case hy45 => (intro w_ hSw; (try dsimp only at hSw); go_simp <;> with_reducible rfl)
              (try simp only [Act.put, List.setIfInBounds_toArray, List.set_cons_zero, List.set_cons_succ])
              refine take_ (i := 9) (v := ?v46) 31 rfl rfl (wpAnyH_take (i := 9) rfl (by kernel_rfl) (by kernel_rfl) (by kernel_rfl) (fun _ _ _ h => h) (Or.inl ⟨by rfl, ?hy46⟩) (by assumption)) ?rest46
              case hy46 => (intro w_ hSw; (try dsimp only at hSw); go_simp <;> with_reducible rfl)
              (try simp only [Act.put, List.setIfInBounds_toArray, List.set_cons_zero, List.set_cons_succ])
              refine take_ (i := 10) (v := ?v47) 32 rfl rfl (wpAnyH_take (i := 10) rfl (by kernel_rfl) (by kernel_rfl) (by kernel_rfl) (fun _ _ _ h => h) (Or.inl ⟨by rfl, ?hy47⟩) (by assumption)) ?rest47
              case hy47 => (intro w_ hSw; (try dsimp only at hSw); go_simp <;> with_reducible rfl)
              (try simp only [Act.put, List.setIfInBounds_toArray, List.set_cons_zero, List.set_cons_succ])
              refine take_ (i := 11) (v := ?v48) 33 rfl rfl (wpAnyH_take (i := 11) rfl (by kernel_rfl) (by kernel_rfl) (by kernel_rfl) (fun _ _ _ h => h) (Or.inl ⟨by rfl, ?hy48⟩) (by assumption)) ?rest48
              case hy48 => (intro w_ hSw; (try dsimp only at hSw); go_simp <;> with_reducible rfl)
              (try simp only [Act.put, List.setIfInBounds_toArray, List.set_cons_zero, List.set_cons_succ])
              refine take_ (i := 12) (v := ?v49) 34 rfl rfl (wpAnyH_take (i := 12) rfl (by kernel_rfl) (by kernel_rfl) (by kernel_rfl) (fun _ _ _ h => h) (Or.inl ⟨by rfl, ?hy49⟩) (by assumption)) ?rest49
              case hy49 => (intro w_ hSw; (try dsimp only at hSw); go_simp <;> with_reducible rfl)
              (try simp only [Act.put, List.setIfInBounds_toArray, List.set_cons_zero, List.set_cons_succ])
              refine take_ (i := 13) (v := ?v50) 35 rfl rfl (wpAnyH_take (i := 13) rfl (by kernel_rfl) (by kernel_rfl) (by kernel_rfl) (fun _ _ _ h => h) (Or.inl ⟨by rfl, ?hy50⟩) (by assumption)) ?rest50
              case hy50 => (intro w_ hSw; (try dsimp only at hSw); go_simp <;> with_reducible rfl)
              (try simp only [Act.put, List.setIfInBounds_toArray, List.set_cons_zero, List.set_cons_succ])
              refine wpAnyH_ready (rs := [14]) (by kernel_rfl) (by simp) ?_
              refine AllReadyH.cons rfl (fun K hK => ?_) AllReadyH.nil
              go_simp
              refine (HBad.out _ hb45).mono ?_
              rintro e w6 ⟨rfl, hb6⟩
              have hb46 : Below wr.heap.size wr w6 := below_then hb45 hb45.size hb6
              (try go_wp2_with fail)
              refine hK.out _ _ (HS.out _ hb46) (fun hHeld => ?_)
              clear hK K
              (try simp only [Act.put, List.setIfInBounds_toArray, List.set_cons_zero, List.set_cons_succ])
              refine take_ (i := 15) (v := ?v51) 37 rfl rfl (wpAnyH_take (i := 15) rfl (by kernel_rfl) (by kernel_rfl) (by kernel_rfl) (fun _ _ _ h => h) (Or.inl ⟨by rfl, ?hy51⟩) (by assumption)) ?rest51
              case hy51 => (intro w_ hSw; (try dsimp only at hSw); go_simp <;> with_reducible rfl)
              (try simp only [Act.put, List.setIfInBounds_toArray, List.set_cons_zero, List.set_cons_succ])
              refine take_ (i := 16) (v := ?v52) 38 rfl rfl (wpAnyH_take (i := 16) rfl (by kernel_rfl) (by kernel_rfl) (by kernel_rfl) (fun _ _ _ h => h) (Or.inl ⟨by rfl, ?hy52⟩) (by assumption)) ?rest52
              case hy52 => (intro w_ hSw; (try dsimp only at hSw); go_simp <;> with_reducible rfl)
              (try simp only [Act.put, List.setIfInBounds_toArray, List.set_cons_zero, List.set_cons_succ])
              refine take_ (i := 17) (v := ?v53) 39 rfl rfl (wpAnyH_take (i := 17) rfl (by kernel_rfl) (by kernel_rfl) (by kernel_rfl) (fun _ _ _ h => h) (Or.inl ⟨by rfl, ?hy53⟩) (by assumption)) ?rest53
              case hy53 => (intro w_ hSw; (try dsimp only at hSw); go_simp <;> with_reducible rfl)
              (try simp only [Act.put, List.setIfInBounds_toArray, List.set_cons_zero, List.set_cons_succ])
              refine take_ (i := 18) (v := ?v54) 40 rfl rfl (wpAnyH_take (i := 18) rfl (by kernel_rfl) (by kernel_rfl) (by kernel_rfl) (fun _ _ _ h => h) (Or.inl ⟨by rfl, ?hy54⟩) (by assumption)) ?rest54
              case hy54 => (intro w_ hSw; (try dsimp only at hSw); go_simp <;> with_reducible rfl)
              (try simp only [Act.put, List.setIfInBounds_toArray, List.set_cons_zero, List.set_cons_succ])
              refine take_ (i := 19) (v := ?v55) 41 rfl rfl (wpAnyH_take (i := 19) rfl (by kernel_rfl) (by kernel_rfl) (by kernel_rfl) (fun _ _ _ h => h) (Or.inl ⟨by rfl, ?hy55⟩) (by assumption)) ?rest55
              case hy55 => (intro w_ hSw; (try dsimp only at hSw); go_simp <;> with_reducible rfl)
              (try simp only [Act.put, List.setIfInBounds_toArray, List.set_cons_zero, List.set_cons_succ])
              refine take_ (i := 20) (v := ?v56) 42 rfl rfl (wpAnyH_take (i := 20) rfl (by kernel_rfl) (by kernel_rfl) (by kernel_rfl) (fun _ _ _ h => h) (Or.inl ⟨by rfl, ?hy56⟩) (by assumption)) ?rest56
              case hy56 => (intro w_ hSw; (try dsimp only at hSw); go_simp <;> with_reducible rfl)
              (try simp only [Act.put, List.setIfInBounds_toArray, List.set_cons_zero, List.set_cons_succ])
              refine wpAnyH_ready (rs := [21]) (by kernel_rfl) (by simp) ?_
              refine AllReadyH.cons rfl (fun K hK => ?_) AllReadyH.nil
              go_simp
              refine (HTold.out _ hb46).mono ?_
              rintro e w7 ⟨rfl, hb7⟩
              have hb47 : Below wr.heap.size wr w7 := below_then hb46 hb46.size hb7
              (try go_wp2_with fail)
              refine hK.out _ _ (HS.out _ hb47) (fun hHeld => ?_)
              clear hK K
              (try simp only [Act.put, List.setIfInBounds_toArray, List.set_cons_zero, List.set_cons_succ])
              refine take_ (i := 22) (v := ?v57) 44 rfl rfl (wpAnyH_take (i := 22) rfl (by kernel_rfl) (by kernel_rfl) (by kernel_rfl) (fun _ _ _ h => h) (Or.inl ⟨by rfl, ?hy57⟩) (by assumption)) ?rest57
              case hy57 => (intro w_ hSw; (try dsimp only at hSw); go_simp <;> with_reducible rfl)
              (try simp only [Act.put, List.setIfInBounds_toArray, List.set_cons_zero, List.set_cons_succ])
              refine take_ (i := 23) (v := ?v58) 45 rfl rfl (wpAnyH_take (i := 23) rfl (by kernel_rfl) (by kernel_rfl) (by kernel_rfl) (fun _ _ _ h => h) (Or.inl ⟨by rfl, ?hy58⟩) (by assumption)) ?rest58
              case hy58 => (intro w_ hSw; (try dsimp only at hSw); go_simp <;> with_reducible rfl)
              (try simp only [Act.put, List.setIfInBounds_toArray, List.set_cons_zero, List.set_cons_succ])
              refine wpAnyH_done (by kernel_rfl) ?_ _
              go_wp2_with fail
              refine ⟨⟨k + 1, by omega, by go_num, ⟨below_then HB.out HB.out.size hb47⟩, ⟨fun j hj => ?_⟩⟩, by simp [intOf]; omega⟩
              rcases Nat.lt_or_ge j k with h1 | h1
              · exact HN.out j h1
              · obtain rfl : j = k := by omega
                exact .inr ⟨HQ.out, hb, ht⟩
        · have hq' : ((((n.l k).length : Int)) != c.many k) = true := by simp [hq]
          have HQ := Aside0.mk hq
          clear hq
          go_wp2_with fail
          refine wp_region_held_drew (S := (fun w' => (w'.cell? ⟨g, k, none⟩ = some (.slice (n.A k) (n.l k).length (n.c k)) ∧ w'.cell? ⟨w.heap.size, 0, none⟩ = some (.int .i64 c.inp) ∧ w'.cell? ⟨w.heap.size, 1, none⟩ = some (.slice c.A1 c.lat.length c.c1) ∧ w'.cell? ⟨w.heap.size, 2, none⟩ = some (.slice c.A2 c.gat.length c.c2) ∧ w'.cell? ⟨w.heap.size, 3, none⟩ = some (.slice c.A3 c.out.length c.c3) ∧ w'.cell? ⟨w.heap.size, 4, none⟩ = some (.slice c.A4 c.bad.length c.c4) ∧ w'.cell? ⟨w.heap.size, 5, none⟩ = some (.slice c.A5 c.con.length c.c5)))) (by kernel_rfl) (HS.out _ (below_drew (Below.refl _ _))) (fun hHeld => ?_)
          refine take_ (i := 0) (v := ?v59) 22 rfl rfl (wpAnyH_take (i := 0) rfl (by kernel_rfl) (by kernel_rfl) (by kernel_rfl) (fun _ _ _ h => h) (Or.inl ⟨by rfl, ?hy59⟩) (by assumption)) ?rest59
          case hy59 => (intro w_ hSw; (try dsimp only at hSw); go_simp <;> with_reducible rfl)
          (try simp only [Act.put, List.setIfInBounds_toArray, List.set_cons_zero, List.set_cons_succ])
          refine take_ (i := 1) (v := ?v60) 23 rfl rfl (wpAnyH_take (i := 1) rfl (by kernel_rfl) (by kernel_rfl) (by kernel_rfl) (fun _ _ _ h => h) (Or.inl ⟨by rfl, ?hy60⟩) (by assumption)) ?rest60
          case hy60 => (intro w_ hSw; (try dsimp only at hSw); go_simp <;> with_reducible rfl)
          (try simp only [Act.put, List.setIfInBounds_toArray, List.set_cons_zero, List.set_cons_succ])
          refine take_ (i := 2) (v := ?v61) 24 rfl rfl (wpAnyH_take (i := 2) rfl (by kernel_rfl) (by kernel_rfl) (by kernel_rfl) (fun _ _ _ h => h) (Or.inl ⟨by rfl, ?hy61⟩) (by assumption)) ?rest61
          case hy61 => (intro w_ hSw; (try dsimp only at hSw); go_simp <;> with_reducible rfl)
          (try simp only [Act.put, List.setIfInBounds_toArray, List.set_cons_zero, List.set_cons_succ])
          refine take_ (i := 3) (v := ?v62) 25 rfl rfl (wpAnyH_take (i := 3) rfl (by kernel_rfl) (by kernel_rfl) (by kernel_rfl) (fun _ _ _ h => h) (Or.inl ⟨by rfl, ?hy62⟩) (by assumption)) ?rest62
          case hy62 => (intro w_ hSw; (try dsimp only at hSw); go_simp <;> with_reducible rfl)
          (try simp only [Act.put, List.setIfInBounds_toArray, List.set_cons_zero, List.set_cons_succ])
          refine take_ (i := 4) (v := ?v63) 26 rfl rfl (wpAnyH_take (i := 4) rfl (by kernel_rfl) (by kernel_rfl) (by kernel_rfl) (fun _ _ _ h => h) (Or.inl ⟨by rfl, ?hy63⟩) (by assumption)) ?rest63
          case hy63 => (intro w_ hSw; (try dsimp only at hSw); go_simp <;> with_reducible rfl)
          (try simp only [Act.put, List.setIfInBounds_toArray, List.set_cons_zero, List.set_cons_succ])
          refine take_ (i := 6) (v := ?v64) 28 rfl rfl (wpAnyH_take (i := 6) rfl (by kernel_rfl) (by kernel_rfl) (by kernel_rfl) (fun _ _ _ h => h) (Or.inl ⟨by rfl, ?hy64⟩) (by assumption)) ?rest64
          case hy64 => (intro w_ hSw; (try dsimp only at hSw); go_simp <;> with_reducible rfl)
          (try simp only [Act.put, List.setIfInBounds_toArray, List.set_cons_zero, List.set_cons_succ])
          refine wpAnyH_ready (rs := [5]) (by kernel_rfl) (by simp) ?_
          refine AllReadyH.cons rfl (fun K hK => ?_) AllReadyH.nil
          go_simp
          refine (many c _).mono ?_
          rintro e w5 ⟨rfl, hb5⟩
          have hb45 : Below wr.heap.size wr w5 := below_then (below_drew (Below.refl _ _)) (Nat.le_refl _) hb5
          (try go_wp2_with fail)
          refine hK.out _ _ (HS.out _ hb45) (fun hHeld => ?_)
          clear hK K
          (try simp only [Act.put, List.setIfInBounds_toArray, List.set_cons_zero, List.set_cons_succ])
          refine take_ (i := 7) (v := ?v65) 29 rfl rfl (wpAnyH_take (i := 7) rfl (by kernel_rfl) (by kernel_rfl) (by kernel_rfl) (fun _ _ _ h => h) (Or.inl ⟨by rfl, ?hy65⟩) (by assumption)) ?rest65
          case hy65 => (intro w_ hSw; (try dsimp only at hSw); go_simp <;> with_reducible rfl)
          (try simp only [Act.put, List.setIfInBounds_toArray, List.set_cons_zero, List.set_cons_succ])
          refine take_ (i := 8) (v := ?v66) 30 rfl rfl (wpAnyH_take (i := 8) rfl (by kernel_rfl) (by kernel_rfl) (by kernel_rfl) (fun _ _ _ h => h) (Or.inl ⟨by rfl, ?hy66⟩) (by assumption)) ?rest66
          case hy66 => (intro w_ hSw; (try dsimp only at hSw); go_simp <;> with_reducible rfl)
          (try simp only [Act.put, List.setIfInBounds_toArray, List.set_cons_zero, List.set_cons_succ])
          refine take_ (i := 9) (v := ?v67) 31 rfl rfl (wpAnyH_take (i := 9) rfl (by kernel_rfl) (by kernel_rfl) (by kernel_rfl) (fun _ _ _ h => h) (Or.inl ⟨by rfl, ?hy67⟩) (by assumption)) ?rest67
          case hy67 => (intro w_ hSw; (try dsimp only at hSw); go_simp <;> with_reducible rfl)
          (try simp only [Act.put, List.setIfInBounds_toArray, List.set_cons_zero, List.set_cons_succ])
          refine take_ (i := 10) (v := undef) 32 rfl rfl (wpAnyH_take (i := 10) rfl (by kernel_rfl) (by kernel_rfl) (by kernel_rfl) (fun _ _ _ h => h) (Or.inr ⟨by rfl, rfl⟩) (by assumption)) ?_
          (try simp only [Act.put, List.setIfInBounds_toArray, List.set_cons_zero, List.set_cons_succ])
          refine take_ (i := 11) (v := undef) 33 rfl rfl (wpAnyH_take (i := 11) rfl (by kernel_rfl) (by kernel_rfl) (by kernel_rfl) (fun _ _ _ h => h) (Or.inr ⟨by rfl, rfl⟩) (by assumption)) ?_
          (try simp only [Act.put, List.setIfInBounds_toArray, List.set_cons_zero, List.set_cons_succ])
          refine take_ (i := 12) (v := undef) 34 rfl rfl (wpAnyH_take (i := 12) rfl (by kernel_rfl) (by kernel_rfl) (by kernel_rfl) (fun _ _ _ h => h) (Or.inr ⟨by rfl, rfl⟩) (by assumption)) ?_
          (try simp only [Act.put, List.setIfInBounds_toArray, List.set_cons_zero, List.set_cons_succ])
          refine take_ (i := 13) (v := undef) 35 rfl rfl (wpAnyH_take (i := 13) rfl (by kernel_rfl) (by kernel_rfl) (by kernel_rfl) (fun _ _ _ h => h) (Or.inr ⟨by rfl, rfl⟩) (by assumption)) ?_
          (try simp only [Act.put, List.setIfInBounds_toArray, List.set_cons_zero, List.set_cons_succ])
          refine take_ (i := 14) (v := undef) 36 rfl rfl (wpAnyH_take (i := 14) rfl (by kernel_rfl) (by kernel_rfl) (by kernel_rfl) (fun _ _ _ h => h) (Or.inr ⟨by rfl, rfl⟩) (by assumption)) ?_
          (try simp only [Act.put, List.setIfInBounds_toArray, List.set_cons_zero, List.set_cons_succ])
          refine take_ (i := 15) (v := ?v68) 37 rfl rfl (wpAnyH_take (i := 15) rfl (by kernel_rfl) (by kernel_rfl) (by kernel_rfl) (fun _ _ _ h => h) (Or.inl ⟨by rfl, ?hy68⟩) (by assumption)) ?rest68
          case hy68 => (intro w_ hSw; (try dsimp only at hSw); go_simp <;> with_reducible rfl)
          (try simp only [Act.put, List.setIfInBounds_toArray, List.set_cons_zero, List.set_cons_succ])
          refine take_ (i := 16) (v := ?v69) 38 rfl rfl (wpAnyH_take (i := 16) rfl (by kernel_rfl) (by kernel_rfl) (by kernel_rfl) (fun _ _ _ h => h) (Or.inl ⟨by rfl, ?hy69⟩) (by assumption)) ?rest69
          case hy69 => (intro w_ hSw; (try dsimp only at hSw); go_simp <;> with_reducible rfl)
          (try simp only [Act.put, List.setIfInBounds_toArray, List.set_cons_zero, List.set_cons_succ])
          refine take_ (i := 17) (v := undef) 39 rfl rfl (wpAnyH_take (i := 17) rfl (by kernel_rfl) (by kernel_rfl) (by kernel_rfl) (fun _ _ _ h => h) (Or.inr ⟨by rfl, rfl⟩) (by assumption)) ?_
          (try simp only [Act.put, List.setIfInBounds_toArray, List.set_cons_zero, List.set_cons_succ])
          refine take_ (i := 18) (v := undef) 40 rfl rfl (wpAnyH_take (i := 18) rfl (by kernel_rfl) (by kernel_rfl) (by kernel_rfl) (fun _ _ _ h => h) (Or.inr ⟨by rfl, rfl⟩) (by assumption)) ?_
          (try simp only [Act.put, List.setIfInBounds_toArray, List.set_cons_zero, List.set_cons_succ])
          refine take_ (i := 19) (v := undef) 41 rfl rfl (wpAnyH_take (i := 19) rfl (by kernel_rfl) (by kernel_rfl) (by kernel_rfl) (fun _ _ _ h => h) (Or.inr ⟨by rfl, rfl⟩) (by assumption)) ?_
          (try simp only [Act.put, List.setIfInBounds_toArray, List.set_cons_zero, List.set_cons_succ])
          refine take_ (i := 20) (v := undef) 42 rfl rfl (wpAnyH_take (i := 20) rfl (by kernel_rfl) (by kernel_rfl) (by kernel_rfl) (fun _ _ _ h => h) (Or.inr ⟨by rfl, rfl⟩) (by assumption)) ?_
          (try simp only [Act.put, List.setIfInBounds_toArray, List.set_cons_zero, List.set_cons_succ])
          refine take_ (i := 21) (v := undef) 43 rfl rfl (wpAnyH_take (i := 21) rfl (by kernel_rfl) (by kernel_rfl) (by kernel_rfl) (fun _ _ _ h => h) (Or.inr ⟨by rfl, rfl⟩) (by assumption)) ?_
          (try simp only [Act.put, List.setIfInBounds_toArray, List.set_cons_zero, List.set_cons_succ])
          refine take_ (i := 22) (v := undef) 44 rfl rfl (wpAnyH_take (i := 22) rfl (by kernel_rfl) (by kernel_rfl) (by kernel_rfl) (fun _ _ _ h => h) (Or.inr ⟨by rfl, rfl⟩) (by assumption)) ?_
          (try simp only [Act.put, List.setIfInBounds_toArray, List.set_cons_zero, List.set_cons_succ])
          refine take_ (i := 23) (v := ?v70) 45 rfl rfl (wpAnyH_take (i := 23) rfl (by kernel_rfl) (by kernel_rfl) (by kernel_rfl) (fun _ _ _ h => h) (Or.inl ⟨by rfl, ?hy70⟩) (by assumption)) ?rest70
          case hy70 => (intro w_ hSw; (try dsimp only at hSw); go_simp <;> with_reducible rfl)
          (try simp only [Act.put, List.setIfInBounds_toArray, List.set_cons_zero, List.set_cons_succ])
          refine wpAnyH_done (by kernel_rfl) ?_ _
          go_wp2_with fail
          go_ret
          refine ⟨?_, below_then BB.out BB.out.size hb45⟩
          rw [mayB_false (fun h => by rcases h.lists k hk5 with h1 | h1; exact HL.out h1; exact HQ.out h1.1)]
          rfl
    · obtain rfl : k = 5 := by omega
      go_wp2_with fail
      go_ret
      refine ⟨?_, BB.out⟩
      rw [mayB_true ⟨normB_ok hn, HN.out⟩]
      rfl

/-- name.May. -/
theorem may (c : Cv) (n : Nv) (w : World) (hc : c.Held w) (hh : n.Held w) (hs : Fit c) :
    Calls Tryd.prog 11 #[c.val, n.val] w fun e w' => e = .returned (.bool (mayB c n)) ∧ Below w.heap.size w w' := by
  cases hn : normB c with
  | true => exact may_lists c n w hc hh hs hn
  | false =>
    rw [mayB_false (fun h => by rw [normB_true h.norm] at hn; cases hn)]
    exact may_norm c n w hc hs hn
end Go.Proofs.YtfdemglcjfdodaaDoor.N
