/-
  Contracts of the document's functions of layer 1 that are walked by hand.
-/
import Derived.Test.YtfdemglcjfdodaaDoorR2
import Derived.Test.YtfdemglcjfdodaaDoorGlex
namespace Go.Proofs.YtfdemglcjfdodaaDoor.R
open Go.RowKit Go.Proofs.YtfdemglcjfdodaaDoorW.PrintWords Go.Proofs.YtfdemglcjfdodaaDoorW.PrintLast Go.Proofs.YtfdemglcjfdodaaDoorW.PrintMore
set_option linter.unusedVariables false

theorem conv_two (W : World) (s1 s2 : ByteArray) (h1 : s1.size ≤ 9223372036854775807) (h2 : s2.size ≤ 9223372036854775807) :
    Kd.C (Kd.int .u8) (Lib.bytesWorld (Lib.bytesWorld W 5 s1) 5 s2) (some ⟨W.heap.size, 0, none⟩) s1.size (bytesOf s1) ∧ Kd.C (Kd.int .u8) (Lib.bytesWorld (Lib.bytesWorld W 5 s1) 5 s2) (some ⟨(Lib.bytesWorld W 5 s1).heap.size, 0, none⟩) s2.size (bytesOf s2) := by
  have c1 : Kd.C (Kd.int .u8) (Lib.bytesWorld W 5 s1) (some ⟨W.heap.size, 0, none⟩) s1.size (bytesOf s1) := Kd.C_of_reads (d := (0 : Int)) (h1 := fun _ => rfl) (bytes_reads W 5 s1 h1)
  refine ⟨Kd.C_below c1 (bytes_below (Below.refl _ _) (Nat.le_refl _) 5 s2), Kd.C_of_reads (d := (0 : Int)) (h1 := fun _ => rfl) (bytes_reads _ 5 s2 h2)⟩

theorem rline_found (a : Addr) (c0 n : Nat) (l0 : List Int) (w : World) (hr0 : Kd.C (Kd.int .u8) w (some a) l0.length l0) (hc0 : l0.length ≤ c0) (hl : l0.length ≤ 140737488355328) (hn : l0.findIdx (· == 10) = n) (hlt : n < l0.length) :
    Calls Tryd.prog 21 #[.slice (some a) l0.length c0] w fun e w' => ∃ A1 c1 A2 c2, e = .returned (.tuple #[.slice (some A1) n c1, .slice (some A2) (l0.length - (n + 1)) c2, .int .i64 0]) ∧ Kd.C (Kd.int .u8) w' (some A1) n (bytesOf (strOfNums (l0.take n))) ∧ n ≤ c1 ∧ Kd.C (Kd.int .u8) w' (some A2) (l0.length - (n + 1)) (bytesOf (strOfNums (l0.drop (n + 1)))) ∧ l0.length - (n + 1) ≤ c2 ∧ Below w.heap.size w w' := by
  have hrd : ReadsOf (Value.int .u8) (0 : Int) w (some a) l0.length l0 := Kd.reads_of_C hr0
  have HR := Aside0.mk hr0
  have HN := Aside0.mk hn
  have HC := Aside0.mk hrd
  clear hn hr0 hrd
  go_enter Tryd.func21, Tryd.ntmps21
  go_wp2
  go_loop [5] (fun v5 => ∃ k : Nat, k ≤ n ∧ v5 = .int .i64 k) (fun i => l0.length - (intOf i).toNat)
  case atStart => exact ⟨0, Nat.zero_le _, rfl⟩
  case round =>
    obtain ⟨k, hk, rfl⟩ := hrel
    have hkl : k < l0.length := by omega
    obtain ⟨x, hx⟩ : ∃ x, x = l0.getD k 0 := ⟨_, rfl⟩
    have hcell : w.cell? (a.add k) = some (.int .u8 x) := by
      obtain ⟨ad, he, hc⟩ := HC.out.2.2 (by omega)
      obtain rfl := Option.some.inj he
      rw [hx]; exact hc k hkl
    rcases Nat.lt_or_ge k n with hkn | hkn
    · have hb : (x == 10) = false := by rw [hx]; exact Q.findIdx_lt (by rw [HN.out]; exact hkn)
      clear hx
      go_wp2
      exact ⟨⟨k + 1, by omega, by go_num⟩, by simp [intOf]; omega⟩
    · obtain rfl : k = n := by omega
      have hb : (x == 10) = true := by rw [hx]; have h1 := HN.out; subst h1; exact Q.findIdx_at hlt
      clear hx
      go_wp2
      obtain ⟨i0, hi0, _, hsz, _⟩ := info_parts info5
      have hcut1 : ∀ W : World, (Instr.slice 43 (.slice (some a) l0.length c0) none (some (.int .i64 k)) none).run Tryd.prog W = .ok (.slice (some a) k c0) W := fun W => by
        rw [run_slice_h W 43 (some a) l0.length c0 (by kernel_rfl) .i64 k (by omega) (by omega)]
        have hel : Tryd.prog.elem 43 = 5 := by kernel_rfl
        simp [sizeOf, typeInfo, hel, hi0, sliced, Result.andThen, Addr.add]
      obtain ⟨A1, hA1⟩ : ∃ A1, A1 = (if c0 = k + 1 then some a else (some a).map (·.add ((k + 1) * 1))) := ⟨_, rfl⟩
      have hcut2 : ∀ W : World, (Instr.slice 43 (.slice (some a) l0.length c0) (some (.int .i64 ((k : Int) + 1))) none none).run Tryd.prog W = .ok (.slice A1 (l0.length - (k + 1)) (c0 - (k + 1))) W := fun W => by
        rw [cut_from (P := Tryd.prog) 43 5 .i64 Tryd.underlying43 hi0 1 hsz (some a) l0.length c0 ((k : Int) + 1) (by omega) (by omega), hA1]
        rfl
      have h1 : Kd.C (Kd.int .u8) w (some a) k (l0.take k) := by
        have := Kd.C_take (m := k) HR.out (by omega)
        rw [List.length_take, Nat.min_eq_left (by omega)] at this
        exact this
      have h2 : Kd.C (Kd.int .u8) w A1 (l0.length - (k + 1)) (l0.drop (k + 1)) := by
        have := Kd.C_drop (m := k + 1) HR.out (by omega) hc0
        rw [List.length_drop] at this
        rw [hA1]
        exact this
      have hz1 : (strOfNums (l0.take k)).size = k := by rw [strOfNums_size, List.length_take, Nat.min_eq_left (by omega)]
      have hz2 : (strOfNums (l0.drop (k + 1))).size = l0.length - (k + 1) := by rw [strOfNums_size, List.length_drop]
      obtain ⟨s1, hs1⟩ : ∃ s, s = strOfNums (l0.take k) := ⟨_, rfl⟩
      obtain ⟨s2, hs2⟩ : ∃ s, s = strOfNums (l0.drop (k + 1)) := ⟨_, rfl⟩
      rw [← hs1] at hz1
      rw [← hs2] at hz2
      have b1 : Below w.heap.size w (Lib.bytesWorld w.drew 5 s1) := bytes_below (below_drew (Below.refl w.heap.size w)) (Nat.le_refl _) 5 s1
      have b2 : Below w.heap.size w (Lib.bytesWorld w.drew 5 s2) := bytes_below (below_drew (Below.refl w.heap.size w)) (Nat.le_refl _) 5 s2
      have q1 := Kd.C_string (P := Tryd.prog) (src := 43) (dst := 9) (e := 5) (c := c0) Tryd.underlying43 Tryd.underlying5 Tryd.underlying9 (Kd.C_drew h1)
      have q2 := Kd.C_string (P := Tryd.prog) (src := 43) (dst := 9) (e := 5) (c := c0 - (k + 1)) Tryd.underlying43 Tryd.underlying5 Tryd.underlying9 (Kd.C_drew h2)
      have q3 := Kd.C_string (P := Tryd.prog) (src := 43) (dst := 9) (e := 5) (c := c0) Tryd.underlying43 Tryd.underlying5 Tryd.underlying9 (Kd.C_below h1 b2)
      have q4 := Kd.C_string (P := Tryd.prog) (src := 43) (dst := 9) (e := 5) (c := c0 - (k + 1)) Tryd.underlying43 Tryd.underlying5 Tryd.underlying9 (Kd.C_below h2 b1)
      rw [← hs1] at q1 q3
      rw [← hs2] at q2 q4
      have m1 := fun W => print_bytes (P := Tryd.prog) 9 43 5 Tryd.underlying9 Tryd.underlying43 Tryd.underlying5 s1 W
      have m2 := fun W => print_bytes (P := Tryd.prog) 9 43 5 Tryd.underlying9 Tryd.underlying43 Tryd.underlying5 s2 W
      rw [hz1] at m1
      rw [hz2] at m2
      have HS1 := Aside0.mk hs1
      have HS2 := Aside0.mk hs2
      have HZ1 := Aside0.mk hz1
      have HZ2 := Aside0.mk hz2
      have B1 := Aside0.mk b1
      have B2 := Aside0.mk b2
      clear hi0 hsz hA1 h1 h2 hs1 hs2 hz1 hz2 b1 b2
      have hwr : IntKind.i64.wrap ((k : Int) + 1) = (k : Int) + 1 := IntWalk.i64_in _ (by omega)
      go_region
      · go_wp2
        go_ret3
        obtain ⟨e1, e2⟩ := conv_two w.drew s1 s2 (by rw [HZ1.out]; omega) (by rw [HZ2.out]; omega)
        rw [HZ1.out] at e1
        rw [HZ2.out] at e2
        rw [← HS2.out, ← HS1.out]
        exact ⟨_, _, _, _, rfl, e1, grownCap_ge _ _ _ _, e2, grownCap_ge _ _ _ _, bytes_below B1.out B1.out.size 5 s2⟩
      · go_wp2
        go_ret3
        obtain ⟨e2, e1⟩ := conv_two w.drew s2 s1 (by rw [HZ2.out]; omega) (by rw [HZ1.out]; omega)
        rw [HZ1.out] at e1
        rw [HZ2.out] at e2
        rw [← HS2.out, ← HS1.out]
        exact ⟨_, _, _, _, rfl, e1, grownCap_ge _ _ _ _, e2, grownCap_ge _ _ _ _, bytes_below B2.out B2.out.size 5 s1⟩

set_option maxHeartbeats 400000 in
theorem rline_none (A : Option Addr) (c0 : Nat) (l0 : List Int) (w : World) (hr0 : Kd.C (Kd.int .u8) w A l0.length l0) (hl : l0.length ≤ 140737488355328) (hn : ¬ l0.findIdx (· == 10) < l0.length) :
    Calls Tryd.prog 21 #[.slice A l0.length c0] w fun e w' => e = .returned (.tuple #[.slice none 0 0, .slice none 0 0, .int .i64 4]) ∧ w = w' := by
  have hrd : ReadsOf (Value.int .u8) (0 : Int) w A l0.length l0 := Kd.reads_of_C hr0
  have HN := Aside0.mk hn
  have HC := Aside0.mk hrd
  clear hn hr0 hrd
  go_enter Tryd.func21, Tryd.ntmps21
  go_wp2
  go_loop [5] (fun v5 => ∃ k : Nat, k ≤ l0.length ∧ v5 = .int .i64 k) (fun i => l0.length - (intOf i).toNat)
  case atStart => exact ⟨0, Nat.zero_le _, rfl⟩
  case round =>
    obtain ⟨k, hk, rfl⟩ := hrel
    rcases Nat.lt_or_ge k l0.length with hkl | hkl
    · obtain ⟨x, hx⟩ : ∃ x, x = l0.getD k 0 := ⟨_, rfl⟩
      obtain ⟨a, rfl, hcs⟩ := HC.out.2.2 (by omega)
      have hcell : w.cell? (a.add k) = some (.int .u8 x) := by rw [hx]; exact hcs k hkl
      have hb : (x == 10) = false := by rw [hx]; exact Q.findIdx_lt (by have := HN.out; omega)
      clear hx hcs
      go_wp2
      exact ⟨⟨k + 1, by omega, by go_num⟩, by simp [intOf]; omega⟩
    · obtain rfl : k = l0.length := by omega
      go_wp2
      go_ret3
      exact ⟨rfl, rfl⟩

def inquestref01_Line.f (l0 : List Int) : Option (List Int × List Int × Int) :=
  if l0.length ≤ 140737488355328 then
    (if l0.findIdx (· == 10) < l0.length then some (bytesOf (strOfNums (l0.take (l0.findIdx (· == 10)))), bytesOf (strOfNums (l0.drop (l0.findIdx (· == 10) + 1))), 0) else some ([], [], 4))
  else none
/-- The first line, as the document tells. -/
theorem inquestref01_Line.calls (A0 : Option Addr) (c0 : Nat) (l0 : List Int) (r1 : List Int) (r2 : List Int) (r3 : Int) (w : World) (hr0 : Kd.C (Kd.int .u8) w A0 l0.length l0) (hc0 : l0.length ≤ c0) (h : inquestref01_Line.f l0 = some (r1, r2, r3)) :
    Calls Tryd.prog 21 #[.slice A0 l0.length c0] w fun e w' => ∃ A1 c1 A2 c2, e = .returned (.tuple #[.slice A1 r1.length c1, .slice A2 r2.length c2, .int .i64 r3]) ∧ Kd.C (Kd.int .u8) w' A1 r1.length r1 ∧ r1.length ≤ c1 ∧ Kd.C (Kd.int .u8) w' A2 r2.length r2 ∧ r2.length ≤ c2 ∧ Below w.heap.size w w' := by
  unfold inquestref01_Line.f at h
  by_cases hl : l0.length ≤ 140737488355328
  · rw [if_pos hl] at h
    by_cases hn : l0.findIdx (· == 10) < l0.length
    · rw [if_pos hn] at h
      simp only [Option.some.injEq, Prod.mk.injEq] at h
      obtain ⟨rfl, rfl, rfl⟩ := h
      obtain ⟨a, rfl, _⟩ := (show ReadsOf (Value.int .u8) (0 : Int) w A0 l0.length l0 from Kd.reads_of_C hr0).2.2 (by omega)
      have e1 : (bytesOf (strOfNums (l0.take (l0.findIdx (· == 10))))).length = l0.findIdx (· == 10) := by
        rw [bytesOf_length, strOfNums_size, List.length_take, Nat.min_eq_left (by omega)]
      have e2 : (bytesOf (strOfNums (l0.drop (l0.findIdx (· == 10) + 1)))).length = l0.length - (l0.findIdx (· == 10) + 1) := by
        rw [bytesOf_length, strOfNums_size, List.length_drop]
      rw [e1, e2]
      refine (rline_found a c0 _ l0 w hr0 hc0 hl rfl hn).mono ?_
      rintro e w' ⟨A1, c1, A2, c2, h⟩
      exact ⟨_, _, _, _, h⟩
    · rw [if_neg hn] at h
      simp only [Option.some.injEq, Prod.mk.injEq] at h
      obtain ⟨rfl, rfl, rfl⟩ := h
      refine (rline_none A0 c0 l0 w hr0 hl hn).mono ?_
      rintro e w' ⟨rfl, rfl⟩
      exact ⟨none, 0, none, 0, rfl, Kd.C_nil _ _, Nat.le_refl _, Kd.C_nil _ _, Nat.le_refl _, Below.refl _ _⟩
  · rw [if_neg hl] at h
    cases h

set_option maxHeartbeats 8000000 in
set_option maxRecDepth 100000 in
/-- Bytes of their own, seven more behind them. -/
theorem lent (A0 : Option Addr) (c0 : Nat) (l0 : List Int) (w : World) (hr0 : Kd.C (Kd.int .u8) w A0 l0.length l0) (hl : l0.length ≤ 1048576) :
    Calls Tryd.prog 19 #[.slice A0 l0.length c0] w fun e w' => ∃ (g c : Nat), e = .returned (.slice (some ⟨g, 0, none⟩) l0.length c) ∧ w.heap.size ≤ g ∧ l0.length + 7 ≤ c ∧ Kd.C (Kd.int .u8) w' (some ⟨g, 0, none⟩) (l0.length + 7) (l0 ++ [7, 6, 5, 4, 3, 2, 1]) ∧ Below w.heap.size w w' := by
  have HR0 := Aside0.mk hr0
  clear hr0
  have HB := Aside0.mk (Below.refl w.heap.size w)
  obtain ⟨y135, hy135⟩ : ∃ y_ : List Int, y_ = (([7, 6, 5, 4, 3, 2, 1] : List Int)) := ⟨_, rfl⟩
  have Ny135 := Aside0.mk hy135
  have z135 : y135.length = 7 := by rw [hy135]; rfl
  clear hy135
  have LMc2 : Aside0 (([] : List Int).length + l0.length < 140737488355328) := ⟨by simp; omega⟩
  obtain ⟨y138, hy138⟩ : ∃ y_ : List Int, y_ = (([] : List Int) ++ l0) := ⟨_, rfl⟩
  have Ny138 := Aside0.mk hy138
  have z138 : y138.length = l0.length := by rw [hy138]; simp
  clear hy138
  have LMc3 : Aside0 (y138.length + y135.length < 140737488355328) := ⟨by omega⟩
  obtain ⟨y141, hy141⟩ : ∃ y_ : List Int, y_ = (y138 ++ y135) := ⟨_, rfl⟩
  have Ny141 := Aside0.mk hy141
  have z141 : y141.length = l0.length + 7 := by rw [hy141, List.length_append]; omega
  clear hy141
  have Z135 := Aside0.mk z135
  have Z138 := Aside0.mk z138
  have Z141 := Aside0.mk z141
  have c4b1 : decide (0 ≤ (l0.length : Int)) = true := decide_eq_true (by omega)
  have c5b1 : decide ((l0.length : Int) ≤ (y141.length : Int)) = true := decide_eq_true (by omega)
  clear z135 z138 z141
  go_enter Tryd.func19, Tryd.ntmps19
  go_wp2_with (first | ((with_reducible refine gate_dst (N := 5) rfl ?_); refine Kd.R_lit (Kd.int .u8) _ 5 ?hg (N := 5) ?hd (xs := ([7, 6, 5, 4, 3, 2, 1] : List Int)) (inner := [.int .u8 7, .int .u8 6, .int .u8 5, .int .u8 4, .int .u8 3, .int .u8 2, .int .u8 1]) (ok := fun _ => True) (okp := fun _ => True) ?hr ?hp (fun _ hk => hk) trivial (Below.refl _ _) (Nat.le_refl _) (by simp) ?_; (case hd => rfl); (case hg => rfl); (case hr => first | (go_simp; done) | (go_simp; rfl)); (case hp => exact (Reps.one (show Kd.M (Kd.int .u8) _ _ _ 7 [.int .u8 7] from rfl) (Reps.one (show Kd.M (Kd.int .u8) _ _ _ 6 [.int .u8 6] from rfl) (Reps.one (show Kd.M (Kd.int .u8) _ _ _ 5 [.int .u8 5] from rfl) (Reps.one (show Kd.M (Kd.int .u8) _ _ _ 4 [.int .u8 4] from rfl) (Reps.one (show Kd.M (Kd.int .u8) _ _ _ 3 [.int .u8 3] from rfl) (Reps.one (show Kd.M (Kd.int .u8) _ _ _ 2 [.int .u8 2] from rfl) (Reps.one (show Kd.M (Kd.int .u8) _ _ _ 1 [.int .u8 1] from rfl) (Reps.none _ _))))))))); intro v136 w6 ho7 hb hg_ hnew_; clear hg_ hnew_; (first | rw [← Ny135.out] at ho7 | (simp only [Int.reduceToNat] at ho7; rw [← Ny135.out] at ho7)); have n0_ := Aside0.mk (Kd.R_lower ho7 (below_size (by repeat (first | (with_reducible first | exact HB.out | apply below_alloc | apply pw_below_drewN | apply below_drew1) | exact HB.out)))); have n1_ := Aside0.mk (below_step (by repeat (first | (with_reducible first | exact HB.out | apply below_alloc | apply pw_below_drewN | apply below_drew1) | exact HB.out)) hb); clear HB; have HO137 := n0_; have HB := n1_; clear n0_ n1_; clear hb ho7) | ((with_reducible refine gate_builtin (b := .append) (xs := #[.tmp 6, .tmp 7]) rfl ?_); at_builtin; refine Kd.R_append_rows (Kd.int .u8) (w0 := w) w.heap.size rfl (.tmp 6) (.tmp 7) 43 5 (.int .u8 0) 1 rfl Tryd.underlying43 info5 rfl (by decide) (by omega) (.slice none 0 0) ([] : List Int) l0 _ _ _ (fun k_ => some k_ ≠ (v136 : Value).ownBlock) (fun _ => False) rfl rfl ?aO ?aR (fun _ _ h => h) (fun _ h => h.elim) ?aF ?aB ?aS ?aL ?_; (case aR => repeat (first | exact (Kd.C_below HR0.out HB.out) | (with_reducible refine Kd.C_alloc ?_ _) | (with_reducible refine Kd.C_drewN ?_ _) | (with_reducible refine Kd.C_drew ?_))); (case aB => exact (by repeat (first | (with_reducible first | exact HB.out | apply below_alloc | apply pw_below_drewN | apply below_drew1) | exact HB.out))); (case aF => exact (fun k_ hk => Kd.fresh' (Kd.R_lt (by (with_reducible repeat (first | apply Kd.R_alloc | apply Kd.R_drewN | apply Kd.R_drew)); exact HO137.out)) k_ hk)); (case aO => exact ((Kd.R_nil _ _ _ _ (fun k_ => some k_ ≠ (v136 : Value).ownBlock)))); (case aS => exact (below_size (by repeat (first | (with_reducible first | exact HB.out | apply below_alloc | apply pw_below_drewN | apply below_drew1) | exact HB.out)))); (case aL => have := LMc2.out; omega); intro v139 w8 ho hb hg hat; rw [← Ny138.out] at ho; have n0_ := Aside0.mk (Kd.R_after (Kd.R_apart_nil (by (with_reducible repeat (first | apply Kd.R_alloc | apply Kd.R_drewN | apply Kd.R_drew)); exact HO137.out)) hg hat); have n1_ := Aside0.mk (hb); have n2_ := Aside0.mk (ho); clear HO137; clear HB; have HO137 := n0_; have HB := n1_; have HO140 := n2_; clear n0_ n1_ n2_; clear ho hb hg hat; obtain ⟨Ao10, co10, eo10⟩ := Kd.R_slice HO137.out; subst eo10) | ((with_reducible refine gate_builtin (b := .append) (xs := #[.tmp 9, .tmp 10]) rfl ?_); at_builtin; refine Kd.R_append_rows (Kd.int .u8) (w0 := w) w.heap.size rfl (.tmp 9) (.tmp 10) 43 5 (.int .u8 0) 1 rfl Tryd.underlying43 info5 rfl (by decide) (by omega) v139 y138 y135 _ _ _ (fun k_ => some k_ ≠ (.slice Ao10 y135.length co10 : Value).ownBlock) (fun _ => False) rfl rfl ?aO ?aR (fun _ _ h => h) (fun _ h => h.elim) ?aF ?aB ?aS ?aL ?_; (case aR => repeat (first | exact (Kd.R_reads' HO137.out).2.2 | (with_reducible refine Kd.C_alloc ?_ _) | (with_reducible refine Kd.C_drewN ?_ _) | (with_reducible refine Kd.C_drew ?_))); (case aB => exact (by repeat (first | (with_reducible first | exact HB.out | apply below_alloc | apply pw_below_drewN | apply below_drew1) | exact HB.out))); (case aF => exact (fun k_ hk => Kd.fresh' (Kd.R_lt (by (with_reducible repeat (first | apply Kd.R_alloc | apply Kd.R_drewN | apply Kd.R_drew)); exact HO137.out)) k_ hk)); (case aO => exact (by (with_reducible repeat (first | apply Kd.R_alloc | apply Kd.R_drewN | apply Kd.R_drew)); exact HO140.out)); (case aS => exact (below_size (by repeat (first | (with_reducible first | exact HB.out | apply below_alloc | apply pw_below_drewN | apply below_drew1) | exact HB.out)))); (case aL => have := LMc3.out; omega); intro v142 w9 ho hb hg hat; rw [← Ny141.out] at ho; have n0_ := Aside0.mk (Kd.R_after (ok := (fun _ => True)) (by (with_reducible repeat (first | apply Kd.R_alloc | apply Kd.R_drewN | apply Kd.R_drew)); exact HO137.out) hg hat); have n1_ := Aside0.mk (hb); have n2_ := Aside0.mk (ho); clear HO137; clear HB; clear HO140; have HO137 := n0_; have HB := n1_; have HO143 := n2_; clear n0_ n1_ n2_; clear ho hb hg hat; obtain ⟨Ao11, co11, eo11⟩ := Kd.R_slice HO143.out; subst eo11; have q12 : ((l0.length : Int) : Int) ≤ ((y141.length : Int) : Int) := of_decide_eq_true (by first | (with_reducible assumption) | assumption); obtain ⟨i012, hi012, _, hsz12, _⟩ := info_parts info5; have hcut12 := cut_to (P := Tryd.prog) 43 5 .i64 Tryd.underlying43 hi012 Ao11 y141.length co11 (l0.length : Int) (of_decide_eq_true (by first | (with_reducible assumption) | assumption)) q12 (Kd.R_reads' HO143.out).2.1; clear hi012 hsz12; replace q12 := eq_true q12; rw [Int.toNat_natCast] at hcut12))
  go_ret
  obtain ⟨go, co, eo, gb, gl, cl, HG⟩ := Kd.R_form HO143.out (by rw [Z141.out]; omega)
  injection eo with e1 e2 e3
  subst e1
  have hc := (Kd.R_reads' HO143.out).2
  rw [Z141.out] at hc
  refine ⟨go, co11, by simp, gb, hc.1, ?_, HB.out⟩
  have := hc.2
  rw [Ny141.out, Ny138.out, Ny135.out] at this
  exact this
end Go.Proofs.YtfdemglcjfdodaaDoor.R
