/-
  lex.Line, Burn and Back, once more: what is made is burnt, what was lent is given back.
-/
import Derived.Test.YtfdemglcjfdodaaDoorFullLex
import Derived.Test.YtfdemglcjfdodaaDoorRHand
import Derived.Deep.RegionWith
import Derived.WalkMore
namespace Go.Proofs.YtfdemglcjfdodaaDoor.R
open Go.RowKit Go.Proofs.YtfdemglcjfdodaaDoorW.PrintWords Go.Proofs.YtfdemglcjfdodaaDoorW.PrintLast Go.Proofs.YtfdemglcjfdodaaDoorW.PrintMore
set_option linter.unusedVariables false

/-- A row of bytes of its own, every cell of it a byte. -/
def Own (B : Nat) (w : World) (v : Value) (xs : List Int) : Prop := w.ownsRow B 5 1 v xs.length (nums .u8 xs) ∧ Full w v
theorem own_below {w w' : World} {v : Value} {B n e size : Nat} {xs : List Value} (ho : w.ownsRow B e size v n xs) (hb : Below w.heap.size w w') : w'.ownsRow B e size v n xs := by
  refine ⟨ho.1, ?_⟩
  rcases ho.2 with h | ⟨g, cap, cur, rfl, h1, h2, r⟩
  · exact .inl h
  · exact .inr ⟨g, cap, cur, rfl, h1, by rw [hb.block g (Array.getElem?_eq_some_iff.1 h2).1]; exact h2, r⟩
theorem own_lower {w : World} {v : Value} {B B' n e size : Nat} {xs : List Value} (ho : w.ownsRow B e size v n xs) (hb : B' ≤ B) : w.ownsRow B' e size v n xs := by
  refine ⟨ho.1, ?_⟩
  rcases ho.2 with h | ⟨g, cap, cur, rfl, h1, r⟩
  · exact .inl h
  · exact .inr ⟨g, cap, cur, rfl, by omega, r⟩
/-- What is owned reads as its numbers. -/
theorem Own.reads {B : Nat} {w : World} {v : Value} {xs : List Int} (h : Own B w v xs) : ∃ A c, v = .slice A xs.length c ∧ Kd.C (Kd.int .u8) w A xs.length xs ∧ xs.length ≤ c := by
  have hR : Kd.R (Kd.int .u8) 5 w B (fun _ => True) v xs := Kd.R_of_own h.1 (fun _ _ => trivial)
  obtain ⟨A, c, rfl⟩ := Kd.R_slice hR
  exact ⟨A, c, rfl, (Kd.R_reads' hR).2.2, (Kd.R_reads' hR).2.1⟩

theorem line_full (a : Addr) (c0 n : Nat) (l0 : List Int) (w : World) (hr0 : Kd.C (Kd.int .u8) w (some a) l0.length l0) (hc0 : l0.length ≤ c0) (hl : l0.length ≤ 140737488355328) (hn : l0.findIdx (· == 10) = n) (hlt : n < l0.length) :
    Calls Tryd.prog 20 #[.slice (some a) l0.length c0] w fun e w' => ∃ v0_ v1_ : Value, e = .returned (.tuple #[v0_, v1_, .int .i64 0]) ∧ Own w.heap.size w' v0_ (l0.take n) ∧ Own w.heap.size w' v1_ (l0.drop (n + 1)) ∧ (∀ k, v1_.ownBlock = some k → v0_.ownBlock ≠ some k) ∧ Below w.heap.size w w' := by
  have hrd : ReadsOf (Value.int .u8) (0 : Int) w (some a) l0.length l0 := Kd.reads_of_C hr0
  have HR := Aside0.mk hr0
  have HN := Aside0.mk hn
  have HC := Aside0.mk hrd
  clear hn hr0 hrd
  go_enter Tryd.func20, Tryd.ntmps20
  go_wp2
  go_step3
  go_wp2
  go_step3
  go_wp2
  go_loop [5, 10] (fun v5 v10 => ∃ k : Nat, k ≤ n ∧ v5 = .int .i64 (-1) ∧ v10 = .int .i64 k) (fun _ i => l0.length - (intOf i).toNat)
  case atStart => exact ⟨0, Nat.zero_le _, rfl, rfl⟩
  case round =>
    obtain ⟨k, hk, rfl, rfl⟩ := hrel
    have hkl : k < l0.length := by omega
    obtain ⟨x, hx⟩ : ∃ x, x = l0.getD k 0 := ⟨_, rfl⟩
    have hcell : w.cell? (a.add k) = some (.int .u8 x) := by
      obtain ⟨ad, he, hc⟩ := HC.out.2.2 (by omega)
      obtain rfl := Option.some.inj he
      rw [hx]; exact hc k hkl
    rcases Nat.lt_or_ge k n with hkn | hkn
    · have hb : (x == 10) = false := by rw [hx]; exact Q.findIdx_lt (by rw [HN.out]; exact hkn)
      clear hx
      go_wp2
      exact ⟨⟨k + 1, by omega, rfl, by go_num⟩, by simp [intOf]; omega⟩
    · obtain rfl : k = n := by omega
      have hb : (x == 10) = true := by rw [hx]; have h1 := HN.out; subst h1; exact Q.findIdx_at hlt
      clear hx
      obtain ⟨i0, hi0, _, hsz, _⟩ := info_parts Q.info5
      have hcut1 : ∀ W : World, (Instr.slice 43 (.slice (some a) l0.length c0) none (some (.int .i64 k)) (some (.int .i64 k))).run Tryd.prog W = .ok (.slice (some a) k k) W := fun W => by
        rw [run_slice_hm W 43 (some a) l0.length c0 (by kernel_rfl) .i64 .i64 k k (by omega) (Int.le_refl _) (by omega)]
        have hel : Tryd.prog.elem 43 = 5 := by kernel_rfl
        simp [sizeOf, typeInfo, hel, hi0, sliced, Result.andThen, Addr.add]
      obtain ⟨A1, hA1⟩ : ∃ A1, A1 = (if c0 = k + 1 then some a else (some a).map (·.add ((k + 1) * 1))) := ⟨_, rfl⟩
      have hcut2 : ∀ W : World, (Instr.slice 43 (.slice (some a) l0.length c0) (some (.int .i64 ((k : Int) + 1))) none none).run Tryd.prog W = .ok (.slice A1 (l0.length - (k + 1)) (c0 - (k + 1))) W := fun W => by
        rw [cut_from (P := Tryd.prog) 43 5 .i64 Tryd.underlying43 hi0 1 hsz (some a) l0.length c0 ((k : Int) + 1) (by omega) (by omega), hA1]
        rfl
      have h1 : Kd.C (Kd.int .u8) w (some a) k (l0.take k) := by
        have := Kd.C_take (m := k) HR.out (by omega)
        rw [List.length_take, Nat.min_eq_left (by omega)] at this
        exact this
      have h2 : Kd.C (Kd.int .u8) w A1 (l0.length - (k + 1)) (l0.drop (k + 1)) := by
        have := Kd.C_drop (m := k + 1) HR.out (by omega) hc0
        rw [List.length_drop] at this
        rw [hA1]
        exact this
      have H1 := Aside0.mk h1
      have H2 := Aside0.mk h2
      clear h1 h2
      clear hi0 hsz hA1
      have hwr : IntKind.i64.wrap ((k : Int) + 1) = (k : Int) + 1 := IntWalk.i64_in _ (by omega)
      go_wp2
      go_region_with (first
        | ((with_reducible refine (clone_full (some a) k k (l0.take k) _ (by simp; omega) (Kd.C_drew H1.out) (by omega)).mono ?_); rintro e w1 ⟨v0, rfl, ho0, hf0, hb0⟩; have HO0 := Aside0.mk ho0; have HB0 := Aside0.mk hb0; have HF0 := Aside0.mk hf0; clear ho0 hb0 hf0)
        | ((with_reducible refine (clone_full A1 (l0.length - (k + 1)) (c0 - (k + 1)) (l0.drop (k + 1)) _ (by simp) (Kd.C_below (Kd.C_drew H2.out) HB0.out) (by omega)).mono ?_); rintro e w2 ⟨v1, rfl, ho1, hf1, hb1⟩; have HO1 := Aside0.mk ho1; have HB1 := Aside0.mk hb1; have HF1 := Aside0.mk hf1; clear ho1 hb1 hf1))
      go_wp2
      rw [Exit.noGoto_ret]
      go_ret3
      have hbl := HO0.out.lt
      have hbl1 := HO1.out.lt
      refine ⟨_, _, rfl, ⟨own_below HO0.out HB1.out, HF0.out.below HO0.out HB1.out⟩, ⟨own_lower HO1.out HB0.out.size, HF1.out⟩, ?_, ?_⟩
      · intro k2 hk2 hk3
        have := hbl k2 hk3
        have := hbl1 k2 hk2
        omega
      · exact (Below.trans (below_drew (Below.refl w.heap.size w)) HB0.out).trans (HB1.out.mono HB0.out.size)


/-- What Burn leaves behind some rounds. -/
def Burnt (w wr : World) (g cap : Nat) : Prop := w.grownBy wr (some g) ∧ ∃ cur : Array Value, wr.heap[g]? = some (.cells cur 5 (0, 0)) ∧ cur.size = cap ∧ AllBytes cur.toList
theorem Burnt.cell {w wr : World} {g cap k : Nat} (h : Burnt w wr g cap) (hk : k < cap) : ∃ y : Int, wr.cell? ⟨g, k, none⟩ = some (.int .u8 y) ∧ wr.frozen? ⟨g, k, none⟩ = false := by
  obtain ⟨_, cur, h1, h2, h3⟩ := h
  obtain ⟨y, hy⟩ := h3 (cur[k]'(by omega)) (by simp)
  refine ⟨y, ?_, blk_frozen h1 k⟩
  rw [blk_cell h1 k, Array.getElem?_eq_getElem (by omega), hy]
theorem Burnt.set {w wr : World} {g cap k : Nat} (h : Burnt w wr g cap) (y : Int) : Burnt w (wr.setCell ⟨g, k, none⟩ (.int .u8 y)) g cap := by
  obtain ⟨h0, cur, h1, h2, h3⟩ := h
  refine ⟨⟨h0.os, h0.tape, h0.output, by simpa [World.setCell] using h0.size, fun i hi hne => ?_⟩, cur.setIfInBounds k (.int .u8 y), blk_set h1 k _, by simpa using h2, ?_⟩
  · exact (Below.heap_setCell wr ⟨g, k, none⟩ _ i (fun e => hne (by rw [e]))).trans (h0.block i hi hne)
  · intro x hx
    rw [Array.toList_setIfInBounds] at hx
    rcases List.mem_or_eq_of_mem_set hx with hx | rfl
    · exact h3 x hx
    · exact ⟨y, rfl⟩

set_option maxHeartbeats 1000000 in
theorem burn (B : Nat) (v : Value) (xs : List Int) (w : World) (h : Own B w v xs) :
    Calls Tryd.prog 23 #[v] w fun e w' => e = .returned (.tuple #[]) ∧ w.grownBy w' v.ownBlock := by
  obtain ⟨ho, hF⟩ := h
  rcases ho.2 with ⟨rfl, _⟩ | ⟨g, cap, cur, rfl, h1, h2, h3, h4, h5, h6⟩
  · clear ho hF
    go_enter Tryd.func23, Tryd.ntmps23
    go_wp2
    go_loop [2] (fun v2 => v2 = .int .i64 0) (fun _ => 0)
    case atStart => rfl
    case round =>
      subst hrel
      go_wp2
      first | go_end0 | go_ret
      exact ⟨rfl, ⟨rfl, rfl, rfl, Nat.le_refl _, fun _ _ _ => rfl⟩⟩
  · have hb : Burnt w w g cap := ⟨⟨rfl, rfl, rfl, Nat.le_refl _, fun _ _ _ => rfl⟩, cur, h2, by simpa using h5, hF g rfl cur _ _ h2⟩
    have HB := Aside0.mk hb
    have HC := Aside0.mk (And.intro h3 h4)
    clear ho hF hb h1 h2 h5 h6
    have hcap : cap ≤ 9223372036854775807 := by have := HC.out.2; unfold maxLen at this; omega
    obtain ⟨i0, hi0, _, hsz, _⟩ := info_parts Q.info5
    have hcut1 : ∀ W : World, (Instr.slice 43 (.slice (some ⟨g, 0, none⟩) xs.length cap) none (some (.int .i64 cap)) none).run Tryd.prog W = .ok (.slice (some ⟨g, 0, none⟩) cap cap) W := fun W => by
      rw [run_slice_h W 43 (some ⟨g, 0, none⟩) xs.length cap (by kernel_rfl) .i64 cap (by omega) (by omega)]
      have hel : Tryd.prog.elem 43 = 5 := by kernel_rfl
      simp [sizeOf, typeInfo, hel, hi0, sliced, Result.andThen, Addr.add]
    clear hi0 hsz h3 h4
    go_enter Tryd.func23, Tryd.ntmps23
    go_wp2
    go_loopw [2] (fun v2 wr => ∃ k : Nat, k ≤ cap ∧ v2 = .int .i64 k ∧ Aside0 (Burnt w wr g cap)) (fun i _ => cap - (intOf i).toNat)
    case atStart => exact ⟨0, Nat.zero_le _, rfl, HB⟩
    case round =>
      obtain ⟨k, hk, rfl, HBk⟩ := hrel
      rcases Nat.lt_or_ge k cap with hkl | hkl
      · obtain ⟨y, hy, hfz⟩ := HBk.out.cell hkl
        go_wp2
        exact ⟨⟨k + 1, by omega, by go_num, ⟨HBk.out.set _⟩⟩, by simp [intOf]; omega⟩
      · go_wp2
        first | go_end0 | go_ret
        exact ⟨rfl, HBk.out.1⟩

theorem lent_reads {w : World} {A : Option Addr} {l : List Int} (hr : Kd.C (Kd.int .u8) w A (l.length + 7) (l ++ [7, 6, 5, 4, 3, 2, 1])) : Kd.C (Kd.int .u8) w A l.length l := by
  have hlen : (l ++ [7, 6, 5, 4, 3, 2, 1] : List Int).length = l.length + 7 := by simp
  rw [← hlen] at hr
  have := Kd.C_take (m := l.length) hr (by omega)
  rw [List.take_left] at this
  exact this

/-- The first line: found, or not. -/
theorem line_own (A0 : Option Addr) (c0 : Nat) (l0 : List Int) (r1 r2 : List Int) (r3 : Int) (w : World) (hr0 : Kd.C (Kd.int .u8) w A0 l0.length l0) (hc0 : l0.length ≤ c0) (h : Q.lex_Line.f l0 = some (r1, r2, r3)) :
    Calls Tryd.prog 20 #[.slice A0 l0.length c0] w fun e w' => ∃ v0_ v1_ : Value, e = .returned (.tuple #[v0_, v1_, .int .i64 r3]) ∧ Own w.heap.size w' v0_ r1 ∧ Own w.heap.size w' v1_ r2 ∧ (∀ k, v1_.ownBlock = some k → v0_.ownBlock ≠ some k) ∧ Below w.heap.size w w' := by
  unfold Q.lex_Line.f at h
  by_cases hl : l0.length ≤ 140737488355328
  · rw [if_pos hl] at h
    by_cases hn : l0.findIdx (· == 10) < l0.length
    · rw [if_pos hn] at h
      simp only [Option.some.injEq, Prod.mk.injEq] at h
      obtain ⟨rfl, rfl, rfl⟩ := h
      obtain ⟨a, rfl, _⟩ := (show ReadsOf (Value.int .u8) (0 : Int) w A0 l0.length l0 from Kd.reads_of_C hr0).2.2 (by omega)
      exact line_full a c0 _ l0 w hr0 hc0 hl rfl hn
    · rw [if_neg hn] at h
      simp only [Option.some.injEq, Prod.mk.injEq] at h
      obtain ⟨rfl, rfl, rfl⟩ := h
      refine (Q.line_none A0 c0 l0 w hr0 hl hn).mono ?_
      rintro e w' ⟨rfl, rfl⟩
      exact ⟨_, _, rfl, ⟨World.ownsRow_nil _ _ _ _, Full.nil _⟩, ⟨World.ownsRow_nil _ _ _ _, Full.nil _⟩, fun k hk => by simp [Value.ownBlock] at hk, Below.refl _ _⟩
  · rw [if_neg hl] at h
    cases h

set_option maxHeartbeats 1000000 in
/-- What Lent made is given back as it was. -/
theorem back (g c : Nat) (l : List Int) (A1 : Option Addr) (c1 : Nat) (w : World) (hc : l.length + 7 ≤ c) (hl : l.length ≤ 1048576) (hr : Kd.C (Kd.int .u8) w (some ⟨g, 0, none⟩) (l.length + 7) (l ++ [7, 6, 5, 4, 3, 2, 1])) (hr1 : Kd.C (Kd.int .u8) w A1 l.length l) (hc1 : l.length ≤ c1) :
    Calls Tryd.prog 33 #[.slice (some ⟨g, 0, none⟩) l.length c, .slice A1 l.length c1] w fun e w' => e = .returned (.bool true) ∧ Drawn0 w w' := by
  have h0 : Kd.C (Kd.int .u8) w (some ⟨g, 0, none⟩) l.length l := by
    exact lent_reads hr
  have hcells : ∀ i : Nat, 1 ≤ i → i ≤ 7 → w.cell? ⟨g, l.length + 7 - i, none⟩ = some (.int .u8 i) := by
    intro i h1 h7
    obtain ⟨ad, he, hcs⟩ := (show ReadsOf (Value.int .u8) (0 : Int) w (some ⟨g, 0, none⟩) (l.length + 7) (l ++ [7, 6, 5, 4, 3, 2, 1]) from Kd.reads_of_C hr).2.2 (by omega)
    obtain rfl := Option.some.inj he
    have := hcs (l.length + 7 - i) (by omega)
    rw [add_plain] at this
    rw [this]
    have e1 : l.length + 7 - i = l.length + (7 - i) := by omega
    rw [e1, List.getD_eq_getElem?_getD, List.getElem?_append_right (by omega), Nat.add_sub_cancel_left]
    match i, h1, h7 with
    | 1, _, _ | 2, _, _ | 3, _, _ | 4, _, _ | 5, _, _ | 6, _, _ | 7, _, _ => rfl
  have HC := Aside0.mk hcells
  have HB := Aside0.mk (inquestref00_Bytes.calls (some ⟨g, 0, none⟩) c l A1 c1 l true w h0 (by omega) hr1 hc1 (by simp [inquestref00_Bytes.f]))
  obtain ⟨i0, hi0, _, hsz, _⟩ := info_parts Q.info5
  have hcut1 : ∀ W : World, (Instr.slice 43 (.slice (some ⟨g, 0, none⟩) l.length c) none (some (.int .i64 ((l.length : Int) + 7))) none).run Tryd.prog W = .ok (.slice (some ⟨g, 0, none⟩) (l.length + 7) c) W := fun W => by
    rw [run_slice_h W 43 (some ⟨g, 0, none⟩) l.length c (by kernel_rfl) .i64 ((l.length : Int) + 7) (by omega) (by omega)]
    have hel : Tryd.prog.elem 43 = 5 := by kernel_rfl
    simp [sizeOf, typeInfo, hel, hi0, sliced, Result.andThen, Addr.add]
    omega
  have hwr : IntKind.i64.wrap ((l.length : Int) + 7) = (l.length : Int) + 7 := IntWalk.i64_in _ (by omega)
  have hlt : decide ((c : Int) < (l.length : Int) + 7) = false := by simp; omega
  have HL := Aside0.mk (And.intro hl hc)
  clear hi0 hsz h0 hr hr1 hcells hl hc
  go_enter Tryd.func33, Tryd.ntmps33
  go_wp2_with (go_at_call 22; refine HB.out.mono ?_; rintro e w' ⟨rfl, ⟨nd, rfl⟩⟩)
  go_loop [6] (fun v6 => ∃ k : Nat, 1 ≤ k ∧ k ≤ 8 ∧ v6 = .int .i64 k) (fun i => 8 - (intOf i).toNat)
  case atStart => exact ⟨1, by omega, by omega, rfl⟩
  case round =>
    obtain ⟨k, hk1, hk, rfl⟩ := hrel
    rcases Nat.lt_or_ge 7 k with hk7 | hk7
    · obtain rfl : k = 8 := by omega
      go_wp2
      first | go_ret3 | go_ret2 | go_ret
      exact ⟨rfl, ⟨nd, rfl⟩⟩
    · have hcell := HC.out k hk1 hk7
      have hd1 : decide ((k : Int) ≤ 7) = true := by simp; omega
      have hwr2 : IntKind.i64.wrap ((l.length : Int) + 7 - (k : Int)) = ((l.length + 7 - k : Nat) : Int) := by
        rw [IntWalk.i64_in _ (by have := HL.out; omega)]; omega
      have hwr3 : IntKind.i64.wrap (k : Int) = (k : Int) := IntWalk.i64_in _ (by omega)
      go_wp2
      exact ⟨⟨k + 1, by omega, by omega, by go_num⟩, by simp [intOf]; omega⟩
end Go.Proofs.YtfdemglcjfdodaaDoor.R
