/-
  slices.IndexFunc, slices.ContainsFunc and slices.Index over strings and numbers, with predicates that may make memory of their own.
-/
import Derived.Test.YtfdemglcjfdodaaDoorNCarry
import Derived.Test.YtfdemglcjfdodaaDoorNShelf
import Derived.Test.YtfdemglcjfdodaaDoorNspec
namespace Go.Proofs.YtfdemglcjfdodaaDoor.N
open Go.RowKit Go.Proofs.YtfdemglcjfdodaaDoorW.PrintWords Go.Proofs.YtfdemglcjfdodaaDoorW.PrintLast Go.Proofs.YtfdemglcjfdodaaDoorW.PrintMore
set_option linter.unusedVariables false

/-- A predicate that leaves all that lay. -/
def PredB {α : Type} (g : Nat) (lb : Array Value) (enc : α → Value) (p : α → Bool) (w : World) : Prop :=
  ∀ (W : World) (x : α), Below w.heap.size w W → Calls Tryd.prog g (#[enc x] ++ lb) W fun e w' => e = .returned (.bool (p x)) ∧ Below w.heap.size w w'

theorem any_of_at {α : Type} {p : α → Bool} {zs : List α} {d : α} {k : Nat} (hk : k < zs.length) (h : p (zs.getD k d) = true) : zs.any p = true := by
  rw [List.any_eq_true]
  refine ⟨zs.getD k d, ?_, h⟩
  rw [List.getD_eq_getElem?_getD, List.getElem?_eq_getElem hk]
  exact List.getElem_mem _
theorem any_of_none {α : Type} {p : α → Bool} {zs : List α} {d : α} (h : ∀ j, j < zs.length → p (zs.getD j d) = false) : zs.any p = false := by
  rw [List.any_eq_false]
  intro x hx
  obtain ⟨j, hj, rfl⟩ := List.getElem_of_mem hx
  have := h j hj
  rw [List.getD_eq_getElem?_getD, List.getElem?_eq_getElem hj] at this
  simpa using this

set_option maxHeartbeats 1000000 in
theorem idxf_str (p : ByteArray → Bool) (g : Nat) (lb : Array Value) (eg : ∀ args w, (callFunc g args).run Tryd.prog w = .ok (.enter g args) w) (A : Option Addr) (c : Nat) (zs : List ByteArray) (w : World)
    (hp : PredB g lb Value.string p w) (hr : Kd.C Kd.string w A zs.length zs) :
    Calls Tryd.prog 77 #[.slice A zs.length c, .func (.func g) #[] lb] w fun e w' => ∃ r : Int, e = .returned (.int .i64 r) ∧ decide (0 ≤ r) = zs.any p ∧ Below w.heap.size w w' := by
  have hm : zs.length ≤ 9223372036854775807 := hr.2.1
  have HR := Aside0.mk hr
  have HP := Aside0.mk hp
  clear hr hp
  go_enter Tryd.func77, Tryd.ntmps77
  go_wp2
  go_loopw [5, 8] (fun v5 v8 wr => ∃ k : Nat, k ≤ zs.length ∧ v8 = .int .i64 k ∧ Aside0 (Below w.heap.size w wr) ∧ Aside0 (∀ j, j < k → p (zs.getD j ByteArray.empty) = false)) (fun _ i _ => zs.length - (intOf i).toNat)
  case atStart => exact ⟨0, Nat.zero_le _, rfl, ⟨Below.refl _ _⟩, ⟨fun j hj => absurd hj (Nat.not_lt_zero _)⟩⟩
  case round =>
    obtain ⟨k, hk, rfl, HB, HN⟩ := hrel
    rcases Nat.lt_or_ge k zs.length with hkl | hkl
    · obtain ⟨x, hx⟩ : ∃ x, x = zs.getD k ByteArray.empty := ⟨_, rfl⟩
      have hrd : ReadsOf Value.string ByteArray.empty wr A zs.length zs := Kd.reads_of_C (Kd.C_below HR.out HB.out)
      obtain ⟨a, rfl, hcs⟩ := hrd.2.2 (by omega)
      have hcell : wr.cell? (a.add k) = some (.string x) := by rw [hx]; exact hcs k hkl
      have HX := Aside0.mk hx
      clear hx hcs hrd
      have hcall := HP.out wr x HB.out
      cases hq : p x with
      | true =>
        rw [hq] at hcall
        go_wp2_with (go_at_fn g; refine hcall.mono ?_; rintro e w' ⟨rfl, hb'⟩)
        go_ret
        refine ⟨_, rfl, ?_, hb'⟩
        rw [any_of_at (d := ByteArray.empty) hkl (by rw [← HX.out]; exact hq)]
        simp
      | false =>
        rw [hq] at hcall
        go_wp2_with (go_at_fn g; refine hcall.mono ?_; rintro e w' ⟨rfl, hb'⟩)
        refine ⟨⟨k + 1, by omega, by go_num, ⟨hb'⟩, ⟨fun j hj => ?_⟩⟩, by simp [intOf]; omega⟩
        rcases Nat.lt_or_ge j k with h1 | h1
        · exact HN.out j h1
        · obtain rfl : j = k := by omega
          rw [← HX.out]; exact hq
    · obtain rfl : k = zs.length := by omega
      go_wp2
      go_ret
      refine ⟨_, rfl, ?_, HB.out⟩
      rw [any_of_none HN.out]
      simp

set_option maxHeartbeats 1000000 in
theorem conf_str (p : ByteArray → Bool) (g : Nat) (lb : Array Value) (eg : ∀ args w, (callFunc g args).run Tryd.prog w = .ok (.enter g args) w) (A : Option Addr) (c : Nat) (zs : List ByteArray) (w : World)
    (hp : PredB g lb Value.string p w) (hr : Kd.C Kd.string w A zs.length zs) :
    Calls Tryd.prog 46 #[.slice A zs.length c, .func (.func g) #[] lb] w fun e w' => e = .returned (.bool (zs.any p)) ∧ Below w.heap.size w w' := by
  have HI := Aside0.mk (idxf_str p g lb eg A c zs w hp hr)
  clear hr hp
  generalize zs.any p = b at HI ⊢
  go_enter Tryd.func46, Tryd.ntmps46
  go_wp2_with (go_at_call 77; refine HI.out.mono ?_; rintro e w' ⟨r, rfl, hr', hb'⟩)
  go_ret
  exact ⟨rfl, hb'⟩

set_option maxHeartbeats 1000000 in
theorem idxf_num (p : Int → Bool) (g : Nat) (lb : Array Value) (eg : ∀ args w, (callFunc g args).run Tryd.prog w = .ok (.enter g args) w) (A : Option Addr) (c : Nat) (zs : List Int) (w : World)
    (hp : PredB g lb (Value.int .u32) p w) (hr : Kd.C (Kd.int .u32) w A zs.length zs) :
    Calls Tryd.prog 96 #[.slice A zs.length c, .func (.func g) #[] lb] w fun e w' => ∃ r : Int, e = .returned (.int .i64 r) ∧ decide (0 ≤ r) = zs.any p ∧ Below w.heap.size w w' := by
  have hm : zs.length ≤ 9223372036854775807 := hr.2.1
  have HR := Aside0.mk hr
  have HP := Aside0.mk hp
  clear hr hp
  go_enter Tryd.func96, Tryd.ntmps96
  go_wp2
  go_loopw [5, 8] (fun v5 v8 wr => ∃ k : Nat, k ≤ zs.length ∧ v8 = .int .i64 k ∧ Aside0 (Below w.heap.size w wr) ∧ Aside0 (∀ j, j < k → p (zs.getD j 0) = false)) (fun _ i _ => zs.length - (intOf i).toNat)
  case atStart => exact ⟨0, Nat.zero_le _, rfl, ⟨Below.refl _ _⟩, ⟨fun j hj => absurd hj (Nat.not_lt_zero _)⟩⟩
  case round =>
    obtain ⟨k, hk, rfl, HB, HN⟩ := hrel
    rcases Nat.lt_or_ge k zs.length with hkl | hkl
    · obtain ⟨x, hx⟩ : ∃ x, x = zs.getD k 0 := ⟨_, rfl⟩
      have hrd : ReadsOf (Value.int .u32) (0 : Int) wr A zs.length zs := Kd.reads_of_C (Kd.C_below HR.out HB.out)
      obtain ⟨a, rfl, hcs⟩ := hrd.2.2 (by omega)
      have hcell : wr.cell? (a.add k) = some (.int .u32 x) := by rw [hx]; exact hcs k hkl
      have HX := Aside0.mk hx
      clear hx hcs hrd
      have hcall := HP.out wr x HB.out
      cases hq : p x with
      | true =>
        rw [hq] at hcall
        go_wp2_with (go_at_fn g; refine hcall.mono ?_; rintro e w' ⟨rfl, hb'⟩)
        go_ret
        refine ⟨_, rfl, ?_, hb'⟩
        rw [any_of_at (d := 0) hkl (by rw [← HX.out]; exact hq)]
        simp
      | false =>
        rw [hq] at hcall
        go_wp2_with (go_at_fn g; refine hcall.mono ?_; rintro e w' ⟨rfl, hb'⟩)
        refine ⟨⟨k + 1, by omega, by go_num, ⟨hb'⟩, ⟨fun j hj => ?_⟩⟩, by simp [intOf]; omega⟩
        rcases Nat.lt_or_ge j k with h1 | h1
        · exact HN.out j h1
        · obtain rfl : j = k := by omega
          rw [← HX.out]; exact hq
    · obtain rfl : k = zs.length := by omega
      go_wp2
      go_ret
      refine ⟨_, rfl, ?_, HB.out⟩
      rw [any_of_none HN.out]
      simp

set_option maxHeartbeats 1000000 in
theorem conf_num (p : Int → Bool) (g : Nat) (lb : Array Value) (eg : ∀ args w, (callFunc g args).run Tryd.prog w = .ok (.enter g args) w) (A : Option Addr) (c : Nat) (zs : List Int) (w : World)
    (hp : PredB g lb (Value.int .u32) p w) (hr : Kd.C (Kd.int .u32) w A zs.length zs) :
    Calls Tryd.prog 74 #[.slice A zs.length c, .func (.func g) #[] lb] w fun e w' => e = .returned (.bool (zs.any p)) ∧ Below w.heap.size w w' := by
  have HI := Aside0.mk (idxf_num p g lb eg A c zs w hp hr)
  clear hr hp
  generalize zs.any p = b at HI ⊢
  go_enter Tryd.func74, Tryd.ntmps74
  go_wp2_with (go_at_call 96; refine HI.out.mono ?_; rintro e w' ⟨r, rfl, hr', hb'⟩)
  go_ret
  exact ⟨rfl, hb'⟩

set_option maxHeartbeats 1000000 in
theorem index_str (A : Option Addr) (c : Nat) (zs : List ByteArray) (x : ByteArray) (w : World) (hr : Kd.C Kd.string w A zs.length zs) :
    Calls Tryd.prog 53 #[.slice A zs.length c, .string x] w fun e w' => e = .returned (.int .i64 (Lib.idxOfS zs x)) ∧ Below w.heap.size w w' := by
  have hm : zs.length ≤ 9223372036854775807 := hr.2.1
  have HR := Aside0.mk hr
  clear hr
  go_enter Tryd.func53, Tryd.ntmps53
  go_wp2
  go_loopw [5, 8] (fun v5 v8 wr => ∃ k : Nat, k ≤ zs.length ∧ v8 = .int .i64 k ∧ Aside0 (Below w.heap.size w wr) ∧ Aside0 (∀ j, j < k → zs.getD j ByteArray.empty ≠ x)) (fun _ i _ => zs.length - (intOf i).toNat)
  case atStart => exact ⟨0, Nat.zero_le _, rfl, ⟨Below.refl _ _⟩, ⟨fun j hj => absurd hj (Nat.not_lt_zero _)⟩⟩
  case round =>
    obtain ⟨k, hk, rfl, HB, HN⟩ := hrel
    rcases Nat.lt_or_ge k zs.length with hkl | hkl
    · obtain ⟨y, hy⟩ : ∃ y, y = zs.getD k ByteArray.empty := ⟨_, rfl⟩
      have hrd : ReadsOf Value.string ByteArray.empty wr A zs.length zs := Kd.reads_of_C (Kd.C_below HR.out HB.out)
      obtain ⟨a, rfl, hcs⟩ := hrd.2.2 (by omega)
      have hcell : wr.cell? (a.add k) = some (.string y) := by rw [hy]; exact hcs k hkl
      have HX := Aside0.mk hy
      clear hy hcs hrd
      by_cases hq : y = x
      · have hb : (x.toList == y.toList) = true := by rw [hq]; simp
        have HQ := Aside0.mk hq
        clear hq
        go_wp2
        go_ret
        refine ⟨?_, HB.out⟩
        have := Lib.idxOfS_hit zs zs.length k x hkl (Nat.le_refl _) (by rw [← HX.out]; exact HQ.out) HN.out
        rw [List.take_length] at this
        rw [this]
        rfl
      · have hb : (x.toList == y.toList) = false := by
          rw [beq_eq_false_iff_ne]
          intro e
          rw [Lib.toList_data, Lib.toList_data] at e
          exact hq (by cases y; cases x; simp_all)
        have HQ := Aside0.mk hq
        clear hq
        go_wp2
        refine ⟨⟨k + 1, by omega, by go_num, ⟨HB.out⟩, ⟨fun j hj => ?_⟩⟩, by simp [intOf]; omega⟩
        rcases Nat.lt_or_ge j k with h1 | h1
        · exact HN.out j h1
        · obtain rfl : j = k := by omega
          rw [← HX.out]; exact HQ.out
    · obtain rfl : k = zs.length := by omega
      go_wp2
      go_ret
      refine ⟨?_, HB.out⟩
      have := Lib.idxOfS_miss zs zs.length x HN.out
      rw [List.take_length] at this
      rw [this]
      rfl
end Go.Proofs.YtfdemglcjfdodaaDoor.N
