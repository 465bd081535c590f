/-
  Contracts of lex.Line, lex.Number, lex.Write, strings.Split and what they call, in the form that the printed callers ask.
-/
import Derived.Test.YtfdemglcjfdodaaDoorQ0
import Derived.Test.YtfdemglcjfdodaaDoorShelf
import Derived.Test.YtfdemglcjfdodaaDoorGlob
import Derived.WalkMore
import Derived.Deep.RegionWith
import Derived.WalkLawsBesides
namespace Go.Proofs.YtfdemglcjfdodaaDoor.Q
open Go.RowKit Go.Proofs.YtfdemglcjfdodaaDoorW.PrintWords Go.Proofs.YtfdemglcjfdodaaDoorW.PrintLast Go.Proofs.YtfdemglcjfdodaaDoorW.PrintMore
set_option linter.unusedVariables false

/-- A copy of bytes, nil or not. -/
theorem clone_any (A : Option Addr) (n c : Nat) (l : List Int) (w : World) (hn : l.length = n) (hr : Kd.C (Kd.int .u8) w A n l) (hl : n ≤ 140737488355328) :
    Calls Tryd.prog 57 #[.slice A n c] w fun e w' => ∃ v : Value, e = .returned v ∧ Kd.R (Kd.int .u8) 5 w' w.heap.size (fun _ => True) v l ∧ Below w.heap.size w w' := by
  subst hn
  have hrd : ReadsOf (Value.int .u8) (0 : Int) w A l.length l := Kd.reads_of_C hr
  cases A with
  | none =>
    have h0 : l = [] := by
      rcases Nat.eq_zero_or_pos l.length with h | h
      · exact List.eq_nil_of_length_eq_zero h
      · obtain ⟨ad, he, _⟩ := hrd.2.2 h
        cases he
    subst h0
    refine (Tryd.bytes_Clone_nil _ c w).mono ?_
    rintro e w' ⟨rfl, rfl⟩
    exact ⟨_, rfl, Kd.R_nil _ _ _ _ _, Below.refl _ _⟩
  | some a =>
    refine (Tryd.bytes_Clone_at a l.length c l w rfl hl ?_).mono ?_
    · intro i hi
      obtain ⟨ad, he, hc⟩ := hrd.2.2 (by omega)
      obtain rfl := Option.some.inj he
      exact hc i hi
    · rintro e w' ⟨v, rfl, ho, _, hb⟩
      exact ⟨v, rfl, Kd.R_of_own ho (fun _ _ => trivial), hb⟩

def lex_Line.f (l0 : List Int) : Option (List Int × List Int × Int) :=
  if l0.length ≤ 140737488355328 then (if l0.findIdx (· == 10) < l0.length then some (l0.take (l0.findIdx (· == 10)), l0.drop (l0.findIdx (· == 10) + 1), 0) else some ([], [], 4)) else none


theorem findIdx_lt {l : List Int} {k : Nat} (h : k < l.findIdx (· == 10)) : (l.getD k 0 == 10) = false := by
  have h1 := List.not_of_lt_findIdx h
  have hk : k < l.length := Nat.lt_of_lt_of_le h List.findIdx_le_length
  simpa [List.getD_eq_getElem?_getD, List.getElem?_eq_getElem hk] using h1
theorem findIdx_at {l : List Int} (h : l.findIdx (· == 10) < l.length) : (l.getD (l.findIdx (· == 10)) 0 == 10) = true := by
  have h1 := List.findIdx_getElem (w := h)
  simpa [List.getD_eq_getElem?_getD, List.getElem?_eq_getElem h] using h1

set_option maxHeartbeats 400000 in
theorem line_found (a : Addr) (c0 n : Nat) (l0 : List Int) (w : World) (hr0 : Kd.C (Kd.int .u8) w (some a) l0.length l0) (hc0 : l0.length ≤ c0) (hl : l0.length ≤ 140737488355328) (hn : l0.findIdx (· == 10) = n) (hlt : n < l0.length) :
    Calls Tryd.prog 20 #[.slice (some a) l0.length c0] w fun e w' => ∃ v0_ v1_ : Value, e = .returned (.tuple #[v0_, v1_, .int .i64 0]) ∧ Kd.R (Kd.int .u8) 5 w' w.heap.size (fun k_ => some k_ ≠ (v1_ : Value).ownBlock) v0_ (l0.take n) ∧ Kd.R (Kd.int .u8) 5 w' w.heap.size (fun k_ => some k_ ≠ (v0_ : Value).ownBlock) v1_ (l0.drop (n + 1)) ∧ Below w.heap.size w w' := by
  have hrd : ReadsOf (Value.int .u8) (0 : Int) w (some a) l0.length l0 := Kd.reads_of_C hr0
  have HR := Aside0.mk hr0
  have HN := Aside0.mk hn
  have HC := Aside0.mk hrd
  clear hn hr0 hrd
  go_enter Tryd.func20, Tryd.ntmps20
  go_wp2
  go_step3
  go_wp2
  go_step3
  go_wp2
  go_loop [5, 10] (fun v5 v10 => ∃ k : Nat, k ≤ n ∧ v5 = .int .i64 (-1) ∧ v10 = .int .i64 k) (fun _ i => l0.length - (intOf i).toNat)
  case atStart => exact ⟨0, Nat.zero_le _, rfl, rfl⟩
  case round =>
    obtain ⟨k, hk, rfl, rfl⟩ := hrel
    have hkl : k < l0.length := by omega
    obtain ⟨x, hx⟩ : ∃ x, x = l0.getD k 0 := ⟨_, rfl⟩
    have hcell : w.cell? (a.add k) = some (.int .u8 x) := by
      obtain ⟨ad, he, hc⟩ := HC.out.2.2 (by omega)
      obtain rfl := Option.some.inj he
      rw [hx]; exact hc k hkl
    rcases Nat.lt_or_ge k n with hkn | hkn
    · have hb : (x == 10) = false := by rw [hx]; exact findIdx_lt (by rw [HN.out]; exact hkn)
      clear hx
      go_wp2
      exact ⟨⟨k + 1, by omega, rfl, by go_num⟩, by simp [intOf]; omega⟩
    · obtain rfl : k = n := by omega
      have hb : (x == 10) = true := by rw [hx]; have h1 := HN.out; subst h1; exact findIdx_at hlt
      clear hx
      obtain ⟨i0, hi0, _, hsz, _⟩ := info_parts info5
      have hcut1 : ∀ W : World, (Instr.slice 43 (.slice (some a) l0.length c0) none (some (.int .i64 k)) (some (.int .i64 k))).run Tryd.prog W = .ok (.slice (some a) k k) W := fun W => by
        rw [run_slice_hm W 43 (some a) l0.length c0 (by kernel_rfl) .i64 .i64 k k (by omega) (Int.le_refl _) (by omega)]
        have hel : Tryd.prog.elem 43 = 5 := by kernel_rfl
        simp [sizeOf, typeInfo, hel, hi0, sliced, Result.andThen, Addr.add]
      obtain ⟨A1, hA1⟩ : ∃ A1, A1 = (if c0 = k + 1 then some a else (some a).map (·.add ((k + 1) * 1))) := ⟨_, rfl⟩
      have hcut2 : ∀ W : World, (Instr.slice 43 (.slice (some a) l0.length c0) (some (.int .i64 ((k : Int) + 1))) none none).run Tryd.prog W = .ok (.slice A1 (l0.length - (k + 1)) (c0 - (k + 1))) W := fun W => by
        rw [cut_from (P := Tryd.prog) 43 5 .i64 Tryd.underlying43 hi0 1 hsz (some a) l0.length c0 ((k : Int) + 1) (by omega) (by omega), hA1]
        rfl
      have h1 : Kd.C (Kd.int .u8) w (some a) k (l0.take k) := by
        have := Kd.C_take (m := k) HR.out (by omega)
        rw [List.length_take, Nat.min_eq_left (by omega)] at this
        exact this
      have h2 : Kd.C (Kd.int .u8) w A1 (l0.length - (k + 1)) (l0.drop (k + 1)) := by
        have := Kd.C_drop (m := k + 1) HR.out (by omega) hc0
        rw [List.length_drop] at this
        rw [hA1]
        exact this
      have H1 := Aside0.mk h1
      have H2 := Aside0.mk h2
      clear h1 h2
      clear hi0 hsz hA1
      have hwr : IntKind.i64.wrap ((k : Int) + 1) = (k : Int) + 1 := IntWalk.i64_in _ (by omega)
      go_wp2
      go_region_with (first
        | ((with_reducible refine (clone_any (some a) k k (l0.take k) _ (by simp; omega) (Kd.C_drew H1.out) (by omega)).mono ?_); rintro e w1 ⟨v0, rfl, ho0, hb0⟩; have HO0 := Aside0.mk ho0; have HB0 := Aside0.mk hb0; clear ho0 hb0)
        | ((with_reducible refine (clone_any A1 (l0.length - (k + 1)) (c0 - (k + 1)) (l0.drop (k + 1)) _ (by simp) (Kd.C_below (Kd.C_drew H2.out) HB0.out) (by omega)).mono ?_); rintro e w2 ⟨v1, rfl, ho1, hb1⟩; have HO1 := Aside0.mk ho1; have HB1 := Aside0.mk hb1; clear ho1 hb1))
      go_wp2
      rw [Exit.noGoto_ret]
      go_ret3
      refine ⟨_, _, rfl, ?_, ?_, ?_⟩
      · exact Kd.R_mono (Kd.R_elder HO0.out HO1.out HB1.out) (fun k_ hk => hk.2)
      · exact Kd.R_lower (Kd.R_mono (Kd.R_newR HO1.out HO0.out) (fun k_ hk => hk.2)) HB0.out.size
      · exact (Below.trans (below_drew (Below.refl w.heap.size w)) HB0.out).trans (HB1.out.mono HB0.out.size)

set_option maxHeartbeats 400000 in
theorem line_none (A : Option Addr) (c0 : Nat) (l0 : List Int) (w : World) (hr0 : Kd.C (Kd.int .u8) w A l0.length l0) (hl : l0.length ≤ 140737488355328) (hn : ¬ l0.findIdx (· == 10) < l0.length) :
    Calls Tryd.prog 20 #[.slice A l0.length c0] w fun e w' => e = .returned (.tuple #[.slice none 0 0, .slice none 0 0, .int .i64 4]) ∧ w = w' := by
  have hrd : ReadsOf (Value.int .u8) (0 : Int) w A l0.length l0 := Kd.reads_of_C hr0
  have HN := Aside0.mk hn
  have HC := Aside0.mk hrd
  clear hn hr0 hrd
  go_enter Tryd.func20, Tryd.ntmps20
  go_wp2
  go_step3
  go_wp2
  go_step3
  go_wp2
  go_loop [5, 10] (fun v5 v10 => ∃ k : Nat, k ≤ l0.length ∧ v5 = .int .i64 (-1) ∧ v10 = .int .i64 k) (fun _ i => l0.length - (intOf i).toNat)
  case atStart => exact ⟨0, Nat.zero_le _, rfl, rfl⟩
  case round =>
    obtain ⟨k, hk, rfl, rfl⟩ := hrel
    rcases Nat.lt_or_ge k l0.length with hkl | hkl
    · obtain ⟨x, hx⟩ : ∃ x, x = l0.getD k 0 := ⟨_, rfl⟩
      obtain ⟨a, rfl, hcs⟩ := HC.out.2.2 (by omega)
      have hcell : w.cell? (a.add k) = some (.int .u8 x) := by rw [hx]; exact hcs k hkl
      have hb : (x == 10) = false := by rw [hx]; exact findIdx_lt (by have := HN.out; omega)
      clear hx hcs
      go_wp2
      exact ⟨⟨k + 1, by omega, rfl, by go_num⟩, by simp [intOf]; omega⟩
    · go_wp2
      go_ret3
      exact ⟨rfl, rfl⟩

theorem lex_Line.calls (A0 : Option Addr) (c0 : Nat) (l0 : List Int) (r1 : List Int) (r2 : List Int) (r3 : Int) (w : World) (hr0 : Kd.C (Kd.int .u8) w A0 l0.length l0) (hc0 : l0.length ≤ c0) (h : lex_Line.f l0 = some (r1, r2, r3)) :
    Calls Tryd.prog 20 #[.slice A0 l0.length c0] w fun e w' => ∃ v0_ v1_ : Value, e = .returned (.tuple #[v0_, v1_, .int .i64 r3]) ∧ Kd.R (Kd.int .u8) 5 w' w.heap.size (fun k_ => some k_ ≠ (v1_ : Value).ownBlock) v0_ r1 ∧ Kd.R (Kd.int .u8) 5 w' w.heap.size (fun k_ => some k_ ≠ (v0_ : Value).ownBlock) v1_ r2 ∧ Below w.heap.size w w' := by
  unfold lex_Line.f at h
  by_cases hl : l0.length ≤ 140737488355328
  · rw [if_pos hl] at h
    by_cases hn : l0.findIdx (· == 10) < l0.length
    · rw [if_pos hn] at h
      simp only [Option.some.injEq, Prod.mk.injEq] at h
      obtain ⟨rfl, rfl, rfl⟩ := h
      obtain ⟨a, rfl, _⟩ := (show ReadsOf (Value.int .u8) (0 : Int) w A0 l0.length l0 from Kd.reads_of_C hr0).2.2 (by omega)
      exact line_found a c0 _ l0 w hr0 hc0 hl rfl hn
    · rw [if_neg hn] at h
      simp only [Option.some.injEq, Prod.mk.injEq] at h
      obtain ⟨rfl, rfl, rfl⟩ := h
      refine (line_none A0 c0 l0 w hr0 hl hn).mono ?_
      rintro e w' ⟨rfl, rfl⟩
      exact ⟨_, _, rfl, Kd.R_nil _ _ _ _ _, Kd.R_nil _ _ _ _ _, Below.refl _ _⟩
  · rw [if_neg hl] at h
    cases h


def strings_Split.f (a0 : ByteArray) (a1 : ByteArray) : Option (List ByteArray) :=
  if a0.size < 4294967281 ∧ 1 ≤ a1.size then some (Lib.splitB a1 0 (Lib.countB a0 a1) a0) else none
theorem strings_Split.calls (a0 : ByteArray) (a1 : ByteArray) (r : List ByteArray) (w : World) (hG : Glob w) (h : strings_Split.f a0 a1 = some r) :
    Calls Tryd.prog 58 #[.string a0, .string a1] w fun e w' => ∃ v0_ : Value, e = .returned (v0_) ∧ Kd.R Kd.string 9 w' w.heap.size (fun _ => True) v0_ r ∧ Below w.heap.size w w' := by
  unfold strings_Split.f at h
  by_cases hc : a0.size < 4294967281 ∧ 1 ≤ a1.size
  · rw [if_pos hc] at h
    obtain rfl := Option.some.inj h
    obtain ⟨m, hm⟩ := hG.maxlen
    have hlen := Lib.splitB_all a1 hc.2 0 _ a0 rfl
    have hle := Lib.countB_le a1 hc.2 a0.size a0 (Nat.le_refl _)
    refine (Tryd.strings_Split a0 a1 m w hc.1 hm hc.2).mono ?_
    rintro e w' ⟨rfl, rfl⟩
    have ho := own_lit_of (enc := Value.string) w w.heap.size 9 (Lib.splitB a1 0 (Lib.countB a0 a1) a0) (Nat.le_refl _) (by omega)
    rw [hlen] at ho
    exact ⟨_, rfl, Kd.R_of_own (by rw [hlen]; exact ho) (fun _ _ => trivial), (Below.refl _ _).alloc (Nat.le_refl _) _⟩
  · rw [if_neg hc] at h
    cases h

def digitsSet : ByteArray := ⟨#[48, 49, 50, 51, 52, 53, 54, 55, 56, 57]⟩
def lex_Number.f (a0 : ByteArray) (a1 : Int) : Option (Int × Int) :=
  if a0.size ≤ 281474976710656 then
    (if a0.size = 0 then some (0, 5) else if 1 < a0.size ∧ bt a0 0 = 48 then some (0, 5) else
     if Lib.trimS a0.data.toList digitsSet.data.toList = [] then
      (match Lib.parseUintB 32 a0.data.toList with
       | .ok u => if (u : Int) ≤ a1 then some ((u : Int), 0) else some (0, 3)
       | _ => some (0, 3))
     else some (0, 5))
  else none

set_option maxHeartbeats 400000 in
theorem number_empty (a0 : ByteArray) (a1 : Int) (w : World) (h : a0.toList.isEmpty = true) :
    Calls Tryd.prog 26 #[.string a0, .int .u32 a1] w fun e w' => e = .returned (.tuple #[.int .u32 0, .int .i64 5]) ∧ w = w' := by
  go_enter Tryd.func26, Tryd.ntmps26
  go_wp2_with fail
  go_ret2
  exact ⟨rfl, rfl⟩
set_option maxHeartbeats 400000 in
theorem number_zero (a0 : ByteArray) (a1 : Int) (w : World) (h : a0.toList.isEmpty = false) (h0 : 0 < a0.size) (h1 : 1 < a0.size) (h2 : (((a0[0]'h0).toNat : Int) == 48) = true) :
    Calls Tryd.prog 26 #[.string a0, .int .u32 a1] w fun e w' => e = .returned (.tuple #[.int .u32 0, .int .i64 5]) ∧ w = w' := by
  go_enter Tryd.func26, Tryd.ntmps26
  go_wp2_with fail
  go_ret2
  exact ⟨rfl, rfl⟩

theorem ba_eta (t : ByteArray) : (⟨t.data.toList.toArray⟩ : ByteArray) = t := by simp
/-- No zero ahead: one byte, or another first one. -/
def NoZero (a0 : ByteArray) : Prop := (decide ((1 : Int) < (a0.size : Int)) = false) ∨ (decide ((1 : Int) < (a0.size : Int)) = true ∧ ∃ h0 : 0 < a0.size, (((a0[0]'h0).toNat : Int) == 48) = false)

set_option maxHeartbeats 400000 in
theorem number_trim (a0 t : ByteArray) (a1 : Int) (w : World) (h : a0.toList.isEmpty = false) (h0 : 0 < a0.size) (hz : NoZero a0) (hs : a0.size ≤ 281474976710656)
    (ht : Lib.trimS a0.data.toList digitsSet.data.toList = t.data.toList) (hte : t.toList.isEmpty = false) :
    Calls Tryd.prog 26 #[.string a0, .int .u32 a1] w fun e w' => e = .returned (.tuple #[.int .u32 0, .int .i64 5]) ∧ Below w.heap.size w w' := by
  have HT := Aside0.mk ht
  clear ht
  rcases hz with hz | ⟨hz, _, hz2⟩
  · go_enter Tryd.func26, Tryd.ntmps26
    go_wp2_with fail
    refine (Tryd.strings_Trim_laid a0 digitsSet _ (by omega) (by decide) (ascii_of_all (by decide))).mono ?_
    rintro e w1 ⟨rfl, hb⟩
    rw [HT.out, ba_eta]
    go_wp2_with fail
    go_ret2
    exact ⟨rfl, hb⟩
  · go_enter Tryd.func26, Tryd.ntmps26
    go_wp2_with fail
    refine (Tryd.strings_Trim_laid a0 digitsSet _ (by omega) (by decide) (ascii_of_all (by decide))).mono ?_
    rintro e w1 ⟨rfl, hb⟩
    rw [HT.out, ba_eta]
    go_wp2_with fail
    go_ret2
    exact ⟨rfl, hb⟩
set_option maxHeartbeats 1000000 in
theorem number_ok (a0 : ByteArray) (a1 : Int) (w : World) (h : a0.toList.isEmpty = false) (h0 : 0 < a0.size) (hz : NoZero a0) (hs : a0.size ≤ 281474976710656)
    (ht : Lib.trimS a0.data.toList digitsSet.data.toList = []) (u : Nat) (hu : Lib.parseUintB 32 a0.data.toList = .ok u) (hub : u < 4294967296) (hua : (u : Int) ≤ a1) :
    Calls Tryd.prog 26 #[.string a0, .int .u32 a1] w fun e w' => e = .returned (.tuple #[.int .u32 u, .int .i64 0]) ∧ Below w.heap.size w w' := by
  have HT := Aside0.mk ht
  have HU := Aside0.mk hu
  have hwr : IntKind.u32.wrap (u : Int) = u := by simp [IntKind.wrap, IntKind.signed, IntKind.bits]; omega
  clear ht hu
  rcases hz with hz | ⟨hz, _, hz2⟩
  all_goals
    go_enter Tryd.func26, Tryd.ntmps26
    go_wp2_with fail
    refine (Tryd.strings_Trim_laid a0 digitsSet _ (by omega) (by decide) (ascii_of_all (by decide))).mono ?_
    rintro e w1 ⟨rfl, hb⟩
    rw [HT.out]
    go_wp2_with fail
    refine (Tryd.strconv_ParseUint_10_at32_ok a0 (by omega) u HU.out _).mono ?_
    rintro e w2 ⟨rfl, hw2⟩
    have HB : Aside0 (Below w.heap.size w w2) := by
      refine ⟨?_⟩
      rcases hw2 with rfl | rfl
      · exact hb
      · exact bytes_below hb hb.size 5 a0
    clear hb hw2
    go_wp2_with fail
    go_ret2
    exact ⟨rfl, HB.out⟩

set_option maxHeartbeats 1000000 in
theorem number_big (a0 : ByteArray) (a1 : Int) (w : World) (h : a0.toList.isEmpty = false) (h0 : 0 < a0.size) (hz : NoZero a0) (hs : a0.size ≤ 281474976710656)
    (ht : Lib.trimS a0.data.toList digitsSet.data.toList = []) (u : Nat) (hu : Lib.parseUintB 32 a0.data.toList = .ok u) (hub : u < 4294967296) (hua : a1 < (u : Int)) :
    Calls Tryd.prog 26 #[.string a0, .int .u32 a1] w fun e w' => e = .returned (.tuple #[.int .u32 0, .int .i64 3]) ∧ Below w.heap.size w w' := by
  have HT := Aside0.mk ht
  have HU := Aside0.mk hu
  have hwr : IntKind.u32.wrap (u : Int) = u := by simp [IntKind.wrap, IntKind.signed, IntKind.bits]; omega
  clear ht hu
  rcases hz with hz | ⟨hz, _, hz2⟩
  all_goals
    go_enter Tryd.func26, Tryd.ntmps26
    go_wp2_with fail
    refine (Tryd.strings_Trim_laid a0 digitsSet _ (by omega) (by decide) (ascii_of_all (by decide))).mono ?_
    rintro e w1 ⟨rfl, hb⟩
    rw [HT.out]
    go_wp2_with fail
    refine (Tryd.strconv_ParseUint_10_at32_ok a0 (by omega) u HU.out _).mono ?_
    rintro e w2 ⟨rfl, hw2⟩
    have HB : Aside0 (Below w.heap.size w w2) := by
      refine ⟨?_⟩
      rcases hw2 with rfl | rfl
      · exact hb
      · exact bytes_below hb hb.size 5 a0
    clear hb hw2
    go_wp2_with fail
    go_ret2
    exact ⟨rfl, HB.out⟩

set_option maxHeartbeats 1000000 in
theorem number_syntax (a0 : ByteArray) (a1 : Int) (w : World) (h : a0.toList.isEmpty = false) (h0 : 0 < a0.size) (hz : NoZero a0) (hs : a0.size ≤ 281474976710656)
    (ht : Lib.trimS a0.data.toList digitsSet.data.toList = []) (hG : Glob w) (hu : Lib.parseUintB 32 a0.data.toList = Tryd.noNum) :
    Calls Tryd.prog 26 #[.string a0, .int .u32 a1] w fun e w' => e = .returned (.tuple #[.int .u32 0, .int .i64 3]) ∧ Below w.heap.size w w' := by
  have HT := Aside0.mk ht
  have HU := Aside0.mk hu
  have HG := Aside0.mk hG
  clear ht hu hG
  rcases hz with hz | ⟨hz, _, hz2⟩
  all_goals
    go_enter Tryd.func26, Tryd.ntmps26
    go_wp2_with fail
    refine (Tryd.strings_Trim_laid a0 digitsSet _ (by omega) (by decide) (ascii_of_all (by decide))).mono ?_
    rintro e w1 ⟨rfl, hb⟩
    rw [HT.out]
    go_wp2_with fail
    obtain ⟨te, pe, hv⟩ := (Glob.below HG.out hb).syn
    refine (Tryd.strconv_ParseUint_10_at32_syntax a0 hs HU.out _ _ hv (Or.inr ⟨te, pe, rfl⟩)).mono ?_
    rintro e w2 ⟨N, rfl, _, _, hb2⟩
    have HB := Aside0.mk (below_then hb hb.size hb2)
    clear hb hb2 hv
    go_wp2_with fail
    go_ret2
    exact ⟨rfl, HB.out⟩

set_option maxHeartbeats 1000000 in
theorem number_range (a0 : ByteArray) (a1 : Int) (w : World) (h : a0.toList.isEmpty = false) (h0 : 0 < a0.size) (hz : NoZero a0) (hs : a0.size ≤ 281474976710656)
    (ht : Lib.trimS a0.data.toList digitsSet.data.toList = []) (hG : Glob w) (hu : Lib.parseUintB 32 a0.data.toList = .range) :
    Calls Tryd.prog 26 #[.string a0, .int .u32 a1] w fun e w' => e = .returned (.tuple #[.int .u32 0, .int .i64 3]) ∧ Below w.heap.size w w' := by
  have HT := Aside0.mk ht
  have HU := Aside0.mk hu
  have HG := Aside0.mk hG
  clear ht hu hG
  rcases hz with hz | ⟨hz, _, hz2⟩
  all_goals
    go_enter Tryd.func26, Tryd.ntmps26
    go_wp2_with fail
    refine (Tryd.strings_Trim_laid a0 digitsSet _ (by omega) (by decide) (ascii_of_all (by decide))).mono ?_
    rintro e w1 ⟨rfl, hb⟩
    rw [HT.out]
    go_wp2_with fail
    obtain ⟨te, pe, hv⟩ := (Glob.below HG.out hb).rng
    refine (Tryd.strconv_ParseUint_10_at32_range a0 hs HU.out _ _ hv (Or.inr ⟨te, pe, rfl⟩)).mono ?_
    rintro e w2 ⟨N, rfl, _, _, hb2⟩
    have HB := Aside0.mk (below_then hb hb.size hb2)
    clear hb hb2 hv
    go_wp2_with fail
    go_ret2
    exact ⟨rfl, HB.out⟩

theorem parseUintM_le (M : Nat) : ∀ (l : List UInt8) (acc u : Nat), acc ≤ M → Lib.parseUintM M acc l = .ok u → u ≤ M
  | [], acc, u, ha, h => by
    simp only [Lib.parseUintM] at h
    cases h
    exact ha
  | c :: r, acc, u, ha, h => by
    simp only [Lib.parseUintM] at h
    split at h
    · split at h
      · cases h
      · split at h
        · cases h
        · exact parseUintM_le M r _ u (by omega) h
    · cases h
theorem isEmpty_of {a : ByteArray} : a.toList.isEmpty = decide (a.size = 0) := by
  rw [Lib.toList_data, Bool.eq_iff_iff, List.isEmpty_iff, decide_eq_true_iff, ← data_length]
  exact List.length_eq_zero_iff.symm

theorem lex_Number.calls (a0 : ByteArray) (a1 : Int) (r1 : Int) (r2 : Int) (w : World) (hG : Glob w) (h : lex_Number.f a0 a1 = some (r1, r2)) :
    Calls Tryd.prog 26 #[.string a0, .int .u32 a1] w fun e w' => e = .returned (.tuple #[.int .u32 r1, .int .i64 r2]) ∧ Below w.heap.size w w' := by
  unfold lex_Number.f at h
  by_cases hs : a0.size ≤ 281474976710656
  · rw [if_pos hs] at h
    by_cases h0 : a0.size = 0
    · rw [if_pos h0] at h
      simp only [Option.some.injEq, Prod.mk.injEq] at h
      obtain ⟨rfl, rfl⟩ := h
      refine (number_empty a0 a1 w (by rw [isEmpty_of]; simpa using h0)).mono ?_
      rintro e w' ⟨rfl, rfl⟩
      exact ⟨rfl, Below.refl _ _⟩
    · rw [if_neg h0] at h
      have he : a0.toList.isEmpty = false := by rw [isEmpty_of]; simpa using h0
      have hp : 0 < a0.size := by omega
      have hb : ((a0[0]'hp).toNat : Int) = bt a0 0 := bt_at a0 0 hp
      by_cases hz : 1 < a0.size ∧ bt a0 0 = 48
      · rw [if_pos hz] at h
        simp only [Option.some.injEq, Prod.mk.injEq] at h
        obtain ⟨rfl, rfl⟩ := h
        refine (number_zero a0 a1 w he hp hz.1 (by rw [hb, hz.2]; rfl)).mono ?_
        rintro e w' ⟨rfl, rfl⟩
        exact ⟨rfl, Below.refl _ _⟩
      · rw [if_neg hz] at h
        have hnz : NoZero a0 := by
          by_cases h1 : 1 < a0.size
          · exact .inr ⟨by simp; omega, hp, by rw [hb]; exact beq_eq_false_iff_ne.2 (fun e => hz ⟨h1, e⟩)⟩
          · exact .inl (by simp; omega)
        by_cases ht : Lib.trimS a0.data.toList digitsSet.data.toList = []
        · rw [if_pos ht] at h
          rcases hu : Lib.parseUintB 32 a0.data.toList with u | _ | _
          · skip
            rw [hu] at h
            simp only at h
            have hub : u ≤ 4294967295 := by
              unfold Lib.parseUintB at hu
              split at hu
              · cases hu
              · exact parseUintM_le _ _ 0 u (by omega) hu
            by_cases hua : (u : Int) ≤ a1
            · rw [if_pos hua] at h
              simp only [Option.some.injEq, Prod.mk.injEq] at h
              obtain ⟨rfl, rfl⟩ := h
              exact number_ok a0 a1 w he hp hnz hs ht u hu (by omega) hua
            · rw [if_neg hua] at h
              simp only [Option.some.injEq, Prod.mk.injEq] at h
              obtain ⟨rfl, rfl⟩ := h
              exact number_big a0 a1 w he hp hnz hs ht u hu (by omega) (by omega)
          · skip
            rw [hu] at h
            simp only [Option.some.injEq, Prod.mk.injEq] at h
            obtain ⟨rfl, rfl⟩ := h
            exact number_syntax a0 a1 w he hp hnz hs ht hG hu
          · skip
            rw [hu] at h
            simp only [Option.some.injEq, Prod.mk.injEq] at h
            obtain ⟨rfl, rfl⟩ := h
            exact number_range a0 a1 w he hp hnz hs ht hG hu
        · rw [if_neg ht] at h
          simp only [Option.some.injEq, Prod.mk.injEq] at h
          obtain ⟨rfl, rfl⟩ := h
          refine number_trim a0 ⟨(Lib.trimS a0.data.toList digitsSet.data.toList).toArray⟩ a1 w he hp hnz hs (by simp) ?_
          rw [isEmpty_of, decide_eq_false_iff_not]
          intro e
          apply ht
          have : (Lib.trimS a0.data.toList digitsSet.data.toList).length = 0 := by simpa [ByteArray.size] using e
          exact List.eq_nil_of_length_eq_zero this
  · rw [if_neg hs] at h
    cases h


/-- A number's digits. -/
def numText (n : Int) : List Int := (Lib.decDigits n.toNat).map fun b => (b.toNat : Int)
/-- Numbers, a blank between two. -/
def joinNums : List Int → List Int
  | [] => []
  | x :: r => numText x ++ r.flatMap (fun y => 32 :: numText y)
theorem joinNums_snoc (xs : List Int) (y : Int) : joinNums (xs ++ [y]) = joinNums xs ++ (if xs = [] then [] else [32]) ++ numText y := by
  cases xs with
  | nil => simp [joinNums]
  | cons x r => simp [joinNums]
theorem nums_byteCells (u : Nat) : Lib.byteCells (Lib.decDigits u) = nums .u8 (numText (u : Int)) := by
  simp [Lib.byteCells, nums, numText]
theorem numText_length (u : Nat) : (numText (u : Int)).length = (Lib.decDigits u).length := by simp [numText]
theorem decDigits_le : ∀ (n u : Nat), u < 10 ^ (n + 1) → (Lib.decDigits u).length ≤ n + 1
  | 0, u, h => by
    rw [Lib.decDigits, dif_pos (by simpa using h)]
    simp
  | n + 1, u, h => by
    rw [Lib.decDigits]
    split
    · simp
    · have := decDigits_le n (u / 10) (by rw [Nat.div_lt_iff_lt_mul (by decide)]; rw [Nat.pow_succ] at h; exact h)
      simp
      omega
theorem numText_le (u : Nat) (h : u < 18446744073709551616) : (numText (u : Int)).length ≤ 20 := by
  rw [numText_length]
  exact decDigits_le 19 u (by have : (10:Nat) ^ 20 = 100000000000000000000 := by decide
                              omega)

set_option maxHeartbeats 400000 in
theorem append_uint (B : Nat) (u : Nat) (hu : u < 18446744073709551616) (sv : Value) (xs : List Int) (w : World) (hown : w.ownsRow B 5 1 sv xs.length (nums .u8 xs)) (hBw : B ≤ w.heap.size) (hlim : xs.length + 20 ≤ 140737488355328) (hG : Glob w) :
    Calls Tryd.prog 61 #[sv, .int .u64 u, .int .i64 10] w fun e w' => ∃ v', e = .returned v' ∧ w'.ownsRow B 5 1 v' (xs ++ numText u).length (nums .u8 (xs ++ numText u)) ∧ Below B w w' := by
  have HO := Aside0.mk hown
  have HG := Aside0.mk hG
  clear hown hG
  go_enter Tryd.func61, Tryd.ntmps61
  go_wp2_with (go_at_call 91; refine (Tryd.internal_strconv_AppendUint_10 B xs.length u hu sv (nums .u8 xs) _ HO.out hBw hlim HG.out.pow10).mono ?_; rintro e w' ⟨v', rfl, ho, hb, _⟩; have HO2 := Aside0.mk ho; have HB2 := Aside0.mk hb; clear ho hb)
  go_ret
  refine ⟨_, rfl, ?_, HB2.out⟩
  have := HO2.out
  rw [nums_byteCells, ← nums_append] at this
  rw [List.length_append, numText_length]
  exact this

def lex_Write.f (l0 : List Int) (l1 : List Int) : Option (List Int) :=
  if l0.length + 21 * l1.length + 100 ≤ 140737488355328 ∧ (∀ x ∈ l1, 0 ≤ x ∧ x < 4294967296) then some (l0 ++ joinNums l1 ++ [10]) else none

theorem joinNums_le : ∀ (l : List Int), (∀ x ∈ l, 0 ≤ x ∧ x < 4294967296) → (joinNums l).length ≤ 21 * l.length
  | [], _ => by simp [joinNums]
  | x :: r, h => by
    have hx := h x (by simp)
    have h1 : (numText x).length ≤ 20 := by
      have := numText_le x.toNat (by omega)
      rwa [Int.toNat_of_nonneg hx.1] at this
    have h2 : ∀ (r : List Int), (∀ x ∈ r, 0 ≤ x ∧ x < 4294967296) → (r.flatMap (fun y => 32 :: numText y)).length ≤ 21 * r.length := by
      intro r
      induction r with
      | nil => intro _; simp
      | cons y r ih =>
        intro h
        have hy := h y (by simp)
        have h1 : (numText y).length ≤ 20 := by
          have := numText_le y.toNat (by omega)
          rwa [Int.toNat_of_nonneg hy.1] at this
        have := ih (fun z hz => h z (by simp [hz]))
        simp only [List.flatMap_cons, List.length_append, List.length_cons]
        omega
    have := h2 r (fun z hz => h z (by simp [hz]))
    simp only [joinNums, List.length_append, List.length_cons]
    omega

theorem u32_u64 (x : Int) (h : 0 ≤ x ∧ x < 4294967296) : IntKind.u64.wrap x = x := by simp [IntKind.wrap, IntKind.signed, IntKind.bits]; omega

set_option maxHeartbeats 1000000 in
set_option maxRecDepth 100000 in
theorem lex_Write.calls (A0 : Option Addr) (c0 : Nat) (l0 : List Int) (A1 : Option Addr) (c1 : Nat) (l1 : List Int) (r : List Int) (w : World) (hr0 : Kd.C (Kd.int .u8) w A0 l0.length l0) (hc0 : l0.length ≤ c0) (hr1 : Kd.C (Kd.int .u32) w A1 l1.length l1) (hc1 : l1.length ≤ c1) (hG : Glob w) (h : lex_Write.f l0 l1 = some r) :
    Calls Tryd.prog 31 #[.slice A0 l0.length c0, .slice A1 l1.length c1] w fun e w' => ∃ v0_ : Value, e = .returned (v0_) ∧ Kd.R (Kd.int .u8) 5 w' w.heap.size (fun _ => True) v0_ r ∧ Below w.heap.size w w' := by
  unfold lex_Write.f at h
  by_cases hc : l0.length + 21 * l1.length + 100 ≤ 140737488355328 ∧ (∀ x ∈ l1, 0 ≤ x ∧ x < 4294967296)
  · rw [if_pos hc] at h
    obtain ⟨hsz, hw⟩ := hc
    have HE := Aside0.mk (Option.some.inj h)
    have HR0 := Aside0.mk hr0
    have HR1 := Aside0.mk hr1
    have HG := Aside0.mk hG
    have HW := Aside0.mk hw
    have HS := Aside0.mk hsz
    have hm1 : l1.length ≤ 9223372036854775807 := by omega
    clear h hr0 hr1 hG hw hsz
    go_enter Tryd.func31, Tryd.ntmps31
    go_wp2_with (go_at_call 57; refine (clone_any A0 l0.length c0 l0 _ rfl HR0.out (by have := HS.out; omega)).mono ?_; rintro e w1 ⟨v1, rfl, ho, hb⟩; have HO := Aside0.mk ho; have HB := Aside0.mk hb; clear ho hb)
    go_loopw [5, 12] (fun v5 v12 wr => ∃ k : Nat, k ≤ l1.length ∧ v12 = .int .i64 k ∧ Aside0 (wr.ownsRow w.heap.size 5 1 v5 (l0 ++ joinNums (l1.take k)).length (nums .u8 (l0 ++ joinNums (l1.take k)))) ∧ Aside0 (Below w.heap.size w wr)) (fun _ i _ => l1.length - (intOf i).toNat)
    case atStart =>
      refine ⟨0, Nat.zero_le _, rfl, ⟨?_⟩, HB⟩
      have := Kd.own_of_R HO.out
      simpa [joinNums, nums, encs] using this
    case round =>
      obtain ⟨k, hk, rfl, HOk, HBk⟩ := hrel
      have hj : (joinNums (l1.take k)).length ≤ 21 * k := by
        have := joinNums_le (l1.take k) (fun x hx => HW.out x (List.mem_of_mem_take hx))
        rw [List.length_take, Nat.min_eq_left hk] at this
        exact this
      have HJ := Aside0.mk hj
      clear hj
      rcases Nat.lt_or_ge k l1.length with hkl | hkl
      · have hmem : l1.getD k 0 ∈ l1 := by rw [List.getD_eq_getElem?_getD, List.getElem?_eq_getElem hkl]; exact List.getElem_mem _
        have hxr := HW.out _ hmem
        obtain ⟨x, hx⟩ : ∃ x : Nat, (x : Int) = l1.getD k 0 := ⟨_, Int.toNat_of_nonneg hxr.1⟩
        rw [← hx] at hxr
        have hrd : ReadsOf (Value.int .u32) (0 : Int) wr A1 l1.length l1 := Kd.reads_of_C (Kd.C_below HR1.out HBk.out)
        obtain ⟨a, rfl, hcs⟩ := hrd.2.2 (by omega)
        have hcell : wr.cell? (a.add k) = some (.int .u32 x) := by rw [hx]; exact hcs k hkl
        have hcv := u32_u64 x hxr
        have hsucc : l1.take (k + 1) = l1.take k ++ [(x : Int)] := by
          rw [List.take_add_one, List.getElem?_eq_getElem hkl, hx, List.getD_eq_getElem?_getD, List.getElem?_eq_getElem hkl]; rfl
        have HSU := Aside0.mk hsucc
        have HX := Aside0.mk hxr
        clear hsucc hxr hx hmem hcs hrd
        have fin : ∀ (W : World) (v : Value) (ys : List Int), W.ownsRow w.heap.size 5 1 v (ys ++ numText x).length (nums .u8 (ys ++ numText x)) → ys = l0 ++ joinNums (l1.take k) ++ (if l1.take k = [] then [] else [32]) →
            W.ownsRow w.heap.size 5 1 v (l0 ++ joinNums (l1.take (k + 1))).length (nums .u8 (l0 ++ joinNums (l1.take (k + 1)))) := by
          intro W v ys ho he
          rw [HSU.out, joinNums_snoc, ← List.append_assoc, ← List.append_assoc, ← he]
          exact ho
        have FIN := Aside0.mk fin
        clear fin
        rcases Nat.eq_zero_or_pos k with hk0 | hk0
        · have hb0 : decide (0 < k) = false := by simp; omega
          have HK0 := Aside0.mk hk0
          clear hk0
          go_wp2_with (go_at_call 61; refine (append_uint w.heap.size x (by have := HX.out; omega) u5 (l0 ++ joinNums (l1.take k)) _ HOk.out HBk.out.size (by have := HJ.out; have := HS.out; simp only [List.length_append]; omega) (Glob.below HG.out HBk.out)).mono ?_; rintro e w3 ⟨v3, rfl, ho3, hb3⟩; have HO3 := Aside0.mk ho3; have HB3 := Aside0.mk hb3; clear ho3 hb3)
          refine ⟨⟨k + 1, by omega, by go_num, ⟨FIN.out _ _ _ HO3.out ?_⟩, ⟨HBk.out.trans HB3.out⟩⟩, by simp [intOf]; omega⟩
          have := HK0.out
          subst this
          simp
        · have hb0 : decide (0 < k) = true := by simp; omega
          have HK0 := Aside0.mk hk0
          go_wp2_with (first | ((with_reducible refine gate_builtin (b := .append) (xs := #[.tmp 19, .tmp 20]) rfl ?_); at_builtin; refine print_append_num (w0 := w) w.heap.size rfl (.tmp 19) (.tmp 20) 43 5 .u8 1 rfl Tryd.underlying43 info5 (by decide) u5 (l0 ++ joinNums (l1.take k)) 32 rfl rfl HOk.out HBk.out HBk.out.size ?aL ?_; (case aL => have := HJ.out; have := HS.out; simp only [List.length_append]; omega); intro v2 w2 ho2 hb2 hg2 hat2; have HO2 := Aside0.mk ho2; have HB2 := Aside0.mk hb2; clear ho2 hb2 hg2 hat2) | (go_at_call 61; refine (append_uint w.heap.size x (by have := HX.out; omega) v2 (l0 ++ joinNums (l1.take k) ++ [32]) _ HO2.out HB2.out.size (by have := HJ.out; have := HS.out; simp only [List.length_append, List.length_cons, List.length_nil]; omega) (Glob.below HG.out HB2.out)).mono ?_; rintro e w3 ⟨v3, rfl, ho3, hb3⟩; have HO3 := Aside0.mk ho3; have HB3 := Aside0.mk hb3; clear ho3 hb3))
          refine ⟨⟨k + 1, by omega, by go_num, ⟨FIN.out _ _ _ HO3.out ?_⟩, ⟨HB2.out.trans HB3.out⟩⟩, by simp [intOf]; omega⟩
          rw [if_neg]
          intro h0
          have h1 := congrArg List.length h0
          have := HK0.out
          rw [List.length_take, List.length_nil] at h1
          omega
      · go_wp2_with (first | ((with_reducible refine gate_builtin (b := .append) (xs := #[.tmp 27, .tmp 28]) rfl ?_); at_builtin; refine print_append_num (w0 := w) w.heap.size rfl (.tmp 27) (.tmp 28) 43 5 .u8 1 rfl Tryd.underlying43 info5 (by decide) u5 (l0 ++ joinNums (l1.take k)) 10 rfl rfl HOk.out HBk.out HBk.out.size ?aL ?_; (case aL => have := HJ.out; have := HS.out; simp only [List.length_append]; omega); intro v2 w2 ho2 hb2 hg2 hat2; have HO2 := Aside0.mk ho2; have HB2 := Aside0.mk hb2; clear ho2 hb2 hg2 hat2))
        go_ret
        refine ⟨_, rfl, ?_, HB2.out⟩
        obtain rfl : k = l1.length := by omega
        have ho := HO2.out
        rw [List.take_length] at ho
        rw [← HE.out]
        exact Kd.R_of_own ho (fun _ _ => trivial)
  · rw [if_neg hc] at h
    cases h
end Go.Proofs.YtfdemglcjfdodaaDoor.Q
