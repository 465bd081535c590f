/-
  Own names made and read: name.own, name.place; name.lit.
-/
import Derived.Test.YtfdemglcjfdodaaDoorNNorm
import Derived.Lib.ParseIntBTie
import Derived.Deep.RegionHeld3
namespace Go.Proofs.YtfdemglcjfdodaaDoor.N
open Go.RowKit Go.Lib Go.Proofs.YtfdemglcjfdodaaDoorW.PrintWords Go.Proofs.YtfdemglcjfdodaaDoorW.PrintLast Go.Proofs.YtfdemglcjfdodaaDoorW.PrintMore
set_option linter.unusedVariables false

theorem atoi_dec (u : Nat) (hu : u < 9223372036854775808) : atoiAll (decDigits u) = .ok (u : Int) := by
  obtain ⟨c, r, e⟩ : ∃ c r, decDigits u = c :: r := by
    cases h : decDigits u with
    | nil => exact absurd h (Lx.dec_ne_nil u)
    | cons c r => exact ⟨c, r, rfl⟩
  have hc := Lx.dec_digits u c (by rw [e]; simp)
  have hm : parseMag (decDigits u) = .ok u := by
    rw [← parseUintB_64]
    unfold parseUintB
    rw [if_neg (Lx.dec_ne_nil u)]
    exact Lx.parse_of_dec _ (by decide) u (by have : (2:Nat)^64 = 18446744073709551616 := by decide
                                              omega)
  rw [e, atoiAll_plain c r (by omega) (by omega), ← e, hm]
  simp only [signless]
  rw [if_neg (by omega)]

def Letter (c : UInt8) : Prop := c = 105 ∨ c = 108 ∨ c = 111 ∨ c = 98 ∨ c = 99 ∨ c = 97

theorem own_cat (c : UInt8) (i : Nat) : (⟨#[c]⟩ : ByteArray) ++ ⟨(Lib.itoa (i : Int)).toArray⟩ = ownB c i := by
  rw [itoa_nonneg]
  unfold ownB
  rw [ByteArray.ext_iff]
  simp
theorem itoa_len (i : Nat) (hi : i < 4611686018427387904) : (itoa (i : Int)).length ≤ 20 := by
  rw [itoa_nonneg]
  have key : ∀ (n u : Nat), u < 10 ^ (n + 1) → (decDigits u).length ≤ n + 1 := by
    intro n
    induction n with
    | zero =>
      intro u h
      rw [decDigits, dif_pos (by simpa using h)]
      simp
    | succ n ih =>
      intro u h
      rw [decDigits]
      split
      · simp
      · have := ih (u / 10) (by rw [Nat.div_lt_iff_lt_mul (by decide)]; rw [Nat.pow_succ] at h; exact h)
        simp
        omega
  exact key 19 i (by have : (10 : Nat) ^ 20 = 100000000000000000000 := by decide
                     omega)
theorem encode_letter {c : UInt8} (hc : Letter c) : Utf8.encode (c.toNat : Int) = ⟨#[c]⟩ := by
  rcases hc with rfl | rfl | rfl | rfl | rfl | rfl <;> decide
set_option maxHeartbeats 1000000 in
theorem own_at (c : UInt8) (hc : Letter c) (i : Nat) (hi : i < 4611686018427387904) (w : World) (hG : Glob w) :
    Calls Tryd.prog 79 #[.int .u8 c.toNat, .int .i64 i] w fun e w' => e = .returned (.string (ownB c i)) ∧ Below w.heap.size w w' := by
  have HI := Aside0.mk (Tryd.strconv_Itoa (i : Int) (by omega) (by omega) w hG.pow10)
  have HE := Aside0.mk (encode_letter hc)
  have HL := Aside0.mk (itoa_len i hi)
  clear hG
  go_enter Tryd.func79, Tryd.ntmps79
  go_wp2_with fail
  rw [HE.out]
  refine HI.out.mono ?_
  rintro e w1 ⟨rfl, k, os, rfl⟩
  have hsz : (9223372036854775807 < 1 + (itoa (i : Int)).length) = False := eq_false (by have := HL.out; omega)
  go_wp2_with fail
  go_ret
  refine ⟨?_, below_grown w k os⟩
  rw [← own_cat]
  rfl
theorem head_of {s : ByteArray} (h : 0 < s.size) : ∃ x rest, s.data.toList = x :: rest ∧ s[0]'h = x ∧ (s.extract 1 s.size).data.toList = rest := by
  cases hs : s.data.toList with
  | nil =>
    have : s.data.toList.length = 0 := by rw [hs]; rfl
    rw [data_length] at this
    omega
  | cons x rest =>
    refine ⟨x, rest, rfl, ?_, ?_⟩
    · have : s.data.toList[0]? = some x := by rw [hs]; rfl
      rw [← Option.some.injEq, ← this]
      simp [ByteArray.getElem_eq_getElem_data]
    · simp [hs]
      have : s.data.toList.length = s.size := data_length s
      rw [hs] at this
      simp at this
      simp [← this]

theorem place_none {s : ByteArray} {c x : UInt8} {rest : List UInt8} {most : Nat} (hs : s.data.toList = x :: rest) (hm : most < 4611686018427387904) (h : ∀ i, i < most → atoiAll rest ≠ .ok (i : Int)) : placeF s c most = none :=
  placeF_none (fun i hi e => by
    rw [e, ownB_data] at hs
    injection hs with h1 h2
    exact h i hi (by rw [← h2]; exact atoi_dec i (by omega)))
theorem place_val {s : ByteArray} {c x : UInt8} {rest : List UInt8} {most v : Nat} (hs : s.data.toList = x :: rest) (hm : most < 4611686018427387904) (ha : atoiAll rest = .ok (v : Int)) (hv : v < most) : placeF s c most = if ownB c v = s then some v else none := by
  by_cases h : ownB c v = s
  · rw [if_pos h, ← h]
    exact placeF_own (by omega) hv
  · rw [if_neg h]
    refine placeF_none (fun i hi e => ?_)
    rw [e, ownB_data] at hs
    injection hs with h1 h2
    rw [← h2, atoi_dec i (by omega)] at ha
    have : (i : Int) = v := by injection ha
    have : i = v := by omega
    subst this
    exact h e.symm

set_option maxHeartbeats 1000000 in
theorem place_no (s : ByteArray) (c : UInt8) (most : Nat) (w : World) (h : s.toList.isEmpty = true ∨ (s.toList.isEmpty = false ∧ ∃ h0 : 0 < s.size, (((s[0]'h0).toNat : Int) != c.toNat) = true)) :
    Calls Tryd.prog 55 #[.string s, .int .u8 c.toNat, .int .i64 most] w fun e w' => e = .returned (.tuple #[.int .i64 0, .bool false]) ∧ Below w.heap.size w w' := by
  rcases h with h | ⟨h, h0, h1⟩
  · go_enter Tryd.func55, Tryd.ntmps55
    go_wp2_with fail
    go_ret2
    exact ⟨rfl, Below.refl _ _⟩
  · go_enter Tryd.func55, Tryd.ntmps55
    go_wp2_with fail
    go_ret2
    exact ⟨rfl, Below.refl _ _⟩
set_option maxHeartbeats 1000000 in
theorem place_err (s : ByteArray) (c : UInt8) (most : Nat) (w : World) (hG : Glob w) (h : s.toList.isEmpty = false) (h0 : 0 < s.size) (h1 : (((s[0]'h0).toNat : Int) != c.toNat) = false) (hs : s.size ≤ 1048576)
    (ha : atoiAll (s.extract 1 s.size).data.toList = Tryd.noInt ∨ atoiAll (s.extract 1 s.size).data.toList = .range) :
    Calls Tryd.prog 55 #[.string s, .int .u8 c.toNat, .int .i64 most] w fun e w' => (∃ x : Int, e = .returned (.tuple #[.int .i64 x, .bool false])) ∧ Below w.heap.size w w' := by
  have HG := Aside0.mk hG
  have hl : (s.extract 1 s.size).size ≤ 281474976710656 := by simp; omega
  have HL := Aside0.mk hl
  have h2 : 1 ≤ s.size := h0
  clear hG hl
  rcases ha with ha | ha
  · have HA := Aside0.mk ha
    clear ha
    go_enter Tryd.func55, Tryd.ntmps55
    go_wp2_with fail
    obtain ⟨te, pe, hv⟩ := HG.out.syn
    refine (Tryd.strconv_Atoi_syntax _ HL.out HA.out _ _ hv (Or.inr ⟨te, pe, rfl⟩)).mono ?_
    rintro e w1 ⟨N, rfl, _, _, hb⟩
    clear hv
    go_wp2_with fail
    go_ret2
    exact ⟨⟨_, rfl⟩, hb⟩
  · have HA := Aside0.mk ha
    clear ha
    go_enter Tryd.func55, Tryd.ntmps55
    go_wp2_with fail
    obtain ⟨te, pe, hv⟩ := HG.out.rng
    refine (Tryd.strconv_Atoi_range _ HL.out HA.out _ _ hv (Or.inr ⟨te, pe, rfl⟩)).mono ?_
    rintro e w1 ⟨N, rfl, _, _, hb⟩
    clear hv
    go_wp2_with fail
    go_ret2
    exact ⟨⟨_, rfl⟩, hb⟩
set_option maxHeartbeats 1000000 in
theorem place_out (s : ByteArray) (c : UInt8) (most : Nat) (w : World) (h : s.toList.isEmpty = false) (h0 : 0 < s.size) (h1 : (((s[0]'h0).toNat : Int) != c.toNat) = false) (hs : s.size ≤ 1048576) (v : Int)
    (ha : atoiAll (s.extract 1 s.size).data.toList = .ok v) (hv : decide (0 ≤ v) = false ∨ (decide (0 ≤ v) = true ∧ decide (v < (most : Int)) = false)) :
    Calls Tryd.prog 55 #[.string s, .int .u8 c.toNat, .int .i64 most] w fun e w' => (∃ x : Int, e = .returned (.tuple #[.int .i64 x, .bool false])) ∧ Below w.heap.size w w' := by
  have hl : (s.extract 1 s.size).size ≤ 9223372036854775806 := by simp; omega
  have HL := Aside0.mk hl
  have HA := Aside0.mk ha
  have h2 : 1 ≤ s.size := h0
  clear hl ha
  rcases hv with hv | ⟨hv, hv'⟩
  all_goals
    go_enter Tryd.func55, Tryd.ntmps55
    go_wp2_with fail
    refine (Tryd.strconv_Atoi_ok _ HL.out v HA.out _).mono ?_
    rintro e w1 ⟨rfl, hw⟩
    have hb : Aside0 (Below w.heap.size w w1) := by
      refine ⟨?_⟩
      rcases hw with rfl | ⟨t, rfl⟩
      · exact Below.refl _ _
      · exact Lib.bytesWorld_below _ _ _
    clear hw
    go_wp2_with fail
    go_ret2
    exact ⟨⟨_, rfl⟩, hb.out⟩
set_option maxHeartbeats 1000000 in
theorem place_in (s : ByteArray) (c : UInt8) (hc : Letter c) (most : Nat) (hm : most < 4611686018427387904) (w : World) (hG : Glob w) (h : s.toList.isEmpty = false) (h0 : 0 < s.size) (h1 : (((s[0]'h0).toNat : Int) != c.toNat) = false) (hs : s.size ≤ 1048576) (v : Nat)
    (ha : atoiAll (s.extract 1 s.size).data.toList = .ok (v : Int)) (hv : v < most) (b : Bool) (hb : ((ownB c v).toList == s.toList) = b) :
    Calls Tryd.prog 55 #[.string s, .int .u8 c.toNat, .int .i64 most] w fun e w' => e = .returned (.tuple #[.int .i64 v, .bool b]) ∧ Below w.heap.size w w' := by
  have hl : (s.extract 1 s.size).size ≤ 9223372036854775806 := by simp; omega
  have HL := Aside0.mk hl
  have HA := Aside0.mk ha
  have HO := Aside0.mk (fun W (hG : Glob W) => own_at c hc v (by omega) W hG)
  have HG := Aside0.mk hG
  have h2 : 1 ≤ s.size := h0
  have hv1 : decide ((0 : Int) ≤ (v : Int)) = true := by simp
  have hv2 : decide ((v : Int) < (most : Int)) = true := by simpa using hv
  clear hl ha hG
  go_enter Tryd.func55, Tryd.ntmps55
  go_wp2_with fail
  refine (Tryd.strconv_Atoi_ok _ HL.out v HA.out _).mono ?_
  rintro e w1 ⟨rfl, hw⟩
  have HB : Aside0 (Below w.heap.size w w1) := by
    refine ⟨?_⟩
    rcases hw with rfl | ⟨t, rfl⟩
    · exact Below.refl _ _
    · exact Lib.bytesWorld_below _ _ _
  clear hw
  go_wp2_with fail
  refine (HO.out w1 (Glob.below HG.out HB.out)).mono ?_
  rintro e w2 ⟨rfl, hb2⟩
  generalize ownB c v = o at hb ⊢
  go_wp2_with fail
  go_ret2
  exact ⟨rfl, below_then HB.out HB.out.size hb2⟩

/-- name.place. -/
theorem place (s : ByteArray) (c : UInt8) (hc : Letter c) (most : Nat) (hm : most < 4611686018427387904) (w : World) (hG : Glob w) (hs : s.size ≤ 1048576) :
    Calls Tryd.prog 55 #[.string s, .int .u8 c.toNat, .int .i64 most] w fun e w' => (∃ x : Int, e = .returned (.tuple #[.int .i64 x, .bool (placeF s c most).isSome]) ∧ ∀ i, placeF s c most = some i → x = i) ∧ Below w.heap.size w w' := by
  by_cases h0 : s.size = 0
  · have hn : placeF s c most = none := placeF_none (fun i hi e => ownB_pos c i (by rw [← e]; exact h0))
    rw [hn]
    refine (place_no s c most w (.inl (by rw [empty_iff]; simpa using h0))).mono ?_
    rintro e w1 ⟨rfl, hb⟩
    exact ⟨⟨0, rfl, fun i h => by cases h⟩, hb⟩
  have he : s.toList.isEmpty = false := by rw [empty_iff]; simpa using h0
  have hp : 0 < s.size := by omega
  obtain ⟨x, rest, e1, e2, e3⟩ := head_of hp
  by_cases hx : x = c
  · have h1 : (((s[0]'hp).toNat : Int) != c.toNat) = false := by rw [e2, hx]; simp
    rcases ha : atoiAll rest with v | _ | _
    · by_cases hv0 : 0 ≤ v
      · by_cases hvm : v < (most : Int)
        · obtain ⟨u, rfl⟩ : ∃ u : Nat, v = u := ⟨v.toNat, by omega⟩
          have hpv := place_val (c := c) e1 hm ha (by omega)
          by_cases ho : ownB c u = s
          · rw [hpv, if_pos ho]
            refine (place_in s c hc most hm w hG he hp h1 hs u (by rw [e3]; exact ha) (by omega) true (by rw [ho]; simp)).mono ?_
            rintro e w1 ⟨rfl, hb⟩
            exact ⟨⟨u, rfl, fun i h => by cases h; rfl⟩, hb⟩
          · rw [hpv, if_neg ho]
            refine (place_in s c hc most hm w hG he hp h1 hs u (by rw [e3]; exact ha) (by omega) false ?_).mono ?_
            · rw [beq_eq_false_iff_ne]
              intro e
              rw [Lib.toList_data, Lib.toList_data] at e
              exact ho (by rw [ByteArray.ext_iff]; exact Array.toList_inj.1 e)
            · rintro e w1 ⟨rfl, hb⟩
              exact ⟨⟨u, rfl, fun i h => by cases h⟩, hb⟩
        · rw [place_none (c := c) e1 hm (fun i hi e => by rw [ha] at e; have : v = i := by injection e
                                                          omega)]
          refine (place_out s c most w he hp h1 hs v (by rw [e3]; exact ha) (.inr ⟨by simpa using hv0, by simpa using hvm⟩)).mono ?_
          rintro e w1 ⟨⟨y, rfl⟩, hb⟩
          exact ⟨⟨y, rfl, fun i h => by cases h⟩, hb⟩
      · rw [place_none (c := c) e1 hm (fun i hi e => by rw [ha] at e; have : v = i := by injection e
                                                        omega)]
        refine (place_out s c most w he hp h1 hs v (by rw [e3]; exact ha) (.inl (by simpa using hv0))).mono ?_
        rintro e w1 ⟨⟨y, rfl⟩, hb⟩
        exact ⟨⟨y, rfl, fun i h => by cases h⟩, hb⟩
    · rw [place_none (c := c) e1 hm (fun i hi e => by rw [ha] at e; cases e)]
      refine (place_err s c most w hG he hp h1 hs (.inl (by rw [e3]; exact ha))).mono ?_
      rintro e w1 ⟨⟨y, rfl⟩, hb⟩
      exact ⟨⟨y, rfl, fun i h => by cases h⟩, hb⟩
    · rw [place_none (c := c) e1 hm (fun i hi e => by rw [ha] at e; cases e)]
      refine (place_err s c most w hG he hp h1 hs (.inr (by rw [e3]; exact ha))).mono ?_
      rintro e w1 ⟨⟨y, rfl⟩, hb⟩
      exact ⟨⟨y, rfl, fun i h => by cases h⟩, hb⟩
  · have hn : placeF s c most = none := placeF_not (by rw [e1]; simpa using hx)
    rw [hn]
    refine (place_no s c most w (.inr ⟨he, hp, ?_⟩)).mono ?_
    · rw [e2, bne_iff_ne]
      intro e
      exact hx (UInt8.toNat_inj.1 (by omega))
    · rintro e w1 ⟨rfl, hb⟩
      exact ⟨⟨0, rfl, fun i h => by cases h⟩, hb⟩
end Go.Proofs.YtfdemglcjfdodaaDoor.N
