/-
  The document's functions of layer 1 answer what the program's do: numbers.
-/
import Derived.Test.YtfdemglcjfdodaaDoorTells
import Derived.Test.YtfdemglcjfdodaaDoorPureLexB
namespace Go.Proofs.YtfdemglcjfdodaaDoor.Pure
open Go.RowKit Go.Proofs.YtfdemglcjfdodaaDoor.Lx Go.Proofs.YtfdemglcjfdodaaDoorW.PrintWords Go.Proofs.YtfdemglcjfdodaaDoorW.PrintLast
open Go.Proofs.YtfdemglcjfdodaaDoor.Q (lex_Number.f digitsSet)
open Go.Proofs.YtfdemglcjfdodaaDoor.R

/-- The number that digits tell, behind one. -/
def decVal (a : Nat) (l : List UInt8) : Nat := l.foldl (fun a c => a * 10 + (c.toNat - 48)) a
theorem decVal_nil (a : Nat) : decVal a [] = a := by unfold decVal; exact List.foldl_nil
theorem decVal_cons (a : Nat) (c : UInt8) (r : List UInt8) : decVal a (c :: r) = decVal (a * 10 + (c.toNat - 48)) r := by unfold decVal; exact List.foldl_cons ..
theorem decVal_ge (l : List UInt8) : ∀ (a : Nat), a ≤ decVal a l := by
  induction l with
  | nil => intro a; rw [decVal_nil]; exact Nat.le_refl _
  | cons c r ih =>
    intro a
    have := ih (a * 10 + (c.toNat - 48))
    rw [decVal_cons]
    omega
def Dig (l : List UInt8) : Prop := ∀ c ∈ l, 48 ≤ c.toNat ∧ c.toNat ≤ 57
instance (l : List UInt8) : Decidable (Dig l) := List.decidableBAll (fun c : UInt8 => 48 ≤ c.toNat ∧ c.toNat ≤ 57) l

theorem parse_val : ∀ (l : List UInt8) (a : Nat), Dig l → a ≤ 4294967295 → Lib.parseUintM 4294967295 a l = if decVal a l ≤ 4294967295 then .ok (decVal a l) else .range
  | [], a, _, ha => by simp [Lib.parseUintM, decVal, ha]
  | c :: r, a, hd, ha => by
    have hc := hd c List.mem_cons_self
    have ih := parse_val r (a * 10 + (c.toNat - 48)) (fun x hx => hd x (List.mem_cons_of_mem _ hx))
    have hge := decVal_ge r (a * 10 + (c.toNat - 48))
    rw [decVal_cons]
    simp only [Lib.parseUintM]
    rw [if_pos hc, if_neg (by omega)]
    by_cases h : 4294967295 < a * 10 + (c.toNat - 48)
    · rw [if_pos h, if_neg (by omega)]
    · rw [if_neg h, ih (by omega)]

theorem digit_of_contains (c : UInt8) (h : digitsSet.data.toList.contains c = true) : 48 ≤ c.toNat ∧ c.toNat ≤ 57 := by
  simp [digitsSet] at h
  rcases h with h | h | h | h | h | h | h | h | h | h <;> subst h <;> decide
theorem dw_nil {α : Type} (p : α → Bool) : ∀ (l : List α), l.dropWhile p = [] → ∀ x ∈ l, p x = true
  | [], _, x, hx => by cases hx
  | y :: l, h, x, hx => by
    by_cases hy : p y = true
    · rw [List.dropWhile_cons_of_pos hy] at h
      rcases List.mem_cons.1 hx with rfl | hx
      · exact hy
      · exact dw_nil p l h x hx
    · rw [List.dropWhile_cons_of_neg hy] at h
      cases h
theorem dw_head {α : Type} (p : α → Bool) : ∀ (l : List α) {x : α} {r : List α}, l.dropWhile p = x :: r → p x = false
  | [], x, r, h => by cases h
  | y :: l, x, r, h => by
    by_cases hy : p y = true
    · rw [List.dropWhile_cons_of_pos hy] at h
      exact dw_head p l h
    · rw [List.dropWhile_cons_of_neg hy] at h
      cases h
      simpa using hy
theorem trim_nil {l : List UInt8} : Lib.trimS l digitsSet.data.toList = [] ↔ Dig l := by
  constructor
  · intro h c hc
    refine digit_of_contains c ?_
    unfold Lib.trimS Lib.trimLeftS at h
    have h1 := dw_nil _ _ h
    cases hd : l.reverse.dropWhile (digitsSet.data.toList.contains ·) with
    | nil => exact dw_nil _ _ hd c (by simpa using hc)
    | cons x r =>
      have hx := dw_head _ _ hd
      have hm : x ∈ Lib.trimRightS l digitsSet.data.toList := by
        unfold Lib.trimRightS
        rw [hd]
        simp
      have := h1 x hm
      rw [hx] at this
      cases this
  · exact fun h => trim_all l _ (fun c hc => digits_contains c (h c hc))

/-- What a number is. -/
def numOf (l : List UInt8) (most : Int) : Int × Int :=
  if l = [] ∨ (1 < l.length ∧ l.head? = some 48) ∨ ¬ Dig l then (0, 5) else if (decVal 0 l : Int) ≤ most then ((decVal 0 l : Int), 0) else (0, 3)

theorem lex_number (s : ByteArray) (most : Int) (hs : s.size ≤ 281474976710656) (hm : most < 4294967296) : lex_Number.f s most = some (numOf s.data.toList most) := by
  unfold Q.lex_Number.f numOf
  rw [if_pos hs]
  by_cases h0 : s.size = 0
  · rw [if_pos h0, if_pos (.inl (List.eq_nil_of_length_eq_zero (by rw [data_length]; exact h0)))]
  · rw [if_neg h0]
    obtain ⟨c, r, hc, hb⟩ := bt_first s (by omega)
    have hl : s.data.toList.length = s.size := data_length s
    have hbc : bt s 0 = 48 ↔ c = 48 := by
      rw [hb]
      constructor
      · intro h
        have : c.toNat = 48 := by omega
        exact UInt8.toNat_inj.1 this
      · rintro rfl; rfl
    by_cases hz : 1 < s.size ∧ bt s 0 = 48
    · rw [if_pos hz, if_pos (.inr (.inl ⟨by omega, by rw [hc, hbc.1 hz.2]; rfl⟩))]
    · rw [if_neg hz]
      by_cases hd : Dig s.data.toList
      · rw [if_pos (trim_nil.2 hd), if_neg]
        · have hne : s.data.toList ≠ [] := by rw [hc]; simp
          have hp : Lib.parseUintB 32 s.data.toList = if decVal 0 s.data.toList ≤ 4294967295 then .ok (decVal 0 s.data.toList) else .range := by
            unfold Lib.parseUintB
            rw [if_neg hne]
            exact parse_val _ 0 hd (by omega)
          rw [hp]
          by_cases hv : decVal 0 s.data.toList ≤ 4294967295
          · rw [if_pos hv]
            simp only
            split <;> rfl
          · rw [if_neg hv, if_neg (by omega)]
        · rintro (h | ⟨h1, h2⟩ | h)
          · rw [hc] at h; cases h
          · rw [hc] at h2
            simp at h2
            exact hz ⟨by omega, hbc.2 h2⟩
          · exact h hd
      · rw [if_neg (fun h => hd (trim_nil.1 h)), if_pos (.inr (.inr hd))]

theorem bt_lt {s : ByteArray} {pre r : List UInt8} {c : UInt8} (h : s.data.toList = pre ++ c :: r) : bt s (pre.length : Int) = (c.toNat : Int) := by
  rw [← rd_bytesOf]
  simp [rd, bytesOf, h]

theorem rnumber_loop (s : ByteArray) (hs : s.size ≤ 281474976710656) (most : Int) (hm0 : 0 ≤ most) (hm : most < 4294967296) : ∀ (r pre : List UInt8) (V k : Nat), s.data.toList = pre ++ r → r.length < k →
    inquestref01_Number.l0 k s most (if V ≤ 1099511627776 then (V : Int) else 1099511627776) (decide (most < (V : Int))) (pre.length : Int) = some (if Dig r then (if (decVal V r : Int) ≤ most then ((decVal V r : Int), 0) else (0, 3)) else (0, 5))
  | [], pre, V, k, hr, hk => by
    obtain ⟨k, rfl⟩ : ∃ m, k = m + 1 := ⟨k - 1, by omega⟩
    have hl : s.data.toList.length = s.size := data_length s
    rw [hr] at hl
    simp at hl
    simp only [inquestref01_Number.l0]
    rw [if_neg (by omega), if_pos (show Dig [] from fun c hc => by cases hc)]
    rw [decVal_nil]
    simp only [decide_eq_true_eq]
    by_cases h : most < (V : Int)
    · rw [if_pos h, if_neg (by omega)]
    · rw [if_neg h, if_pos (by omega), if_pos (by omega)]
      congr 2
      omega
  | c :: r, pre, V, k, hr, hk => by
    obtain ⟨k, rfl⟩ : ∃ m, k = m + 1 := ⟨k - 1, by omega⟩
    have hl : s.data.toList.length = s.size := data_length s
    have hl2 := hl
    rw [hr] at hl2
    simp at hl2
    have hbt := bt_lt hr
    have hc255 : c.toNat < 256 := c.toNat_lt
    have ih := rnumber_loop s hs most hm0 hm r (pre ++ [c]) (V * 10 + (c.toNat - 48)) k (by rw [hr]; simp) (by simp at hk; omega)
    simp only [inquestref01_Number.l0]
    rw [if_pos (by omega), if_pos (by omega), hbt]
    by_cases h1 : (c.toNat : Int) < 48
    · rw [if_pos h1, if_neg]
      intro h
      have := h c List.mem_cons_self
      omega
    · rw [if_neg h1]
      by_cases h2 : (c.toNat : Int) > 57
      · rw [if_pos h2, if_neg]
        intro h
        have := h c List.mem_cons_self
        omega
      · rw [if_neg h2]
        have hw : wrap64 ((pre.length : Int) + 1) = ((pre ++ [c]).length : Int) := by rw [wrap_id (by omega)]; simp
        have hd : (((c.toNat : Int) - 48) % 256) = ((c.toNat - 48 : Nat) : Int) := by omega
        have hdd : Dig (c :: r) ↔ Dig r := ⟨fun h x hx => h x (List.mem_cons_of_mem _ hx), fun h x hx => by rcases List.mem_cons.1 hx with rfl | hx; (exact ⟨by omega, by omega⟩); exact h x hx⟩
        have hx6 : IntKind.u64.wrap ((IntKind.u64.wrap (10 * (if V ≤ 1099511627776 then (V : Int) else 1099511627776))) + ((c.toNat - 48 : Nat) : Int)) = (if V ≤ 1099511627776 then (V : Int) else 1099511627776) * 10 + ((c.toNat - 48 : Nat) : Int) := by
          simp only [IntKind.wrap, IntKind.signed, IntKind.bits]
          split <;> simp <;> omega
        have hmn : mn ((if V ≤ 1099511627776 then (V : Int) else 1099511627776) * 10 + ((c.toNat - 48 : Nat) : Int)) 1099511627776 = (if V * 10 + (c.toNat - 48) ≤ 1099511627776 then ((V * 10 + (c.toNat - 48) : Nat) : Int) else 1099511627776) := by
          unfold mn
          split <;> split <;> split <;> omega
        have hmw : IntKind.u64.wrap most = most := by simp [IntKind.wrap, IntKind.signed, IntKind.bits]; omega
        rw [hd, hx6, hmn, hw, hmw]
        simp only [decide_eq_true_eq]
        have e1 : (if Dig (c :: r) then (if (decVal V (c :: r) : Int) ≤ most then ((decVal V (c :: r) : Int), (0 : Int)) else (0, 3)) else (0, 5)) = (if Dig r then (if (decVal (V * 10 + (c.toNat - 48)) r : Int) ≤ most then ((decVal (V * 10 + (c.toNat - 48)) r : Int), 0) else (0, 3)) else (0, 5)) := by
          rw [decVal_cons]
          by_cases hq : Dig r
          · rw [if_pos hq, if_pos (hdd.2 hq)]
          · rw [if_neg hq, if_neg (fun h => hq (hdd.1 h))]
        rw [e1]
        by_cases hg : most < (V : Int)
        · rw [if_pos hg]
          have e2 : decide (most < ((V * 10 + (c.toNat - 48) : Nat) : Int)) = true := by simp; omega
          rw [e2] at ih
          exact ih
        · rw [if_neg hg]
          have e2 : decide ((if V ≤ 1099511627776 then (V : Int) else 1099511627776) * 10 + ((c.toNat - 48 : Nat) : Int) > most) = decide (most < ((V * 10 + (c.toNat - 48) : Nat) : Int)) := by
            rw [if_pos (by omega)]
            congr 1
            first | done | simp
          rw [e2]
          exact ih

theorem ref_number (s : ByteArray) (most : Int) (hs : s.size ≤ 281474976710656) (hm0 : 0 ≤ most) (hm : most < 4294967296) (k : Nat) (hk : s.size + 1 < k) : inquestref01_Number.f k s most = some (numOf s.data.toList most) := by
  have hl : s.data.toList.length = s.size := data_length s
  obtain ⟨k, rfl⟩ : ∃ m, k = m + 1 := ⟨k - 1, by omega⟩
  have key := rnumber_loop s hs most hm0 hm s.data.toList [] 0 k rfl (by omega)
  simp only [Nat.zero_le, if_true, List.length_nil] at key
  have e0 : decide (most < ((0 : Nat) : Int)) = false := by simp; omega
  rw [e0] at key
  change inquestref01_Number.l0 k s most 0 false 0 = _ at key
  unfold inquestref01_Number.f numOf
  by_cases h0 : s.data.toList = []
  · rw [if_pos (toList_nil.2 h0), if_pos (.inl h0)]
    simp [inquestref01_Number.j0]
  · have hpos : 0 < s.size := by rw [← hl]; exact List.length_pos_iff.2 h0
    rw [if_neg (fun h => h0 (toList_nil.1 h)), if_pos (by omega)]
    obtain ⟨c, r, hc, hb⟩ := bt_first s (by omega)
    by_cases h48 : bt s 0 = 48
    · have hc48 : c = 48 := by
        rw [hb] at h48
        have : c.toNat = 48 := by omega
        exact UInt8.toNat_inj.1 this
      subst hc48
      rw [if_pos h48]
      have hne : (s.toList != ([48] : List UInt8)) = decide (r ≠ []) := by
        rw [Lib.toList_data, hc]
        cases r <;> simp
      rw [hne]
      simp only [inquestref01_Number.j0, decide_eq_true_eq]
      by_cases hr : r = []
      · rw [if_neg (by simp [hr]), if_neg]
        · rw [key, hc, hr]
          have : Dig [48] := by decide
          rw [if_pos this]
        · rintro (h | ⟨h, _⟩ | h)
          · exact h0 h
          · rw [hc, hr] at h; simp at h
          · rw [hc, hr] at h; exact h (by decide)
      · rw [if_pos hr, if_pos (.inr (.inl ⟨by rw [hc]; have := List.length_pos_iff.2 hr; simp; omega, by rw [hc]; rfl⟩))]
    · rw [if_neg h48]
      simp only [inquestref01_Number.j0]
      rw [if_neg (by simp), key]
      by_cases hd : Dig s.data.toList
      · have hno : ¬ (s.data.toList = [] ∨ (1 < s.data.toList.length ∧ s.data.toList.head? = some 48) ∨ ¬ Dig s.data.toList) := by
          rintro (h | ⟨_, h⟩ | h)
          · exact h0 h
          · rw [hc] at h
            simp at h
            subst h
            exact h48 (by rw [hb]; rfl)
          · exact h hd
        rw [if_pos hd, if_neg hno]
      · rw [if_neg hd, if_pos (.inr (.inr hd))]
end Go.Proofs.YtfdemglcjfdodaaDoor.Pure
