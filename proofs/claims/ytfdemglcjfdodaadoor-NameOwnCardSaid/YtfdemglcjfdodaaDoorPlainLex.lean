/-
  Plain laws on lists of bytes: what stands between blanks, decimal digits.
-/
import Derived.Lib.Split
import Derived.Lib.IndexBytes
import Derived.Lib.IndexLaws
import Derived.Lib.SplitLaws
import Derived.Lib.ItoaNum
import Derived.Lib.ParseIntB
import Derived.Lib.SlTrimSet
namespace Go.Proofs.YtfdemglcjfdodaaDoor.Lx
open Go Go.Lib

/-- Pieces, a blank between two. -/
def join : List (List UInt8) → List UInt8
  | [] => []
  | x :: r => x ++ r.flatMap (fun y => 32 :: y)

theorem index32_none {l : List UInt8} (h : index l [32] = -1) : (32 : UInt8) ∉ l := by
  rw [index_one] at h
  intro hm
  obtain ⟨k, hk, he⟩ := List.getElem_of_mem hm
  exact indexByte_none h k (by rw [List.getElem?_eq_getElem hk, he])
theorem index32_some {l : List UInt8} {o : Nat} (h : index l [32] = o) : l = l.take o ++ 32 :: l.drop (o + 1) := by
  rw [index_one] at h
  have h1 := (indexByte_some h).1
  have hlt : o < l.length := (List.getElem?_eq_some_iff.1 h1).1
  have h2 : l[o] = 32 := (List.getElem?_eq_some_iff.1 h1).2
  conv => lhs; rw [← List.take_append_drop o l, List.drop_eq_getElem_cons hlt, h2]

/-- What is parted is put together again. -/
theorem join_splitK : ∀ (k : Nat) (l : List UInt8), join (splitK [32] 0 k l) = l
  | 0, l => by simp [splitK, join]
  | k + 1, l => by
    unfold splitK
    by_cases h : index l [32] = -1
    · rw [if_pos (by rw [h]; rfl)]
      simp [join]
    · rw [if_neg (by simpa using h)]
      have hge := index_ge l [32]
      obtain ⟨o, ho⟩ := Int.eq_ofNat_of_zero_le (show 0 ≤ index l [32] by omega)
      have hl := index32_some ho
      rw [ho]
      simp only [Int.toNat_natCast, Nat.add_zero, List.length_singleton]
      have ih := join_splitK k (l.drop (o + 1))
      cases hs : splitK [32] 0 k (l.drop (o + 1)) with
      | nil => cases k <;> (unfold splitK at hs; try split at hs) <;> simp at hs
      | cons x r =>
        rw [hs] at ih
        simp only [join, List.flatMap_cons] at ih ⊢
        conv => rhs; rw [hl, ← ih]
        simp

theorem index32_at {d r : List UInt8} (h : (32 : UInt8) ∉ d) : index (d ++ 32 :: r) [32] = d.length := by
  induction d with
  | nil => simp [index_one, indexByte]
  | cons c d ih =>
    have hc : (c == 32) = false := by
      rw [beq_eq_false_iff_ne]; intro e; exact h (by simp [e])
    have := ih (fun hm => h (by simp [hm]))
    rw [index_one] at this ⊢
    simp only [List.cons_append, indexByte, hc, this]
    have h2 : ((d.length : Int) == -1) = false := by rw [beq_eq_false_iff_ne]; omega
    simp [h2]
theorem index32_no {d : List UInt8} (h : (32 : UInt8) ∉ d) : index d [32] = -1 := by
  induction d with
  | nil => simp [index_one, indexByte]
  | cons c d ih =>
    have hc : (c == 32) = false := by
      rw [beq_eq_false_iff_ne]; intro e; exact h (by simp [e])
    have := ih (fun hm => h (by simp [hm]))
    rw [index_one] at this ⊢
    simp [indexByte, hc, this]

/-- Pieces without blanks, put together and parted. -/
theorem split_join (x : List UInt8) (r : List (List UInt8)) (h : ∀ y ∈ x :: r, (32 : UInt8) ∉ y) : splitK [32] 0 r.length (join (x :: r)) = x :: r := by
  induction r generalizing x with
  | nil => simp [splitK, join]
  | cons y r ih =>
    have hx := h x (by simp)
    have hj : join (x :: y :: r) = x ++ 32 :: join (y :: r) := by simp [join]
    rw [hj, List.length_cons, splitK, index32_at hx, if_neg (by rw [beq_iff_eq]; omega)]
    simp only [Int.toNat_natCast, Nat.add_zero, List.length_singleton]
    have e1 : (x ++ 32 :: join (y :: r)).take x.length = x := by simp
    have e2 : (x ++ 32 :: join (y :: r)).drop (x.length + 1) = join (y :: r) := by
      rw [← List.drop_drop]; simp
    rw [e1, e2, ih y (fun z hz => h z (by simp [hz]))]
theorem count_join (x : List UInt8) (r : List (List UInt8)) (h : ∀ y ∈ x :: r, (32 : UInt8) ∉ y) : count (join (x :: r)) [32] = r.length := by
  rw [count_one]
  induction r generalizing x with
  | nil => simpa [join, List.count_eq_zero] using h x (by simp)
  | cons y r ih =>
    have hx := h x (by simp)
    have hj : join (x :: y :: r) = x ++ 32 :: join (y :: r) := by simp [join]
    rw [hj, List.count_append, List.count_cons_self, ih y (fun z hz => h z (by simp [hz])), List.count_eq_zero.2 hx]
    simp

/-! ### digits -/
theorem digit_byte (d : Nat) (h : d < 10) : (UInt8.ofNat (48 + d)).toNat = 48 + d := by
  rw [UInt8.toNat_ofNat']; omega
theorem dec_digits : ∀ (u : Nat), ∀ c ∈ decDigits u, 48 ≤ c.toNat ∧ c.toNat ≤ 57 := by
  intro u
  induction u using Nat.strongRecOn with
  | _ u ih =>
    intro c hc
    rw [decDigits] at hc
    split at hc
    · rename_i h
      simp only [List.mem_singleton] at hc
      rw [hc, digit_byte u h]; omega
    · rename_i h
      rcases List.mem_append.1 hc with hc | hc
      · exact ih (u / 10) (by omega) c hc
      · simp only [List.mem_singleton] at hc
        rw [hc, digit_byte _ (by omega)]; omega
theorem dec_ne_nil (u : Nat) : decDigits u ≠ [] := by
  rw [decDigits]; split <;> simp
theorem dec_len_pos (u : Nat) : 0 < (decDigits u).length := List.length_pos_iff.2 (dec_ne_nil u)
/-- No zero ahead. -/
theorem dec_head : ∀ (u : Nat), 10 ≤ u → ∃ c r, decDigits u = c :: r ∧ r ≠ [] ∧ c.toNat ≠ 48 := by
  intro u
  induction u using Nat.strongRecOn with
  | _ u ih =>
    intro hu
    rw [decDigits, dif_neg (by omega)]
    by_cases h : u / 10 < 10
    · rw [decDigits, dif_pos h]
      exact ⟨_, _, rfl, by simp, by rw [digit_byte _ h]; omega⟩
    · obtain ⟨c, r, e, hr, hc⟩ := ih (u / 10) (by omega) (by omega)
      exact ⟨c, r ++ [UInt8.ofNat (48 + u % 10)], by rw [e]; rfl, by simp, hc⟩
theorem dec_step (a d : Nat) (ha : 1 ≤ a) (hd : d < 10) : decDigits (a * 10 + d) = decDigits a ++ [UInt8.ofNat (48 + d)] := by
  rw [decDigits, dif_neg (by omega)]
  have h1 : (a * 10 + d) / 10 = a := by omega
  have h2 : (a * 10 + d) % 10 = d := by omega
  rw [h1, h2]
theorem byte_of_digit (c : UInt8) (h : 48 ≤ c.toNat ∧ c.toNat ≤ 57) : UInt8.ofNat (48 + (c.toNat - 48)) = c := by
  apply UInt8.toNat_inj.1
  rw [digit_byte _ (by omega)]; omega

/-- What is read behind a number that isn't 0 stands behind its digits. -/
theorem parse_dec (M : Nat) : ∀ (l : List UInt8) (acc u : Nat), 1 ≤ acc → parseUintM M acc l = .ok u → decDigits u = decDigits acc ++ l
  | [], acc, u, _, h => by
    simp only [parseUintM] at h
    cases h
    simp
  | c :: r, acc, u, ha, h => by
    simp only [parseUintM] at h
    split at h
    · rename_i hc
      split at h
      · cases h
      · split at h
        · cases h
        · have ih := parse_dec M r _ u (by omega) h
          rw [ih, dec_step acc (c.toNat - 48) ha (by omega), byte_of_digit c hc]
          simp
    · cases h
/-- A number without a zero ahead: its digits are the text. -/
theorem parse_text (M : Nat) (l : List UInt8) (u : Nat) (hne : l ≠ []) (hz : l.length = 1 ∨ ∀ c r, l = c :: r → c.toNat ≠ 48) (h : parseUintM M 0 l = .ok u) : decDigits u = l := by
  cases l with
  | nil => exact absurd rfl hne
  | cons c r =>
    simp only [parseUintM] at h
    split at h
    · rename_i hc
      rw [if_neg (by omega)] at h
      split at h
      · cases h
      · simp only [Nat.zero_mul, Nat.zero_add] at h
        have hd : decDigits (c.toNat - 48) = [c] := by
          rw [decDigits, dif_pos (by omega), byte_of_digit c hc]
        by_cases hr : r = []
        · subst hr
          simp only [parseUintM] at h
          cases h
          exact hd
        · have hc0 : c.toNat ≠ 48 := by
            rcases hz with hz | hz
            · exact absurd (List.length_eq_zero_iff.1 (by simpa using hz)) hr
            · exact hz c r rfl
          rw [parse_dec M r _ u (by omega) h, hd]
          simp
    · cases h
theorem parse_append (M : Nat) : ∀ (l r : List UInt8) (acc v : Nat), parseUintM M acc l = .ok v → parseUintM M acc (l ++ r) = parseUintM M v r
  | [], r, acc, v, h => by
    simp only [parseUintM] at h
    cases h
    rfl
  | c :: l, r, acc, v, h => by
    simp only [List.cons_append, parseUintM] at h ⊢
    split at h
    · rename_i hc
      rw [if_pos hc]
      split at h
      · cases h
      · rename_i h1
        rw [if_neg h1]
        split at h
        · cases h
        · rename_i h2
          rw [if_neg h2]
          exact parse_append M l r _ v h
    · cases h
/-- A number's digits are read as it. -/
theorem parse_of_dec (M : Nat) (hM : M < 18446744073709551616) : ∀ (u : Nat), u ≤ M → parseUintM M 0 (decDigits u) = .ok u := by
  intro u
  induction u using Nat.strongRecOn with
  | _ u ih =>
    intro hu
    rw [decDigits]
    split
    · rename_i h
      have hb := digit_byte u h
      simp only [parseUintM, hb]
      rw [if_pos (by omega), if_neg (by omega), if_neg (by omega)]
      congr 1; omega
    · rename_i h
      rw [parse_append M _ _ 0 (u / 10) (ih (u / 10) (by omega) (by omega))]
      have hb := digit_byte (u % 10) (by omega)
      simp only [parseUintM, hb]
      rw [if_pos (by omega), if_neg (by omega), if_neg (by omega)]
      congr 1; omega

theorem drop_all {α : Type} (p : α → Bool) : ∀ (l : List α), (∀ x ∈ l, p x = true) → l.dropWhile p = []
  | [], _ => rfl
  | x :: l, h => by
    rw [List.dropWhile_cons_of_pos (h x (by simp))]
    exact drop_all p l (fun y hy => h y (by simp [hy]))
theorem trim_all (l cs : List UInt8) (h : ∀ c ∈ l, cs.contains c = true) : trimS l cs = [] := by
  have h1 : trimRightS l cs = [] := by
    unfold trimRightS
    rw [drop_all _ _ (fun x hx => h x (by simpa using hx))]
    rfl
  unfold trimS
  rw [h1]
  rfl
end Go.Proofs.YtfdemglcjfdodaaDoor.Lx
