/-
  The document's functions of layer 1 answer what the program's do: all that LexTells asks.
-/
import Derived.Test.YtfdemglcjfdodaaDoorPureTellsB
namespace Go.Proofs.YtfdemglcjfdodaaDoor.Pure
open Go.RowKit Go.Proofs.YtfdemglcjfdodaaDoor.Lx Go.Proofs.YtfdemglcjfdodaaDoorW.PrintWords Go.Proofs.YtfdemglcjfdodaaDoorW.PrintLast
open Go.Proofs.YtfdemglcjfdodaaDoor.Q (lex_Number.f lex_Numbers.f lex_Numbers.l0 lex_Words.f joinNums numText joinNums_snoc joinNums_le)
open Go.Proofs.YtfdemglcjfdodaaDoor.R

theorem numbers_both (most : Int) (hm0 : 0 ≤ most) (hm : most < 4294967296) (t : List ByteArray) (ht : t.length ≤ 4294967296) (hts : ∀ s ∈ t, s.size ≤ 1048576) (d : Nat) : ∀ (k k2 i : Nat) (out : List Int), i ≤ t.length → t.length - i = d → d < k → d + 1048580 < k2 → out.length = i →
    ∃ r, lex_Numbers.l0 k most out t (t.length : Int) (i : Int) = some r ∧ inquestref01_Numbers.l0 k2 most t out (i : Int) = some r ∧ r.1.length ≤ t.length := by
  induction d with
  | zero =>
    intro k k2 i out hi hd hk hk2 ho
    obtain ⟨k, rfl⟩ : ∃ m, k = m + 1 := ⟨k - 1, by omega⟩
    obtain ⟨k2, rfl⟩ : ∃ m, k2 = m + 1 := ⟨k2 - 1, by omega⟩
    have : i = t.length := by omega
    subst this
    refine ⟨(out, 0), ?_, ?_, by simp [ho]⟩
    · simp only [lex_Numbers.l0]
      rw [if_neg (by omega)]
    · simp only [inquestref01_Numbers.l0]
      rw [if_neg (by omega)]
  | succ d ih =>
    intro k k2 i out hi hd hk hk2 ho
    obtain ⟨k, rfl⟩ : ∃ m, k = m + 1 := ⟨k - 1, by omega⟩
    obtain ⟨k2, rfl⟩ : ∃ m, k2 = m + 1 := ⟨k2 - 1, by omega⟩
    have hlt : i < t.length := by omega
    have hr : rdOf ByteArray.empty t (i : Int) = t[i] := by simp [rdOf, List.getD_eq_getElem?_getD, List.getElem?_eq_getElem hlt]
    have hsz := hts _ (List.getElem_mem hlt)
    have hw : wrap64 ((i : Int) + 1) = ((i + 1 : Nat) : Int) := by rw [wrap_id (by omega)]; rfl
    have e1 : lex_Numbers.l0 (k + 1) most out t (t.length : Int) (i : Int) = if (numOf (t[i]).data.toList most).2 = 0 then lex_Numbers.l0 k most (out ++ [(numOf (t[i]).data.toList most).1]) t (t.length : Int) ((i + 1 : Nat) : Int) else some ([], (numOf (t[i]).data.toList most).2) := by
      simp only [lex_Numbers.l0]
      rw [if_pos (by omega), if_pos (by omega), if_pos (by omega), hr, lex_number _ _ (by omega) hm]
      simp only [Option.bind_some]
      rw [if_pos (show out.length < 35184372088832 by omega), hw]
    have e2 : inquestref01_Numbers.l0 (k2 + 1) most t out (i : Int) = if (numOf (t[i]).data.toList most).2 = 0 then inquestref01_Numbers.l0 k2 most t (out ++ [(numOf (t[i]).data.toList most).1]) ((i + 1 : Nat) : Int) else some ([], (numOf (t[i]).data.toList most).2) := by
      simp only [inquestref01_Numbers.l0]
      rw [if_pos (by omega), if_pos (by omega), hr, ref_number _ _ (by omega) hm0 hm k2 (by omega)]
      simp only [Option.bind_some]
      rw [if_pos (show out.length < 35184372088832 by omega), hw]
    rw [e1, e2]
    by_cases he : (numOf (t[i]).data.toList most).2 = 0
    · rw [if_pos he, if_pos he]
      exact ih k k2 (i + 1) (out ++ [(numOf (t[i]).data.toList most).1]) (by omega) (by omega) (by omega) (by omega) (by simp [ho])
    · rw [if_neg he, if_neg he]
      exact ⟨_, rfl, rfl, Nat.zero_le _⟩

theorem pieces_size (L : List UInt8) : ∀ s ∈ pieces L, s.size ≤ L.length := by
  have key : ∀ (W : List (List UInt8)) (y : List UInt8), y ∈ W → y.length ≤ (join W).length := by
    intro W y hy
    cases W with
    | nil => cases hy
    | cons x r =>
      simp only [join, List.length_append]
      rcases List.mem_cons.1 hy with rfl | hy
      · omega
      · have : y.length ≤ (r.flatMap (fun y => 32 :: y)).length := by
          induction r with
          | nil => cases hy
          | cons z r ih =>
            simp only [List.flatMap_cons, List.length_append, List.length_cons]
            rcases List.mem_cons.1 hy with rfl | hy
            · omega
            · have := ih (List.mem_cons_of_mem _ hy) hy
              omega
        omega
  intro s hs
  have h1 : s.data.toList ∈ (pieces L).map (·.data.toList) := List.mem_map.2 ⟨s, hs, rfl⟩
  have h2 := key _ _ h1
  rw [pieces_data, join_splitK] at h2
  rw [← data_length]
  exact h2

theorem numbers_all (L : List UInt8) (hL : L.length ≤ 1048576) (least many most : Int) (hm0 : 0 ≤ most) (hm : most < 4294967296) (k : Nat) (hk : 9000000 < k) :
    ∃ ns nse, lex_Numbers.f k (ints L) least many most = some (ns, nse) ∧ inquestref01_Numbers.f k (ints L) least many most = some (ns, nse) ∧ ns.length ≤ 1048577 := by
  unfold Q.lex_Numbers.f inquestref01_Numbers.f
  rw [lex_words L hL k (by omega), ref_words L hL k (by omega)]
  simp only [Option.bind_some]
  obtain ⟨k, rfl⟩ : ∃ m, k = m + 1 := ⟨k - 1, by omega⟩
  have hwt : (wordsOf L).1.length ≤ 1048577 ∧ ∀ s ∈ (wordsOf L).1, s.size ≤ 1048576 := by
    unfold wordsOf
    have h1 := pieces_le L
    split
    · exact ⟨Nat.zero_le _, fun s hs => by cases hs⟩
    · split
      · exact ⟨by show (pieces L).length ≤ _; omega, fun s hs => by have := pieces_size L s hs; omega⟩
      · exact ⟨Nat.zero_le _, fun s hs => by cases hs⟩
  by_cases he : (wordsOf L).2 = 0
  · rw [if_pos he, if_pos he]
    by_cases h1 : ((wordsOf L).1.length : Int) < least
    · rw [if_pos h1, if_pos h1]
      simp only [inquestref01_Numbers.j0]
      rw [if_pos trivial]
      exact ⟨_, _, rfl, rfl, Nat.zero_le _⟩
    · rw [if_neg h1, if_neg h1]
      simp only [inquestref01_Numbers.j0, decide_eq_true_eq]
      by_cases h2 : ((wordsOf L).1.length : Int) > many
      · rw [if_pos h2, if_pos h2]
        exact ⟨_, _, rfl, rfl, Nat.zero_le _⟩
      · rw [if_neg h2, if_neg h2]
        obtain ⟨⟨ns, nse⟩, h3, h4, h5⟩ := numbers_both most hm0 hm (wordsOf L).1 (by omega) hwt.2 (wordsOf L).1.length (k + 1) k 0 [] (Nat.zero_le _) rfl (by omega) (by omega) rfl
        exact ⟨ns, nse, h3, h4, by simp at h5; omega⟩
  · rw [if_neg he, if_neg he]
    exact ⟨_, _, rfl, rfl, Nat.zero_le _⟩

/-! ### what is written -/
theorem bytesOf_append (a b : ByteArray) : bytesOf (a ++ b) = bytesOf a ++ bytesOf b := by simp [bytesOf]
theorem digit_text (d : Nat) (h : d < 10) : bytesOf ((⟨#[48, 49, 50, 51, 52, 53, 54, 55, 56, 57]⟩ : ByteArray).extract d (d + 1)) = [(48 + d : Int)] := by
  have : d = 0 ∨ d = 1 ∨ d = 2 ∨ d = 3 ∨ d = 4 ∨ d = 5 ∨ d = 6 ∨ d = 7 ∨ d = 8 ∨ d = 9 := by omega
  rcases this with h | h | h | h | h | h | h | h | h | h <;> subst h <;> decide
theorem digits_step (k u : Nat) (hu : u < 4294967296) : inquestref01_digits.f (k + 1) (u : Int) = if (u : Int) < 10 then some ((⟨#[48, 49, 50, 51, 52, 53, 54, 55, 56, 57]⟩ : ByteArray).extract (u % 10) (u % 10 + 1)) else
    ((inquestref01_digits.f k ((u / 10 : Nat) : Int)).bind fun t => if t.size + 1 ≤ 9223372036854775807 then some (t ++ (⟨#[48, 49, 50, 51, 52, 53, 54, 55, 56, 57]⟩ : ByteArray).extract (u % 10) (u % 10 + 1)) else none) := by
  have hmod : Int.tmod (u : Int) 10 = ((u % 10 : Nat) : Int) := rfl
  have hdiv : Int.tdiv (u : Int) 10 = ((u / 10 : Nat) : Int) := rfl
  have e1 : (((u % 10 : Nat) : Int) + 1) % 4294967296 = ((u % 10 + 1 : Nat) : Int) := by omega
  have e2 : ((u / 10 : Nat) : Int) % 4294967296 = ((u / 10 : Nat) : Int) := by omega
  have ht := digit_text (u % 10) (by omega)
  have hsz : ((⟨#[48, 49, 50, 51, 52, 53, 54, 55, 56, 57]⟩ : ByteArray).extract (u % 10) (u % 10 + 1)).size = 1 := by rw [← bytesOf_length, ht]; rfl
  rw [inquestref01_digits.f]
  rw [hmod, hdiv, e1, e2, if_pos (by omega), if_pos (by omega), if_pos (by omega)]
  simp only [Int.toNat_natCast, hsz]
theorem digits_text (k : Nat) : ∀ (u : Nat), u < 4294967296 → u < 10 ^ (k + 1) → ∃ D, inquestref01_digits.f (k + 1) (u : Int) = some D ∧ bytesOf D = numText (u : Int) ∧ D.size ≤ k + 1 := by
  have small : ∀ (k u : Nat), u < 10 → ∃ D, inquestref01_digits.f (k + 1) (u : Int) = some D ∧ bytesOf D = numText (u : Int) ∧ D.size ≤ k + 1 := by
    intro k u h10
    have ht := digit_text (u % 10) (by omega)
    have hsz : ((⟨#[48, 49, 50, 51, 52, 53, 54, 55, 56, 57]⟩ : ByteArray).extract (u % 10) (u % 10 + 1)).size = 1 := by rw [← bytesOf_length, ht]; rfl
    rw [digits_step k u (by omega), if_pos (by omega)]
    refine ⟨_, rfl, ?_, by rw [hsz]; omega⟩
    rw [ht, numText, Int.toNat_natCast, Lib.decDigits, dif_pos (by omega)]
    simp only [List.map_cons, List.map_nil, digit_byte u (by omega)]
    have : u % 10 = u := by omega
    rw [this]
    simp
  induction k with
  | zero =>
    intro u hu hk
    exact small 0 u (by omega)
  | succ k ih =>
    intro u hu hk
    by_cases h10 : u < 10
    · exact small (k + 1) u h10
    · have ht := digit_text (u % 10) (by omega)
      have hsz : ((⟨#[48, 49, 50, 51, 52, 53, 54, 55, 56, 57]⟩ : ByteArray).extract (u % 10) (u % 10 + 1)).size = 1 := by rw [← bytesOf_length, ht]; rfl
      rw [Nat.pow_succ] at hk
      obtain ⟨D, h1, h2, h3⟩ := ih (u / 10) (by omega) (by omega)
      have h20 := Q.numText_le (u / 10) (by omega)
      rw [← h2, bytesOf_length] at h20
      rw [digits_step (k + 1) u hu, if_neg (by omega), h1]
      simp only [Option.bind_some]
      rw [if_pos (by omega)]
      refine ⟨_, rfl, ?_, by rw [ByteArray.size_append, hsz]; omega⟩
      rw [bytesOf_append, h2, ht, numText, numText, Int.toNat_natCast, Int.toNat_natCast]
      conv => rhs; rw [Lib.decDigits]
      rw [dif_neg h10]
      simp only [List.map_append, List.map_cons, List.map_nil, digit_byte (u % 10) (by omega)]
      simp
theorem digits_any (u : Int) (h : 0 ≤ u ∧ u < 4294967296) (k : Nat) (hk : 30 < k) : ∃ D, inquestref01_digits.f k u = some D ∧ bytesOf D = numText u ∧ D.size ≤ 21 := by
  obtain ⟨n, rfl⟩ := Int.eq_ofNat_of_zero_le h.1
  obtain ⟨D, h1, h2, h3⟩ := digits_text 19 n (by omega) (Nat.lt_of_lt_of_le (show n < 4294967296 by omega) (by decide))
  exact ⟨D, at_rounds (g := fun k => inquestref01_digits.f k (n : Int)) (fun k => inquestref01_digits.mono _ k) (by omega) h1, h2, Nat.le_trans h3 (by decide)⟩

theorem write_loop (B : List Int) (l : List Int) (hl : l.length ≤ 1048576) (hw : ∀ n ∈ l, 0 ≤ n ∧ n < 4294967296) (hB : B.length ≤ 1048576) (d : Nat) : ∀ (k i : Nat) (x : ByteArray), i ≤ l.length → l.length - i = d → d + 40 < k → bytesOf x = B ++ joinNums (l.take i) →
    inquestref01_Write.l0 k l x (i : Int) = some (B ++ joinNums l ++ [10]) := by
  have hjl : ∀ i, (joinNums (l.take i)).length ≤ 21 * 1048576 := fun i => by
    have := joinNums_le (l.take i) (fun x hx => hw x (List.mem_of_mem_take hx))
    rw [List.length_take] at this
    have : min i l.length ≤ 1048576 := by omega
    omega
  induction d with
  | zero =>
    intro k i x hi hd hk hx
    obtain ⟨k, rfl⟩ : ∃ m, k = m + 1 := ⟨k - 1, by omega⟩
    have : i = l.length := by omega
    subst this
    have hs := congrArg List.length hx
    rw [bytesOf_length, List.length_append] at hs
    have hj := hjl l.length
    rw [List.take_length] at hx
    have h10 : strOfNums [10] = (⟨#[10]⟩ : ByteArray) := ba_inj (data_ints [10])
    simp only [inquestref01_Write.l0, Option.bind_some]
    have z10 : (⟨#[10]⟩ : ByteArray).size = 1 := rfl
    rw [if_neg (by omega), h10, if_pos (by omega), if_pos (by rw [ByteArray.size_append]; omega), bytesOf_append, hx]
    rfl
  | succ d ih =>
    intro k i x hi hd hk hx
    obtain ⟨k, rfl⟩ : ∃ m, k = m + 1 := ⟨k - 1, by omega⟩
    have hlt : i < l.length := by omega
    have hs := congrArg List.length hx
    rw [bytesOf_length, List.length_append] at hs
    have hj := hjl i
    have hx0 : x.size ≤ 1048576 + 21 * 1048576 := by rw [hs]; exact Nat.add_le_add hB hj
    clear hs hj hjl
    have hx1 : x.size + 1 ≤ 9223372036854775807 := Nat.le_trans (Nat.add_le_add_right hx0 1) (by decide)
    have hx2 : ∀ n, n ≤ 21 → x.size + 1 + n ≤ 9223372036854775807 := fun n hn => Nat.le_trans (Nat.add_le_add (Nat.add_le_add_right hx0 1) hn) (by decide)
    have hx3 : ∀ n, n ≤ 21 → x.size + n ≤ 9223372036854775807 := fun n hn => Nat.le_trans (Nat.add_le_add hx0 hn) (by decide)
    have hi1 : i + 1 ≤ l.length := hlt
    have hd1 : l.length - (i + 1) = d := by clear hx hx0 hx1 hx2 hx3 hw; omega
    have hk1 : d + 40 < k := by clear hx hx0 hx1 hx2 hx3 hw; omega
    have hk2 : 30 < k := by clear hx hx0 hx1 hx2 hx3 hw; omega
    have hwr : -9223372036854775808 ≤ (i : Int) + 1 ∧ (i : Int) + 1 ≤ 9223372036854775807 := by clear hx hx0 hx1 hx2 hx3 hw; omega
    have hrd : rd l (i : Int) = l[i] := rd_lt hlt
    have hw64 : wrap64 ((i : Int) + 1) = ((i + 1 : Nat) : Int) := by rw [wrap_id hwr]; rfl
    have htk : l.take (i + 1) = l.take i ++ [l[i]] := by rw [List.take_add_one, List.getElem?_eq_getElem hlt]; rfl
    obtain ⟨D, h1, h2, h3⟩ := digits_any l[i] (hw _ (List.getElem_mem _)) k hk2
    have hc0 : (i : Int) < (l.length : Int) := Int.ofNat_lt.mpr hlt
    have hc1 : (0 : Int) ≤ (i : Int) := Int.natCast_nonneg i
    rw [inquestref01_Write.l0]
    rw [if_pos hc0]
    by_cases h0 : (i : Int) > 0
    · have h32 : bytesOf (⟨#[32]⟩ : ByteArray) = [32] := by decide
      rw [if_pos h0, if_pos hx1, if_pos hc1, hrd, h1]
      simp only [Option.bind_some]
      rw [if_pos (by rw [ByteArray.size_append]; exact hx2 _ h3), hw64]
      refine ih k (i + 1) _ hi1 hd1 hk1 ?_
      rw [bytesOf_append, bytesOf_append, h2, h32, hx, htk, joinNums_snoc, if_neg (by
        intro e
        have he := congrArg List.length e
        rw [List.length_take, List.length_nil, Nat.min_eq_left (Nat.le_of_lt hlt)] at he
        rw [he] at h0
        exact absurd h0 (by decide))]
      simp
    · have hi0 : i = 0 := Nat.eq_zero_of_not_pos (fun h => h0 (Int.ofNat_lt.mpr h))
      rw [if_neg h0, if_pos hc1, hrd, h1]
      simp only [Option.bind_some]
      rw [if_pos (hx3 _ h3), hw64]
      refine ih k (i + 1) _ hi1 hd1 hk1 ?_
      rw [bytesOf_append, h2, hx, htk, joinNums_snoc, if_pos (by rw [hi0]; rfl)]
      simp
theorem bytes_ints (L : List UInt8) : bytesOf (strOfNums (ints L)) = ints L := by
  unfold bytesOf
  rw [data_ints]
  rfl
theorem bytes_same (l : List Int) : inquestref00_Bytes.f l l = some true := by simp [inquestref00_Bytes.f]

theorem line_both (L : List UInt8) (hL : L.length ≤ 1048576) : ∃ r1 r2 r3, Q.lex_Line.f (ints L) = some (r1, r2, r3) ∧ inquestref01_Line.f (ints L) = some (r1, r2, r3) := by
  unfold Q.lex_Line.f inquestref01_Line.f
  have hsz : (ints L).length ≤ 140737488355328 := by rw [ints_length]; omega
  rw [if_pos hsz, if_pos hsz]
  by_cases h : (ints L).findIdx (· == 10) < (ints L).length
  · rw [if_pos h, if_pos h]
    refine ⟨_, _, _, rfl, ?_⟩
    have e1 : ∀ n, (ints L).take n = ints (L.take n) := fun n => by simp [ints]
    have e2 : ∀ n, (ints L).drop n = ints (L.drop n) := fun n => by simp [ints]
    rw [e1, e2, bytes_ints, bytes_ints]
  · rw [if_neg h, if_neg h]
    exact ⟨_, _, _, rfl, rfl⟩
end Go.Proofs.YtfdemglcjfdodaaDoor.Pure
