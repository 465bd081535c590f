/-
  The two laws on lines of numbers, in plain lists.
-/
import Derived.Test.YtfdemglcjfdodaaDoorQ3
import Derived.Test.YtfdemglcjfdodaaDoorPureLexA
namespace Go.Proofs.YtfdemglcjfdodaaDoor.Pure
open Go.RowKit Go.Proofs.YtfdemglcjfdodaaDoor.Q Go.Proofs.YtfdemglcjfdodaaDoor.Lx Go.Proofs.YtfdemglcjfdodaaDoorW.PrintWords Go.Proofs.YtfdemglcjfdodaaDoorW.PrintLast

theorem lives10 : inquestlaw01_lives.f 10 = some true := by decide +kernel
theorem lives_true (k : Nat) (hk : 10 ≤ k) : inquestlaw01_lives.f k = some true := at_rounds (g := inquestlaw01_lives.f) inquestlaw01_lives.mono hk lives10
theorem numText_pos (n : Int) : 0 < (numText n).length := by rw [numText, List.length_map]; exact dec_len_pos _
theorem joinNums_ge : ∀ (l : List Int), l.length ≤ (joinNums l).length
  | [] => by simp [joinNums]
  | x :: r => by
    have key : ∀ (r : List Int), r.length ≤ (r.flatMap (fun y => 32 :: numText y)).length := by
      intro r
      induction r with
      | nil => simp
      | cons y r ih => simp only [List.flatMap_cons, List.length_append, List.length_cons]; omega
    have := key r
    have := numText_pos x
    simp only [joinNums, List.length_append, List.length_cons]
    omega

theorem write_some (l : List Int) (h : ∀ n ∈ l, 0 ≤ n ∧ n < 4294967296) (hl : l.length ≤ 4294967296) : lex_Write.f ([] : List Int) l = some (joinNums l ++ [10]) := by
  unfold lex_Write.f
  rw [if_pos ⟨by simp; omega, h⟩]
  rfl
theorem rd_lt {l : List Int} {i : Nat} (h : i < l.length) : rd l (i : Int) = l[i] := by simp [rd, List.getD_eq_getElem?_getD, List.getElem?_eq_getElem h]

theorem once_loop (L : List UInt8) (hL : L.length ≤ 1048576) (most : Int) (l : List Int) (hj : joinNums l = ints L) (hr : ∀ n ∈ l, 0 ≤ n ∧ n ≤ most ∧ n < 4294967296) (d : Nat) : ∀ (k i : Nat), i ≤ l.length → l.length - i = d → d + 10 < k →
    inquestlaw01_LexOnce.l0 k (ints L) most l l (l.length : Int) (i : Int) = some true := by
  have hlen : l.length ≤ L.length := by
    have := joinNums_ge l
    rw [hj, ints_length] at this
    exact this
  induction d with
  | zero =>
    intro k i hi hd hk
    obtain ⟨k, rfl⟩ : ∃ m, k = m + 1 := ⟨k - 1, by omega⟩
    have : i = l.length := by omega
    subst this
    simp only [inquestlaw01_LexOnce.l0]
    rw [if_neg (by omega), write_some l (fun n hn => ⟨(hr n hn).1, (hr n hn).2.2⟩) (by omega)]
    simp only [Option.bind_some]
    have hlen2 : ((joinNums l ++ [10]).length : Int) = (L.length : Int) + 1 := by rw [hj]; simp [ints_length]
    have hw : wrap64 ((L.length : Int) + 1 - 1) = (L.length : Int) := by rw [wrap_id (by omega)]; omega
    rw [hlen2, hw]
    have hlast : rd (joinNums l ++ [10]) (L.length : Int) = 10 := by
      rw [hj]
      simp [rd, ints_length, List.getD_eq_getElem?_getD, List.getElem?_append]
    have htake : (joinNums l ++ [10]).take ((L.length : Int)).toNat = ints L := by
      rw [hj, Int.toNat_natCast, List.take_append_of_le_length (by rw [ints_length]; omega), List.take_of_length_le (by rw [ints_length]; omega)]
    rw [if_pos (by omega), if_pos (by omega), if_pos (by omega), if_pos hlast, if_pos (by omega), htake]
    unfold inquestref00_Bytes.f
    simp only [Option.bind_some]
    rw [if_pos (by simp), lives_true k (by omega)]
    rfl
  | succ d ih =>
    intro k i hi hd hk
    obtain ⟨k, rfl⟩ : ∃ m, k = m + 1 := ⟨k - 1, by omega⟩
    have hlt : i < l.length := by omega
    have hw : wrap64 ((i : Int) + 1) = ((i + 1 : Nat) : Int) := by rw [wrap_id (by omega)]; rfl
    have := hr l[i] (List.getElem_mem _)
    simp only [inquestlaw01_LexOnce.l0]
    rw [if_pos (by omega), if_pos (by omega), if_pos (by omega), rd_lt hlt, if_neg (by omega), hw]
    exact ih k (i + 1) (by omega) (by omega) (by omega)

theorem LexOnce (L : List UInt8) (hL : L.length ≤ 1048576) (most : Int) (hm : 0 ≤ most) : ∃ k, inquestlaw01_LexOnce.f k (ints L) most = some true := by
  refine ⟨L.length + 20, ?_⟩
  unfold inquestlaw01_LexOnce.f
  obtain ⟨l, e, h1, h2, h3⟩ := numbers_back L (by omega) (L.length + 20) (by omega) 0 (wrap64 (((ints L).length : Int) + 1)) most hm
  rw [h1]
  simp only [Option.bind_some]
  by_cases he : e = 0
  · rw [if_pos he]
    obtain ⟨hj, hr⟩ := h3 he
    have hlen : l.length ≤ L.length := by
      have := joinNums_ge l
      rw [hj, ints_length] at this
      exact this
    exact once_loop L hL most l hj hr l.length (L.length + 20) 0 (Nat.zero_le _) rfl (by omega)
  · rw [if_neg he, h2 he, if_pos (by simp), lives_true _ (by omega)]
    rfl

/-! ### a line that was written -/
/-- Numbers' text, as bytes. -/
def textOf (us : List Nat) : List UInt8 := join (us.map Lib.decDigits)
theorem joinNums_text (us : List Nat) : joinNums (us.map (fun u : Nat => (u : Int))) = ints (textOf us) := by
  refine joinNums_of _ _ ?_
  rw [List.map_map, List.map_map]
  apply List.map_congr_left
  intro u _
  simp [numText, ints]
theorem text_no (us : List Nat) : ∀ c ∈ textOf us, c.toNat ≠ 10 := by
  have key : ∀ (us : List Nat) (c : UInt8), c ∈ (us.map Lib.decDigits).flatMap (fun y => 32 :: y) → c.toNat ≠ 10 := by
    intro us
    induction us with
    | nil => intro c hc; simp at hc
    | cons u us ih =>
      intro c hc
      simp only [List.map_cons, List.flatMap_cons, List.mem_append, List.mem_cons] at hc
      rcases hc with (rfl | hc) | hc
      · decide
      · have := dec_digits u c hc; omega
      · exact ih c hc
  cases us with
  | nil => intro c hc; cases hc
  | cons u us =>
    intro c hc
    simp only [textOf, List.map_cons, join, List.mem_append] at hc
    rcases hc with hc | hc
    · have := dec_digits u c hc; omega
    · exact key us c hc
theorem dec_no32 (u : Nat) : (32 : UInt8) ∉ Lib.decDigits u := fun h => by have := dec_digits u 32 h; simp at this
theorem text_nil {us : List Nat} : textOf us = [] ↔ us = [] := by
  cases us with
  | nil => simp [textOf, join]
  | cons u us =>
    simp only [textOf, List.map_cons, join, List.append_eq_nil_iff, dec_ne_nil, false_and, reduceCtorEq]
theorem pieces_text (us : List Nat) (h : us ≠ []) : (pieces (textOf us)).map (·.data.toList) = us.map Lib.decDigits := by
  cases us with
  | nil => exact absurd rfl h
  | cons u us =>
    have hn : ∀ y ∈ Lib.decDigits u :: us.map Lib.decDigits, (32 : UInt8) ∉ y := by
      intro y hy
      rcases List.mem_cons.1 hy with rfl | hy
      · exact dec_no32 u
      · obtain ⟨v, _, rfl⟩ := List.mem_map.1 hy
        exact dec_no32 v
    rw [pieces_data]
    have hc := count_join (Lib.decDigits u) (us.map Lib.decDigits) hn
    have hs := split_join (Lib.decDigits u) (us.map Lib.decDigits) hn
    rw [textOf, List.map_cons, hc, hs]

theorem numbers_fwd_loop (us : List Nat) (most : Int) (hu : ∀ u ∈ us, u < 4294967296 ∧ (u : Int) ≤ most) (t : List ByteArray) (ht : t.map (·.data.toList) = us.map Lib.decDigits) (hlen : us.length ≤ 4294967200) (d : Nat) : ∀ (k i : Nat), i ≤ us.length → us.length - i = d → d < k →
    lex_Numbers.l0 k most ((us.take i).map (fun u : Nat => (u : Int))) t (t.length : Int) (i : Int) = some (us.map (fun u : Nat => (u : Int)), 0) := by
  have hl : t.length = us.length := by simpa using congrArg List.length ht
  induction d with
  | zero =>
    intro k i hi hd hk
    obtain ⟨k, rfl⟩ : ∃ m, k = m + 1 := ⟨k - 1, by omega⟩
    have : i = us.length := by omega
    subst this
    simp only [lex_Numbers.l0]
    rw [if_neg (by omega), List.take_length]
  | succ d ih =>
    intro k i hi hd hk
    obtain ⟨k, rfl⟩ : ∃ m, k = m + 1 := ⟨k - 1, by omega⟩
    have hlt : i < us.length := by omega
    have hr : rdOf ByteArray.empty t (i : Int) = t[i] := by simp [rdOf, List.getD_eq_getElem?_getD, List.getElem?_eq_getElem (show i < t.length by omega)]
    have hd' : (t[i]).data.toList = Lib.decDigits us[i] := by
      have h1 : (t.map (·.data.toList))[i]? = (us.map Lib.decDigits)[i]? := by rw [ht]
      simpa [List.getElem?_eq_getElem hlt, List.getElem?_eq_getElem (show i < t.length by omega)] using h1
    have hw : wrap64 ((i : Int) + 1) = ((i + 1 : Nat) : Int) := by rw [wrap_id (by omega)]; rfl
    obtain ⟨h1, h2⟩ := hu us[i] (List.getElem_mem _)
    simp only [lex_Numbers.l0]
    rw [if_pos (by omega), if_pos (by omega), if_pos (by omega), hr, number_fwd t[i] us[i] most h1 h2 hd']
    simp only [Option.bind_some]
    rw [if_pos trivial, if_pos (by simp; omega), hw]
    have := ih k (i + 1) (by omega) (by omega) (by omega)
    rw [List.take_add_one, List.getElem?_eq_getElem hlt, List.map_append] at this
    exact this

theorem numbers_fwd (us : List Nat) (most least many : Int) (hu : ∀ u ∈ us, u < 4294967296 ∧ (u : Int) ≤ most) (hT : (textOf us).length ≤ 4294967200) (hlen : us.length ≤ 4294967200) (k : Nat) (hk : (textOf us).length + us.length + 2 < k) :
    lex_Numbers.f k (ints (textOf us)) least many most = if (us.length : Int) < least then some ([], 5) else if (us.length : Int) > many then some ([], 5) else some (us.map (fun u : Nat => (u : Int)), 0) := by
  unfold lex_Numbers.f
  rw [words_some _ hT k (by omega)]
  simp only [Option.bind_some]
  by_cases h0 : us = []
  · subst h0
    rw [if_pos (text_nil.2 rfl), if_pos rfl]
    simp only [List.length_nil]
    split
    · rfl
    · split
      · rfl
      · exact numbers_fwd_loop [] most hu [] rfl (by simp) 0 k 0 (Nat.zero_le _) rfl (by omega)
  · rw [if_neg (fun h => h0 (text_nil.1 h))]
    have hp := pieces_text us h0
    have hl : (pieces (textOf us)).length = us.length := by simpa using congrArg List.length hp
    have hne : ∀ s ∈ pieces (textOf us), s.data.toList ≠ [] := by
      intro s hs
      have hm : s.data.toList ∈ (pieces (textOf us)).map (·.data.toList) := List.mem_map_of_mem hs
      rw [hp] at hm
      obtain ⟨u, _, hu⟩ := List.mem_map.1 hm
      rw [← hu]
      exact dec_ne_nil u
    rw [if_pos hne]
    · simp only [hl, if_true]
      split
      · rfl
      · split
        · rfl
        · have := numbers_fwd_loop us most hu (pieces (textOf us)) hp hlen us.length k 0 (Nat.zero_le _) rfl (by omega)
          rw [hl] at this
          exact this

theorem numbers_same (d : Nat) : ∀ (k : Nat) (l : List Int), l.length = d → d < k → inquestref00_Numbers.l0 k l l = some true := by
  induction d with
  | zero =>
    intro k l hl hk
    obtain ⟨k, rfl⟩ : ∃ m, k = m + 1 := ⟨k - 1, by omega⟩
    simp only [inquestref00_Numbers.l0]
    rw [if_neg (by omega)]
  | succ d ih =>
    intro k l hl hk
    obtain ⟨k, rfl⟩ : ∃ m, k = m + 1 := ⟨k - 1, by omega⟩
    simp only [inquestref00_Numbers.l0]
    rw [if_pos (by omega), if_pos (by omega), if_pos (by omega), if_pos trivial, if_pos (by omega), if_pos (by omega)]
    exact ih k _ (by simp; omega) (by omega)

theorem LexBack (l B : List Int) (hl : l.length ≤ 1048576) (hB : B.length ≤ 1048576) (hr : ∀ x ∈ l, 0 ≤ x ∧ x < 4294967296) : ∃ k, inquestlaw01_LexBack.f k l B = some true := by
  obtain ⟨us, rfl⟩ : ∃ us : List Nat, l = us.map (fun u : Nat => (u : Int)) := by
    refine ⟨l.map Int.toNat, ?_⟩
    rw [List.map_map]
    conv => lhs; rw [← List.map_id l]
    apply List.map_congr_left
    intro x hx
    have := hr x hx
    simp
    omega
  simp only [List.length_map] at hl
  have hu : ∀ u ∈ us, u < 4294967296 ∧ (u : Int) ≤ 4294967295 := by
    intro u hu
    have := hr (u : Int) (List.mem_map_of_mem hu)
    omega
  have hT : (textOf us).length ≤ 21 * us.length := by
    have := joinNums_le _ hr
    rw [joinNums_text, ints_length, List.length_map] at this
    exact this
  refine ⟨(textOf us).length + us.length + 30, ?_⟩
  unfold inquestlaw01_LexBack.f
  rw [write_some _ hr (by simp; omega), joinNums_text]
  simp only [Option.bind_some]
  rw [if_pos (by simp [ints_length]; omega)]
  have hidx : (ints (textOf us) ++ [10] ++ B).findIdx (· == 10) = (textOf us).length := by
    rw [List.append_assoc, List.findIdx_append]
    have hno : (ints (textOf us)).findIdx (· == 10) = (ints (textOf us)).length := by
      rw [List.findIdx_eq_length]
      intro x hx
      obtain ⟨c, hc, rfl⟩ := List.mem_map.1 hx
      have := text_no us c hc
      simp
      omega
    rw [hno, if_neg (by omega), ints_length]
    simp [List.findIdx_cons]
  have hline : lex_Line.f (ints (textOf us) ++ [10] ++ B) = some (ints (textOf us), B, 0) := by
    unfold lex_Line.f
    rw [hidx, if_pos (by simp [ints_length]; omega), if_pos (by simp [ints_length])]
    have e1 : (ints (textOf us) ++ [10] ++ B).take (textOf us).length = ints (textOf us) := by
      rw [List.append_assoc, List.take_append_of_le_length (by rw [ints_length]; omega), List.take_of_length_le (by rw [ints_length]; omega)]
    have e2 : (ints (textOf us) ++ [10] ++ B).drop ((textOf us).length + 1) = B := by
      rw [List.drop_append, List.drop_of_length_le (by simp [ints_length])]
      simp [ints_length]
    rw [e1, e2]
  rw [hline]
  simp only [Option.bind_some]
  rw [if_pos trivial]
  unfold inquestref00_Bytes.f
  simp only [Option.bind_some, BEq.rfl, Bool.not_true]
  have hk : (textOf us).length + us.length + 30 = ((textOf us).length + us.length + 29) + 1 := by omega
  rw [hk]
  simp only [inquestlaw01_LexBack.j0]
  rw [if_neg (by simp)]
  rw [numbers_fwd us _ _ _ hu (by omega) (by omega) _ (by omega), numbers_fwd us _ _ _ hu (by omega) (by omega) _ (by omega)]
  simp only [List.length_map]
  rw [wrap_id (by omega), wrap_id (by omega), if_neg (by omega), if_neg (by omega), if_pos (by omega)]
  simp only [Option.bind_some]
  rw [if_pos trivial]
  unfold inquestref00_Numbers.f
  rw [if_pos rfl, numbers_same us.length _ _ (by simp) (by omega)]
  simp only [Option.bind_some]
  rw [if_pos trivial, if_pos trivial, lives_true _ (by omega)]
  rfl
end Go.Proofs.YtfdemglcjfdodaaDoor.Pure
