/-
  What the printed words and numbers of a line are, in plain lists.
-/
import Derived.Test.YtfdemglcjfdodaaDoorQ1
import Derived.Test.YtfdemglcjfdodaaDoorPlainLex
namespace Go.Proofs.YtfdemglcjfdodaaDoor.Pure
open Go.RowKit Go.Proofs.YtfdemglcjfdodaaDoor.Q Go.Proofs.YtfdemglcjfdodaaDoor.Lx Go.Proofs.YtfdemglcjfdodaaDoorW.PrintWords Go.Proofs.YtfdemglcjfdodaaDoorW.PrintLast

/-- Bytes as numbers. -/
def ints (l : List UInt8) : List Int := l.map fun b => (b.toNat : Int)
theorem ints_length (l : List UInt8) : (ints l).length = l.length := by simp [ints]
theorem ints_append (l r : List UInt8) : ints (l ++ r) = ints l ++ ints r := by simp [ints]
theorem data_ints (l : List UInt8) : (strOfNums (ints l)).data.toList = l := by
  rw [strOfNums_data, ints, List.map_map]
  conv => rhs; rw [← List.map_id l]
  apply List.map_congr_left
  intro b _
  simp
/-- Numbers that are bytes are the numbers of bytes. -/
theorem of_bytes {l : List Int} (h : ∀ x ∈ l, 0 ≤ x ∧ x ≤ 255) : ∃ L : List UInt8, l = ints L := by
  refine ⟨l.map fun x => UInt8.ofNat x.toNat, ?_⟩
  rw [ints, List.map_map]
  conv => lhs; rw [← List.map_id l]
  apply List.map_congr_left
  intro x hx
  have := h x hx
  simp [UInt8.toNat_ofNat']
  omega
theorem toList_nil {s : ByteArray} : s.toList = [] ↔ s.data.toList = [] := by rw [Lib.toList_data]
theorem wrap_id {i : Int} (h : -9223372036854775808 ≤ i ∧ i ≤ 9223372036854775807) : wrap64 i = i := by
  unfold wrap64; omega

/-! ### words -/
theorem words_loop (t : List ByteArray) (ht : t.length ≤ 4294967296) (d : Nat) : ∀ (k i : Nat), i ≤ t.length → t.length - i = d → d < k →
    lex_Words.l0 k t t (t.length : Int) (i : Int) = some (if ∀ s ∈ t.drop i, s.data.toList ≠ [] then (t, 0) else ([], 5)) := by
  induction d with
  | zero =>
    intro k i hi hd hk
    obtain ⟨k, rfl⟩ : ∃ m, k = m + 1 := ⟨k - 1, by omega⟩
    have : i = t.length := by omega
    subst this
    simp only [lex_Words.l0]
    rw [if_neg (by omega), if_pos (by simp)]
  | succ d ih =>
    intro k i hi hd hk
    obtain ⟨k, rfl⟩ : ∃ m, k = m + 1 := ⟨k - 1, by omega⟩
    have hlt : i < t.length := by omega
    have hr : rdOf ByteArray.empty t (i : Int) = t[i] := by simp [rdOf, List.getD_eq_getElem?_getD, List.getElem?_eq_getElem hlt]
    simp only [lex_Words.l0]
    rw [if_pos (by omega), if_pos (by omega), if_pos (by omega), hr]
    have hw : wrap64 ((i : Int) + 1) = ((i + 1 : Nat) : Int) := by rw [wrap_id (by omega)]; rfl
    rw [List.drop_eq_getElem_cons hlt]
    by_cases he : (t[i]).toList = []
    · rw [if_pos he, if_neg]
      intro h
      exact h t[i] List.mem_cons_self (toList_nil.1 he)
    · rw [if_neg he, hw, ih k (i + 1) (by omega) (by omega) (by omega)]
      congr 1
      by_cases hall : ∀ s ∈ t.drop (i + 1), s.data.toList ≠ []
      · rw [if_pos hall, if_pos]
        intro s hs
        rcases List.mem_cons.1 hs with rfl | hs
        · exact fun h => he (toList_nil.2 h)
        · exact hall s hs
      · rw [if_neg hall, if_neg]
        intro h
        exact hall (fun s hs => h s (List.mem_cons_of_mem _ hs))

/-- The pieces of a line, as the split tells them. -/
def pieces (L : List UInt8) : List ByteArray := Lib.splitB ⟨#[32]⟩ 0 (Lib.countB (strOfNums (ints L)) ⟨#[32]⟩) (strOfNums (ints L))
theorem pieces_data (L : List UInt8) : (pieces L).map (·.data.toList) = Lib.splitK [32] 0 (Lib.count L [32]) L := by
  unfold pieces
  rw [Lib.splitB_data, data_ints]
  unfold Lib.countB
  rw [data_ints]
theorem pieces_length (L : List UInt8) : (pieces L).length = Lib.count L [32] + 1 := by
  unfold pieces
  have := Lib.splitB_all ⟨#[32]⟩ (by decide) 0 _ (strOfNums (ints L)) rfl
  rw [this]
  unfold Lib.countB
  rw [data_ints]
theorem pieces_le (L : List UInt8) : (pieces L).length ≤ L.length + 1 := by
  rw [pieces_length, Lib.count_one]
  have := List.count_le_length (a := (32 : UInt8)) (l := L)
  omega
theorem words_some (L : List UInt8) (hL : L.length ≤ 4294967200) (k : Nat) (hk : L.length + 1 < k) :
    lex_Words.f k (ints L) = some (if L = [] then ([], 0) else if ∀ s ∈ pieces L, s.data.toList ≠ [] then (pieces L, 0) else ([], 5)) := by
  unfold lex_Words.f
  by_cases h0 : L = []
  · subst h0
    rw [if_pos (by simp [ints]), if_pos rfl]
  · have h1 : 0 < L.length := List.length_pos_iff.2 h0
    have hs : strings_Split.f (strOfNums (ints L)) (⟨#[32]⟩ : ByteArray) = some (pieces L) := by
      unfold strings_Split.f
      rw [if_pos ⟨by rw [strOfNums_size, ints_length]; omega, by decide⟩]
      rfl
    have hp := pieces_le L
    rw [if_neg (by rw [ints_length]; omega), hs, if_neg h0]
    simp only [Option.bind_some]
    have := words_loop (pieces L) (by omega) (pieces L).length k 0 (Nat.zero_le _) rfl (by omega)
    simpa using this

/-! ### a number -/
theorem bt_first (s : ByteArray) (h : 0 < s.size) : ∃ c r, s.data.toList = c :: r ∧ bt s 0 = (c.toNat : Int) := by
  have h' := data_length s
  cases hl : s.data.toList with
  | nil => rw [hl] at h'; simp at h'; omega
  | cons c r =>
    refine ⟨c, r, rfl, ?_⟩
    rw [← rd_bytesOf]
    simp [rd, bytesOf, hl]
/-- What is read as a number has its digits. -/
theorem number_back (p : ByteArray) (most : Int) (hp : p.size ≤ 281474976710656) (hm : 0 ≤ most) :
    ∃ n e, lex_Number.f p most = some (n, e) ∧ (e = 0 → numText n = ints p.data.toList ∧ 0 ≤ n ∧ n ≤ most ∧ n < 4294967296) := by
  unfold lex_Number.f
  rw [if_pos hp]
  by_cases h0 : p.size = 0
  · rw [if_pos h0]; exact ⟨_, _, rfl, fun h => by omega⟩
  · rw [if_neg h0]
    obtain ⟨c, r, hc, hb⟩ := bt_first p (by omega)
    by_cases hz : 1 < p.size ∧ bt p 0 = 48
    · rw [if_pos hz]; exact ⟨_, _, rfl, fun h => by omega⟩
    · rw [if_neg hz]
      split
      · rcases hu : Lib.parseUintB 32 p.data.toList with u | _ | _
        · skip
          simp only
          split
          · refine ⟨_, _, rfl, fun _ => ?_⟩
            have hne : p.data.toList ≠ [] := by rw [hc]; simp
            unfold Lib.parseUintB at hu
            rw [if_neg hne] at hu
            have hle := parseUintM_le _ _ 0 u (by omega) hu
            have ht := parse_text _ p.data.toList u hne (by
              by_cases h1 : 1 < p.size
              · right
                intro c' r' e
                rw [hc] at e
                cases e
                intro h48
                exact hz ⟨h1, by rw [hb, h48]; rfl⟩
              · left
                rw [data_length]
                omega) hu
            refine ⟨?_, by omega, by omega, by omega⟩
            rw [numText, Int.toNat_natCast, ht]
            rfl
          · exact ⟨_, _, rfl, fun h => by omega⟩
        · exact ⟨_, _, rfl, fun h => by omega⟩
        · exact ⟨_, _, rfl, fun h => by omega⟩
      · exact ⟨_, _, rfl, fun h => by omega⟩
theorem digits_contains (c : UInt8) (h : 48 ≤ c.toNat ∧ c.toNat ≤ 57) : digitsSet.data.toList.contains c = true := by
  have hc : c = UInt8.ofNat c.toNat := by simp
  have : c.toNat = 48 ∨ c.toNat = 49 ∨ c.toNat = 50 ∨ c.toNat = 51 ∨ c.toNat = 52 ∨ c.toNat = 53 ∨ c.toNat = 54 ∨ c.toNat = 55 ∨ c.toNat = 56 ∨ c.toNat = 57 := by omega
  rw [hc]
  rcases this with h | h | h | h | h | h | h | h | h | h <;> rw [h] <;> decide
/-- A number's digits are read as it. -/
theorem number_fwd (p : ByteArray) (u : Nat) (most : Int) (hu : u < 4294967296) (hm : (u : Int) ≤ most) (hp : p.data.toList = Lib.decDigits u) : lex_Number.f p most = some ((u : Int), 0) := by
  have hs : p.size = (Lib.decDigits u).length := by rw [← hp, data_length]
  have h20 := decDigits_le 19 u (by have : (10:Nat) ^ 20 = 100000000000000000000 := by decide
                                    omega)
  have hpos := dec_len_pos u
  unfold lex_Number.f
  obtain ⟨c, r, hc, hb⟩ := bt_first p (by omega)
  rw [if_pos (by omega), if_neg (by omega), if_neg, if_pos]
  · have : Lib.parseUintB 32 p.data.toList = .ok u := by
      unfold Lib.parseUintB
      rw [hp, if_neg (dec_ne_nil u)]
      exact parse_of_dec _ (by decide) u (by omega)
    rw [this]
    simp only
    rw [if_pos hm]
  · rw [hp]
    exact trim_all _ _ (fun c hc => digits_contains c (dec_digits u c hc))
  · rintro ⟨h1, h2⟩
    by_cases h10 : u < 10
    · rw [hs, Lib.decDigits, dif_pos h10] at h1
      simp at h1
    · obtain ⟨c', r', e, _, h48⟩ := dec_head u (by omega)
      rw [hp, e] at hc
      cases hc
      omega

/-! ### numbers -/
/-- Numbers by their texts. -/
theorem joinNums_of (ns : List Int) (ps : List (List UInt8)) (h : ns.map numText = ps.map ints) : joinNums ns = ints (join ps) := by
  have key : ∀ (r : List Int) (q : List (List UInt8)), r.map numText = q.map ints → r.flatMap (fun y => 32 :: numText y) = ints (q.flatMap (fun y => 32 :: y)) := by
    intro r
    induction r with
    | nil =>
      intro q h
      have : q = [] := by simpa using h.symm
      subst this
      rfl
    | cons x r ih =>
      intro q h
      cases q with
      | nil => simp at h
      | cons y q =>
        simp only [List.map_cons, List.cons.injEq] at h
        simp only [List.flatMap_cons, ints_append, h.1, ih q h.2]
        rfl
  cases ns with
  | nil =>
    have : ps = [] := by simpa using h.symm
    subst this
    rfl
  | cons x r =>
    cases ps with
    | nil => simp at h
    | cons y q =>
      simp only [List.map_cons, List.cons.injEq] at h
      simp only [joinNums, join, ints_append, h.1, key r q h.2]

theorem numbers_loop (most : Int) (hm : 0 ≤ most) (t : List ByteArray) (ht : t.length ≤ 4294967296) (hts : ∀ s ∈ t, s.size ≤ 281474976710656) (d : Nat) : ∀ (k i : Nat) (out : List Int), i ≤ t.length → t.length - i = d → d < k → out.length = i →
    ∃ l e, lex_Numbers.l0 k most out t (t.length : Int) (i : Int) = some (l, e) ∧ (e ≠ 0 → l = []) ∧ (e = 0 → ∃ ns, l = out ++ ns ∧ ns.map numText = ((t.drop i).map (·.data.toList)).map ints ∧ ∀ n ∈ ns, 0 ≤ n ∧ n ≤ most ∧ n < 4294967296) := by
  induction d with
  | zero =>
    intro k i out hi hd hk ho
    obtain ⟨k, rfl⟩ : ∃ m, k = m + 1 := ⟨k - 1, by omega⟩
    have : i = t.length := by omega
    subst this
    simp only [lex_Numbers.l0]
    rw [if_neg (by omega)]
    exact ⟨_, _, rfl, fun h => absurd rfl h, fun _ => ⟨[], by simp, by simp, fun n hn => by cases hn⟩⟩
  | succ d ih =>
    intro k i out hi hd hk ho
    obtain ⟨k, rfl⟩ : ∃ m, k = m + 1 := ⟨k - 1, by omega⟩
    have hlt : i < t.length := by omega
    have hr : rdOf ByteArray.empty t (i : Int) = t[i] := by simp [rdOf, List.getD_eq_getElem?_getD, List.getElem?_eq_getElem hlt]
    obtain ⟨n, e, hn, hn0⟩ := number_back t[i] most (hts _ (List.getElem_mem _)) hm
    simp only [lex_Numbers.l0]
    rw [if_pos (by omega), if_pos (by omega), if_pos (by omega), hr, hn]
    simp only [Option.bind_some]
    have hw : wrap64 ((i : Int) + 1) = ((i + 1 : Nat) : Int) := by rw [wrap_id (by omega)]; rfl
    by_cases he : e = 0
    · rw [if_pos he, if_pos (by omega), hw]
      obtain ⟨l, e', h1, h2, h3⟩ := ih k (i + 1) (out ++ [n]) (by omega) (by omega) (by omega) (by simp [ho])
      refine ⟨l, e', h1, h2, fun h => ?_⟩
      obtain ⟨ns, rfl, h4, h5⟩ := h3 h
      obtain ⟨hn1, hn2⟩ := hn0 he
      refine ⟨n :: ns, by simp, ?_, ?_⟩
      · rw [List.drop_eq_getElem_cons hlt]
        simp only [List.map_cons, hn1, h4]
      · intro x hx
        rcases List.mem_cons.1 hx with rfl | hx
        · exact hn2
        · exact h5 x hx
    · rw [if_neg he]
      exact ⟨_, _, rfl, fun _ => rfl, fun h => absurd h he⟩

/-- What a line of numbers is read as is written as the line. -/
theorem numbers_back (L : List UInt8) (hL : L.length ≤ 4294967200) (k : Nat) (hk : L.length + 2 < k) (least many most : Int) (hm : 0 ≤ most) :
    ∃ l e, lex_Numbers.f k (ints L) least many most = some (l, e) ∧ (e ≠ 0 → l = []) ∧ (e = 0 → joinNums l = ints L ∧ ∀ n ∈ l, 0 ≤ n ∧ n ≤ most ∧ n < 4294967296) := by
  unfold lex_Numbers.f
  rw [words_some L hL k (by omega)]
  simp only [Option.bind_some]
  have fin : ∀ (ps : List ByteArray), ps.length ≤ L.length + 1 → (∀ s ∈ ps, s.size ≤ 281474976710656) → join (ps.map (·.data.toList)) = L →
      ∃ l e, (if (ps.length : Int) < least then (some (([] : List Int), (5 : Int))) else (if (ps.length : Int) > many then (some (([] : List Int), 5)) else (lex_Numbers.l0 k most ([] : List Int) ps (ps.length : Int) 0))) = some (l, e) ∧ (e ≠ 0 → l = []) ∧ (e = 0 → joinNums l = ints L ∧ ∀ n ∈ l, 0 ≤ n ∧ n ≤ most ∧ n < 4294967296) := by
    intro ps hps hsz hj
    split
    · exact ⟨_, _, rfl, fun _ => rfl, fun h => by omega⟩
    · split
      · exact ⟨_, _, rfl, fun _ => rfl, fun h => by omega⟩
      · obtain ⟨l, e, h1, h2, h3⟩ := numbers_loop most hm ps (by omega) hsz ps.length k 0 [] (Nat.zero_le _) rfl (by omega) rfl
        refine ⟨l, e, h1, h2, fun h => ?_⟩
        obtain ⟨ns, rfl, h4, h5⟩ := h3 h
        refine ⟨?_, h5⟩
        rw [joinNums_of l _ h4, List.drop_zero, hj]
  by_cases h0 : L = []
  · subst h0
    rw [if_pos rfl, if_pos rfl]
    exact fin [] (by simp) (fun s hs => by cases hs) rfl
  · rw [if_neg h0]
    by_cases hall : ∀ s ∈ pieces L, s.data.toList ≠ []
    · rw [if_pos hall, if_pos rfl]
      have hj : join ((pieces L).map (·.data.toList)) = L := by rw [pieces_data, join_splitK]
      refine fin (pieces L) (pieces_le L) (fun s hs => ?_) hj
      have hmem : s.data.toList ∈ (pieces L).map (·.data.toList) := List.mem_map_of_mem hs
      have key : ∀ (q : List (List UInt8)) (x : List UInt8), x ∈ q → x.length ≤ (join q).length := by
        intro q x hx
        cases q with
        | nil => cases hx
        | cons y q =>
          simp only [join, List.length_append]
          rcases List.mem_cons.1 hx with rfl | hx
          · omega
          · have : ∀ (q : List (List UInt8)), x ∈ q → x.length ≤ (q.flatMap (fun y => 32 :: y)).length := by
              intro q
              induction q with
              | nil => intro h; cases h
              | cons z q ih =>
                intro h
                simp only [List.flatMap_cons, List.length_append, List.length_cons]
                rcases List.mem_cons.1 h with rfl | h
                · omega
                · have := ih h; omega
            have := this q hx
            omega
      have := key _ _ hmem
      rw [hj, data_length] at this
      omega
    · rw [if_neg hall, if_neg (by decide)]
      exact ⟨_, _, rfl, fun _ => rfl, fun h => by omega⟩
end Go.Proofs.YtfdemglcjfdodaaDoor.Pure
