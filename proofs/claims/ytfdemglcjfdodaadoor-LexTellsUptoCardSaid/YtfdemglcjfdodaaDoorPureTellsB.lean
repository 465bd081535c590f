/-
  The document's functions of layer 1 answer what the program's do: words, lines of numbers, what is written.
-/
import Derived.Test.YtfdemglcjfdodaaDoorPureTellsA
namespace Go.Proofs.YtfdemglcjfdodaaDoor.Pure
open Go.RowKit Go.Proofs.YtfdemglcjfdodaaDoor.Lx Go.Proofs.YtfdemglcjfdodaaDoorW.PrintWords Go.Proofs.YtfdemglcjfdodaaDoorW.PrintLast
open Go.Proofs.YtfdemglcjfdodaaDoor.Q (lex_Number.f lex_Numbers.f lex_Numbers.l0 lex_Words.f joinNums numText joinNums_snoc)
open Go.Proofs.YtfdemglcjfdodaaDoor.R

/-! ### words -/
theorem join_snoc (I : List (List UInt8)) (x : List UInt8) : join (I ++ [x]) = join I ++ (if I = [] then [] else [32]) ++ x := by
  cases I with
  | nil => simp [join]
  | cons y r => simp [join]
theorem ba_inj {a b : ByteArray} (h : a.data.toList = b.data.toList) : a = b := by
  cases a; cases b
  simp at h
  rw [h]
theorem map_data_inj {a b : List ByteArray} (h : a.map (·.data.toList) = b.map (·.data.toList)) : a = b := by
  induction a generalizing b with
  | nil => simp at h; exact h.symm ▸ rfl
  | cons x r ih =>
    cases b with
    | nil => simp at h
    | cons y q =>
      simp only [List.map_cons, List.cons.injEq] at h
      rw [ba_inj h.1, ih h.2]
theorem toList_append (a b : ByteArray) : (a ++ b).data.toList = a.data.toList ++ b.data.toList := by
  simp

/-- Words that make a line are its pieces. -/
theorem pieces_of (L : List UInt8) (W : List ByteArray) (hne : W ≠ []) (hj : join (W.map (·.data.toList)) = L) (h32 : ∀ y ∈ W.map (·.data.toList), (32 : UInt8) ∉ y) : W = pieces L := by
  apply map_data_inj
  rw [pieces_data]
  cases hw : W.map (·.data.toList) with
  | nil => simp at hw; exact absurd hw hne
  | cons x r =>
    rw [hw] at hj h32
    rw [← hj, count_join x r h32, split_join x r h32]

theorem rwords_check (t : List ByteArray) (ht : t.length ≤ 4294967296) (d : Nat) : ∀ (k i : Nat), i ≤ t.length → t.length - i = d → d < k →
    inquestref01_Words.l1 k t (i : Int) = some (if ∀ s ∈ t.drop i, s.data.toList ≠ [] then (t, 0) else ([], 5)) := by
  induction d with
  | zero =>
    intro k i hi hd hk
    obtain ⟨k, rfl⟩ : ∃ m, k = m + 1 := ⟨k - 1, by omega⟩
    have : i = t.length := by omega
    subst this
    simp only [inquestref01_Words.l1]
    rw [if_neg (by omega), if_pos (by simp)]
  | succ d ih =>
    intro k i hi hd hk
    obtain ⟨k, rfl⟩ : ∃ m, k = m + 1 := ⟨k - 1, by omega⟩
    have hlt : i < t.length := by omega
    have hr : rdOf ByteArray.empty t (i : Int) = t[i] := by simp [rdOf, List.getD_eq_getElem?_getD, List.getElem?_eq_getElem hlt]
    simp only [inquestref01_Words.l1]
    rw [if_pos (by omega), if_pos (by omega), hr]
    have hw : wrap64 ((i : Int) + 1) = ((i + 1 : Nat) : Int) := by rw [wrap_id (by omega)]; rfl
    rw [List.drop_eq_getElem_cons hlt]
    by_cases he : (t[i]).toList = []
    · rw [if_pos he, if_neg]
      intro h
      exact h t[i] List.mem_cons_self (toList_nil.1 he)
    · rw [if_neg he, hw, ih k (i + 1) (by omega) (by omega) (by omega)]
      congr 1
      by_cases hall : ∀ s ∈ t.drop (i + 1), s.data.toList ≠ []
      · rw [if_pos hall, if_pos]
        intro s hs
        rcases List.mem_cons.1 hs with rfl | hs
        · exact fun h => he (toList_nil.2 h)
        · exact hall s hs
      · rw [if_neg hall, if_neg]
        intro h
        exact hall (fun s hs => h s (List.mem_cons_of_mem _ hs))

theorem rwords_loop (L : List UInt8) (hL : L.length ≤ 1048576) (d : Nat) : ∀ (k i : Nat) (I : List ByteArray) (x : ByteArray), i ≤ L.length → L.length - i = d → d < k → I.length ≤ i → x.size ≤ i →
    join ((I ++ [x]).map (·.data.toList)) = L.take i → (∀ y ∈ (I ++ [x]).map (·.data.toList), (32 : UInt8) ∉ y) →
    ∃ k', k - d - 1 ≤ k' ∧ inquestref01_Words.l0 k (ints L) (I ++ [x]) (i : Int) = inquestref01_Words.l1 k' (pieces L) 0 := by
  induction d with
  | zero =>
    intro k i I x hi hd hk hI hx hj h32
    obtain ⟨k, rfl⟩ : ∃ m, k = m + 1 := ⟨k - 1, by omega⟩
    have : i = L.length := by omega
    subst this
    simp only [inquestref01_Words.l0]
    rw [if_neg (by rw [ints_length]; omega)]
    refine ⟨k, by omega, ?_⟩
    rw [List.take_length] at hj
    rw [← pieces_of L (I ++ [x]) (by simp) hj h32]
  | succ d ih =>
    intro k i I x hi hd hk hI hx hj h32
    obtain ⟨k, rfl⟩ : ∃ m, k = m + 1 := ⟨k - 1, by omega⟩
    have hlt : i < L.length := by omega
    have hrd : rd (ints L) (i : Int) = (L[i].toNat : Int) := by
      rw [rd_lt (by rw [ints_length]; exact hlt)]
      simp [ints]
    have hw : wrap64 ((i : Int) + 1) = ((i + 1 : Nat) : Int) := by rw [wrap_id (by omega)]; rfl
    have htk : L.take (i + 1) = L.take i ++ [L[i]] := by rw [List.take_add_one, List.getElem?_eq_getElem hlt]; rfl
    simp only [inquestref01_Words.l0]
    rw [if_pos (by rw [ints_length]; omega), if_pos (by omega), hrd]
    by_cases h : (L[i].toNat : Int) = 32
    · have hc : L[i] = 32 := by
        have : L[i].toNat = 32 := by omega
        exact UInt8.toNat_inj.1 this
      rw [if_pos h, if_pos (by simp; omega), hw]
      obtain ⟨k', h1, h2⟩ := ih k (i + 1) (I ++ [x]) ⟨#[]⟩ (by omega) (by omega) (by omega) (by simp; omega) (by show (0 : Nat) ≤ _; omega) (by
        rw [List.map_append, List.map_cons, List.map_nil, join_snoc, hj, htk, hc, if_neg (by simp)]
        simp) (by
        intro y hy
        rw [List.map_append, List.mem_append] at hy
        rcases hy with hy | hy
        · exact h32 y hy
        · simp at hy; subst hy; simp)
      exact ⟨k', by omega, h2⟩
    · have hlen : wrap64 (((I ++ [x]).length : Int) - 1) = (I.length : Int) := by
        rw [List.length_append, wrap_id (by simp; omega)]
        simp
      have hro : rdOf ByteArray.empty (I ++ [x]) (I.length : Int) = x := by simp [rdOf]
      have hset : ∀ y, (I ++ [x]).set (I.length : Int).toNat y = I ++ [y] := by intro y; simp
      have hsub : ((ints L).take (((i + 1 : Nat) : Int)).toNat).drop (i : Int).toNat = ints [L[i]] := by
        simp only [Int.toNat_natCast, ints, ← List.map_take, ← List.map_drop]
        rw [htk, List.drop_append_of_le_length (by simp; omega)]
        simp
      have hss : (strOfNums (ints [L[i]])).size = 1 := by rw [strOfNums_size]; rfl
      rw [if_neg h, hlen, if_pos (by omega), if_pos (by simp; omega), hw, if_pos (by omega), if_pos (by rw [ints_length]; omega), hro, hset, hsub, if_pos (by rw [hss]; omega)]
      have hdx : (x ++ strOfNums (ints [L[i]])).data.toList = x.data.toList ++ [L[i]] := by rw [toList_append, data_ints]
      obtain ⟨k', h1, h2⟩ := ih k (i + 1) I (x ++ strOfNums (ints [L[i]])) (by omega) (by omega) (by omega) (by omega) (by rw [ByteArray.size_append, hss]; omega) (by
        rw [List.map_append, List.map_cons, List.map_nil, join_snoc] at hj ⊢
        rw [hdx, htk, ← hj]
        simp) (by
        intro y hy
        rw [List.map_append, List.mem_append] at hy
        rcases hy with hy | hy
        · exact h32 y (by rw [List.map_append, List.mem_append]; exact .inl hy)
        · simp only [List.map_cons, List.map_nil, List.mem_singleton] at hy
          rw [hy, hdx, List.mem_append]
          rintro (h3 | h3)
          · exact h32 _ (by rw [List.map_append, List.mem_append]; exact .inr (by simp)) h3
          · simp at h3
            exact h (by rw [← h3]; rfl))
      exact ⟨k', by omega, h2⟩

/-- What the words of a line are. -/
def wordsOf (L : List UInt8) : List ByteArray × Int := if L = [] then ([], 0) else if ∀ s ∈ pieces L, s.data.toList ≠ [] then (pieces L, 0) else ([], 5)
theorem lex_words (L : List UInt8) (hL : L.length ≤ 1048576) (k : Nat) (hk : L.length + 1 < k) : lex_Words.f k (ints L) = some (wordsOf L) := words_some L (by omega) k hk
theorem ref_words (L : List UInt8) (hL : L.length ≤ 1048576) (k : Nat) (hk : 2 * L.length + 5 < k) : inquestref01_Words.f k (ints L) = some (wordsOf L) := by
  unfold inquestref01_Words.f wordsOf
  by_cases h0 : L = []
  · subst h0
    rw [if_pos (by simp [ints]), if_pos rfl]
  · have h1 : 0 < L.length := List.length_pos_iff.2 h0
    rw [if_neg (by rw [ints_length]; omega), if_neg h0]
    obtain ⟨k', hk', h⟩ := rwords_loop L hL L.length k 0 [] ⟨#[]⟩ (Nat.zero_le _) rfl (by omega) (Nat.zero_le _) (Nat.le_refl _) (by simp [join]) (by simp)
    have hp := pieces_le L
    have hc := rwords_check (pieces L) (by omega) (pieces L).length k' 0 (Nat.zero_le _) rfl (by omega)
    simp only [List.nil_append] at h
    exact h.trans (by simpa using hc)
theorem words_same (t : List ByteArray) (ht : t.length ≤ 4294967296) (d : Nat) : ∀ (k i : Nat), i ≤ t.length → t.length - i = d → d < k → inquestlaw01_words.l0 k t t (t.length : Int) (i : Int) = some true := by
  induction d with
  | zero =>
    intro k i hi hd hk
    obtain ⟨k, rfl⟩ : ∃ m, k = m + 1 := ⟨k - 1, by omega⟩
    simp only [inquestlaw01_words.l0]
    rw [if_neg (by omega)]
  | succ d ih =>
    intro k i hi hd hk
    obtain ⟨k, rfl⟩ : ∃ m, k = m + 1 := ⟨k - 1, by omega⟩
    have hw : wrap64 ((i : Int) + 1) = ((i + 1 : Nat) : Int) := by rw [wrap_id (by omega)]; rfl
    simp only [inquestlaw01_words.l0]
    rw [if_pos (by omega), if_pos (by omega), if_pos (by omega), if_pos (by omega), if_pos trivial, hw]
    exact ih k (i + 1) (by omega) (by omega) (by omega)
end Go.Proofs.YtfdemglcjfdodaaDoor.Pure
