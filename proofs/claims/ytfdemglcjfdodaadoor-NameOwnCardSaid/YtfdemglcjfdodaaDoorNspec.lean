/-
  Names, in plain Lean: what is called how, what finds what; that the two agree where no name stands twice. No program in sight.
-/
import Derived.Test.YtfdemglcjfdodaaDoorPlainLex
import Derived.Lib.SlicesS
import Derived.Lib.AtoiAllCases
import Derived.Lib.ItoaMem
namespace Go.Proofs.YtfdemglcjfdodaaDoor.N
open Go.Lib
set_option linter.unusedVariables false

/-- The parts of a number read back. -/
theorem dec_inj (u v : Nat) (hu : u < 9223372036854775808) (hv : v < 9223372036854775808) (h : decDigits u = decDigits v) : u = v := by
  have h1 := Lx.parse_of_dec 9223372036854775808 (by decide) u (by omega)
  have h2 := Lx.parse_of_dec 9223372036854775808 (by decide) v (by omega)
  rw [h] at h1
  rw [h1] at h2
  injection h2

/-- An own name: a letter, a number. -/
def ownB (c : UInt8) (i : Nat) : ByteArray := ⟨(c :: decDigits i).toArray⟩
theorem ownB_data (c : UInt8) (i : Nat) : (ownB c i).data.toList = c :: decDigits i := by simp [ownB]
theorem ownB_inj {c d : UInt8} {i j : Nat} (hi : i < 9223372036854775808) (hj : j < 9223372036854775808) (h : ownB c i = ownB d j) : c = d ∧ i = j := by
  have h1 := congrArg (fun b : ByteArray => b.data.toList) h
  simp only [ownB_data] at h1
  injection h1 with h2 h3
  exact ⟨h2, dec_inj i j hi hj h3⟩
theorem ownB_size (c : UInt8) (i : Nat) : (ownB c i).size = (decDigits i).length + 1 := by simp [ownB, ByteArray.size]
theorem ownB_pos (c : UInt8) (i : Nat) : (ownB c i).size ≠ 0 := by rw [ownB_size]; omega

/-- The place that an own name tells. -/
def placeF (s : ByteArray) (c : UInt8) (most : Nat) : Option Nat := (List.range most).find? (fun i => decide (ownB c i = s))
theorem placeF_some {s : ByteArray} {c : UInt8} {most i : Nat} (h : placeF s c most = some i) : s = ownB c i ∧ i < most := by
  unfold placeF at h
  have h1 := List.find?_some h
  have h2 := List.mem_of_find?_eq_some h
  exact ⟨(of_decide_eq_true h1).symm, List.mem_range.1 h2⟩
theorem placeF_none {s : ByteArray} {c : UInt8} {most : Nat} (h : ∀ i, i < most → s ≠ ownB c i) : placeF s c most = none := by
  unfold placeF
  rw [List.find?_eq_none]
  intro i hi e
  exact h i (List.mem_range.1 hi) (of_decide_eq_true e).symm
theorem placeF_own {c : UInt8} {most i : Nat} (hm : most < 9223372036854775808) (hi : i < most) : placeF (ownB c i) c most = some i := by
  rcases h : placeF (ownB c i) c most with _ | j
  · unfold placeF at h
    rw [List.find?_eq_none] at h
    exact absurd (decide_eq_true rfl) (h i (List.mem_range.2 hi))
  · obtain ⟨h1, h2⟩ := placeF_some h
    rw [(ownB_inj (by omega) (by omega) h1).2]
theorem placeF_other {c d : UInt8} {most i : Nat} (hm : most < 9223372036854775808) (hi : i < 9223372036854775808) (h : c ≠ d) : placeF (ownB c i) d most = none :=
  placeF_none (fun j hj e => h (ownB_inj hi (by omega) e).1)
theorem placeF_beyond {c : UInt8} {most i : Nat} (hi : i < 9223372036854775808) (h : most ≤ i) : placeF (ownB c i) c most = none :=
  placeF_none (fun j hj e => by have := (ownB_inj hi (by omega) e).2; omega)
theorem placeF_not {s : ByteArray} {c : UInt8} {most : Nat} (h : s.data.toList.head? ≠ some c) : placeF s c most = none :=
  placeF_none (fun j hj e => h (by rw [e, ownB_data]; rfl))

/-- The first list that holds a name, and where. -/
def inFrom : List (List ByteArray) → ByteArray → Nat → Option (Nat × Nat)
  | [], _, _ => none
  | l :: r, s, k => if 0 ≤ idxOfS l s ∧ s.size ≠ 0 then some (k, (idxOfS l s).toNat) else inFrom r s (k + 1)
/-- The first kind of which it is an own name, and which. -/
def ownFrom : List (UInt8 × Nat) → ByteArray → Nat → Option (Nat × Nat)
  | [], _, _ => none
  | (c, m) :: r, s, k => match placeF s c m with
    | some i => some (k, i)
    | none => ownFrom r s (k + 1)

theorem inFrom_hit {s : ByteArray} {i : Nat} (hs : s.size ≠ 0) : ∀ (ls : List (List ByteArray)) (j k0 : Nat), (∀ j', j' < j → s ∉ ls.getD j' []) → j < ls.length → idxOfS (ls.getD j []) s = (i : Int) → inFrom ls s k0 = some (k0 + j, i)
  | [], j, _, _, hj, _ => absurd hj (Nat.not_lt_zero _)
  | l :: r, 0, k0, _, _, h => by
    have h' : idxOfS l s = (i : Int) := h
    unfold inFrom
    rw [h', if_pos ⟨by omega, hs⟩]
    simp
  | l :: r, j + 1, k0, hb, hj, h => by
    unfold inFrom
    rw [if_neg]
    · rw [inFrom_hit hs r j (k0 + 1) (fun j' hj' => hb (j' + 1) (by omega)) (by simpa using hj) h]
      congr 2
      omega
    · intro hc
      exact hb 0 (by omega) ((idxOfS_nonneg_iff l s).1 hc.1)
theorem inFrom_miss {s : ByteArray} : ∀ (ls : List (List ByteArray)) (k0 : Nat), (∀ l ∈ ls, s ∉ l) → inFrom ls s k0 = none
  | [], _, _ => rfl
  | l :: r, k0, h => by
    unfold inFrom
    rw [if_neg]
    · exact inFrom_miss r (k0 + 1) (fun l' hl => h l' (List.mem_cons_of_mem _ hl))
    · intro hc
      exact h l (List.mem_cons_self ..) ((idxOfS_nonneg_iff l s).1 hc.1)
theorem inFrom_mem {s : ByteArray} {k i : Nat} : ∀ (ls : List (List ByteArray)) (k0 : Nat), inFrom ls s k0 = some (k, i) → ∃ l ∈ ls, s ∈ l
  | [], _, h => by cases h
  | l :: r, k0, h => by
    unfold inFrom at h
    split at h
    · rename_i hc
      exact ⟨l, List.mem_cons_self .., (idxOfS_nonneg_iff l s).1 hc.1⟩
    · obtain ⟨l', hl, hm⟩ := inFrom_mem r (k0 + 1) h
      exact ⟨l', List.mem_cons_of_mem _ hl, hm⟩
theorem ownFrom_hit {s : ByteArray} {i : Nat} : ∀ (ps : List (UInt8 × Nat)) (j k0 : Nat), (∀ j', j' < j → placeF s (ps.getD j' (0, 0)).1 (ps.getD j' (0, 0)).2 = none) → j < ps.length → placeF s (ps.getD j (0, 0)).1 (ps.getD j (0, 0)).2 = some i → ownFrom ps s k0 = some (k0 + j, i)
  | [], j, _, _, hj, _ => absurd hj (Nat.not_lt_zero _)
  | (c, m) :: r, 0, k0, _, _, h => by
    have h' : placeF s c m = some i := h
    unfold ownFrom
    rw [h']
    simp
  | (c, m) :: r, j + 1, k0, hb, hj, h => by
    have h' : placeF s c m = none := hb 0 (by omega)
    unfold ownFrom
    rw [h']
    simp only
    rw [ownFrom_hit r j (k0 + 1) (fun j' hj' => hb (j' + 1) (by omega)) (by simpa using hj) h]
    congr 2
    omega
theorem ownFrom_miss {s : ByteArray} : ∀ (ps : List (UInt8 × Nat)) (k0 : Nat), (∀ p ∈ ps, placeF s p.1 p.2 = none) → ownFrom ps s k0 = none
  | [], _, _ => rfl
  | (c, m) :: r, k0, h => by
    have h' : placeF s c m = none := h (c, m) (List.mem_cons_self ..)
    unfold ownFrom
    rw [h']
    exact ownFrom_miss r (k0 + 1) (fun p hp => h p (List.mem_cons_of_mem _ hp))

/-- The literal of the i-th one of a kind. -/
def litF (inp nl : Nat) (out bad con : List Int) (k i : Nat) : Int :=
  if k = 0 then 2 * (1 + i) else if k = 1 then 2 * (1 + inp + i) else if k = 2 then out.getD i 0 else if k = 3 then bad.getD i 0 else con.getD i 0
def kindsOf (inp nl : Nat) (out bad con : List Int) : List (UInt8 × Nat) := [(105, inp), (108, nl), (111, out.length), (98, bad.length), (99, con.length)]
/-- What a name finds. -/
def findF (inp nl ng : Nat) (out bad con : List Int) (ls : List (List ByteArray)) (s : ByteArray) : Int × Int :=
  match inFrom ls s 0 with
  | some (k, i) => (litF inp nl out bad con k i, 0)
  | none => match ownFrom (kindsOf inp nl out bad con) s 0 with
    | some (k, i) => (litF inp nl out bad con k i, 0)
    | none => match placeF s 97 ng with
      | some i => (2 * (1 + inp + nl + i), 0)
      | none => (0, 7)
/-- What a variable is called. -/
def callF (inp nl : Nat) (l0 l1 : List ByteArray) (v : Nat) : ByteArray :=
  if v ≤ inp then (if v ≤ l0.length ∧ (l0.getD (v - 1) ByteArray.empty).size ≠ 0 then l0.getD (v - 1) ByteArray.empty else ownB 105 (v - 1))
  else if v - inp ≤ nl then (if v - inp ≤ l1.length ∧ (l1.getD (v - inp - 1) ByteArray.empty).size ≠ 0 then l1.getD (v - inp - 1) ByteArray.empty else ownB 108 (v - inp - 1))
  else ownB 97 (v - inp - nl - 1)

/-- The names that are told. -/
def toldOf (l : List ByteArray) : List ByteArray := l.filter (fun s => decide (s.size ≠ 0))
/-- All names: kind by kind the own ones and the told ones; then the gates'. -/
def blocks (inp nl ng no nb nc : Nat) (l0 l1 l2 l3 l4 : List ByteArray) : List (List ByteArray) :=
  [(List.range inp).map (ownB 105), toldOf l0, (List.range nl).map (ownB 108), toldOf l1, (List.range no).map (ownB 111), toldOf l2, (List.range nb).map (ownB 98), toldOf l3, (List.range nc).map (ownB 99), toldOf l4, (List.range ng).map (ownB 97)]
def Apart (inp nl ng no nb nc : Nat) (l0 l1 l2 l3 l4 : List ByteArray) : Prop := (blocks inp nl ng no nb nc l0 l1 l2 l3 l4).flatten.Pairwise (· ≠ ·)

theorem idx_first {l : List ByteArray} {i : Nat} (h : (toldOf l).Pairwise (· ≠ ·)) (hi : i < l.length) (hs : (l.getD i ByteArray.empty).size ≠ 0) : idxOfS l (l.getD i ByteArray.empty) = (i : Int) := by
  have h1 := List.pairwise_filter.1 h
  have h2 := idxOfS_hit l l.length i (l.getD i ByteArray.empty) hi (Nat.le_refl _) rfl (fun j hj e => ?_)
  · rwa [List.take_length] at h2
  · have hjl : j < l.length := by omega
    have e1 : l.getD j ByteArray.empty = l[j] := by simp [List.getD_eq_getElem?_getD, List.getElem?_eq_getElem hjl]
    have e2 : l.getD i ByteArray.empty = l[i] := by simp [List.getD_eq_getElem?_getD, List.getElem?_eq_getElem hi]
    rw [e1, e2] at e
    rw [e2] at hs
    exact (List.pairwise_iff_getElem.1 h1) j i hjl hi hj (by rw [e]; simpa using hs) (by simpa using hs) e

section
variable {inp nl ng : Nat} {out bad con : List Int} {l0 l1 l2 l3 l4 : List ByteArray}

theorem Apart.block (h : Apart inp nl ng out.length bad.length con.length l0 l1 l2 l3 l4) (i j : Nat) (hi : i < 11) (hj : j < 11) (hij : i < j) : ∀ x ∈ (blocks inp nl ng out.length bad.length con.length l0 l1 l2 l3 l4).getD i [], ∀ y ∈ (blocks inp nl ng out.length bad.length con.length l0 l1 l2 l3 l4).getD j [], x ≠ y := by
  have h1 := (List.pairwise_flatten.1 h).2
  have hl : (blocks inp nl ng out.length bad.length con.length l0 l1 l2 l3 l4).length = 11 := rfl
  have h2 := List.pairwise_iff_getElem.1 h1 i j (by omega) (by omega) hij
  rw [List.getD_eq_getElem?_getD, List.getElem?_eq_getElem (by omega), List.getD_eq_getElem?_getD, List.getElem?_eq_getElem (by omega)]
  exact h2
theorem Apart.each (h : Apart inp nl ng out.length bad.length con.length l0 l1 l2 l3 l4) (l : List ByteArray) (hl : l ∈ [l0, l1, l2, l3, l4]) : (toldOf l).Pairwise (· ≠ ·) := by
  refine (List.pairwise_flatten.1 h).1 _ ?_
  simp only [List.mem_cons, List.not_mem_nil, or_false] at hl
  rcases hl with rfl | rfl | rfl | rfl | rfl <;> simp [blocks]
theorem mem_told {l : List ByteArray} {s : ByteArray} (h : s ∈ l) (hs : s.size ≠ 0) : s ∈ toldOf l := List.mem_filter.2 ⟨h, by simpa using hs⟩
/-- A told name is not told in another list. -/
theorem Apart.other (h : Apart inp nl ng out.length bad.length con.length l0 l1 l2 l3 l4) {s : ByteArray} (hs : s.size ≠ 0) (k : Nat) (hk : k < 5) (hm : s ∈ [l0, l1, l2, l3, l4].getD k []) (j : Nat) (hj : j < k) : s ∉ [l0, l1, l2, l3, l4].getD j [] := by
  intro hn
  have hb := h.block (2 * j + 1) (2 * k + 1) (by omega) (by omega) (by omega)
  have e : ∀ t, t < 5 → (blocks inp nl ng out.length bad.length con.length l0 l1 l2 l3 l4).getD (2 * t + 1) [] = toldOf ([l0, l1, l2, l3, l4].getD t []) := by
    intro t ht
    have : t = 0 ∨ t = 1 ∨ t = 2 ∨ t = 3 ∨ t = 4 := by omega
    rcases this with rfl | rfl | rfl | rfl | rfl <;> rfl
  rw [e j (by omega), e k hk] at hb
  exact hb s (mem_told hn hs) s (mem_told hm hs) rfl
theorem find_told (h : Apart inp nl ng out.length bad.length con.length l0 l1 l2 l3 l4) (k : Nat) (hk : k < 5) (i : Nat) (hi : i < ([l0, l1, l2, l3, l4].getD k []).length) (hs : (([l0, l1, l2, l3, l4].getD k []).getD i ByteArray.empty).size ≠ 0) :
    findF inp nl ng out bad con [l0, l1, l2, l3, l4] (([l0, l1, l2, l3, l4].getD k []).getD i ByteArray.empty) = (litF inp nl out bad con k i, 0) := by
  have hm : ([l0, l1, l2, l3, l4].getD k []).getD i ByteArray.empty ∈ [l0, l1, l2, l3, l4].getD k [] := by
    rw [List.getD_eq_getElem?_getD (l := [l0, l1, l2, l3, l4].getD k []), List.getElem?_eq_getElem hi]
    exact List.getElem_mem _
  have hmem : [l0, l1, l2, l3, l4].getD k [] ∈ [l0, l1, l2, l3, l4] := by
    have : k = 0 ∨ k = 1 ∨ k = 2 ∨ k = 3 ∨ k = 4 := by omega
    rcases this with rfl | rfl | rfl | rfl | rfl <;> simp
  unfold findF
  rw [inFrom_hit hs [l0, l1, l2, l3, l4] k 0 (fun j hj => h.other hs k hk hm j hj) (by simpa using hk) (idx_first (h.each _ hmem) hi hs)]
  simp

theorem own_apart (h : Apart inp nl ng out.length bad.length con.length l0 l1 l2 l3 l4) (s : ByteArray) (hs : s.size ≠ 0)
    (ho : ∃ j, j < 6 ∧ s ∈ (blocks inp nl ng out.length bad.length con.length l0 l1 l2 l3 l4).getD (2 * j) []) : ∀ l ∈ [l0, l1, l2, l3, l4], s ∉ l := by
  obtain ⟨j, hj, hsj⟩ := ho
  have key : ∀ t, t < 5 → s ∉ [l0, l1, l2, l3, l4].getD t [] := by
    intro t ht hn
    have e : (blocks inp nl ng out.length bad.length con.length l0 l1 l2 l3 l4).getD (2 * t + 1) [] = toldOf ([l0, l1, l2, l3, l4].getD t []) := by
      have : t = 0 ∨ t = 1 ∨ t = 2 ∨ t = 3 ∨ t = 4 := by omega
      rcases this with rfl | rfl | rfl | rfl | rfl <;> rfl
    have hm := mem_told hn hs
    rw [← e] at hm
    rcases Nat.lt_or_ge (2 * j) (2 * t + 1) with h1 | h1
    · exact h.block (2 * j) (2 * t + 1) (by omega) (by omega) h1 s hsj s hm rfl
    · exact h.block (2 * t + 1) (2 * j) (by omega) (by omega) (by omega) s hm s hsj rfl
  intro l hl
  simp only [List.mem_cons, List.not_mem_nil, or_false] at hl
  rcases hl with rfl | rfl | rfl | rfl | rfl
  · exact key 0 (by omega)
  · exact key 1 (by omega)
  · exact key 2 (by omega)
  · exact key 3 (by omega)
  · exact key 4 (by omega)

theorem mem_own (c : UInt8) {i m : Nat} (h : i < m) : ownB c i ∈ (List.range m).map (ownB c) := List.mem_map.2 ⟨i, List.mem_range.2 h, rfl⟩

/-- An own name finds its literal. -/
theorem find_own (hsz : inp + nl + ng + out.length + bad.length + con.length < 1000000) (h : Apart inp nl ng out.length bad.length con.length l0 l1 l2 l3 l4) (k : Nat) (hk : k < 5) (i : Nat) (hi : i < ((kindsOf inp nl out bad con).getD k (0, 0)).2) :
    findF inp nl ng out bad con [l0, l1, l2, l3, l4] (ownB ((kindsOf inp nl out bad con).getD k (0, 0)).1 i) = (litF inp nl out bad con k i, 0) := by
  have hk' : k = 0 ∨ k = 1 ∨ k = 2 ∨ k = 3 ∨ k = 4 := by omega
  have hsm : ((kindsOf inp nl out bad con).getD k (0, 0)).2 < 1000000 := by
    rcases hk' with rfl | rfl | rfl | rfl | rfl <;> simp [kindsOf] <;> omega
  have hin : inFrom [l0, l1, l2, l3, l4] (ownB ((kindsOf inp nl out bad con).getD k (0, 0)).1 i) 0 = none := by
    refine inFrom_miss _ _ (own_apart h _ (ownB_pos _ _) ⟨k, by omega, ?_⟩)
    rcases hk' with rfl | rfl | rfl | rfl | rfl <;> exact mem_own _ hi
  have how : ownFrom (kindsOf inp nl out bad con) (ownB ((kindsOf inp nl out bad con).getD k (0, 0)).1 i) 0 = some (0 + k, i) := by
    refine ownFrom_hit _ k 0 (fun j hj => placeF_other ?_ (by omega) ?_) ?_ (placeF_own (by omega) hi)
    · have : j = 0 ∨ j = 1 ∨ j = 2 ∨ j = 3 ∨ j = 4 := by omega
      rcases this with rfl | rfl | rfl | rfl | rfl <;> simp [kindsOf] <;> omega
    · have : j = 0 ∨ j = 1 ∨ j = 2 ∨ j = 3 := by omega
      rcases hk' with rfl | rfl | rfl | rfl | rfl <;> rcases this with rfl | rfl | rfl | rfl <;> first | omega | (simp [kindsOf])
    · simp [kindsOf]; omega
  unfold findF
  rw [hin, how]
  simp
theorem find_gate (hsz : inp + nl + ng + out.length + bad.length + con.length < 1000000) (h : Apart inp nl ng out.length bad.length con.length l0 l1 l2 l3 l4) (i : Nat) (hi : i < ng) :
    findF inp nl ng out bad con [l0, l1, l2, l3, l4] (ownB 97 i) = ((2 * (1 + inp + nl + i) : Int), 0) := by
  have hin : inFrom [l0, l1, l2, l3, l4] (ownB 97 i) 0 = none := inFrom_miss _ _ (own_apart h _ (ownB_pos _ _) ⟨5, by omega, mem_own _ hi⟩)
  have how : ownFrom (kindsOf inp nl out bad con) (ownB 97 i) 0 = none := by
    refine ownFrom_miss _ _ (fun p hp => ?_)
    simp only [kindsOf, List.mem_cons, List.not_mem_nil, or_false] at hp
    rcases hp with rfl | rfl | rfl | rfl | rfl <;> exact placeF_other (by dsimp; omega) (by omega) (by dsimp; decide)
  unfold findF
  rw [hin, how, placeF_own (by omega) hi]
/-- No other number does. -/
theorem find_beyond (hsz : inp + nl + ng + out.length + bad.length + con.length < 1000000) (k : Nat) (hk : k < 6) (i : Nat) (hi : ((kindsOf inp nl out bad con ++ [(97, ng)]).getD k (0, 0)).2 ≤ i) (hi2 : i < 1000000) :
    findF inp nl ng out bad con [l0, l1, l2, l3, l4] (ownB ((kindsOf inp nl out bad con ++ [(97, ng)]).getD k (0, 0)).1 i) = (0, 7) ∨
    ((findF inp nl ng out bad con [l0, l1, l2, l3, l4] (ownB ((kindsOf inp nl out bad con ++ [(97, ng)]).getD k (0, 0)).1 i)).2 = 0 ∧ ∃ l ∈ [l0, l1, l2, l3, l4], ownB ((kindsOf inp nl out bad con ++ [(97, ng)]).getD k (0, 0)).1 i ∈ l) := by
  have hk' : k = 0 ∨ k = 1 ∨ k = 2 ∨ k = 3 ∨ k = 4 ∨ k = 5 := by omega
  rcases hin : inFrom [l0, l1, l2, l3, l4] (ownB ((kindsOf inp nl out bad con ++ [(97, ng)]).getD k (0, 0)).1 i) 0 with _ | ⟨k', i'⟩
  · refine .inl ?_
    have key : ∀ p ∈ kindsOf inp nl out bad con ++ [(97, ng)], placeF (ownB ((kindsOf inp nl out bad con ++ [(97, ng)]).getD k (0, 0)).1 i) p.1 p.2 = none := by
      intro p hp
      simp only [kindsOf, List.cons_append, List.nil_append, List.mem_cons, List.not_mem_nil, or_false] at hp
      rcases hk' with rfl | rfl | rfl | rfl | rfl | rfl <;> rcases hp with rfl | rfl | rfl | rfl | rfl | rfl <;> first | exact placeF_beyond (by omega) hi | exact placeF_other (by omega) (by omega) (by simp [kindsOf])
    unfold findF
    rw [hin, ownFrom_miss _ _ (fun p hp => key p (List.mem_append_left _ hp)), key (97, ng) (List.mem_append_right _ (List.mem_cons_self ..))]
  · refine .inr ⟨?_, inFrom_mem _ _ hin⟩
    unfold findF
    rw [hin]

/-- What a variable is called finds it. -/
theorem find_call (hsz : inp + nl + ng + out.length + bad.length + con.length < 1000000) (h : Apart inp nl ng out.length bad.length con.length l0 l1 l2 l3 l4) (v : Nat) (h1 : 1 ≤ v) (hv : v ≤ inp + nl + ng) :
    findF inp nl ng out bad con [l0, l1, l2, l3, l4] (callF inp nl l0 l1 v) = (2 * (v : Int), 0) := by
  unfold callF
  by_cases hi : v ≤ inp
  · rw [if_pos hi]
    by_cases ht : v ≤ l0.length ∧ (l0.getD (v - 1) ByteArray.empty).size ≠ 0
    · rw [if_pos ht]
      have := find_told (bad := bad) (con := con) (out := out) h 0 (by omega) (v - 1) (show v - 1 < l0.length by omega) ht.2
      refine this.trans ?_
      simp only [litF, if_true, Prod.mk.injEq, and_true]
      omega
    · rw [if_neg ht]
      have := find_own (bad := bad) (con := con) (out := out) hsz h 0 (by omega) (v - 1) (show v - 1 < inp by omega)
      refine this.trans ?_
      simp only [litF, if_true, Prod.mk.injEq, and_true]
      omega
  · rw [if_neg hi]
    by_cases hl : v - inp ≤ nl
    · rw [if_pos hl]
      by_cases ht : v - inp ≤ l1.length ∧ (l1.getD (v - inp - 1) ByteArray.empty).size ≠ 0
      · rw [if_pos ht]
        have := find_told (bad := bad) (con := con) (out := out) h 1 (by omega) (v - inp - 1) (show v - inp - 1 < l1.length by omega) ht.2
        refine this.trans ?_
        simp only [litF, if_true, Prod.mk.injEq, and_true]
        rw [if_neg (by omega)]
        omega
      · rw [if_neg ht]
        have := find_own (bad := bad) (con := con) (out := out) hsz h 1 (by omega) (v - inp - 1) (show v - inp - 1 < nl by omega)
        refine this.trans ?_
        simp only [litF, if_true, Prod.mk.injEq, and_true]
        rw [if_neg (by omega)]
        omega
    · rw [if_neg hl]
      rw [find_gate hsz h (v - inp - nl - 1) (by omega)]
      simp only [Prod.mk.injEq, and_true]
      omega
end
end Go.Proofs.YtfdemglcjfdodaaDoor.N
