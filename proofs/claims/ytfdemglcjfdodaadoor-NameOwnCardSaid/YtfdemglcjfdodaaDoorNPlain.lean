/-
  Which names may be told: name.plain, and the two predicates of name.May.
-/
import Derived.Test.YtfdemglcjfdodaaDoorNSl
namespace Go.Proofs.YtfdemglcjfdodaaDoor.N
open Go.RowKit Go.Lib Go.Proofs.YtfdemglcjfdodaaDoorW.PrintWords Go.Proofs.YtfdemglcjfdodaaDoorW.PrintLast Go.Proofs.YtfdemglcjfdodaaDoorW.PrintMore
set_option linter.unusedVariables false

def oddR (r : Nat) : Bool := decide (r < 32) || decide (126 < r)
theorem odd (w : World) : PredAt Tryd.prog 75 #[] encR oddR w := fun W r _ => by
  unfold FnGives
  by_cases h1 : r < 32 <;> by_cases h2 : 126 < r
  all_goals
    have z1 : (r : Int) < 32 ↔ r < 32 := by omega
    have z2 : (126 : Int) < r ↔ 126 < r := by omega
    go_enter Tryd.func75, Tryd.ntmps75
    go_wp2
    all_goals first | (exfalso; omega) | (go_ret; exact ⟨by simp [oddR, h1, h2], 0, rfl⟩)

theorem empty_iff {s : ByteArray} : s.toList.isEmpty = decide (s.size = 0) := by
  rw [Lib.toList_data, Bool.eq_iff_iff, List.isEmpty_iff, decide_eq_true_iff, ← data_length]
  exact List.length_eq_zero_iff.symm
theorem ba_eta (t : ByteArray) : (⟨t.data.toList.toArray⟩ : ByteArray) = t := by simp

def plainB (s : ByteArray) : Bool := decide (s.size ≠ 0) && (decide (s.size ≤ 64) && (decide ((⟨(Lib.trimS s.data.toList [32]).toArray⟩ : ByteArray).toList = s.toList) && !decide (0 ≤ Lib.idxFunc oddR true s)))

set_option maxHeartbeats 1000000 in
theorem plain_no (s : ByteArray) (w : World) (h : s.toList.isEmpty = true ∨ (s.toList.isEmpty = false ∧ decide ((s.size : Int) ≤ 64) = false)) :
    Calls Tryd.prog 43 #[.string s] w fun e w' => e = .returned (.bool false) ∧ Below w.heap.size w w' := by
  rcases h with h | ⟨h, h2⟩
  · go_enter Tryd.func43, Tryd.ntmps43
    go_wp2
    go_ret
    exact ⟨rfl, Below.refl _ _⟩
  · go_enter Tryd.func43, Tryd.ntmps43
    go_wp2
    go_ret
    exact ⟨rfl, Below.refl _ _⟩
set_option maxHeartbeats 1000000 in
theorem plain_trim (s t : ByteArray) (w : World) (h : s.toList.isEmpty = false) (h2 : decide ((s.size : Int) ≤ 64) = true) (ht : Lib.trimS s.data.toList [32] = t.data.toList) (h3 : (t.toList == s.toList) = false) :
    Calls Tryd.prog 43 #[.string s] w fun e w' => e = .returned (.bool false) ∧ Below w.heap.size w w' := by
  have HT := Aside0.mk ht
  have HS := Aside0.mk (of_decide_eq_true h2)
  clear ht
  go_enter Tryd.func43, Tryd.ntmps43
  go_wp2_with fail
  refine (Tryd.strings_Trim_n s ⟨#[32]⟩ _ (by have := HS.out; omega) (by decide) (ascii_of_all (by decide))).mono ?_
  rintro e w1 ⟨rfl, hb⟩
  rw [HT.out, ba_eta]
  go_wp2_with fail
  go_ret
  exact ⟨rfl, hb⟩
set_option maxHeartbeats 1000000 in
theorem plain_yes (s t : ByteArray) (w : World) (h : s.toList.isEmpty = false) (h2 : decide ((s.size : Int) ≤ 64) = true) (ht : Lib.trimS s.data.toList [32] = t.data.toList) (h3 : (t.toList == s.toList) = true) :
    Calls Tryd.prog 43 #[.string s] w fun e w' => e = .returned (.bool (!decide (0 ≤ Lib.idxFunc oddR true s))) ∧ Below w.heap.size w w' := by
  have HT := Aside0.mk ht
  have HS := Aside0.mk (of_decide_eq_true h2)
  have HC := Aside0.mk (fun W => Tryd.strings_ContainsFunc 75 #[] (enters_of Tryd.func75 (by kernel_rfl) rfl) oddR s W (odd W))
  clear ht
  generalize decide (0 ≤ Lib.idxFunc oddR true s) = b at HC ⊢
  go_enter Tryd.func43, Tryd.ntmps43
  go_wp2_with fail
  refine (Tryd.strings_Trim_n s ⟨#[32]⟩ _ (by have := HS.out; omega) (by decide) (ascii_of_all (by decide))).mono ?_
  rintro e w1 ⟨rfl, hb⟩
  rw [HT.out, ba_eta]
  go_wp2_with fail
  refine (HC.out w1).mono ?_
  rintro e w2 ⟨rfl, hb2⟩
  go_wp2_with fail
  go_ret
  exact ⟨rfl, below_then hb hb.size hb2⟩

theorem plain (s : ByteArray) (w : World) : Calls Tryd.prog 43 #[.string s] w fun e w' => e = .returned (.bool (plainB s)) ∧ Below w.heap.size w w' := by
  unfold plainB
  by_cases h0 : s.size = 0
  · have := plain_no s w (.inl (by rw [empty_iff]; simpa using h0))
    simpa [h0] using this
  have he : s.toList.isEmpty = false := by rw [empty_iff]; simpa using h0
  by_cases h1 : s.size ≤ 64
  · have h1' : decide ((s.size : Int) ≤ 64) = true := by simp; omega
    have ht : Lib.trimS s.data.toList [32] = (⟨(Lib.trimS s.data.toList [32]).toArray⟩ : ByteArray).data.toList := by simp
    by_cases h2 : (⟨(Lib.trimS s.data.toList [32]).toArray⟩ : ByteArray).toList = s.toList
    · have := plain_yes s _ w he h1' ht (by rw [h2]; simp)
      rw [decide_eq_true (p := s.size ≠ 0) h0, decide_eq_true h1, decide_eq_true h2]
      simpa using this
    · have := plain_trim s _ w he h1' ht (beq_eq_false_iff_ne.2 h2)
      rw [decide_eq_false h2]
      simpa using this
  · have := plain_no s w (.inr ⟨he, by simp; omega⟩)
    rw [decide_eq_false h1]
    simpa using this

/-- Told, and may not be. -/
def badB (s : ByteArray) : Bool := decide (s.size ≠ 0) && !plainB s
def toldB (s : ByteArray) : Bool := decide (s.size ≠ 0)
set_option maxHeartbeats 1000000 in
theorem bad (w : World) : PredB 42 #[] Value.string badB w := by
  intro W s hb
  have HP := Aside0.mk (fun W => plain s W)
  have HB := Aside0.mk hb
  show Calls Tryd.prog 42 #[.string s] W _
  unfold badB
  generalize plainB s = b at HP ⊢
  by_cases h0 : s.size = 0
  · have he : s.toList.isEmpty = true := by rw [empty_iff]; simpa using h0
    rw [decide_eq_false (p := s.size ≠ 0) (by simpa using h0)]
    clear h0 hb
    go_enter Tryd.func42, Tryd.ntmps42
    go_wp2
    go_ret
    exact ⟨rfl, HB.out⟩
  · have he : s.toList.isEmpty = false := by rw [empty_iff]; simpa using h0
    rw [decide_eq_true (p := s.size ≠ 0) h0]
    clear h0 hb
    go_enter Tryd.func42, Tryd.ntmps42
    go_wp2_with fail
    refine (HP.out W).mono ?_
    rintro e w1 ⟨rfl, hb1⟩
    go_wp2_with fail
    go_ret
    exact ⟨rfl, below_then HB.out HB.out.size hb1⟩
set_option maxHeartbeats 1000000 in
theorem told (w : World) : PredB 44 #[] Value.string toldB w := by
  intro W s hb
  have HB := Aside0.mk hb
  show Calls Tryd.prog 44 #[.string s] W _
  unfold toldB
  by_cases h0 : s.size = 0
  · have he : s.toList.isEmpty = true := by rw [empty_iff]; simpa using h0
    rw [decide_eq_false (p := s.size ≠ 0) (by simpa using h0)]
    clear h0 hb
    go_enter Tryd.func44, Tryd.ntmps44
    go_wp2
    go_ret
    exact ⟨rfl, HB.out⟩
  · have he : s.toList.isEmpty = false := by rw [empty_iff]; simpa using h0
    rw [decide_eq_true (p := s.size ≠ 0) h0]
    clear h0 hb
    go_enter Tryd.func44, Tryd.ntmps44
    go_wp2
    go_ret
    exact ⟨rfl, HB.out⟩
end Go.Proofs.YtfdemglcjfdodaaDoor.N
