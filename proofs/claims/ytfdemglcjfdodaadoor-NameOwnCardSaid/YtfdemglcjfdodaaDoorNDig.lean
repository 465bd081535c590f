/-
  The document's digits of a number.
-/
import Derived.Test.YtfdemglcjfdodaaDoorNPlace
namespace Go.Proofs.YtfdemglcjfdodaaDoor.N
open Go.RowKit Go.Lib Go.Proofs.YtfdemglcjfdodaaDoorW.PrintWords Go.Proofs.YtfdemglcjfdodaaDoorW.PrintLast Go.Proofs.YtfdemglcjfdodaaDoorW.PrintMore Lx
set_option linter.unusedVariables false

/-- A number's digits. -/
def numText (n : Int) : List Int := (Lib.decDigits n.toNat).map fun b => (b.toNat : Int)
theorem numText_le (u : Nat) (h : u < 4611686018427387904) : (numText (u : Int)).length ≤ 20 := by
  have := itoa_len u h
  rw [itoa_nonneg] at this
  simpa [numText] using this
theorem bytesOf_append (a b : ByteArray) : bytesOf (a ++ b) = bytesOf a ++ bytesOf b := by simp [bytesOf]
theorem digit_text (d : Nat) (h : d < 10) : bytesOf ((⟨#[48, 49, 50, 51, 52, 53, 54, 55, 56, 57]⟩ : ByteArray).extract d (d + 1)) = [(48 + d : Int)] := by
  have : d = 0 ∨ d = 1 ∨ d = 2 ∨ d = 3 ∨ d = 4 ∨ d = 5 ∨ d = 6 ∨ d = 7 ∨ d = 8 ∨ d = 9 := by omega
  rcases this with h | h | h | h | h | h | h | h | h | h <;> subst h <;> decide
theorem digits_step (k u : Nat) (hu : u < 4294967296) : inquestref01_digits.f (k + 1) (u : Int) = if (u : Int) < 10 then some ((⟨#[48, 49, 50, 51, 52, 53, 54, 55, 56, 57]⟩ : ByteArray).extract (u % 10) (u % 10 + 1)) else
    ((inquestref01_digits.f k ((u / 10 : Nat) : Int)).bind fun t => if t.size + 1 ≤ 9223372036854775807 then some (t ++ (⟨#[48, 49, 50, 51, 52, 53, 54, 55, 56, 57]⟩ : ByteArray).extract (u % 10) (u % 10 + 1)) else none) := by
  have hmod : Int.tmod (u : Int) 10 = ((u % 10 : Nat) : Int) := rfl
  have hdiv : Int.tdiv (u : Int) 10 = ((u / 10 : Nat) : Int) := rfl
  have e1 : (((u % 10 : Nat) : Int) + 1) % 4294967296 = ((u % 10 + 1 : Nat) : Int) := by omega
  have e2 : ((u / 10 : Nat) : Int) % 4294967296 = ((u / 10 : Nat) : Int) := by omega
  have ht := digit_text (u % 10) (by omega)
  have hsz : ((⟨#[48, 49, 50, 51, 52, 53, 54, 55, 56, 57]⟩ : ByteArray).extract (u % 10) (u % 10 + 1)).size = 1 := by rw [← bytesOf_length, ht]; rfl
  rw [inquestref01_digits.f]
  rw [hmod, hdiv, e1, e2, if_pos (by omega), if_pos (by omega), if_pos (by omega)]
  simp only [Int.toNat_natCast, hsz]
theorem digits_text (k : Nat) : ∀ (u : Nat), u < 4294967296 → u < 10 ^ (k + 1) → ∃ D, inquestref01_digits.f (k + 1) (u : Int) = some D ∧ bytesOf D = numText (u : Int) ∧ D.size ≤ k + 1 := by
  have small : ∀ (k u : Nat), u < 10 → ∃ D, inquestref01_digits.f (k + 1) (u : Int) = some D ∧ bytesOf D = numText (u : Int) ∧ D.size ≤ k + 1 := by
    intro k u h10
    have ht := digit_text (u % 10) (by omega)
    have hsz : ((⟨#[48, 49, 50, 51, 52, 53, 54, 55, 56, 57]⟩ : ByteArray).extract (u % 10) (u % 10 + 1)).size = 1 := by rw [← bytesOf_length, ht]; rfl
    rw [digits_step k u (by omega), if_pos (by omega)]
    refine ⟨_, rfl, ?_, by rw [hsz]; omega⟩
    rw [ht, numText, Int.toNat_natCast, Lib.decDigits, dif_pos (by omega)]
    simp only [List.map_cons, List.map_nil, digit_byte u (by omega)]
    have : u % 10 = u := by omega
    rw [this]
    simp
  induction k with
  | zero =>
    intro u hu hk
    exact small 0 u (by omega)
  | succ k ih =>
    intro u hu hk
    by_cases h10 : u < 10
    · exact small (k + 1) u h10
    · have ht := digit_text (u % 10) (by omega)
      have hsz : ((⟨#[48, 49, 50, 51, 52, 53, 54, 55, 56, 57]⟩ : ByteArray).extract (u % 10) (u % 10 + 1)).size = 1 := by rw [← bytesOf_length, ht]; rfl
      rw [Nat.pow_succ] at hk
      obtain ⟨D, h1, h2, h3⟩ := ih (u / 10) (by omega) (by omega)
      have h20 := numText_le (u / 10) (by omega)
      rw [← h2, bytesOf_length] at h20
      rw [digits_step (k + 1) u hu, if_neg (by omega), h1]
      simp only [Option.bind_some]
      rw [if_pos (by omega)]
      refine ⟨_, rfl, ?_, by rw [ByteArray.size_append, hsz]; omega⟩
      rw [bytesOf_append, h2, ht, numText, numText, Int.toNat_natCast, Int.toNat_natCast]
      conv => rhs; rw [Lib.decDigits]
      rw [dif_neg h10]
      simp only [List.map_append, List.map_cons, List.map_nil, digit_byte (u % 10) (by omega)]
      simp
theorem digits_any (u : Int) (h : 0 ≤ u ∧ u < 4294967296) (k : Nat) (hk : 30 < k) : ∃ D, inquestref01_digits.f k u = some D ∧ bytesOf D = numText u ∧ D.size ≤ 21 := by
  obtain ⟨n, rfl⟩ := Int.eq_ofNat_of_zero_le h.1
  obtain ⟨D, h1, h2, h3⟩ := digits_text 19 n (by omega) (Nat.lt_of_lt_of_le (show n < 4294967296 by omega) (by decide))
  exact ⟨D, at_rounds (g := fun k => inquestref01_digits.f k (n : Int)) (fun k => inquestref01_digits.mono _ k) (by omega) h1, h2, Nat.le_trans h3 (by decide)⟩


theorem write_one (u : Nat) (hu : u < 4294967296) : inquestref01_Write.f 40 [] [(u : Int)] = some (numText u ++ [10]) := by
  obtain ⟨D, h1, h2, h3⟩ := digits_any (u : Int) (by omega) 39 (by omega)
  unfold inquestref01_Write.f
  rw [inquestref01_Write.l0, if_pos (by simp), if_neg (by omega), if_pos (by omega)]
  have hr : rd [(u : Int)] 0 = (u : Int) := rfl
  rw [hr, h1]
  have h0 : (strOfNums []).size = 0 := rfl
  simp only [Option.bind_some]
  rw [if_pos (by omega)]
  have hw : wrap64 (0 + 1) = 1 := by unfold wrap64; omega
  have hd := inquestref01_Write.l0
  rw [hw, inquestref01_Write.l0, if_neg (by simp)]
  simp only [Option.bind_some]
  have h10 : (strOfNums [10]).size = 1 := rfl
  have ha : (strOfNums [] ++ D).size = D.size := by rw [ByteArray.size_append, h0]; omega
  rw [if_pos (by omega), if_pos (by rw [ByteArray.size_append]; omega)]
  congr 1
  rw [bytesOf_append, bytesOf_append, h2]
  rfl

theorem strOf_dec (u : Nat) : strOfNums (numText (u : Int)) = ⟨(decDigits u).toArray⟩ := by
  unfold strOfNums numText
  rw [List.map_map, Int.toNat_natCast]
  congr 2
  conv => rhs; rw [← List.map_id (decDigits u)]
  refine List.map_congr_left (fun b _ => ?_)
  simp

set_option maxHeartbeats 2000000 in
set_option maxRecDepth 100000 in
theorem digits (i : Nat) (hi : i < 4294967296) (w : World) : Calls Tryd.prog 49 #[.int .i64 i] w fun e w' => e = .returned (.string ⟨(decDigits i).toArray⟩) ∧ Below w.heap.size w w' := by
  have hmod : (i : Int) % 4294967296 = i := by omega
  have hC : Kd.C (Kd.int .u32) (w.alloc (.cells #[.int .u32 i] 30)) (some ⟨w.heap.size, 0, none⟩) [(i : Int)].length [(i : Int)] := by
    refine Kd.C_of_reads (d := (0 : Int)) (h1 := fun _ => rfl) ⟨rfl, by simp, fun _ => ⟨_, rfl, fun j hj => ?_⟩⟩
    obtain rfl : j = 0 := by simpa using hj
    show (w.alloc (.cells #[.int .u32 (i : Int)] 30)).cell? ⟨w.heap.size, 0, none⟩ = some (.int .u32 (i : Int))
    simp
  have HW := Aside0.mk (inquestref01_Write.calls 40 none 0 [] (some ⟨w.heap.size, 0, none⟩) 1 [(i : Int)] _ (w.alloc (.cells #[.int .u32 i] 30)) (Kd.C_nil _ _) (Nat.le_refl _) hC (by simp) (write_one i hi))
  have HN := Aside0.mk (numText_le i (by omega))
  have HS := Aside0.mk (strOf_dec i)
  clear hC
  generalize numText (i : Int) = t at HW HN HS
  go_enter Tryd.func49, Tryd.ntmps49
  go_wp2_with fail
  refine HW.out.mono ?_
  rintro e w1 ⟨v, rfl, hv, hb⟩
  obtain ⟨A, cc, ev⟩ := Kd.V_slice hv
  subst ev
  obtain ⟨_, hcc, hCv⟩ := Kd.V_reads' hv
  have hl : (t ++ [10]).length = t.length + 1 := by simp
  rw [hl] at hcc hCv ⊢
  have hT : Kd.C (Kd.int .u8) w1 A t.length t := by
    have h1 : Kd.C (Kd.int .u8) w1 A (t ++ [10]).length (t ++ [10]) := by rw [hl]; exact hCv
    have := Kd.C_take (m := t.length) h1 (by simp)
    rw [List.take_left'] at this
    exact this
    rfl
  have hcv := Kd.C_string (P := Tryd.prog) (A := A) (c := cc) Tryd.underlying43 Tryd.underlying5 Tryd.underlying9 hT
  have B1 := Aside0.mk (below_then (below_alloc (Below.refl w.heap.size w) (.cells #[.int .u32 i] 30)) (below_alloc (Below.refl w.heap.size w) (.cells #[.int .u32 i] 30)).size hb)
  have hlen : t.length + 1 ≤ cc := hcc
  have hl20 := HN.out
  clear hv hCv hb hT
  rw [HS.out] at hcv
  go_wp2_with fail
  go_ret
  exact ⟨rfl, B1.out⟩
end Go.Proofs.YtfdemglcjfdodaaDoor.N
