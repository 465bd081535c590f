/-
  name.Find.
-/
import Derived.Test.YtfdemglcjfdodaaDoorNMay
import Derived.Test.YtfdemglcjfdodaaDoorNLit
namespace Go.Proofs.YtfdemglcjfdodaaDoor.N
open Go.RowKit Go.Lib Go.Proofs.YtfdemglcjfdodaaDoorW.PrintWords Go.Proofs.YtfdemglcjfdodaaDoorW.PrintLast Go.Proofs.YtfdemglcjfdodaaDoorW.PrintMore
set_option linter.unusedVariables false

theorem NameOk.sizes {c : Cv} {n : Nv} (h : NameOk c n) : c.lat.length ≤ 16384 ∧ c.gat.length ≤ 16384 ∧ c.out.length ≤ 1024 ∧ c.bad.length ≤ 1024 ∧ c.con.length ≤ 1024 ∧ 0 ≤ c.inp ∧ c.inp ≤ 16384 := by
  have h0 := h.norm.h0
  have h1 := h.norm.h1
  have h2 := h.norm.h2
  have l0 : c.out.length ≤ 1024 := (h.norm.lists 0 (by omega)).1
  have l1 : c.bad.length ≤ 1024 := (h.norm.lists 1 (by omega)).1
  have l2 : c.con.length ≤ 1024 := (h.norm.lists 2 (by omega)).1
  omega
/-- The k-th letter; how many of the kind. -/
def letterOf (k : Nat) : UInt8 := [(105 : UInt8), 108, 111, 98, 99].getD k 0
def Cv.manyN (c : Cv) (k : Nat) : Nat := [c.inp.toNat, c.lat.length, c.out.length, c.bad.length, c.con.length].getD k 0
theorem manyN_eq {c : Cv} (h0 : 0 ≤ c.inp) (k : Nat) (hk : k < 5) : c.many k = (c.manyN k : Int) :=
  five (P := fun k => c.many k = (c.manyN k : Int)) (show c.inp = (c.inp.toNat : Int) by omega) rfl rfl rfl rfl k hk
theorem letter_letter (k : Nat) (hk : k < 5) : Letter (letterOf k) :=
  five (P := fun k => Letter (letterOf k)) (.inl rfl) (.inr (.inl rfl)) (.inr (.inr (.inl rfl))) (.inr (.inr (.inr (.inl rfl)))) (.inr (.inr (.inr (.inr (.inl rfl))))) k hk
theorem idx_letter (k : Nat) (hk : k < 5) : ∀ W : World, (Instr.index 9 (.string ⟨#[105, 108, 111, 98, 99]⟩) (.int .i64 k)).run Tryd.prog W = .ok (.int .u8 (letterOf k).toNat) W :=
  five (P := fun k => ∀ W : World, (Instr.index 9 (.string ⟨#[105, 108, 111, 98, 99]⟩) (.int .i64 k)).run Tryd.prog W = .ok (.int .u8 (letterOf k).toNat) W)
    (fun W => by simp [Instr.index, run_underlying Tryd.underlying9, asIntOf, go_sem]; rfl) (fun W => by simp [Instr.index, run_underlying Tryd.underlying9, asIntOf, go_sem]; rfl) (fun W => by simp [Instr.index, run_underlying Tryd.underlying9, asIntOf, go_sem]; rfl) (fun W => by simp [Instr.index, run_underlying Tryd.underlying9, asIntOf, go_sem]; rfl) (fun W => by simp [Instr.index, run_underlying Tryd.underlying9, asIntOf, go_sem]; rfl) k hk
theorem kinds_drop (c : Cv) (k : Nat) (hk : k < 5) : (kindsOf c.inp.toNat c.lat.length c.out c.bad c.con).drop k = (letterOf k, c.manyN k) :: (kindsOf c.inp.toNat c.lat.length c.out c.bad c.con).drop (k + 1) :=
  five (P := fun k => (kindsOf c.inp.toNat c.lat.length c.out c.bad c.con).drop k = (letterOf k, c.manyN k) :: (kindsOf c.inp.toNat c.lat.length c.out c.bad c.con).drop (k + 1)) rfl rfl rfl rfl rfl k hk
theorem ls_drop (n : Nv) (k : Nat) (hk : k < 5) : n.ls.drop k = n.l k :: n.ls.drop (k + 1) :=
  five (P := fun k => n.ls.drop k = n.l k :: n.ls.drop (k + 1)) rfl rfl rfl rfl rfl k hk
theorem idxFrom_lt (x : ByteArray) : ∀ (zs : List ByteArray) (i : Nat), Lib.idxFromS zs x i < ((i + zs.length : Nat) : Int)
  | [], i => by simp [Lib.idxFromS]; omega
  | z :: zs, i => by
    have := idxFrom_lt x zs (i + 1)
    simp only [Lib.idxFromS]
    split
    · simp; omega
    · simp only [List.length_cons]
      omega
theorem idx_lt (zs : List ByteArray) (x : ByteArray) : Lib.idxOfS zs x < (zs.length : Int) := by
  have := idxFrom_lt x zs 0
  rw [Nat.zero_add] at this
  exact this
theorem manyN_le {c : Cv} {n : Nv} (h : NameOk c n) (k : Nat) (hk : k < 5) : c.manyN k ≤ 16384 := by
  have hz := h.sizes
  exact five (P := fun k => c.manyN k ≤ 16384) (show c.inp.toNat ≤ 16384 by omega) (show c.lat.length ≤ 16384 by omega) (show c.out.length ≤ 16384 by omega) (show c.bad.length ≤ 16384 by omega) (show c.con.length ≤ 16384 by omega) k hk
/-- What a name finds, of these values. -/
def findV (c : Cv) (n : Nv) (s : ByteArray) : Int × Int := findF c.inp.toNat c.lat.length c.gat.length c.out c.bad c.con n.ls s
def findR (c : Cv) (n : Nv) (s : ByteArray) : Value := .tuple #[.int .u32 (findV c n s).1, .int .i64 (findV c n s).2]

set_option maxHeartbeats 2000000 in
theorem find_no (c : Cv) (n : Nv) (s : ByteArray) (w : World) (hc : c.Held w) (hh : n.Held w) (hs : Fit c) (hm : mayB c n = false) :
    Calls Tryd.prog 16 #[c.val, n.val, .string s] w fun e w' => e = .returned (.tuple #[.int .u32 0, .int .i64 2]) ∧ Below w.heap.size w w' := by
  have HB := Aside0.mk (below_alloc (below_alloc (Below.refl w.heap.size w) (.cells c.cells 26)) (.cells #[.slice n.A0 n.l0.length n.c0, .slice n.A1 n.l1.length n.c1, .slice n.A2 n.l2.length n.c2, .slice n.A3 n.l3.length n.c3, .slice n.A4 n.l4.length n.c4] 29))
  have HM := Aside0.mk (may c n _ (hc.below HB.out) (hh.below HB.out) hs)
  rw [hm] at HM
  clear hc hh
  unfold Cv.cells at HM HB
  unfold Cv.val Nv.val
  go_enter Tryd.func16, Tryd.ntmps16
  go_wp2_with fail
  refine HM.out.mono ?_
  rintro e w1 ⟨rfl, hb⟩
  go_wp2_with fail
  go_ret2
  exact ⟨rfl, below_then HB.out HB.out.size hb⟩
set_option maxHeartbeats 8000000 in
set_option maxRecDepth 100000 in
theorem find_yes (c : Cv) (n : Nv) (s : ByteArray) (hsz : s.size ≤ 1048576) (w : World) (hc : c.Held w) (hh : n.Held w) (hG : Glob w) (hs : Fit c) (hm : mayB c n = true) :
    Calls Tryd.prog 16 #[c.val, n.val, .string s] w fun e w' => e = .returned (findR c n s) ∧ Below w.heap.size w w' := by
  have hok := mayB_ok hm
  have hz := hok.sizes
  have HB := Aside0.mk (below_alloc (below_alloc (Below.refl w.heap.size w) (.cells c.cells 26)) (.cells #[.slice n.A0 n.l0.length n.c0, .slice n.A1 n.l1.length n.c1, .slice n.A2 n.l2.length n.c2, .slice n.A3 n.l3.length n.c3, .slice n.A4 n.l4.length n.c4] 29))
  have HM := Aside0.mk (may c n _ (hc.below HB.out) (hh.below HB.out) hs)
  have HX : Aside0 (Boxed c w.heap.size ((w.alloc (.cells c.cells 26)).alloc (.cells #[.slice n.A0 n.l0.length n.c0, .slice n.A1 n.l1.length n.c1, .slice n.A2 n.l2.length n.c2, .slice n.A3 n.l3.length n.c3, .slice n.A4 n.l4.length n.c4] 29))) := ⟨(show Boxed c w.heap.size (w.alloc (.cells c.cells 26)) from heap_alloc_new w _).below (below_alloc (Below.refl _ _) _)⟩
  have HY : Aside0 (NBoxed n (w.heap.size + 1) ((w.alloc (.cells c.cells 26)).alloc (.cells #[.slice n.A0 n.l0.length n.c0, .slice n.A1 n.l1.length n.c1, .slice n.A2 n.l2.length n.c2, .slice n.A3 n.l3.length n.c3, .slice n.A4 n.l4.length n.c4] 29))) := ⟨heap_alloc2_new w _ _⟩
  rw [hm] at HM
  have HZ := Aside0.mk hz
  have HK := Aside0.mk hok.lists
  have HMN := Aside0.mk (fun k hk => manyN_le hok k hk)
  have HC := Aside0.mk hc
  have HH := Aside0.mk hh
  have HG := Aside0.mk hG
  have HSZ := Aside0.mk hsz
  clear hc hh hG hok hz hsz hs
  unfold Cv.cells at HM HB HX HY
  obtain ⟨R, hR⟩ : ∃ R, R = findR c n s := ⟨_, rfl⟩
  rw [← hR]
  have HR := Aside0.mk hR
  clear hR
  unfold Cv.val Nv.val
  go_enter Tryd.func16, Tryd.ntmps16
  go_wp2_with fail
  refine HM.out.mono ?_
  rintro e w1 ⟨rfl, hb⟩
  have B1 := Aside0.mk (below_then HB.out HB.out.size hb)
  have X1 := Aside0.mk (HX.out.below hb)
  have Y1 := Aside0.mk (HY.out.below hb)
  clear HB HX HY HM hb
  go_wp2_with fail
  refine (kinds _ _).mono ?_
  rintro e w2 ⟨rfl, hb⟩
  have B2 := Aside0.mk (below_then B1.out B1.out.size hb)
  have X2 := Aside0.mk (X1.out.below hb)
  have Y2 := Aside0.mk (Y1.out.below hb)
  clear B1 X1 Y1 hb
  go_wp2_with fail
  generalize w.heap.size + 1 = g at Y2 ⊢
  go_loopw [22] (fun v22 wr => ∃ k : Nat, k ≤ 5 ∧ v22 = .int .i64 k ∧ Aside0 (Below w2.heap.size w2 wr) ∧ Aside0 (inFrom n.ls s 0 = inFrom (n.ls.drop k) s k)) (fun i _ => 5 - (intOf i).toNat)
  case atStart => exact ⟨0, Nat.zero_le _, rfl, ⟨Below.refl _ _⟩, ⟨rfl⟩⟩
  case round =>
    obtain ⟨k, hk, rfl, HB, HN⟩ := hrel
    have BB := Aside0.mk (below_then B2.out B2.out.size HB.out)
    have XX := Aside0.mk (X2.out.below HB.out)
    have YY := Aside0.mk (Y2.out.below HB.out)
    rcases Nat.lt_or_ge k 5 with hk5 | hk5
    · have hp := idx_ptr g k hk5
      have hk5' : ((k : Int) < 5) := by omega
      have hcell := YY.out.cell k hk5
      have HI := Aside0.mk (index_str (n.A k) (n.c k) (n.l k) s wr ((HH.out.below BB.out).at k hk5))
      have HD := Aside0.mk (ls_drop n k hk5)
      obtain ⟨I, hI⟩ : ∃ I, I = idxOfS (n.l k) s := ⟨_, rfl⟩
      rw [← hI] at HI
      have HII := Aside0.mk hI
      clear hI
      by_cases hi : 0 ≤ I ∧ s.size ≠ 0
      · have h1 : decide (0 ≤ I) = true := decide_eq_true hi.1
        have h2 : s.toList.isEmpty = false := by rw [empty_iff]; simpa using hi.2
        obtain ⟨i, rfl⟩ : ∃ i : Nat, I = i := ⟨I.toNat, by omega⟩
        have hin : inFrom n.ls s 0 = some (k, i) := by
          rw [HN.out, HD.out]
          unfold inFrom
          rw [← HII.out, if_pos hi]
          simp
        have hil : (i : Int) < c.many k := by
          have hlt : i < (n.l k).length := by
            have : (i : Int) < ((n.l k).length : Int) := by rw [HII.out]; exact idx_lt _ _
            omega
          rcases HK.out k hk5 with h | h
          · omega
          · omega
        have HIN := Aside0.mk hin
        have HIL := Aside0.mk hil
        clear hi hin hil
        go_wp2_with fail
        refine HI.out.mono ?_
        rintro e w3 ⟨rfl, hb3⟩
        have B3 := Aside0.mk (below_then BB.out BB.out.size hb3)
        obtain ⟨e0, e1, e2, e3, e4, e5⟩ := (XX.out.below hb3).open
        clear hb3
        go_wp2_with fail
        refine (lit c k i hk5 HIL.out HZ.out.2.2.2.2.2.1 HZ.out.2.2.2.2.2.2 HZ.out.1 w3 (HC.out.below B3.out)).mono ?_
        rintro e w4 ⟨rfl, hb4⟩
        go_wp2_with fail
        go_ret2
        refine ⟨?_, below_then B3.out B3.out.size hb4⟩
        rw [HR.out]
        unfold findR findV findF
        rw [HIN.out]
        rfl
      · have hin : inFrom n.ls s 0 = inFrom (n.ls.drop (k + 1)) s (k + 1) := by
          rw [HN.out, HD.out]
          conv => lhs; unfold inFrom
          rw [← HII.out, if_neg hi]
        have HIN := Aside0.mk hin
        clear hin
        by_cases h0 : 0 ≤ I
        · have h1 : decide (0 ≤ I) = true := decide_eq_true h0
          have h2 : s.toList.isEmpty = true := by
            rw [empty_iff]
            simpa using (fun h => hi ⟨h0, h⟩)
          clear hi h0
          go_wp2_with fail
          refine HI.out.mono ?_
          rintro e w3 ⟨rfl, hb3⟩
          go_wp2_with fail
          exact ⟨⟨k + 1, by omega, by go_num, ⟨below_then HB.out HB.out.size hb3⟩, HIN⟩, by simp [intOf]; omega⟩
        · have h1 : decide (0 ≤ I) = false := decide_eq_false h0
          clear hi h0
          go_wp2_with fail
          refine HI.out.mono ?_
          rintro e w3 ⟨rfl, hb3⟩
          go_wp2_with fail
          exact ⟨⟨k + 1, by omega, by go_num, ⟨below_then HB.out HB.out.size hb3⟩, HIN⟩, by simp [intOf]; omega⟩
    · obtain rfl : k = 5 := by omega
      have hin : inFrom n.ls s 0 = none := HN.out
      have HIN := Aside0.mk hin
      clear hin HN
      obtain ⟨e0, e1, e2, e3, e4, e5⟩ := XX.out.open
      go_wp2_with fail
      refine (many c _).mono ?_
      rintro e w3 ⟨rfl, hb3⟩
      have B3 := Aside0.mk (below_then BB.out BB.out.size hb3)
      have X3 := Aside0.mk (XX.out.below hb3)
      clear e0 e1 e2 e3 e4 e5 hb3 HB BB XX YY B2 X2 Y2
      go_wp2_with fail
      go_loopw [44] (fun v44 wr => ∃ k : Nat, k ≤ 5 ∧ v44 = .int .i64 k ∧ Aside0 (Below w3.heap.size w3 wr) ∧ Aside0 (ownFrom (kindsOf c.inp.toNat c.lat.length c.out c.bad c.con) s 0 = ownFrom ((kindsOf c.inp.toNat c.lat.length c.out c.bad c.con).drop k) s k)) (fun i _ => 5 - (intOf i).toNat)
      case atStart => exact ⟨0, Nat.zero_le _, rfl, ⟨Below.refl _ _⟩, ⟨rfl⟩⟩
      case round =>
        obtain ⟨k, hk, rfl, HB, HN⟩ := hrel
        have BB := Aside0.mk (below_then B3.out B3.out.size HB.out)
        have XX := Aside0.mk (X3.out.below HB.out)
        rcases Nat.lt_or_ge k 5 with hk5 | hk5
        · have hp := idx_many c k hk5
          rw [manyN_eq HZ.out.2.2.2.2.2.1 k hk5] at hp
          have hq := idx_letter k hk5
          have hk5' : ((k : Int) < 5) := by omega
          have HP := Aside0.mk (place s (letterOf k) (letter_letter k hk5) (c.manyN k) (by have := HMN.out k hk5; omega) wr (Glob.below HG.out BB.out) HSZ.out)
          have HD := Aside0.mk (kinds_drop c k hk5)
          rcases hpl : placeF s (letterOf k) (c.manyN k) with _ | i
          · rw [hpl] at HP
            have hon : ownFrom (kindsOf c.inp.toNat c.lat.length c.out c.bad c.con) s 0 = ownFrom ((kindsOf c.inp.toNat c.lat.length c.out c.bad c.con).drop (k + 1)) s (k + 1) := by
              rw [HN.out, HD.out]
              conv => lhs; unfold ownFrom
              rw [hpl]
            have HON := Aside0.mk hon
            clear hon hpl
            go_wp2_with fail
            refine HP.out.mono ?_
            rintro e w4 ⟨⟨x, rfl, _⟩, hb4⟩
            go_wp2_with fail
            exact ⟨⟨k + 1, by omega, by go_num, ⟨below_then HB.out HB.out.size hb4⟩, HON⟩, by simp [intOf]; omega⟩
          · rw [hpl] at HP
            have hon : ownFrom (kindsOf c.inp.toNat c.lat.length c.out c.bad c.con) s 0 = some (k, i) := by
              rw [HN.out, HD.out]
              conv => lhs; unfold ownFrom
              rw [hpl]
            have hil : (i : Int) < c.many k := by
              rw [manyN_eq HZ.out.2.2.2.2.2.1 k hk5]
              have := (placeF_some hpl).2
              omega
            have HON := Aside0.mk hon
            have HIL := Aside0.mk hil
            clear hon hpl hil
            obtain ⟨e0, e1, e2, e3, e4, e5⟩ := XX.out.open
            go_wp2_with fail
            refine HP.out.mono ?_
            rintro e w4 ⟨⟨x, rfl, hx⟩, hb4⟩
            obtain rfl := hx i rfl
            have B4 := Aside0.mk (below_then BB.out BB.out.size hb4)
            clear e0 e1 e2 e3 e4 e5
            obtain ⟨e0, e1, e2, e3, e4, e5⟩ := (XX.out.below hb4).open
            clear hb4
            go_wp2_with fail
            refine (lit c k i hk5 HIL.out HZ.out.2.2.2.2.2.1 HZ.out.2.2.2.2.2.2 HZ.out.1 w4 (HC.out.below B4.out)).mono ?_
            rintro e w5 ⟨rfl, hb5⟩
            go_wp2_with fail
            go_ret2
            refine ⟨?_, below_then B4.out B4.out.size hb5⟩
            rw [HR.out]
            unfold findR findV findF
            rw [HIN.out]
            simp only
            rw [HON.out]
            rfl
        · obtain rfl : k = 5 := by omega
          have hon : ownFrom (kindsOf c.inp.toNat c.lat.length c.out c.bad c.con) s 0 = none := HN.out
          have HON := Aside0.mk hon
          clear hon HN
          have hP := place s 97 (.inr (.inr (.inr (.inr (.inr rfl))))) c.gat.length (by have := HZ.out; omega) wr (Glob.below HG.out BB.out) HSZ.out
          rw [show (((97 : UInt8).toNat : Nat) : Int) = 97 from rfl] at hP
          have HP := Aside0.mk hP
          clear hP
          obtain ⟨e0, e1, e2, e3, e4, e5⟩ := XX.out.open
          rcases hpl : placeF s 97 c.gat.length with _ | i
          · rw [hpl] at HP
            have HPL := Aside0.mk hpl
            clear hpl
            go_wp2_with fail
            refine HP.out.mono ?_
            rintro e w4 ⟨⟨x, rfl, _⟩, hb4⟩
            go_wp2_with fail
            go_ret2
            refine ⟨?_, below_then BB.out BB.out.size hb4⟩
            rw [HR.out]
            unfold findR findV findF
            rw [HIN.out]
            simp only
            rw [HON.out]
            simp only
            rw [HPL.out]
            rfl
          · rw [hpl] at HP
            have hlt := (placeF_some hpl).2
            have HPL := Aside0.mk (And.intro hpl hlt)
            clear hpl hlt
            go_wp2_with fail
            refine HP.out.mono ?_
            rintro e w4 ⟨⟨x, rfl, hx⟩, hb4⟩
            obtain rfl := hx i rfl
            have B4 := Aside0.mk (below_then BB.out BB.out.size hb4)
            clear e0 e1 e2 e3 e4 e5
            obtain ⟨e0, e1, e2, e3, e4, e5⟩ := (XX.out.below hb4).open
            clear hb4
            go_wp2_with fail
            go_ret2
            refine ⟨?_, B4.out⟩
            rw [HR.out]
            unfold findR findV findF
            rw [HIN.out]
            simp only
            rw [HON.out]
            simp only
            rw [HPL.out.1]
            have := HZ.out
            have h5 := HPL.out.2
            have ee : wrap64 (wrap64 (wrap64 (1 + c.inp) + (c.lat.length : Int)) + (i : Int)) % 4294967296 * 2 % 4294967296 = (2 * (1 + (c.inp.toNat : Int) + c.lat.length + i) : Int) := by
              simp only [wrap64]
              omega
            simp only
            rw [← ee]
            rfl
/-- name.Find. -/
theorem find (c : Cv) (n : Nv) (s : ByteArray) (hsz : s.size ≤ 1048576) (w : World) (hc : c.Held w) (hh : n.Held w) (hG : Glob w) (hs : Fit c) :
    Calls Tryd.prog 16 #[c.val, n.val, .string s] w fun e w' => e = .returned (if mayB c n then findR c n s else .tuple #[.int .u32 0, .int .i64 2]) ∧ Below w.heap.size w w' := by
  cases hm : mayB c n with
  | true => exact find_yes c n s hsz w hc hh hG hs hm
  | false => exact find_no c n s w hc hh hs hm
end Go.Proofs.YtfdemglcjfdodaaDoor.N
