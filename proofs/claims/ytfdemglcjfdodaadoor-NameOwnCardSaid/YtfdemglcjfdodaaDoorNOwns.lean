/-
  NameOwn, walked: whatever the arguments, the law answers true.
-/
import Derived.Test.YtfdemglcjfdodaaDoorNFinds
namespace Go.Proofs.YtfdemglcjfdodaaDoor.N
open Go.RowKit Go.Lib Go.Proofs.YtfdemglcjfdodaaDoorW.PrintWords Go.Proofs.YtfdemglcjfdodaaDoorW.PrintLast Go.Proofs.YtfdemglcjfdodaaDoorW.PrintMore Lx
set_option linter.unusedVariables false
theorem told_loop (x : ByteArray) (l : List ByteArray) (hl : l.length < 4611686018427387904) : ∀ (m i k : Nat), i + m = l.length → m < k → x ∈ l.drop i → inquestlaw21_told.l0 k x l (l.length : Int) (i : Int) = some true
  | 0, i, k, h, hk, hm => by
    rw [List.drop_eq_nil_of_le (by omega)] at hm
    cases hm
  | m + 1, i, k, h, hk, hm => by
    obtain ⟨k, rfl⟩ : ∃ k', k = k' + 1 := ⟨k - 1, by omega⟩
    have hil : i < l.length := by omega
    rw [inquestlaw21_told.l0, if_pos (by omega), if_pos (by omega), if_pos (by omega)]
    rw [List.drop_eq_getElem_cons hil] at hm
    have hr : rdOf ByteArray.empty l (i : Int) = l[i] := by
      unfold rdOf
      rw [Int.toNat_natCast, List.getD_eq_getElem?_getD, List.getElem?_eq_getElem hil]
      rfl
    rw [hr]
    by_cases he : l[i].toList = x.toList
    · rw [if_pos he]
    · rw [if_neg he]
      have hw : wrap64 ((i : Int) + 1) = ((i + 1 : Nat) : Int) := by unfold wrap64; omega
      rw [hw]
      refine told_loop x l hl m (i + 1) k (by omega) (by omega) ?_
      rcases List.mem_cons.1 hm with h1 | h1
      · exact absurd (by rw [h1]) he
      · exact h1
theorem told_yes (k : Nat) (l0 l1 l2 l3 l4 : List ByteArray) (x : ByteArray) (g0 : l0.length ≤ 1048576) (g1 : l1.length ≤ 1048576) (g2 : l2.length ≤ 1048576) (g3 : l3.length ≤ 1048576) (g4 : l4.length ≤ 1048576) (hk : 8000000 ≤ k)
    (hm : ∃ l ∈ [l0, l1, l2, l3, l4], x ∈ l) : inquestlaw21_told.f k l0 l1 l2 l3 l4 x = some true := by
  unfold inquestlaw21_told.f
  simp only [Option.bind_some, List.nil_append, List.length_nil, List.length_append]
  rw [if_pos (by omega), if_pos (by omega), if_pos (by omega), if_pos (by omega), if_pos (by omega)]
  have hl : (l0 ++ l1 ++ l2 ++ l3 ++ l4).length ≤ 5242880 := by simp only [List.length_append]; omega
  have := told_loop x (l0 ++ l1 ++ l2 ++ l3 ++ l4) (by omega) (l0 ++ l1 ++ l2 ++ l3 ++ l4).length 0 k (by omega) (by omega) (by
    rw [List.drop_zero]
    obtain ⟨l, hl, hx⟩ := hm
    simp only [List.mem_cons, List.not_mem_nil, or_false] at hl
    simp only [List.mem_append]
    rcases hl with rfl | rfl | rfl | rfl | rfl <;> simp [hx])
  rw [show ((0 : Nat) : Int) = 0 from rfl] at this
  simpa only [List.length_append, Nat.zero_add] using this

/-- The letters, how many there are, the literals: of all six kinds. -/
def let6 (k : Nat) : UInt8 := ([105, 108, 111, 98, 99, 97] : List UInt8).getD k 0
def many6 (c : Cv) (k : Nat) : Nat := ((kindsOf c.inp.toNat c.lat.length c.out c.bad c.con ++ [(97, c.gat.length)]).getD k (0, 0)).2
def lit6 (c : Cv) (k i : Nat) : Int := if k = 5 then 2 * (1 + c.inp.toNat + c.lat.length + i) else litF c.inp.toNat c.lat.length c.out c.bad c.con k i
theorem let6_eq (c : Cv) (k : Nat) (hk : k < 6) : ((kindsOf c.inp.toNat c.lat.length c.out c.bad c.con ++ [(97, c.gat.length)]).getD k (0, 0)).1 = let6 k := by
  have : k = 0 ∨ k = 1 ∨ k = 2 ∨ k = 3 ∨ k = 4 ∨ k = 5 := by omega
  rcases this with rfl | rfl | rfl | rfl | rfl | rfl <;> rfl
theorem letter_cat (k : Nat) (hk : k < 6) (i : Nat) : ((⟨#[105, 108, 111, 98, 99, 97]⟩ : ByteArray).extract k (k + 1)) ++ ⟨(decDigits i).toArray⟩ = ownB (let6 k) i := by
  rw [← own_cat']
  congr 1
  have : k = 0 ∨ k = 1 ∨ k = 2 ∨ k = 3 ∨ k = 4 ∨ k = 5 := by omega
  rcases this with rfl | rfl | rfl | rfl | rfl | rfl <;> decide
theorem letter_size (k : Nat) (hk : k < 6) : ((⟨#[105, 108, 111, 98, 99, 97]⟩ : ByteArray).extract k (k + 1)).size = 1 := by
  have : k = 0 ∨ k = 1 ∨ k = 2 ∨ k = 3 ∨ k = 4 ∨ k = 5 := by omega
  rcases this with rfl | rfl | rfl | rfl | rfl | rfl <;> decide
theorem letter_slice (k : Nat) (hk : k < 6) (W : World) : (Instr.slice 9 (.string ⟨#[105, 108, 111, 98, 99, 97]⟩) (some (.int .i64 k)) (some (.int .i64 ((k : Int) + 1))) none).run Tryd.prog W = .ok (.string ((⟨#[105, 108, 111, 98, 99, 97]⟩ : ByteArray).extract k (k + 1))) W := by
  have : k = 0 ∨ k = 1 ∨ k = 2 ∨ k = 3 ∨ k = 4 ∨ k = 5 := by omega
  rcases this with rfl | rfl | rfl | rfl | rfl | rfl <;> simp [Instr.slice, run_underlying Tryd.underlying9, asIntOf, go_sem]
theorem find6 {c : Cv} {n : Nv} (h : Apart c.inp.toNat c.lat.length c.gat.length c.out.length c.bad.length c.con.length n.l0 n.l1 n.l2 n.l3 n.l4) (hsz : c.inp.toNat + c.lat.length + c.gat.length + c.out.length + c.bad.length + c.con.length < 1000000) (k : Nat) (hk : k < 6) (i : Nat) (hi : i < 65536) :
    (i < many6 c k → findV c n (ownB (let6 k) i) = (lit6 c k i, 0)) ∧ (many6 c k ≤ i → findV c n (ownB (let6 k) i) = (0, 7) ∨ ((findV c n (ownB (let6 k) i)).2 = 0 ∧ ∃ l ∈ [n.l0, n.l1, n.l2, n.l3, n.l4], ownB (let6 k) i ∈ l)) := by
  refine ⟨fun hm => ?_, fun hm => ?_⟩
  · by_cases h5 : k = 5
    · subst h5
      exact find_gate (bad := c.bad) (con := c.con) (out := c.out) hsz h i hm
    · have hk' : k = 0 ∨ k = 1 ∨ k = 2 ∨ k = 3 ∨ k = 4 := by omega
      unfold lit6
      rw [if_neg h5]
      have := find_own (bad := c.bad) (con := c.con) (out := c.out) hsz h k (by omega) i (by rcases hk' with rfl | rfl | rfl | rfl | rfl <;> exact hm)
      rcases hk' with rfl | rfl | rfl | rfl | rfl <;> exact this
  · have := find_beyond (bad := c.bad) (con := c.con) (out := c.out) (l0 := n.l0) (l1 := n.l1) (l2 := n.l2) (l3 := n.l3) (l4 := n.l4) hsz k hk i hm (by omega)
    rw [let6_eq c k hk] at this
    exact this
set_option maxHeartbeats 16000000 in
set_option maxRecDepth 100000 in
theorem owns (c : Cv) (n : Nv) (x : Nat) (hx : x < 256) (i : Nat) (hi : i < 65536) (w : World) (hc : c.Held w) (hh : n.Held w) (hG : Glob w) (hf : Fit c) :
    Calls Tryd.prog 4 #[c.val, n.val, .int .u8 x, .int .u16 i] w fun e w' => e = .returned (.bool true) ∧ Below w.heap.size w w' := by
  have B0 := Aside0.mk (below_alloc (below_alloc (Below.refl w.heap.size w) (.cells #[.int .i64 c.inp, .slice c.A1 c.lat.length c.c1, .slice c.A2 c.gat.length c.c2, .slice c.A3 c.out.length c.c3, .slice c.A4 c.bad.length c.c4, .slice c.A5 c.con.length c.c5] 26)) (.cells #[.slice n.A0 n.l0.length n.c0, .slice n.A1 n.l1.length n.c1, .slice n.A2 n.l2.length n.c2, .slice n.A3 n.l3.length n.c3, .slice n.A4 n.l4.length n.c4] 29))
  have X0 : Aside0 (Boxed c w.heap.size ((w.alloc (.cells #[.int .i64 c.inp, .slice c.A1 c.lat.length c.c1, .slice c.A2 c.gat.length c.c2, .slice c.A3 c.out.length c.c3, .slice c.A4 c.bad.length c.c4, .slice c.A5 c.con.length c.c5] 26)).alloc (.cells #[.slice n.A0 n.l0.length n.c0, .slice n.A1 n.l1.length n.c1, .slice n.A2 n.l2.length n.c2, .slice n.A3 n.l3.length n.c3, .slice n.A4 n.l4.length n.c4] 29))) := ⟨(show Boxed c w.heap.size (w.alloc (.cells #[.int .i64 c.inp, .slice c.A1 c.lat.length c.c1, .slice c.A2 c.gat.length c.c2, .slice c.A3 c.out.length c.c3, .slice c.A4 c.bad.length c.c4, .slice c.A5 c.con.length c.c5] 26)) from heap_alloc_new w _).below (below_alloc (Below.refl _ _) _)⟩
  have Y0 : Aside0 (NBoxed n (w.heap.size + 1) ((w.alloc (.cells #[.int .i64 c.inp, .slice c.A1 c.lat.length c.c1, .slice c.A2 c.gat.length c.c2, .slice c.A3 c.out.length c.c3, .slice c.A4 c.bad.length c.c4, .slice c.A5 c.con.length c.c5] 26)).alloc (.cells #[.slice n.A0 n.l0.length n.c0, .slice n.A1 n.l1.length n.c1, .slice n.A2 n.l2.length n.c2, .slice n.A3 n.l3.length n.c3, .slice n.A4 n.l4.length n.c4] 29))) := ⟨heap_alloc2_new w _ _⟩
  have HC := Aside0.mk hc
  have HH := Aside0.mk hh
  have HG := Aside0.mk hG
  have HFT := Aside0.mk hf
  have HXX := Aside0.mk hx
  have HII := Aside0.mk hi
  clear hc hh hG hf hx hi
  unfold Cv.val Nv.val
  go_enter Tryd.func4, Tryd.ntmps4
  go_wp2_with fail
  refine (great c _ (HC.out.below B0.out)).mono ?_
  cases hgr : decide (300 < c.inp ∨ 600 < c.sum) with
  | true =>
    rintro e w1 ⟨rfl, hb⟩
    have B1 := Aside0.mk (below_then B0.out B0.out.size hb)
    have X1 := Aside0.mk (X0.out.below hb)
    have Y1 := Aside0.mk (Y0.out.below hb)
    clear hb
    obtain ⟨e0, e1, e2, e3, e4, e5⟩ := X1.out.open
    obtain ⟨f0, f1, f2, f3, f4⟩ := Y1.out.open
    go_wp2_with fail
    refine (lives w1 (Glob.below HG.out B1.out)).mono ?_
    rintro e wz ⟨rfl, hz⟩
    go_wp2_with fail
    go_ret
    exact ⟨rfl, below_then B1.out B1.out.size hz⟩
  | false =>
    rintro e w1 ⟨rfl, hb⟩
    have B1 := Aside0.mk (below_then B0.out B0.out.size hb)
    have X1 := Aside0.mk (X0.out.below hb)
    have Y1 := Aside0.mk (Y0.out.below hb)
    clear hb
    obtain ⟨e0, e1, e2, e3, e4, e5⟩ := X1.out.open
    obtain ⟨f0, f1, f2, f3, f4⟩ := Y1.out.open
    have HGR := Aside0.mk (of_decide_eq_false hgr)
    clear hgr
    go_wp2_with fail
    refine (long n w1 (HH.out.below B1.out)).mono ?_
    cases hlo : decide (1000 < n.sum) with
    | true =>
      clear e0 e1 e2 e3 e4 e5 f0 f1 f2 f3 f4
      rintro e w2 ⟨rfl, hb⟩
      have B2 := Aside0.mk (below_then B1.out B1.out.size hb)
      have X2 := Aside0.mk (X1.out.below hb)
      have Y2 := Aside0.mk (Y1.out.below hb)
      clear hb
      obtain ⟨e0, e1, e2, e3, e4, e5⟩ := X2.out.open
      obtain ⟨f0, f1, f2, f3, f4⟩ := Y2.out.open
      go_wp2_with fail
      refine (lives w2 (Glob.below HG.out B2.out)).mono ?_
      rintro e wz ⟨rfl, hz⟩
      go_wp2_with fail
      go_ret
      exact ⟨rfl, below_then B2.out B2.out.size hz⟩
    | false =>
      clear e0 e1 e2 e3 e4 e5 f0 f1 f2 f3 f4
      rintro e w2 ⟨rfl, hb⟩
      have B2 := Aside0.mk (below_then B1.out B1.out.size hb)
      have X2 := Aside0.mk (X1.out.below hb)
      have Y2 := Aside0.mk (Y1.out.below hb)
      clear hb
      obtain ⟨e0, e1, e2, e3, e4, e5⟩ := X2.out.open
      obtain ⟨f0, f1, f2, f3, f4⟩ := Y2.out.open
      clear hlo
      go_wp2_with fail
      refine (may c n w2 (HC.out.below B2.out) (HH.out.below B2.out) HFT.out).mono ?_
      cases hmy : mayB c n with
      | false =>
        clear e0 e1 e2 e3 e4 e5 f0 f1 f2 f3 f4
        rintro e w3 ⟨rfl, hb⟩
        have B3 := Aside0.mk (below_then B2.out B2.out.size hb)
        have X3 := Aside0.mk (X2.out.below hb)
        have Y3 := Aside0.mk (Y2.out.below hb)
        clear hb
        obtain ⟨e0, e1, e2, e3, e4, e5⟩ := X3.out.open
        obtain ⟨f0, f1, f2, f3, f4⟩ := Y3.out.open
        go_wp2_with fail
        refine (lives w3 (Glob.below HG.out B3.out)).mono ?_
        rintro e wz ⟨rfl, hz⟩
        go_wp2_with fail
        go_ret
        exact ⟨rfl, below_then B3.out B3.out.size hz⟩
      | true =>
        clear e0 e1 e2 e3 e4 e5 f0 f1 f2 f3 f4
        rintro e w3 ⟨rfl, hb⟩
        have B3 := Aside0.mk (below_then B2.out B2.out.size hb)
        have X3 := Aside0.mk (X2.out.below hb)
        have Y3 := Aside0.mk (Y2.out.below hb)
        clear hb
        obtain ⟨e0, e1, e2, e3, e4, e5⟩ := X3.out.open
        obtain ⟨f0, f1, f2, f3, f4⟩ := Y3.out.open
        have HMY := Aside0.mk hmy
        have HS := Aside0.mk (small_of (mayB_ok hmy))
        clear hmy
        go_wp2_with fail
        refine (once' c n w3 (HC.out.below B3.out) (HH.out.below B3.out) HS.out (mayB_ok HMY.out)).mono ?_
        cases hon : onceB c n with
        | false =>
          clear e0 e1 e2 e3 e4 e5 f0 f1 f2 f3 f4
          rintro e w4 ⟨rfl, hb⟩
          have B4 := Aside0.mk (below_then B3.out B3.out.size hb)
          have X4 := Aside0.mk (X3.out.below hb)
          have Y4 := Aside0.mk (Y3.out.below hb)
          clear hb
          obtain ⟨e0, e1, e2, e3, e4, e5⟩ := X4.out.open
          obtain ⟨f0, f1, f2, f3, f4⟩ := Y4.out.open
          go_wp2_with fail
          refine (lives w4 (Glob.below HG.out B4.out)).mono ?_
          rintro e wz ⟨rfl, hz⟩
          go_wp2_with fail
          go_ret
          exact ⟨rfl, below_then B4.out B4.out.size hz⟩
        | true =>
          clear e0 e1 e2 e3 e4 e5 f0 f1 f2 f3 f4
          rintro e w4 ⟨rfl, hb⟩
          have B4 := Aside0.mk (below_then B3.out B3.out.size hb)
          have X4 := Aside0.mk (X3.out.below hb)
          have Y4 := Aside0.mk (Y3.out.below hb)
          clear hb
          obtain ⟨e0, e1, e2, e3, e4, e5⟩ := X4.out.open
          obtain ⟨f0, f1, f2, f3, f4⟩ := Y4.out.open
          have HK : Aside0 (Kept c n) := ⟨⟨mayB_ok HMY.out, onceB_ok hon, by have := HGR.out; omega⟩⟩
          clear hon
          have hz := HK.out.ok.sizes
          have hin := HK.out.inp
          have HZ := Aside0.mk (And.intro hz hin)
          clear hz hin
          have hsum : c.inp.toNat + c.lat.length + c.gat.length + c.out.length + c.bad.length + c.con.length < 1000000 := by have := HGR.out; have := HZ.out; omega
          obtain ⟨k, hkx⟩ : ∃ k : Nat, (x : Int) % 6 = (k : Int) := ⟨x % 6, by omega⟩
          have hk6 : k < 6 := by omega
          have hF6 := Aside0.mk (find6 (n := n) HK.out.apart hsum k hk6 i HII.out)
          have HKX := Aside0.mk (And.intro hkx hk6)
          clear hsum
          have hi := HII.out
          have hC : Kd.C (Kd.int .u32) (w4.alloc (.cells #[.int .u32 i] 30)) (some ⟨w4.heap.size, 0, none⟩) [(i : Int)].length [(i : Int)] := by
            refine Kd.C_of_reads (d := (0 : Int)) (h1 := fun _ => rfl) ⟨rfl, by simp, fun _ => ⟨_, rfl, fun j hj => ?_⟩⟩
            obtain rfl : j = 0 := by simpa using hj
            show (w4.alloc (.cells #[.int .u32 (i : Int)] 30)).cell? ⟨w4.heap.size, 0, none⟩ = some (.int .u32 (i : Int))
            simp
          have HW := Aside0.mk (inquestref01_Write.calls 40 none 0 [] (some ⟨w4.heap.size, 0, none⟩) 1 [(i : Int)] _ (w4.alloc (.cells #[.int .u32 i] 30)) (Kd.C_nil _ _) (Nat.le_refl _) hC (by simp) (write_one i (by omega)))
          have HN := Aside0.mk (numText_le i (by omega))
          have HST := Aside0.mk (strOf_dec i)
          clear hC
          generalize numText (i : Int) = t at HW HN HST
          go_wp2_with fail
          refine HW.out.mono ?_
          rintro e w5 ⟨v, rfl, hv, hb⟩
          obtain ⟨A, cc, ev⟩ := Kd.V_slice hv
          subst ev
          obtain ⟨_, hcc, hCv⟩ := Kd.V_reads' hv
          have hl : (t ++ [10]).length = t.length + 1 := by simp
          rw [hl] at hcc hCv ⊢
          have hT : Kd.C (Kd.int .u8) w5 A t.length t := by
            have h1 : Kd.C (Kd.int .u8) w5 A (t ++ [10]).length (t ++ [10]) := by rw [hl]; exact hCv
            have := Kd.C_take (m := t.length) h1 (by simp)
            rw [List.take_left'] at this
            exact this
            rfl
          have hcv := Kd.C_string (P := Tryd.prog) (A := A) (c := cc) Tryd.underlying43 Tryd.underlying5 Tryd.underlying9 (Kd.C_drew hT)
          have B5 := Aside0.mk (below_then (below_alloc B4.out (.cells #[.int .u32 i] 30)) (below_alloc B4.out (.cells #[.int .u32 i] 30)).size hb)
          have hb45 : Below w4.heap.size w4 w5 := below_then (below_alloc (Below.refl _ _) _) (below_alloc (Below.refl _ _) _).size hb
          have X5 := Aside0.mk (X4.out.below hb45)
          have Y5 := Aside0.mk (Y4.out.below hb45)
          have hlen : t.length + 1 ≤ cc := hcc
          have hl20 := HN.out
          clear hv hCv hb hb45 hT
          rw [HST.out] at hcv
          have hlc := letter_size k hk6
          obtain ⟨L, hL⟩ : ∃ L, L = (⟨#[105, 108, 111, 98, 99, 97]⟩ : ByteArray).extract k (k + 1) := ⟨_, rfl⟩
          have hsz : (⟨(decDigits i).toArray⟩ : ByteArray).size = t.length := by rw [← HST.out, strOfNums_size]
          have hcat := letter_cat k hk6 i
          rw [← hL] at hcat hlc
          have HL := Aside0.mk hL
          have HCAT := Aside0.mk hcat
          generalize (⟨(decDigits i).toArray⟩ : ByteArray) = D at hcv hsz HCAT
          have hfit : (9223372036854775807 < L.size + D.size) = False := eq_false (by omega)
          clear hL hcat e0 e1 e2 e3 e4 e5 f0 f1 f2 f3 f4
          have hsl := letter_slice k hk6
          rw [← HL.out] at hsl
          go_wp2_with fail
          go_region
          rw [HCAT.out]
          have hss : (ownB (let6 k) i).size ≤ 1048576 := by rw [← HCAT.out, ByteArray.size_append]; omega
          have B6 := Aside0.mk (below_drew B5.out)
          have X6 := Aside0.mk (X5.out.below (below_drew (Below.refl w5.heap.size w5)))
          have Y6 := Aside0.mk (Y5.out.below (below_drew (Below.refl w5.heap.size w5)))
          have hFD := find c n (ownB (let6 k) i) hss w5.drew (HC.out.below B6.out) (HH.out.below B6.out) (Glob.below HG.out B6.out) HFT.out
          rw [HMY.out, if_pos rfl] at hFD
          unfold findR at hFD
          generalize w5.drew = w6 at B6 X6 Y6 hFD ⊢
          have HCV := Aside0.mk hss
          clear hcv hss hsl hlc hsz hfit hl20 hlen hcc hl
          generalize hsd : ownB (let6 k) i = s at hF6 hFD HCV ⊢
          have HSD := Aside0.mk hsd
          generalize findV c n s = p at hF6 hFD
          obtain ⟨p1, p2⟩ := p
          have HFD := Aside0.mk hFD
          clear hFD hsd
          obtain ⟨e0, e1, e2, e3, e4, e5⟩ := X6.out.open
          obtain ⟨f0, f1, f2, f3, f4⟩ := Y6.out.open
          go_wp2_with fail
          refine HFD.out.mono ?_
          clear e0 e1 e2 e3 e4 e5 f0 f1 f2 f3 f4 HFD
          rintro e w7 ⟨rfl, hb⟩
          have B7 := Aside0.mk (below_then B6.out B6.out.size hb)
          have X7 := Aside0.mk (X6.out.below hb)
          have Y7 := Aside0.mk (Y6.out.below hb)
          clear hb
          obtain ⟨e0, e1, e2, e3, e4, e5⟩ := X7.out.open
          obtain ⟨f0, f1, f2, f3, f4⟩ := Y7.out.open
          have hk' : k = 0 ∨ k = 1 ∨ k = 2 ∨ k = 3 ∨ k = 4 ∨ k = 5 := by omega
          clear hkx hk6 HKX HL HCAT
          rcases hk' with rfl | rfl | rfl | rfl | rfl | rfl
          · skip
            have hF := hF6.out
            clear hF6
            change (i < c.inp.toNat → (p1, p2) = (lit6 c 0 i, 0)) ∧ (c.inp.toNat ≤ i → (p1, p2) = (0, 7) ∨ (p2 = 0 ∧ ∃ l ∈ [n.l0, n.l1, n.l2, n.l3, n.l4], s ∈ l)) at hF
            rw [show ((0 : Nat) : Int) = 0 from rfl]
            have hb8 := below_alloc (Below.refl w7.heap.size w7) (.cells #[.int .i64 c.inp, .int .i64 c.lat.length, .int .i64 c.out.length, .int .i64 c.bad.length, .int .i64 c.con.length, .int .i64 c.gat.length] 3)
            have X8 := Aside0.mk (X7.out.below hb8)
            have Y8 := Aside0.mk (Y7.out.below hb8)
            have B8 := Aside0.mk (below_then B7.out B7.out.size hb8)
            clear hb8
            obtain ⟨g0, g1, g2, g3, g4, g5⟩ := X8.out.open
            obtain ⟨h0, h1, h2, h3, h4⟩ := Y8.out.open
            have hin := HZ.out
            rcases Nat.lt_or_ge i (c.inp.toNat) with him | him
            · skip
              have hp := hF.1 him
              injection hp with hp1 hp2
              subst hp2
              have hd : decide (c.inp ≤ (i : Int)) = false := decide_eq_false (by omega)
              obtain rfl : p1 = 2 * (1 + (i : Int)) := hp1
              clear hF
              go_wp2_with fail
              refine (lives _ (Glob.below HG.out B8.out)).mono ?_
              rintro e wz ⟨rfl, hz⟩
              go_wp2_with fail
              go_ret
              exact ⟨rfl, below_then B8.out B8.out.size hz⟩
            · skip
              have hd : decide (c.inp ≤ (i : Int)) = true := decide_eq_true (by omega)
              skip
              rcases hF.2 him with hp | ⟨hp, htl⟩
              · skip
                injection hp with hp1 hp2
                subst hp1
                subst hp2
                clear hF
                go_wp2_with fail
                refine (lives _ (Glob.below HG.out B8.out)).mono ?_
                rintro e wz ⟨rfl, hz⟩
                go_wp2_with fail
                go_ret
                exact ⟨rfl, below_then B8.out B8.out.size hz⟩
              · skip
                subst hp
                clear hF
                have HTL := Aside0.mk htl
                clear htl
                go_wp2_with fail
                have hnh := HH.out.below B8.out
                refine (inquestlaw21_told.calls 8000000 n.A0 n.c0 n.l0 n.A1 n.c1 n.l1 n.A2 n.c2 n.l2 n.A3 n.c3 n.l3 n.A4 n.c4 n.l4 s true _ hnh.l0 hnh.hc0 hnh.l1 hnh.hc1 hnh.l2 hnh.hc2 hnh.l3 hnh.hc3 hnh.l4 hnh.hc4 (told_yes _ _ _ _ _ _ _ HS.out.g0 HS.out.g1 HS.out.g2 HS.out.g3 HS.out.g4 (Nat.le_refl _) HTL.out)).mono ?_
                rintro e w9 ⟨rfl, hb9⟩
                have B9 := Aside0.mk (below_then B8.out B8.out.size hb9)
                go_wp2_with fail
                refine (lives w9 (Glob.below HG.out B9.out)).mono ?_
                rintro e wz ⟨rfl, hz⟩
                go_wp2_with fail
                go_ret
                exact ⟨rfl, below_then B9.out B9.out.size hz⟩
          · skip
            have hF := hF6.out
            clear hF6
            change (i < c.lat.length → (p1, p2) = (lit6 c 1 i, 0)) ∧ (c.lat.length ≤ i → (p1, p2) = (0, 7) ∨ (p2 = 0 ∧ ∃ l ∈ [n.l0, n.l1, n.l2, n.l3, n.l4], s ∈ l)) at hF
            rw [show ((1 : Nat) : Int) = 1 from rfl]
            have hb8 := below_alloc (Below.refl w7.heap.size w7) (.cells #[.int .i64 c.inp, .int .i64 c.lat.length, .int .i64 c.out.length, .int .i64 c.bad.length, .int .i64 c.con.length, .int .i64 c.gat.length] 3)
            have X8 := Aside0.mk (X7.out.below hb8)
            have Y8 := Aside0.mk (Y7.out.below hb8)
            have B8 := Aside0.mk (below_then B7.out B7.out.size hb8)
            clear hb8
            obtain ⟨g0, g1, g2, g3, g4, g5⟩ := X8.out.open
            obtain ⟨h0, h1, h2, h3, h4⟩ := Y8.out.open
            have hin := HZ.out
            rcases Nat.lt_or_ge i (c.lat.length) with him | him
            · skip
              have hp := hF.1 him
              injection hp with hp1 hp2
              subst hp2
              have hd : decide ((c.lat.length : Int) ≤ (i : Int)) = false := decide_eq_false (by omega)
              obtain rfl : p1 = 2 * (1 + c.inp + (i : Int)) := by rw [hp1]; show (2 * (1 + ((c.inp.toNat : Nat) : Int) + (i : Int))) = _; omega
              have hw1 : wrap64 (1 + c.inp) = 1 + c.inp := by unfold wrap64; omega
              have hw2 : wrap64 (1 + c.inp + (i : Int)) = 1 + c.inp + (i : Int) := by unfold wrap64; omega
              have hw3 : wrap64 (2 * (1 + c.inp + (i : Int))) = 2 * (1 + c.inp + (i : Int)) := by unfold wrap64; omega
              have hw4 : (2 * (1 + c.inp + (i : Int))) % 4294967296 = 2 * (1 + c.inp + (i : Int)) := by omega
              clear hF
              go_wp2_with fail
              refine (lives _ (Glob.below HG.out B8.out)).mono ?_
              rintro e wz ⟨rfl, hz⟩
              go_wp2_with fail
              go_ret
              exact ⟨rfl, below_then B8.out B8.out.size hz⟩
            · skip
              have hd : decide ((c.lat.length : Int) ≤ (i : Int)) = true := decide_eq_true (by omega)
              skip
              rcases hF.2 him with hp | ⟨hp, htl⟩
              · skip
                injection hp with hp1 hp2
                subst hp1
                subst hp2
                clear hF
                go_wp2_with fail
                refine (lives _ (Glob.below HG.out B8.out)).mono ?_
                rintro e wz ⟨rfl, hz⟩
                go_wp2_with fail
                go_ret
                exact ⟨rfl, below_then B8.out B8.out.size hz⟩
              · skip
                subst hp
                clear hF
                have HTL := Aside0.mk htl
                clear htl
                go_wp2_with fail
                have hnh := HH.out.below B8.out
                refine (inquestlaw21_told.calls 8000000 n.A0 n.c0 n.l0 n.A1 n.c1 n.l1 n.A2 n.c2 n.l2 n.A3 n.c3 n.l3 n.A4 n.c4 n.l4 s true _ hnh.l0 hnh.hc0 hnh.l1 hnh.hc1 hnh.l2 hnh.hc2 hnh.l3 hnh.hc3 hnh.l4 hnh.hc4 (told_yes _ _ _ _ _ _ _ HS.out.g0 HS.out.g1 HS.out.g2 HS.out.g3 HS.out.g4 (Nat.le_refl _) HTL.out)).mono ?_
                rintro e w9 ⟨rfl, hb9⟩
                have B9 := Aside0.mk (below_then B8.out B8.out.size hb9)
                go_wp2_with fail
                refine (lives w9 (Glob.below HG.out B9.out)).mono ?_
                rintro e wz ⟨rfl, hz⟩
                go_wp2_with fail
                go_ret
                exact ⟨rfl, below_then B9.out B9.out.size hz⟩
          · skip
            have hF := hF6.out
            clear hF6
            change (i < c.out.length → (p1, p2) = (lit6 c 2 i, 0)) ∧ (c.out.length ≤ i → (p1, p2) = (0, 7) ∨ (p2 = 0 ∧ ∃ l ∈ [n.l0, n.l1, n.l2, n.l3, n.l4], s ∈ l)) at hF
            rw [show ((2 : Nat) : Int) = 2 from rfl]
            have hb8 := below_alloc (Below.refl w7.heap.size w7) (.cells #[.int .i64 c.inp, .int .i64 c.lat.length, .int .i64 c.out.length, .int .i64 c.bad.length, .int .i64 c.con.length, .int .i64 c.gat.length] 3)
            have X8 := Aside0.mk (X7.out.below hb8)
            have Y8 := Aside0.mk (Y7.out.below hb8)
            have B8 := Aside0.mk (below_then B7.out B7.out.size hb8)
            clear hb8
            obtain ⟨g0, g1, g2, g3, g4, g5⟩ := X8.out.open
            obtain ⟨h0, h1, h2, h3, h4⟩ := Y8.out.open
            have hin := HZ.out
            rcases Nat.lt_or_ge i (c.out.length) with him | him
            · skip
              have hp := hF.1 him
              injection hp with hp1 hp2
              subst hp2
              have hd : decide ((c.out.length : Int) ≤ (i : Int)) = false := decide_eq_false (by omega)
              have hrb : ReadsOf (Value.int .u32) (0 : Int) _ c.A3 c.out.length c.out := Kd.reads_of_C (HC.out.below B8.out).out
              obtain ⟨b, hab, hcb⟩ := hrb.2.2 (by omega)
              have hcbi := hcb i him
              rw [show c.out.getD i 0 = p1 from hp1.symm] at hcbi
              have hib : ∀ W : World, (Instr.indexAt 24 (.slice c.A3 c.out.length c.c3) (.int .u16 i)).run Tryd.prog W = .ok (.pointer (some (b.add i))) W := by
                intro W
                rw [hab]
                go_simp
              clear hrb hcb hab hp1
              clear hF
              go_wp2_with fail
              refine (lives _ (Glob.below HG.out B8.out)).mono ?_
              rintro e wz ⟨rfl, hz⟩
              go_wp2_with fail
              go_ret
              exact ⟨rfl, below_then B8.out B8.out.size hz⟩
            · skip
              have hd : decide ((c.out.length : Int) ≤ (i : Int)) = true := decide_eq_true (by omega)
              skip
              rcases hF.2 him with hp | ⟨hp, htl⟩
              · skip
                injection hp with hp1 hp2
                subst hp1
                subst hp2
                clear hF
                go_wp2_with fail
                refine (lives _ (Glob.below HG.out B8.out)).mono ?_
                rintro e wz ⟨rfl, hz⟩
                go_wp2_with fail
                go_ret
                exact ⟨rfl, below_then B8.out B8.out.size hz⟩
              · skip
                subst hp
                clear hF
                have HTL := Aside0.mk htl
                clear htl
                go_wp2_with fail
                have hnh := HH.out.below B8.out
                refine (inquestlaw21_told.calls 8000000 n.A0 n.c0 n.l0 n.A1 n.c1 n.l1 n.A2 n.c2 n.l2 n.A3 n.c3 n.l3 n.A4 n.c4 n.l4 s true _ hnh.l0 hnh.hc0 hnh.l1 hnh.hc1 hnh.l2 hnh.hc2 hnh.l3 hnh.hc3 hnh.l4 hnh.hc4 (told_yes _ _ _ _ _ _ _ HS.out.g0 HS.out.g1 HS.out.g2 HS.out.g3 HS.out.g4 (Nat.le_refl _) HTL.out)).mono ?_
                rintro e w9 ⟨rfl, hb9⟩
                have B9 := Aside0.mk (below_then B8.out B8.out.size hb9)
                go_wp2_with fail
                refine (lives w9 (Glob.below HG.out B9.out)).mono ?_
                rintro e wz ⟨rfl, hz⟩
                go_wp2_with fail
                go_ret
                exact ⟨rfl, below_then B9.out B9.out.size hz⟩
          · skip
            have hF := hF6.out
            clear hF6
            change (i < c.bad.length → (p1, p2) = (lit6 c 3 i, 0)) ∧ (c.bad.length ≤ i → (p1, p2) = (0, 7) ∨ (p2 = 0 ∧ ∃ l ∈ [n.l0, n.l1, n.l2, n.l3, n.l4], s ∈ l)) at hF
            rw [show ((3 : Nat) : Int) = 3 from rfl]
            have hb8 := below_alloc (Below.refl w7.heap.size w7) (.cells #[.int .i64 c.inp, .int .i64 c.lat.length, .int .i64 c.out.length, .int .i64 c.bad.length, .int .i64 c.con.length, .int .i64 c.gat.length] 3)
            have X8 := Aside0.mk (X7.out.below hb8)
            have Y8 := Aside0.mk (Y7.out.below hb8)
            have B8 := Aside0.mk (below_then B7.out B7.out.size hb8)
            clear hb8
            obtain ⟨g0, g1, g2, g3, g4, g5⟩ := X8.out.open
            obtain ⟨h0, h1, h2, h3, h4⟩ := Y8.out.open
            have hin := HZ.out
            rcases Nat.lt_or_ge i (c.bad.length) with him | him
            · skip
              have hp := hF.1 him
              injection hp with hp1 hp2
              subst hp2
              have hd : decide ((c.bad.length : Int) ≤ (i : Int)) = false := decide_eq_false (by omega)
              have hrb : ReadsOf (Value.int .u32) (0 : Int) _ c.A4 c.bad.length c.bad := Kd.reads_of_C (HC.out.below B8.out).bad
              obtain ⟨b, hab, hcb⟩ := hrb.2.2 (by omega)
              have hcbi := hcb i him
              rw [show c.bad.getD i 0 = p1 from hp1.symm] at hcbi
              have hib : ∀ W : World, (Instr.indexAt 24 (.slice c.A4 c.bad.length c.c4) (.int .u16 i)).run Tryd.prog W = .ok (.pointer (some (b.add i))) W := by
                intro W
                rw [hab]
                go_simp
              clear hrb hcb hab hp1
              clear hF
              go_wp2_with fail
              refine (lives _ (Glob.below HG.out B8.out)).mono ?_
              rintro e wz ⟨rfl, hz⟩
              go_wp2_with fail
              go_ret
              exact ⟨rfl, below_then B8.out B8.out.size hz⟩
            · skip
              have hd : decide ((c.bad.length : Int) ≤ (i : Int)) = true := decide_eq_true (by omega)
              skip
              rcases hF.2 him with hp | ⟨hp, htl⟩
              · skip
                injection hp with hp1 hp2
                subst hp1
                subst hp2
                clear hF
                go_wp2_with fail
                refine (lives _ (Glob.below HG.out B8.out)).mono ?_
                rintro e wz ⟨rfl, hz⟩
                go_wp2_with fail
                go_ret
                exact ⟨rfl, below_then B8.out B8.out.size hz⟩
              · skip
                subst hp
                clear hF
                have HTL := Aside0.mk htl
                clear htl
                go_wp2_with fail
                have hnh := HH.out.below B8.out
                refine (inquestlaw21_told.calls 8000000 n.A0 n.c0 n.l0 n.A1 n.c1 n.l1 n.A2 n.c2 n.l2 n.A3 n.c3 n.l3 n.A4 n.c4 n.l4 s true _ hnh.l0 hnh.hc0 hnh.l1 hnh.hc1 hnh.l2 hnh.hc2 hnh.l3 hnh.hc3 hnh.l4 hnh.hc4 (told_yes _ _ _ _ _ _ _ HS.out.g0 HS.out.g1 HS.out.g2 HS.out.g3 HS.out.g4 (Nat.le_refl _) HTL.out)).mono ?_
                rintro e w9 ⟨rfl, hb9⟩
                have B9 := Aside0.mk (below_then B8.out B8.out.size hb9)
                go_wp2_with fail
                refine (lives w9 (Glob.below HG.out B9.out)).mono ?_
                rintro e wz ⟨rfl, hz⟩
                go_wp2_with fail
                go_ret
                exact ⟨rfl, below_then B9.out B9.out.size hz⟩
          · skip
            have hF := hF6.out
            clear hF6
            change (i < c.con.length → (p1, p2) = (lit6 c 4 i, 0)) ∧ (c.con.length ≤ i → (p1, p2) = (0, 7) ∨ (p2 = 0 ∧ ∃ l ∈ [n.l0, n.l1, n.l2, n.l3, n.l4], s ∈ l)) at hF
            rw [show ((4 : Nat) : Int) = 4 from rfl]
            have hb8 := below_alloc (Below.refl w7.heap.size w7) (.cells #[.int .i64 c.inp, .int .i64 c.lat.length, .int .i64 c.out.length, .int .i64 c.bad.length, .int .i64 c.con.length, .int .i64 c.gat.length] 3)
            have X8 := Aside0.mk (X7.out.below hb8)
            have Y8 := Aside0.mk (Y7.out.below hb8)
            have B8 := Aside0.mk (below_then B7.out B7.out.size hb8)
            clear hb8
            obtain ⟨g0, g1, g2, g3, g4, g5⟩ := X8.out.open
            obtain ⟨h0, h1, h2, h3, h4⟩ := Y8.out.open
            have hin := HZ.out
            rcases Nat.lt_or_ge i (c.con.length) with him | him
            · skip
              have hp := hF.1 him
              injection hp with hp1 hp2
              subst hp2
              have hd : decide ((c.con.length : Int) ≤ (i : Int)) = false := decide_eq_false (by omega)
              have hrb : ReadsOf (Value.int .u32) (0 : Int) _ c.A5 c.con.length c.con := Kd.reads_of_C (HC.out.below B8.out).con
              obtain ⟨b, hab, hcb⟩ := hrb.2.2 (by omega)
              have hcbi := hcb i him
              rw [show c.con.getD i 0 = p1 from hp1.symm] at hcbi
              have hib : ∀ W : World, (Instr.indexAt 24 (.slice c.A5 c.con.length c.c5) (.int .u16 i)).run Tryd.prog W = .ok (.pointer (some (b.add i))) W := by
                intro W
                rw [hab]
                go_simp
              clear hrb hcb hab hp1
              clear hF
              go_wp2_with fail
              refine (lives _ (Glob.below HG.out B8.out)).mono ?_
              rintro e wz ⟨rfl, hz⟩
              go_wp2_with fail
              go_ret
              exact ⟨rfl, below_then B8.out B8.out.size hz⟩
            · skip
              have hd : decide ((c.con.length : Int) ≤ (i : Int)) = true := decide_eq_true (by omega)
              skip
              rcases hF.2 him with hp | ⟨hp, htl⟩
              · skip
                injection hp with hp1 hp2
                subst hp1
                subst hp2
                clear hF
                go_wp2_with fail
                refine (lives _ (Glob.below HG.out B8.out)).mono ?_
                rintro e wz ⟨rfl, hz⟩
                go_wp2_with fail
                go_ret
                exact ⟨rfl, below_then B8.out B8.out.size hz⟩
              · skip
                subst hp
                clear hF
                have HTL := Aside0.mk htl
                clear htl
                go_wp2_with fail
                have hnh := HH.out.below B8.out
                refine (inquestlaw21_told.calls 8000000 n.A0 n.c0 n.l0 n.A1 n.c1 n.l1 n.A2 n.c2 n.l2 n.A3 n.c3 n.l3 n.A4 n.c4 n.l4 s true _ hnh.l0 hnh.hc0 hnh.l1 hnh.hc1 hnh.l2 hnh.hc2 hnh.l3 hnh.hc3 hnh.l4 hnh.hc4 (told_yes _ _ _ _ _ _ _ HS.out.g0 HS.out.g1 HS.out.g2 HS.out.g3 HS.out.g4 (Nat.le_refl _) HTL.out)).mono ?_
                rintro e w9 ⟨rfl, hb9⟩
                have B9 := Aside0.mk (below_then B8.out B8.out.size hb9)
                go_wp2_with fail
                refine (lives w9 (Glob.below HG.out B9.out)).mono ?_
                rintro e wz ⟨rfl, hz⟩
                go_wp2_with fail
                go_ret
                exact ⟨rfl, below_then B9.out B9.out.size hz⟩
          · skip
            have hF := hF6.out
            clear hF6
            change (i < c.gat.length → (p1, p2) = (lit6 c 5 i, 0)) ∧ (c.gat.length ≤ i → (p1, p2) = (0, 7) ∨ (p2 = 0 ∧ ∃ l ∈ [n.l0, n.l1, n.l2, n.l3, n.l4], s ∈ l)) at hF
            rw [show ((5 : Nat) : Int) = 5 from rfl]
            have hb8 := below_alloc (Below.refl w7.heap.size w7) (.cells #[.int .i64 c.inp, .int .i64 c.lat.length, .int .i64 c.out.length, .int .i64 c.bad.length, .int .i64 c.con.length, .int .i64 c.gat.length] 3)
            have X8 := Aside0.mk (X7.out.below hb8)
            have Y8 := Aside0.mk (Y7.out.below hb8)
            have B8 := Aside0.mk (below_then B7.out B7.out.size hb8)
            clear hb8
            obtain ⟨g0, g1, g2, g3, g4, g5⟩ := X8.out.open
            obtain ⟨h0, h1, h2, h3, h4⟩ := Y8.out.open
            have hin := HZ.out
            rcases Nat.lt_or_ge i (c.gat.length) with him | him
            · skip
              have hp := hF.1 him
              injection hp with hp1 hp2
              subst hp2
              have hd : decide ((c.gat.length : Int) ≤ (i : Int)) = false := decide_eq_false (by omega)
              obtain rfl : p1 = 2 * (1 + c.inp + (c.lat.length : Int) + (i : Int)) := by rw [hp1]; show (2 * (1 + ((c.inp.toNat : Nat) : Int) + (c.lat.length : Int) + (i : Int))) = _; omega
              have hw1 : wrap64 (1 + c.inp) = 1 + c.inp := by unfold wrap64; omega
              have hw0 : wrap64 (1 + c.inp + (c.lat.length : Int)) = 1 + c.inp + (c.lat.length : Int) := by unfold wrap64; omega
              have hw2 : wrap64 (1 + c.inp + (c.lat.length : Int) + (i : Int)) = 1 + c.inp + (c.lat.length : Int) + (i : Int) := by unfold wrap64; omega
              have hw3 : wrap64 (2 * (1 + c.inp + (c.lat.length : Int) + (i : Int))) = 2 * (1 + c.inp + (c.lat.length : Int) + (i : Int)) := by unfold wrap64; omega
              have hw4 : (2 * (1 + c.inp + (c.lat.length : Int) + (i : Int))) % 4294967296 = 2 * (1 + c.inp + (c.lat.length : Int) + (i : Int)) := by omega
              clear hF
              go_wp2_with fail
              refine (lives _ (Glob.below HG.out B8.out)).mono ?_
              rintro e wz ⟨rfl, hz⟩
              go_wp2_with fail
              go_ret
              exact ⟨rfl, below_then B8.out B8.out.size hz⟩
            · skip
              have hd : decide ((c.gat.length : Int) ≤ (i : Int)) = true := decide_eq_true (by omega)
              skip
              rcases hF.2 him with hp | ⟨hp, htl⟩
              · skip
                injection hp with hp1 hp2
                subst hp1
                subst hp2
                clear hF
                go_wp2_with fail
                refine (lives _ (Glob.below HG.out B8.out)).mono ?_
                rintro e wz ⟨rfl, hz⟩
                go_wp2_with fail
                go_ret
                exact ⟨rfl, below_then B8.out B8.out.size hz⟩
              · skip
                subst hp
                clear hF
                have HTL := Aside0.mk htl
                clear htl
                go_wp2_with fail
                have hnh := HH.out.below B8.out
                refine (inquestlaw21_told.calls 8000000 n.A0 n.c0 n.l0 n.A1 n.c1 n.l1 n.A2 n.c2 n.l2 n.A3 n.c3 n.l3 n.A4 n.c4 n.l4 s true _ hnh.l0 hnh.hc0 hnh.l1 hnh.hc1 hnh.l2 hnh.hc2 hnh.l3 hnh.hc3 hnh.l4 hnh.hc4 (told_yes _ _ _ _ _ _ _ HS.out.g0 HS.out.g1 HS.out.g2 HS.out.g3 HS.out.g4 (Nat.le_refl _) HTL.out)).mono ?_
                rintro e w9 ⟨rfl, hb9⟩
                have B9 := Aside0.mk (below_then B8.out B8.out.size hb9)
                go_wp2_with fail
                refine (lives w9 (Glob.below HG.out B9.out)).mono ?_
                rintro e wz ⟨rfl, hz⟩
                go_wp2_with fail
                go_ret
                exact ⟨rfl, below_then B9.out B9.out.size hz⟩
end Go.Proofs.YtfdemglcjfdodaaDoor.N
