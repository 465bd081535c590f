/-
  NameFinds, walked: whatever the arguments, the law answers true.
-/
import Derived.Test.YtfdemglcjfdodaaDoorNOnce
import Derived.Test.YtfdemglcjfdodaaDoorNLives
import Derived.Test.YtfdemglcjfdodaaDoorNRef
namespace Go.Proofs.YtfdemglcjfdodaaDoor.N
open Go.RowKit Go.Lib Go.Proofs.YtfdemglcjfdodaaDoorW.PrintWords Go.Proofs.YtfdemglcjfdodaaDoorW.PrintLast Go.Proofs.YtfdemglcjfdodaaDoorW.PrintMore
attribute [local go_sem] max2_int min2_int max_two min_two
set_option linter.unusedVariables false

/-- The bounds that May gives. -/
structure Small (c : Cv) (n : Nv) : Prop where
  h1 : c.lat.length ≤ 1048576
  h2 : c.gat.length ≤ 1048576
  h3 : c.out.length ≤ 1048576
  h4 : c.bad.length ≤ 1048576
  h5 : c.con.length ≤ 1048576
  g0 : n.l0.length ≤ 1048576
  g1 : n.l1.length ≤ 1048576
  g2 : n.l2.length ≤ 1048576
  g3 : n.l3.length ≤ 1048576
  g4 : n.l4.length ≤ 1048576
theorem Small.l {c : Cv} {n : Nv} (h : Small c n) (k : Nat) (hk : k < 5) : (n.l k).length ≤ 1048576 := five (P := fun k => (n.l k).length ≤ 1048576) h.g0 h.g1 h.g2 h.g3 h.g4 k hk
theorem small_of {c : Cv} {n : Nv} (h : NameOk c n) : Small c n := by
  have hz := h.sizes
  have hl : ∀ k, k < 5 → (n.l k).length ≤ 1048576 := fun k hk => by
    have := manyN_le h k hk
    have hm := manyN_eq hz.2.2.2.2.2.1 k hk
    rcases h.lists k hk with h1 | h1
    · omega
    · omega
  exact ⟨by omega, by omega, by omega, by omega, by omega, hl 0 (by omega), hl 1 (by omega), hl 2 (by omega), hl 3 (by omega), hl 4 (by omega)⟩
/-- What the guards let by. -/
structure Kept (c : Cv) (n : Nv) : Prop where
  ok : NameOk c n
  apart : Apart c.inp.toNat c.lat.length c.gat.length c.out.length c.bad.length c.con.length n.l0 n.l1 n.l2 n.l3 n.l4
  inp : c.inp ≤ 300
theorem once' (c : Cv) (n : Nv) (w : World) (hc : c.Held w) (hh : n.Held w) (hs : Small c n) (hok : NameOk c n) :
    Calls Tryd.prog 12 #[c.val, n.val] w fun e w' => e = .returned (.bool (onceB c n)) ∧ Below w.heap.size w w' :=
  once c n w hc hh hok.norm.h0 (fun k hk => by have := manyN_le hok k hk; omega) (fun k hk => hs.l k hk) hs.h2
set_option maxHeartbeats 16000000 in
set_option maxRecDepth 100000 in
theorem finds (c : Cv) (n : Nv) (x : Nat) (hx : x < 4294967296) (w : World) (hc : c.Held w) (hh : n.Held w) (hG : Glob w) (hf : Fit c) :
    Calls Tryd.prog 3 #[c.val, n.val, .int .u32 x] w fun e w' => e = .returned (.bool true) ∧ Below w.heap.size w w' := by
  have B0 := Aside0.mk (below_alloc (below_alloc (Below.refl w.heap.size w) (.cells #[.int .i64 c.inp, .slice c.A1 c.lat.length c.c1, .slice c.A2 c.gat.length c.c2, .slice c.A3 c.out.length c.c3, .slice c.A4 c.bad.length c.c4, .slice c.A5 c.con.length c.c5] 26)) (.cells #[.slice n.A0 n.l0.length n.c0, .slice n.A1 n.l1.length n.c1, .slice n.A2 n.l2.length n.c2, .slice n.A3 n.l3.length n.c3, .slice n.A4 n.l4.length n.c4] 29))
  have X0 : Aside0 (Boxed c w.heap.size ((w.alloc (.cells #[.int .i64 c.inp, .slice c.A1 c.lat.length c.c1, .slice c.A2 c.gat.length c.c2, .slice c.A3 c.out.length c.c3, .slice c.A4 c.bad.length c.c4, .slice c.A5 c.con.length c.c5] 26)).alloc (.cells #[.slice n.A0 n.l0.length n.c0, .slice n.A1 n.l1.length n.c1, .slice n.A2 n.l2.length n.c2, .slice n.A3 n.l3.length n.c3, .slice n.A4 n.l4.length n.c4] 29))) := ⟨(show Boxed c w.heap.size (w.alloc (.cells #[.int .i64 c.inp, .slice c.A1 c.lat.length c.c1, .slice c.A2 c.gat.length c.c2, .slice c.A3 c.out.length c.c3, .slice c.A4 c.bad.length c.c4, .slice c.A5 c.con.length c.c5] 26)) from heap_alloc_new w _).below (below_alloc (Below.refl _ _) _)⟩
  have Y0 : Aside0 (NBoxed n (w.heap.size + 1) ((w.alloc (.cells #[.int .i64 c.inp, .slice c.A1 c.lat.length c.c1, .slice c.A2 c.gat.length c.c2, .slice c.A3 c.out.length c.c3, .slice c.A4 c.bad.length c.c4, .slice c.A5 c.con.length c.c5] 26)).alloc (.cells #[.slice n.A0 n.l0.length n.c0, .slice n.A1 n.l1.length n.c1, .slice n.A2 n.l2.length n.c2, .slice n.A3 n.l3.length n.c3, .slice n.A4 n.l4.length n.c4] 29))) := ⟨heap_alloc2_new w _ _⟩
  have HC := Aside0.mk hc
  have HH := Aside0.mk hh
  have HG := Aside0.mk hG
  have HFT := Aside0.mk hf
  have HXX := Aside0.mk hx
  clear hc hh hG hf hx
  unfold Cv.val Nv.val
  go_enter Tryd.func3, Tryd.ntmps3
  go_wp2_with fail
  refine (great c _ (HC.out.below B0.out)).mono ?_
  cases hgr : decide (300 < c.inp ∨ 600 < c.sum) with
  | true =>
    rintro e w1 ⟨rfl, hb⟩
    have B1 := Aside0.mk (below_then B0.out B0.out.size hb)
    have X1 := Aside0.mk (X0.out.below hb)
    have Y1 := Aside0.mk (Y0.out.below hb)
    clear hb
    obtain ⟨e0, e1, e2, e3, e4, e5⟩ := X1.out.open
    obtain ⟨f0, f1, f2, f3, f4⟩ := Y1.out.open
    go_wp2_with fail
    refine (lives w1 (Glob.below HG.out B1.out)).mono ?_
    rintro e wz ⟨rfl, hz⟩
    go_wp2_with fail
    go_ret
    exact ⟨rfl, below_then B1.out B1.out.size hz⟩
  | false =>
    rintro e w1 ⟨rfl, hb⟩
    have B1 := Aside0.mk (below_then B0.out B0.out.size hb)
    have X1 := Aside0.mk (X0.out.below hb)
    have Y1 := Aside0.mk (Y0.out.below hb)
    clear hb
    obtain ⟨e0, e1, e2, e3, e4, e5⟩ := X1.out.open
    obtain ⟨f0, f1, f2, f3, f4⟩ := Y1.out.open
    have HGR := Aside0.mk (of_decide_eq_false hgr)
    clear hgr
    go_wp2_with fail
    refine (long n w1 (HH.out.below B1.out)).mono ?_
    cases hlo : decide (1000 < n.sum) with
    | true =>
      clear e0 e1 e2 e3 e4 e5 f0 f1 f2 f3 f4
      rintro e w2 ⟨rfl, hb⟩
      have B2 := Aside0.mk (below_then B1.out B1.out.size hb)
      have X2 := Aside0.mk (X1.out.below hb)
      have Y2 := Aside0.mk (Y1.out.below hb)
      clear hb
      obtain ⟨e0, e1, e2, e3, e4, e5⟩ := X2.out.open
      obtain ⟨f0, f1, f2, f3, f4⟩ := Y2.out.open
      go_wp2_with fail
      refine (lives w2 (Glob.below HG.out B2.out)).mono ?_
      rintro e wz ⟨rfl, hz⟩
      go_wp2_with fail
      go_ret
      exact ⟨rfl, below_then B2.out B2.out.size hz⟩
    | false =>
      clear e0 e1 e2 e3 e4 e5 f0 f1 f2 f3 f4
      rintro e w2 ⟨rfl, hb⟩
      have B2 := Aside0.mk (below_then B1.out B1.out.size hb)
      have X2 := Aside0.mk (X1.out.below hb)
      have Y2 := Aside0.mk (Y1.out.below hb)
      clear hb
      obtain ⟨e0, e1, e2, e3, e4, e5⟩ := X2.out.open
      obtain ⟨f0, f1, f2, f3, f4⟩ := Y2.out.open
      clear hlo
      go_wp2_with fail
      refine (may c n w2 (HC.out.below B2.out) (HH.out.below B2.out) HFT.out).mono ?_
      cases hmy : mayB c n with
      | false =>
        clear e0 e1 e2 e3 e4 e5 f0 f1 f2 f3 f4
        rintro e w3 ⟨rfl, hb⟩
        have B3 := Aside0.mk (below_then B2.out B2.out.size hb)
        have X3 := Aside0.mk (X2.out.below hb)
        have Y3 := Aside0.mk (Y2.out.below hb)
        clear hb
        obtain ⟨e0, e1, e2, e3, e4, e5⟩ := X3.out.open
        obtain ⟨f0, f1, f2, f3, f4⟩ := Y3.out.open
        go_wp2_with fail
        refine (lives w3 (Glob.below HG.out B3.out)).mono ?_
        rintro e wz ⟨rfl, hz⟩
        go_wp2_with fail
        go_ret
        exact ⟨rfl, below_then B3.out B3.out.size hz⟩
      | true =>
        clear e0 e1 e2 e3 e4 e5 f0 f1 f2 f3 f4
        rintro e w3 ⟨rfl, hb⟩
        have B3 := Aside0.mk (below_then B2.out B2.out.size hb)
        have X3 := Aside0.mk (X2.out.below hb)
        have Y3 := Aside0.mk (Y2.out.below hb)
        clear hb
        obtain ⟨e0, e1, e2, e3, e4, e5⟩ := X3.out.open
        obtain ⟨f0, f1, f2, f3, f4⟩ := Y3.out.open
        have HMY := Aside0.mk hmy
        have HS := Aside0.mk (small_of (mayB_ok hmy))
        clear hmy
        go_wp2_with fail
        refine (once' c n w3 (HC.out.below B3.out) (HH.out.below B3.out) HS.out (mayB_ok HMY.out)).mono ?_
        cases hon : onceB c n with
        | false =>
          clear e0 e1 e2 e3 e4 e5 f0 f1 f2 f3 f4
          rintro e w4 ⟨rfl, hb⟩
          have B4 := Aside0.mk (below_then B3.out B3.out.size hb)
          have X4 := Aside0.mk (X3.out.below hb)
          have Y4 := Aside0.mk (Y3.out.below hb)
          clear hb
          obtain ⟨e0, e1, e2, e3, e4, e5⟩ := X4.out.open
          obtain ⟨f0, f1, f2, f3, f4⟩ := Y4.out.open
          go_wp2_with fail
          refine (lives w4 (Glob.below HG.out B4.out)).mono ?_
          rintro e wz ⟨rfl, hz⟩
          go_wp2_with fail
          go_ret
          exact ⟨rfl, below_then B4.out B4.out.size hz⟩
        | true =>
          clear e0 e1 e2 e3 e4 e5 f0 f1 f2 f3 f4
          rintro e w4 ⟨rfl, hb⟩
          have B4 := Aside0.mk (below_then B3.out B3.out.size hb)
          have X4 := Aside0.mk (X3.out.below hb)
          have Y4 := Aside0.mk (Y3.out.below hb)
          clear hb
          obtain ⟨e0, e1, e2, e3, e4, e5⟩ := X4.out.open
          obtain ⟨f0, f1, f2, f3, f4⟩ := Y4.out.open
          have HK : Aside0 (Kept c n) := ⟨⟨mayB_ok HMY.out, onceB_ok hon, by have := HGR.out; omega⟩⟩
          clear hon
          have hz := HK.out.ok.sizes
          have hin := HK.out.inp
          obtain ⟨r, hr, HV⟩ := refVars c hz.2.2.2.2.2.1 hz.2.2.2.2.2.2 HS.out.h1 HS.out.h2 HS.out.h3 HS.out.h4 HS.out.h5
          have HV := Aside0.mk HV
          have hrb : 0 ≤ r ∧ r ≤ 33068 := by omega
          have HR := Aside0.mk hr
          have HZ := Aside0.mk (And.intro hz hin)
          clear hz hin hr
          go_wp2_with fail
          refine (HV.out w4 (HC.out.below B4.out)).mono ?_
          clear e0 e1 e2 e3 e4 e5 f0 f1 f2 f3 f4
          rintro e w5 ⟨rfl, hb⟩
          have B5 := Aside0.mk (below_then B4.out B4.out.size hb)
          have X5 := Aside0.mk (X4.out.below hb)
          have Y5 := Aside0.mk (Y4.out.below hb)
          clear hb
          obtain ⟨e0, e1, e2, e3, e4, e5⟩ := X5.out.open
          obtain ⟨f0, f1, f2, f3, f4⟩ := Y5.out.open
          by_cases hr1 : r < 1
          · have hr1' : decide (r < 1) = true := decide_eq_true hr1
            go_wp2_with fail
            refine (HV.out w5 (HC.out.below B5.out)).mono ?_
            clear e0 e1 e2 e3 e4 e5 f0 f1 f2 f3 f4
            rintro e w6 ⟨rfl, hb⟩
            have B6 := Aside0.mk (below_then B5.out B5.out.size hb)
            have X6 := Aside0.mk (X5.out.below hb)
            have Y6 := Aside0.mk (Y5.out.below hb)
            clear hb
            obtain ⟨e0, e1, e2, e3, e4, e5⟩ := X6.out.open
            obtain ⟨f0, f1, f2, f3, f4⟩ := Y6.out.open
            go_wp2_with fail
            refine (lives w6 (Glob.below HG.out B6.out)).mono ?_
            rintro e wz ⟨rfl, hz⟩
            go_wp2_with fail
            go_ret
            exact ⟨rfl, below_then B6.out B6.out.size hz⟩
          · have HRT : Aside0 (r = c.inp + c.lat.length + c.gat.length) := ⟨by have := HR.out; omega⟩
            go_wp2_with fail
            obtain ⟨v, hv⟩ : ∃ v : Nat, (v : Int) = (1 + (x : Int) % r) % 4294967296 := ⟨((1 + (x : Int) % r) % 4294967296).toNat, by omega⟩
            rw [← hv]
            have hv1 : 1 ≤ v ∧ (v : Int) ≤ r := by
              have h1 := Int.emod_nonneg (x : Int) (show r ≠ 0 by omega)
              have h2 := Int.emod_lt_of_pos (x : Int) (show 0 < r by omega)
              omega
            clear hv
            have hd1 : decide (r < (v : Int)) = false := decide_eq_false (by omega)
            refine (HV.out w5 (HC.out.below B5.out)).mono ?_
            clear e0 e1 e2 e3 e4 e5 f0 f1 f2 f3 f4
            rintro e w6 ⟨rfl, hb⟩
            have B6 := Aside0.mk (below_then B5.out B5.out.size hb)
            have X6 := Aside0.mk (X5.out.below hb)
            have Y6 := Aside0.mk (Y5.out.below hb)
            clear hb
            obtain ⟨e0, e1, e2, e3, e4, e5⟩ := X6.out.open
            obtain ⟨f0, f1, f2, f3, f4⟩ := Y6.out.open
            have hsum : c.inp.toNat + c.lat.length + c.gat.length + c.out.length + c.bad.length + c.con.length < 1000000 := by have := HGR.out; have := HZ.out; omega
            have hfc := find_call (out := c.out) (bad := c.bad) (con := c.con) hsum HK.out.apart v hv1.1 (by have := HZ.out; have := HRT.out; omega)
            have hcs := callV_size HK.out.ok v (by omega)
            have hr2 : callR c n (2 * v) = (callV c n v, 0) := by
              unfold callR
              rw [if_neg (by have := HRT.out; omega), if_neg (by omega), if_neg (by omega), show 2 * v / 2 = v by omega]
            have hr3 : callR c n (2 * v + 1) = (⟨#[33]⟩ ++ callV c n v, 0) := by
              unfold callR
              rw [if_neg (by have := HRT.out; omega), if_neg (by omega), if_pos (by omega), show (2 * v + 1) / 2 = v by omega]
            have hm2 : 2 * (v : Int) % 4294967296 = 2 * (v : Int) := by omega
            have hm3 : (2 * (v : Int) + 1) % 4294967296 = 2 * (v : Int) + 1 := by omega
            have HC2 := Aside0.mk (fun W h1 h2 h3 => call c n (2 * v) (by omega) W h1 h2 h3 HFT.out)
            have HC3 := Aside0.mk (fun W h1 h2 h3 => call c n (2 * v + 1) (by omega) W h1 h2 h3 HFT.out)
            have HF := Aside0.mk (fun W h1 h2 h3 => find c n (callV c n v) (by omega) W h1 h2 h3 HFT.out)
            rw [HMY.out, if_pos rfl, hr2] at HC2
            rw [HMY.out, if_pos rfl, hr3] at HC3
            rw [HMY.out, if_pos rfl] at HF
            unfold findR findV at HF
            rw [show findF c.inp.toNat c.lat.length c.gat.length c.out c.bad c.con n.ls (callV c n v) = (2 * (v : Int), 0) from hfc] at HF
            have HV1 := Aside0.mk hv1
            clear hfc hr2 hr3 hsum hr1 hrb hv1
            generalize callV c n v = t at HC2 HC3 HF hcs
            have hcat : (9223372036854775807 < 1 + t.size) = False := eq_false (by omega)
            go_wp2_with fail
            refine (HC2.out w6 (HC.out.below B6.out) (HH.out.below B6.out) (Glob.below HG.out B6.out)).mono ?_
            clear e0 e1 e2 e3 e4 e5 f0 f1 f2 f3 f4
            rintro e w7 ⟨rfl, hb⟩
            have B7 := Aside0.mk (below_then B6.out B6.out.size hb)
            have X7 := Aside0.mk (X6.out.below hb)
            have Y7 := Aside0.mk (Y6.out.below hb)
            clear hb
            obtain ⟨e0, e1, e2, e3, e4, e5⟩ := X7.out.open
            obtain ⟨f0, f1, f2, f3, f4⟩ := Y7.out.open
            go_wp2_with fail
            refine (HC3.out w7 (HC.out.below B7.out) (HH.out.below B7.out) (Glob.below HG.out B7.out)).mono ?_
            clear e0 e1 e2 e3 e4 e5 f0 f1 f2 f3 f4
            rintro e w8 ⟨rfl, hb⟩
            have B8 := Aside0.mk (below_then B7.out B7.out.size hb)
            have X8 := Aside0.mk (X7.out.below hb)
            have Y8 := Aside0.mk (Y7.out.below hb)
            clear hb
            obtain ⟨e0, e1, e2, e3, e4, e5⟩ := X8.out.open
            obtain ⟨f0, f1, f2, f3, f4⟩ := Y8.out.open
            go_wp2_with fail
            refine (HF.out w8 (HC.out.below B8.out) (HH.out.below B8.out) (Glob.below HG.out B8.out)).mono ?_
            clear e0 e1 e2 e3 e4 e5 f0 f1 f2 f3 f4
            rintro e w9 ⟨rfl, hb⟩
            have B9 := Aside0.mk (below_then B8.out B8.out.size hb)
            have X9 := Aside0.mk (X8.out.below hb)
            have Y9 := Aside0.mk (Y8.out.below hb)
            clear hb
            obtain ⟨e0, e1, e2, e3, e4, e5⟩ := X9.out.open
            obtain ⟨f0, f1, f2, f3, f4⟩ := Y9.out.open
            go_wp2_with fail
            clear e0 e1 e2 e3 e4 e5 f0 f1 f2 f3 f4 HC2 HC3 HF HV hcat hm2 hm3 hd1 hcs HV1 HRT HR
            have hml3 : n.l3.length ≤ 9223372036854775807 := by have := HS.out.g3; omega
            go_loopw [101] (fun v wr => ∃ i : Nat, i ≤ n.l3.length ∧ v = .int .i64 i ∧ Aside0 (Below w9.heap.size w9 wr)) (fun i _ => n.l3.length - (intOf i).toNat)
            case atStart => exact ⟨0, Nat.zero_le _, rfl, ⟨Below.refl _ _⟩⟩
            case round =>
              obtain ⟨i, hi, rfl, HBr⟩ := hrel
              have BB := Aside0.mk (below_then B9.out B9.out.size HBr.out)
              have XX := Aside0.mk (X9.out.below HBr.out)
              have YY := Aside0.mk (Y9.out.below HBr.out)
              rcases Nat.lt_or_ge i n.l3.length with hil | hil
              · obtain ⟨x, hx⟩ : ∃ x, x = n.l3.getD i ByteArray.empty := ⟨_, rfl⟩
                have hrd : ReadsOf Value.string ByteArray.empty wr n.A3 n.l3.length n.l3 := Kd.reads_of_C (HH.out.below BB.out).l3
                obtain ⟨a, ha, hcs⟩ := hrd.2.2 (by omega)
                have hcx : wr.cell? (a.add i) = some (.string x) := by rw [hx]; exact hcs i hil
                have hix : ∀ W : World, (Instr.indexAt 27 (.slice n.A3 n.l3.length n.c3) (.int .i64 i)).run Tryd.prog W = .ok (.pointer (some (a.add i))) W := by
                  intro W
                  rw [ha]
                  go_simp
                have hmem : x ∈ n.l 3 := by
                  rw [hx]
                  show n.l3.getD i ByteArray.empty ∈ n.l3
                  rw [List.getD_eq_getElem?_getD, List.getElem?_eq_getElem hil]
                  exact List.getElem_mem _
                have hsz := HK.out.ok.name 3 (by omega) x hmem
                have HSS : Aside0 (∀ w', Below wr.heap.size wr w' → (fun w' => (w'.cell? (a.add i) = some (.string x) ∧ w'.cell? ⟨w.heap.size, 0, none⟩ = some (.int .i64 c.inp) ∧ w'.cell? ⟨w.heap.size, 1, none⟩ = some (.slice c.A1 c.lat.length c.c1) ∧ w'.cell? ⟨w.heap.size, 2, none⟩ = some (.slice c.A2 c.gat.length c.c2) ∧ w'.cell? ⟨w.heap.size, 3, none⟩ = some (.slice c.A3 c.out.length c.c3) ∧ w'.cell? ⟨w.heap.size, 4, none⟩ = some (.slice c.A4 c.bad.length c.c4) ∧ w'.cell? ⟨w.heap.size, 5, none⟩ = some (.slice c.A5 c.con.length c.c5) ∧ w'.cell? ⟨w.heap.size + 1, 0, none⟩ = some (.slice n.A0 n.l0.length n.c0) ∧ w'.cell? ⟨w.heap.size + 1, 1, none⟩ = some (.slice n.A1 n.l1.length n.c1) ∧ w'.cell? ⟨w.heap.size + 1, 2, none⟩ = some (.slice n.A2 n.l2.length n.c2) ∧ w'.cell? ⟨w.heap.size + 1, 3, none⟩ = some (.slice n.A3 n.l3.length n.c3) ∧ w'.cell? ⟨w.heap.size + 1, 4, none⟩ = some (.slice n.A4 n.l4.length n.c4))) w') := by
                  refine ⟨fun w' h => ?_⟩
                  obtain ⟨e0, e1, e2, e3, e4, e5⟩ := (XX.out.below h).open
                  obtain ⟨f0, f1, f2, f3, f4⟩ := (YY.out.below h).open
                  exact ⟨(h.cell (World.block_lt_of_cell? _ _ hcx)).trans hcx, e0, e1, e2, e3, e4, e5, f0, f1, f2, f3, f4⟩
                have hF := find c n x (by omega) wr.drew (HC.out.below (below_drew BB.out)) (HH.out.below (below_drew BB.out)) (Glob.below HG.out (below_drew BB.out)) HFT.out
                rw [HMY.out, if_pos rfl] at hF
                unfold findR at hF
                have HX1 := Aside0.mk (And.intro hx (And.intro ha hcx))
                clear hrd hcs hx ha hmem hcx
                by_cases hxe : x.size = 0
                · have he : x.toList.isEmpty = true := by rw [empty_iff]; simpa using hxe
                  have HF := Aside0.mk hF
                  clear hxe hF hsz
                  generalize (findV c n x).1 = p1 at HF
                  generalize (findV c n x).2 = p2 at HF
                  go_wp2_with fail
                  go_region_held3 (fun w' => (w'.cell? (a.add i) = some (.string x) ∧ w'.cell? ⟨w.heap.size, 0, none⟩ = some (.int .i64 c.inp) ∧ w'.cell? ⟨w.heap.size, 1, none⟩ = some (.slice c.A1 c.lat.length c.c1) ∧ w'.cell? ⟨w.heap.size, 2, none⟩ = some (.slice c.A2 c.gat.length c.c2) ∧ w'.cell? ⟨w.heap.size, 3, none⟩ = some (.slice c.A3 c.out.length c.c3) ∧ w'.cell? ⟨w.heap.size, 4, none⟩ = some (.slice c.A4 c.bad.length c.c4) ∧ w'.cell? ⟨w.heap.size, 5, none⟩ = some (.slice c.A5 c.con.length c.c5) ∧ w'.cell? ⟨w.heap.size + 1, 0, none⟩ = some (.slice n.A0 n.l0.length n.c0) ∧ w'.cell? ⟨w.heap.size + 1, 1, none⟩ = some (.slice n.A1 n.l1.length n.c1) ∧ w'.cell? ⟨w.heap.size + 1, 2, none⟩ = some (.slice n.A2 n.l2.length n.c2) ∧ w'.cell? ⟨w.heap.size + 1, 3, none⟩ = some (.slice n.A3 n.l3.length n.c3) ∧ w'.cell? ⟨w.heap.size + 1, 4, none⟩ = some (.slice n.A4 n.l4.length n.c4))) (first | exact HSS.out _ (by assumption) | exact HSS.out _ (below_drew (Below.refl _ _)))
                    (first | (go_at_call 16; refine HF.out.mono ?_; rintro e w5 ⟨rfl, hb5⟩; have hb45 : Below wr.heap.size wr w5 := below_then (below_drew (Below.refl _ _)) (Nat.le_refl _) hb5))
                  obtain ⟨e0, e1, e2, e3, e4, e5⟩ := (XX.out.below hb45).open
                  obtain ⟨f0, f1, f2, f3, f4⟩ := (YY.out.below hb45).open
                  have hc5 : w5.cell? (a.add i) = some (.string x) := (hb45.cell (World.block_lt_of_cell? _ _ HX1.out.2.2)).trans HX1.out.2.2
                  go_wp2_with fail
                  exact ⟨⟨i + 1, by omega, by go_num, ⟨below_then HBr.out HBr.out.size hb45⟩⟩, by simp [intOf]; omega⟩
                · have he : x.toList.isEmpty = false := by rw [empty_iff]; simpa using hxe
                  have hft : findV c n x = (litF c.inp.toNat c.lat.length c.out c.bad c.con 3 i, 0) := by
                    rw [HX1.out.1]
                    exact find_told HK.out.apart 3 (by omega) i hil (by rw [HX1.out.1] at hxe; exact hxe)
                  rw [hft] at hF
                  have hlen : i < c.bad.length := by
                    rcases HK.out.ok.lists 3 (by omega) with h | h
                    · have : (n.l 3).length = n.l3.length := rfl
                      omega
                    · have h1 : ((n.l3.length : Nat) : Int) = (c.bad.length : Int) := h.1
                      omega
                  obtain ⟨bi, hbi⟩ : ∃ bi, bi = c.bad.getD i 0 := ⟨_, rfl⟩
                  have hlit : litF c.inp.toNat c.lat.length c.out c.bad c.con 3 i = bi := by rw [hbi]; rfl
                  rw [hlit] at hF
                  have hrb : ReadsOf (Value.int .u32) (0 : Int) wr c.A4 c.bad.length c.bad := Kd.reads_of_C (HC.out.below BB.out).bad
                  obtain ⟨b, hab, hcb⟩ := hrb.2.2 (by omega)
                  have hcbi : wr.cell? (b.add i) = some (.int .u32 bi) := by rw [hbi]; exact hcb i hlen
                  have hmb : c.bad.length ≤ 9223372036854775807 := by have := HS.out.h4; omega
                  have hib : ∀ W : World, (Instr.indexAt 24 (.slice c.A4 c.bad.length c.c4) (.int .i64 i)).run Tryd.prog W = .ok (.pointer (some (b.add i))) W := by
                    intro W
                    rw [hab]
                    go_simp
                  have HBI := Aside0.mk hcbi
                  have HF := Aside0.mk hF
                  clear hxe hF hsz hft hlit hrb hcb hcbi hbi hab
                  go_wp2_with fail
                  go_region_held3 (fun w' => (w'.cell? (a.add i) = some (.string x) ∧ w'.cell? ⟨w.heap.size, 0, none⟩ = some (.int .i64 c.inp) ∧ w'.cell? ⟨w.heap.size, 1, none⟩ = some (.slice c.A1 c.lat.length c.c1) ∧ w'.cell? ⟨w.heap.size, 2, none⟩ = some (.slice c.A2 c.gat.length c.c2) ∧ w'.cell? ⟨w.heap.size, 3, none⟩ = some (.slice c.A3 c.out.length c.c3) ∧ w'.cell? ⟨w.heap.size, 4, none⟩ = some (.slice c.A4 c.bad.length c.c4) ∧ w'.cell? ⟨w.heap.size, 5, none⟩ = some (.slice c.A5 c.con.length c.c5) ∧ w'.cell? ⟨w.heap.size + 1, 0, none⟩ = some (.slice n.A0 n.l0.length n.c0) ∧ w'.cell? ⟨w.heap.size + 1, 1, none⟩ = some (.slice n.A1 n.l1.length n.c1) ∧ w'.cell? ⟨w.heap.size + 1, 2, none⟩ = some (.slice n.A2 n.l2.length n.c2) ∧ w'.cell? ⟨w.heap.size + 1, 3, none⟩ = some (.slice n.A3 n.l3.length n.c3) ∧ w'.cell? ⟨w.heap.size + 1, 4, none⟩ = some (.slice n.A4 n.l4.length n.c4))) (first | exact HSS.out _ (by assumption) | exact HSS.out _ (below_drew (Below.refl _ _)))
                    (first | (go_at_call 16; refine HF.out.mono ?_; rintro e w5 ⟨rfl, hb5⟩; have hb45 : Below wr.heap.size wr w5 := below_then (below_drew (Below.refl _ _)) (Nat.le_refl _) hb5))
                  obtain ⟨e0, e1, e2, e3, e4, e5⟩ := (XX.out.below hb45).open
                  obtain ⟨f0, f1, f2, f3, f4⟩ := (YY.out.below hb45).open
                  have hc5 : w5.cell? (a.add i) = some (.string x) := (hb45.cell (World.block_lt_of_cell? _ _ HX1.out.2.2)).trans HX1.out.2.2
                  have hcb5 : w5.cell? (b.add i) = some (.int .u32 bi) := (hb45.cell (World.block_lt_of_cell? _ _ HBI.out)).trans HBI.out
                  go_wp2_with fail
                  exact ⟨⟨i + 1, by omega, by go_num, ⟨below_then HBr.out HBr.out.size hb45⟩⟩, by simp [intOf]; omega⟩
              · obtain rfl : i = n.l3.length := by omega
                obtain ⟨e0, e1, e2, e3, e4, e5⟩ := XX.out.open
                obtain ⟨f0, f1, f2, f3, f4⟩ := YY.out.open
                go_wp2_with fail
                clear e0 e1 e2 e3 e4 e5 f0 f1 f2 f3 f4 hi hil
                generalize wr = w10 at BB XX YY ⊢
                have BC := Aside0.mk BB.out
                have XC := Aside0.mk XX.out
                have YC := Aside0.mk YY.out
                clear BB XX YY HBr
                have hml1 : n.l1.length ≤ 9223372036854775807 := by have := HS.out.g1; omega
                go_loopw [138] (fun v wr => ∃ i : Nat, i ≤ n.l1.length ∧ v = .int .i64 i ∧ Aside0 (Below w10.heap.size w10 wr)) (fun i _ => n.l1.length - (intOf i).toNat)
                case atStart => exact ⟨0, Nat.zero_le _, rfl, ⟨Below.refl _ _⟩⟩
                case round =>
                  obtain ⟨i, hi, rfl, HBr⟩ := hrel
                  have BB := Aside0.mk (below_then BC.out BC.out.size HBr.out)
                  have XX := Aside0.mk (XC.out.below HBr.out)
                  have YY := Aside0.mk (YC.out.below HBr.out)
                  rcases Nat.lt_or_ge i n.l1.length with hil | hil
                  · obtain ⟨x, hx⟩ : ∃ x, x = n.l1.getD i ByteArray.empty := ⟨_, rfl⟩
                    have hrd : ReadsOf Value.string ByteArray.empty wr n.A1 n.l1.length n.l1 := Kd.reads_of_C (HH.out.below BB.out).l1
                    obtain ⟨a, ha, hcs⟩ := hrd.2.2 (by omega)
                    have hcx : wr.cell? (a.add i) = some (.string x) := by rw [hx]; exact hcs i hil
                    have hix : ∀ W : World, (Instr.indexAt 27 (.slice n.A1 n.l1.length n.c1) (.int .i64 i)).run Tryd.prog W = .ok (.pointer (some (a.add i))) W := by
                      intro W
                      rw [ha]
                      go_simp
                    have hmem : x ∈ n.l 1 := by
                      rw [hx]
                      show n.l1.getD i ByteArray.empty ∈ n.l1
                      rw [List.getD_eq_getElem?_getD, List.getElem?_eq_getElem hil]
                      exact List.getElem_mem _
                    have hsz := HK.out.ok.name 1 (by omega) x hmem
                    have HSS : Aside0 (∀ w', Below wr.heap.size wr w' → (fun w' => (w'.cell? (a.add i) = some (.string x) ∧ w'.cell? ⟨w.heap.size, 0, none⟩ = some (.int .i64 c.inp) ∧ w'.cell? ⟨w.heap.size, 1, none⟩ = some (.slice c.A1 c.lat.length c.c1) ∧ w'.cell? ⟨w.heap.size, 2, none⟩ = some (.slice c.A2 c.gat.length c.c2) ∧ w'.cell? ⟨w.heap.size, 3, none⟩ = some (.slice c.A3 c.out.length c.c3) ∧ w'.cell? ⟨w.heap.size, 4, none⟩ = some (.slice c.A4 c.bad.length c.c4) ∧ w'.cell? ⟨w.heap.size, 5, none⟩ = some (.slice c.A5 c.con.length c.c5) ∧ w'.cell? ⟨w.heap.size + 1, 0, none⟩ = some (.slice n.A0 n.l0.length n.c0) ∧ w'.cell? ⟨w.heap.size + 1, 1, none⟩ = some (.slice n.A1 n.l1.length n.c1) ∧ w'.cell? ⟨w.heap.size + 1, 2, none⟩ = some (.slice n.A2 n.l2.length n.c2) ∧ w'.cell? ⟨w.heap.size + 1, 3, none⟩ = some (.slice n.A3 n.l3.length n.c3) ∧ w'.cell? ⟨w.heap.size + 1, 4, none⟩ = some (.slice n.A4 n.l4.length n.c4))) w') := by
                      refine ⟨fun w' h => ?_⟩
                      obtain ⟨e0, e1, e2, e3, e4, e5⟩ := (XX.out.below h).open
                      obtain ⟨f0, f1, f2, f3, f4⟩ := (YY.out.below h).open
                      exact ⟨(h.cell (World.block_lt_of_cell? _ _ hcx)).trans hcx, e0, e1, e2, e3, e4, e5, f0, f1, f2, f3, f4⟩
                    have hF := find c n x (by omega) wr.drew (HC.out.below (below_drew BB.out)) (HH.out.below (below_drew BB.out)) (Glob.below HG.out (below_drew BB.out)) HFT.out
                    rw [HMY.out, if_pos rfl] at hF
                    unfold findR at hF
                    have HX1 := Aside0.mk (And.intro hx (And.intro ha hcx))
                    clear hrd hcs hx ha hmem hcx
                    by_cases hxe : x.size = 0
                    · have he : x.toList.isEmpty = true := by rw [empty_iff]; simpa using hxe
                      have HF := Aside0.mk hF
                      clear hxe hF hsz
                      generalize (findV c n x).1 = p1 at HF
                      generalize (findV c n x).2 = p2 at HF
                      go_wp2_with fail
                      go_region_held3 (fun w' => (w'.cell? (a.add i) = some (.string x) ∧ w'.cell? ⟨w.heap.size, 0, none⟩ = some (.int .i64 c.inp) ∧ w'.cell? ⟨w.heap.size, 1, none⟩ = some (.slice c.A1 c.lat.length c.c1) ∧ w'.cell? ⟨w.heap.size, 2, none⟩ = some (.slice c.A2 c.gat.length c.c2) ∧ w'.cell? ⟨w.heap.size, 3, none⟩ = some (.slice c.A3 c.out.length c.c3) ∧ w'.cell? ⟨w.heap.size, 4, none⟩ = some (.slice c.A4 c.bad.length c.c4) ∧ w'.cell? ⟨w.heap.size, 5, none⟩ = some (.slice c.A5 c.con.length c.c5) ∧ w'.cell? ⟨w.heap.size + 1, 0, none⟩ = some (.slice n.A0 n.l0.length n.c0) ∧ w'.cell? ⟨w.heap.size + 1, 1, none⟩ = some (.slice n.A1 n.l1.length n.c1) ∧ w'.cell? ⟨w.heap.size + 1, 2, none⟩ = some (.slice n.A2 n.l2.length n.c2) ∧ w'.cell? ⟨w.heap.size + 1, 3, none⟩ = some (.slice n.A3 n.l3.length n.c3) ∧ w'.cell? ⟨w.heap.size + 1, 4, none⟩ = some (.slice n.A4 n.l4.length n.c4))) (first | exact HSS.out _ (by assumption) | exact HSS.out _ (below_drew (Below.refl _ _)))
                        (first | (go_at_call 16; refine HF.out.mono ?_; rintro e w5 ⟨rfl, hb5⟩; have hb45 : Below wr.heap.size wr w5 := below_then (below_drew (Below.refl _ _)) (Nat.le_refl _) hb5))
                      obtain ⟨e0, e1, e2, e3, e4, e5⟩ := (XX.out.below hb45).open
                      obtain ⟨f0, f1, f2, f3, f4⟩ := (YY.out.below hb45).open
                      have hc5 : w5.cell? (a.add i) = some (.string x) := (hb45.cell (World.block_lt_of_cell? _ _ HX1.out.2.2)).trans HX1.out.2.2
                      go_wp2_with fail
                      exact ⟨⟨i + 1, by omega, by go_num, ⟨below_then HBr.out HBr.out.size hb45⟩⟩, by simp [intOf]; omega⟩
                    · have he : x.toList.isEmpty = false := by rw [empty_iff]; simpa using hxe
                      have hft : findV c n x = (litF c.inp.toNat c.lat.length c.out c.bad c.con 1 i, 0) := by
                        rw [HX1.out.1]
                        exact find_told HK.out.apart 1 (by omega) i hil (by rw [HX1.out.1] at hxe; exact hxe)
                      rw [hft] at hF
                      have hlit : litF c.inp.toNat c.lat.length c.out c.bad c.con 1 i = 2 * (1 + c.inp + (i : Int)) := by
                        have := HZ.out
                        unfold litF
                        rw [if_neg (by omega), if_pos rfl]
                        omega
                      rw [hlit] at hF
                      have hil2 : i ≤ 1048576 := by have := HS.out.g1; omega
                      have hw1 : wrap64 (1 + c.inp) = 1 + c.inp := by have := HZ.out; unfold wrap64; omega
                      have hw2 : wrap64 (1 + c.inp + (i : Int)) = 1 + c.inp + (i : Int) := by have := HZ.out; unfold wrap64; omega
                      have hw3 : wrap64 (2 * (1 + c.inp + (i : Int))) = 2 * (1 + c.inp + (i : Int)) := by have := HZ.out; unfold wrap64; omega
                      have hw4 : (2 * (1 + c.inp + (i : Int))) % 4294967296 = 2 * (1 + c.inp + (i : Int)) := by have := HZ.out; omega
                      have HF := Aside0.mk hF
                      clear hxe hF hsz hft hlit
                      go_wp2_with fail
                      go_region_held3 (fun w' => (w'.cell? (a.add i) = some (.string x) ∧ w'.cell? ⟨w.heap.size, 0, none⟩ = some (.int .i64 c.inp) ∧ w'.cell? ⟨w.heap.size, 1, none⟩ = some (.slice c.A1 c.lat.length c.c1) ∧ w'.cell? ⟨w.heap.size, 2, none⟩ = some (.slice c.A2 c.gat.length c.c2) ∧ w'.cell? ⟨w.heap.size, 3, none⟩ = some (.slice c.A3 c.out.length c.c3) ∧ w'.cell? ⟨w.heap.size, 4, none⟩ = some (.slice c.A4 c.bad.length c.c4) ∧ w'.cell? ⟨w.heap.size, 5, none⟩ = some (.slice c.A5 c.con.length c.c5) ∧ w'.cell? ⟨w.heap.size + 1, 0, none⟩ = some (.slice n.A0 n.l0.length n.c0) ∧ w'.cell? ⟨w.heap.size + 1, 1, none⟩ = some (.slice n.A1 n.l1.length n.c1) ∧ w'.cell? ⟨w.heap.size + 1, 2, none⟩ = some (.slice n.A2 n.l2.length n.c2) ∧ w'.cell? ⟨w.heap.size + 1, 3, none⟩ = some (.slice n.A3 n.l3.length n.c3) ∧ w'.cell? ⟨w.heap.size + 1, 4, none⟩ = some (.slice n.A4 n.l4.length n.c4))) (first | exact HSS.out _ (by assumption) | exact HSS.out _ (below_drew (Below.refl _ _)))
                        (first | (go_at_call 16; refine HF.out.mono ?_; rintro e w5 ⟨rfl, hb5⟩; have hb45 : Below wr.heap.size wr w5 := below_then (below_drew (Below.refl _ _)) (Nat.le_refl _) hb5))
                      obtain ⟨e0, e1, e2, e3, e4, e5⟩ := (XX.out.below hb45).open
                      obtain ⟨f0, f1, f2, f3, f4⟩ := (YY.out.below hb45).open
                      have hc5 : w5.cell? (a.add i) = some (.string x) := (hb45.cell (World.block_lt_of_cell? _ _ HX1.out.2.2)).trans HX1.out.2.2
                      go_wp2_with fail
                      exact ⟨⟨i + 1, by omega, by go_num, ⟨below_then HBr.out HBr.out.size hb45⟩⟩, by simp [intOf]; omega⟩
                  · obtain rfl : i = n.l1.length := by omega
                    go_wp2_with fail
                    refine (lives wr (Glob.below HG.out BB.out)).mono ?_
                    rintro e wz ⟨rfl, hz⟩
                    go_wp2_with fail
                    go_ret
                    exact ⟨rfl, below_then BB.out BB.out.size hz⟩
end Go.Proofs.YtfdemglcjfdodaaDoor.N
