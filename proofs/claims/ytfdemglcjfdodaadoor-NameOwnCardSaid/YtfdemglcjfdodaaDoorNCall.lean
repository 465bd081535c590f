/-
  name.call, name.Call.
-/
import Derived.Test.YtfdemglcjfdodaaDoorNMay
import Derived.Test.YtfdemglcjfdodaaDoorNPlace
namespace Go.Proofs.YtfdemglcjfdodaaDoor.N
open Go.RowKit Go.Lib Go.Proofs.YtfdemglcjfdodaaDoorW.PrintWords Go.Proofs.YtfdemglcjfdodaaDoorW.PrintLast Go.Proofs.YtfdemglcjfdodaaDoorW.PrintMore
set_option linter.unusedVariables false
theorem idx133 (a b s d e t : Value) : (∀ W : World, (Instr.index 133 (.agg #[a, b, s, d, e, t]) (.int .i64 0)).run Tryd.prog W = .ok (.agg #[a, b, s]) W) ∧ (∀ W : World, (Instr.index 133 (.agg #[a, b, s, d, e, t]) (.int .i64 1)).run Tryd.prog W = .ok (.agg #[d, e, t]) W) :=
  ⟨fun W => by simp [Instr.index, run_underlying Tryd.underlying133, asIntOf, go_sem], fun W => by simp [Instr.index, run_underlying Tryd.underlying133, asIntOf, go_sem]⟩
set_option maxHeartbeats 8000000 in
set_option maxRecDepth 100000 in
theorem callv (c : Cv) (n : Nv) (v : Nat) (w : World) (hc : c.Held w) (hh : n.Held w) (hG : Glob w) (h0 : 0 ≤ c.inp) (h1 : c.inp ≤ 16384) (h2 : c.lat.length ≤ 16384) (hv : 1 ≤ v) (hv2 : v ≤ 1000000) :
    Calls Tryd.prog 52 #[c.val, n.val, .int .i64 v] w fun e w' => e = .returned (.string (callF c.inp.toNat c.lat.length n.l0 n.l1 v)) ∧ Below w.heap.size w w' := by
  have HC := Aside0.mk hc
  have HH := Aside0.mk hh
  have HG := Aside0.mk hG
  have HV := Aside0.mk (And.intro h0 (And.intro h1 (And.intro h2 (And.intro hv hv2))))
  clear hc hh hG h0 h1 h2 hv hv2
  obtain ⟨R, hR⟩ : ∃ R, R = callF c.inp.toNat c.lat.length n.l0 n.l1 v := ⟨_, rfl⟩
  rw [← hR]
  have HR := Aside0.mk hR
  clear hR
  unfold Cv.val Nv.val
  go_enter Tryd.func52, Tryd.ntmps52
  go_wp2_with fail
  have B2 := Aside0.mk (below_alloc (below_alloc (Below.refl w.heap.size w) (.cells #[.int .i64 c.inp, .slice c.A1 c.lat.length c.c1, .slice c.A2 c.gat.length c.c2, .slice c.A3 c.out.length c.c3, .slice c.A4 c.bad.length c.c4, .slice c.A5 c.con.length c.c5] 26)) (.cells #[.slice n.A0 n.l0.length n.c0, .slice n.A1 n.l1.length n.c1, .slice n.A2 n.l2.length n.c2, .slice n.A3 n.l3.length n.c3, .slice n.A4 n.l4.length n.c4] 29))
  generalize ((w.alloc (.cells #[.int .i64 c.inp, .slice c.A1 c.lat.length c.c1, .slice c.A2 c.gat.length c.c2, .slice c.A3 c.out.length c.c3, .slice c.A4 c.bad.length c.c4, .slice c.A5 c.con.length c.c5] 26)).alloc (.cells #[.slice n.A0 n.l0.length n.c0, .slice n.A1 n.l1.length n.c1, .slice n.A2 n.l2.length n.c2, .slice n.A3 n.l3.length n.c3, .slice n.A4 n.l4.length n.c4] 29)) = w2 at B2 ⊢
  generalize w.heap.size + 1 = g
  go_loopw [2, 21] (fun v2 v21 wr => ∃ k p : Nat, k ≤ 2 ∧ v21 = .int .i64 k ∧ v2 = .int .i64 ((p : Int) + 1) ∧ Aside0 ((k = 0 ∧ p + 1 = v) ∨ (k = 1 ∧ c.inp.toNat + (p + 1) = v) ∨ (k = 2 ∧ c.inp.toNat + c.lat.length + (p + 1) = v)) ∧ Aside0 (Below w2.heap.size w2 wr)) (fun _ i _ => 2 - (intOf i).toNat)
  case atStart => exact ⟨0, v - 1, by omega, rfl, congrArg (Value.int .i64) (by have := HV.out; omega), ⟨.inl ⟨rfl, by have := HV.out; omega⟩⟩, ⟨Below.refl _ _⟩⟩
  case round =>
    obtain ⟨k, p, hk, rfl, rfl, HP, HB⟩ := hrel
    have BB := Aside0.mk (below_then B2.out B2.out.size HB.out)
    have hpp : p ≤ 1000000 := by have := HP.out; have := HV.out; omega
    have hV := HV.out
    have hPP := HP.out
    have e : k = 0 ∨ k = 1 ∨ k = 2 := by omega
    rcases e with rfl | rfl | rfl
    · rw [show ((0 : Nat) : Int) = 0 from rfl]
      have hx := (idx133 (.int .u8 105) (.int .i64 c.inp) (.slice n.A0 n.l0.length n.c0) (.int .u8 108) (.int .i64 c.lat.length) (.slice n.A1 n.l1.length n.c1)).1
      have hml : n.l0.length ≤ 9223372036854775807 := (HH.out.l0).2.1
      by_cases hm : ((p : Int) + 1 ≤ c.inp)
      · have hm' : decide ((p : Int) + 1 ≤ c.inp) = true := decide_eq_true hm
        by_cases hl : p + 1 ≤ n.l0.length
        · have hl' : decide ((p : Int) + 1 ≤ (n.l0.length : Int)) = true := decide_eq_true (by omega)
          have hl2 : p < n.l0.length := by omega
          have hrd : ReadsOf Value.string ByteArray.empty wr n.A0 n.l0.length n.l0 := Kd.reads_of_C (HH.out.below BB.out).l0
          obtain ⟨a, ha, hcs⟩ := hrd.2.2 (by omega)
          obtain ⟨x, hxx⟩ : ∃ x, x = n.l0.getD p ByteArray.empty := ⟨_, rfl⟩
          have hcell : wr.cell? (a.add p) = some (.string x) := by rw [hxx]; exact hcs p hl2
          have hcell' := Lib.cell?_alloc_some (.cells #[.int .u8 105, .int .i64 c.inp, .slice (some a) n.l0.length n.c0] 132) hcell
          have HXX := Aside0.mk hxx
          rw [ha] at hx
          clear hrd hcs hxx
          by_cases he : x.size = 0
          · have he' : x.toList.isEmpty = true := by rw [empty_iff]; simpa using he
            have hval : R = ownB 105 p := by
              rw [HR.out]
              unfold callF
              rw [if_pos (show v ≤ c.inp.toNat by omega)]
              rw [if_neg (fun h => h.2 (by rw [show v - 1 = p by omega, ← HXX.out]; exact he)), show v - 1 = p by omega]
            have HVAL := Aside0.mk hval
            have HOWN := Aside0.mk (fun W (h : Below w.heap.size w W) => own_at 105 (.inl rfl) p (by have := HP.out; omega) W (Glob.below HG.out h))
            have HM := Aside0.mk hm
            clear hval he hm hl
            go_wp2_with fail
            refine (HOWN.out _ (below_alloc BB.out _)).mono ?_
            rintro e w4 ⟨rfl, hb4⟩
            go_wp2_with fail
            go_ret
            refine ⟨?_, (below_alloc BB.out _).trans (hb4.mono (below_alloc BB.out _).size)⟩
            rw [HVAL.out]
            rfl
          · have he' : x.toList.isEmpty = false := by rw [empty_iff]; simpa using he
            have hval : R = x := by
              rw [HR.out]
              unfold callF
              rw [if_pos (show v ≤ c.inp.toNat by omega)]
              rw [if_pos ⟨show v ≤ n.l0.length by omega, by rw [show v - 1 = p by omega, ← HXX.out]; exact he⟩, show v - 1 = p by omega, ← HXX.out]
            have HVAL := Aside0.mk hval
            have HM := Aside0.mk hm
            clear hval he hm hl
            go_wp2_with fail
            go_ret
            refine ⟨?_, below_alloc BB.out _⟩
            rw [HVAL.out]
            rfl
        · have hl' : decide ((p : Int) + 1 ≤ (n.l0.length : Int)) = false := decide_eq_false (by omega)
          have hval : R = ownB 105 p := by
            rw [HR.out]
            unfold callF
            rw [if_pos (show v ≤ c.inp.toNat by omega)]
            rw [if_neg (fun h => hl (by have := h.1; omega)), show v - 1 = p by omega]
          have HVAL := Aside0.mk hval
          have HOWN := Aside0.mk (fun W (h : Below w.heap.size w W) => own_at 105 (.inl rfl) p (by have := HP.out; omega) W (Glob.below HG.out h))
          clear hval hm hl
          go_wp2_with fail
          refine (HOWN.out _ (below_alloc BB.out _)).mono ?_
          rintro e w4 ⟨rfl, hb4⟩
          go_wp2_with fail
          go_ret
          refine ⟨?_, (below_alloc BB.out _).trans (hb4.mono (below_alloc BB.out _).size)⟩
          rw [HVAL.out]
          rfl
      · have hm' : decide ((p : Int) + 1 ≤ c.inp) = false := decide_eq_false hm
        have HM := Aside0.mk hm
        clear hm
        go_wp2_with fail
        have hp2 := HP.out
        have hv2 := HV.out
        have hm2 := HM.out
        refine ⟨⟨1, p - c.inp.toNat, by omega, rfl, congrArg (Value.int .i64) (by first | omega | (unfold wrap64; omega)), ⟨by omega⟩, ⟨below_alloc HB.out _⟩⟩, by simp [intOf]⟩
    · rw [show ((1 : Nat) : Int) = 1 from rfl]
      have hx := (idx133 (.int .u8 105) (.int .i64 c.inp) (.slice n.A0 n.l0.length n.c0) (.int .u8 108) (.int .i64 c.lat.length) (.slice n.A1 n.l1.length n.c1)).2
      have hml : n.l1.length ≤ 9223372036854775807 := (HH.out.l1).2.1
      by_cases hm : ((p : Int) + 1 ≤ (c.lat.length : Int))
      · have hm' : decide ((p : Int) + 1 ≤ (c.lat.length : Int)) = true := decide_eq_true hm
        by_cases hl : p + 1 ≤ n.l1.length
        · have hl' : decide ((p : Int) + 1 ≤ (n.l1.length : Int)) = true := decide_eq_true (by omega)
          have hl2 : p < n.l1.length := by omega
          have hrd : ReadsOf Value.string ByteArray.empty wr n.A1 n.l1.length n.l1 := Kd.reads_of_C (HH.out.below BB.out).l1
          obtain ⟨a, ha, hcs⟩ := hrd.2.2 (by omega)
          obtain ⟨x, hxx⟩ : ∃ x, x = n.l1.getD p ByteArray.empty := ⟨_, rfl⟩
          have hcell : wr.cell? (a.add p) = some (.string x) := by rw [hxx]; exact hcs p hl2
          have hcell' := Lib.cell?_alloc_some (.cells #[.int .u8 108, .int .i64 (c.lat.length : Int), .slice (some a) n.l1.length n.c1] 132) hcell
          have HXX := Aside0.mk hxx
          rw [ha] at hx
          clear hrd hcs hxx
          by_cases he : x.size = 0
          · have he' : x.toList.isEmpty = true := by rw [empty_iff]; simpa using he
            have hval : R = ownB 108 p := by
              rw [HR.out]
              unfold callF
              rw [if_neg (show ¬ v ≤ c.inp.toNat by omega), if_pos (show v - c.inp.toNat ≤ c.lat.length by omega)]
              rw [if_neg (fun h => h.2 (by rw [show v - c.inp.toNat - 1 = p by omega, ← HXX.out]; exact he)), show v - c.inp.toNat - 1 = p by omega]
            have HVAL := Aside0.mk hval
            have HOWN := Aside0.mk (fun W (h : Below w.heap.size w W) => own_at 108 (.inr (.inl rfl)) p (by have := HP.out; omega) W (Glob.below HG.out h))
            have HM := Aside0.mk hm
            clear hval he hm hl
            go_wp2_with fail
            refine (HOWN.out _ (below_alloc BB.out _)).mono ?_
            rintro e w4 ⟨rfl, hb4⟩
            go_wp2_with fail
            go_ret
            refine ⟨?_, (below_alloc BB.out _).trans (hb4.mono (below_alloc BB.out _).size)⟩
            rw [HVAL.out]
            rfl
          · have he' : x.toList.isEmpty = false := by rw [empty_iff]; simpa using he
            have hval : R = x := by
              rw [HR.out]
              unfold callF
              rw [if_neg (show ¬ v ≤ c.inp.toNat by omega), if_pos (show v - c.inp.toNat ≤ c.lat.length by omega)]
              rw [if_pos ⟨show v - c.inp.toNat ≤ n.l1.length by omega, by rw [show v - c.inp.toNat - 1 = p by omega, ← HXX.out]; exact he⟩, show v - c.inp.toNat - 1 = p by omega, ← HXX.out]
            have HVAL := Aside0.mk hval
            have HM := Aside0.mk hm
            clear hval he hm hl
            go_wp2_with fail
            go_ret
            refine ⟨?_, below_alloc BB.out _⟩
            rw [HVAL.out]
            rfl
        · have hl' : decide ((p : Int) + 1 ≤ (n.l1.length : Int)) = false := decide_eq_false (by omega)
          have hval : R = ownB 108 p := by
            rw [HR.out]
            unfold callF
            rw [if_neg (show ¬ v ≤ c.inp.toNat by omega), if_pos (show v - c.inp.toNat ≤ c.lat.length by omega)]
            rw [if_neg (fun h => hl (by have := h.1; omega)), show v - c.inp.toNat - 1 = p by omega]
          have HVAL := Aside0.mk hval
          have HOWN := Aside0.mk (fun W (h : Below w.heap.size w W) => own_at 108 (.inr (.inl rfl)) p (by have := HP.out; omega) W (Glob.below HG.out h))
          clear hval hm hl
          go_wp2_with fail
          refine (HOWN.out _ (below_alloc BB.out _)).mono ?_
          rintro e w4 ⟨rfl, hb4⟩
          go_wp2_with fail
          go_ret
          refine ⟨?_, (below_alloc BB.out _).trans (hb4.mono (below_alloc BB.out _).size)⟩
          rw [HVAL.out]
          rfl
      · have hm' : decide ((p : Int) + 1 ≤ (c.lat.length : Int)) = false := decide_eq_false hm
        have HM := Aside0.mk hm
        clear hm
        go_wp2_with fail
        have hp2 := HP.out
        have hv2 := HV.out
        have hm2 := HM.out
        refine ⟨⟨2, p - c.lat.length, by omega, rfl, congrArg (Value.int .i64) (by first | omega | (unfold wrap64; omega)), ⟨by omega⟩, ⟨below_alloc HB.out _⟩⟩, by simp [intOf]⟩
    · have hval : R = ownB 97 p := by
        rw [HR.out]
        unfold callF
        rw [if_neg (show ¬ v ≤ c.inp.toNat by omega), if_neg (show ¬ v - c.inp.toNat ≤ c.lat.length by omega), show v - c.inp.toNat - c.lat.length - 1 = p by omega]
      have HVAL := Aside0.mk hval
      have hOWN := (fun W (h : Below w.heap.size w W) => own_at 97 (.inr (.inr (.inr (.inr (.inr rfl))))) p (by omega) W (Glob.below HG.out h))
      rw [show (((97 : UInt8).toNat : Nat) : Int) = 97 from rfl] at hOWN
      have HOWN := Aside0.mk hOWN
      clear hval hOWN hV hPP
      rw [show ((2 : Nat) : Int) = 2 from rfl]
      go_wp2_with fail
      refine (HOWN.out _ BB.out).mono ?_
      rintro e w4 ⟨rfl, hb4⟩
      go_wp2_with fail
      go_ret
      refine ⟨?_, below_then BB.out BB.out.size hb4⟩
      rw [HVAL.out]
      rfl
end Go.Proofs.YtfdemglcjfdodaaDoor.N
