/-
  norm.May: which circuits may be (as far as is asked: what it says is one and the same each time, and bounds the sizes).
-/
import Derived.Test.YtfdemglcjfdodaaDoorNPlain
namespace Go.Proofs.YtfdemglcjfdodaaDoor.N
open Go.RowKit Go.Lib Go.Proofs.YtfdemglcjfdodaaDoorW.PrintWords Go.Proofs.YtfdemglcjfdodaaDoorW.PrintLast Go.Proofs.YtfdemglcjfdodaaDoorW.PrintMore
set_option linter.unusedVariables false

/-- A circuit in a box. -/
def Boxed (c : Cv) (B : Nat) (w : World) : Prop := w.heap[B]? = some (.cells #[.int .i64 c.inp, .slice c.A1 c.lat.length c.c1, .slice c.A2 c.gat.length c.c2, .slice c.A3 c.out.length c.c3, .slice c.A4 c.bad.length c.c4, .slice c.A5 c.con.length c.c5] 26 (0, 0))
theorem Boxed.cell {c : Cv} {B : Nat} {w : World} (h : Boxed c B w) (i : Nat) (v : Value) (hv : c.cells[i]? = some v) : w.cell? ⟨B, i, none⟩ = some v := by
  unfold Boxed at h
  simp only [World.cell?, h]
  exact hv
theorem Boxed.below {c : Cv} {B : Nat} {w w' : World} (h : Boxed c B w) (hb : Below w.heap.size w w') : Boxed c B w' := by
  unfold Boxed at h ⊢
  rw [hb.block B (Array.getElem?_eq_some_iff.1 h).1]
  exact h
structure Boxed.Cells (c : Cv) (B : Nat) (w : World) : Prop where
  e0 : w.cell? ⟨B, 0, none⟩ = some (.int .i64 c.inp)
  e1 : w.cell? ⟨B, 1, none⟩ = some (.slice c.A1 c.lat.length c.c1)
  e2 : w.cell? ⟨B, 2, none⟩ = some (.slice c.A2 c.gat.length c.c2)
  e3 : w.cell? ⟨B, 3, none⟩ = some (.slice c.A3 c.out.length c.c3)
  e4 : w.cell? ⟨B, 4, none⟩ = some (.slice c.A4 c.bad.length c.c4)
  e5 : w.cell? ⟨B, 5, none⟩ = some (.slice c.A5 c.con.length c.c5)
theorem Boxed.open {c : Cv} {B : Nat} {w : World} (h : Boxed c B w) : Boxed.Cells c B w := ⟨h.cell 0 _ rfl, h.cell 1 _ rfl, h.cell 2 _ rfl, h.cell 3 _ rfl, h.cell 4 _ rfl, h.cell 5 _ rfl⟩

/-- Is a literal's variable beyond the last? -/
def bey (c : Cv) (x : Int) : Bool := decide (c.V < wrap64 (x / 2))
set_option maxHeartbeats 1000000 in
theorem beyond (c : Cv) (B : Nat) (w : World) (hB : Boxed c B w) (hc : c.Held w) :
    PredB 73 #[.pointer (some ⟨B, 0, none⟩)] (Value.int .u32) (bey c) w := by
  intro W x hb
  show Calls Tryd.prog 73 #[.int .u32 x, .pointer (some ⟨B, 0, none⟩)] W _
  obtain ⟨e0, e1, e2, e3, e4, e5⟩ := (hB.below hb).open
  have HV := Aside0.mk (varsV c W (hc.below hb))
  have HB := Aside0.mk hb
  clear hb hB hc
  go_enter Tryd.func73, Tryd.ntmps73
  go_wp2_with fail
  refine HV.out.mono ?_
  rintro e w1 ⟨rfl, hb1⟩
  go_wp2_with fail
  go_ret
  exact ⟨rfl, below_then HB.out HB.out.size hb1⟩

def Cv.lit (c : Cv) (k : Nat) : List Int := [c.out, c.bad, c.con].getD k []
def Cv.litA (c : Cv) (k : Nat) : Option Addr := if k = 0 then c.A3 else if k = 1 then c.A4 else c.A5
def Cv.litc (c : Cv) (k : Nat) : Nat := if k = 0 then c.c3 else if k = 1 then c.c4 else c.c5
theorem three {P : Nat → Prop} (h0 : P 0) (h1 : P 1) (h2 : P 2) (k : Nat) (hk : k < 3) : P k := by
  have : k = 0 ∨ k = 1 ∨ k = 2 := by omega
  rcases this with rfl | rfl | rfl <;> assumption
theorem Cv.Held.at {c : Cv} {w : World} (h : c.Held w) (k : Nat) (hk : k < 3) : Kd.C (Kd.int .u32) w (c.litA k) (c.lit k).length (c.lit k) :=
  three (P := fun k => Kd.C (Kd.int .u32) w (c.litA k) (c.lit k).length (c.lit k)) h.out h.bad h.con k hk

structure NormOk (c : Cv) : Prop where
  h0 : 0 ≤ c.inp
  h1 : c.inp ≤ 16384
  h2 : c.inp + c.lat.length + c.gat.length ≤ 16384
  lists : ∀ k, k < 3 → (c.lit k).length ≤ 1024 ∧ (c.lit k).any (bey c) = false
  lat : ∀ i : Nat, i < c.lat.length → (rd_T112 c.lat i).f1 ≤ 2 ∧ bey c (rd_T112 c.lat i).f0 = false
  gat : ∀ i : Nat, i < c.gat.length → ¬ c.inp + c.lat.length + i + 1 ≤ (rd_T96 c.gat i).f0 / 2 ∧ ¬ (rd_T96 c.gat i).f0 < (rd_T96 c.gat i).f1
open Classical in
noncomputable def normB (c : Cv) : Bool := decide (NormOk c)
open Classical in
theorem normB_true {c : Cv} (h : NormOk c) : normB c = true := decide_eq_true h
open Classical in
theorem normB_false {c : Cv} (h : ¬ NormOk c) : normB c = false := decide_eq_false h
open Classical in
theorem normB_ok {c : Cv} (h : normB c = true) : NormOk c := of_decide_eq_true h

theorem norm_all {c : Cv} (hf : Fit c) (h0 : 0 ≤ c.inp) (h1 : c.inp ≤ 16384) (h2 : c.V ≤ 16384) (LI : ∀ k, k < 3 → (c.lit k).length ≤ 1024 ∧ (c.lit k).any (bey c) = false)
    (LA : ∀ i : Nat, i < c.lat.length → (rd_T112 c.lat i).f1 ≤ 2 ∧ bey c (rd_T112 c.lat i).f0 = false)
    (GA : ∀ j : Nat, j < c.gat.length → ¬ (wrap64 (c.inp + c.lat.length) + j + 1) % 4294967296 ≤ (rd_T96 c.gat j).f0 / 2 ∧ ¬ (rd_T96 c.gat j).f0 < (rd_T96 c.gat j).f1) : NormOk c := by
  have hl1 := hf.l1
  have hl2 := hf.l2
  have hg : c.gat.length < 4294967296 := by
    refine Nat.lt_of_not_le (fun hg => ?_)
    obtain ⟨j, hj⟩ : ∃ j : Nat, (j : Int) = (-(wrap64 (c.inp + c.lat.length) + 1)) % 4294967296 := ⟨((-(wrap64 (c.inp + c.lat.length) + 1)) % 4294967296).toNat, by omega⟩
    have hjl : j < c.gat.length := by omega
    have h3 := (GA j hjl).1
    have h4 := hf.r2 j hjl
    exact h3 (by omega)
  have ht : c.inp + c.lat.length + c.gat.length ≤ 16384 := by
    refine Int.not_lt.1 (fun ht => ?_)
    have hV : c.V < 0 ∧ 0 < c.lat.length := by
      unfold Cv.V at h2 ⊢
      unfold wrap64 at h2 ⊢
      omega
    have h3 := (LA 0 hV.2).2
    have h4 := hf.r1 0 hV.2
    unfold bey at h3
    have h5 := of_decide_eq_false h3
    unfold wrap64 at h5
    have h6 : ((0 : Nat) : Int) = 0 := rfl
    rw [h6] at h4 h5
    omega
  refine ⟨h0, h1, ht, LI, LA, fun j hj => ⟨?_, (GA j hj).2⟩⟩
  have h3 := (GA j hj).1
  unfold wrap64 at h3
  omega
set_option maxHeartbeats 1000000 in
theorem nmay_small (c : Cv) (w : World) (hc : c.Held w) (h : decide (c.inp < 0) = true ∨ (decide (c.inp < 0) = false ∧ decide (16384 < c.inp) = true) ∨ (decide (c.inp < 0) = false ∧ decide (16384 < c.inp) = false ∧ decide (16384 < c.V) = true)) :
    Calls Tryd.prog 40 #[c.val] w fun e w' => e = .returned (.bool false) ∧ Below w.heap.size w w' := by
  have HC := Aside0.mk hc
  unfold Cv.val
  rcases h with h | ⟨h, h'⟩ | ⟨h, h', h''⟩
  · clear hc
    go_enter Tryd.func40, Tryd.ntmps40
    go_wp2_with fail
    go_ret
    exact ⟨rfl, below_alloc (Below.refl _ _) _⟩
  · clear hc
    go_enter Tryd.func40, Tryd.ntmps40
    go_wp2_with fail
    go_ret
    exact ⟨rfl, below_alloc (Below.refl _ _) _⟩
  · have h0 : 0 ≤ c.inp := by simpa using h
    have h1 : c.inp ≤ 16384 := by simpa using h'
    clear hc h0 h1
    go_enter Tryd.func40, Tryd.ntmps40
    go_wp2_with fail
    refine (varsV c _ (HC.out.below (below_alloc (Below.refl _ _) _))).mono ?_
    rintro e w1 ⟨rfl, hb⟩
    go_wp2_with fail
    go_ret
    exact ⟨rfl, below_then (below_alloc (Below.refl _ _) _) (below_alloc (Below.refl _ _) _).size hb⟩
theorem eg73 : ∀ args w, (callFunc 73 args).run Tryd.prog w = .ok (.enter 73 args) w := enters_of Tryd.func73 (by kernel_rfl) rfl
set_option maxHeartbeats 8000000 in
set_option maxRecDepth 100000 in
theorem nmay_big (c : Cv) (w : World) (hc : c.Held w) (hf : Fit c) (h0 : 0 ≤ c.inp) (h1 : c.inp ≤ 16384) (h2 : c.V ≤ 16384) :
    Calls Tryd.prog 40 #[c.val] w fun e w' => e = .returned (.bool (normB c)) ∧ Below w.heap.size w w' := by
  have HC := Aside0.mk hc
  have hd0 : decide (c.inp < 0) = false := by simpa using h0
  have hd1 : decide (16384 < c.inp) = false := by simpa using h1
  have hd2 : decide (16384 < c.V) = false := by simpa using h2
  have H0 := Aside0.mk (And.intro h0 (And.intro h1 h2))
  have HFT := Aside0.mk hf
  have hm1 : c.lat.length ≤ 9223372036854775807 := hf.l1
  have hm2 : c.gat.length ≤ 9223372036854775807 := hf.l2
  clear hc h0 h1 h2 hf
  unfold Cv.val
  go_enter Tryd.func40, Tryd.ntmps40
  go_wp2_with fail
  refine (varsV c _ (HC.out.below (below_alloc (Below.refl _ _) _))).mono ?_
  rintro e w1 ⟨rfl, hb⟩
  have HX : Aside0 (Boxed c w.heap.size w1) := ⟨Boxed.below (heap_alloc_new w _) hb⟩
  have HB1 := Aside0.mk (below_then (below_alloc (Below.refl _ _) _) (below_alloc (Below.refl _ _) _).size hb)
  obtain ⟨e0, e1, e2, e3, e4, e5⟩ := HX.out.open
  clear hb
  go_wp2_with fail
  clear e0 e1 e2 e3 e4 e5
  have S2 := heap_alloc_new w1 (.cells #[.slice c.A3 c.out.length c.c3, .slice c.A4 c.bad.length c.c4, .slice c.A5 c.con.length c.c5] 24)
  have B2 := Aside0.mk (below_alloc HB1.out (.cells #[.slice c.A3 c.out.length c.c3, .slice c.A4 c.bad.length c.c4, .slice c.A5 c.con.length c.c5] 24))
  have X2 := Aside0.mk (HX.out.below (below_alloc (Below.refl _ _) (.cells #[.slice c.A3 c.out.length c.c3, .slice c.A4 c.bad.length c.c4, .slice c.A5 c.con.length c.c5] 24)))
  generalize w1.alloc (.cells #[.slice c.A3 c.out.length c.c3, .slice c.A4 c.bad.length c.c4, .slice c.A5 c.con.length c.c5] 24) = w2 at S2 B2 X2 ⊢
  generalize w1.heap.size = g at S2 ⊢
  have C2 : Aside0 (∀ k, k < 3 → w2.cell? ⟨g, k, none⟩ = some (.slice (c.litA k) (c.lit k).length (c.litc k))) := by
    refine ⟨fun k hk => ?_⟩
    have : ∀ k, k < 3 → (#[Value.slice c.A3 c.out.length c.c3, .slice c.A4 c.bad.length c.c4, .slice c.A5 c.con.length c.c5] : Array Value)[k]? = some (.slice (c.litA k) (c.lit k).length (c.litc k)) := three rfl rfl rfl
    simp only [World.cell?, S2]
    exact this k hk
  have G2 : Aside0 (g < w2.heap.size) := ⟨(Array.getElem?_eq_some_iff.1 S2).1⟩
  clear S2 HX HB1
  go_loopw [33] (fun v33 wr => ∃ k : Nat, k ≤ 3 ∧ v33 = .int .i64 k ∧ Aside0 (Below w2.heap.size w2 wr) ∧ Aside0 (∀ j, j < k → (c.lit j).length ≤ 1024 ∧ (c.lit j).any (bey c) = false)) (fun i _ => 3 - (intOf i).toNat)
  case atStart => exact ⟨0, Nat.zero_le _, rfl, ⟨Below.refl _ _⟩, ⟨fun j hj => absurd hj (Nat.not_lt_zero _)⟩⟩
  case round =>
    obtain ⟨k, hk, rfl, HB, HN⟩ := hrel
    have BB := Aside0.mk (below_then B2.out B2.out.size HB.out)
    have XX := Aside0.mk (X2.out.below HB.out)
    rcases Nat.lt_or_ge k 3 with hk3 | hk3
    · have hcell : wr.cell? ⟨g, k, none⟩ = some (.slice (c.litA k) (c.lit k).length (c.litc k)) := (HB.out.cell (p := ⟨g, k, none⟩) G2.out).trans (C2.out k hk3)
      by_cases hl : 1024 < (c.lit k).length
      · have hl' : decide ((1024 : Int) < ((c.lit k).length : Int)) = true := decide_eq_true (by omega)
        have HL := Aside0.mk hl
        clear hl
        go_wp2_with fail
        go_ret
        refine ⟨?_, BB.out⟩
        rw [normB_false (fun h => by have := (h.lists k hk3).1; have := HL.out; omega)]
        rfl
      · have hl' : decide ((1024 : Int) < ((c.lit k).length : Int)) = false := decide_eq_false (by omega)
        have HL := Aside0.mk hl
        clear hl
        have HCF := Aside0.mk (conf_num (bey c) 73 #[.pointer (some ⟨w.heap.size, 0, none⟩)] eg73 (c.litA k) (c.litc k) (c.lit k) wr (beyond c w.heap.size wr XX.out (HC.out.below BB.out)) ((HC.out.below BB.out).at k hk3))
        cases hq : (c.lit k).any (bey c) with
        | true =>
          rw [hq] at HCF
          go_wp2_with fail
          refine HCF.out.mono ?_
          rintro e w3 ⟨rfl, hb3⟩
          go_wp2_with fail
          go_ret
          refine ⟨?_, below_then BB.out BB.out.size hb3⟩
          rw [normB_false (fun h => by have := (h.lists k hk3).2; rw [hq] at this; cases this)]
          rfl
        | false =>
          rw [hq] at HCF
          go_wp2_with fail
          refine HCF.out.mono ?_
          rintro e w3 ⟨rfl, hb3⟩
          go_wp2_with fail
          refine ⟨⟨k + 1, by omega, by go_num, ⟨below_then HB.out HB.out.size hb3⟩, ⟨fun j hj => ?_⟩⟩, by simp [intOf]; omega⟩
          rcases Nat.lt_or_ge j k with h1 | h1
          · exact HN.out j h1
          · obtain rfl : j = k := by omega
            exact ⟨by have := HL.out; omega, hq⟩
    · obtain rfl : k = 3 := by omega
      obtain ⟨e0, e1, e2, e3, e4, e5⟩ := XX.out.open
      clear C2 G2 B2 X2
      have LI := Aside0.mk HN.out
      clear HN
      go_wp2_with fail
      clear e0 e1 e2 e3 e4 e5
      clear HB
      generalize wr = w4 at BB XX ⊢
      rw [show ((3 : Nat) : Int) = 3 from rfl]
      obtain ⟨a1, ha1⟩ : ∃ A, A = c.A1 := ⟨_, rfl⟩
      rw [← ha1]
      have HA1 := Aside0.mk ha1
      clear ha1
      go_loopw [49] (fun v49 wr => ∃ i : Nat, i ≤ c.lat.length ∧ v49 = .int .i64 i ∧ Aside0 (Below w4.heap.size w4 wr) ∧ Aside0 (∀ j : Nat, j < i → (rd_T112 c.lat j).f1 ≤ 2 ∧ bey c (rd_T112 c.lat j).f0 = false)) (fun i _ => c.lat.length - (intOf i).toNat)
      case atStart => exact ⟨0, Nat.zero_le _, rfl, ⟨Below.refl _ _⟩, ⟨fun j hj => absurd hj (Nat.not_lt_zero _)⟩⟩
      case round =>
        obtain ⟨i, hi, rfl, HB, HN⟩ := hrel
        have BB2 := Aside0.mk (below_then BB.out BB.out.size HB.out)
        have XX2 := Aside0.mk (XX.out.below HB.out)
        rcases Nat.lt_or_ge i c.lat.length with hil | hil
        · obtain ⟨ad, hA, hc0, hc1⟩ := at_T112 (HC.out.below BB2.out).lat i (by omega) (by omega)
          obtain ⟨x, hx⟩ : ∃ x, x = rd_T112 c.lat i := ⟨_, rfl⟩
          obtain rfl : a1 = some ad := HA1.out.trans hA
          clear hA
          rw [← hx] at hc0 hc1
          rw [show (i : Int).toNat = i from Int.toNat_natCast i] at hc0 hc1
          have HXX := Aside0.mk hx
          clear hx
          have hn : (rd_T112 c.lat i) = x := HXX.out.symm
          have HCALL : Aside0 (∀ W, Below wr.heap.size wr W → Calls Tryd.prog 73 #[.int .u32 x.f0, .pointer (some ⟨w.heap.size, 0, none⟩)] W fun e w' => e = .returned (.bool (bey c x.f0)) ∧ Below wr.heap.size wr w') := ⟨fun W hW => beyond c w.heap.size wr XX2.out (HC.out.below BB2.out) W x.f0 hW⟩
          by_cases hf : 2 < x.f1
          · have hf' : decide (2 < x.f1) = true := decide_eq_true hf
            have HF := Aside0.mk hf
            clear hf
            go_wp2_with fail
            go_ret
            refine ⟨?_, below_alloc BB2.out _⟩
            rw [normB_false (fun h => by have := (h.lat i hil).1; rw [hn] at this; have := HF.out; omega)]
            rfl
          · have hf' : decide (2 < x.f1) = false := decide_eq_false hf
            have HF := Aside0.mk hf
            clear hf
            cases hq : bey c x.f0 with
            | true =>
              rw [hq] at HCALL
              go_wp2_with fail
              refine (HCALL.out _ (below_alloc (Below.refl _ _) _)).mono ?_
              rintro e w5 ⟨rfl, hb5⟩
              go_wp2_with fail
              go_ret
              refine ⟨?_, below_then BB2.out BB2.out.size hb5⟩
              rw [normB_false (fun h => by have := (h.lat i hil).2; rw [hn, hq] at this; cases this)]
              rfl
            | false =>
              rw [hq] at HCALL
              go_wp2_with fail
              refine (HCALL.out _ (below_alloc (Below.refl _ _) _)).mono ?_
              rintro e w5 ⟨rfl, hb5⟩
              go_wp2_with fail
              refine ⟨⟨i + 1, by omega, by go_num, ⟨below_then HB.out HB.out.size hb5⟩, ⟨fun j hj => ?_⟩⟩, by simp [intOf]; omega⟩
              rcases Nat.lt_or_ge j i with h1 | h1
              · exact HN.out j h1
              · obtain rfl : j = i := by omega
                rw [hn]
                exact ⟨by have := HF.out; omega, hq⟩
        · obtain rfl : i = c.lat.length := by omega
          obtain ⟨e0, e1, e2, e3, e4, e5⟩ := XX2.out.open
          have LA := Aside0.mk HN.out
          clear HN BB XX
          go_wp2_with fail
          clear e0 e1 e2 e3 e4 e5
          clear HB
          generalize wr = w6 at BB2 XX2 ⊢
          obtain ⟨a2, ha2⟩ : ∃ A, A = c.A2 := ⟨_, rfl⟩
          rw [← ha2]
          have HA2 := Aside0.mk ha2
          clear ha2
          go_loopw [8, 73] (fun v8 v73 wr => ∃ i : Nat, ∃ o : Int, i ≤ c.gat.length ∧ v73 = .int .i64 i ∧ v8 = .int .u32 o ∧ Aside0 (o = (wrap64 (c.inp + c.lat.length) + i) % 4294967296) ∧ Aside0 (Below w6.heap.size w6 wr) ∧ Aside0 (∀ j : Nat, j < i → ¬ (wrap64 (c.inp + c.lat.length) + j + 1) % 4294967296 ≤ (rd_T96 c.gat j).f0 / 2 ∧ ¬ (rd_T96 c.gat j).f0 < (rd_T96 c.gat j).f1)) (fun _ i _ => c.gat.length - (intOf i).toNat)
          case atStart => exact ⟨0, _, Nat.zero_le _, rfl, rfl, ⟨by simp⟩, ⟨Below.refl _ _⟩, ⟨fun j hj => absurd hj (Nat.not_lt_zero _)⟩⟩
          case round =>
            obtain ⟨i, o, hi, rfl, rfl, HO, HB, HN⟩ := hrel
            have BB3 := Aside0.mk (below_then BB2.out BB2.out.size HB.out)
            rcases Nat.lt_or_ge i c.gat.length with hil | hil
            · obtain ⟨ad, hA, hc0, hc1⟩ := at_T96 (HC.out.below BB3.out).gat i (by omega) (by omega)
              obtain ⟨x, hx⟩ : ∃ x, x = rd_T96 c.gat i := ⟨_, rfl⟩
              obtain rfl : a2 = some ad := HA2.out.trans hA
              clear hA
              rw [← hx] at hc0 hc1
              rw [show (i : Int).toNat = i from Int.toNat_natCast i] at hc0 hc1
              have HXX := Aside0.mk hx
              clear hx
              have hn : (rd_T96 c.gat i) = x := HXX.out.symm
              obtain ⟨u, hu⟩ : ∃ u, u = (wrap64 (c.inp + c.lat.length) + i + 1) % 4294967296 := ⟨_, rfl⟩
              have hw : (o + 1) % 4294967296 = u := by have := HO.out; omega
              have HU := Aside0.mk hu
              clear hu
              by_cases hf : u ≤ x.f0 / 2
              · have hf' : decide (u ≤ x.f0 / 2) = true := decide_eq_true hf
                have HF := Aside0.mk hf
                clear hf hn
                go_wp2_with fail
                go_ret
                refine ⟨?_, below_alloc BB3.out _⟩
                rw [normB_false (fun h => by have := (h.gat i hil).1; rw [← HXX.out] at this; have := HF.out; have := HU.out; have := h.h2; have := h.h0; unfold wrap64 at *; omega)]
                rfl
              · have hf' : decide (u ≤ x.f0 / 2) = false := decide_eq_false hf
                have HF := Aside0.mk hf
                clear hf
                by_cases hg : x.f0 < x.f1
                · have hg' : decide (x.f0 < x.f1) = true := decide_eq_true hg
                  have HG := Aside0.mk hg
                  clear hg hn
                  go_wp2_with fail
                  go_ret
                  refine ⟨?_, below_alloc BB3.out _⟩
                  rw [normB_false (fun h => by have := (h.gat i hil).2; rw [← HXX.out] at this; exact this HG.out)]
                  rfl
                · have hg' : decide (x.f0 < x.f1) = false := decide_eq_false hg
                  have HG := Aside0.mk hg
                  clear hg hn
                  go_wp2_with fail
                  refine ⟨⟨i + 1, u, by omega, by go_num, by first | rfl | go_num, ⟨by have := HU.out; omega⟩, ⟨below_alloc HB.out _⟩, ⟨fun j hj => ?_⟩⟩, by simp [intOf]; omega⟩
                  rcases Nat.lt_or_ge j i with h1 | h1
                  · exact HN.out j h1
                  · obtain rfl : j = i := by omega
                    rw [← HXX.out]
                    exact ⟨by have := HF.out; have := HU.out; omega, HG.out⟩
            · obtain rfl : i = c.gat.length := by omega
              go_wp2_with fail
              go_ret
              refine ⟨?_, BB3.out⟩
              rw [normB_true (norm_all HFT.out H0.out.1 H0.out.2.1 H0.out.2.2 LI.out LA.out (fun j hj => ⟨by have := (HN.out j hj).1; omega, by have := (HN.out j hj).2; omega⟩))]
              rfl
theorem NormOk.V {c : Cv} (h : NormOk c) : c.V = c.inp + c.lat.length + c.gat.length := by
  have h0 := h.h0
  have h2 := h.h2
  unfold Cv.V wrap64
  omega
/-- norm.May. -/
theorem nmay (c : Cv) (w : World) (hc : c.Held w) (hs : Fit c) :
    Calls Tryd.prog 40 #[c.val] w fun e w' => e = .returned (.bool (normB c)) ∧ Below w.heap.size w w' := by
  by_cases h0 : 0 ≤ c.inp
  · by_cases h1 : c.inp ≤ 16384
    · by_cases h2 : c.V ≤ 16384
      · exact nmay_big c w hc hs h0 h1 h2
      · rw [normB_false (fun h => h2 (by rw [h.V]; exact h.h2))]
        exact nmay_small c w hc (.inr (.inr ⟨by simpa using h0, by simpa using h1, by simpa using h2⟩))
    · rw [normB_false (fun h => h1 h.h1)]
      exact nmay_small c w hc (.inr (.inl ⟨by simpa using h0, by simpa using h1⟩))
  · rw [normB_false (fun h => h0 h.h0)]
    exact nmay_small c w hc (.inl (by simpa using h0))
end Go.Proofs.YtfdemglcjfdodaaDoor.N
