/-
  name.Call: what a literal is called.
-/
import Derived.Test.YtfdemglcjfdodaaDoorNCall
import Derived.Test.YtfdemglcjfdodaaDoorNFind
import Derived.Laws.BitsLemmas
namespace Go.Proofs.YtfdemglcjfdodaaDoor.N
open Go.RowKit Go.Lib Go.Proofs.YtfdemglcjfdodaaDoorW.PrintWords Go.Proofs.YtfdemglcjfdodaaDoorW.PrintLast Go.Proofs.YtfdemglcjfdodaaDoorW.PrintMore
set_option linter.unusedVariables false

def callV (c : Cv) (n : Nv) (v : Nat) : ByteArray := callF c.inp.toNat c.lat.length n.l0 n.l1 v
theorem plain_size {s : ByteArray} (h : badB s = false) : s.size ≤ 64 := by
  unfold badB plainB at h
  rcases Nat.eq_zero_or_pos s.size with h0 | h0
  · omega
  · rw [decide_eq_true (p := s.size ≠ 0) (by omega)] at h
    by_cases h1 : s.size ≤ 64
    · exact h1
    · rw [decide_eq_false h1] at h
      simp at h
theorem NameOk.name {c : Cv} {n : Nv} (h : NameOk c n) (k : Nat) (hk : k < 5) (s : ByteArray) (hs : s ∈ n.l k) : s.size ≤ 64 := by
  rcases h.lists k hk with h0 | h0
  · rw [List.eq_nil_of_length_eq_zero h0] at hs
    cases hs
  · have := h0.2.1
    rw [List.any_eq_false] at this
    exact plain_size (by simpa using this s hs)
theorem ownB_size64 (c : UInt8) (i : Nat) (hi : i < 4611686018427387904) : (ownB c i).size ≤ 64 := by
  rw [ownB_size]
  have := itoa_len i hi
  rw [itoa_nonneg] at this
  omega
theorem getD_mem_or {l : List ByteArray} {i : Nat} (h : (l.getD i ByteArray.empty).size ≠ 0) : l.getD i ByteArray.empty ∈ l := by
  by_cases hi : i < l.length
  · rw [List.getD_eq_getElem?_getD, List.getElem?_eq_getElem hi]
    exact List.getElem_mem _
  · rw [List.getD_eq_getElem?_getD, List.getElem?_eq_none (by omega)] at h
    exact absurd rfl h
theorem callV_size {c : Cv} {n : Nv} (h : NameOk c n) (v : Nat) (hv : v < 4611686018427387904) : (callV c n v).size ≤ 64 := by
  unfold callV callF
  split
  · split
    · rename_i h2
      exact h.name 0 (by omega) _ (getD_mem_or h2.2)
    · exact ownB_size64 _ _ (by omega)
  · split
    · split
      · rename_i h2
        exact h.name 1 (by omega) _ (getD_mem_or h2.2)
      · exact ownB_size64 _ _ (by omega)
    · exact ownB_size64 _ _ (by omega)

def callR (c : Cv) (n : Nv) (x : Nat) : ByteArray × Int :=
  if c.inp + c.lat.length + c.gat.length < ((x / 2 : Nat) : Int) then (⟨#[]⟩, 2) else if x < 2 then (⟨(itoa (x : Int)).toArray⟩, 0) else if x % 2 = 1 then (⟨#[33]⟩ ++ callV c n (x / 2), 0) else (callV c n (x / 2), 0)
set_option maxHeartbeats 2000000 in
theorem call_no (c : Cv) (n : Nv) (x : Nat) (w : World) (hc : c.Held w) (hh : n.Held w) (hs : Fit c) (hm : mayB c n = false) :
    Calls Tryd.prog 15 #[c.val, n.val, .int .u32 x] w fun e w' => e = .returned (.tuple #[.string ⟨#[]⟩, .int .i64 2]) ∧ Below w.heap.size w w' := by
  have HB := Aside0.mk (below_alloc (below_alloc (Below.refl w.heap.size w) (.cells c.cells 26)) (.cells #[.slice n.A0 n.l0.length n.c0, .slice n.A1 n.l1.length n.c1, .slice n.A2 n.l2.length n.c2, .slice n.A3 n.l3.length n.c3, .slice n.A4 n.l4.length n.c4] 29))
  have HM := Aside0.mk (may c n _ (hc.below HB.out) (hh.below HB.out) hs)
  rw [hm] at HM
  clear hc hh
  unfold Cv.cells at HM HB
  unfold Cv.val Nv.val
  go_enter Tryd.func15, Tryd.ntmps15
  go_wp2_with fail
  refine HM.out.mono ?_
  rintro e w1 ⟨rfl, hb⟩
  go_wp2_with fail
  go_ret2
  exact ⟨rfl, below_then HB.out HB.out.size hb⟩
set_option maxHeartbeats 8000000 in
set_option maxRecDepth 100000 in
theorem call_yes (c : Cv) (n : Nv) (x : Nat) (hx : x < 4294967296) (w : World) (hc : c.Held w) (hh : n.Held w) (hG : Glob w) (hs : Fit c) (hm : mayB c n = true) :
    Calls Tryd.prog 15 #[c.val, n.val, .int .u32 x] w fun e w' => e = .returned (.tuple #[.string (callR c n x).1, .int .i64 (callR c n x).2]) ∧ Below w.heap.size w w' := by
  have hok := mayB_ok hm
  have hz := hok.sizes
  have HB := Aside0.mk (below_alloc (below_alloc (Below.refl w.heap.size w) (.cells c.cells 26)) (.cells #[.slice n.A0 n.l0.length n.c0, .slice n.A1 n.l1.length n.c1, .slice n.A2 n.l2.length n.c2, .slice n.A3 n.l3.length n.c3, .slice n.A4 n.l4.length n.c4] 29))
  have HM := Aside0.mk (may c n _ (hc.below HB.out) (hh.below HB.out) hs)
  have HX : Aside0 (Boxed c w.heap.size ((w.alloc (.cells c.cells 26)).alloc (.cells #[.slice n.A0 n.l0.length n.c0, .slice n.A1 n.l1.length n.c1, .slice n.A2 n.l2.length n.c2, .slice n.A3 n.l3.length n.c3, .slice n.A4 n.l4.length n.c4] 29))) := ⟨(show Boxed c w.heap.size (w.alloc (.cells c.cells 26)) from heap_alloc_new w _).below (below_alloc (Below.refl _ _) _)⟩
  have HY : Aside0 (NBoxed n (w.heap.size + 1) ((w.alloc (.cells c.cells 26)).alloc (.cells #[.slice n.A0 n.l0.length n.c0, .slice n.A1 n.l1.length n.c1, .slice n.A2 n.l2.length n.c2, .slice n.A3 n.l3.length n.c3, .slice n.A4 n.l4.length n.c4] 29))) := ⟨heap_alloc2_new w _ _⟩
  rw [hm] at HM
  have HNV := Aside0.mk (fun W (h : c.Held W) => nvars c W h hs)
  rw [normB_true hok.norm, if_pos rfl] at HNV
  have HZ := Aside0.mk hz
  have HK := Aside0.mk hok
  have HC := Aside0.mk hc
  have HH := Aside0.mk hh
  have HG := Aside0.mk hG
  have HXX := Aside0.mk hx
  clear hc hh hG hok hz
  unfold Cv.cells at HM HB HX HY
  unfold Cv.val Nv.val
  by_cases h1 : c.inp + c.lat.length + c.gat.length < (x : Int) / 2
  · have h1' : decide (c.inp + c.lat.length + c.gat.length < (x : Int) / 2) = true := decide_eq_true h1
    have hr : callR c n x = (⟨#[]⟩, 2) := by unfold callR; rw [if_pos (by omega)]
    rw [hr]
    clear h1
    go_enter Tryd.func15, Tryd.ntmps15
    go_wp2_with fail
    refine HM.out.mono ?_
    rintro e w1 ⟨rfl, hb⟩
    have B1 := Aside0.mk (below_then HB.out HB.out.size hb)
    obtain ⟨e0, e1, e2, e3, e4, e5⟩ := (HX.out.below hb).open
    go_wp2_with fail
    refine (HNV.out w1 (HC.out.below B1.out)).mono ?_
    rintro e w2 ⟨rfl, hb2⟩
    go_wp2_with fail
    go_ret2
    exact ⟨rfl, below_then B1.out B1.out.size hb2⟩
  · have h1' : decide (c.inp + c.lat.length + c.gat.length < (x : Int) / 2) = false := decide_eq_false h1
    by_cases h2 : x < 2
    · have h2' : decide ((x : Int) < 2) = true := decide_eq_true (by omega)
      have hr : callR c n x = (⟨(itoa (x : Int)).toArray⟩, 0) := by unfold callR; rw [if_neg (by omega), if_pos h2]
      rw [hr]
      clear h1 h2
      go_enter Tryd.func15, Tryd.ntmps15
      go_wp2_with fail
      refine HM.out.mono ?_
      rintro e w1 ⟨rfl, hb⟩
      have B1 := Aside0.mk (below_then HB.out HB.out.size hb)
      obtain ⟨e0, e1, e2, e3, e4, e5⟩ := (HX.out.below hb).open
      go_wp2_with fail
      refine (HNV.out w1 (HC.out.below B1.out)).mono ?_
      rintro e w2 ⟨rfl, hb2⟩
      have B2 := Aside0.mk (below_then B1.out B1.out.size hb2)
      go_wp2_with fail
      refine (Tryd.strconv_Itoa (x : Int) (by omega) (by omega) w2 (Glob.below HG.out B2.out).pow10).mono ?_
      rintro e w3 ⟨rfl, k, os, rfl⟩
      go_wp2_with fail
      go_ret2
      exact ⟨rfl, below_then B2.out B2.out.size (below_grown w2 k os)⟩
    · have h2' : decide ((x : Int) < 2) = false := decide_eq_false (by omega)
      have HCV := Aside0.mk (fun W (h : Below w.heap.size w W) => callv c n (x / 2) W (HC.out.below h) (HH.out.below h) (Glob.below HG.out h) HZ.out.2.2.2.2.2.1 HZ.out.2.2.2.2.2.2 HZ.out.1 (by omega) (by have := HZ.out; omega))
      have hsz := callV_size HK.out (x / 2) (by omega)
      unfold callR
      rw [if_neg (by omega), if_neg h2]
      unfold callV at hsz ⊢
      generalize callF c.inp.toNat c.lat.length n.l0 n.l1 (x / 2) = cs at HCV hsz ⊢
      have hbit : bits BinOp.and IntKind.u32 (x : Int) 1 = (x : Int) % 2 := bits_mask .u32 32 (by decide) (fun n h0 h1 => by simp [IntKind.wrap, IntKind.signed, IntKind.bits]; omega) 1 (by decide) (x : Int) (by omega) (by omega)
      by_cases h3 : x % 2 = 1
      · rw [if_pos h3]
        have hb1 : decide (0 < bits BinOp.and IntKind.u32 (x : Int) 1) = true := decide_eq_true (by rw [hbit]; omega)
        have hcat : (9223372036854775807 < 1 + cs.size) = False := eq_false (by omega)
        clear hbit h3 h1 h2
        go_enter Tryd.func15, Tryd.ntmps15
        go_wp2_with fail
        refine HM.out.mono ?_
        rintro e w1 ⟨rfl, hb⟩
        have B1 := Aside0.mk (below_then HB.out HB.out.size hb)
        have X1 := Aside0.mk (HX.out.below hb)
        have Y1 := Aside0.mk (HY.out.below hb)
        obtain ⟨e0, e1, e2, e3, e4, e5⟩ := X1.out.open
        go_wp2_with fail
        refine (HNV.out w1 (HC.out.below B1.out)).mono ?_
        rintro e w2 ⟨rfl, hb2⟩
        have B2 := Aside0.mk (below_then B1.out B1.out.size hb2)
        clear e0 e1 e2 e3 e4 e5
        obtain ⟨e0, e1, e2, e3, e4, e5⟩ := (X1.out.below hb2).open
        obtain ⟨f0, f1, f2, f3, f4⟩ := (Y1.out.below hb2).open
        go_wp2_with fail
        refine (HCV.out w2 B2.out).mono ?_
        rintro e w3 ⟨rfl, hb3⟩
        go_wp2_with fail
        go_ret2
        exact ⟨rfl, below_then B2.out B2.out.size hb3⟩
      · rw [if_neg h3]
        have hb1 : decide (0 < bits BinOp.and IntKind.u32 (x : Int) 1) = false := decide_eq_false (by rw [hbit]; omega)
        clear hbit h3 h1 h2
        go_enter Tryd.func15, Tryd.ntmps15
        go_wp2_with fail
        refine HM.out.mono ?_
        rintro e w1 ⟨rfl, hb⟩
        have B1 := Aside0.mk (below_then HB.out HB.out.size hb)
        have X1 := Aside0.mk (HX.out.below hb)
        have Y1 := Aside0.mk (HY.out.below hb)
        obtain ⟨e0, e1, e2, e3, e4, e5⟩ := X1.out.open
        go_wp2_with fail
        refine (HNV.out w1 (HC.out.below B1.out)).mono ?_
        rintro e w2 ⟨rfl, hb2⟩
        have B2 := Aside0.mk (below_then B1.out B1.out.size hb2)
        clear e0 e1 e2 e3 e4 e5
        obtain ⟨e0, e1, e2, e3, e4, e5⟩ := (X1.out.below hb2).open
        obtain ⟨f0, f1, f2, f3, f4⟩ := (Y1.out.below hb2).open
        go_wp2_with fail
        refine (HCV.out w2 B2.out).mono ?_
        rintro e w3 ⟨rfl, hb3⟩
        go_wp2_with fail
        go_ret2
        exact ⟨rfl, below_then B2.out B2.out.size hb3⟩
/-- name.Call. -/
theorem call (c : Cv) (n : Nv) (x : Nat) (hx : x < 4294967296) (w : World) (hc : c.Held w) (hh : n.Held w) (hG : Glob w) (hs : Fit c) :
    Calls Tryd.prog 15 #[c.val, n.val, .int .u32 x] w fun e w' => e = .returned (if mayB c n then .tuple #[.string (callR c n x).1, .int .i64 (callR c n x).2] else .tuple #[.string ⟨#[]⟩, .int .i64 2]) ∧ Below w.heap.size w w' := by
  cases hm : mayB c n with
  | true => exact call_yes c n x hx w hc hh hG hs hm
  | false => exact call_no c n x w hc hh hs hm
end Go.Proofs.YtfdemglcjfdodaaDoor.N
