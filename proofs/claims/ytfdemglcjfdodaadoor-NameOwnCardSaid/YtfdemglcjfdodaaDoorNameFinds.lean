/-
  Whatever the circuit, the names and the number: what a variable is called finds it, the odd literal is called that with a mark ahead, each told name finds its literal.
  Conditions: the listed variables hold what the text of the program lays.
-/
import Derived.Test.YtfdemglcjfdodaaDoorCards
import Derived.Test.YtfdemglcjfdodaaDoorTie
import Derived.Test.YtfdemglcjfdodaaDoorOpenName
import Derived.Test.YtfdemglcjfdodaaDoorNFinds
import Derived.WalkKit
namespace Go.Proofs.YtfdemglcjfdodaaDoor.nameFinds
open Go.ChangeShapes Go.WideShapes Go.ChangeAt Go.RowKit Go.Deep Go.Proofs.YtfdemglcjfdodaaDoorW.PrintWords Go.Proofs.YtfdemglcjfdodaaDoorW.PrintLast N
set_option linter.unusedVariables false

theorem getD_in {α : Type} {l : List α} {d : α} {i : Nat} (h : i < l.length) : l.getD ((i : Int).toNat) d ∈ l := by
  rw [Int.toNat_natCast, List.getD_eq_getElem?_getD, List.getElem?_eq_getElem h]
  exact List.getElem_mem _

set_option maxRecDepth 100000 in
theorem field_k112 {H : Type} {enc : TypeId × Value → H} {W : World} {n : Nat} {v : Value} {y : DataW H × List MemPlace} (h : DataW.trod enc Tryd.prog W 0 (fun _ => true) true n 22 [v] = some y) :
    ∃ (A : Option Addr) (c : Nat) (l : List S112), v = .slice A l.length c ∧ Kd.C k112 W A l.length l ∧ l.length ≤ c ∧ (∀ x ∈ l, 0 ≤ x.f0 ∧ x.f0 < 4294967296) ∧ l.length ≤ Rows.uptoBulk y.1 := by
  rcases open_slice_fields Tryd.underlying22 Tryd.underlying112 (by kernel_rfl) (by kernel_rfl) h with ⟨hcs, _⟩ | ⟨a, len, cap, m, D, Pl, hcs, _, hl, hm, hmm, hx, hi⟩
  · obtain rfl := List.head_eq_of_cons_eq hcs
    exact ⟨none, 0, [], rfl, Kd.C_nil _ _, Nat.le_refl _, fun x h => (List.not_mem_nil h).elim, Nat.zero_le _⟩
  · obtain rfl := List.head_eq_of_cons_eq hcs
    have hmm' : m = cap := by simpa using hmm
    have hx1 : ∀ i, ∃ x : S112, i < len → W.cell? (a.add (i * 2)) = some (.int .u32 x.f0) ∧ W.cell? (a.add (i * 2 + 1)) = some (.int .u8 x.f1) ∧ 0 ≤ x.f0 ∧ x.f0 < 4294967296 := by
      intro i
      by_cases hil : i < len
      · obtain ⟨ys, n', _, _, _, hf⟩ := hi i (by omega)
        obtain ⟨u0, z0, hc0, _, ht0⟩ := hf 0 _ rfl
        obtain ⟨u1, z1, hc1, _, ht1⟩ := hf 1 _ rfl
        obtain ⟨m0, e0, _, hw0⟩ := DataW.trod_int Tryd.underlying30 ht0
        obtain ⟨m1, e1, _, _⟩ := DataW.trod_int Tryd.underlying5 ht1
        obtain rfl := List.head_eq_of_cons_eq e0
        obtain rfl := List.head_eq_of_cons_eq e1
        have hr0 : 0 ≤ m0 ∧ m0 < 4294967296 := by
          simp [Lit.wf, IntKind.min, IntKind.max, IntKind.signed, IntKind.bits] at hw0
          omega
        exact ⟨⟨m0, m1⟩, fun _ => ⟨hc0, hc1, hr0⟩⟩
      · exact ⟨⟨0, 0⟩, fun h => absurd h hil⟩
    obtain ⟨f, hf⟩ : ∃ f : Nat → S112, ∀ i, i < len → W.cell? (a.add (i * 2)) = some (.int .u32 (f i).f0) ∧ W.cell? (a.add (i * 2 + 1)) = some (.int .u8 (f i).f1) ∧ 0 ≤ (f i).f0 ∧ (f i).f0 < 4294967296 :=
      ⟨fun i => Classical.choose (hx1 i), fun i hil => Classical.choose_spec (hx1 i) hil⟩
    have hlen : ((List.range len).map f).length = len := by simp
    have hmax : maxLen ≤ 9223372036854775807 := by decide
    refine ⟨some a, cap, (List.range len).map f, by rw [hlen], ⟨rfl, by rw [hlen]; omega, fun _ => ⟨a, rfl, fun j p hj => ⟨[.int .u32 p.f0, .int .u8 p.f1], rfl, k112_mk W p, fun i u hu => ?_⟩⟩⟩, by rw [hlen]; exact hl, ?_, ?_⟩
    · have hjl : j < len := by
        have := (List.getElem?_eq_some_iff.1 hj).1
        omega
      have hp : f j = p := by
        rw [List.getElem?_map, List.getElem?_range hjl] at hj
        simpa using hj
      have hc := hf j hjl
      rw [hp] at hc
      show W.cell? (a.add (j * 2 + i)) = some u
      match i, hu with
      | 0, hu =>
        obtain rfl : (.int .u32 p.f0 : Value) = u := by simpa using hu
        exact hc.1
      | 1, hu =>
        obtain rfl : (.int .u8 p.f1 : Value) = u := by simpa using hu
        exact hc.2.1
      | i + 2, hu => simp at hu
    · intro x hx
      obtain ⟨i, hi, rfl⟩ := List.mem_map.1 hx
      exact (hf i (List.mem_range.1 hi)).2.2
    · subst hx
      have := bulk_length ((List.range len).map D)
      have hlen2 : ((List.range len).map D).length = len := by simp
      simp only [Rows.uptoBulk, hlen]
      omega

set_option maxRecDepth 100000 in
theorem field_k96 {H : Type} {enc : TypeId × Value → H} {W : World} {n : Nat} {v : Value} {y : DataW H × List MemPlace} (h : DataW.trod enc Tryd.prog W 0 (fun _ => true) true n 23 [v] = some y) :
    ∃ (A : Option Addr) (c : Nat) (l : List S96), v = .slice A l.length c ∧ Kd.C k96 W A l.length l ∧ l.length ≤ c ∧ (∀ x ∈ l, 0 ≤ x.f0 ∧ x.f0 < 4294967296) ∧ l.length ≤ Rows.uptoBulk y.1 := by
  rcases open_slice_fields Tryd.underlying23 Tryd.underlying96 (by kernel_rfl) (by kernel_rfl) h with ⟨hcs, _⟩ | ⟨a, len, cap, m, D, Pl, hcs, _, hl, hm, hmm, hx, hi⟩
  · obtain rfl := List.head_eq_of_cons_eq hcs
    exact ⟨none, 0, [], rfl, Kd.C_nil _ _, Nat.le_refl _, fun x h => (List.not_mem_nil h).elim, Nat.zero_le _⟩
  · obtain rfl := List.head_eq_of_cons_eq hcs
    have hmm' : m = cap := by simpa using hmm
    have hx1 : ∀ i, ∃ x : S96, i < len → W.cell? (a.add (i * 2)) = some (.int .u32 x.f0) ∧ W.cell? (a.add (i * 2 + 1)) = some (.int .u32 x.f1) ∧ 0 ≤ x.f0 ∧ x.f0 < 4294967296 := by
      intro i
      by_cases hil : i < len
      · obtain ⟨ys, n', _, _, _, hf⟩ := hi i (by omega)
        obtain ⟨u0, z0, hc0, _, ht0⟩ := hf 0 _ rfl
        obtain ⟨u1, z1, hc1, _, ht1⟩ := hf 1 _ rfl
        obtain ⟨m0, e0, _, hw0⟩ := DataW.trod_int Tryd.underlying30 ht0
        obtain ⟨m1, e1, _, _⟩ := DataW.trod_int Tryd.underlying30 ht1
        obtain rfl := List.head_eq_of_cons_eq e0
        obtain rfl := List.head_eq_of_cons_eq e1
        have hr0 : 0 ≤ m0 ∧ m0 < 4294967296 := by
          simp [Lit.wf, IntKind.min, IntKind.max, IntKind.signed, IntKind.bits] at hw0
          omega
        exact ⟨⟨m0, m1⟩, fun _ => ⟨hc0, hc1, hr0⟩⟩
      · exact ⟨⟨0, 0⟩, fun h => absurd h hil⟩
    obtain ⟨f, hf⟩ : ∃ f : Nat → S96, ∀ i, i < len → W.cell? (a.add (i * 2)) = some (.int .u32 (f i).f0) ∧ W.cell? (a.add (i * 2 + 1)) = some (.int .u32 (f i).f1) ∧ 0 ≤ (f i).f0 ∧ (f i).f0 < 4294967296 :=
      ⟨fun i => Classical.choose (hx1 i), fun i hil => Classical.choose_spec (hx1 i) hil⟩
    have hlen : ((List.range len).map f).length = len := by simp
    have hmax : maxLen ≤ 9223372036854775807 := by decide
    refine ⟨some a, cap, (List.range len).map f, by rw [hlen], ⟨rfl, by rw [hlen]; omega, fun _ => ⟨a, rfl, fun j p hj => ⟨[.int .u32 p.f0, .int .u32 p.f1], rfl, k96_mk W p, fun i u hu => ?_⟩⟩⟩, by rw [hlen]; exact hl, ?_, ?_⟩
    · have hjl : j < len := by
        have := (List.getElem?_eq_some_iff.1 hj).1
        omega
      have hp : f j = p := by
        rw [List.getElem?_map, List.getElem?_range hjl] at hj
        simpa using hj
      have hc := hf j hjl
      rw [hp] at hc
      show W.cell? (a.add (j * 2 + i)) = some u
      match i, hu with
      | 0, hu =>
        obtain rfl : (.int .u32 p.f0 : Value) = u := by simpa using hu
        exact hc.1
      | 1, hu =>
        obtain rfl : (.int .u32 p.f1 : Value) = u := by simpa using hu
        exact hc.2.1
      | i + 2, hu => simp at hu
    · intro x hx
      obtain ⟨i, hi, rfl⟩ := List.mem_map.1 hx
      exact (hf i (List.mem_range.1 hi)).2.2
    · subst hx
      have := bulk_length ((List.range len).map D)
      have hlen2 : ((List.range len).map D).length = len := by simp
      simp only [Rows.uptoBulk, hlen]
      omega

set_option maxRecDepth 100000 in
theorem contract (H : Type) (enc : TypeId × Value → H) (W : World) (base : Nat) (args : Array Value) (ds gs : List (DataW H)) (before : List MemPlace)
    (hval : ∀ (j : Nat) t v, Tryd.f3.params[j]? = some t → args[j]? = some v → Value.okWide Tryd.prog W .any base t v)
    (hW : DataW.Whole enc Tryd.prog Tryd.f3.params.toList Rows.nameFindsSpec.vars false W args.toList ds gs before) (hG : Glob W) :
    Calls Tryd.prog 3 args W fun e W' => ∃ v, e = .returned v ∧ Rows.nameFindsSpec.post enc Tryd.prog Tryd.f3 false true false false W args v W' := by
  have hW' := hW
  obtain ⟨p, q, hA0, hV, rfl, hfz, hnd⟩ := hW
  have hA : DataW.TrodAll enc Tryd.prog W 0 (fun _ => true) true Tryd.f3.params.toList args.toList ds p := hA0
  rw [Tryd.params3] at hA hval
  obtain ⟨v0, vs0, d0, ds0, p0, q0, hargs, rfl, rfl, h0, r0⟩ := trodAll_cons hA
  obtain ⟨v1, vs1, d1, ds1, p1, q1, rfl, rfl, rfl, h1, r1⟩ := trodAll_cons r0
  obtain ⟨v2, vs2, d2, ds2, p2, q2, rfl, rfl, rfl, h2, r2⟩ := trodAll_cons r1
  obtain ⟨rfl, rfl, rfl⟩ := trodAll_nil r2
  obtain rfl : args = #[v0, v1, v2] := by cases args; simp_all
  obtain ⟨rfl, rfl⟩ := trodVars_none hV
  clear hA0
  obtain ⟨a0, a1, a2, a3, a4, a5, y0, y1, y2, y3, y4, y5, m, rfl, rfl, t0, t1, t2, t3, t4, t5⟩ := open_agg6 Tryd.underlying26 (by kernel_rfl) (by kernel_rfl) (hval 0 26 v0 rfl rfl) h0
  obtain ⟨b0, b1, b2, b3, b4, z0, z1, z2, z3, z4, m', rfl, rfl, u0, u1, u2, u3, u4⟩ := open_agg5 Tryd.underlying29 (by kernel_rfl) (by kernel_rfl) (hval 1 29 v1 rfl rfl) h1
  obtain ⟨n2, rfl, rfl, _, hw2⟩ := open_int Tryd.underlying30 (hval 2 30 v2 rfl rfl) h2
  obtain ⟨inp, ei, _, _⟩ := DataW.trod_int Tryd.underlying3 t0
  obtain rfl := List.head_eq_of_cons_eq ei
  obtain ⟨A1, c1, lat, rfl, hlat, hc1, hr1, _⟩ := field_k112 t1
  obtain ⟨A2, c2, gat, rfl, hgat, hc2, hr2, _⟩ := field_k96 t2
  obtain ⟨A3, c3, out, rfl, hout, hc3, _, hb3⟩ := field_nums (k := .u32) Tryd.underlying24 Tryd.underlying30 (by kernel_rfl) t3
  obtain ⟨A4, c4, bad, rfl, hbad, hc4, _, hb4⟩ := field_nums (k := .u32) Tryd.underlying24 Tryd.underlying30 (by kernel_rfl) t4
  obtain ⟨A5, c5, con, rfl, hcon, hc5, _, hb5⟩ := field_nums (k := .u32) Tryd.underlying24 Tryd.underlying30 (by kernel_rfl) t5
  obtain ⟨E0, k0, l0, rfl, g0, e0, _, s0⟩ := field_strs Tryd.underlying27 Tryd.underlying9 (by kernel_rfl) u0
  obtain ⟨E1, k1, l1, rfl, g1, e1, _, s1⟩ := field_strs Tryd.underlying27 Tryd.underlying9 (by kernel_rfl) u1
  obtain ⟨E2, k2, l2, rfl, g2, e2, _, s2⟩ := field_strs Tryd.underlying27 Tryd.underlying9 (by kernel_rfl) u2
  obtain ⟨E3, k3, l3, rfl, g3, e3, _, s3⟩ := field_strs Tryd.underlying27 Tryd.underlying9 (by kernel_rfl) u3
  obtain ⟨E4, k4, l4, rfl, g4, e4, _, s4⟩ := field_strs Tryd.underlying27 Tryd.underlying9 (by kernel_rfl) u4
  obtain ⟨x, rfl⟩ : ∃ x : Nat, n2 = x := ⟨n2.toNat, by
    simp [Lit.wf, IntKind.min, IntKind.max, IntKind.signed, IntKind.bits] at hw2
    omega⟩
  have hx : x < 4294967296 := by
    simp [Lit.wf, IntKind.min, IntKind.max, IntKind.signed, IntKind.bits] at hw2
    omega
  have hcall := N.finds ⟨inp, A1, c1, lat, A2, c2, gat, A3, c3, out, A4, c4, bad, A5, c5, con⟩ ⟨E0, k0, l0, E1, k1, l1, E2, k2, l2, E3, k3, l3, E4, k4, l4⟩ x hx W ⟨hlat, hc1, hgat, hc2, hout, hc3, hbad, hc4, hcon, hc5⟩ ⟨g0, e0, g1, e1, g2, e2, g3, e3, g4, e4⟩ hG
    ⟨hlat.2.1, hgat.2.1, fun i hi => hr1 _ (getD_in hi), fun i hi => (hr2 _ (getD_in hi)).1⟩
  refine hcall.mono fun e W' ⟨he, bel⟩ => ?_
  subst he
  exact ⟨_, rfl, _, _, _, [], _, [], hW', trodAll_mk1 (shut_bool Tryd.underlying4 _), (trodAll_cons_mk (Below.trod laidOut (by kernel_rfl) (of_decide_eq_true (by kernel_rfl)) h0 bel (trod_below h0)) (trodAll_cons_mk (Below.trod laidOut (by kernel_rfl) (of_decide_eq_true (by kernel_rfl)) h1 bel (trod_below h1)) (trodAll_cons_mk (Below.trod laidOut (by kernel_rfl) (of_decide_eq_true (by kernel_rfl)) h2 bel (trod_below h2)) trodAll_mk0))), rfl, bel.frame _, fun h => by cases h⟩

theorem reads (os : Os) {H : Type} (enc : TypeId × Value → H) : ∃ places, DataW.whole enc Tryd.prog ((laidWorld os).forCall (fun _ _ => 0) ⟨#[], #[.agg #[.int .i64 0, .slice none 0 0, .slice none 0 0, .slice none 0 0, .slice none 0 0, .slice none 0 0], .agg #[.slice none 0 0, .slice none 0 0, .slice none 0 0, .slice none 0 0, .slice none 0 0], .int .u32 0], []⟩).memory Tryd.f3.params.toList Rows.nameFindsSpec.vars false (#[.agg #[.int .i64 0, .slice none 0 0, .slice none 0 0, .slice none 0 0, .slice none 0 0, .slice none 0 0], .agg #[.slice none 0 0, .slice none 0 0, .slice none 0 0, .slice none 0 0, .slice none 0 0], .int .u32 0] : Array Value).toList 8 = some ([.agg [.lit (.int .i64 0), .nil, .nil, .nil, .nil, .nil], .agg [.nil, .nil, .nil, .nil, .nil], .lit (.int .u32 0)], [], places) :=
  ⟨[], by kernel_rfl⟩

set_option maxRecDepth 100000 in
theorem lifted (os : Os) (started : os.Started) (H : Type) (enc : TypeId × Value → H) (F : Stop.Interp) :
    ReturnsInHanded {} Tryd.checked os 3 .any ((OpenSpec.ofChange Rows.nameFindsSpec).preRow enc Tryd.prog Tryd.f3 Rows.nameFindsRow.domain false Rows.nameFindsRow.laid) (((OpenSpec.ofChange Rows.nameFindsSpec).at F).post enc Tryd.prog Tryd.f3 false true false false) := by
  obtain ⟨places, hx⟩ := reads os enc
  refine returnsInHanded_of_row (C := Tryd.checked) (s := OpenSpec.ofChange Rows.nameFindsSpec) own started (by kernel_rfl) Tryd.func3
    (witness_row_atRef (enc := enc) (C := Tryd.checked) false (laidWorld os) #[.agg #[.int .i64 0, .slice none 0 0, .slice none 0 0, .slice none 0 0, .slice none 0 0, .slice none 0 0], .agg #[.slice none 0 0, .slice none 0 0, .slice none 0 0, .slice none 0 0, .slice none 0 0], .int .u32 0] rfl (by kernel_rfl) (by kernel_rfl) (by kernel_rfl)
      (OpenSpec.preRow_of_cond 8 hx (by kernel_rfl) (fun k hk => by cases hk) (by kernel_rfl) (laid_met os _))) ?_
  intro W base args ds gs before hval hW _ _ _ hL hsh _
  exact contract H enc W base args ds gs before hval hW (glob_of hL hsh)

theorem said : Rows.NameFindsSaid :=
  OpenClaim.holds_of_cond 3 Tryd.f3 rfl rfl rfl rfl rfl rfl rfl ⟨rfl, rfl, rfl, rfl, rfl⟩ rfl rfl rfl rfl rfl (by kernel_rfl) Tryd.func3 (by kernel_rfl)
    (of_decide_eq_true (by kernel_rfl)) (by unfold Func.isWrapper; first | (rw [if_pos (by decide +kernel)]; kernel_rfl) | (rw [if_neg (by decide +kernel)]; exact ⟨rfl, rfl⟩))
    (fun os started H enc _ F => by rw [OpenClaim.pre_eq_preRow]; exact lifted os started H enc F)

theorem plain (f : FuncId) (fn : Func) (hf : Tryd.pinned.checked.prog.funcNamed "inquest/inquestlaw21.NameFinds" = some f) (hfn : Tryd.pinned.checked.prog.funcs[f]? = some fn) :
    true = Tryd.pinned.checked.prog.looks [] ∧ ∀ (j : Nat) t, fn.params[j]? = some t → Tryd.pinned.checked.prog.wantsStandIn t = false := by
  obtain rfl : f = 3 := Option.some.inj ((show Tryd.prog.funcNamed "inquest/inquestlaw21.NameFinds" = some 3 by kernel_rfl).symm.trans hf) |>.symm
  obtain rfl : fn = Tryd.f3 := (Option.some.inj (Tryd.func3.symm.trans hfn)).symm
  refine ⟨by kernel_rfl, fun j t ht => ?_⟩
  rw [Tryd.params3] at ht
  have hm := Array.mem_of_getElem? ht
  simp only [List.mem_toArray, List.mem_cons, List.not_mem_nil, or_false] at hm
  rcases hm with rfl | rfl | rfl
  · exact (show Tryd.prog.wantsStandIn 26 = false by kernel_rfl)
  · exact (show Tryd.prog.wantsStandIn 29 = false by kernel_rfl)
  · exact (show Tryd.prog.wantsStandIn 30 = false by kernel_rfl)

theorem card : Rows.NameFindsCardSaid :=
  Claim7.holds_tied_plain_at .later [] _ _ _ _ said (fun _ h => by cases h) (by kernel_rfl) (fun _ h => by cases h) nameFinds_row_tie rfl ⟨rfl, rfl⟩ (by kernel_rfl) rfl plain (by kernel_rfl)
end Go.Proofs.YtfdemglcjfdodaaDoor.nameFinds
