/-
  Whatever the circuit and the names: own names find their signals, no other number does.
  Conditions: the listed variables hold what the text of the program lays.
-/
import Derived.Test.YtfdemglcjfdodaaDoorCards
import Derived.Test.YtfdemglcjfdodaaDoorTie
import Derived.Test.YtfdemglcjfdodaaDoorOpenName
import Derived.Test.YtfdemglcjfdodaaDoorNOwns
import Derived.Test.YtfdemglcjfdodaaDoorNameFinds
import Derived.WalkKit
namespace Go.Proofs.YtfdemglcjfdodaaDoor.nameOwn
open Go.ChangeShapes Go.WideShapes Go.ChangeAt Go.RowKit Go.Deep Go.Proofs.YtfdemglcjfdodaaDoorW.PrintWords Go.Proofs.YtfdemglcjfdodaaDoorW.PrintLast N
set_option linter.unusedVariables false

set_option maxRecDepth 100000 in
theorem contract (H : Type) (enc : TypeId × Value → H) (W : World) (base : Nat) (args : Array Value) (ds gs : List (DataW H)) (before : List MemPlace)
    (hval : ∀ (j : Nat) t v, Tryd.f4.params[j]? = some t → args[j]? = some v → Value.okWide Tryd.prog W .any base t v)
    (hW : DataW.Whole enc Tryd.prog Tryd.f4.params.toList Rows.nameOwnSpec.vars false W args.toList ds gs before) (hG : Glob W) :
    Calls Tryd.prog 4 args W fun e W' => ∃ v, e = .returned v ∧ Rows.nameOwnSpec.post enc Tryd.prog Tryd.f4 false true false false W args v W' := by
  have hW' := hW
  obtain ⟨p, q, hA0, hV, rfl, hfz, hnd⟩ := hW
  have hA : DataW.TrodAll enc Tryd.prog W 0 (fun _ => true) true Tryd.f4.params.toList args.toList ds p := hA0
  rw [Tryd.params4] at hA hval
  obtain ⟨v0, vs0, d0, ds0, p0, q0, hargs, rfl, rfl, h0, r0⟩ := trodAll_cons hA
  obtain ⟨v1, vs1, d1, ds1, p1, q1, rfl, rfl, rfl, h1, r1⟩ := trodAll_cons r0
  obtain ⟨v2, vs2, d2, ds2, p2, q2, rfl, rfl, rfl, h2, r2⟩ := trodAll_cons r1
  obtain ⟨v3, vs3, d3, ds3, p3, q3, rfl, rfl, rfl, h3, r3⟩ := trodAll_cons r2
  obtain ⟨rfl, rfl, rfl⟩ := trodAll_nil r3
  obtain rfl : args = #[v0, v1, v2, v3] := by cases args; simp_all
  obtain ⟨rfl, rfl⟩ := trodVars_none hV
  clear hA0
  obtain ⟨a0, a1, a2, a3, a4, a5, y0, y1, y2, y3, y4, y5, m, rfl, rfl, t0, t1, t2, t3, t4, t5⟩ := open_agg6 Tryd.underlying26 (by kernel_rfl) (by kernel_rfl) (hval 0 26 v0 rfl rfl) h0
  obtain ⟨b0, b1, b2, b3, b4, z0, z1, z2, z3, z4, m', rfl, rfl, u0, u1, u2, u3, u4⟩ := open_agg5 Tryd.underlying29 (by kernel_rfl) (by kernel_rfl) (hval 1 29 v1 rfl rfl) h1
  obtain ⟨n2, rfl, rfl, _, hw2⟩ := open_int Tryd.underlying5 (hval 2 5 v2 rfl rfl) h2
  obtain ⟨n3, rfl, rfl, _, hw3⟩ := open_int Tryd.underlying42 (hval 3 42 v3 rfl rfl) h3
  obtain ⟨inp, ei, _, _⟩ := DataW.trod_int Tryd.underlying3 t0
  obtain rfl := List.head_eq_of_cons_eq ei
  obtain ⟨A1, c1, lat, rfl, hlat, hc1, hr1, _⟩ := nameFinds.field_k112 t1
  obtain ⟨A2, c2, gat, rfl, hgat, hc2, hr2, _⟩ := nameFinds.field_k96 t2
  obtain ⟨A3, c3, out, rfl, hout, hc3, _, hb3⟩ := field_nums (k := .u32) Tryd.underlying24 Tryd.underlying30 (by kernel_rfl) t3
  obtain ⟨A4, c4, bad, rfl, hbad, hc4, _, hb4⟩ := field_nums (k := .u32) Tryd.underlying24 Tryd.underlying30 (by kernel_rfl) t4
  obtain ⟨A5, c5, con, rfl, hcon, hc5, _, hb5⟩ := field_nums (k := .u32) Tryd.underlying24 Tryd.underlying30 (by kernel_rfl) t5
  obtain ⟨E0, k0, l0, rfl, g0, e0, _, s0⟩ := field_strs Tryd.underlying27 Tryd.underlying9 (by kernel_rfl) u0
  obtain ⟨E1, k1, l1, rfl, g1, e1, _, s1⟩ := field_strs Tryd.underlying27 Tryd.underlying9 (by kernel_rfl) u1
  obtain ⟨E2, k2, l2, rfl, g2, e2, _, s2⟩ := field_strs Tryd.underlying27 Tryd.underlying9 (by kernel_rfl) u2
  obtain ⟨E3, k3, l3, rfl, g3, e3, _, s3⟩ := field_strs Tryd.underlying27 Tryd.underlying9 (by kernel_rfl) u3
  obtain ⟨E4, k4, l4, rfl, g4, e4, _, s4⟩ := field_strs Tryd.underlying27 Tryd.underlying9 (by kernel_rfl) u4
  obtain ⟨x, rfl⟩ : ∃ x : Nat, n2 = x := ⟨n2.toNat, by
    simp [Lit.wf, IntKind.min, IntKind.max, IntKind.signed, IntKind.bits] at hw2
    omega⟩
  have hx : x < 256 := by
    simp [Lit.wf, IntKind.min, IntKind.max, IntKind.signed, IntKind.bits] at hw2
    omega
  obtain ⟨i, rfl⟩ : ∃ i : Nat, n3 = i := ⟨n3.toNat, by
    simp [Lit.wf, IntKind.min, IntKind.max, IntKind.signed, IntKind.bits] at hw3
    omega⟩
  have hi : i < 65536 := by
    simp [Lit.wf, IntKind.min, IntKind.max, IntKind.signed, IntKind.bits] at hw3
    omega
  have hcall := N.owns ⟨inp, A1, c1, lat, A2, c2, gat, A3, c3, out, A4, c4, bad, A5, c5, con⟩ ⟨E0, k0, l0, E1, k1, l1, E2, k2, l2, E3, k3, l3, E4, k4, l4⟩ x hx i hi W ⟨hlat, hc1, hgat, hc2, hout, hc3, hbad, hc4, hcon, hc5⟩ ⟨g0, e0, g1, e1, g2, e2, g3, e3, g4, e4⟩ hG
    ⟨hlat.2.1, hgat.2.1, fun i hi => hr1 _ (nameFinds.getD_in hi), fun i hi => (hr2 _ (nameFinds.getD_in hi)).1⟩
  refine hcall.mono fun e W' ⟨he, bel⟩ => ?_
  subst he
  exact ⟨_, rfl, _, _, _, [], _, [], hW', trodAll_mk1 (shut_bool Tryd.underlying4 _), (trodAll_cons_mk (Below.trod laidOut (by kernel_rfl) (of_decide_eq_true (by kernel_rfl)) h0 bel (trod_below h0)) (trodAll_cons_mk (Below.trod laidOut (by kernel_rfl) (of_decide_eq_true (by kernel_rfl)) h1 bel (trod_below h1)) (trodAll_cons_mk (Below.trod laidOut (by kernel_rfl) (of_decide_eq_true (by kernel_rfl)) h2 bel (trod_below h2)) (trodAll_cons_mk (Below.trod laidOut (by kernel_rfl) (of_decide_eq_true (by kernel_rfl)) h3 bel (trod_below h3)) trodAll_mk0)))), rfl, bel.frame _, fun h => by cases h⟩

theorem reads (os : Os) {H : Type} (enc : TypeId × Value → H) : ∃ places, DataW.whole enc Tryd.prog ((laidWorld os).forCall (fun _ _ => 0) ⟨#[], #[.agg #[.int .i64 0, .slice none 0 0, .slice none 0 0, .slice none 0 0, .slice none 0 0, .slice none 0 0], .agg #[.slice none 0 0, .slice none 0 0, .slice none 0 0, .slice none 0 0, .slice none 0 0], .int .u8 0, .int .u16 0], []⟩).memory Tryd.f4.params.toList Rows.nameOwnSpec.vars false (#[.agg #[.int .i64 0, .slice none 0 0, .slice none 0 0, .slice none 0 0, .slice none 0 0, .slice none 0 0], .agg #[.slice none 0 0, .slice none 0 0, .slice none 0 0, .slice none 0 0, .slice none 0 0], .int .u8 0, .int .u16 0] : Array Value).toList 8 = some ([.agg [.lit (.int .i64 0), .nil, .nil, .nil, .nil, .nil], .agg [.nil, .nil, .nil, .nil, .nil], .lit (.int .u8 0), .lit (.int .u16 0)], [], places) :=
  ⟨[], by kernel_rfl⟩

set_option maxRecDepth 100000 in
theorem lifted (os : Os) (started : os.Started) (H : Type) (enc : TypeId × Value → H) (F : Stop.Interp) :
    ReturnsInHanded {} Tryd.checked os 4 .any ((OpenSpec.ofChange Rows.nameOwnSpec).preRow enc Tryd.prog Tryd.f4 Rows.nameOwnRow.domain false Rows.nameOwnRow.laid) (((OpenSpec.ofChange Rows.nameOwnSpec).at F).post enc Tryd.prog Tryd.f4 false true false false) := by
  obtain ⟨places, hx⟩ := reads os enc
  refine returnsInHanded_of_row (C := Tryd.checked) (s := OpenSpec.ofChange Rows.nameOwnSpec) own started (by kernel_rfl) Tryd.func4
    (witness_row_atRef (enc := enc) (C := Tryd.checked) false (laidWorld os) #[.agg #[.int .i64 0, .slice none 0 0, .slice none 0 0, .slice none 0 0, .slice none 0 0, .slice none 0 0], .agg #[.slice none 0 0, .slice none 0 0, .slice none 0 0, .slice none 0 0, .slice none 0 0], .int .u8 0, .int .u16 0] rfl (by kernel_rfl) (by kernel_rfl) (by kernel_rfl)
      (OpenSpec.preRow_of_cond 8 hx (by kernel_rfl) (fun k hk => by cases hk) (by kernel_rfl) (laid_met os _))) ?_
  intro W base args ds gs before hval hW _ _ _ hL hsh _
  exact contract H enc W base args ds gs before hval hW (glob_of hL hsh)

theorem said : Rows.NameOwnSaid :=
  OpenClaim.holds_of_cond 4 Tryd.f4 rfl rfl rfl rfl rfl rfl rfl ⟨rfl, rfl, rfl, rfl, rfl⟩ rfl rfl rfl rfl rfl (by kernel_rfl) Tryd.func4 (by kernel_rfl)
    (of_decide_eq_true (by kernel_rfl)) (by unfold Func.isWrapper; first | (rw [if_pos (by decide +kernel)]; kernel_rfl) | (rw [if_neg (by decide +kernel)]; exact ⟨rfl, rfl⟩))
    (fun os started H enc _ F => by rw [OpenClaim.pre_eq_preRow]; exact lifted os started H enc F)

theorem plain (f : FuncId) (fn : Func) (hf : Tryd.pinned.checked.prog.funcNamed "inquest/inquestlaw21.NameOwn" = some f) (hfn : Tryd.pinned.checked.prog.funcs[f]? = some fn) :
    true = Tryd.pinned.checked.prog.looks [] ∧ ∀ (j : Nat) t, fn.params[j]? = some t → Tryd.pinned.checked.prog.wantsStandIn t = false := by
  obtain rfl : f = 4 := Option.some.inj ((show Tryd.prog.funcNamed "inquest/inquestlaw21.NameOwn" = some 4 by kernel_rfl).symm.trans hf) |>.symm
  obtain rfl : fn = Tryd.f4 := (Option.some.inj (Tryd.func4.symm.trans hfn)).symm
  refine ⟨by kernel_rfl, fun j t ht => ?_⟩
  rw [Tryd.params4] at ht
  have hm := Array.mem_of_getElem? ht
  simp only [List.mem_toArray, List.mem_cons, List.not_mem_nil, or_false] at hm
  rcases hm with rfl | rfl | rfl | rfl
  · exact (show Tryd.prog.wantsStandIn 26 = false by kernel_rfl)
  · exact (show Tryd.prog.wantsStandIn 29 = false by kernel_rfl)
  · exact (show Tryd.prog.wantsStandIn 5 = false by kernel_rfl)
  · exact (show Tryd.prog.wantsStandIn 42 = false by kernel_rfl)

theorem card : Rows.NameOwnCardSaid :=
  Claim7.holds_tied_plain_at .later [] _ _ _ _ said (fun _ h => by cases h) (by kernel_rfl) (fun _ h => by cases h) nameOwn_row_tie rfl ⟨rfl, rfl⟩ (by kernel_rfl) rfl plain (by kernel_rfl)
end Go.Proofs.YtfdemglcjfdodaaDoor.nameOwn
