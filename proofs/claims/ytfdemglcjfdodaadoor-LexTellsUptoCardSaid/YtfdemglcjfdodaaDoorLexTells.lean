/-
  The first line of any bytes, the words and the numbers of any line, any number, and any line of numbers are the document's, or its error.
  Conditions: arguments of bulk at most 1048576; the listed variables hold what the text of the program lays.
-/
import Derived.Test.YtfdemglcjfdodaaDoorCards
import Derived.Test.YtfdemglcjfdodaaDoorTie
import Derived.Test.YtfdemglcjfdodaaDoorOpen
import Derived.Test.YtfdemglcjfdodaaDoorPureTellsC
import Derived.WalkKit
namespace Go.Proofs.YtfdemglcjfdodaaDoor.lexTells
open Go.ChangeShapes Go.WideShapes Go.ChangeAt Go.RowKit Go.Proofs.YtfdemglcjfdodaaDoorW.PrintWords Go.Proofs.YtfdemglcjfdodaaDoorW.PrintLast

theorem facts (L0 L1 : List UInt8) (s : ByteArray) (least many most : Int) (l : List Int) (h0 : L0.length ≤ 1048576) (h1 : L1.length ≤ 1048576) (hs : s.size ≤ 1048576) (hm : 0 ≤ most ∧ most < 4294967296) (hl : l.length ≤ 1048576) (hw : ∀ x ∈ l, 0 ≤ x ∧ x < 4294967296)
    (A0 : Option Addr) (c0 : Nat) (A1 : Option Addr) (c1 : Nat) (A6 : Option Addr) (c6 : Nat) (w : World) (hr0 : Kd.C (Kd.int .u8) w A0 (Pure.ints L0).length (Pure.ints L0)) (hc0 : (Pure.ints L0).length ≤ c0) (hr1 : Kd.C (Kd.int .u8) w A1 (Pure.ints L1).length (Pure.ints L1)) (hc1 : (Pure.ints L1).length ≤ c1)
    (hr6 : Kd.C (Kd.int .u32) w A6 l.length l) (hc6 : l.length ≤ c6) (hG : Glob w) :
    Calls Tryd.prog 5 #[.slice A0 (Pure.ints L0).length c0, .slice A1 (Pure.ints L1).length c1, .string s, .int .i64 least, .int .i64 many, .int .u32 most, .slice A6 l.length c6] w fun e w' => e = .returned (.bool true) ∧ Below w.heap.size w w' := by
  obtain ⟨k, hk⟩ : ∃ k, 9000000 < k := ⟨9000001, by decide⟩
  have e0 := Pure.ints_length L0
  have e1 := Pure.ints_length L1
  obtain ⟨r1, r2, r3, hL, hL'⟩ := Pure.line_both L0 h0
  obtain ⟨ns, nse, hS, hS', hns⟩ := Pure.numbers_all L1 h1 least many most hm.1 hm.2 k hk
  have hpl := Pure.pieces_le L1
  have hwl : (Pure.wordsOf L1).1.length ≤ 1048577 := by
    unfold Pure.wordsOf
    split
    · exact Nat.zero_le _
    · split
      · show (Pure.pieces L1).length ≤ _
        omega
      · exact Nat.zero_le _
  have hWW : R.inquestlaw01_words.f k (Pure.wordsOf L1).1 (Pure.wordsOf L1).1 = some true := by
    unfold R.inquestlaw01_words.f
    rw [if_pos rfl]
    exact Pure.words_same _ (by omega) _ k 0 (Nat.zero_le _) rfl (by omega)
  have hSS : Q.inquestref00_Numbers.f k ns ns = some true := by
    unfold Q.inquestref00_Numbers.f
    rw [if_pos rfl]
    exact Pure.numbers_same ns.length k ns rfl (by omega)
  have hY : R.inquestref01_Write.f k (Pure.ints L0) l = some (Pure.ints L0 ++ Q.joinNums l ++ [10]) := by
    unfold R.inquestref01_Write.f
    exact Pure.write_loop (Pure.ints L0) l hl hw (by omega) l.length k 0 _ (Nat.zero_le _) rfl (by omega) (by rw [Pure.bytes_ints]; simp [Q.joinNums])
  exact R.tells k A0 c0 (Pure.ints L0) A1 c1 (Pure.ints L1) s least many most A6 c6 l w hr0 hc0 hr1 hc1 hr6 hc6 hG (by omega) (by omega) hl hw r1 r2 r1 r2 r3 hL hL' (Pure.bytes_same r1) (Pure.bytes_same r2)
    (Pure.wordsOf L1).1 (Pure.wordsOf L1).2 (Pure.lex_words L1 h1 k (by omega)) (Pure.ref_words L1 h1 k (by omega)) hWW
    (Pure.numOf s.data.toList most).1 (Pure.numOf s.data.toList most).2 (Pure.lex_number s most (by omega) hm.2) (Pure.ref_number s most (by omega) hm.1 hm.2 k (by omega))
    ns nse hS hS' hSS (Pure.ints L0 ++ Q.joinNums l ++ [10]) hY (Pure.bytes_same _) (Pure.lives_true k (by omega))

set_option maxRecDepth 100000 in
theorem contract (H : Type) (enc : TypeId × Value → H) (W : World) (base : Nat) (args : Array Value) (ds gs : List (DataW H)) (before : List MemPlace)
    (hval : ∀ (j : Nat) t v, Tryd.f5.params[j]? = some t → args[j]? = some v → Value.okWide Tryd.prog W .any base t v)
    (hW : DataW.Whole enc Tryd.prog Tryd.f5.params.toList Rows.lexTellsSpec.vars false W args.toList ds gs before) (hk : Rows.uptoSmall H (ds ++ gs) = true) (hG : Glob W) :
    Calls Tryd.prog 5 args W fun e W' => ∃ v, e = .returned v ∧ Rows.lexTellsSpec.post enc Tryd.prog Tryd.f5 false true false false W args v W' := by
  have hW' := hW
  obtain ⟨p, q, hA0, hV, rfl, hfz, hnd⟩ := hW
  have hA : DataW.TrodAll enc Tryd.prog W 0 (fun _ => true) true Tryd.f5.params.toList args.toList ds p := hA0
  rw [Tryd.params5] at hA hval
  obtain ⟨v0, vs0, d0, ds0, p0, q0, hargs, rfl, rfl, h0, r0⟩ := trodAll_cons hA
  obtain ⟨v1, vs1, d1, ds1, p1, q1, rfl, rfl, rfl, h1, r1⟩ := trodAll_cons r0
  obtain ⟨v2, vs2, d2, ds2, p2, q2, rfl, rfl, rfl, h2, r2⟩ := trodAll_cons r1
  obtain ⟨v3, vs3, d3, ds3, p3, q3, rfl, rfl, rfl, h3, r3⟩ := trodAll_cons r2
  obtain ⟨v4, vs4, d4, ds4, p4, q4, rfl, rfl, rfl, h4, r4⟩ := trodAll_cons r3
  obtain ⟨v5, vs5, d5, ds5, p5, q5, rfl, rfl, rfl, h5, r5⟩ := trodAll_cons r4
  obtain ⟨v6, vs6, d6, ds6, p6, q6, rfl, rfl, rfl, h6, r6⟩ := trodAll_cons r5
  obtain ⟨rfl, rfl, rfl⟩ := trodAll_nil r6
  obtain rfl : args = #[v0, v1, v2, v3, v4, v5, v6] := by cases args; simp_all
  obtain ⟨rfl, rfl⟩ := trodVars_none hV
  have hb := bulk_le hk
  simp only [List.append_nil, Rows.uptoBulkAll] at hb
  obtain ⟨A0, c0, l0, rfl, hr0, hc0, hw0, hl0⟩ := open_nums (k := .u8) Tryd.underlying43 Tryd.underlying5 (by kernel_rfl) (hval 0 43 v0 rfl rfl) h0
  obtain ⟨A1, c1, l1, rfl, hr1, hc1, hw1, hl1⟩ := open_nums (k := .u8) Tryd.underlying43 Tryd.underlying5 (by kernel_rfl) (hval 1 43 v1 rfl rfl) h1
  obtain ⟨s, rfl⟩ := okWide_string Tryd.underlying9 (hval 2 9 v2 rfl rfl)
  have hds : d2 = .lit (.string s.data.toList) := by
    obtain ⟨fu, hfu⟩ := h2
    obtain ⟨s', he, hx, _⟩ := DataW.trod_string Tryd.underlying9 hfu
    simp [Value.cells] at he
    subst he
    exact (Prod.mk.inj hx).1
  obtain ⟨n3, rfl, _, _, hw3⟩ := open_int Tryd.underlying3 (hval 3 3 v3 rfl rfl) h3
  obtain ⟨n4, rfl, _, _, hw4⟩ := open_int Tryd.underlying3 (hval 4 3 v4 rfl rfl) h4
  obtain ⟨n5, rfl, _, _, hw5⟩ := open_int Tryd.underlying30 (hval 5 30 v5 rfl rfl) h5
  obtain ⟨A6, c6, l6, rfl, hr6, hc6, hw6, hl6⟩ := open_nums (k := .u32) Tryd.underlying24 Tryd.underlying30 (by kernel_rfl) (hval 6 24 v6 rfl rfl) h6
  have hss : s.size ≤ 1048576 := by
    subst hds
    simp only [Rows.uptoBulk] at hb
    have := data_length s
    omega
  obtain ⟨L0, rfl⟩ := Pure.of_bytes (l := l0) (fun x hx => by
    have := hw0 x hx
    simp [Lit.wf, IntKind.min, IntKind.max, IntKind.signed, IntKind.bits] at this
    omega)
  obtain ⟨L1, rfl⟩ := Pure.of_bytes (l := l1) (fun x hx => by
    have := hw1 x hx
    simp [Lit.wf, IntKind.min, IntKind.max, IntKind.signed, IntKind.bits] at this
    omega)
  have hm5 : 0 ≤ n5 ∧ n5 < 4294967296 := by
    simp [Lit.wf, IntKind.min, IntKind.max, IntKind.signed, IntKind.bits] at hw5
    omega
  have hm6 : ∀ x ∈ l6, 0 ≤ x ∧ x < 4294967296 := fun x hx => by
    have := hw6 x hx
    simp [Lit.wf, IntKind.min, IntKind.max, IntKind.signed, IntKind.bits] at this
    omega
  have e0 := Pure.ints_length L0
  have e1 := Pure.ints_length L1
  have hz0 : (Pure.ints L0).length ≤ 1048576 := by omega
  have hz1 : (Pure.ints L1).length ≤ 1048576 := by omega
  have hz6 : l6.length ≤ 1048576 := by omega
  clear hA0
  refine (facts L0 L1 s n3 n4 n5 l6 (by omega) (by omega) hss hm5 hz6 hm6 A0 c0 A1 c1 A6 c6 W hr0 hc0 hr1 hc1 hr6 hc6 hG).mono fun e W' ⟨he, bel⟩ => ?_
  subst he
  exact ⟨_, rfl, _, _, _, [], _, [], hW', trodAll_mk1 (shut_bool Tryd.underlying4 _), trodAll_cons_mk (Below.trod laidOut (by kernel_rfl) (of_decide_eq_true (by kernel_rfl)) h0 bel (trod_below h0)) (trodAll_cons_mk (Below.trod laidOut (by kernel_rfl) (of_decide_eq_true (by kernel_rfl)) h1 bel (trod_below h1)) (trodAll_cons_mk (Below.trod laidOut (by kernel_rfl) (of_decide_eq_true (by kernel_rfl)) h2 bel (trod_below h2)) (trodAll_cons_mk (Below.trod laidOut (by kernel_rfl) (of_decide_eq_true (by kernel_rfl)) h3 bel (trod_below h3)) (trodAll_cons_mk (Below.trod laidOut (by kernel_rfl) (of_decide_eq_true (by kernel_rfl)) h4 bel (trod_below h4)) (trodAll_cons_mk (Below.trod laidOut (by kernel_rfl) (of_decide_eq_true (by kernel_rfl)) h5 bel (trod_below h5)) (trodAll_cons_mk (Below.trod laidOut (by kernel_rfl) (of_decide_eq_true (by kernel_rfl)) h6 bel (trod_below h6)) trodAll_mk0)))))), rfl, bel.frame _, fun h => by cases h⟩

theorem reads (os : Os) {H : Type} (enc : TypeId × Value → H) : ∃ places, DataW.whole enc Tryd.prog ((laidWorld os).forCall (fun _ _ => 0) ⟨#[], #[.slice none 0 0, .slice none 0 0, .string ⟨#[]⟩, .int .i64 0, .int .i64 0, .int .u32 0, .slice none 0 0], []⟩).memory Tryd.f5.params.toList Rows.lexTellsSpec.vars false #[Value.slice none 0 0, Value.slice none 0 0, Value.string ⟨#[]⟩, Value.int .i64 0, Value.int .i64 0, Value.int .u32 0, Value.slice none 0 0].toList 8 = some ([.nil, .nil, .lit (.string []), .lit (.int .i64 0), .lit (.int .i64 0), .lit (.int .u32 0), .nil], [], places) :=
  ⟨[], by kernel_rfl⟩

set_option maxRecDepth 100000 in
theorem lifted (os : Os) (started : os.Started) (H : Type) (enc : TypeId × Value → H) (F : Stop.Interp) :
    ReturnsInHanded {} Tryd.checked os 5 .any ((Rows.OpenSpec.upto Rows.lexTellsSpec).preRow enc Tryd.prog Tryd.f5 Rows.lexTellsUptoRow.domain false Rows.lexTellsUptoRow.laid) (((Rows.OpenSpec.upto Rows.lexTellsSpec).at F).post enc Tryd.prog Tryd.f5 false true false false) := by
  obtain ⟨places, hx⟩ := reads os enc
  refine returnsInHanded_of_row (C := Tryd.checked) (s := Rows.OpenSpec.upto Rows.lexTellsSpec) own started (by kernel_rfl) Tryd.func5
    (witness_row_atRef (enc := enc) (C := Tryd.checked) false (laidWorld os) #[.slice none 0 0, .slice none 0 0, .string ⟨#[]⟩, .int .i64 0, .int .i64 0, .int .u32 0, .slice none 0 0] rfl (by kernel_rfl) (by kernel_rfl) (by kernel_rfl)
      (OpenSpec.preRow_of_cond 8 hx (by kernel_rfl) (fun k hk => by cases hk; kernel_rfl) (by kernel_rfl) (laid_met os _))) ?_
  intro W base args ds gs before hval hW _ hcond _ hL hsh _
  exact contract H enc W base args ds gs before hval hW (hcond _ rfl) (glob_of hL hsh)

theorem said : Rows.LexTellsUptoSaid :=
  OpenClaim.holds_of_cond 5 Tryd.f5 rfl rfl rfl rfl rfl rfl rfl ⟨rfl, rfl, rfl, rfl, rfl⟩ rfl rfl rfl rfl rfl (by kernel_rfl) Tryd.func5 (by kernel_rfl)
    (of_decide_eq_true (by kernel_rfl)) (by unfold Func.isWrapper; first | (rw [if_pos (by decide +kernel)]; kernel_rfl) | (rw [if_neg (by decide +kernel)]; exact ⟨rfl, rfl⟩))
    (fun os started H enc _ F => by rw [OpenClaim.pre_eq_preRow]; exact lifted os started H enc F)

theorem plain (f : FuncId) (fn : Func) (hf : Tryd.pinned.checked.prog.funcNamed "inquest/inquestlaw01.LexTells" = some f) (hfn : Tryd.pinned.checked.prog.funcs[f]? = some fn) :
    true = Tryd.pinned.checked.prog.looks [] ∧ ∀ (j : Nat) t, fn.params[j]? = some t → Tryd.pinned.checked.prog.wantsStandIn t = false := by
  obtain rfl : f = 5 := Option.some.inj ((show Tryd.prog.funcNamed "inquest/inquestlaw01.LexTells" = some 5 by kernel_rfl).symm.trans hf) |>.symm
  obtain rfl : fn = Tryd.f5 := (Option.some.inj (Tryd.func5.symm.trans hfn)).symm
  refine ⟨by kernel_rfl, fun j t ht => ?_⟩
  rw [Tryd.params5] at ht
  have hm := Array.mem_of_getElem? ht
  simp only [List.mem_toArray, List.mem_cons, List.not_mem_nil, or_false] at hm
  rcases hm with rfl | rfl | rfl | rfl | rfl | rfl | rfl
  · exact (show Tryd.prog.wantsStandIn 43 = false by kernel_rfl)
  · exact (show Tryd.prog.wantsStandIn 43 = false by kernel_rfl)
  · exact (show Tryd.prog.wantsStandIn 9 = false by kernel_rfl)
  · exact (show Tryd.prog.wantsStandIn 3 = false by kernel_rfl)
  · exact (show Tryd.prog.wantsStandIn 3 = false by kernel_rfl)
  · exact (show Tryd.prog.wantsStandIn 30 = false by kernel_rfl)
  · exact (show Tryd.prog.wantsStandIn 24 = false by kernel_rfl)

theorem card : Rows.LexTellsUptoCardSaid :=
  Claim7.holds_tied_plain_at .later [] _ _ _ _ said (fun _ h => by cases h) (by kernel_rfl) (fun _ h => by cases h) lexTellsUpto_row_tie rfl ⟨rfl, rfl⟩ (by kernel_rfl) rfl plain (by kernel_rfl)
end Go.Proofs.YtfdemglcjfdodaaDoor.lexTells
