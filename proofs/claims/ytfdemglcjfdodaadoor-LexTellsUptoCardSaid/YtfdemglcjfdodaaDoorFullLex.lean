/-
  bytes.Clone, strconv.AppendUint, lex.Line and lex.Write, once more: every cell of what they make is a byte.
-/
import Derived.Test.YtfdemglcjfdodaaDoorFull
import Derived.Test.YtfdemglcjfdodaaDoorPlainLex
namespace Go.Proofs.YtfdemglcjfdodaaDoor.R
open Go.RowKit Go.Shelf Go.Sort Go.Proofs.YtfdemglcjfdodaaDoorW.PrintWords Go.Proofs.YtfdemglcjfdodaaDoorW.PrintLast Go.Proofs.YtfdemglcjfdodaaDoorW.PrintMore
set_option linter.unusedVariables false


set_option maxRecDepth 100000 in
theorem clone_full (A : Option Addr) (n c : Nat) (l : List Int) (w : World) (hn : l.length = n) (hr : Kd.C (Kd.int .u8) w A n l) (hl : n ≤ 140737488355328) :
    Calls Tryd.prog 57 #[.slice A n c] w fun e w' => ∃ v : Value, e = .returned v ∧ w'.ownsRow w.heap.size 5 1 v l.length (nums .u8 l) ∧ Full w' v ∧ Below w.heap.size w w' := by
  subst hn
  have hrd : ReadsOf (Value.int .u8) (0 : Int) w A l.length l := Kd.reads_of_C hr
  cases A with
  | none =>
    have h0 : l = [] := by
      rcases Nat.eq_zero_or_pos l.length with h | h
      · exact List.eq_nil_of_length_eq_zero h
      · obtain ⟨ad, he, _⟩ := hrd.2.2 h
        cases he
    subst h0
    refine (Tryd.bytes_Clone_nil _ c w).mono ?_
    rintro e w' ⟨rfl, rfl⟩
    exact ⟨_, rfl, World.ownsRow_nil _ _ _ _, Full.nil _, Below.refl _ _⟩
  | some a =>
    have HR := Aside0.mk hr
    obtain ⟨i0, hi, hz0, hz1, hz2⟩ := info_parts Q.info5
    have hnews : ∀ j u, (nums .u8 l)[j]? = some u → (w.alloc (.cells #[] 5)).cell? (a.add j) = some u := by
      intro j u hj
      have hlt : j < l.length := by
        have := (List.getElem?_eq_some_iff.1 hj).1
        simpa [nums] using this
      obtain ⟨ad, he, hc⟩ := hrd.2.2 (by omega)
      obtain rfl := Option.some.inj he
      have hcj := hc j hlt
      have : u = .int .u8 (l.getD j 0) := by
        simp [nums, List.getElem?_eq_getElem hlt] at hj
        rw [← hj, List.getD_eq_getElem?_getD, List.getElem?_eq_getElem hlt]; rfl
      rw [this]
      have hb := World.block_lt_of_cell? w _ hcj
      rw [← hcj]
      exact World.cell?_of_block (by first | exact heap_alloc_old w _ hb | exact Go.heap_alloc_old w _ _ hb)
    have HN := Aside0.mk hnews
    have HI := Aside0.mk hi
    have HZ := Aside0.mk (And.intro hz0 (And.intro hz1 hz2))
    clear hnews hrd hr hi hz0 hz1 hz2
    have q22 : ∀ (w : World) (a : Option Addr) (n c n' c' : Nat), (binOp .eql 43 (.slice a n c) (.slice none n' c')).run Tryd.prog w = .ok (.bool a.isNone) w := fun w a n c n' c' => Lib.run_eql_slice_nil w _ _ a n c n' c' Tryd.underlying43
    go_enter Tryd.func57, Tryd.ntmps57
    have HL := Aside0.mk hl
    go_wp2_with (first | ((with_reducible refine gate_builtin (b := .append) (xs := #[.tmp 5, .tmp 6]) rfl ?_); at_builtin; refine wpList_append_full _ rfl _ _ 43 rfl w.heap.size 5 i0 Tryd.underlying43 HI.out HZ.out.1 HZ.out.2.1 HZ.out.2.2 _ 0 [] rfl (World.ownsRow_made w #[] 0 (Nat.le_refl _) (by decide) (by simp)) (Full.new (by intro x hx; cases hx)) (by intro x hx; cases hx) a l.length c (nums .u8 l) rfl (by simp [nums]) HN.out (AllBytes.of_nums l) ?c3 ?c4 ?c5 ?_; (case c3 => have := HL.out; unfold maxLen; omega); (case c4 => have := HL.out; omega); (case c5 => simp); intro v2 w3 ho hg hf; have HO := Aside0.mk ho; have HG := Aside0.mk hg; have HF := Aside0.mk hf; clear ho hg hf))
    go_ret
    refine ⟨v2, rfl, by simpa using HO.out, HF.out, ?_⟩
    exact (below_alloc (Below.refl _ _) _).grown HG.out (by simp) (fun k hk => by cases hk; exact Nat.le_refl _)
set_option maxHeartbeats 6400000 in
set_option maxRecDepth 100000 in
theorem app_small (B u : Nat) (hu : u < 100) (sv : Value) (xs : List Value) (n : Nat) (w : World) (hown : w.ownsRow B 5 1 sv n xs) (hF : Full w sv) (hxs : AllBytes xs) (hBw : B ≤ w.heap.size) (hlim : n + 20 ≤ 140737488355328) :
    Calls Tryd.prog 91 #[sv, .int .u64 u, .int .i64 10] w fun e w' => ∃ v', e = .returned v' ∧ w'.ownsRow B 5 1 v' (n + (Lib.decDigits u).length) (xs ++ Lib.byteCells (Lib.decDigits u)) ∧ Full w' v' ∧ Below B w w' := by
  obtain ⟨i0, hi, hz0, hz1, hz2⟩ := info_parts Q.info5
  have hlen : (Lib.decDigits u).length ≤ 20 := Q.decDigits_le 19 u (Nat.lt_of_lt_of_le hu (by decide))
  have hpos : 0 < (Lib.decDigits u).length := Lx.dec_len_pos u
  have hsz : (⟨(Lib.decDigits u).toArray⟩ : ByteArray).size = (Lib.decDigits u).length := by simp [ByteArray.size]
  have HI := Aside0.mk hi
  have HZ := Aside0.mk (And.intro hz0 (And.intro hz1 hz2))
  have HS := Aside0.mk hsz
  have HL := Aside0.mk (And.intro hlen (And.intro hpos (And.intro hBw hlim)))
  have HO := Aside0.mk hown
  have HF := Aside0.mk hF
  have HX := Aside0.mk hxs
  have hu2 : (u : Int) < 100 := by omega
  clear hi hz0 hz1 hz2 hlen hpos hsz hBw hlim hown hF hxs
  go_enter Tryd.func91, Tryd.ntmps91
  go_wp2_with (first
    | (go_at_call 113; refine (Any.internal_strconv_small { Tryd.laysM288 with } u hu _).mono ?_; rintro e w' ⟨rfl, rfl⟩)
    | ((with_reducible refine gate_builtin (b := .append) (xs := #[.tmp 13, .tmp 16]) rfl ?_); at_builtin; refine wpList_append_full_string _ rfl _ _ 43 9 rfl B 5 i0 Tryd.underlying43 Tryd.underlying9 HI.out HZ.out.1 HZ.out.2.1 HZ.out.2.2 _ _ _ rfl HO.out HF.out HX.out ⟨(Lib.decDigits u).toArray⟩ rfl ?c0 ?c1 ?c2 ?c3 ?_; (case c0 => rw [HS.out]; exact HL.out.2.1); (case c1 => have := HL.out; rw [HS.out]; unfold maxLen; omega); (case c2 => have := HL.out; rw [HS.out]; omega); (case c3 => exact HL.out.2.2.1); intro v2 w3 ho hg hf; have HO2 := Aside0.mk ho; have HG2 := Aside0.mk hg; have HF2 := Aside0.mk hf; clear ho hg hf))
  go_ret
  have ho := HO2.out
  rw [HS.out] at ho
  exact ⟨v2, rfl, ho, HF2.out, (Below.refl B _).grown HG2.out HL.out.2.2.1 (fun k hk => (HO.out.lt k hk).1)⟩
theorem allBytes_byteCells (l : List UInt8) : AllBytes (Lib.byteCells l) := by
  intro x hx
  simp [Lib.byteCells] at hx
  obtain ⟨y, _, rfl⟩ := hx
  exact ⟨_, rfl⟩
theorem big_facts {B u n : Nat} {sv : Value} {xs : List Value} {w W2 : World} {k v' : Nat} {dk : Array UInt8}
    (eo : W2 = (putRow (fun (b : UInt8) => Value.int .u8 (b.toNat : Int)) (w.alloc (.cells Lib.zeros24 165)) w.heap.size 0 dk).drewN k) (hFI : Lib.FmtInv (Lib.nDigits u) u 0 v' dk)
    (hH0 : Holds (fun (b : UInt8) => Value.int .u8 (b.toNat : Int)) (w.alloc (.cells Lib.zeros24 165)) w.heap.size 0 (Array.replicate (Lib.nDigits u) 0))
    (hown : w.ownsRow B 5 1 sv n xs) (hF : Full w sv) (hBw : B ≤ w.heap.size) :
    (∀ j u', (Lib.byteCells (Lib.decDigits u))[j]? = some u' → W2.cell? ((⟨w.heap.size, 0, none⟩ : Addr).add j) = some u') ∧ W2.ownsRow B 5 1 sv n xs ∧ Full W2 sv ∧ Below B w W2 ∧ w.heap.size ≤ W2.heap.size := by
  obtain ⟨os, e2⟩ := Lib.fin_at w (.cells Lib.zeros24 165) dk k 0
  refine ⟨?_, ?_, ?_, ?_, ?_⟩
  · intro j u' hj
    rw [eo]
    have hjl : j < (Lib.decDigits u).length := by
      have h5 := (List.getElem?_eq_some_iff.1 hj).1
      rwa [Lib.byteCells_length] at h5
    have e5 : (Lib.byteCells (Lib.decDigits u))[j]? = some (Value.int .u8 ((Lib.decDigits u)[j].toNat : Int)) := by simp [Lib.byteCells, hjl]
    rw [e5] at hj
    cases hj
    rw [Lib.row_is_numeral hFI j hjl, Lib.add_plain, World.cell?_drewN]
    exact cell?_putRow (fun (b : UInt8) => Value.int .u8 (b.toNat : Int)) _ w.heap.size 0 _ dk hH0 (by rw [hFI.size, Array.size_replicate]) j (by rw [hFI.size]; rw [Lib.decDigits_length] at hjl; exact hjl)
  · rw [eo, e2]; exact Lib.ownsRow_grow hown k os
  · rw [eo, e2]; exact hF.below hown (Lib.below_grow w.heap.size w (Nat.le_refl _) k os)
  · rw [eo, e2]; exact Lib.below_grow B w hBw k os
  · rw [eo, e2]; exact Lib.size_grow w k os

set_option maxHeartbeats 12800000 in
set_option maxRecDepth 100000 in
theorem app_big (B u : Nat) (hu : 100 ≤ u) (hu64 : u < 18446744073709551616) (sv : Value) (xs : List Value) (n : Nat) (w : World) (hown : w.ownsRow B 5 1 sv n xs) (hF : Full w sv) (hxs : AllBytes xs) (hBw : B ≤ w.heap.size) (hlim : n + 20 ≤ 140737488355328)
    (htab : Lib.TabIs Tryd.prog w "internal/strconv.uint64pow10" .u64 Lib.pow10Tab) :
    Calls Tryd.prog 91 #[sv, .int .u64 u, .int .i64 10] w fun e w' => ∃ v', e = .returned v' ∧ w'.ownsRow B 5 1 v' (n + (Lib.decDigits u).length) (xs ++ Lib.byteCells (Lib.decDigits u)) ∧ Full w' v' ∧ Below B w w' := by
  obtain ⟨i0, hi, hz0, hz1, hz2⟩ := info_parts Q.info5
  have t165 : Tryd.prog.underlying 165 = some (.array 24 5) := by kernel_rfl
  have hnd20 : Lib.nDigits u ≤ 20 := by have := Lib.numDigits_eq u (by omega) hu64; split at this <;> omega
  have hal : Tryd.prog.arrayLen 165 = 24 := by simp [Program.arrayLen, t165]
  have hsl : ∀ W, (Instr.sliceAt 165 (.pointer (some ⟨w.heap.size, 0, none⟩)) none (some (.int .i64 (Lib.nDigits u : Int))) none).run Tryd.prog W = .ok (.slice (some ⟨w.heap.size, 0, none⟩) (Lib.nDigits u) 24) W := fun W => by
    rw [run_sliceAt_array_h W 165 ⟨w.heap.size, 0, none⟩ (by simp [Program.arrayLen, Program.elem, t165]) .i64 (Lib.nDigits u : Int) (by omega) (by rw [hal]; omega)]
    go_simp
  have hH0 := Lib.holds_zero0 w 165 (Lib.nDigits u) (by omega)
  have hfmt := Any.internal_strconv_formatBase10 { Tryd.laysM288 with } w.heap.size 0 24 u (Array.replicate (Lib.nDigits u) 0) (w.alloc (.cells Lib.zeros24 165)) hH0 (by rw [Array.size_replicate]; exact Lib.lt_pow_nDigits u) hu64 (by rw [Array.size_replicate]; omega)
  rw [Array.size_replicate] at hfmt
  have HH0 := Aside0.mk hH0
  have HFM := Aside0.mk hfmt
  have HI := Aside0.mk hi
  have HZ := Aside0.mk (And.intro hz0 (And.intro hz1 hz2))
  have HL := Aside0.mk (And.intro hnd20 (And.intro hBw hlim))
  have HO := Aside0.mk hown
  have HF := Aside0.mk hF
  have HX := Aside0.mk hxs
  have HT := Aside0.mk htab
  have H64 := Aside0.mk hu64
  have iu : (100 : Int) ≤ (u : Int) := by omega
  have iu2 : decide ((u : Int) < 100) = false := by simp; omega
  clear hi hz0 hz1 hz2 hnd20 hal hH0 hfmt hBw hlim hown hF hxs htab hu64
  go_enter Tryd.func91, Tryd.ntmps91
  go_wp2_with (first
    | (go_at_call 114; refine (Any.internal_strconv_numDigits { Tryd.laysM288 with } u (by omega) H64.out _ (Lib.tabIs_alloc HT.out _)).mono ?_; rintro e w' ⟨rfl, rfl⟩)
    | (go_at_call 115; refine HFM.out.mono ?_; rintro e w2 ⟨rfl, k2, v2', dk, hw, hFI⟩; have HW := Aside0.mk (big_facts hw hFI HH0.out HO.out HF.out HL.out.2.1); clear hw hFI)
    | ((with_reducible refine gate_builtin (b := .append) (xs := #[.tmp 24, .tmp 26]) rfl ?_); at_builtin; refine wpList_append_full _ rfl _ _ 43 rfl B 5 i0 Tryd.underlying43 HI.out HZ.out.1 HZ.out.2.1 HZ.out.2.2 _ _ _ rfl HW.out.2.1 HW.out.2.2.1 HX.out ⟨w.heap.size, 0, none⟩ (Lib.nDigits u) 24 (Lib.byteCells (Lib.decDigits u)) rfl ?c0 HW.out.1 ?c2 ?c3 ?c4 ?c5 ?_; (case c0 => rw [Lib.byteCells_length, Lib.decDigits_length, Nat.mul_one]); (case c2 => exact allBytes_byteCells _); (case c3 => have := HL.out; unfold maxLen; omega); (case c4 => have := HL.out; omega); (case c5 => have := HL.out; have := HW.out.2.2.2.2; omega); intro v2 w3 ho hg hf; have HO3 := Aside0.mk ho; have HG3 := Aside0.mk hg; have HF3 := Aside0.mk hf; clear ho hg hf))
  go_ret
  have ho := HO3.out
  rw [← Lib.decDigits_length] at ho
  have hsz : B ≤ w2.heap.size := by have := HL.out; have := HW.out.2.2.2.2; omega
  exact ⟨v2, rfl, ho, HF3.out, HW.out.2.2.2.1.grown HG3.out hsz (fun k hk => (HW.out.2.1.lt k hk).1)⟩

theorem append_uint_full (B : Nat) (u : Nat) (hu : u < 18446744073709551616) (sv : Value) (xs : List Int) (w : World) (hown : w.ownsRow B 5 1 sv xs.length (nums .u8 xs)) (hF : Full w sv) (hBw : B ≤ w.heap.size) (hlim : xs.length + 20 ≤ 140737488355328) (hG : Glob w) :
    Calls Tryd.prog 61 #[sv, .int .u64 u, .int .i64 10] w fun e w' => ∃ v', e = .returned v' ∧ w'.ownsRow B 5 1 v' (xs ++ Q.numText u).length (nums .u8 (xs ++ Q.numText u)) ∧ Full w' v' ∧ Below B w w' := by
  have key : Calls Tryd.prog 91 #[sv, .int .u64 u, .int .i64 10] w fun e w' => ∃ v', e = .returned v' ∧ w'.ownsRow B 5 1 v' (xs.length + (Lib.decDigits u).length) (nums .u8 xs ++ Lib.byteCells (Lib.decDigits u)) ∧ Full w' v' ∧ Below B w w' := by
    by_cases h : u < 100
    · exact app_small B u h sv (nums .u8 xs) xs.length w hown hF (AllBytes.of_nums xs) hBw hlim
    · exact app_big B u (by omega) hu sv (nums .u8 xs) xs.length w hown hF (AllBytes.of_nums xs) hBw hlim hG.pow10
  have KEY := Aside0.mk key
  clear hown hF hG key
  go_enter Tryd.func61, Tryd.ntmps61
  go_wp2_with (go_at_call 91; refine KEY.out.mono ?_; rintro e w' ⟨v', rfl, ho, hf, hb⟩; have HO2 := Aside0.mk ho; have HB2 := Aside0.mk hb; have HF2 := Aside0.mk hf; clear ho hb hf)
  go_ret
  refine ⟨_, rfl, ?_, HF2.out, HB2.out⟩
  have := HO2.out
  rw [Q.nums_byteCells, ← nums_append] at this
  rw [List.length_append, Q.numText_length]
  exact this

section
variable {ops : Array Oper} {rest : List Oper} {o : Oper} {a : Act} {Qp : Exit → Act → World → Prop}
theorem print_append_full {w0 W : World} (base : Nat) (hgd : o.guard = none) (s x : Operand)
    (ho : o.op = .call { callee := .builtin .append, args := #[s, x], argTypes := #[43, 43] })
    (v : Value) (xs : List Int) (y : Int) (hs : a.eval s = v) (hx : a.eval x = .slice (some ⟨W.heap.size, 0, none⟩) 1 1)
    (HO : W.ownsRow base 5 1 v xs.length (nums .u8 xs)) (HF : Full W v) (HB : Below base w0 W) (hbase : base ≤ W.heap.size) (hl : xs.length + 1 ≤ 140737488355328)
    (h : ∀ v1 w1, w1.ownsRow base 5 1 v1 (xs ++ [y]).length (nums .u8 (xs ++ [y])) → Below base w0 w1 → Full w1 v1 → wpList Tryd.prog ops Qp rest (a.put o.dst v1) w1) :
    wpList Tryd.prog ops Qp (o :: rest) a (W.alloc (.cells #[.int .u8 y] 5)) := by
  obtain ⟨i0, hi, hz0, hz1, hz2⟩ := info_parts Q.info5
  have hnews : ∀ j u, ([Value.int .u8 y] : List Value)[j]? = some u → (W.alloc (.cells #[.int .u8 y] 5)).cell? ((⟨W.heap.size, 0, none⟩ : Addr).add j) = some u := cell_one_new _ _ _
  refine wpList_append_full _ hgd s x 43 ho base 5 i0 Tryd.underlying43 hi hz0 hz1 hz2 v xs.length (nums .u8 xs) hs (HO.alloc _) (HF.below HO (below_alloc (Below.refl _ _) _)) (AllBytes.of_nums xs) ⟨W.heap.size, 0, none⟩ 1 1 [.int .u8 y] hx rfl hnews (fun z hz => ⟨y, by simpa using hz⟩) (by unfold maxLen; omega) (by omega) (by simp; omega) ?_
  intro v1 w1 h1 h2 h3
  refine h v1 w1 (by simpa [nums] using h1) ?_ h3
  exact (HB.alloc hbase _).grown h2 (by simp; omega) (fun k hk => (HO.lt k hk).1)
end

set_option maxHeartbeats 1000000 in
set_option maxRecDepth 100000 in
open Go.Proofs.YtfdemglcjfdodaaDoor.Q (joinNums joinNums_le joinNums_snoc numText u32_u64) in
theorem write_full (A0 : Option Addr) (c0 : Nat) (l0 : List Int) (A1 : Option Addr) (c1 : Nat) (l1 : List Int) (w : World) (hr0 : Kd.C (Kd.int .u8) w A0 l0.length l0) (hr1 : Kd.C (Kd.int .u32) w A1 l1.length l1) (hG : Glob w)
    (hsz : l0.length + 21 * l1.length + 100 ≤ 140737488355328) (hw : ∀ x ∈ l1, 0 ≤ x ∧ x < 4294967296) :
    Calls Tryd.prog 31 #[.slice A0 l0.length c0, .slice A1 l1.length c1] w fun e w' => ∃ v0_ : Value, e = .returned (v0_) ∧ w'.ownsRow w.heap.size 5 1 v0_ (l0 ++ Q.joinNums l1 ++ [10]).length (nums .u8 (l0 ++ Q.joinNums l1 ++ [10])) ∧ Full w' v0_ ∧ Below w.heap.size w w' := by
  have HR0 := Aside0.mk hr0
  have HR1 := Aside0.mk hr1
  have HG := Aside0.mk hG
  have HW := Aside0.mk hw
  have HS := Aside0.mk hsz
  have hm1 : l1.length ≤ 9223372036854775807 := by omega
  clear hr0 hr1 hG hw hsz
  go_enter Tryd.func31, Tryd.ntmps31
  go_wp2_with (go_at_call 57; refine (clone_full A0 l0.length c0 l0 _ rfl HR0.out (by have := HS.out; omega)).mono ?_; rintro e w1 ⟨v1, rfl, ho, hf, hb⟩; have HO := Aside0.mk ho; have HB := Aside0.mk hb; have HF := Aside0.mk hf; clear ho hb hf)
  go_loopw [5, 12] (fun v5 v12 wr => ∃ k : Nat, k ≤ l1.length ∧ v12 = .int .i64 k ∧ Aside0 (wr.ownsRow w.heap.size 5 1 v5 (l0 ++ joinNums (l1.take k)).length (nums .u8 (l0 ++ joinNums (l1.take k)))) ∧ Aside0 (Full wr v5) ∧ Aside0 (Below w.heap.size w wr)) (fun _ i _ => l1.length - (intOf i).toNat)
  case atStart =>
    refine ⟨0, Nat.zero_le _, rfl, ⟨?_⟩, HF, HB⟩
    have := HO.out
    simpa [joinNums, nums] using this
  case round =>
    obtain ⟨k, hk, rfl, HOk, HFk, HBk⟩ := hrel
    have hj : (joinNums (l1.take k)).length ≤ 21 * k := by
      have := joinNums_le (l1.take k) (fun x hx => HW.out x (List.mem_of_mem_take hx))
      rw [List.length_take, Nat.min_eq_left hk] at this
      exact this
    have HJ := Aside0.mk hj
    clear hj
    rcases Nat.lt_or_ge k l1.length with hkl | hkl
    · have hmem : l1.getD k 0 ∈ l1 := by rw [List.getD_eq_getElem?_getD, List.getElem?_eq_getElem hkl]; exact List.getElem_mem _
      have hxr := HW.out _ hmem
      obtain ⟨x, hx⟩ : ∃ x : Nat, (x : Int) = l1.getD k 0 := ⟨_, Int.toNat_of_nonneg hxr.1⟩
      rw [← hx] at hxr
      have hrd : ReadsOf (Value.int .u32) (0 : Int) wr A1 l1.length l1 := Kd.reads_of_C (Kd.C_below HR1.out HBk.out)
      obtain ⟨a, rfl, hcs⟩ := hrd.2.2 (by omega)
      have hcell : wr.cell? (a.add k) = some (.int .u32 x) := by rw [hx]; exact hcs k hkl
      have hcv := u32_u64 x hxr
      have hsucc : l1.take (k + 1) = l1.take k ++ [(x : Int)] := by
        rw [List.take_add_one, List.getElem?_eq_getElem hkl, hx, List.getD_eq_getElem?_getD, List.getElem?_eq_getElem hkl]; rfl
      have HSU := Aside0.mk hsucc
      have HX := Aside0.mk hxr
      clear hsucc hxr hx hmem hcs hrd
      have fin : ∀ (W : World) (v : Value) (ys : List Int), W.ownsRow w.heap.size 5 1 v (ys ++ numText x).length (nums .u8 (ys ++ numText x)) → ys = l0 ++ joinNums (l1.take k) ++ (if l1.take k = [] then [] else [32]) →
          W.ownsRow w.heap.size 5 1 v (l0 ++ joinNums (l1.take (k + 1))).length (nums .u8 (l0 ++ joinNums (l1.take (k + 1)))) := by
        intro W v ys ho he
        rw [HSU.out, joinNums_snoc, ← List.append_assoc, ← List.append_assoc, ← he]
        exact ho
      have FIN := Aside0.mk fin
      clear fin
      rcases Nat.eq_zero_or_pos k with hk0 | hk0
      · have hb0 : decide (0 < k) = false := by simp; omega
        have HK0 := Aside0.mk hk0
        clear hk0
        go_wp2_with (go_at_call 61; refine (append_uint_full w.heap.size x (by have := HX.out; omega) u5 (l0 ++ joinNums (l1.take k)) _ HOk.out HFk.out HBk.out.size (by have := HJ.out; have := HS.out; simp only [List.length_append]; omega) (Glob.below HG.out HBk.out)).mono ?_; rintro e w3 ⟨v3, rfl, ho3, hf3, hb3⟩; have HO3 := Aside0.mk ho3; have HB3 := Aside0.mk hb3; have HF3 := Aside0.mk hf3; clear ho3 hb3 hf3)
        refine ⟨⟨k + 1, by omega, by go_num, ⟨FIN.out _ _ _ HO3.out ?_⟩, HF3, ⟨HBk.out.trans HB3.out⟩⟩, by simp [intOf]; omega⟩
        have := HK0.out
        subst this
        simp
      · have hb0 : decide (0 < k) = true := by simp; omega
        have HK0 := Aside0.mk hk0
        go_wp2_with (first | ((with_reducible refine gate_builtin (b := .append) (xs := #[.tmp 19, .tmp 20]) rfl ?_); at_builtin; refine print_append_full (w0 := w) w.heap.size rfl (.tmp 19) (.tmp 20) rfl u5 (l0 ++ joinNums (l1.take k)) 32 rfl rfl HOk.out HFk.out HBk.out HBk.out.size ?aL ?_; (case aL => have := HJ.out; have := HS.out; simp only [List.length_append]; omega); intro v2 w2 ho2 hb2 hf2; have HO2 := Aside0.mk ho2; have HB2 := Aside0.mk hb2; have HF2 := Aside0.mk hf2; clear ho2 hb2 hf2) | (go_at_call 61; refine (append_uint_full w.heap.size x (by have := HX.out; omega) v2 (l0 ++ joinNums (l1.take k) ++ [32]) _ HO2.out HF2.out HB2.out.size (by have := HJ.out; have := HS.out; simp only [List.length_append, List.length_cons, List.length_nil]; omega) (Glob.below HG.out HB2.out)).mono ?_; rintro e w3 ⟨v3, rfl, ho3, hf3, hb3⟩; have HO3 := Aside0.mk ho3; have HB3 := Aside0.mk hb3; have HF3 := Aside0.mk hf3; clear ho3 hb3 hf3))
        refine ⟨⟨k + 1, by omega, by go_num, ⟨FIN.out _ _ _ HO3.out ?_⟩, HF3, ⟨HB2.out.trans HB3.out⟩⟩, by simp [intOf]; omega⟩
        rw [if_neg]
        intro h0
        have h1 := congrArg List.length h0
        have := HK0.out
        rw [List.length_take, List.length_nil] at h1
        omega
    · go_wp2_with (first | ((with_reducible refine gate_builtin (b := .append) (xs := #[.tmp 27, .tmp 28]) rfl ?_); at_builtin; refine print_append_full (w0 := w) w.heap.size rfl (.tmp 27) (.tmp 28) rfl u5 (l0 ++ joinNums (l1.take k)) 10 rfl rfl HOk.out HFk.out HBk.out HBk.out.size ?aL ?_; (case aL => have := HJ.out; have := HS.out; simp only [List.length_append]; omega); intro v2 w2 ho2 hb2 hf2; have HO2 := Aside0.mk ho2; have HB2 := Aside0.mk hb2; have HF2 := Aside0.mk hf2; clear ho2 hb2 hf2))
      go_ret
      refine ⟨_, rfl, ?_, HF2.out, HB2.out⟩
      obtain rfl : k = l1.length := by omega
      have ho := HO2.out
      rw [List.take_length] at ho
      exact ho
end Go.Proofs.YtfdemglcjfdodaaDoor.R
