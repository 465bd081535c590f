/-
  The document's Once: is no name told twice, nor an own one?
-/
import Derived.Test.YtfdemglcjfdodaaDoorNDig
import Derived.Test.YtfdemglcjfdodaaDoorNMay
import Derived.Test.YtfdemglcjfdodaaDoorNFind
namespace Go.Proofs.YtfdemglcjfdodaaDoor.N
open Go.RowKit Go.Lib Go.Proofs.YtfdemglcjfdodaaDoorW.PrintWords Go.Proofs.YtfdemglcjfdodaaDoorW.PrintLast Go.Proofs.YtfdemglcjfdodaaDoorW.PrintMore
set_option linter.unusedVariables false

theorem cells5_at (n : Nv) {g : Nat} {w : World} {t : TypeId} {fr : Nat × Nat} (h : w.heap[g]? = some (.cells #[.slice n.A0 n.l0.length n.c0, .slice n.A1 n.l1.length n.c1, .slice n.A2 n.l2.length n.c2, .slice n.A3 n.l3.length n.c3, .slice n.A4 n.l4.length n.c4] t fr)) (k : Nat) (hk : k < 5) : w.cell? ⟨g, k, none⟩ = some (.slice (n.A k) (n.l k).length (n.c k)) := by
  simp only [World.cell?, h]
  exact five (P := fun k => (#[Value.slice n.A0 n.l0.length n.c0, .slice n.A1 n.l1.length n.c1, .slice n.A2 n.l2.length n.c2, .slice n.A3 n.l3.length n.c3, .slice n.A4 n.l4.length n.c4] : Array Value)[k]? = some (.slice (n.A k) (n.l k).length (n.c k))) rfl rfl rfl rfl rfl k hk
theorem many5_at (c : Cv) {g : Nat} {w : World} {t : TypeId} {fr : Nat × Nat} (h : w.heap[g]? = some (.cells #[.int .i64 c.inp, .int .i64 c.lat.length, .int .i64 c.out.length, .int .i64 c.bad.length, .int .i64 c.con.length] t fr)) (k : Nat) (hk : k < 5) : w.cell? ⟨g, k, none⟩ = some (.int .i64 (c.many k)) := by
  simp only [World.cell?, h]
  exact many_at c k hk
/-- The two arrays lie in blocks of their own. -/
structure Two (c : Cv) (n : Nv) (v5 v6 : Value) (w0 w : World) : Prop where
  at5 : ∃ g5 fr, v5 = .pointer (some ⟨g5, 0, none⟩) ∧ w.heap[g5]? = some (.cells #[.slice n.A0 n.l0.length n.c0, .slice n.A1 n.l1.length n.c1, .slice n.A2 n.l2.length n.c2, .slice n.A3 n.l3.length n.c3, .slice n.A4 n.l4.length n.c4] 77 fr)
  at6 : ∃ g6 fr, v6 = .pointer (some ⟨g6, 0, none⟩) ∧ w.heap[g6]? = some (.cells #[.int .i64 c.inp, .int .i64 c.lat.length, .int .i64 c.out.length, .int .i64 c.bad.length, .int .i64 c.con.length] 74 fr)
  below : Below w0.heap.size w0 w

theorem below_step {w0 W w3 : World} (h : Below w0.heap.size w0 W) (k : Below W.heap.size W w3) : Below w0.heap.size w0 w3 := below_then h h.size k
theorem carryO {W w4 : World} {g : Nat} {o : Obj} (h : Below W.heap.size W w4) (hg : W.heap[g]? = some o) : w4.heap[g]? = some o := (h.block g (Array.getElem?_eq_some_iff.1 hg).1).trans hg
theorem below_allocB {w W : World} (h : Below w.heap.size w W) (o : Obj) : Below w.heap.size w (W.alloc o) := below_alloc h o
theorem below_setRow {w W : World} {g : Nat} (h : Below w.heap.size w W) (hg : w.heap.size ≤ g) (cs : Array Value) : Below w.heap.size w (W.setRow g cs) :=
  ⟨h.os, h.tape, h.output, by simpa using h.size, fun i hi => (setRow_other W g i cs (by omega)).trans (h.block i hi)⟩
theorem store_step {P : Program} {ops : Array Oper} {o : Oper} {a : Act} {w : World} {K : Act → World → Prop} {Q : Exit → Act → World → Prop} {E : Prop} {old cells : Array Value} {g : Nat} {t : TypeId} {p v : Operand} (ty : TypeId)
    (hgd : o.guard = none) (ho : o.op = .store ty p v) (hp : a.eval p = .pointer (some ⟨g, 0, none⟩)) (hv : a.eval v = .agg cells) (hg : w.heap[g]? = some (.cells old t (0, 0)))
    (hi : (P.info? ty).map (·.size) = some cells.size) (hs : old.size = cells.size) (h1 : cells.all (·.oneCell') = true) (h : K (a.put o.dst undef) (w.setRow g cells)) :
    if Region.wanted o (yielded ops a.tmps) = true then Oper.wp P o a w K Q else E := by
  have hw : Region.wanted o (yielded ops a.tmps) = true := by simp [Region.wanted, hgd]
  rw [if_pos hw]
  have hr : (Instr.storeAt ty (.pointer (some ⟨g, 0, none⟩)) (.agg cells)).run P w = .ok () (w.setRow g cells) := by
    simp only [Instr.storeAt, Instr.sureAddr, Sem.run_bind, Sem.run_pure, Result.andThen]
    exact run_storeVar_row w g t ty old cells hg hi hs h1
  unfold Oper.wp
  simp [execOp, ho, hp, hv, hr, Result.andThen, Oper.upon]
  exact h

theorem own_below {w w' : World} {v : Value} {B n e size : Nat} {xs : List Value} (ho : w.ownsRow B e size v n xs) (hb : Below w.heap.size w w') : w'.ownsRow B e size v n xs := by
  refine ⟨ho.1, ?_⟩
  rcases ho.2 with h | ⟨g, cap, cur, rfl, h1, h2, r⟩
  · exact .inl h
  · exact .inr ⟨g, cap, cur, rfl, h1, by rw [hb.block g (Array.getElem?_eq_some_iff.1 h2).1]; exact h2, r⟩
/-- All names so far: kind by kind. -/
def acc (c : Cv) (n : Nv) : Nat → List ByteArray
  | 0 => []
  | k + 1 => acc c n k ++ (List.range (c.manyN k)).map (ownB (letterOf k)) ++ toldOf (n.l k)
theorem told_snoc0 (l : List ByteArray) (x : ByteArray) (h : x.size = 0) : toldOf (l ++ [x]) = toldOf l := by
  unfold toldOf
  rw [List.filter_append, List.filter_cons, List.filter_nil, if_neg (by rw [decide_eq_true_iff]; exact fun hh => hh h), List.append_nil]
theorem told_snoc1 (l : List ByteArray) (x : ByteArray) (h : x.size ≠ 0) : toldOf (l ++ [x]) = toldOf l ++ [x] := by
  unfold toldOf
  rw [List.filter_append, List.filter_cons, List.filter_nil, if_pos (by rw [decide_eq_true_iff]; exact h)]
theorem told_len (l : List ByteArray) : (toldOf l).length ≤ l.length := List.length_filter_le _ _
theorem acc_len (c : Cv) (n : Nv) (hm : ∀ k, k < 5 → c.manyN k ≤ 1048576) (hl : ∀ k, k < 5 → (n.l k).length ≤ 1048576) : ∀ k, k ≤ 5 → (acc c n k).length ≤ k * 2097152
  | 0, _ => by simp [acc]
  | k + 1, h => by
    have h1 := acc_len c n hm hl k (by omega)
    have h2 := hm k (by omega)
    have h3 := hl k (by omega)
    have h4 := told_len (n.l k)
    simp only [acc, List.length_append, List.length_map, List.length_range]
    omega
def allOf (c : Cv) (n : Nv) : List ByteArray := acc c n 5 ++ (List.range c.gat.length).map (ownB 97)
theorem allOf_eq (c : Cv) (n : Nv) : allOf c n = (blocks c.inp.toNat c.lat.length c.gat.length c.out.length c.bad.length c.con.length n.l0 n.l1 n.l2 n.l3 n.l4).flatten := by
  simp [allOf, acc, blocks, letterOf, Cv.manyN, Nv.l, Nv.ls]
open Classical in
noncomputable def onceB (c : Cv) (n : Nv) : Bool := decide (Apart c.inp.toNat c.lat.length c.gat.length c.out.length c.bad.length c.con.length n.l0 n.l1 n.l2 n.l3 n.l4)
open Classical in
theorem onceB_true {c : Cv} {n : Nv} (h : ∀ i j, i < (allOf c n).length → j < i → (allOf c n).getD i ByteArray.empty ≠ (allOf c n).getD j ByteArray.empty) : onceB c n = true := by
  refine decide_eq_true ?_
  unfold Apart
  rw [← allOf_eq, List.pairwise_iff_getElem]
  intro i j hi hj hij e
  refine h j i hj hij ?_
  rw [List.getD_eq_getElem?_getD, List.getD_eq_getElem?_getD, List.getElem?_eq_getElem hi, List.getElem?_eq_getElem hj]
  exact e.symm
open Classical in
theorem onceB_false {c : Cv} {n : Nv} (i j : Nat) (hi : i < (allOf c n).length) (hj : j < i) (h : (allOf c n).getD i ByteArray.empty = (allOf c n).getD j ByteArray.empty) : onceB c n = false := by
  refine decide_eq_false ?_
  unfold Apart
  rw [← allOf_eq, List.pairwise_iff_getElem]
  intro hp
  refine hp j i (by omega) hi hj ?_
  rw [List.getD_eq_getElem?_getD, List.getD_eq_getElem?_getD, List.getElem?_eq_getElem hi, List.getElem?_eq_getElem (by omega)] at h
  exact h.symm
open Classical in
theorem onceB_ok {c : Cv} {n : Nv} (h : onceB c n = true) : Apart c.inp.toNat c.lat.length c.gat.length c.out.length c.bad.length c.con.length n.l0 n.l1 n.l2 n.l3 n.l4 := of_decide_eq_true h
theorem append_step {P : Program} {ops : Array Oper} {o : Oper} {a : Act} {W w0 : World} {K : Act → World → Prop} {Q : Exit → Act → World → Prop} {E : Prop} (base : Nat) (hgd : o.guard = none) (s x : Operand) (t e : TypeId) (bytes : Nat)
    (ho : o.op = .call { callee := .builtin .append, args := #[s, x], argTypes := #[t, t] })
    (ht : P.underlying t = some (.slice e)) (hinfo : (P.info? e).map (fun i => (i.zero, i.size, i.bytes)) = some (some (.string ⟨#[]⟩), 1, bytes)) (hb0 : 0 < bytes)
    (v : Value) (xs : List ByteArray) (y : ByteArray) (hs : a.eval s = v) (hx : a.eval x = .slice (some ⟨W.heap.size, 0, none⟩) 1 1)
    (HO : W.ownsRow base e 1 v xs.length (encs Value.string xs)) (HB : Below base w0 W) (hbase : base ≤ W.heap.size) (hl : (xs.length + 1) * bytes ≤ 140737488355328)
    (h : ∀ v1 w1, w1.ownsRow base e 1 v1 (xs ++ [y]).length (encs Value.string (xs ++ [y])) → Below base w0 w1 → K (a.put o.dst v1) w1) :
    if Region.wanted o (yielded ops a.tmps) = true then Oper.wp P o a (W.alloc (.cells #[.string y] e)) K Q else E := by
  have hw : Region.wanted o (yielded ops a.tmps) = true := by simp [Region.wanted, hgd]
  rw [if_pos hw]
  obtain ⟨i0, hi, hzz⟩ := Option.map_eq_some_iff.1 hinfo
  simp only [Prod.mk.injEq] at hzz
  obtain ⟨hz0, hz1, hz2⟩ := hzz
  have hlen : xs.length + 1 ≤ 140737488355328 := Nat.le_trans (Nat.le_mul_of_pos_right _ hb0) hl
  refine wp_append_own (W.alloc (.cells #[.string y] e)) s x t ho base e i0 (.string ⟨#[]⟩) 1 bytes ht hi hz0 hz1 hz2 rfl (by omega) v xs.length (encs Value.string xs) hs (HO.alloc _) ⟨W.heap.size, 0, none⟩ 1 1 [.string y] hx rfl
    (World.news_of_block (cs := #[.string y]) (t := e) (fr := (0, 0)) (heap_alloc_new W _)) (by simp [Value.oneCell']) (by simp only [maxLen]; omega) hl (by simp; omega) ?_
  intro v1 w1 hown hg _
  exact h v1 w1 (by simpa [encs] using hown) ((HB.alloc hbase _).grown hg (by simp; omega) (own_base HO))
theorem own_cat' (c : UInt8) (i : Nat) : (⟨#[c]⟩ : ByteArray) ++ ⟨(decDigits i).toArray⟩ = ownB c i := by
  have := own_cat c i
  rw [itoa_nonneg] at this
  exact this
theorem cut_letter (k : Nat) (hk : k < 5) : ∀ W : World, (Instr.slice 9 (.string ⟨#[105, 108, 111, 98, 99]⟩) (some (.int .i64 k)) (some (.int .i64 ((k : Int) + 1))) none).run Tryd.prog W = .ok (.string ⟨#[letterOf k]⟩) W :=
  five (P := fun k => ∀ W : World, (Instr.slice 9 (.string ⟨#[105, 108, 111, 98, 99]⟩) (some (.int .i64 k)) (some (.int .i64 ((k : Int) + 1))) none).run Tryd.prog W = .ok (.string ⟨#[letterOf k]⟩) W)
    (fun W => by go_simp; rfl) (fun W => by go_simp; rfl) (fun W => by go_simp; rfl) (fun W => by go_simp; rfl) (fun W => by go_simp; rfl) k hk
set_option maxHeartbeats 8000000 in
set_option maxRecDepth 100000 in
theorem once (c : Cv) (n : Nv) (w : World) (hc : c.Held w) (hh : n.Held w) (h0 : 0 ≤ c.inp) (hm : ∀ k, k < 5 → c.manyN k ≤ 1048576) (hl : ∀ k, k < 5 → (n.l k).length ≤ 1048576) (hg : c.gat.length ≤ 1048576) :
    Calls Tryd.prog 12 #[c.val, n.val] w fun e w' => e = .returned (.bool (onceB c n)) ∧ Below w.heap.size w w' := by
  have HC := Aside0.mk hc
  have HH := Aside0.mk hh
  have HSZ := Aside0.mk (And.intro h0 (And.intro hm (And.intro hl hg)))
  have HAL := Aside0.mk (acc_len c n hm hl)
  obtain ⟨R, hR⟩ : ∃ R, R = onceB c n := ⟨_, rfl⟩
  rw [← hR]
  have HR := Aside0.mk hR
  have hml : ∀ k, k < 5 → (n.l k).length ≤ 9223372036854775807 := fun k hk => by have := hl k hk; omega
  have hgm : c.gat.length ≤ 9223372036854775807 := by omega
  have HML := Aside0.mk hml
  clear hc hh h0 hm hl hR hml hg
  have HB := Aside0.mk (below_alloc (below_alloc (Below.refl w.heap.size w) (.cells c.cells 26)) (.cells #[.slice n.A0 n.l0.length n.c0, .slice n.A1 n.l1.length n.c1, .slice n.A2 n.l2.length n.c2, .slice n.A3 n.l3.length n.c3, .slice n.A4 n.l4.length n.c4] 29))
  have HX : Aside0 (Boxed c w.heap.size ((w.alloc (.cells c.cells 26)).alloc (.cells #[.slice n.A0 n.l0.length n.c0, .slice n.A1 n.l1.length n.c1, .slice n.A2 n.l2.length n.c2, .slice n.A3 n.l3.length n.c3, .slice n.A4 n.l4.length n.c4] 29))) := ⟨(show Boxed c w.heap.size (w.alloc (.cells c.cells 26)) from heap_alloc_new w _).below (below_alloc (Below.refl _ _) _)⟩
  have HY : Aside0 (NBoxed n (w.heap.size + 1) ((w.alloc (.cells c.cells 26)).alloc (.cells #[.slice n.A0 n.l0.length n.c0, .slice n.A1 n.l1.length n.c1, .slice n.A2 n.l2.length n.c2, .slice n.A3 n.l3.length n.c3, .slice n.A4 n.l4.length n.c4] 29))) := ⟨heap_alloc2_new w _ _⟩
  unfold Cv.cells at HB HX HY
  unfold Cv.val Nv.val
  go_enter Tryd.func12, Tryd.ntmps12
  go_upto_region 1 with fail
  generalize (w.alloc (.cells #[.int .i64 c.inp, .slice c.A1 c.lat.length c.c1, .slice c.A2 c.gat.length c.c2, .slice c.A3 c.out.length c.c3, .slice c.A4 c.bad.length c.c4, .slice c.A5 c.con.length c.c5] 26)).alloc (.cells #[.slice n.A0 n.l0.length n.c0, .slice n.A1 n.l1.length n.c1, .slice n.A2 n.l2.length n.c2, .slice n.A3 n.l3.length n.c3, .slice n.A4 n.l4.length n.c4] 29) = wb at HB HX HY ⊢
  generalize w.heap.size + 1 = gn at HY ⊢
  generalize hgc : w.heap.size = gc at HX
  have HS : Aside0 (∀ w', Below wb.heap.size wb w' → (fun w' => (w'.cell? ⟨gn, 0, none⟩ = some (.slice n.A0 n.l0.length n.c0) ∧ w'.cell? ⟨gn, 1, none⟩ = some (.slice n.A1 n.l1.length n.c1) ∧ w'.cell? ⟨gn, 2, none⟩ = some (.slice n.A2 n.l2.length n.c2) ∧ w'.cell? ⟨gn, 3, none⟩ = some (.slice n.A3 n.l3.length n.c3) ∧ w'.cell? ⟨gn, 4, none⟩ = some (.slice n.A4 n.l4.length n.c4) ∧ w'.cell? ⟨gc, 0, none⟩ = some (.int .i64 c.inp) ∧ w'.cell? ⟨gc, 1, none⟩ = some (.slice c.A1 c.lat.length c.c1) ∧ w'.cell? ⟨gc, 2, none⟩ = some (.slice c.A2 c.gat.length c.c2) ∧ w'.cell? ⟨gc, 3, none⟩ = some (.slice c.A3 c.out.length c.c3) ∧ w'.cell? ⟨gc, 4, none⟩ = some (.slice c.A4 c.bad.length c.c4) ∧ w'.cell? ⟨gc, 5, none⟩ = some (.slice c.A5 c.con.length c.c5))) w') := by
    refine ⟨fun w' h => ?_⟩
    obtain ⟨e0, e1, e2, e3, e4, e5⟩ := (HX.out.below h).open
    obtain ⟨f0, f1, f2, f3, f4⟩ := (HY.out.below h).open
    exact ⟨f0, f1, f2, f3, f4, e0, e1, e2, e3, e4, e5⟩
  go_cut [5, 6] from 14 to 17 (fun v5 v6 wx => Two c n v5 v6 wb wx)
  case first =>
    refine wp_region_held_drew (S := (fun w' => (w'.cell? ⟨gn, 0, none⟩ = some (.slice n.A0 n.l0.length n.c0) ∧ w'.cell? ⟨gn, 1, none⟩ = some (.slice n.A1 n.l1.length n.c1) ∧ w'.cell? ⟨gn, 2, none⟩ = some (.slice n.A2 n.l2.length n.c2) ∧ w'.cell? ⟨gn, 3, none⟩ = some (.slice n.A3 n.l3.length n.c3) ∧ w'.cell? ⟨gn, 4, none⟩ = some (.slice n.A4 n.l4.length n.c4) ∧ w'.cell? ⟨gc, 0, none⟩ = some (.int .i64 c.inp) ∧ w'.cell? ⟨gc, 1, none⟩ = some (.slice c.A1 c.lat.length c.c1) ∧ w'.cell? ⟨gc, 2, none⟩ = some (.slice c.A2 c.gat.length c.c2) ∧ w'.cell? ⟨gc, 3, none⟩ = some (.slice c.A3 c.out.length c.c3) ∧ w'.cell? ⟨gc, 4, none⟩ = some (.slice c.A4 c.bad.length c.c4) ∧ w'.cell? ⟨gc, 5, none⟩ = some (.slice c.A5 c.con.length c.c5)))) (by kernel_rfl) (HS.out _ (below_drew (Below.refl _ _))) (fun hHeld => ?_)
    have B0 := Aside0.mk (below_drew (Below.refl wb.heap.size wb))
    generalize wb.drew = W0 at B0 hHeld ⊢
    refine take_ (i := 0) (v := ?vm1) 14 rfl rfl (wpAnyH_take (i := 0) rfl (by kernel_rfl) (by kernel_rfl) (by kernel_rfl) (fun _ _ _ h => h) (Or.inl ⟨by rfl, ?hym1⟩) (by assumption)) ?restm1
    case hym1 => (intro w_ hSw; (try dsimp only at hSw); go_simp <;> with_reducible rfl)
    (try simp only [Act.put, List.setIfInBounds_toArray, List.set_cons_zero, List.set_cons_succ])
    refine take_ (i := 2) (v := ?vm2) 16 rfl rfl (wpAnyH_take (i := 2) rfl (by kernel_rfl) (by kernel_rfl) (by kernel_rfl) (fun _ _ _ h => h) (Or.inl ⟨by rfl, ?hym2⟩) (by assumption)) ?restm2
    case hym2 => (intro w_ hSw; (try dsimp only at hSw); go_simp <;> with_reducible rfl)
    (try simp only [Act.put, List.setIfInBounds_toArray, List.set_cons_zero, List.set_cons_succ])
    refine wpAnyH_ready (rs := [1, 4, 5]) (by kernel_rfl) (by simp) ?_
    refine AllReadyH.cons rfl (fun K hK => ?_) ?_
    · go_simp
      refine (lists n _).mono ?_
      rintro e W3 ⟨rfl, hb⟩
      have B4 := Aside0.mk (below_step B0.out hb)
      refine hK.out _ _ (HS.out _ B4.out) (fun hHeld => ?_)
      clear hK K
      (try simp only [Act.put, List.setIfInBounds_toArray, List.set_cons_zero, List.set_cons_succ])
      clear hb
      refine wpAnyH_ready (rs := [3, 4, 5]) (by kernel_rfl) (by simp) ?_
      refine AllReadyH.cons rfl (fun K hK => ?_) ?_
      · go_simp
        refine (counts c _).mono ?_
        rintro e W5 ⟨rfl, hb⟩
        have B6 := Aside0.mk (below_step B4.out hb)
        refine hK.out _ _ (HS.out _ B6.out) (fun hHeld => ?_)
        clear hK K
        (try simp only [Act.put, List.setIfInBounds_toArray, List.set_cons_zero, List.set_cons_succ])
        clear hb
        refine wpAnyH_ready (rs := [4, 5]) (by kernel_rfl) (by simp) ?_
        refine AllReadyH.cons rfl (fun K hK => ?_) ?_
        · go_simp
          have B8 := Aside0.mk (below_allocB B6.out (.cells #[.slice none 0 0, .slice none 0 0, .slice none 0 0, .slice none 0 0, .slice none 0 0] 77))
          have R10 := Aside0.mk (heap_alloc_new W5 (.cells #[.slice none 0 0, .slice none 0 0, .slice none 0 0, .slice none 0 0, .slice none 0 0] 77))
          have L11 := Aside0.mk B6.out.size
          refine hK.out _ _ (HS.out _ B8.out) (fun hHeld => ?_)
          clear hK K
          (try simp only [Act.put, List.setIfInBounds_toArray, List.set_cons_zero, List.set_cons_succ])
          clear B6
          generalize W5.alloc (.cells #[.slice none 0 0, .slice none 0 0, .slice none 0 0, .slice none 0 0, .slice none 0 0] 77) = W7 at B8 R10 hHeld ⊢
          generalize W5.heap.size = g9 at R10 L11 ⊢
          refine wpAnyH_ready (rs := [5]) (by kernel_rfl) (by simp) ?_
          refine AllReadyH.cons rfl (fun K hK => ?_) ?_
          · go_simp
            have B13 := Aside0.mk (below_allocB B8.out (.cells #[.int .i64 0, .int .i64 0, .int .i64 0, .int .i64 0, .int .i64 0] 74))
            have R15 := Aside0.mk (heap_alloc_new W7 (.cells #[.int .i64 0, .int .i64 0, .int .i64 0, .int .i64 0, .int .i64 0] 74))
            have L16 := Aside0.mk B8.out.size
            have R17 := Aside0.mk ((heap_alloc_old W7 (.cells #[.int .i64 0, .int .i64 0, .int .i64 0, .int .i64 0, .int .i64 0] 74) (Array.getElem?_eq_some_iff.1 R10.out).1).trans R10.out)
            have NE := Aside0.mk (Nat.ne_of_lt (Array.getElem?_eq_some_iff.1 R10.out).1)
            refine hK.out _ _ (HS.out _ B13.out) (fun hHeld => ?_)
            clear hK K
            (try simp only [Act.put, List.setIfInBounds_toArray, List.set_cons_zero, List.set_cons_succ])
            clear B8 R10
            generalize W7.alloc (.cells #[.int .i64 0, .int .i64 0, .int .i64 0, .int .i64 0, .int .i64 0] 74) = W12 at B13 R15 R17 hHeld ⊢
            generalize W7.heap.size = g14 at R15 L16 NE ⊢
            refine wpAnyH_ready (rs := [6]) (by kernel_rfl) (by simp) ?_
            refine AllReadyH.cons rfl (fun K hK => ?_) AllReadyH.nil
            refine store_step (cells := #[.slice n.A0 n.l0.length n.c0, .slice n.A1 n.l1.length n.c1, .slice n.A2 n.l2.length n.c2, .slice n.A3 n.l3.length n.c3, .slice n.A4 n.l4.length n.c4]) 77 rfl rfl rfl rfl R17.out (by kernel_rfl) rfl (by first | (simp [Value.oneCell']; done) | kernel_rfl) ?_
            have B20 := Aside0.mk (below_setRow B13.out L11.out #[.slice n.A0 n.l0.length n.c0, .slice n.A1 n.l1.length n.c1, .slice n.A2 n.l2.length n.c2, .slice n.A3 n.l3.length n.c3, .slice n.A4 n.l4.length n.c4])
            have R21 := Aside0.mk (setRow_heap W12 g9 _ #[.slice n.A0 n.l0.length n.c0, .slice n.A1 n.l1.length n.c1, .slice n.A2 n.l2.length n.c2, .slice n.A3 n.l3.length n.c3, .slice n.A4 n.l4.length n.c4] _ _ R17.out)
            have R22 := Aside0.mk ((setRow_other W12 g9 g14 #[.slice n.A0 n.l0.length n.c0, .slice n.A1 n.l1.length n.c1, .slice n.A2 n.l2.length n.c2, .slice n.A3 n.l3.length n.c3, .slice n.A4 n.l4.length n.c4] (by have := NE.out; omega)).trans R15.out)
            refine hK.out _ _ (HS.out _ B20.out) (fun hHeld => ?_)
            clear hK K
            (try simp only [Act.put, List.setIfInBounds_toArray, List.set_cons_zero, List.set_cons_succ])
            clear B13 R17 R15
            generalize W12.setRow g9 #[.slice n.A0 n.l0.length n.c0, .slice n.A1 n.l1.length n.c1, .slice n.A2 n.l2.length n.c2, .slice n.A3 n.l3.length n.c3, .slice n.A4 n.l4.length n.c4] = W19 at B20 R21 R22 hHeld ⊢
            refine wpAnyH_ready (rs := [7]) (by kernel_rfl) (by simp) ?_
            refine AllReadyH.cons rfl (fun K hK => ?_) AllReadyH.nil
            refine store_step (cells := #[.int .i64 c.inp, .int .i64 c.lat.length, .int .i64 c.out.length, .int .i64 c.bad.length, .int .i64 c.con.length]) 74 rfl rfl rfl rfl R22.out (by kernel_rfl) rfl (by first | (simp [Value.oneCell']; done) | kernel_rfl) ?_
            have B24 := Aside0.mk (below_setRow B20.out L16.out #[.int .i64 c.inp, .int .i64 c.lat.length, .int .i64 c.out.length, .int .i64 c.bad.length, .int .i64 c.con.length])
            have R25 := Aside0.mk ((setRow_other W19 g14 g9 #[.int .i64 c.inp, .int .i64 c.lat.length, .int .i64 c.out.length, .int .i64 c.bad.length, .int .i64 c.con.length] (by have := NE.out; omega)).trans R21.out)
            have R26 := Aside0.mk (setRow_heap W19 g14 _ #[.int .i64 c.inp, .int .i64 c.lat.length, .int .i64 c.out.length, .int .i64 c.bad.length, .int .i64 c.con.length] _ _ R22.out)
            refine hK.out _ _ (HS.out _ B24.out) (fun hHeld => ?_)
            clear hK K
            (try simp only [Act.put, List.setIfInBounds_toArray, List.set_cons_zero, List.set_cons_succ])
            clear B20 R21 R22
            generalize W19.setRow g14 #[.int .i64 c.inp, .int .i64 c.lat.length, .int .i64 c.out.length, .int .i64 c.bad.length, .int .i64 c.con.length] = W23 at B24 R25 R26 hHeld ⊢
            refine wpAnyH_done (by kernel_rfl) ?_ _
            go_wp2_with fail
            go_meet
            exact ⟨⟨_, _, rfl, R25.out⟩, ⟨_, _, rfl, R26.out⟩, B24.out⟩
          exact AllReadyH.nil
        refine AllReadyH.cons rfl (fun K hK => ?_) ?_
        · go_simp
          have B28 := Aside0.mk (below_allocB B6.out (.cells #[.int .i64 0, .int .i64 0, .int .i64 0, .int .i64 0, .int .i64 0] 74))
          have R30 := Aside0.mk (heap_alloc_new W5 (.cells #[.int .i64 0, .int .i64 0, .int .i64 0, .int .i64 0, .int .i64 0] 74))
          have L31 := Aside0.mk B6.out.size
          refine hK.out _ _ (HS.out _ B28.out) (fun hHeld => ?_)
          clear hK K
          (try simp only [Act.put, List.setIfInBounds_toArray, List.set_cons_zero, List.set_cons_succ])
          clear B6
          generalize W5.alloc (.cells #[.int .i64 0, .int .i64 0, .int .i64 0, .int .i64 0, .int .i64 0] 74) = W27 at B28 R30 hHeld ⊢
          generalize W5.heap.size = g29 at R30 L31 ⊢
          refine wpAnyH_ready (rs := [4]) (by kernel_rfl) (by simp) ?_
          refine AllReadyH.cons rfl (fun K hK => ?_) ?_
          · go_simp
            have B33 := Aside0.mk (below_allocB B28.out (.cells #[.slice none 0 0, .slice none 0 0, .slice none 0 0, .slice none 0 0, .slice none 0 0] 77))
            have R35 := Aside0.mk (heap_alloc_new W27 (.cells #[.slice none 0 0, .slice none 0 0, .slice none 0 0, .slice none 0 0, .slice none 0 0] 77))
            have L36 := Aside0.mk B28.out.size
            have R37 := Aside0.mk ((heap_alloc_old W27 (.cells #[.slice none 0 0, .slice none 0 0, .slice none 0 0, .slice none 0 0, .slice none 0 0] 77) (Array.getElem?_eq_some_iff.1 R30.out).1).trans R30.out)
            have NE := Aside0.mk (Nat.ne_of_lt (Array.getElem?_eq_some_iff.1 R30.out).1)
            refine hK.out _ _ (HS.out _ B33.out) (fun hHeld => ?_)
            clear hK K
            (try simp only [Act.put, List.setIfInBounds_toArray, List.set_cons_zero, List.set_cons_succ])
            clear B28 R30
            generalize W27.alloc (.cells #[.slice none 0 0, .slice none 0 0, .slice none 0 0, .slice none 0 0, .slice none 0 0] 77) = W32 at B33 R35 R37 hHeld ⊢
            generalize W27.heap.size = g34 at R35 L36 NE ⊢
            refine wpAnyH_ready (rs := [6]) (by kernel_rfl) (by simp) ?_
            refine AllReadyH.cons rfl (fun K hK => ?_) AllReadyH.nil
            refine store_step (cells := #[.slice n.A0 n.l0.length n.c0, .slice n.A1 n.l1.length n.c1, .slice n.A2 n.l2.length n.c2, .slice n.A3 n.l3.length n.c3, .slice n.A4 n.l4.length n.c4]) 77 rfl rfl rfl rfl R35.out (by kernel_rfl) rfl (by first | (simp [Value.oneCell']; done) | kernel_rfl) ?_
            have B40 := Aside0.mk (below_setRow B33.out L36.out #[.slice n.A0 n.l0.length n.c0, .slice n.A1 n.l1.length n.c1, .slice n.A2 n.l2.length n.c2, .slice n.A3 n.l3.length n.c3, .slice n.A4 n.l4.length n.c4])
            have R41 := Aside0.mk ((setRow_other W32 g34 g29 #[.slice n.A0 n.l0.length n.c0, .slice n.A1 n.l1.length n.c1, .slice n.A2 n.l2.length n.c2, .slice n.A3 n.l3.length n.c3, .slice n.A4 n.l4.length n.c4] (by have := NE.out; omega)).trans R37.out)
            have R42 := Aside0.mk (setRow_heap W32 g34 _ #[.slice n.A0 n.l0.length n.c0, .slice n.A1 n.l1.length n.c1, .slice n.A2 n.l2.length n.c2, .slice n.A3 n.l3.length n.c3, .slice n.A4 n.l4.length n.c4] _ _ R35.out)
            refine hK.out _ _ (HS.out _ B40.out) (fun hHeld => ?_)
            clear hK K
            (try simp only [Act.put, List.setIfInBounds_toArray, List.set_cons_zero, List.set_cons_succ])
            clear B33 R37 R35
            generalize W32.setRow g34 #[.slice n.A0 n.l0.length n.c0, .slice n.A1 n.l1.length n.c1, .slice n.A2 n.l2.length n.c2, .slice n.A3 n.l3.length n.c3, .slice n.A4 n.l4.length n.c4] = W39 at B40 R41 R42 hHeld ⊢
            refine wpAnyH_ready (rs := [7]) (by kernel_rfl) (by simp) ?_
            refine AllReadyH.cons rfl (fun K hK => ?_) AllReadyH.nil
            refine store_step (cells := #[.int .i64 c.inp, .int .i64 c.lat.length, .int .i64 c.out.length, .int .i64 c.bad.length, .int .i64 c.con.length]) 74 rfl rfl rfl rfl R41.out (by kernel_rfl) rfl (by first | (simp [Value.oneCell']; done) | kernel_rfl) ?_
            have B44 := Aside0.mk (below_setRow B40.out L31.out #[.int .i64 c.inp, .int .i64 c.lat.length, .int .i64 c.out.length, .int .i64 c.bad.length, .int .i64 c.con.length])
            have R45 := Aside0.mk (setRow_heap W39 g29 _ #[.int .i64 c.inp, .int .i64 c.lat.length, .int .i64 c.out.length, .int .i64 c.bad.length, .int .i64 c.con.length] _ _ R41.out)
            have R46 := Aside0.mk ((setRow_other W39 g29 g34 #[.int .i64 c.inp, .int .i64 c.lat.length, .int .i64 c.out.length, .int .i64 c.bad.length, .int .i64 c.con.length] (by have := NE.out; omega)).trans R42.out)
            refine hK.out _ _ (HS.out _ B44.out) (fun hHeld => ?_)
            clear hK K
            (try simp only [Act.put, List.setIfInBounds_toArray, List.set_cons_zero, List.set_cons_succ])
            clear B40 R41 R42
            generalize W39.setRow g29 #[.int .i64 c.inp, .int .i64 c.lat.length, .int .i64 c.out.length, .int .i64 c.bad.length, .int .i64 c.con.length] = W43 at B44 R45 R46 hHeld ⊢
            refine wpAnyH_done (by kernel_rfl) ?_ _
            go_wp2_with fail
            go_meet
            exact ⟨⟨_, _, rfl, R46.out⟩, ⟨_, _, rfl, R45.out⟩, B44.out⟩
          exact AllReadyH.nil
        exact AllReadyH.nil
      refine AllReadyH.cons rfl (fun K hK => ?_) ?_
      · go_simp
        have B48 := Aside0.mk (below_allocB B4.out (.cells #[.slice none 0 0, .slice none 0 0, .slice none 0 0, .slice none 0 0, .slice none 0 0] 77))
        have R50 := Aside0.mk (heap_alloc_new W3 (.cells #[.slice none 0 0, .slice none 0 0, .slice none 0 0, .slice none 0 0, .slice none 0 0] 77))
        have L51 := Aside0.mk B4.out.size
        refine hK.out _ _ (HS.out _ B48.out) (fun hHeld => ?_)
        clear hK K
        (try simp only [Act.put, List.setIfInBounds_toArray, List.set_cons_zero, List.set_cons_succ])
        clear B4
        generalize W3.alloc (.cells #[.slice none 0 0, .slice none 0 0, .slice none 0 0, .slice none 0 0, .slice none 0 0] 77) = W47 at B48 R50 hHeld ⊢
        generalize W3.heap.size = g49 at R50 L51 ⊢
        refine wpAnyH_ready (rs := [3, 5]) (by kernel_rfl) (by simp) ?_
        refine AllReadyH.cons rfl (fun K hK => ?_) ?_
        · go_simp
          refine (counts c _).mono ?_
          rintro e W52 ⟨rfl, hb⟩
          have B53 := Aside0.mk (below_step B48.out hb)
          refine hK.out _ _ (HS.out _ B53.out) (fun hHeld => ?_)
          clear hK K
          (try simp only [Act.put, List.setIfInBounds_toArray, List.set_cons_zero, List.set_cons_succ])
          have R54 := Aside0.mk (carryO hb R50.out)
          clear hb
          refine wpAnyH_ready (rs := [5]) (by kernel_rfl) (by simp) ?_
          refine AllReadyH.cons rfl (fun K hK => ?_) ?_
          · go_simp
            have B56 := Aside0.mk (below_allocB B53.out (.cells #[.int .i64 0, .int .i64 0, .int .i64 0, .int .i64 0, .int .i64 0] 74))
            have R58 := Aside0.mk (heap_alloc_new W52 (.cells #[.int .i64 0, .int .i64 0, .int .i64 0, .int .i64 0, .int .i64 0] 74))
            have L59 := Aside0.mk B53.out.size
            have R60 := Aside0.mk ((heap_alloc_old W52 (.cells #[.int .i64 0, .int .i64 0, .int .i64 0, .int .i64 0, .int .i64 0] 74) (Array.getElem?_eq_some_iff.1 R54.out).1).trans R54.out)
            have NE := Aside0.mk (Nat.ne_of_lt (Array.getElem?_eq_some_iff.1 R54.out).1)
            refine hK.out _ _ (HS.out _ B56.out) (fun hHeld => ?_)
            clear hK K
            (try simp only [Act.put, List.setIfInBounds_toArray, List.set_cons_zero, List.set_cons_succ])
            clear B53 R54
            generalize W52.alloc (.cells #[.int .i64 0, .int .i64 0, .int .i64 0, .int .i64 0, .int .i64 0] 74) = W55 at B56 R58 R60 hHeld ⊢
            generalize W52.heap.size = g57 at R58 L59 NE ⊢
            refine wpAnyH_ready (rs := [6]) (by kernel_rfl) (by simp) ?_
            refine AllReadyH.cons rfl (fun K hK => ?_) AllReadyH.nil
            refine store_step (cells := #[.slice n.A0 n.l0.length n.c0, .slice n.A1 n.l1.length n.c1, .slice n.A2 n.l2.length n.c2, .slice n.A3 n.l3.length n.c3, .slice n.A4 n.l4.length n.c4]) 77 rfl rfl rfl rfl R60.out (by kernel_rfl) rfl (by first | (simp [Value.oneCell']; done) | kernel_rfl) ?_
            have B63 := Aside0.mk (below_setRow B56.out L51.out #[.slice n.A0 n.l0.length n.c0, .slice n.A1 n.l1.length n.c1, .slice n.A2 n.l2.length n.c2, .slice n.A3 n.l3.length n.c3, .slice n.A4 n.l4.length n.c4])
            have R64 := Aside0.mk (setRow_heap W55 g49 _ #[.slice n.A0 n.l0.length n.c0, .slice n.A1 n.l1.length n.c1, .slice n.A2 n.l2.length n.c2, .slice n.A3 n.l3.length n.c3, .slice n.A4 n.l4.length n.c4] _ _ R60.out)
            have R65 := Aside0.mk ((setRow_other W55 g49 g57 #[.slice n.A0 n.l0.length n.c0, .slice n.A1 n.l1.length n.c1, .slice n.A2 n.l2.length n.c2, .slice n.A3 n.l3.length n.c3, .slice n.A4 n.l4.length n.c4] (by have := NE.out; omega)).trans R58.out)
            refine hK.out _ _ (HS.out _ B63.out) (fun hHeld => ?_)
            clear hK K
            (try simp only [Act.put, List.setIfInBounds_toArray, List.set_cons_zero, List.set_cons_succ])
            clear B56 R60 R58
            generalize W55.setRow g49 #[.slice n.A0 n.l0.length n.c0, .slice n.A1 n.l1.length n.c1, .slice n.A2 n.l2.length n.c2, .slice n.A3 n.l3.length n.c3, .slice n.A4 n.l4.length n.c4] = W62 at B63 R64 R65 hHeld ⊢
            refine wpAnyH_ready (rs := [7]) (by kernel_rfl) (by simp) ?_
            refine AllReadyH.cons rfl (fun K hK => ?_) AllReadyH.nil
            refine store_step (cells := #[.int .i64 c.inp, .int .i64 c.lat.length, .int .i64 c.out.length, .int .i64 c.bad.length, .int .i64 c.con.length]) 74 rfl rfl rfl rfl R65.out (by kernel_rfl) rfl (by first | (simp [Value.oneCell']; done) | kernel_rfl) ?_
            have B67 := Aside0.mk (below_setRow B63.out L59.out #[.int .i64 c.inp, .int .i64 c.lat.length, .int .i64 c.out.length, .int .i64 c.bad.length, .int .i64 c.con.length])
            have R68 := Aside0.mk ((setRow_other W62 g57 g49 #[.int .i64 c.inp, .int .i64 c.lat.length, .int .i64 c.out.length, .int .i64 c.bad.length, .int .i64 c.con.length] (by have := NE.out; omega)).trans R64.out)
            have R69 := Aside0.mk (setRow_heap W62 g57 _ #[.int .i64 c.inp, .int .i64 c.lat.length, .int .i64 c.out.length, .int .i64 c.bad.length, .int .i64 c.con.length] _ _ R65.out)
            refine hK.out _ _ (HS.out _ B67.out) (fun hHeld => ?_)
            clear hK K
            (try simp only [Act.put, List.setIfInBounds_toArray, List.set_cons_zero, List.set_cons_succ])
            clear B63 R64 R65
            generalize W62.setRow g57 #[.int .i64 c.inp, .int .i64 c.lat.length, .int .i64 c.out.length, .int .i64 c.bad.length, .int .i64 c.con.length] = W66 at B67 R68 R69 hHeld ⊢
            refine wpAnyH_done (by kernel_rfl) ?_ _
            go_wp2_with fail
            go_meet
            exact ⟨⟨_, _, rfl, R68.out⟩, ⟨_, _, rfl, R69.out⟩, B67.out⟩
          exact AllReadyH.nil
        refine AllReadyH.cons rfl (fun K hK => ?_) ?_
        · go_simp
          have B71 := Aside0.mk (below_allocB B48.out (.cells #[.int .i64 0, .int .i64 0, .int .i64 0, .int .i64 0, .int .i64 0] 74))
          have R73 := Aside0.mk (heap_alloc_new W47 (.cells #[.int .i64 0, .int .i64 0, .int .i64 0, .int .i64 0, .int .i64 0] 74))
          have L74 := Aside0.mk B48.out.size
          have R75 := Aside0.mk ((heap_alloc_old W47 (.cells #[.int .i64 0, .int .i64 0, .int .i64 0, .int .i64 0, .int .i64 0] 74) (Array.getElem?_eq_some_iff.1 R50.out).1).trans R50.out)
          have NE := Aside0.mk (Nat.ne_of_lt (Array.getElem?_eq_some_iff.1 R50.out).1)
          refine hK.out _ _ (HS.out _ B71.out) (fun hHeld => ?_)
          clear hK K
          (try simp only [Act.put, List.setIfInBounds_toArray, List.set_cons_zero, List.set_cons_succ])
          clear B48 R50
          generalize W47.alloc (.cells #[.int .i64 0, .int .i64 0, .int .i64 0, .int .i64 0, .int .i64 0] 74) = W70 at B71 R73 R75 hHeld ⊢
          generalize W47.heap.size = g72 at R73 L74 NE ⊢
          refine wpAnyH_ready (rs := [3]) (by kernel_rfl) (by simp) ?_
          refine AllReadyH.cons rfl (fun K hK => ?_) ?_
          · go_simp
            refine (counts c _).mono ?_
            rintro e W77 ⟨rfl, hb⟩
            have B78 := Aside0.mk (below_step B71.out hb)
            refine hK.out _ _ (HS.out _ B78.out) (fun hHeld => ?_)
            clear hK K
            (try simp only [Act.put, List.setIfInBounds_toArray, List.set_cons_zero, List.set_cons_succ])
            have R79 := Aside0.mk (carryO hb R75.out)
            have R80 := Aside0.mk (carryO hb R73.out)
            clear hb
            refine wpAnyH_ready (rs := [6]) (by kernel_rfl) (by simp) ?_
            refine AllReadyH.cons rfl (fun K hK => ?_) AllReadyH.nil
            refine store_step (cells := #[.slice n.A0 n.l0.length n.c0, .slice n.A1 n.l1.length n.c1, .slice n.A2 n.l2.length n.c2, .slice n.A3 n.l3.length n.c3, .slice n.A4 n.l4.length n.c4]) 77 rfl rfl rfl rfl R79.out (by kernel_rfl) rfl (by first | (simp [Value.oneCell']; done) | kernel_rfl) ?_
            have B82 := Aside0.mk (below_setRow B78.out L51.out #[.slice n.A0 n.l0.length n.c0, .slice n.A1 n.l1.length n.c1, .slice n.A2 n.l2.length n.c2, .slice n.A3 n.l3.length n.c3, .slice n.A4 n.l4.length n.c4])
            have R83 := Aside0.mk (setRow_heap W77 g49 _ #[.slice n.A0 n.l0.length n.c0, .slice n.A1 n.l1.length n.c1, .slice n.A2 n.l2.length n.c2, .slice n.A3 n.l3.length n.c3, .slice n.A4 n.l4.length n.c4] _ _ R79.out)
            have R84 := Aside0.mk ((setRow_other W77 g49 g72 #[.slice n.A0 n.l0.length n.c0, .slice n.A1 n.l1.length n.c1, .slice n.A2 n.l2.length n.c2, .slice n.A3 n.l3.length n.c3, .slice n.A4 n.l4.length n.c4] (by have := NE.out; omega)).trans R80.out)
            refine hK.out _ _ (HS.out _ B82.out) (fun hHeld => ?_)
            clear hK K
            (try simp only [Act.put, List.setIfInBounds_toArray, List.set_cons_zero, List.set_cons_succ])
            clear B78 R79 R80
            generalize W77.setRow g49 #[.slice n.A0 n.l0.length n.c0, .slice n.A1 n.l1.length n.c1, .slice n.A2 n.l2.length n.c2, .slice n.A3 n.l3.length n.c3, .slice n.A4 n.l4.length n.c4] = W81 at B82 R83 R84 hHeld ⊢
            refine wpAnyH_ready (rs := [7]) (by kernel_rfl) (by simp) ?_
            refine AllReadyH.cons rfl (fun K hK => ?_) AllReadyH.nil
            refine store_step (cells := #[.int .i64 c.inp, .int .i64 c.lat.length, .int .i64 c.out.length, .int .i64 c.bad.length, .int .i64 c.con.length]) 74 rfl rfl rfl rfl R84.out (by kernel_rfl) rfl (by first | (simp [Value.oneCell']; done) | kernel_rfl) ?_
            have B86 := Aside0.mk (below_setRow B82.out L74.out #[.int .i64 c.inp, .int .i64 c.lat.length, .int .i64 c.out.length, .int .i64 c.bad.length, .int .i64 c.con.length])
            have R87 := Aside0.mk ((setRow_other W81 g72 g49 #[.int .i64 c.inp, .int .i64 c.lat.length, .int .i64 c.out.length, .int .i64 c.bad.length, .int .i64 c.con.length] (by have := NE.out; omega)).trans R83.out)
            have R88 := Aside0.mk (setRow_heap W81 g72 _ #[.int .i64 c.inp, .int .i64 c.lat.length, .int .i64 c.out.length, .int .i64 c.bad.length, .int .i64 c.con.length] _ _ R84.out)
            refine hK.out _ _ (HS.out _ B86.out) (fun hHeld => ?_)
            clear hK K
            (try simp only [Act.put, List.setIfInBounds_toArray, List.set_cons_zero, List.set_cons_succ])
            clear B82 R83 R84
            generalize W81.setRow g72 #[.int .i64 c.inp, .int .i64 c.lat.length, .int .i64 c.out.length, .int .i64 c.bad.length, .int .i64 c.con.length] = W85 at B86 R87 R88 hHeld ⊢
            refine wpAnyH_done (by kernel_rfl) ?_ _
            go_wp2_with fail
            go_meet
            exact ⟨⟨_, _, rfl, R87.out⟩, ⟨_, _, rfl, R88.out⟩, B86.out⟩
          exact AllReadyH.nil
        exact AllReadyH.nil
      refine AllReadyH.cons rfl (fun K hK => ?_) ?_
      · go_simp
        have B90 := Aside0.mk (below_allocB B4.out (.cells #[.int .i64 0, .int .i64 0, .int .i64 0, .int .i64 0, .int .i64 0] 74))
        have R92 := Aside0.mk (heap_alloc_new W3 (.cells #[.int .i64 0, .int .i64 0, .int .i64 0, .int .i64 0, .int .i64 0] 74))
        have L93 := Aside0.mk B4.out.size
        refine hK.out _ _ (HS.out _ B90.out) (fun hHeld => ?_)
        clear hK K
        (try simp only [Act.put, List.setIfInBounds_toArray, List.set_cons_zero, List.set_cons_succ])
        clear B4
        generalize W3.alloc (.cells #[.int .i64 0, .int .i64 0, .int .i64 0, .int .i64 0, .int .i64 0] 74) = W89 at B90 R92 hHeld ⊢
        generalize W3.heap.size = g91 at R92 L93 ⊢
        refine wpAnyH_ready (rs := [3, 4]) (by kernel_rfl) (by simp) ?_
        refine AllReadyH.cons rfl (fun K hK => ?_) ?_
        · go_simp
          refine (counts c _).mono ?_
          rintro e W94 ⟨rfl, hb⟩
          have B95 := Aside0.mk (below_step B90.out hb)
          refine hK.out _ _ (HS.out _ B95.out) (fun hHeld => ?_)
          clear hK K
          (try simp only [Act.put, List.setIfInBounds_toArray, List.set_cons_zero, List.set_cons_succ])
          have R96 := Aside0.mk (carryO hb R92.out)
          clear hb
          refine wpAnyH_ready (rs := [4]) (by kernel_rfl) (by simp) ?_
          refine AllReadyH.cons rfl (fun K hK => ?_) ?_
          · go_simp
            have B98 := Aside0.mk (below_allocB B95.out (.cells #[.slice none 0 0, .slice none 0 0, .slice none 0 0, .slice none 0 0, .slice none 0 0] 77))
            have R100 := Aside0.mk (heap_alloc_new W94 (.cells #[.slice none 0 0, .slice none 0 0, .slice none 0 0, .slice none 0 0, .slice none 0 0] 77))
            have L101 := Aside0.mk B95.out.size
            have R102 := Aside0.mk ((heap_alloc_old W94 (.cells #[.slice none 0 0, .slice none 0 0, .slice none 0 0, .slice none 0 0, .slice none 0 0] 77) (Array.getElem?_eq_some_iff.1 R96.out).1).trans R96.out)
            have NE := Aside0.mk (Nat.ne_of_lt (Array.getElem?_eq_some_iff.1 R96.out).1)
            refine hK.out _ _ (HS.out _ B98.out) (fun hHeld => ?_)
            clear hK K
            (try simp only [Act.put, List.setIfInBounds_toArray, List.set_cons_zero, List.set_cons_succ])
            clear B95 R96
            generalize W94.alloc (.cells #[.slice none 0 0, .slice none 0 0, .slice none 0 0, .slice none 0 0, .slice none 0 0] 77) = W97 at B98 R100 R102 hHeld ⊢
            generalize W94.heap.size = g99 at R100 L101 NE ⊢
            refine wpAnyH_ready (rs := [6]) (by kernel_rfl) (by simp) ?_
            refine AllReadyH.cons rfl (fun K hK => ?_) AllReadyH.nil
            refine store_step (cells := #[.slice n.A0 n.l0.length n.c0, .slice n.A1 n.l1.length n.c1, .slice n.A2 n.l2.length n.c2, .slice n.A3 n.l3.length n.c3, .slice n.A4 n.l4.length n.c4]) 77 rfl rfl rfl rfl R100.out (by kernel_rfl) rfl (by first | (simp [Value.oneCell']; done) | kernel_rfl) ?_
            have B105 := Aside0.mk (below_setRow B98.out L101.out #[.slice n.A0 n.l0.length n.c0, .slice n.A1 n.l1.length n.c1, .slice n.A2 n.l2.length n.c2, .slice n.A3 n.l3.length n.c3, .slice n.A4 n.l4.length n.c4])
            have R106 := Aside0.mk ((setRow_other W97 g99 g91 #[.slice n.A0 n.l0.length n.c0, .slice n.A1 n.l1.length n.c1, .slice n.A2 n.l2.length n.c2, .slice n.A3 n.l3.length n.c3, .slice n.A4 n.l4.length n.c4] (by have := NE.out; omega)).trans R102.out)
            have R107 := Aside0.mk (setRow_heap W97 g99 _ #[.slice n.A0 n.l0.length n.c0, .slice n.A1 n.l1.length n.c1, .slice n.A2 n.l2.length n.c2, .slice n.A3 n.l3.length n.c3, .slice n.A4 n.l4.length n.c4] _ _ R100.out)
            refine hK.out _ _ (HS.out _ B105.out) (fun hHeld => ?_)
            clear hK K
            (try simp only [Act.put, List.setIfInBounds_toArray, List.set_cons_zero, List.set_cons_succ])
            clear B98 R102 R100
            generalize W97.setRow g99 #[.slice n.A0 n.l0.length n.c0, .slice n.A1 n.l1.length n.c1, .slice n.A2 n.l2.length n.c2, .slice n.A3 n.l3.length n.c3, .slice n.A4 n.l4.length n.c4] = W104 at B105 R106 R107 hHeld ⊢
            refine wpAnyH_ready (rs := [7]) (by kernel_rfl) (by simp) ?_
            refine AllReadyH.cons rfl (fun K hK => ?_) AllReadyH.nil
            refine store_step (cells := #[.int .i64 c.inp, .int .i64 c.lat.length, .int .i64 c.out.length, .int .i64 c.bad.length, .int .i64 c.con.length]) 74 rfl rfl rfl rfl R106.out (by kernel_rfl) rfl (by first | (simp [Value.oneCell']; done) | kernel_rfl) ?_
            have B109 := Aside0.mk (below_setRow B105.out L93.out #[.int .i64 c.inp, .int .i64 c.lat.length, .int .i64 c.out.length, .int .i64 c.bad.length, .int .i64 c.con.length])
            have R110 := Aside0.mk (setRow_heap W104 g91 _ #[.int .i64 c.inp, .int .i64 c.lat.length, .int .i64 c.out.length, .int .i64 c.bad.length, .int .i64 c.con.length] _ _ R106.out)
            have R111 := Aside0.mk ((setRow_other W104 g91 g99 #[.int .i64 c.inp, .int .i64 c.lat.length, .int .i64 c.out.length, .int .i64 c.bad.length, .int .i64 c.con.length] (by have := NE.out; omega)).trans R107.out)
            refine hK.out _ _ (HS.out _ B109.out) (fun hHeld => ?_)
            clear hK K
            (try simp only [Act.put, List.setIfInBounds_toArray, List.set_cons_zero, List.set_cons_succ])
            clear B105 R106 R107
            generalize W104.setRow g91 #[.int .i64 c.inp, .int .i64 c.lat.length, .int .i64 c.out.length, .int .i64 c.bad.length, .int .i64 c.con.length] = W108 at B109 R110 R111 hHeld ⊢
            refine wpAnyH_done (by kernel_rfl) ?_ _
            go_wp2_with fail
            go_meet
            exact ⟨⟨_, _, rfl, R111.out⟩, ⟨_, _, rfl, R110.out⟩, B109.out⟩
          exact AllReadyH.nil
        refine AllReadyH.cons rfl (fun K hK => ?_) ?_
        · go_simp
          have B113 := Aside0.mk (below_allocB B90.out (.cells #[.slice none 0 0, .slice none 0 0, .slice none 0 0, .slice none 0 0, .slice none 0 0] 77))
          have R115 := Aside0.mk (heap_alloc_new W89 (.cells #[.slice none 0 0, .slice none 0 0, .slice none 0 0, .slice none 0 0, .slice none 0 0] 77))
          have L116 := Aside0.mk B90.out.size
          have R117 := Aside0.mk ((heap_alloc_old W89 (.cells #[.slice none 0 0, .slice none 0 0, .slice none 0 0, .slice none 0 0, .slice none 0 0] 77) (Array.getElem?_eq_some_iff.1 R92.out).1).trans R92.out)
          have NE := Aside0.mk (Nat.ne_of_lt (Array.getElem?_eq_some_iff.1 R92.out).1)
          refine hK.out _ _ (HS.out _ B113.out) (fun hHeld => ?_)
          clear hK K
          (try simp only [Act.put, List.setIfInBounds_toArray, List.set_cons_zero, List.set_cons_succ])
          clear B90 R92
          generalize W89.alloc (.cells #[.slice none 0 0, .slice none 0 0, .slice none 0 0, .slice none 0 0, .slice none 0 0] 77) = W112 at B113 R115 R117 hHeld ⊢
          generalize W89.heap.size = g114 at R115 L116 NE ⊢
          refine wpAnyH_ready (rs := [3]) (by kernel_rfl) (by simp) ?_
          refine AllReadyH.cons rfl (fun K hK => ?_) ?_
          · go_simp
            refine (counts c _).mono ?_
            rintro e W119 ⟨rfl, hb⟩
            have B120 := Aside0.mk (below_step B113.out hb)
            refine hK.out _ _ (HS.out _ B120.out) (fun hHeld => ?_)
            clear hK K
            (try simp only [Act.put, List.setIfInBounds_toArray, List.set_cons_zero, List.set_cons_succ])
            have R121 := Aside0.mk (carryO hb R117.out)
            have R122 := Aside0.mk (carryO hb R115.out)
            clear hb
            refine wpAnyH_ready (rs := [6]) (by kernel_rfl) (by simp) ?_
            refine AllReadyH.cons rfl (fun K hK => ?_) AllReadyH.nil
            refine store_step (cells := #[.slice n.A0 n.l0.length n.c0, .slice n.A1 n.l1.length n.c1, .slice n.A2 n.l2.length n.c2, .slice n.A3 n.l3.length n.c3, .slice n.A4 n.l4.length n.c4]) 77 rfl rfl rfl rfl R122.out (by kernel_rfl) rfl (by first | (simp [Value.oneCell']; done) | kernel_rfl) ?_
            have B124 := Aside0.mk (below_setRow B120.out L116.out #[.slice n.A0 n.l0.length n.c0, .slice n.A1 n.l1.length n.c1, .slice n.A2 n.l2.length n.c2, .slice n.A3 n.l3.length n.c3, .slice n.A4 n.l4.length n.c4])
            have R125 := Aside0.mk ((setRow_other W119 g114 g91 #[.slice n.A0 n.l0.length n.c0, .slice n.A1 n.l1.length n.c1, .slice n.A2 n.l2.length n.c2, .slice n.A3 n.l3.length n.c3, .slice n.A4 n.l4.length n.c4] (by have := NE.out; omega)).trans R121.out)
            have R126 := Aside0.mk (setRow_heap W119 g114 _ #[.slice n.A0 n.l0.length n.c0, .slice n.A1 n.l1.length n.c1, .slice n.A2 n.l2.length n.c2, .slice n.A3 n.l3.length n.c3, .slice n.A4 n.l4.length n.c4] _ _ R122.out)
            refine hK.out _ _ (HS.out _ B124.out) (fun hHeld => ?_)
            clear hK K
            (try simp only [Act.put, List.setIfInBounds_toArray, List.set_cons_zero, List.set_cons_succ])
            clear B120 R121 R122
            generalize W119.setRow g114 #[.slice n.A0 n.l0.length n.c0, .slice n.A1 n.l1.length n.c1, .slice n.A2 n.l2.length n.c2, .slice n.A3 n.l3.length n.c3, .slice n.A4 n.l4.length n.c4] = W123 at B124 R125 R126 hHeld ⊢
            refine wpAnyH_ready (rs := [7]) (by kernel_rfl) (by simp) ?_
            refine AllReadyH.cons rfl (fun K hK => ?_) AllReadyH.nil
            refine store_step (cells := #[.int .i64 c.inp, .int .i64 c.lat.length, .int .i64 c.out.length, .int .i64 c.bad.length, .int .i64 c.con.length]) 74 rfl rfl rfl rfl R125.out (by kernel_rfl) rfl (by first | (simp [Value.oneCell']; done) | kernel_rfl) ?_
            have B128 := Aside0.mk (below_setRow B124.out L93.out #[.int .i64 c.inp, .int .i64 c.lat.length, .int .i64 c.out.length, .int .i64 c.bad.length, .int .i64 c.con.length])
            have R129 := Aside0.mk (setRow_heap W123 g91 _ #[.int .i64 c.inp, .int .i64 c.lat.length, .int .i64 c.out.length, .int .i64 c.bad.length, .int .i64 c.con.length] _ _ R125.out)
            have R130 := Aside0.mk ((setRow_other W123 g91 g114 #[.int .i64 c.inp, .int .i64 c.lat.length, .int .i64 c.out.length, .int .i64 c.bad.length, .int .i64 c.con.length] (by have := NE.out; omega)).trans R126.out)
            refine hK.out _ _ (HS.out _ B128.out) (fun hHeld => ?_)
            clear hK K
            (try simp only [Act.put, List.setIfInBounds_toArray, List.set_cons_zero, List.set_cons_succ])
            clear B124 R125 R126
            generalize W123.setRow g91 #[.int .i64 c.inp, .int .i64 c.lat.length, .int .i64 c.out.length, .int .i64 c.bad.length, .int .i64 c.con.length] = W127 at B128 R129 R130 hHeld ⊢
            refine wpAnyH_done (by kernel_rfl) ?_ _
            go_wp2_with fail
            go_meet
            exact ⟨⟨_, _, rfl, R130.out⟩, ⟨_, _, rfl, R129.out⟩, B128.out⟩
          exact AllReadyH.nil
        exact AllReadyH.nil
      exact AllReadyH.nil
    refine AllReadyH.cons rfl (fun K hK => ?_) ?_
    · go_simp
      have B132 := Aside0.mk (below_allocB B0.out (.cells #[.slice none 0 0, .slice none 0 0, .slice none 0 0, .slice none 0 0, .slice none 0 0] 77))
      have R134 := Aside0.mk (heap_alloc_new W0 (.cells #[.slice none 0 0, .slice none 0 0, .slice none 0 0, .slice none 0 0, .slice none 0 0] 77))
      have L135 := Aside0.mk B0.out.size
      refine hK.out _ _ (HS.out _ B132.out) (fun hHeld => ?_)
      clear hK K
      (try simp only [Act.put, List.setIfInBounds_toArray, List.set_cons_zero, List.set_cons_succ])
      clear B0
      generalize W0.alloc (.cells #[.slice none 0 0, .slice none 0 0, .slice none 0 0, .slice none 0 0, .slice none 0 0] 77) = W131 at B132 R134 hHeld ⊢
      generalize W0.heap.size = g133 at R134 L135 ⊢
      refine wpAnyH_ready (rs := [1, 5]) (by kernel_rfl) (by simp) ?_
      refine AllReadyH.cons rfl (fun K hK => ?_) ?_
      · go_simp
        refine (lists n _).mono ?_
        rintro e W136 ⟨rfl, hb⟩
        have B137 := Aside0.mk (below_step B132.out hb)
        refine hK.out _ _ (HS.out _ B137.out) (fun hHeld => ?_)
        clear hK K
        (try simp only [Act.put, List.setIfInBounds_toArray, List.set_cons_zero, List.set_cons_succ])
        have R138 := Aside0.mk (carryO hb R134.out)
        clear hb
        refine wpAnyH_ready (rs := [3, 5]) (by kernel_rfl) (by simp) ?_
        refine AllReadyH.cons rfl (fun K hK => ?_) ?_
        · go_simp
          refine (counts c _).mono ?_
          rintro e W139 ⟨rfl, hb⟩
          have B140 := Aside0.mk (below_step B137.out hb)
          refine hK.out _ _ (HS.out _ B140.out) (fun hHeld => ?_)
          clear hK K
          (try simp only [Act.put, List.setIfInBounds_toArray, List.set_cons_zero, List.set_cons_succ])
          have R141 := Aside0.mk (carryO hb R138.out)
          clear hb
          refine wpAnyH_ready (rs := [5]) (by kernel_rfl) (by simp) ?_
          refine AllReadyH.cons rfl (fun K hK => ?_) ?_
          · go_simp
            have B143 := Aside0.mk (below_allocB B140.out (.cells #[.int .i64 0, .int .i64 0, .int .i64 0, .int .i64 0, .int .i64 0] 74))
            have R145 := Aside0.mk (heap_alloc_new W139 (.cells #[.int .i64 0, .int .i64 0, .int .i64 0, .int .i64 0, .int .i64 0] 74))
            have L146 := Aside0.mk B140.out.size
            have R147 := Aside0.mk ((heap_alloc_old W139 (.cells #[.int .i64 0, .int .i64 0, .int .i64 0, .int .i64 0, .int .i64 0] 74) (Array.getElem?_eq_some_iff.1 R141.out).1).trans R141.out)
            have NE := Aside0.mk (Nat.ne_of_lt (Array.getElem?_eq_some_iff.1 R141.out).1)
            refine hK.out _ _ (HS.out _ B143.out) (fun hHeld => ?_)
            clear hK K
            (try simp only [Act.put, List.setIfInBounds_toArray, List.set_cons_zero, List.set_cons_succ])
            clear B140 R141
            generalize W139.alloc (.cells #[.int .i64 0, .int .i64 0, .int .i64 0, .int .i64 0, .int .i64 0] 74) = W142 at B143 R145 R147 hHeld ⊢
            generalize W139.heap.size = g144 at R145 L146 NE ⊢
            refine wpAnyH_ready (rs := [6]) (by kernel_rfl) (by simp) ?_
            refine AllReadyH.cons rfl (fun K hK => ?_) AllReadyH.nil
            refine store_step (cells := #[.slice n.A0 n.l0.length n.c0, .slice n.A1 n.l1.length n.c1, .slice n.A2 n.l2.length n.c2, .slice n.A3 n.l3.length n.c3, .slice n.A4 n.l4.length n.c4]) 77 rfl rfl rfl rfl R147.out (by kernel_rfl) rfl (by first | (simp [Value.oneCell']; done) | kernel_rfl) ?_
            have B150 := Aside0.mk (below_setRow B143.out L135.out #[.slice n.A0 n.l0.length n.c0, .slice n.A1 n.l1.length n.c1, .slice n.A2 n.l2.length n.c2, .slice n.A3 n.l3.length n.c3, .slice n.A4 n.l4.length n.c4])
            have R151 := Aside0.mk (setRow_heap W142 g133 _ #[.slice n.A0 n.l0.length n.c0, .slice n.A1 n.l1.length n.c1, .slice n.A2 n.l2.length n.c2, .slice n.A3 n.l3.length n.c3, .slice n.A4 n.l4.length n.c4] _ _ R147.out)
            have R152 := Aside0.mk ((setRow_other W142 g133 g144 #[.slice n.A0 n.l0.length n.c0, .slice n.A1 n.l1.length n.c1, .slice n.A2 n.l2.length n.c2, .slice n.A3 n.l3.length n.c3, .slice n.A4 n.l4.length n.c4] (by have := NE.out; omega)).trans R145.out)
            refine hK.out _ _ (HS.out _ B150.out) (fun hHeld => ?_)
            clear hK K
            (try simp only [Act.put, List.setIfInBounds_toArray, List.set_cons_zero, List.set_cons_succ])
            clear B143 R147 R145
            generalize W142.setRow g133 #[.slice n.A0 n.l0.length n.c0, .slice n.A1 n.l1.length n.c1, .slice n.A2 n.l2.length n.c2, .slice n.A3 n.l3.length n.c3, .slice n.A4 n.l4.length n.c4] = W149 at B150 R151 R152 hHeld ⊢
            refine wpAnyH_ready (rs := [7]) (by kernel_rfl) (by simp) ?_
            refine AllReadyH.cons rfl (fun K hK => ?_) AllReadyH.nil
            refine store_step (cells := #[.int .i64 c.inp, .int .i64 c.lat.length, .int .i64 c.out.length, .int .i64 c.bad.length, .int .i64 c.con.length]) 74 rfl rfl rfl rfl R152.out (by kernel_rfl) rfl (by first | (simp [Value.oneCell']; done) | kernel_rfl) ?_
            have B154 := Aside0.mk (below_setRow B150.out L146.out #[.int .i64 c.inp, .int .i64 c.lat.length, .int .i64 c.out.length, .int .i64 c.bad.length, .int .i64 c.con.length])
            have R155 := Aside0.mk ((setRow_other W149 g144 g133 #[.int .i64 c.inp, .int .i64 c.lat.length, .int .i64 c.out.length, .int .i64 c.bad.length, .int .i64 c.con.length] (by have := NE.out; omega)).trans R151.out)
            have R156 := Aside0.mk (setRow_heap W149 g144 _ #[.int .i64 c.inp, .int .i64 c.lat.length, .int .i64 c.out.length, .int .i64 c.bad.length, .int .i64 c.con.length] _ _ R152.out)
            refine hK.out _ _ (HS.out _ B154.out) (fun hHeld => ?_)
            clear hK K
            (try simp only [Act.put, List.setIfInBounds_toArray, List.set_cons_zero, List.set_cons_succ])
            clear B150 R151 R152
            generalize W149.setRow g144 #[.int .i64 c.inp, .int .i64 c.lat.length, .int .i64 c.out.length, .int .i64 c.bad.length, .int .i64 c.con.length] = W153 at B154 R155 R156 hHeld ⊢
            refine wpAnyH_done (by kernel_rfl) ?_ _
            go_wp2_with fail
            go_meet
            exact ⟨⟨_, _, rfl, R155.out⟩, ⟨_, _, rfl, R156.out⟩, B154.out⟩
          exact AllReadyH.nil
        refine AllReadyH.cons rfl (fun K hK => ?_) ?_
        · go_simp
          have B158 := Aside0.mk (below_allocB B137.out (.cells #[.int .i64 0, .int .i64 0, .int .i64 0, .int .i64 0, .int .i64 0] 74))
          have R160 := Aside0.mk (heap_alloc_new W136 (.cells #[.int .i64 0, .int .i64 0, .int .i64 0, .int .i64 0, .int .i64 0] 74))
          have L161 := Aside0.mk B137.out.size
          have R162 := Aside0.mk ((heap_alloc_old W136 (.cells #[.int .i64 0, .int .i64 0, .int .i64 0, .int .i64 0, .int .i64 0] 74) (Array.getElem?_eq_some_iff.1 R138.out).1).trans R138.out)
          have NE := Aside0.mk (Nat.ne_of_lt (Array.getElem?_eq_some_iff.1 R138.out).1)
          refine hK.out _ _ (HS.out _ B158.out) (fun hHeld => ?_)
          clear hK K
          (try simp only [Act.put, List.setIfInBounds_toArray, List.set_cons_zero, List.set_cons_succ])
          clear B137 R138
          generalize W136.alloc (.cells #[.int .i64 0, .int .i64 0, .int .i64 0, .int .i64 0, .int .i64 0] 74) = W157 at B158 R160 R162 hHeld ⊢
          generalize W136.heap.size = g159 at R160 L161 NE ⊢
          refine wpAnyH_ready (rs := [3]) (by kernel_rfl) (by simp) ?_
          refine AllReadyH.cons rfl (fun K hK => ?_) ?_
          · go_simp
            refine (counts c _).mono ?_
            rintro e W164 ⟨rfl, hb⟩
            have B165 := Aside0.mk (below_step B158.out hb)
            refine hK.out _ _ (HS.out _ B165.out) (fun hHeld => ?_)
            clear hK K
            (try simp only [Act.put, List.setIfInBounds_toArray, List.set_cons_zero, List.set_cons_succ])
            have R166 := Aside0.mk (carryO hb R162.out)
            have R167 := Aside0.mk (carryO hb R160.out)
            clear hb
            refine wpAnyH_ready (rs := [6]) (by kernel_rfl) (by simp) ?_
            refine AllReadyH.cons rfl (fun K hK => ?_) AllReadyH.nil
            refine store_step (cells := #[.slice n.A0 n.l0.length n.c0, .slice n.A1 n.l1.length n.c1, .slice n.A2 n.l2.length n.c2, .slice n.A3 n.l3.length n.c3, .slice n.A4 n.l4.length n.c4]) 77 rfl rfl rfl rfl R166.out (by kernel_rfl) rfl (by first | (simp [Value.oneCell']; done) | kernel_rfl) ?_
            have B169 := Aside0.mk (below_setRow B165.out L135.out #[.slice n.A0 n.l0.length n.c0, .slice n.A1 n.l1.length n.c1, .slice n.A2 n.l2.length n.c2, .slice n.A3 n.l3.length n.c3, .slice n.A4 n.l4.length n.c4])
            have R170 := Aside0.mk (setRow_heap W164 g133 _ #[.slice n.A0 n.l0.length n.c0, .slice n.A1 n.l1.length n.c1, .slice n.A2 n.l2.length n.c2, .slice n.A3 n.l3.length n.c3, .slice n.A4 n.l4.length n.c4] _ _ R166.out)
            have R171 := Aside0.mk ((setRow_other W164 g133 g159 #[.slice n.A0 n.l0.length n.c0, .slice n.A1 n.l1.length n.c1, .slice n.A2 n.l2.length n.c2, .slice n.A3 n.l3.length n.c3, .slice n.A4 n.l4.length n.c4] (by have := NE.out; omega)).trans R167.out)
            refine hK.out _ _ (HS.out _ B169.out) (fun hHeld => ?_)
            clear hK K
            (try simp only [Act.put, List.setIfInBounds_toArray, List.set_cons_zero, List.set_cons_succ])
            clear B165 R166 R167
            generalize W164.setRow g133 #[.slice n.A0 n.l0.length n.c0, .slice n.A1 n.l1.length n.c1, .slice n.A2 n.l2.length n.c2, .slice n.A3 n.l3.length n.c3, .slice n.A4 n.l4.length n.c4] = W168 at B169 R170 R171 hHeld ⊢
            refine wpAnyH_ready (rs := [7]) (by kernel_rfl) (by simp) ?_
            refine AllReadyH.cons rfl (fun K hK => ?_) AllReadyH.nil
            refine store_step (cells := #[.int .i64 c.inp, .int .i64 c.lat.length, .int .i64 c.out.length, .int .i64 c.bad.length, .int .i64 c.con.length]) 74 rfl rfl rfl rfl R171.out (by kernel_rfl) rfl (by first | (simp [Value.oneCell']; done) | kernel_rfl) ?_
            have B173 := Aside0.mk (below_setRow B169.out L161.out #[.int .i64 c.inp, .int .i64 c.lat.length, .int .i64 c.out.length, .int .i64 c.bad.length, .int .i64 c.con.length])
            have R174 := Aside0.mk ((setRow_other W168 g159 g133 #[.int .i64 c.inp, .int .i64 c.lat.length, .int .i64 c.out.length, .int .i64 c.bad.length, .int .i64 c.con.length] (by have := NE.out; omega)).trans R170.out)
            have R175 := Aside0.mk (setRow_heap W168 g159 _ #[.int .i64 c.inp, .int .i64 c.lat.length, .int .i64 c.out.length, .int .i64 c.bad.length, .int .i64 c.con.length] _ _ R171.out)
            refine hK.out _ _ (HS.out _ B173.out) (fun hHeld => ?_)
            clear hK K
            (try simp only [Act.put, List.setIfInBounds_toArray, List.set_cons_zero, List.set_cons_succ])
            clear B169 R170 R171
            generalize W168.setRow g159 #[.int .i64 c.inp, .int .i64 c.lat.length, .int .i64 c.out.length, .int .i64 c.bad.length, .int .i64 c.con.length] = W172 at B173 R174 R175 hHeld ⊢
            refine wpAnyH_done (by kernel_rfl) ?_ _
            go_wp2_with fail
            go_meet
            exact ⟨⟨_, _, rfl, R174.out⟩, ⟨_, _, rfl, R175.out⟩, B173.out⟩
          exact AllReadyH.nil
        exact AllReadyH.nil
      refine AllReadyH.cons rfl (fun K hK => ?_) ?_
      · go_simp
        have B177 := Aside0.mk (below_allocB B132.out (.cells #[.int .i64 0, .int .i64 0, .int .i64 0, .int .i64 0, .int .i64 0] 74))
        have R179 := Aside0.mk (heap_alloc_new W131 (.cells #[.int .i64 0, .int .i64 0, .int .i64 0, .int .i64 0, .int .i64 0] 74))
        have L180 := Aside0.mk B132.out.size
        have R181 := Aside0.mk ((heap_alloc_old W131 (.cells #[.int .i64 0, .int .i64 0, .int .i64 0, .int .i64 0, .int .i64 0] 74) (Array.getElem?_eq_some_iff.1 R134.out).1).trans R134.out)
        have NE := Aside0.mk (Nat.ne_of_lt (Array.getElem?_eq_some_iff.1 R134.out).1)
        refine hK.out _ _ (HS.out _ B177.out) (fun hHeld => ?_)
        clear hK K
        (try simp only [Act.put, List.setIfInBounds_toArray, List.set_cons_zero, List.set_cons_succ])
        clear B132 R134
        generalize W131.alloc (.cells #[.int .i64 0, .int .i64 0, .int .i64 0, .int .i64 0, .int .i64 0] 74) = W176 at B177 R179 R181 hHeld ⊢
        generalize W131.heap.size = g178 at R179 L180 NE ⊢
        refine wpAnyH_ready (rs := [1]) (by kernel_rfl) (by simp) ?_
        refine AllReadyH.cons rfl (fun K hK => ?_) ?_
        · go_simp
          refine (lists n _).mono ?_
          rintro e W183 ⟨rfl, hb⟩
          have B184 := Aside0.mk (below_step B177.out hb)
          refine hK.out _ _ (HS.out _ B184.out) (fun hHeld => ?_)
          clear hK K
          (try simp only [Act.put, List.setIfInBounds_toArray, List.set_cons_zero, List.set_cons_succ])
          have R185 := Aside0.mk (carryO hb R181.out)
          have R186 := Aside0.mk (carryO hb R179.out)
          clear hb
          refine wpAnyH_ready (rs := [3]) (by kernel_rfl) (by simp) ?_
          refine AllReadyH.cons rfl (fun K hK => ?_) ?_
          · go_simp
            refine (counts c _).mono ?_
            rintro e W187 ⟨rfl, hb⟩
            have B188 := Aside0.mk (below_step B184.out hb)
            refine hK.out _ _ (HS.out _ B188.out) (fun hHeld => ?_)
            clear hK K
            (try simp only [Act.put, List.setIfInBounds_toArray, List.set_cons_zero, List.set_cons_succ])
            have R189 := Aside0.mk (carryO hb R185.out)
            have R190 := Aside0.mk (carryO hb R186.out)
            clear hb
            refine wpAnyH_ready (rs := [6]) (by kernel_rfl) (by simp) ?_
            refine AllReadyH.cons rfl (fun K hK => ?_) AllReadyH.nil
            refine store_step (cells := #[.slice n.A0 n.l0.length n.c0, .slice n.A1 n.l1.length n.c1, .slice n.A2 n.l2.length n.c2, .slice n.A3 n.l3.length n.c3, .slice n.A4 n.l4.length n.c4]) 77 rfl rfl rfl rfl R189.out (by kernel_rfl) rfl (by first | (simp [Value.oneCell']; done) | kernel_rfl) ?_
            have B192 := Aside0.mk (below_setRow B188.out L135.out #[.slice n.A0 n.l0.length n.c0, .slice n.A1 n.l1.length n.c1, .slice n.A2 n.l2.length n.c2, .slice n.A3 n.l3.length n.c3, .slice n.A4 n.l4.length n.c4])
            have R193 := Aside0.mk (setRow_heap W187 g133 _ #[.slice n.A0 n.l0.length n.c0, .slice n.A1 n.l1.length n.c1, .slice n.A2 n.l2.length n.c2, .slice n.A3 n.l3.length n.c3, .slice n.A4 n.l4.length n.c4] _ _ R189.out)
            have R194 := Aside0.mk ((setRow_other W187 g133 g178 #[.slice n.A0 n.l0.length n.c0, .slice n.A1 n.l1.length n.c1, .slice n.A2 n.l2.length n.c2, .slice n.A3 n.l3.length n.c3, .slice n.A4 n.l4.length n.c4] (by have := NE.out; omega)).trans R190.out)
            refine hK.out _ _ (HS.out _ B192.out) (fun hHeld => ?_)
            clear hK K
            (try simp only [Act.put, List.setIfInBounds_toArray, List.set_cons_zero, List.set_cons_succ])
            clear B188 R189 R190
            generalize W187.setRow g133 #[.slice n.A0 n.l0.length n.c0, .slice n.A1 n.l1.length n.c1, .slice n.A2 n.l2.length n.c2, .slice n.A3 n.l3.length n.c3, .slice n.A4 n.l4.length n.c4] = W191 at B192 R193 R194 hHeld ⊢
            refine wpAnyH_ready (rs := [7]) (by kernel_rfl) (by simp) ?_
            refine AllReadyH.cons rfl (fun K hK => ?_) AllReadyH.nil
            refine store_step (cells := #[.int .i64 c.inp, .int .i64 c.lat.length, .int .i64 c.out.length, .int .i64 c.bad.length, .int .i64 c.con.length]) 74 rfl rfl rfl rfl R194.out (by kernel_rfl) rfl (by first | (simp [Value.oneCell']; done) | kernel_rfl) ?_
            have B196 := Aside0.mk (below_setRow B192.out L180.out #[.int .i64 c.inp, .int .i64 c.lat.length, .int .i64 c.out.length, .int .i64 c.bad.length, .int .i64 c.con.length])
            have R197 := Aside0.mk ((setRow_other W191 g178 g133 #[.int .i64 c.inp, .int .i64 c.lat.length, .int .i64 c.out.length, .int .i64 c.bad.length, .int .i64 c.con.length] (by have := NE.out; omega)).trans R193.out)
            have R198 := Aside0.mk (setRow_heap W191 g178 _ #[.int .i64 c.inp, .int .i64 c.lat.length, .int .i64 c.out.length, .int .i64 c.bad.length, .int .i64 c.con.length] _ _ R194.out)
            refine hK.out _ _ (HS.out _ B196.out) (fun hHeld => ?_)
            clear hK K
            (try simp only [Act.put, List.setIfInBounds_toArray, List.set_cons_zero, List.set_cons_succ])
            clear B192 R193 R194
            generalize W191.setRow g178 #[.int .i64 c.inp, .int .i64 c.lat.length, .int .i64 c.out.length, .int .i64 c.bad.length, .int .i64 c.con.length] = W195 at B196 R197 R198 hHeld ⊢
            refine wpAnyH_done (by kernel_rfl) ?_ _
            go_wp2_with fail
            go_meet
            exact ⟨⟨_, _, rfl, R197.out⟩, ⟨_, _, rfl, R198.out⟩, B196.out⟩
          exact AllReadyH.nil
        exact AllReadyH.nil
      exact AllReadyH.nil
    refine AllReadyH.cons rfl (fun K hK => ?_) ?_
    · go_simp
      have B200 := Aside0.mk (below_allocB B0.out (.cells #[.int .i64 0, .int .i64 0, .int .i64 0, .int .i64 0, .int .i64 0] 74))
      have R202 := Aside0.mk (heap_alloc_new W0 (.cells #[.int .i64 0, .int .i64 0, .int .i64 0, .int .i64 0, .int .i64 0] 74))
      have L203 := Aside0.mk B0.out.size
      refine hK.out _ _ (HS.out _ B200.out) (fun hHeld => ?_)
      clear hK K
      (try simp only [Act.put, List.setIfInBounds_toArray, List.set_cons_zero, List.set_cons_succ])
      clear B0
      generalize W0.alloc (.cells #[.int .i64 0, .int .i64 0, .int .i64 0, .int .i64 0, .int .i64 0] 74) = W199 at B200 R202 hHeld ⊢
      generalize W0.heap.size = g201 at R202 L203 ⊢
      refine wpAnyH_ready (rs := [1, 4]) (by kernel_rfl) (by simp) ?_
      refine AllReadyH.cons rfl (fun K hK => ?_) ?_
      · go_simp
        refine (lists n _).mono ?_
        rintro e W204 ⟨rfl, hb⟩
        have B205 := Aside0.mk (below_step B200.out hb)
        refine hK.out _ _ (HS.out _ B205.out) (fun hHeld => ?_)
        clear hK K
        (try simp only [Act.put, List.setIfInBounds_toArray, List.set_cons_zero, List.set_cons_succ])
        have R206 := Aside0.mk (carryO hb R202.out)
        clear hb
        refine wpAnyH_ready (rs := [3, 4]) (by kernel_rfl) (by simp) ?_
        refine AllReadyH.cons rfl (fun K hK => ?_) ?_
        · go_simp
          refine (counts c _).mono ?_
          rintro e W207 ⟨rfl, hb⟩
          have B208 := Aside0.mk (below_step B205.out hb)
          refine hK.out _ _ (HS.out _ B208.out) (fun hHeld => ?_)
          clear hK K
          (try simp only [Act.put, List.setIfInBounds_toArray, List.set_cons_zero, List.set_cons_succ])
          have R209 := Aside0.mk (carryO hb R206.out)
          clear hb
          refine wpAnyH_ready (rs := [4]) (by kernel_rfl) (by simp) ?_
          refine AllReadyH.cons rfl (fun K hK => ?_) ?_
          · go_simp
            have B211 := Aside0.mk (below_allocB B208.out (.cells #[.slice none 0 0, .slice none 0 0, .slice none 0 0, .slice none 0 0, .slice none 0 0] 77))
            have R213 := Aside0.mk (heap_alloc_new W207 (.cells #[.slice none 0 0, .slice none 0 0, .slice none 0 0, .slice none 0 0, .slice none 0 0] 77))
            have L214 := Aside0.mk B208.out.size
            have R215 := Aside0.mk ((heap_alloc_old W207 (.cells #[.slice none 0 0, .slice none 0 0, .slice none 0 0, .slice none 0 0, .slice none 0 0] 77) (Array.getElem?_eq_some_iff.1 R209.out).1).trans R209.out)
            have NE := Aside0.mk (Nat.ne_of_lt (Array.getElem?_eq_some_iff.1 R209.out).1)
            refine hK.out _ _ (HS.out _ B211.out) (fun hHeld => ?_)
            clear hK K
            (try simp only [Act.put, List.setIfInBounds_toArray, List.set_cons_zero, List.set_cons_succ])
            clear B208 R209
            generalize W207.alloc (.cells #[.slice none 0 0, .slice none 0 0, .slice none 0 0, .slice none 0 0, .slice none 0 0] 77) = W210 at B211 R213 R215 hHeld ⊢
            generalize W207.heap.size = g212 at R213 L214 NE ⊢
            refine wpAnyH_ready (rs := [6]) (by kernel_rfl) (by simp) ?_
            refine AllReadyH.cons rfl (fun K hK => ?_) AllReadyH.nil
            refine store_step (cells := #[.slice n.A0 n.l0.length n.c0, .slice n.A1 n.l1.length n.c1, .slice n.A2 n.l2.length n.c2, .slice n.A3 n.l3.length n.c3, .slice n.A4 n.l4.length n.c4]) 77 rfl rfl rfl rfl R213.out (by kernel_rfl) rfl (by first | (simp [Value.oneCell']; done) | kernel_rfl) ?_
            have B218 := Aside0.mk (below_setRow B211.out L214.out #[.slice n.A0 n.l0.length n.c0, .slice n.A1 n.l1.length n.c1, .slice n.A2 n.l2.length n.c2, .slice n.A3 n.l3.length n.c3, .slice n.A4 n.l4.length n.c4])
            have R219 := Aside0.mk ((setRow_other W210 g212 g201 #[.slice n.A0 n.l0.length n.c0, .slice n.A1 n.l1.length n.c1, .slice n.A2 n.l2.length n.c2, .slice n.A3 n.l3.length n.c3, .slice n.A4 n.l4.length n.c4] (by have := NE.out; omega)).trans R215.out)
            have R220 := Aside0.mk (setRow_heap W210 g212 _ #[.slice n.A0 n.l0.length n.c0, .slice n.A1 n.l1.length n.c1, .slice n.A2 n.l2.length n.c2, .slice n.A3 n.l3.length n.c3, .slice n.A4 n.l4.length n.c4] _ _ R213.out)
            refine hK.out _ _ (HS.out _ B218.out) (fun hHeld => ?_)
            clear hK K
            (try simp only [Act.put, List.setIfInBounds_toArray, List.set_cons_zero, List.set_cons_succ])
            clear B211 R215 R213
            generalize W210.setRow g212 #[.slice n.A0 n.l0.length n.c0, .slice n.A1 n.l1.length n.c1, .slice n.A2 n.l2.length n.c2, .slice n.A3 n.l3.length n.c3, .slice n.A4 n.l4.length n.c4] = W217 at B218 R219 R220 hHeld ⊢
            refine wpAnyH_ready (rs := [7]) (by kernel_rfl) (by simp) ?_
            refine AllReadyH.cons rfl (fun K hK => ?_) AllReadyH.nil
            refine store_step (cells := #[.int .i64 c.inp, .int .i64 c.lat.length, .int .i64 c.out.length, .int .i64 c.bad.length, .int .i64 c.con.length]) 74 rfl rfl rfl rfl R219.out (by kernel_rfl) rfl (by first | (simp [Value.oneCell']; done) | kernel_rfl) ?_
            have B222 := Aside0.mk (below_setRow B218.out L203.out #[.int .i64 c.inp, .int .i64 c.lat.length, .int .i64 c.out.length, .int .i64 c.bad.length, .int .i64 c.con.length])
            have R223 := Aside0.mk (setRow_heap W217 g201 _ #[.int .i64 c.inp, .int .i64 c.lat.length, .int .i64 c.out.length, .int .i64 c.bad.length, .int .i64 c.con.length] _ _ R219.out)
            have R224 := Aside0.mk ((setRow_other W217 g201 g212 #[.int .i64 c.inp, .int .i64 c.lat.length, .int .i64 c.out.length, .int .i64 c.bad.length, .int .i64 c.con.length] (by have := NE.out; omega)).trans R220.out)
            refine hK.out _ _ (HS.out _ B222.out) (fun hHeld => ?_)
            clear hK K
            (try simp only [Act.put, List.setIfInBounds_toArray, List.set_cons_zero, List.set_cons_succ])
            clear B218 R219 R220
            generalize W217.setRow g201 #[.int .i64 c.inp, .int .i64 c.lat.length, .int .i64 c.out.length, .int .i64 c.bad.length, .int .i64 c.con.length] = W221 at B222 R223 R224 hHeld ⊢
            refine wpAnyH_done (by kernel_rfl) ?_ _
            go_wp2_with fail
            go_meet
            exact ⟨⟨_, _, rfl, R224.out⟩, ⟨_, _, rfl, R223.out⟩, B222.out⟩
          exact AllReadyH.nil
        refine AllReadyH.cons rfl (fun K hK => ?_) ?_
        · go_simp
          have B226 := Aside0.mk (below_allocB B205.out (.cells #[.slice none 0 0, .slice none 0 0, .slice none 0 0, .slice none 0 0, .slice none 0 0] 77))
          have R228 := Aside0.mk (heap_alloc_new W204 (.cells #[.slice none 0 0, .slice none 0 0, .slice none 0 0, .slice none 0 0, .slice none 0 0] 77))
          have L229 := Aside0.mk B205.out.size
          have R230 := Aside0.mk ((heap_alloc_old W204 (.cells #[.slice none 0 0, .slice none 0 0, .slice none 0 0, .slice none 0 0, .slice none 0 0] 77) (Array.getElem?_eq_some_iff.1 R206.out).1).trans R206.out)
          have NE := Aside0.mk (Nat.ne_of_lt (Array.getElem?_eq_some_iff.1 R206.out).1)
          refine hK.out _ _ (HS.out _ B226.out) (fun hHeld => ?_)
          clear hK K
          (try simp only [Act.put, List.setIfInBounds_toArray, List.set_cons_zero, List.set_cons_succ])
          clear B205 R206
          generalize W204.alloc (.cells #[.slice none 0 0, .slice none 0 0, .slice none 0 0, .slice none 0 0, .slice none 0 0] 77) = W225 at B226 R228 R230 hHeld ⊢
          generalize W204.heap.size = g227 at R228 L229 NE ⊢
          refine wpAnyH_ready (rs := [3]) (by kernel_rfl) (by simp) ?_
          refine AllReadyH.cons rfl (fun K hK => ?_) ?_
          · go_simp
            refine (counts c _).mono ?_
            rintro e W232 ⟨rfl, hb⟩
            have B233 := Aside0.mk (below_step B226.out hb)
            refine hK.out _ _ (HS.out _ B233.out) (fun hHeld => ?_)
            clear hK K
            (try simp only [Act.put, List.setIfInBounds_toArray, List.set_cons_zero, List.set_cons_succ])
            have R234 := Aside0.mk (carryO hb R230.out)
            have R235 := Aside0.mk (carryO hb R228.out)
            clear hb
            refine wpAnyH_ready (rs := [6]) (by kernel_rfl) (by simp) ?_
            refine AllReadyH.cons rfl (fun K hK => ?_) AllReadyH.nil
            refine store_step (cells := #[.slice n.A0 n.l0.length n.c0, .slice n.A1 n.l1.length n.c1, .slice n.A2 n.l2.length n.c2, .slice n.A3 n.l3.length n.c3, .slice n.A4 n.l4.length n.c4]) 77 rfl rfl rfl rfl R235.out (by kernel_rfl) rfl (by first | (simp [Value.oneCell']; done) | kernel_rfl) ?_
            have B237 := Aside0.mk (below_setRow B233.out L229.out #[.slice n.A0 n.l0.length n.c0, .slice n.A1 n.l1.length n.c1, .slice n.A2 n.l2.length n.c2, .slice n.A3 n.l3.length n.c3, .slice n.A4 n.l4.length n.c4])
            have R238 := Aside0.mk ((setRow_other W232 g227 g201 #[.slice n.A0 n.l0.length n.c0, .slice n.A1 n.l1.length n.c1, .slice n.A2 n.l2.length n.c2, .slice n.A3 n.l3.length n.c3, .slice n.A4 n.l4.length n.c4] (by have := NE.out; omega)).trans R234.out)
            have R239 := Aside0.mk (setRow_heap W232 g227 _ #[.slice n.A0 n.l0.length n.c0, .slice n.A1 n.l1.length n.c1, .slice n.A2 n.l2.length n.c2, .slice n.A3 n.l3.length n.c3, .slice n.A4 n.l4.length n.c4] _ _ R235.out)
            refine hK.out _ _ (HS.out _ B237.out) (fun hHeld => ?_)
            clear hK K
            (try simp only [Act.put, List.setIfInBounds_toArray, List.set_cons_zero, List.set_cons_succ])
            clear B233 R234 R235
            generalize W232.setRow g227 #[.slice n.A0 n.l0.length n.c0, .slice n.A1 n.l1.length n.c1, .slice n.A2 n.l2.length n.c2, .slice n.A3 n.l3.length n.c3, .slice n.A4 n.l4.length n.c4] = W236 at B237 R238 R239 hHeld ⊢
            refine wpAnyH_ready (rs := [7]) (by kernel_rfl) (by simp) ?_
            refine AllReadyH.cons rfl (fun K hK => ?_) AllReadyH.nil
            refine store_step (cells := #[.int .i64 c.inp, .int .i64 c.lat.length, .int .i64 c.out.length, .int .i64 c.bad.length, .int .i64 c.con.length]) 74 rfl rfl rfl rfl R238.out (by kernel_rfl) rfl (by first | (simp [Value.oneCell']; done) | kernel_rfl) ?_
            have B241 := Aside0.mk (below_setRow B237.out L203.out #[.int .i64 c.inp, .int .i64 c.lat.length, .int .i64 c.out.length, .int .i64 c.bad.length, .int .i64 c.con.length])
            have R242 := Aside0.mk (setRow_heap W236 g201 _ #[.int .i64 c.inp, .int .i64 c.lat.length, .int .i64 c.out.length, .int .i64 c.bad.length, .int .i64 c.con.length] _ _ R238.out)
            have R243 := Aside0.mk ((setRow_other W236 g201 g227 #[.int .i64 c.inp, .int .i64 c.lat.length, .int .i64 c.out.length, .int .i64 c.bad.length, .int .i64 c.con.length] (by have := NE.out; omega)).trans R239.out)
            refine hK.out _ _ (HS.out _ B241.out) (fun hHeld => ?_)
            clear hK K
            (try simp only [Act.put, List.setIfInBounds_toArray, List.set_cons_zero, List.set_cons_succ])
            clear B237 R238 R239
            generalize W236.setRow g201 #[.int .i64 c.inp, .int .i64 c.lat.length, .int .i64 c.out.length, .int .i64 c.bad.length, .int .i64 c.con.length] = W240 at B241 R242 R243 hHeld ⊢
            refine wpAnyH_done (by kernel_rfl) ?_ _
            go_wp2_with fail
            go_meet
            exact ⟨⟨_, _, rfl, R243.out⟩, ⟨_, _, rfl, R242.out⟩, B241.out⟩
          exact AllReadyH.nil
        exact AllReadyH.nil
      refine AllReadyH.cons rfl (fun K hK => ?_) ?_
      · go_simp
        have B245 := Aside0.mk (below_allocB B200.out (.cells #[.slice none 0 0, .slice none 0 0, .slice none 0 0, .slice none 0 0, .slice none 0 0] 77))
        have R247 := Aside0.mk (heap_alloc_new W199 (.cells #[.slice none 0 0, .slice none 0 0, .slice none 0 0, .slice none 0 0, .slice none 0 0] 77))
        have L248 := Aside0.mk B200.out.size
        have R249 := Aside0.mk ((heap_alloc_old W199 (.cells #[.slice none 0 0, .slice none 0 0, .slice none 0 0, .slice none 0 0, .slice none 0 0] 77) (Array.getElem?_eq_some_iff.1 R202.out).1).trans R202.out)
        have NE := Aside0.mk (Nat.ne_of_lt (Array.getElem?_eq_some_iff.1 R202.out).1)
        refine hK.out _ _ (HS.out _ B245.out) (fun hHeld => ?_)
        clear hK K
        (try simp only [Act.put, List.setIfInBounds_toArray, List.set_cons_zero, List.set_cons_succ])
        clear B200 R202
        generalize W199.alloc (.cells #[.slice none 0 0, .slice none 0 0, .slice none 0 0, .slice none 0 0, .slice none 0 0] 77) = W244 at B245 R247 R249 hHeld ⊢
        generalize W199.heap.size = g246 at R247 L248 NE ⊢
        refine wpAnyH_ready (rs := [1]) (by kernel_rfl) (by simp) ?_
        refine AllReadyH.cons rfl (fun K hK => ?_) ?_
        · go_simp
          refine (lists n _).mono ?_
          rintro e W251 ⟨rfl, hb⟩
          have B252 := Aside0.mk (below_step B245.out hb)
          refine hK.out _ _ (HS.out _ B252.out) (fun hHeld => ?_)
          clear hK K
          (try simp only [Act.put, List.setIfInBounds_toArray, List.set_cons_zero, List.set_cons_succ])
          have R253 := Aside0.mk (carryO hb R249.out)
          have R254 := Aside0.mk (carryO hb R247.out)
          clear hb
          refine wpAnyH_ready (rs := [3]) (by kernel_rfl) (by simp) ?_
          refine AllReadyH.cons rfl (fun K hK => ?_) ?_
          · go_simp
            refine (counts c _).mono ?_
            rintro e W255 ⟨rfl, hb⟩
            have B256 := Aside0.mk (below_step B252.out hb)
            refine hK.out _ _ (HS.out _ B256.out) (fun hHeld => ?_)
            clear hK K
            (try simp only [Act.put, List.setIfInBounds_toArray, List.set_cons_zero, List.set_cons_succ])
            have R257 := Aside0.mk (carryO hb R253.out)
            have R258 := Aside0.mk (carryO hb R254.out)
            clear hb
            refine wpAnyH_ready (rs := [6]) (by kernel_rfl) (by simp) ?_
            refine AllReadyH.cons rfl (fun K hK => ?_) AllReadyH.nil
            refine store_step (cells := #[.slice n.A0 n.l0.length n.c0, .slice n.A1 n.l1.length n.c1, .slice n.A2 n.l2.length n.c2, .slice n.A3 n.l3.length n.c3, .slice n.A4 n.l4.length n.c4]) 77 rfl rfl rfl rfl R258.out (by kernel_rfl) rfl (by first | (simp [Value.oneCell']; done) | kernel_rfl) ?_
            have B260 := Aside0.mk (below_setRow B256.out L248.out #[.slice n.A0 n.l0.length n.c0, .slice n.A1 n.l1.length n.c1, .slice n.A2 n.l2.length n.c2, .slice n.A3 n.l3.length n.c3, .slice n.A4 n.l4.length n.c4])
            have R261 := Aside0.mk ((setRow_other W255 g246 g201 #[.slice n.A0 n.l0.length n.c0, .slice n.A1 n.l1.length n.c1, .slice n.A2 n.l2.length n.c2, .slice n.A3 n.l3.length n.c3, .slice n.A4 n.l4.length n.c4] (by have := NE.out; omega)).trans R257.out)
            have R262 := Aside0.mk (setRow_heap W255 g246 _ #[.slice n.A0 n.l0.length n.c0, .slice n.A1 n.l1.length n.c1, .slice n.A2 n.l2.length n.c2, .slice n.A3 n.l3.length n.c3, .slice n.A4 n.l4.length n.c4] _ _ R258.out)
            refine hK.out _ _ (HS.out _ B260.out) (fun hHeld => ?_)
            clear hK K
            (try simp only [Act.put, List.setIfInBounds_toArray, List.set_cons_zero, List.set_cons_succ])
            clear B256 R257 R258
            generalize W255.setRow g246 #[.slice n.A0 n.l0.length n.c0, .slice n.A1 n.l1.length n.c1, .slice n.A2 n.l2.length n.c2, .slice n.A3 n.l3.length n.c3, .slice n.A4 n.l4.length n.c4] = W259 at B260 R261 R262 hHeld ⊢
            refine wpAnyH_ready (rs := [7]) (by kernel_rfl) (by simp) ?_
            refine AllReadyH.cons rfl (fun K hK => ?_) AllReadyH.nil
            refine store_step (cells := #[.int .i64 c.inp, .int .i64 c.lat.length, .int .i64 c.out.length, .int .i64 c.bad.length, .int .i64 c.con.length]) 74 rfl rfl rfl rfl R261.out (by kernel_rfl) rfl (by first | (simp [Value.oneCell']; done) | kernel_rfl) ?_
            have B264 := Aside0.mk (below_setRow B260.out L203.out #[.int .i64 c.inp, .int .i64 c.lat.length, .int .i64 c.out.length, .int .i64 c.bad.length, .int .i64 c.con.length])
            have R265 := Aside0.mk (setRow_heap W259 g201 _ #[.int .i64 c.inp, .int .i64 c.lat.length, .int .i64 c.out.length, .int .i64 c.bad.length, .int .i64 c.con.length] _ _ R261.out)
            have R266 := Aside0.mk ((setRow_other W259 g201 g246 #[.int .i64 c.inp, .int .i64 c.lat.length, .int .i64 c.out.length, .int .i64 c.bad.length, .int .i64 c.con.length] (by have := NE.out; omega)).trans R262.out)
            refine hK.out _ _ (HS.out _ B264.out) (fun hHeld => ?_)
            clear hK K
            (try simp only [Act.put, List.setIfInBounds_toArray, List.set_cons_zero, List.set_cons_succ])
            clear B260 R261 R262
            generalize W259.setRow g201 #[.int .i64 c.inp, .int .i64 c.lat.length, .int .i64 c.out.length, .int .i64 c.bad.length, .int .i64 c.con.length] = W263 at B264 R265 R266 hHeld ⊢
            refine wpAnyH_done (by kernel_rfl) ?_ _
            go_wp2_with fail
            go_meet
            exact ⟨⟨_, _, rfl, R266.out⟩, ⟨_, _, rfl, R265.out⟩, B264.out⟩
          exact AllReadyH.nil
        exact AllReadyH.nil
      exact AllReadyH.nil
    exact AllReadyH.nil
  case rest =>
    obtain ⟨⟨g5, fr5, rfl, h5⟩, ⟨g6, fr6, rfl, h6⟩, hbel⟩ := hcut
    have B2 := Aside0.mk (below_then HB.out HB.out.size hbel)
    have X2 := Aside0.mk (HX.out.below hbel)
    have H5 := Aside0.mk (And.intro h5 (Array.getElem?_eq_some_iff.1 h5).1)
    have H6 := Aside0.mk (And.intro h6 (Array.getElem?_eq_some_iff.1 h6).1)
    clear h5 h6 hbel HB HX HY HS
    go_wp2_with fail
    go_loopw [7, 8] (fun v7 v8 wr => ∃ k : Nat, k ≤ 5 ∧ v8 = .int .i64 k ∧ Aside0 (wr.ownsRow wc.heap.size 9 1 v7 (acc c n k).length (encs Value.string (acc c n k))) ∧ Aside0 (Below wc.heap.size wc wr)) (fun _ i _ => 5 - (intOf i).toNat)
    case atStart => exact ⟨0, Nat.zero_le _, rfl, ⟨own_nil _ _ _ _⟩, ⟨Below.refl _ _⟩⟩
    case round =>
      obtain ⟨k, hk, rfl, HO, HB⟩ := hrel
      rcases Nat.lt_or_ge k 5 with hk5 | hk5
      · have hk5' : ((k : Int) < 5) := by omega
        go_wp2_with fail
        go_loopw [7, 9] (fun v7 v9 wr => ∃ i : Nat, i ≤ c.manyN k ∧ v9 = .int .i64 i ∧ Aside0 (wr.ownsRow wc.heap.size 9 1 v7 (acc c n k ++ (List.range i).map (ownB (letterOf k))).length (encs Value.string (acc c n k ++ (List.range i).map (ownB (letterOf k))))) ∧ Aside0 (Below wc.heap.size wc wr)) (fun _ i _ => c.manyN k - (intOf i).toNat)
        case atStart => exact ⟨0, Nat.zero_le _, rfl, ⟨by simpa using HO.out⟩, HB⟩
        case round =>
          obtain ⟨i, hi, rfl, HOi, HBi⟩ := hrel
          have hcell : wr.cell? ⟨g6, k, none⟩ = some (.int .i64 (c.manyN k)) := by
            rw [← manyN_eq HSZ.out.1 k hk5]
            exact (HBi.out.cell (p := ⟨g6, k, none⟩) H6.out.2).trans (many5_at c H6.out.1 k hk5)
          rcases Nat.lt_or_ge i (c.manyN k) with hil | hil
          · have him : c.manyN k ≤ 1048576 := HSZ.out.2.1 k hk5
            have hwr : IntKind.i64.wrap ((k : Int) + 1) = (k : Int) + 1 := IntWalk.i64_in _ (by omega)
            have hcut := cut_letter k hk5
            have hcat : (9223372036854775807 < 1 + (decDigits i).length) = False := eq_false (by have := itoa_len i (by omega); rw [itoa_nonneg] at this; omega)
            go_wp2_with fail
            refine wp_region_held_drew (S := fun _ => True) (by kernel_rfl) trivial (fun hHeld => ?_)
            have HB1 := Aside0.mk (below_drew HBi.out)
            have HO1 := Aside0.mk (own_drew HOi.out)
            generalize wr.drew = W0 at HB1 HO1 ⊢
            refine take_ (i := 0) (v := ?vt1001) 29 rfl rfl (wpAnyH_take (i := 0) rfl (by kernel_rfl) (by kernel_rfl) (by kernel_rfl) (fun _ _ _ h => h) (Or.inl ⟨by rfl, ?hyt1001⟩) trivial) ?restt1001
            case hyt1001 => (intro w_ hSw; clear hSw; go_simp <;> with_reducible rfl)
            (try simp only [Act.put, List.setIfInBounds_toArray, List.set_cons_zero, List.set_cons_succ])
            refine take_ (i := 1) (v := ?vt1002) 30 rfl rfl (wpAnyH_take (i := 1) rfl (by kernel_rfl) (by kernel_rfl) (by kernel_rfl) (fun _ _ _ h => h) (Or.inl ⟨by rfl, ?hyt1002⟩) trivial) ?restt1002
            case hyt1002 => (intro w_ hSw; clear hSw; go_simp <;> with_reducible rfl)
            (try simp only [Act.put, List.setIfInBounds_toArray, List.set_cons_zero, List.set_cons_succ])
            refine take_ (i := 2) (v := ?vt1003) 31 rfl rfl (wpAnyH_take (i := 2) rfl (by kernel_rfl) (by kernel_rfl) (by kernel_rfl) (fun _ _ _ h => h) (Or.inl ⟨by rfl, ?hyt1003⟩) trivial) ?restt1003
            case hyt1003 => (intro w_ hSw; clear hSw; go_simp <;> with_reducible rfl)
            (try simp only [Act.put, List.setIfInBounds_toArray, List.set_cons_zero, List.set_cons_succ])
            refine take_ (i := 3) (v := ?vt1004) 32 rfl rfl (wpAnyH_take (i := 3) rfl (by kernel_rfl) (by kernel_rfl) (by kernel_rfl) (fun _ _ _ h => h) (Or.inl ⟨by rfl, ?hyt1004⟩) trivial) ?restt1004
            case hyt1004 => (intro w_ hSw; clear hSw; go_simp <;> with_reducible rfl)
            (try simp only [Act.put, List.setIfInBounds_toArray, List.set_cons_zero, List.set_cons_succ])
            refine take_ (i := 4) (v := ?vt1005) 33 rfl rfl (wpAnyH_take (i := 4) rfl (by kernel_rfl) (by kernel_rfl) (by kernel_rfl) (fun _ _ _ h => h) (Or.inl ⟨by rfl, ?hyt1005⟩) trivial) ?restt1005
            case hyt1005 => (intro w_ hSw; clear hSw; go_simp <;> with_reducible rfl)
            (try simp only [Act.put, List.setIfInBounds_toArray, List.set_cons_zero, List.set_cons_succ])
            refine take_ (i := 5) (v := ?vt1006) 34 rfl rfl (wpAnyH_take (i := 5) rfl (by kernel_rfl) (by kernel_rfl) (by kernel_rfl) (fun _ _ _ h => h) (Or.inl ⟨by rfl, ?hyt1006⟩) trivial) ?restt1006
            case hyt1006 => (intro w_ hSw; clear hSw; go_simp <;> with_reducible rfl)
            (try simp only [Act.put, List.setIfInBounds_toArray, List.set_cons_zero, List.set_cons_succ])
            refine call_ (i := 6) 35 (by kernel_rfl) rfl (fun K hK => ?_)
            go_simp
            refine (digits i (by have := HSZ.out.2.1 k hk5; omega) W0).mono ?_
            rintro e W1 ⟨rfl, hb⟩
            have HB2 := Aside0.mk (below_then HB1.out HB1.out.size hb)
            have HO2 := Aside0.mk (own_below HO1.out hb)
            refine hK.out _ _ trivial (fun _ => ?_)
            clear hK K hb
            (try simp only [Act.put, List.setIfInBounds_toArray, List.set_cons_zero, List.set_cons_succ])
            refine take_ (i := 7) (v := ?vt1007) 36 rfl rfl (wpAnyH_take (i := 7) rfl (by kernel_rfl) (by kernel_rfl) (by kernel_rfl) (fun _ _ _ h => h) (Or.inl ⟨by rfl, ?hyt1007⟩) trivial) ?restt1007
            case hyt1007 => (intro w_ hSw; clear hSw; go_simp <;> with_reducible rfl)
            (try simp only [Act.put, List.setIfInBounds_toArray, List.set_cons_zero, List.set_cons_succ])
            refine call_ (i := 8) 37 (by kernel_rfl) rfl (fun K hK => ?_)
            go_simp
            refine hK.out _ _ trivial (fun _ => ?_)
            clear hK K
            (try simp only [Act.put, List.setIfInBounds_toArray, List.set_cons_zero, List.set_cons_succ])
            refine call_ (i := 9) 38 (by kernel_rfl) rfl (fun K hK => ?_)
            refine append_step (w0 := wc) (W := W1) (y := (⟨#[letterOf k]⟩ : ByteArray) ++ ⟨(decDigits i).toArray⟩) (xs := acc c n k ++ (List.range i).map (ownB (letterOf k))) (v := u7) wc.heap.size ?sGd (.tmp 29) (.tmp 37) 27 9 16 ?sHo Tryd.underlying27 info9 (by decide) ?sHs ?sHx HO2.out HB2.out HB2.out.size ?sLen ?sRest
            case sGd => rfl
            case sHo => rfl
            case sHs => rfl
            case sHx => rfl
            case sLen => (have := HAL.out k (by omega); have := HSZ.out.2.1 k hk5; simp only [List.length_append, List.length_map, List.length_range]; omega)
            intro v1 w1 ho1 hb1
            have HO3 := Aside0.mk ho1
            have HB3 := Aside0.mk hb1
            refine hK.out _ _ trivial (fun _ => ?_)
            clear hK K ho1 hb1
            (try simp only [Act.put, List.setIfInBounds_toArray, List.set_cons_zero, List.set_cons_succ])
            refine take_ (i := 10) (v := v1) 7 rfl rfl (wpAnyH_take (i := 10) rfl (by kernel_rfl) (by kernel_rfl) (by kernel_rfl) (fun _ _ _ h => h) (Or.inl ⟨by rfl, ?hylast⟩) trivial) ?restlast
            case hylast => (intro w_ hSw; go_simp <;> with_reducible rfl)
            (try simp only [Act.put, List.setIfInBounds_toArray, List.set_cons_zero, List.set_cons_succ])
            refine wpAnyH_done (by kernel_rfl) ?_ _
            go_wp2_with fail
            have e : acc c n k ++ (List.range (i + 1)).map (ownB (letterOf k)) = acc c n k ++ (List.range i).map (ownB (letterOf k)) ++ [(⟨#[letterOf k]⟩ : ByteArray) ++ ⟨(decDigits i).toArray⟩] := by
              rw [List.range_succ, List.map_append, List.map_singleton, own_cat', List.append_assoc]
            refine ⟨⟨i + 1, by omega, by go_num, ⟨by rw [e]; exact HO3.out⟩, HB3⟩, by simp [intOf]; omega⟩
          · obtain rfl : i = c.manyN k := by omega
            go_wp2_with fail
            clear hcell hil hi
            go_loopw [7, 10] (fun v7 v10 wr => ∃ i : Nat, i ≤ (n.l k).length ∧ v10 = .int .i64 i ∧ Aside0 (wr.ownsRow wc.heap.size 9 1 v7 (acc c n k ++ (List.range (c.manyN k)).map (ownB (letterOf k)) ++ toldOf ((n.l k).take i)).length (encs Value.string (acc c n k ++ (List.range (c.manyN k)).map (ownB (letterOf k)) ++ toldOf ((n.l k).take i)))) ∧ Aside0 (Below wc.heap.size wc wr)) (fun _ i _ => (n.l k).length - (intOf i).toNat)
            case atStart => exact ⟨0, Nat.zero_le _, rfl, ⟨by simpa [toldOf] using HOi.out⟩, HBi⟩
            case round =>
              obtain ⟨i, hi, rfl, HOj, HBj⟩ := hrel
              have hcell : wr.cell? ⟨g5, k, none⟩ = some (.slice (n.A k) (n.l k).length (n.c k)) := (HBj.out.cell (p := ⟨g5, k, none⟩) H5.out.2).trans (cells5_at n H5.out.1 k hk5)
              have hlk : (n.l k).length ≤ 9223372036854775807 := HML.out k hk5
              rcases Nat.lt_or_ge i (n.l k).length with hil | hil
              · obtain ⟨x, hx⟩ : ∃ x, x = (n.l k).getD i ByteArray.empty := ⟨_, rfl⟩
                have hrd : ReadsOf Value.string ByteArray.empty wr (n.A k) (n.l k).length (n.l k) := Kd.reads_of_C ((HH.out.below (below_then B2.out B2.out.size HBj.out)).at k hk5)
                obtain ⟨a, ha, hcs⟩ := hrd.2.2 (by omega)
                have hcx : wr.cell? (a.add i) = some (.string x) := by rw [hx]; exact hcs i hil
                rw [ha] at hcell
                have ht : (n.l k).take (i + 1) = (n.l k).take i ++ [x] := by
                  rw [List.take_add_one, List.getElem?_eq_getElem hil, hx, List.getD_eq_getElem?_getD, List.getElem?_eq_getElem hil]
                  rfl
                have HT := Aside0.mk ht
                clear hrd hcs hx ha ht
                by_cases hxe : x.size = 0
                · have he : x.toList.isEmpty = true := by rw [empty_iff]; simpa using hxe
                  have HXE := Aside0.mk hxe
                  clear hxe
                  go_wp2_with fail
                  refine ⟨⟨i + 1, by omega, by go_num, ⟨?_⟩, HBj⟩, by simp [intOf]; omega⟩
                  rw [HT.out, told_snoc0 _ _ HXE.out]
                  exact HOj.out
                · have he : x.toList.isEmpty = false := by rw [empty_iff]; simpa using hxe
                  have HXE := Aside0.mk hxe
                  clear hxe
                  go_wp2_with (first | ((with_reducible refine gate_builtin (b := .append) (xs := #[.tmp 54, .tmp 61]) rfl ?_); at_builtin; (refine print_append_of (w0 := wc) Value.string wc.heap.size rfl (.tmp 54) (.tmp 61) 27 9 (.string ⟨#[]⟩) 16 rfl Tryd.underlying27 info9 rfl (by decide) u7 (acc c n k ++ (List.range (c.manyN k)).map (ownB (letterOf k)) ++ toldOf ((n.l k).take i)) (x) ?bS ?bX rfl HOj.out HBj.out HBj.out.size ?aL ?_; (case bS => rfl); (case bX => rfl); (case aL => (have := HAL.out k (by omega); have := HSZ.out.2.1 k hk5; have := HSZ.out.2.2.1 k hk5; have := told_len ((n.l k).take i); have := List.length_take_le i (n.l k); simp only [List.length_append, List.length_map, List.length_range]; omega)); intro v2 w2 ho2 hb2 hg2 hat2; have HO2 := Aside0.mk ho2; have HB2 := Aside0.mk hb2; clear ho2 hb2 hg2 hat2)))
                  refine ⟨⟨i + 1, by omega, by go_num, ⟨?_⟩, HB2⟩, by simp [intOf]; omega⟩
                  rw [HT.out, told_snoc1 _ _ HXE.out, ← List.append_assoc]
                  exact HO2.out
              · obtain rfl : i = (n.l k).length := by omega
                go_wp2_with fail
                refine ⟨⟨k + 1, by omega, by go_num, ⟨?_⟩, HBj⟩, by simp [intOf]; omega⟩
                have := HOj.out
                rw [List.take_length] at this
                exact this
      · obtain rfl : k = 5 := by omega
        go_wp2_with fail
        rw [show ((5 : Nat) : Int) = 5 from rfl]
        clear hk hk5
        go_loopw [7, 11] (fun v7 v11 wr => ∃ i : Nat, i ≤ c.gat.length ∧ v11 = .int .i64 i ∧ Aside0 (wr.ownsRow wc.heap.size 9 1 v7 (acc c n 5 ++ (List.range i).map (ownB 97)).length (encs Value.string (acc c n 5 ++ (List.range i).map (ownB 97)))) ∧ Aside0 (Below wc.heap.size wc wr)) (fun _ i _ => c.gat.length - (intOf i).toNat)
        case atStart => exact ⟨0, Nat.zero_le _, rfl, ⟨by simpa using HO.out⟩, HB⟩
        case round =>
          obtain ⟨i, hi, rfl, HOj, HBj⟩ := hrel
          obtain ⟨e0, e1, e2, e3, e4, e5⟩ := (X2.out.below HBj.out).open
          rcases Nat.lt_or_ge i c.gat.length with hil | hil
          · have hcat : (9223372036854775807 < 1 + (decDigits i).length) = False := eq_false (by have := itoa_len i (by have := HSZ.out.2.2.2; omega); rw [itoa_nonneg] at this; omega)
            have HDG := Aside0.mk (digits i (by have := HSZ.out.2.2.2; omega) wr)
            go_wp2_with (first | (go_at_call 49; refine HDG.out.mono ?_; rintro e w4 ⟨rfl, hb4⟩; have HOk := Aside0.mk (own_below HOj.out hb4); have HBk := Aside0.mk (below_then HBj.out HBj.out.size hb4); clear hb4) | ((with_reducible refine gate_builtin (b := .append) (xs := #[.tmp 70, .tmp 74]) rfl ?_); at_builtin; (refine print_append_of (w0 := wc) Value.string wc.heap.size rfl (.tmp 70) (.tmp 74) 27 9 (.string ⟨#[]⟩) 16 rfl Tryd.underlying27 info9 rfl (by decide) u7 (acc c n 5 ++ (List.range i).map (ownB 97)) _ ?bS ?bX rfl HOk.out HBk.out HBk.out.size ?aL ?_; (case bS => rfl); (case bX => rfl); (case aL => (have := HAL.out 5 (by omega); have := HSZ.out.2.2.2; simp only [List.length_append, List.length_map, List.length_range]; omega)); intro v2 w2 ho2 hb2 hg2 hat2; have HO2 := Aside0.mk ho2; have HB2 := Aside0.mk hb2; clear ho2 hb2 hg2 hat2)))
            have e : acc c n 5 ++ (List.range (i + 1)).map (ownB 97) = acc c n 5 ++ (List.range i).map (ownB 97) ++ [(⟨#[97]⟩ : ByteArray) ++ ⟨(decDigits i).toArray⟩] := by
              rw [List.range_succ, List.map_append, List.map_singleton, own_cat', List.append_assoc]
            refine ⟨⟨i + 1, by omega, by go_num, ⟨by rw [e]; exact HO2.out⟩, HB2⟩, by simp [intOf]; omega⟩
          · obtain rfl : i = c.gat.length := by omega
            go_wp2_with fail
            clear e0 e1 e2 e3 e4 e5
            have hown : wr.ownsRow wc.heap.size 9 1 u7 (allOf c n).length (encs Value.string (allOf c n)) := HOj.out
            have hR : Kd.R Kd.string 9 wr wc.heap.size (fun _ => True) u7 (allOf c n) := Kd.R_of_own hown (fun _ _ => trivial)
            obtain ⟨A, cc, ev⟩ := Kd.R_slice hR
            subst ev
            have HRD := Aside0.mk (Kd.R_reads' hR).2.2
            have hml : (allOf c n).length ≤ 9223372036854775807 := HRD.out.2.1
            clear hown hR HOj
            obtain ⟨xs, hxs⟩ : ∃ xs, xs = allOf c n := ⟨_, rfl⟩
            rw [← hxs] at HRD hml ⊢
            have HXS := Aside0.mk hxs
            clear hxs hi hil
            generalize wr = w7 at HBj HRD ⊢
            go_loopw [12] (fun v12 wr => ∃ i : Nat, i ≤ xs.length ∧ v12 = .int .i64 i ∧ Aside0 (Below w7.heap.size w7 wr) ∧ Aside0 (∀ p q, p < i → q < p → xs.getD p ByteArray.empty ≠ xs.getD q ByteArray.empty)) (fun i _ => xs.length - (intOf i).toNat)
            case atStart => exact ⟨0, Nat.zero_le _, rfl, ⟨Below.refl _ _⟩, ⟨fun p q h => absurd h (Nat.not_lt_zero _)⟩⟩
            case round =>
              obtain ⟨i, hi, rfl, HBm, HN⟩ := hrel
              rcases Nat.lt_or_ge i xs.length with hil | hil
              · go_wp2_with fail
                go_loopw [13] (fun v13 wr => ∃ j : Nat, j ≤ i ∧ v13 = .int .i64 j ∧ Aside0 (Below w7.heap.size w7 wr) ∧ Aside0 (∀ q, q < j → xs.getD i ByteArray.empty ≠ xs.getD q ByteArray.empty)) (fun j _ => i - (intOf j).toNat)
                case atStart => exact ⟨0, Nat.zero_le _, rfl, HBm, ⟨fun q h => absurd h (Nat.not_lt_zero _)⟩⟩
                case round =>
                  obtain ⟨j, hj, rfl, HBn, HM2⟩ := hrel
                  rcases Nat.lt_or_ge j i with hji | hji
                  · obtain ⟨x, hx⟩ : ∃ x, x = xs.getD i ByteArray.empty := ⟨_, rfl⟩
                    obtain ⟨y, hy⟩ : ∃ y, y = xs.getD j ByteArray.empty := ⟨_, rfl⟩
                    have hrd : ReadsOf Value.string ByteArray.empty wr.drew A xs.length xs := Kd.reads_of_C (Kd.C_below HRD.out (below_drew HBn.out))
                    obtain ⟨a, rfl, hcs⟩ := hrd.2.2 (by omega)
                    have hc1 : wr.drew.cell? (a.add i) = some (.string x) := by rw [hx]; exact hcs i hil
                    have hc2 : wr.drew.cell? (a.add j) = some (.string y) := by rw [hy]; exact hcs j (by omega)
                    have HXY := Aside0.mk (And.intro hx hy)
                    have hjl : j < xs.length := by omega
                    clear hx hy hcs hrd
                    by_cases hq : x = y
                    · have hb : (x.toList == y.toList) = true := by rw [hq]; simp
                      have HQ := Aside0.mk hq
                      clear hq
                      go_wp2_with fail
                      go_region
                      go_wp2_with fail
                      go_ret
                      refine ⟨?_, below_then (below_then B2.out B2.out.size HBj.out) (below_then B2.out B2.out.size HBj.out).size (below_drew HBn.out)⟩
                      rw [HR.out, onceB_false i j (by rw [← HXS.out]; exact hil) hji (by rw [← HXS.out, ← HXY.out.1, ← HXY.out.2]; exact HQ.out)]
                      rfl
                    · have hb : (x.toList == y.toList) = false := by
                        rw [beq_eq_false_iff_ne]
                        intro e
                        rw [Lib.toList_data, Lib.toList_data] at e
                        exact hq (by rw [ByteArray.ext_iff]; exact Array.toList_inj.1 e)
                      have HQ := Aside0.mk hq
                      clear hq
                      go_wp2_with fail
                      go_region
                      go_wp2_with fail
                      refine ⟨⟨j + 1, by omega, by go_num, ⟨below_drew HBn.out⟩, ⟨fun q hq => ?_⟩⟩, by simp [intOf]; omega⟩
                      rcases Nat.lt_or_ge q j with h1 | h1
                      · exact HM2.out q h1
                      · obtain rfl : q = j := by omega
                        rw [← HXY.out.1, ← HXY.out.2]
                        exact HQ.out
                  · obtain rfl : j = i := by omega
                    go_wp2_with fail
                    refine ⟨⟨j + 1, by omega, by go_num, HBn, ⟨fun p q hp hq => ?_⟩⟩, by simp [intOf]; omega⟩
                    rcases Nat.lt_or_ge p j with h1 | h1
                    · exact HN.out p q h1 hq
                    · obtain rfl : p = j := by omega
                      exact HM2.out q hq
              · obtain rfl : i = xs.length := by omega
                go_wp2_with fail
                go_ret
                refine ⟨?_, below_then (below_then B2.out B2.out.size HBj.out) (below_then B2.out B2.out.size HBj.out).size HBm.out⟩
                rw [HR.out, onceB_true (by rw [← HXS.out]; exact HN.out)]
                rfl
end Go.Proofs.YtfdemglcjfdodaaDoor.N
