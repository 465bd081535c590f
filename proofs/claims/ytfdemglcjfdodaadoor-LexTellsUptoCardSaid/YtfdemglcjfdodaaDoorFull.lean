/-
  Rows of bytes of which every cell is a byte, those behind the row's end, too: 'append' keeps them so.
-/
import Derived.Test.YtfdemglcjfdodaaDoorGlex
import Derived.Lib.AppendStr
namespace Go.Proofs.YtfdemglcjfdodaaDoor.R
open Go.RowKit Go.Lib Go.Proofs.YtfdemglcjfdodaaDoorW.PrintWords Go.Proofs.YtfdemglcjfdodaaDoorW.PrintLast Go.Proofs.YtfdemglcjfdodaaDoorW.PrintMore
set_option linter.unusedVariables false

def AllBytes (l : List Value) : Prop := ∀ x ∈ l, ∃ y : Int, x = .int .u8 y
/-- Every cell of the value's own block is a byte. -/
def Full (w : World) (v : Value) : Prop := ∀ g, v.ownBlock = some g → ∀ cur e fz, w.heap[g]? = some (.cells cur e fz) → AllBytes cur.toList

theorem Full.nil (w : World) : Full w (.slice none 0 0) := by intro g h; simp [Value.ownBlock] at h
theorem Full.kept {w w' : World} {v : Value} (h : Full w v) (hb : ∀ g, v.ownBlock = some g → w'.heap[g]? = w.heap[g]?) : Full w' v := fun g hg cur e fz hc => h g hg cur e fz (by rw [← hb g hg]; exact hc)
theorem Full.below {w w' : World} {v : Value} {B n e size : Nat} {xs : List Value} (h : Full w v) (ho : w.ownsRow B e size v n xs) (hb : Below w.heap.size w w') : Full w' v :=
  h.kept fun g hg => hb.block g (ho.lt g hg).2
theorem AllBytes.zeros (n : Nat) : AllBytes (Builtin.zeroCells (Value.int .u8 0).cells n).toList := by
  intro x hx
  simp [Builtin.zeroCells] at hx
  obtain ⟨k, _, h⟩ := hx
  simp [Value.cells, Nat.mod_one] at h
  exact ⟨0, h.symm⟩
theorem AllBytes.app {a b : List Value} (ha : AllBytes a) (hb : AllBytes b) : AllBytes (a ++ b) := fun x hx => (List.mem_append.1 hx).elim (ha x) (hb x)
theorem AllBytes.of_nums (l : List Int) : AllBytes (nums .u8 l) := by
  intro x hx
  simp [nums] at hx
  obtain ⟨y, _, rfl⟩ := hx
  exact ⟨y, rfl⟩
theorem AllBytes.strCells (s : ByteArray) : AllBytes (strCells s) := by
  intro x hx
  simp [Lib.strCells] at hx
  obtain ⟨y, _, rfl⟩ := hx
  exact ⟨_, rfl⟩
theorem Full.new {w : World} {cells : Array Value} {e n c : Nat} (h : AllBytes cells.toList) : Full (w.alloc (.cells cells e)) (.slice (some ⟨w.heap.size, 0, none⟩) n c) := by
  intro g hg cur e' fz hc
  simp [Value.ownBlock] at hg
  subst hg
  rw [heap_alloc_new] at hc
  cases hc
  exact h

section
variable {P : Program} (w : World)
theorem run_append_full (base t ty e : Nat) (i : TypeInfo) (ht : P.underlying t = some (.slice e)) (hi : P.info? e = some i) (hz : i.zero = some (.int .u8 0))
    (hsize : i.size = 1) (hby : i.bytes = 1)
    (v : Value) (n : Nat) (xs : List Value) (hown : w.ownsRow base e 1 v n xs) (hF : Full w v) (hxs : AllBytes xs)
    (a : Addr) (m c : Nat) (news : List Value) (hl : news.length = m * 1) (hnews : ∀ j u, news[j]? = some u → w.cell? (a.add j) = some u) (h1 : AllBytes news)
    (h63 : n + m ≤ maxLen) (hbytes : (n + m) * 1 ≤ 140737488355328) (hbase : base ≤ w.heap.size) :
    ∃ v' w', (Builtin.append_ #[t, t] ty #[v, .slice (some a) m c]).run P w = .ok v' w' ∧ w'.ownsRow base e 1 v' (n + m) (xs ++ news) ∧ w.grownBy w' v.ownBlock ∧ Full w' v' := by
  have hone : ∀ u ∈ news, u.oneCell' = true := fun u hu => by obtain ⟨y, rfl⟩ := h1 u hu; rfl
  obtain ⟨v', w', hr, ho, hg, _⟩ := run_append_own (P := P) w base t ty e i (.int .u8 0) 1 1 ht hi hz hsize hby rfl (by decide) v n xs hown a m c news hl hnews hone h63 hbytes hbase
  refine ⟨v', w', hr, ho, hg, ?_⟩
  have hsmall : n + m ≤ 9223372036854775807 := by simp only [maxLen] at h63; omega
  rcases hown.2 with ⟨rfl, rfl⟩ | ⟨g, cap, cur, rfl, hbg, hgg, hnc, hcm, hcs, htake⟩
  · by_cases hm : m = 0
    · have h0 : v' = .slice none 0 0 ∨ True := .inr trivial
      rcases ho.2 with ⟨rfl, _⟩ | ⟨g', cap', cur', rfl, _, hg', hn', _, hs', _⟩
      · exact Full.nil _
      · subst hm
        have hn : news = [] := List.eq_nil_of_length_eq_zero (by simpa using hl)
        subst hn
        have : (Builtin.append_ #[t, t] ty #[.slice none 0 0, .slice (some a) 0 c]).run P w = .ok (.slice none 0 0) w := by
          simp [Builtin.append_, run_underlying ht, sizeOf, typeInfo, hi, Builtin.lenOf, Builtin.firstCells, loadCells, loadCellsFrom]
        rw [this] at hr
        cases hr
    · have hr2 := run_append_nil (P := P) w t ty e i (.int .u8 0) ht hi hz a m c news (by rw [hsize]; exact hl) hnews (by omega) (by omega) (by rw [hby]; omega)
      rw [hr2] at hr
      cases hr
      exact Full.new (w := w.drew) (by simpa using h1.app (AllBytes.zeros _))
  · have hcur := hF g rfl cur e _ hgg
    by_cases hroom : n + m ≤ cap
    · have hfit : n * i.size + news.length ≤ cur.size := by rw [hsize, hl, hcs]; omega
      have hr2 := run_append_room (P := P) w t ty e i ht hi g n cap cur hgg a m c news (by rw [hsize]; exact hl) hnews hone hroom hfit
      rw [hr2] at hr
      cases hr
      intro g2 hg2 cur2 e2 fz2 hc2
      simp [Value.ownBlock] at hg2
      subst hg2
      rw [setRow_heap w g cur _ e _ hgg] at hc2
      cases hc2
      have ht1 : AllBytes (cur.toList.take (n * i.size)) := fun x hx => hcur x (List.mem_of_mem_take hx)
      have ht2 : AllBytes (cur.toList.drop (n * i.size + news.length)) := fun x hx => hcur x (List.mem_of_mem_drop hx)
      simpa using (ht1.app h1).app ht2
    · have holds : ∀ j u, xs[j]? = some u → w.cell? ((⟨g, 0, none⟩ : Addr).add j) = some u := hown.cells (g := g) rfl
      have hr2 := run_append_grow (P := P) w t ty e i (.int .u8 0) ht hi hz ⟨g, 0, none⟩ n cap xs (by rw [hsize]; exact hown.1) holds a m c news (by rw [hsize]; exact hl) hnews (by omega) (by omega) (by rw [hby]; exact growslice_fits (by omega) (by omega))
      rw [hr2] at hr
      cases hr
      exact Full.new (w := w.drew) (by simpa using (hxs.app h1).app (AllBytes.zeros _))

theorem wpList_append_full {ops : Array Oper} {rest : List Oper} {o : Oper} {ac : Act} {Q : Exit → Act → World → Prop} (hgd : o.guard = none) (s x : Operand) (t : TypeId)
    (ho : o.op = .call { callee := .builtin .append, args := #[s, x], argTypes := #[t, t] })
    (base e : Nat) (i : TypeInfo) (ht : P.underlying t = some (.slice e)) (hi : P.info? e = some i) (hz : i.zero = some (.int .u8 0))
    (hsize : i.size = 1) (hby : i.bytes = 1)
    (v : Value) (n : Nat) (xs : List Value) (hs : ac.eval s = v) (hown : w.ownsRow base e 1 v n xs) (hF : Full w v) (hxs : AllBytes xs)
    (a : Addr) (m c : Nat) (news : List Value) (hx : ac.eval x = .slice (some a) m c) (hl : news.length = m * 1) (hnews : ∀ j u, news[j]? = some u → w.cell? (a.add j) = some u) (h1 : AllBytes news)
    (h63 : n + m ≤ maxLen) (hbytes : (n + m) * 1 ≤ 140737488355328) (hbase : base ≤ w.heap.size)
    (h : ∀ v' w', w'.ownsRow base e 1 v' (n + m) (xs ++ news) → w.grownBy w' v.ownBlock → Full w' v' → wpList P ops Q rest (ac.put o.dst v') w') : wpList P ops Q (o :: rest) ac w := by
  refine wpList_plain hgd fun K hK => ?_
  obtain ⟨v', w', hr, h2, h3, h4⟩ := run_append_full (P := P) w base t o.type e i ht hi hz hsize hby v n xs hown hF hxs a m c news hl hnews h1 h63 hbytes hbase
  unfold Oper.wp execOp
  simp only [ho, resolve, invoke, builtin, Sem.run_bind, Sem.run_pure, Result.andThen_ok, List.map_toArray, List.map_cons, List.map_nil, hs, hx, hr]
  exact hK _ _ (h v' w' h2 h3 h4)

theorem run_append_full_string (base t u ty e : Nat) (i : TypeInfo) (ht : P.underlying t = some (.slice e)) (hu : P.underlying u = some .string) (hi : P.info? e = some i) (hz : i.zero = some (.int .u8 0))
    (hsize : i.size = 1) (hby : i.bytes = 1)
    (v : Value) (n : Nat) (xs : List Value) (hown : w.ownsRow base e 1 v n xs) (hF : Full w v) (hxs : AllBytes xs) (s : ByteArray) (hs0 : 0 < s.size)
    (h63 : n + s.size ≤ maxLen) (hbytes : n + s.size ≤ 140737488355328) (hbase : base ≤ w.heap.size) :
    ∃ v' w', (Builtin.append_ #[t, u] ty #[v, .string s]).run P w = .ok v' w' ∧ w'.ownsRow base e 1 v' (n + s.size) (xs ++ Lib.strCells s) ∧ w.grownBy w' v.ownBlock ∧ Full w' v' := by
  obtain ⟨v', w', hr, ho, hg, _⟩ := run_append_own_string (P := P) w base t u ty e i ht hu hi hz hsize hby v n xs hown s h63 hbytes hbase
  refine ⟨v', w', hr, ho, hg, ?_⟩
  have hsmall : n + s.size ≤ 9223372036854775807 := by simp only [maxLen] at h63; omega
  have hxl : xs.length = n := by simpa using hown.1
  have h1 := AllBytes.strCells s
  rcases hown.2 with ⟨rfl, rfl⟩ | ⟨g, cap, cur, rfl, hbg, hgg, hnc, hcm, hcs, htake⟩
  · have hr2 := run_append_nil_string (P := P) w t u ty e i (.int .u8 0) ht hu hi hz s (by omega) (by omega) (by rw [hby]; omega)
    rw [hr2] at hr
    cases hr
    refine Full.new (w := w.drew) ?_
    have e1 : (s.data.map fun b => Value.int .u8 b.toNat).toList = Lib.strCells s := by simp [Lib.strCells]
    rw [Array.toList_append, e1]
    exact h1.app (AllBytes.zeros _)
  · have hcur := hF g rfl cur e _ hgg
    have hcs' : cur.size = cap := by simpa using hcs
    by_cases hroom : n + s.size ≤ cap
    · have hr2 := run_append_room_string (P := P) w t u ty e i ht hu hi hsize g n cap cur hgg s hroom (by omega)
      rw [hr2] at hr
      cases hr
      intro g2 hg2 cur2 e2 fz2 hc2
      simp [Value.ownBlock] at hg2
      subst hg2
      rw [setRow_heap w g cur _ e _ hgg] at hc2
      cases hc2
      have ht1 : AllBytes (cur.toList.take n) := fun x hx => hcur x (List.mem_of_mem_take hx)
      have ht2 : AllBytes (cur.toList.drop (n + s.size)) := fun x hx => hcur x (List.mem_of_mem_drop hx)
      simpa using (ht1.app h1).app ht2
    · have holds : ∀ j u, xs[j]? = some u → w.cell? ((⟨g, 0, none⟩ : Addr).add j) = some u := hown.cells (g := g) rfl
      have hr2 := run_append_grow_string (P := P) w t u ty e i (.int .u8 0) ht hu hi hz ⟨g, 0, none⟩ n cap xs (by rw [hsize]; simpa using hxl) holds s (by omega) (by omega) (by rw [hby]; exact growslice_fits (by omega) (by omega))
      rw [hr2] at hr
      cases hr
      refine Full.new (w := w.drew) ?_
      have := (hxs.app h1).app (AllBytes.zeros (grownCap w (n + s.size) cap e - (n + s.size)))
      simpa using this

theorem wpList_append_full_string {ops : Array Oper} {rest : List Oper} {o : Oper} {ac : Act} {Q : Exit → Act → World → Prop} (hgd : o.guard = none) (sl x : Operand) (t u : TypeId)
    (ho : o.op = .call { callee := .builtin .append, args := #[sl, x], argTypes := #[t, u] })
    (base e : Nat) (i : TypeInfo) (ht : P.underlying t = some (.slice e)) (hu : P.underlying u = some .string) (hi : P.info? e = some i) (hz : i.zero = some (.int .u8 0))
    (hsize : i.size = 1) (hby : i.bytes = 1)
    (v : Value) (n : Nat) (xs : List Value) (hs : ac.eval sl = v) (hown : w.ownsRow base e 1 v n xs) (hF : Full w v) (hxs : AllBytes xs) (s : ByteArray) (hx : ac.eval x = .string s) (hs0 : 0 < s.size)
    (h63 : n + s.size ≤ maxLen) (hbytes : n + s.size ≤ 140737488355328) (hbase : base ≤ w.heap.size)
    (h : ∀ v' w', w'.ownsRow base e 1 v' (n + s.size) (xs ++ Lib.strCells s) → w.grownBy w' v.ownBlock → Full w' v' → wpList P ops Q rest (ac.put o.dst v') w') : wpList P ops Q (o :: rest) ac w := by
  refine wpList_plain hgd fun K hK => ?_
  obtain ⟨v', w', hr, h2, h3, h4⟩ := run_append_full_string (P := P) w base t u o.type e i ht hu hi hz hsize hby v n xs hown hF hxs s hs0 h63 hbytes hbase
  unfold Oper.wp execOp
  simp only [ho, resolve, invoke, builtin, Sem.run_bind, Sem.run_pure, Result.andThen_ok, List.map_toArray, List.map_cons, List.map_nil, hs, hx, hr]
  exact hK _ _ (h v' w' h2 h3 h4)
end
end Go.Proofs.YtfdemglcjfdodaaDoor.R
