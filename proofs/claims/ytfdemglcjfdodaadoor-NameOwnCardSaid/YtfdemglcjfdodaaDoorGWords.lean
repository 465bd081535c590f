/-
  Words for printed texts: bytes that a conversion of a string makes, as a row that is only read.
-/
import Derived.Test.YtfdemglcjfdodaaDoorWWords
import Derived.Test.YtfdemglcjfdodaaDoorWMore
import Derived.Lib.ConvBytes
import Derived.Lib.SlBytesConst
namespace Go.Proofs.YtfdemglcjfdodaaDoor.GW
open Go.RowKit Go.Proofs.YtfdemglcjfdodaaDoorW.PrintWords Go.Proofs.YtfdemglcjfdodaaDoorW.PrintLast Go.Proofs.YtfdemglcjfdodaaDoorW.PrintMore
section
variable {P : Program} {ops : Array Oper} {rest : List Oper} {o o2 : Oper} {a : Act} {Q : Exit → Act → World → Prop} {W : World}

/-- A block whose cells are these numbers reads as them, whatever its mark. -/
theorem V_block {w1 : World} {g : Nat} {cs : Array Value} {e : TypeId} {fr : Nat × Nat} {k : IntKind} {xs : List Int} {c base : Nat} {ok : Nat → Prop} (hb : w1.heap[g]? = some (.cells cs e fr)) (hc : ∀ j, j < xs.length → cs[j]? = some (.int k (xs.getD j 0))) (hok : ok g) (hl : xs.length ≤ c) (hm : xs.length ≤ 9223372036854775807) :
    Kd.V (Kd.int k) e w1 base ok (.slice (some ⟨g, 0, none⟩) xs.length c) xs := by
  refine Kd.V_mk hl (fun W' hW => ?_)
  have hlt : g < w1.heap.size := (Array.getElem?_eq_some_iff.1 hb).1
  have h2 : W'.heap[g]? = some (.cells cs e fr) := (hW g hok hlt).trans hb
  refine Kd.C_of_reads (d := (0 : Int)) (h1 := fun _ => rfl) ⟨rfl, hm, fun _ => ⟨_, rfl, fun j hj => ?_⟩⟩
  rw [add_plain]
  simp only [World.cell?, h2]
  simpa using hc j hj

/-- '[]byte(s)'. -/
theorem V_conv (hgd : o.guard = none) {N : Tmp} (_hd : o.dst = some N) (src dst e : TypeId) {x : Operand} {s : ByteArray} (ho : o.op = .convert src dst x) (hx : a.eval x = .string s)
    (hs : P.underlying src = some .string) (hd : P.underlying dst = some (.slice e)) (he : P.underlying e = some (.int .u8)) (hlen : s.size ≤ 9223372036854775807)
    (h : ∀ v1 w1, Kd.V (Kd.int .u8) e w1 W.heap.size (fun k_ => W.heap.size ≤ k_) v1 (bytesOf s) → Below W.heap.size W w1 → wpList P ops Q rest (a.put o.dst v1) w1) : wpList P ops Q (o :: rest) a W := by
  have hrun : (execOp a.eval o).run P W = .ok (.value (.slice (some ⟨W.heap.size, 0, none⟩) s.size (grownCap W s.size 0 e))) (Lib.bytesWorld W e s) := by
    unfold execOp
    rw [ho]
    simp only [hx]
    simp [print_bytes src dst e hs hd he s W]
  refine Kd.event_run hgd hrun (h _ _ ?_ (bytes_below (Below.refl _ _) (Nat.le_refl _) e s))
  have hl := bytesOf_length s
  have := V_block (k := .u8) (xs := bytesOf s) (c := grownCap W s.size 0 e) (base := W.heap.size) (ok := fun k_ => W.heap.size ≤ k_) (Lib.bytesWorld_at_new W e s) (fun j hj => ?_) (Nat.le_refl _) (by rw [hl]; exact grownCap_ge _ _ _ _) (by rw [hl]; exact hlen)
  · rw [hl] at this
    exact this
  · rw [hl] at hj
    have hc := Lib.bytesWorld_cell W e s j hj
    simp only [World.cell?, Lib.bytesWorld_at_new] at hc
    have h' : j < s.data.toList.length := by rw [data_length]; exact hj
    have e1 : (bytesOf s).getD j 0 = ((s.data.toList.getD j 0).toNat : Int) := by simp [bytesOf, List.getD_eq_getElem?_getD, List.getElem?_eq_getElem h']
    rw [e1]
    simpa using hc

/-- '[]byte("..")': the literal; its conversion to its own type, which stands next, is told ahead. -/
theorem V_const (hgd : o.guard = none) {N : Tmp} (_hd : o.dst = some N) (t e : TypeId) {xs : List Int} {inner : List Value} (hi : inner = nums .u8 xs) (hm : xs.length ≤ 9223372036854775807)
    (ht : P.underlying t = some (.slice e)) (he : P.underlying e = some (.int .u8))
    (hrun : (execOp a.eval o).run P W = .ok (.value (.slice (some ⟨W.heap.size, 0, none⟩) xs.length xs.length)) (W.alloc (.cells inner.toArray e)))
    (h : ∀ v1 w1 w2, (convert t t v1).run P w1 = .ok v1 w2 → Kd.V (Kd.int .u8) e w2 W.heap.size (fun k_ => W.heap.size ≤ k_) v1 xs → Below W.heap.size W w2 → wpList P ops Q rest (a.put o.dst v1) w1) : wpList P ops Q (o :: rest) a W := by
  subst hi
  refine Kd.event_run hgd hrun (h _ _ _ (Lib.run_convert_bytes_const W t e (nums .u8 xs).toArray xs.length xs.length ht he) ?_ (below_alloc (Below.refl _ _) _))
  refine V_block (cs := (nums .u8 xs).toArray) (fr := ((nums .u8 xs).toArray.size, (nums .u8 xs).toArray.size + 1)) (by simpa using heap_alloc_new W (.cells (nums .u8 xs).toArray e ((nums .u8 xs).toArray.size, (nums .u8 xs).toArray.size + 1))) (fun j hj => ?_) (Nat.le_refl _) (Nat.le_refl _) hm
  simp [nums, List.getD_eq_getElem?_getD, List.getElem?_eq_getElem hj]
end
end Go.Proofs.YtfdemglcjfdodaaDoor.GW
