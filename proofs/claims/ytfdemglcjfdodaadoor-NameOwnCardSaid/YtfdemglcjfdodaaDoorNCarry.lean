/-
  Circuits and names as values: what lies where; and the functions that hand their parts out as arrays.
-/
import Derived.Test.YtfdemglcjfdodaaDoorN3
import Derived.WalkMore
import Derived.Deep.RegionWith
import Derived.WalkLawsBesides
namespace Go.Proofs.YtfdemglcjfdodaaDoor.N
open Go.RowKit Go.Proofs.YtfdemglcjfdodaaDoorW.PrintWords Go.Proofs.YtfdemglcjfdodaaDoorW.PrintLast Go.Proofs.YtfdemglcjfdodaaDoorW.PrintMore
set_option linter.unusedVariables false

/-- A circuit's value. -/
structure Cv where
  inp : Int
  A1 : Option Addr
  c1 : Nat
  lat : List S112
  A2 : Option Addr
  c2 : Nat
  gat : List S96
  A3 : Option Addr
  c3 : Nat
  out : List Int
  A4 : Option Addr
  c4 : Nat
  bad : List Int
  A5 : Option Addr
  c5 : Nat
  con : List Int
def Cv.cells (c : Cv) : Array Value := #[.int .i64 c.inp, .slice c.A1 c.lat.length c.c1, .slice c.A2 c.gat.length c.c2, .slice c.A3 c.out.length c.c3, .slice c.A4 c.bad.length c.c4, .slice c.A5 c.con.length c.c5]
def Cv.val (c : Cv) : Value := .agg #[.int .i64 c.inp, .slice c.A1 c.lat.length c.c1, .slice c.A2 c.gat.length c.c2, .slice c.A3 c.out.length c.c3, .slice c.A4 c.bad.length c.c4, .slice c.A5 c.con.length c.c5]
/-- What it reads. -/
structure Cv.Held (c : Cv) (w : World) : Prop where
  lat : Kd.C k112 w c.A1 c.lat.length c.lat
  hc1 : c.lat.length ≤ c.c1
  gat : Kd.C k96 w c.A2 c.gat.length c.gat
  hc2 : c.gat.length ≤ c.c2
  out : Kd.C (Kd.int .u32) w c.A3 c.out.length c.out
  hc3 : c.out.length ≤ c.c3
  bad : Kd.C (Kd.int .u32) w c.A4 c.bad.length c.bad
  hc4 : c.bad.length ≤ c.c4
  con : Kd.C (Kd.int .u32) w c.A5 c.con.length c.con
  hc5 : c.con.length ≤ c.c5
theorem Cv.Held.below {c : Cv} {w w' : World} (h : c.Held w) (k : Below w.heap.size w w') : c.Held w' :=
  ⟨Kd.C_below h.lat k, h.hc1, Kd.C_below h.gat k, h.hc2, Kd.C_below h.out k, h.hc3, Kd.C_below h.bad k, h.hc4, Kd.C_below h.con k, h.hc5⟩

/-- Names' value. -/
structure Nv where
  A0 : Option Addr
  c0 : Nat
  l0 : List ByteArray
  A1 : Option Addr
  c1 : Nat
  l1 : List ByteArray
  A2 : Option Addr
  c2 : Nat
  l2 : List ByteArray
  A3 : Option Addr
  c3 : Nat
  l3 : List ByteArray
  A4 : Option Addr
  c4 : Nat
  l4 : List ByteArray
def Nv.val (n : Nv) : Value := .agg #[.slice n.A0 n.l0.length n.c0, .slice n.A1 n.l1.length n.c1, .slice n.A2 n.l2.length n.c2, .slice n.A3 n.l3.length n.c3, .slice n.A4 n.l4.length n.c4]
structure Nv.Held (n : Nv) (w : World) : Prop where
  l0 : Kd.C Kd.string w n.A0 n.l0.length n.l0
  hc0 : n.l0.length ≤ n.c0
  l1 : Kd.C Kd.string w n.A1 n.l1.length n.l1
  hc1 : n.l1.length ≤ n.c1
  l2 : Kd.C Kd.string w n.A2 n.l2.length n.l2
  hc2 : n.l2.length ≤ n.c2
  l3 : Kd.C Kd.string w n.A3 n.l3.length n.l3
  hc3 : n.l3.length ≤ n.c3
  l4 : Kd.C Kd.string w n.A4 n.l4.length n.l4
  hc4 : n.l4.length ≤ n.c4
theorem Nv.Held.below {c : Nv} {w w' : World} (h : c.Held w) (k : Below w.heap.size w w') : c.Held w' :=
  ⟨Kd.C_below h.l0 k, h.hc0, Kd.C_below h.l1 k, h.hc1, Kd.C_below h.l2 k, h.hc2, Kd.C_below h.l3 k, h.hc3, Kd.C_below h.l4 k, h.hc4⟩
def Nv.ls (n : Nv) : List (List ByteArray) := [n.l0, n.l1, n.l2, n.l3, n.l4]
/-- The k-th list's address and room. -/
def Nv.A (n : Nv) (k : Nat) : Option Addr := if k = 0 then n.A0 else if k = 1 then n.A1 else if k = 2 then n.A2 else if k = 3 then n.A3 else n.A4
def Nv.c (n : Nv) (k : Nat) : Nat := if k = 0 then n.c0 else if k = 1 then n.c1 else if k = 2 then n.c2 else if k = 3 then n.c3 else n.c4
def Nv.l (n : Nv) (k : Nat) : List ByteArray := n.ls.getD k []
theorem five {P : Nat → Prop} (h0 : P 0) (h1 : P 1) (h2 : P 2) (h3 : P 3) (h4 : P 4) (k : Nat) (hk : k < 5) : P k := by
  have : k = 0 ∨ k = 1 ∨ k = 2 ∨ k = 3 ∨ k = 4 := by omega
  rcases this with rfl | rfl | rfl | rfl | rfl <;> assumption
theorem Nv.Held.at {n : Nv} {w : World} (h : n.Held w) (k : Nat) (hk : k < 5) : Kd.C Kd.string w (n.A k) (n.l k).length (n.l k) :=
  five (P := fun k => Kd.C Kd.string w (n.A k) (n.l k).length (n.l k)) h.l0 h.l1 h.l2 h.l3 h.l4 k hk
/-- How many of each kind. -/
def Cv.many (c : Cv) (k : Nat) : Int := [c.inp, (c.lat.length : Int), c.out.length, c.bad.length, c.con.length].getD k 0

/-- How many variables there are, as the program reckons. -/
def Cv.V (c : Cv) : Int := wrap64 (wrap64 (c.inp + c.lat.length) + c.gat.length)
theorem varsV (c : Cv) (w : World) (h : c.Held w) : Calls Tryd.prog 72 #[c.val] w fun e w' => e = .returned (.int .i64 c.V) ∧ Below w.heap.size w w' :=
  norm_vars.calls c.inp c.A1 c.c1 c.lat c.A2 c.c2 c.gat c.A3 c.c3 c.out c.A4 c.c4 c.bad c.A5 c.c5 c.con _ w h.lat h.hc1 h.gat h.hc2 h.out h.hc3 h.bad h.hc4 h.con h.hc5 rfl
/-- What a circuit that comes in is like: its lists are no longer than can be, its numbers are numbers. -/
structure Fit (c : Cv) : Prop where
  l1 : c.lat.length ≤ 9223372036854775807
  l2 : c.gat.length ≤ 9223372036854775807
  r1 : ∀ i : Nat, i < c.lat.length → 0 ≤ (rd_T112 c.lat i).f0 ∧ (rd_T112 c.lat i).f0 < 4294967296
  r2 : ∀ i : Nat, i < c.gat.length → 0 ≤ (rd_T96 c.gat i).f0
theorem vars (c : Cv) (w : World) (h : c.Held w) (h0 : 0 ≤ c.inp) (h1 : c.inp ≤ 16384) (h2 : c.lat.length + c.gat.length ≤ 1000000000000) :
    Calls Tryd.prog 72 #[c.val] w fun e w' => e = .returned (.int .i64 (c.inp + c.lat.length + c.gat.length)) ∧ Below w.heap.size w w' :=
  norm_vars.calls c.inp c.A1 c.c1 c.lat c.A2 c.c2 c.gat c.A3 c.c3 c.out c.A4 c.c4 c.bad c.A5 c.c5 c.con _ w h.lat h.hc1 h.gat h.hc2 h.out h.hc3 h.bad h.hc4 h.con h.hc5 (by
    unfold norm_vars.f wrap64
    congr 1
    omega)

set_option maxHeartbeats 1000000 in
theorem kinds (B : Nat) (w : World) : Calls Tryd.prog 41 #[.pointer (some ⟨B, 0, none⟩)] w fun e w' => e = .returned (.agg #[.pointer (some ⟨B, 0, none⟩), .pointer (some ⟨B, 1, none⟩), .pointer (some ⟨B, 2, none⟩), .pointer (some ⟨B, 3, none⟩), .pointer (some ⟨B, 4, none⟩)]) ∧ Below w.heap.size w w' := by
  go_enter Tryd.func41, Tryd.ntmps41
  go_wp2
  go_region
  go_wp2
  refine bodyPost_ret (v := .agg #[.pointer (some ⟨B, 0, none⟩), .pointer (some ⟨B, 1, none⟩), .pointer (some ⟨B, 2, none⟩), .pointer (some ⟨B, 3, none⟩), .pointer (some ⟨B, 4, none⟩)]) (by simp [results, Tryd.results41, go_sem]) rfl ⟨rfl, ?_⟩
  exact below_drew (below_alloc (Below.refl _ _) _)

set_option maxHeartbeats 1000000 in
theorem many (c : Cv) (w : World) : Calls Tryd.prog 45 #[c.val] w fun e w' => e = .returned (.agg #[.int .i64 c.inp, .int .i64 c.lat.length, .int .i64 c.out.length, .int .i64 c.bad.length, .int .i64 c.con.length]) ∧ Below w.heap.size w w' := by
  unfold Cv.val
  go_enter Tryd.func45, Tryd.ntmps45
  go_wp2
  refine bodyPost_ret (v := .agg #[.int .i64 c.inp, .int .i64 c.lat.length, .int .i64 c.out.length, .int .i64 c.bad.length, .int .i64 c.con.length]) (by simp [results, Tryd.results45, go_sem]) rfl ⟨rfl, ?_⟩
  exact below_alloc (below_alloc (Below.refl _ _) _) _

set_option maxHeartbeats 1000000 in
theorem counts (c : Cv) (w : World) : Calls Tryd.prog 48 #[c.val] w fun e w' => e = .returned (.agg #[.int .i64 c.inp, .int .i64 c.lat.length, .int .i64 c.out.length, .int .i64 c.bad.length, .int .i64 c.con.length]) ∧ Below w.heap.size w w' := by
  unfold Cv.val
  go_enter Tryd.func48, Tryd.ntmps48
  go_wp2
  refine bodyPost_ret (v := .agg #[.int .i64 c.inp, .int .i64 c.lat.length, .int .i64 c.out.length, .int .i64 c.bad.length, .int .i64 c.con.length]) (by simp [results, Tryd.results48, go_sem]) rfl ⟨rfl, ?_⟩
  exact below_alloc (below_alloc (Below.refl _ _) _) _

set_option maxHeartbeats 1000000 in
theorem lists (n : Nv) (w : World) : Calls Tryd.prog 47 #[n.val] w fun e w' => e = .returned (.agg #[.slice n.A0 n.l0.length n.c0, .slice n.A1 n.l1.length n.c1, .slice n.A2 n.l2.length n.c2, .slice n.A3 n.l3.length n.c3, .slice n.A4 n.l4.length n.c4]) ∧ Below w.heap.size w w' := by
  unfold Nv.val
  go_enter Tryd.func47, Tryd.ntmps47
  go_wp2
  refine bodyPost_ret (v := .agg #[.slice n.A0 n.l0.length n.c0, .slice n.A1 n.l1.length n.c1, .slice n.A2 n.l2.length n.c2, .slice n.A3 n.l3.length n.c3, .slice n.A4 n.l4.length n.c4]) (by simp [results, Tryd.results47, go_sem]) rfl ⟨rfl, ?_⟩
  exact below_alloc (below_alloc (Below.refl _ _) _) _
end Go.Proofs.YtfdemglcjfdodaaDoor.N
