/-
  The law's guards and the document's number of variables.
-/
import Derived.Test.YtfdemglcjfdodaaDoorNCarry
namespace Go.Proofs.YtfdemglcjfdodaaDoor.N
open Go.RowKit Go.Lib Go.Proofs.YtfdemglcjfdodaaDoorW.PrintWords Go.Proofs.YtfdemglcjfdodaaDoorW.PrintLast Go.Proofs.YtfdemglcjfdodaaDoorW.PrintMore
set_option linter.unusedVariables false

/-- How many things there are, how many names, as the law reckons. -/
def Cv.sum (c : Cv) : Int := wrap64 (wrap64 (wrap64 (wrap64 (c.lat.length + c.gat.length) + c.out.length) + c.bad.length) + c.con.length)
def Nv.sum (n : Nv) : Int := wrap64 (wrap64 (wrap64 (wrap64 (n.l0.length + n.l1.length) + n.l2.length) + n.l3.length) + n.l4.length)
set_option maxRecDepth 100000 in
theorem great (c : Cv) (w : World) (h : c.Held w) :
    Calls Tryd.prog 9 #[c.val] w fun e w' => e = .returned (.bool (decide (300 < c.inp ∨ 600 < c.sum))) ∧ Below w.heap.size w w' :=
  inquestlaw21_great.calls c.inp c.A1 c.c1 c.lat c.A2 c.c2 c.gat c.A3 c.c3 c.out c.A4 c.c4 c.bad c.A5 c.c5 c.con _ w h.lat h.hc1 h.gat h.hc2 h.out h.hc3 h.bad h.hc4 h.con h.hc5 (by
    unfold inquestlaw21_great.f
    by_cases hi : c.inp > 300
    · rw [if_pos hi]
      refine congrArg some ?_
      rw [eq_comm, decide_eq_true_iff]
      exact .inl hi
    · rw [if_neg hi]
      refine congrArg some ?_
      rw [Bool.eq_iff_iff, decide_eq_true_iff, decide_eq_true_iff]
      show c.sum > 600 ↔ _
      omega)
set_option maxRecDepth 100000 in
theorem long (n : Nv) (w : World) (h : n.Held w) :
    Calls Tryd.prog 10 #[n.val] w fun e w' => e = .returned (.bool (decide (1000 < n.sum))) ∧ Below w.heap.size w w' :=
  inquestlaw21_long.calls n.A0 n.c0 n.l0 n.A1 n.c1 n.l1 n.A2 n.c2 n.l2 n.A3 n.c3 n.l3 n.A4 n.c4 n.l4 _ w h.l0 h.hc0 h.l1 h.hc1 h.l2 h.hc2 h.l3 h.hc3 h.l4 h.hc4 (by
    unfold inquestlaw21_long.f
    rfl)

theorem lits_some (l : List Int) (x : Int) (hl : l.length ≤ 1048576) : ∀ (d k i : Nat), i ≤ l.length → l.length - i = d → d < k → ∃ b, inquestref03_lits.l0 k l x (i : Int) = some b
  | d, 0, i, _, _, h => absurd h (Nat.not_lt_zero _)
  | d, k + 1, i, hi, hd, hk => by
    rw [inquestref03_lits.l0]
    by_cases h1 : (i : Int) < (l.length : Int)
    · rw [if_pos h1, if_pos (by omega)]
      split
      · exact ⟨_, rfl⟩
      · rw [show wrap64 ((i : Int) + 1) = ((i + 1 : Nat) : Int) by unfold wrap64; omega]
        exact lits_some l x hl (d - 1) k (i + 1) (by omega) (by omega) (by omega)
    · rw [if_neg h1]
      exact ⟨_, rfl⟩
theorem l1_some (x3 inp : Int) (lat : List S112) (gat : List S96) (out bad con : List Int) (hg : gat.length ≤ 1048576) (h3 : out.length ≤ 1048576) (h4 : bad.length ≤ 1048576) (h5 : con.length ≤ 1048576) :
    ∀ (d k i : Nat), i ≤ gat.length → gat.length - i = d → d + 1048577 < k → ∃ b, inquestref03_May.l1 k x3 (i : Int) inp lat gat out bad con = some b
  | d, 0, i, _, _, h => absurd h (Nat.not_lt_zero _)
  | d, k + 1, i, hi, hd, hk => by
    rw [inquestref03_May.l1]
    by_cases h1 : (i : Int) < (gat.length : Int)
    · rw [if_pos h1, if_pos (by omega)]
      split
      · exact ⟨_, rfl⟩
      · split
        · exact ⟨_, rfl⟩
        · rw [show wrap64 ((i : Int) + 1) = ((i + 1 : Nat) : Int) by unfold wrap64; omega]
          exact l1_some x3 inp lat gat out bad con hg h3 h4 h5 (d - 1) k (i + 1) (by omega) (by omega) (by omega)
    · rw [if_neg h1]
      obtain ⟨b1, e1⟩ := lits_some out x3 h3 out.length k 0 (by omega) (by omega) (by omega)
      obtain ⟨b2, e2⟩ := lits_some bad x3 h4 bad.length k 0 (by omega) (by omega) (by omega)
      obtain ⟨b3, e3⟩ := lits_some con x3 h5 con.length k 0 (by omega) (by omega) (by omega)
      unfold inquestref03_lits.f
      rw [show ((0 : Nat) : Int) = 0 from rfl] at e1 e2 e3
      rw [e1, e2, e3]
      simp only [Option.bind_some]
      split
      · split
        · exact ⟨_, rfl⟩
        · exact ⟨_, rfl⟩
      · exact ⟨_, rfl⟩
theorem l0_some (x3 inp : Int) (lat : List S112) (gat : List S96) (out bad con : List Int) (hl : lat.length ≤ 1048576) (hg : gat.length ≤ 1048576) (h3 : out.length ≤ 1048576) (h4 : bad.length ≤ 1048576) (h5 : con.length ≤ 1048576) :
    ∀ (d k i : Nat), i ≤ lat.length → lat.length - i = d → d + 2097155 < k → ∃ b, inquestref03_May.l0 k x3 (i : Int) inp lat gat out bad con = some b
  | d, 0, i, _, _, h => absurd h (Nat.not_lt_zero _)
  | d, k + 1, i, hi, hd, hk => by
    rw [inquestref03_May.l0]
    by_cases h1 : (i : Int) < (lat.length : Int)
    · rw [if_pos h1, if_pos (by omega)]
      split
      · exact ⟨_, rfl⟩
      · split
        · exact ⟨_, rfl⟩
        · rw [show wrap64 ((i : Int) + 1) = ((i + 1 : Nat) : Int) by unfold wrap64; omega]
          exact l0_some x3 inp lat gat out bad con hl hg h3 h4 h5 (d - 1) k (i + 1) (by omega) (by omega) (by omega)
    · rw [if_neg h1]
      exact l1_some x3 inp lat gat out bad con hg h3 h4 h5 gat.length k 0 (by omega) (by omega) (by omega)
theorem refMay_some (c : Cv) (h1 : c.lat.length ≤ 1048576) (h2 : c.gat.length ≤ 1048576) (h3 : c.out.length ≤ 1048576) (h4 : c.bad.length ≤ 1048576) (h5 : c.con.length ≤ 1048576) : ∃ b, inquestref03_May.f 4000000 c.inp c.lat c.gat c.out c.bad c.con = some b := by
  have key : ∀ x : Bool, ∃ b, inquestref03_May.j0 4000000 x c.inp c.lat c.gat c.out c.bad c.con = some b := by
    intro x
    rw [inquestref03_May.j0]
    split
    · exact ⟨_, rfl⟩
    · split
      · exact ⟨_, rfl⟩
      · exact l0_some _ _ _ _ _ _ _ h1 h2 h3 h4 h5 c.lat.length _ 0 (by omega) (by omega) (by omega)
  unfold inquestref03_May.f
  split
  · exact key _
  · split
    · exact key _
    · split
      · exact key _
      · exact key _
/-- The document's number of variables: none, or all. -/
theorem refVars (c : Cv) (h0 : 0 ≤ c.inp) (hi : c.inp ≤ 16384) (h1 : c.lat.length ≤ 1048576) (h2 : c.gat.length ≤ 1048576) (h3 : c.out.length ≤ 1048576) (h4 : c.bad.length ≤ 1048576) (h5 : c.con.length ≤ 1048576) :
    ∃ r : Int, (r = 0 ∨ r = c.inp + c.lat.length + c.gat.length) ∧ ∀ w, c.Held w → Calls Tryd.prog 14 #[c.val] w fun e w' => e = .returned (.int .i64 r) ∧ Below w.heap.size w w' := by
  obtain ⟨b, hb⟩ := refMay_some c h1 h2 h3 h4 h5
  have hf : inquestref03_Vars.f 4000000 c.inp c.lat c.gat c.out c.bad c.con = some (if b = true then c.inp + c.lat.length + c.gat.length else 0) := by
    unfold inquestref03_Vars.f
    rw [hb]
    simp only [Option.bind_some]
    cases b
    · rfl
    · rw [if_pos rfl, if_pos rfl]
      congr 1
      unfold wrap64
      omega
  refine ⟨_, ?_, fun w h => inquestref03_Vars.calls 4000000 c.inp c.A1 c.c1 c.lat c.A2 c.c2 c.gat c.A3 c.c3 c.out c.A4 c.c4 c.bad c.A5 c.c5 c.con _ w h.lat h.hc1 h.gat h.hc2 h.out h.hc3 h.bad h.hc4 h.con h.hc5 hf⟩
  cases b
  · exact .inl rfl
  · exact .inr rfl
end Go.Proofs.YtfdemglcjfdodaaDoor.N
