/-
  LexTells, walked: given what each function answers, the law answers true.
-/
import Derived.Test.YtfdemglcjfdodaaDoorBurn
import Derived.Test.YtfdemglcjfdodaaDoorQ2
namespace Go.Proofs.YtfdemglcjfdodaaDoor.R
open Go.RowKit Go.Proofs.YtfdemglcjfdodaaDoorW.PrintWords Go.Proofs.YtfdemglcjfdodaaDoorW.PrintLast Go.Proofs.YtfdemglcjfdodaaDoorW.PrintMore
set_option linter.unusedVariables false

/-- What the law reads, and what it lent. -/
structure Held (w : World) (A0 A1 A6 : Option Addr) (b line l : List Int) (g1 g2 : Nat) : Prop where
  glob : Glob w
  rb : Kd.C (Kd.int .u8) w A0 b.length b
  rline : Kd.C (Kd.int .u8) w A1 line.length line
  rl : Kd.C (Kd.int .u32) w A6 l.length l
  own : Kd.C (Kd.int .u8) w (some ⟨g1, 0, none⟩) (b.length + 7) (b ++ [7, 6, 5, 4, 3, 2, 1])
  row : Kd.C (Kd.int .u8) w (some ⟨g2, 0, none⟩) (line.length + 7) (line ++ [7, 6, 5, 4, 3, 2, 1])
theorem Held.below {w w' : World} {A0 A1 A6 : Option Addr} {b line l : List Int} {g1 g2 : Nat} (h : Held w A0 A1 A6 b line l g1 g2) (k : Below w.heap.size w w') : Held w' A0 A1 A6 b line l g1 g2 :=
  ⟨Glob.below h.glob k, Kd.C_below h.rb k, Kd.C_below h.rline k, Kd.C_below h.rl k, Kd.C_below h.own k, Kd.C_below h.row k⟩
theorem Own.below {B : Nat} {w w' : World} {v : Value} {xs : List Int} (h : Own B w v xs) (k : Below w.heap.size w w') : Own B w' v xs := ⟨own_below h.1 k, h.2.below h.1 k⟩
theorem Own.grown {B : Nat} {w w' : World} {v u : Value} {xs : List Int} (h : Own B w v xs) (k : w.grownBy w' u.ownBlock) (hne : ∀ k, v.ownBlock = some k → u.ownBlock ≠ some k) : Own B w' v xs := by
  have hb : ∀ g, v.ownBlock = some g → w'.heap[g]? = w.heap[g]? := fun g hg => k.block g (h.1.lt g hg).2 (fun e => hne g hg e.symm)
  refine ⟨⟨h.1.1, ?_⟩, h.2.kept hb⟩
  rcases h.1.2 with h2 | ⟨g, cap, cur, rfl, h1, h2, r⟩
  · exact .inl h2
  · exact .inr ⟨g, cap, cur, rfl, h1, by rw [hb g rfl]; exact h2, r⟩
theorem below_burn {B : Nat} {w wi wj : World} {v : Value} {xs : List Int} (hb : Below B w wi) (hB : B ≤ wi.heap.size) (h : Own B wi v xs) (k : wi.grownBy wj v.ownBlock) : Below B w wj :=
  hb.grown k hB (fun g hg => (h.1.lt g hg).1)

set_option maxHeartbeats 8000000 in
set_option maxRecDepth 100000 in
theorem tells (k : Nat) (A0 : Option Addr) (c0 : Nat) (b : List Int) (A1 : Option Addr) (c1 : Nat) (line : List Int) (s : ByteArray) (least many most : Int) (A6 : Option Addr) (c6 : Nat) (l : List Int) (w : World)
    (hr0 : Kd.C (Kd.int .u8) w A0 b.length b) (hc0 : b.length ≤ c0) (hr1 : Kd.C (Kd.int .u8) w A1 line.length line) (hc1 : line.length ≤ c1) (hr6 : Kd.C (Kd.int .u32) w A6 l.length l) (hc6 : l.length ≤ c6) (hG : Glob w)
    (hb : b.length ≤ 1048576) (hl : line.length ≤ 1048576) (hl6 : l.length ≤ 1048576) (hw6 : ∀ x ∈ l, 0 ≤ x ∧ x < 4294967296)
    (r1 r2 z1 z2 : List Int) (r3 : Int) (hL : Q.lex_Line.f b = some (r1, r2, r3)) (hL' : inquestref01_Line.f b = some (z1, z2, r3)) (hz1 : inquestref00_Bytes.f r1 z1 = some true) (hz2 : inquestref00_Bytes.f r2 z2 = some true)
    (ws : List ByteArray) (we : Int) (hW : Q.lex_Words.f k line = some (ws, we)) (hW' : inquestref01_Words.f k line = some (ws, we)) (hWW : inquestlaw01_words.f k ws ws = some true)
    (n ne : Int) (hN : Q.lex_Number.f s most = some (n, ne)) (hN' : inquestref01_Number.f k s most = some (n, ne))
    (ns : List Int) (nse : Int) (hS : Q.lex_Numbers.f k line least many most = some (ns, nse)) (hS' : inquestref01_Numbers.f k line least many most = some (ns, nse)) (hSS : Q.inquestref00_Numbers.f k ns ns = some true)
    (ys : List Int) (hY : inquestref01_Write.f k b l = some ys) (hYY : inquestref00_Bytes.f (b ++ Q.joinNums l ++ [10]) ys = some true)
    (hV : Q.inquestlaw01_lives.f k = some true) :
    Calls Tryd.prog 5 #[.slice A0 b.length c0, .slice A1 line.length c1, .string s, .int .i64 least, .int .i64 many, .int .u32 most, .slice A6 l.length c6] w fun e w' => e = .returned (.bool true) ∧ Below w.heap.size w w' := by
  obtain ⟨wl, hwl⟩ : ∃ y, y = b ++ Q.joinNums l ++ [10] := ⟨_, rfl⟩
  rw [← hwl] at hYY
  have EW := Aside0.mk hwl
  clear hwl
  have H0 := Aside0.mk (And.intro hr0 (And.intro hr1 (And.intro hr6 hG)))
  have HC := Aside0.mk (And.intro hc0 (And.intro hc1 hc6))
  have HS := Aside0.mk (And.intro hb (And.intro hl (And.intro hl6 hw6)))
  have HL := Aside0.mk (And.intro hL (And.intro hL' (And.intro hz1 hz2)))
  have HW := Aside0.mk (And.intro hW (And.intro hW' hWW))
  have HN := Aside0.mk (And.intro hN hN')
  have HSS := Aside0.mk (And.intro hS (And.intro hS' hSS))
  have HY := Aside0.mk (And.intro hY hYY)
  have HV := Aside0.mk hV
  clear hr0 hc0 hr1 hc1 hr6 hc6 hG hb hl hl6 hw6 hL hL' hz1 hz2 hW hW' hWW hN hN' hS hS' hSS hY hYY hV
  go_enter Tryd.func5, Tryd.ntmps5
  go_wp2_with fail
  refine (lent A0 c0 b w H0.out.1 HS.out.1).mono ?_
  rintro e w1 ⟨g1, k1, rfl, hg1, hk1, hcc1, hb1⟩
  have L1 := Aside0.mk (And.intro hg1 (And.intro hk1 (And.intro hcc1 hb1)))
  clear hg1 hk1 hcc1 hb1
  go_wp2_with fail
  refine (lent A1 c1 line w1 (Kd.C_below H0.out.2.1 L1.out.2.2.2) HS.out.2.1).mono ?_
  rintro e w2 ⟨g2, k2, rfl, hg2, hk2, hcc2, hb2⟩
  have B02 : Below w.heap.size w w2 := below_then L1.out.2.2.2 L1.out.2.2.2.size hb2
  have HH := Aside0.mk (Held.mk (Glob.below H0.out.2.2.2 B02) (Kd.C_below H0.out.1 B02) (Kd.C_below H0.out.2.1 B02) (Kd.C_below H0.out.2.2.1 B02) (Kd.C_below L1.out.2.2.1 hb2) hcc2)
  have B02 := Aside0.mk B02
  have K1 := Aside0.mk L1.out.2.1
  have K2 := Aside0.mk hk2
  clear hg2 hk2 hcc2 hb2 L1
  go_wp2_with fail
  refine (line_own (some ⟨g1, 0, none⟩) k1 b r1 r2 r3 w2 (lent_reads HH.out.own) (by have := K1.out; omega) HL.out.1).mono ?_
  rintro e w3 ⟨x, y, rfl, hx, hy, hap, hb3⟩
  have AP := Aside0.mk hap
  have OX := Aside0.mk hx
  have OY := Aside0.mk hy
  have B3 := Aside0.mk hb3
  clear hap hx hy hb3
  go_wp2_with fail
  refine (inquestref01_Line.calls A0 c0 b z1 z2 r3 w3 (HH.out.below B3.out).rb HC.out.1 HL.out.2.1).mono ?_
  rintro e w4 ⟨Az1, cz1, Az2, cz2, rfl, hz1, hcz1, hz2, hcz2, hb4⟩
  have B4 := Aside0.mk (below_then B3.out B3.out.size hb4)
  have OX4 := Aside0.mk (OX.out.below hb4)
  have OY4 := Aside0.mk (OY.out.below hb4)
  have Z := Aside0.mk (And.intro hz1 (And.intro hcz1 (And.intro hz2 hcz2)))
  clear OX OY B3 hz1 hcz1 hz2 hcz2 hb4
  obtain ⟨Ax, cx, ex, hxr, hxc⟩ := OX4.out.reads
  obtain ⟨Ay, cy, ey, hyr, hyc⟩ := OY4.out.reads
  subst ex
  subst ey
  have XR := Aside0.mk (And.intro hxr hxc)
  have YR := Aside0.mk (And.intro hyr hyc)
  clear hxr hxc hyr hyc
  go_wp2_with fail
  refine (inquestref00_Bytes.calls Ax cx r1 Az1 cz1 z1 true w4 XR.out.1 XR.out.2 Z.out.1 Z.out.2.1 HL.out.2.2.1).mono ?_
  rintro e w5 ⟨rfl, ⟨n5, rfl⟩⟩
  have D5 := Aside0.mk (pw_below_drewN (Below.refl w4.heap.size w4) n5)
  go_wp2_with fail
  refine (inquestref00_Bytes.calls Ay cy r2 Az2 cz2 z2 true _ (Kd.C_below YR.out.1 D5.out) YR.out.2 (Kd.C_below Z.out.2.2.1 D5.out) Z.out.2.2.2 HL.out.2.2.2).mono ?_
  rintro e w6 ⟨rfl, ⟨n6, rfl⟩⟩
  have D6 := Aside0.mk (pw_below_drewN D5.out n6)
  have B6 := Aside0.mk (pw_below_drewN (pw_below_drewN B4.out n5) n6)
  have OX6 := Aside0.mk (OX4.out.below D6.out)
  have OY6 := Aside0.mk (OY4.out.below D6.out)
  clear OX4 OY4 XR YR Z D5 D6 B4
  generalize (w4.drewN n5).drewN n6 = w6 at B6 OX6 OY6 ⊢
  go_wp2_with fail
  refine (burn _ _ r1 w6 OX6.out).mono ?_
  rintro e w7 ⟨rfl, hg7⟩
  have OY7 := Aside0.mk (OY6.out.grown hg7 AP.out)
  have B7 := Aside0.mk (below_burn B6.out B6.out.size OX6.out hg7)
  clear hg7 OX6 OY6 B6 AP
  go_wp2_with fail
  refine (burn _ _ r2 w7 OY7.out).mono ?_
  rintro e w8 ⟨rfl, hg8⟩
  have B8 := Aside0.mk (below_burn B7.out B7.out.size OY7.out hg8)
  clear hg8 OY7 B7
  go_wp2_with fail
  refine (Q.lex_Words.calls k (some ⟨g2, 0, none⟩) k2 line ws we w8 (lent_reads (HH.out.below B8.out).row) (by have := K2.out; omega) (HH.out.below B8.out).glob HW.out.1).mono ?_
  rintro e w9 ⟨p, rfl, hp, hb9⟩
  have P9 := Aside0.mk hp
  have B9 := Aside0.mk (below_then B8.out B8.out.size hb9)
  clear hp hb9 B8
  go_wp2_with fail
  refine (inquestref01_Words.calls k A1 c1 line ws we w9 (HH.out.below B9.out).rline HC.out.2.1 HW.out.2.1).mono ?_
  rintro e w10 ⟨q, rfl, hq, hb10⟩
  have P10 := Aside0.mk (Kd.R_below P9.out hb10)
  have Q10 := Aside0.mk hq
  have B10 := Aside0.mk (below_then B9.out B9.out.size hb10)
  clear hq hb10 B9 P9
  go_wp2_with fail
  refine (Q.lex_Number.calls s most n ne w10 (HH.out.below B10.out).glob HN.out.1).mono ?_
  rintro e w11 ⟨rfl, hb11⟩
  have P11 := Aside0.mk (Kd.R_below P10.out hb11)
  have Q11 := Aside0.mk (Kd.R_below Q10.out hb11)
  have B11 := Aside0.mk (below_then B10.out B10.out.size hb11)
  clear hb11 B10 P10 Q10
  go_wp2_with fail
  refine (inquestref01_Number.calls k s most n ne w11 HN.out.2).mono ?_
  rintro e w12 ⟨rfl, hb12⟩
  have P12 := Aside0.mk (Kd.R_below P11.out hb12)
  have Q12 := Aside0.mk (Kd.R_below Q11.out hb12)
  have B12 := Aside0.mk (below_then B11.out B11.out.size hb12)
  clear hb12 B11 P11 Q11
  obtain ⟨Ap, cp, ep⟩ := Kd.R_slice P12.out
  obtain ⟨Aq, cq, eq⟩ := Kd.R_slice Q12.out
  subst ep
  subst eq
  go_wp2_with fail
  refine (inquestlaw01_words.calls k Ap cp ws Aq cq ws true w12 (Kd.R_reads' P12.out).2.2 (Kd.R_reads' P12.out).2.1 (Kd.R_reads' Q12.out).2.2 (Kd.R_reads' Q12.out).2.1 HW.out.2.2).mono ?_
  rintro e w13 ⟨rfl, ⟨n13, rfl⟩⟩
  have B13 := Aside0.mk (pw_below_drewN B12.out n13)
  clear B12 P12 Q12
  generalize w12.drewN n13 = w13 at B13 ⊢
  go_wp2_with fail
  refine (Q.lex_Numbers.calls k (some ⟨g2, 0, none⟩) k2 line least many most ns nse w13 (lent_reads (HH.out.below B13.out).row) (by have := K2.out; omega) (HH.out.below B13.out).glob HSS.out.1).mono ?_
  rintro e w14 ⟨t, rfl, ht, hb14⟩
  have T14 := Aside0.mk ht
  have B14 := Aside0.mk (below_then B13.out B13.out.size hb14)
  clear ht hb14 B13
  go_wp2_with fail
  refine (inquestref01_Numbers.calls k A1 c1 line least many most ns nse w14 (HH.out.below B14.out).rline HC.out.2.1 HSS.out.2.1).mono ?_
  rintro e w15 ⟨u, rfl, hu, hb15⟩
  have T15 := Aside0.mk (Kd.R_below T14.out hb15)
  have U15 := Aside0.mk hu
  have B15 := Aside0.mk (below_then B14.out B14.out.size hb15)
  clear hu hb15 B14 T14
  go_wp2_with fail
  refine (write_full (some ⟨g1, 0, none⟩) k1 b A6 c6 l w15 (lent_reads (HH.out.below B15.out).own) (HH.out.below B15.out).rl (HH.out.below B15.out).glob (by have := HS.out.1; have := HS.out.2.2.1; omega) HS.out.2.2.2).mono ?_
  rintro e w16 ⟨v, rfl, hv, hf, hb16⟩
  have V16 := Aside0.mk (show Own w15.heap.size w16 v wl from by rw [EW.out]; exact ⟨hv, hf⟩)
  have T16 := Aside0.mk (Kd.R_below T15.out hb16)
  have U16 := Aside0.mk (Kd.R_below U15.out hb16)
  have B16 := Aside0.mk (below_then B15.out B15.out.size hb16)
  have N15 := Aside0.mk B15.out.size
  clear hv hf hb16 B15 T15 U15
  obtain ⟨At, ct, et⟩ := Kd.R_slice T16.out
  obtain ⟨Au, cu, eu⟩ := Kd.R_slice U16.out
  subst et
  subst eu
  go_wp2_with fail
  refine (Q.inquestref00_Numbers.calls k (fun k_ => some k_ = (.slice At ns.length ct : Value).ownBlock) At ct ns (fun k_ => some k_ = (.slice Au ns.length cu : Value).ownBlock) Au cu ns true w16 (Kd.R_V (Kd.R_tight rfl T16.out)) (Kd.R_V (Kd.R_tight rfl U16.out)) HSS.out.2.2).mono ?_
  rintro e w17 ⟨rfl, hb17⟩
  have V17 := Aside0.mk (V16.out.below hb17)
  have B17 := Aside0.mk (below_then B16.out B16.out.size hb17)
  clear hb17 B16 T16 U16 V16
  go_wp2_with fail
  refine (inquestref01_Write.calls k A0 c0 b A6 c6 l ys w17 (HH.out.below B17.out).rb HC.out.1 (HH.out.below B17.out).rl HC.out.2.2 HY.out.1).mono ?_
  rintro e w18 ⟨yv, rfl, hyv, hb18⟩
  have V18 := Aside0.mk (V17.out.below hb18)
  have B18 := Aside0.mk (below_then B17.out B17.out.size hb18)
  obtain ⟨Av, cv, ev⟩ := Kd.V_slice hyv
  subst ev
  have Y18 := Aside0.mk (Kd.V_reads' hyv).2
  clear hb18 B17 V17 hyv
  obtain ⟨Aw, cw, ew, hwr, hwc⟩ := V18.out.reads
  subst ew
  have W18 := Aside0.mk (And.intro hwr hwc)
  clear hwr hwc
  go_wp2_with fail
  refine (inquestref00_Bytes.calls Aw cw wl Av cv ys true w18 W18.out.1 W18.out.2 Y18.out.2 Y18.out.1 HY.out.2).mono ?_
  rintro e w19 ⟨rfl, ⟨n19, rfl⟩⟩
  have V19 := Aside0.mk (V18.out.below (pw_below_drewN (Below.refl w18.heap.size w18) n19))
  have B19 := Aside0.mk (pw_below_drewN B18.out n19)
  clear V18 B18 W18 Y18
  generalize w18.drewN n19 = w19 at V19 B19 ⊢
  go_wp2_with fail
  refine (burn _ _ _ w19 V19.out).mono ?_
  rintro e w20 ⟨rfl, hg20⟩
  have B20 := Aside0.mk (B19.out.grown hg20 B19.out.size (fun g hg => Nat.le_trans N15.out (V19.out.1.lt g hg).1))
  clear hg20 B19 V19 N15
  go_wp2_with fail
  refine (back g1 k1 b A0 c0 w20 K1.out HS.out.1 (HH.out.below B20.out).own (HH.out.below B20.out).rb HC.out.1).mono ?_
  rintro e w21 ⟨rfl, ⟨n21, rfl⟩⟩
  have B21 := Aside0.mk (pw_below_drewN B20.out n21)
  clear B20
  generalize w20.drewN n21 = w21 at B21 ⊢
  go_wp2_with fail
  refine (back g2 k2 line A1 c1 w21 K2.out HS.out.2.1 (HH.out.below B21.out).row (HH.out.below B21.out).rline HC.out.2.1).mono ?_
  rintro e w22 ⟨rfl, ⟨n22, rfl⟩⟩
  have B22 := Aside0.mk (pw_below_drewN B21.out n22)
  clear B21
  generalize w21.drewN n22 = w22 at B22 ⊢
  go_wp2_with fail
  refine (Q.inquestlaw01_lives.calls k true w22 (HH.out.below B22.out).glob HV.out).mono ?_
  rintro e w23 ⟨rfl, hb23⟩
  have B23 := Aside0.mk (below_then B22.out B22.out.size hb23)
  clear hb23 B22
  go_wp2_with fail
  go_ret
  exact ⟨rfl, below_then B02.out B02.out.size B23.out⟩
end Go.Proofs.YtfdemglcjfdodaaDoor.R
