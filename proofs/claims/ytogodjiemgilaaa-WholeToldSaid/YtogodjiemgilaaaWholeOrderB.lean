/- WholeOrder: the walk where the integers are right. -/
import Derived.Test.YtogodjiemgilaaaWholeOrderA
namespace Go.Proofs.Ytogodjiemgilaaa
open Go.RowKit

/-- an integer that is handed back -/
def GI (z : Int) (W : World) (e : Ending) (w' : World) : Prop := ∃ a c, e = .returned (.agg #[.bool (decide (z < 0)), .slice a (dg BB z.natAbs).length c]) ∧ IsInt w' z a c ∧ Ext W w'
theorem GI.of {z : Int} {W : World} {e : Ending} {w' : World} (h : GotInt W z e w') : GI z W e w' := GotInt.isInt h

set_option maxRecDepth 100000 in
set_option maxHeartbeats 8000000 in
theorem worder_even (z1 z2 z3 : Int) (a1 a2 a3 : Option Addr) (c1 c2 c3 : Nat) (n : Int) (w : World) (i1 : IsInt w z1 a1 c1) (i2 : IsInt w z2 a2 c2) (i3 : IsInt w z3 a3 c3)
    (b1 : (dg BB z1.natAbs).length ≤ 10) (b2 : (dg BB z2.natAbs).length ≤ 10) (b3 : (dg BB z3.natAbs).length ≤ 10) (hn1 : -9223372036854775808 ≤ n) (hn2 : n < 9223372036854775808)
    (HO : ∀ W, Ext w W → Calls Try.prog 47 #[.slice (some ⟨W.heap.size, 0, none⟩) 3 3] (W.alloc (.cells #[.bool (decide (z1 < 0)), .slice a1 (dg BB z1.natAbs).length c1, .bool (decide (z2 < 0)), .slice a2 (dg BB z2.natAbs).length c2, .bool (decide (z3 < 0)), .slice a3 (dg BB z3.natAbs).length c3] 69)) fun e w' => e = .returned (.bool false) ∧ Ext (W.alloc (.cells #[.bool (decide (z1 < 0)), .slice a1 (dg BB z1.natAbs).length c1, .bool (decide (z2 < 0)), .slice a2 (dg BB z2.natAbs).length c2, .bool (decide (z3 < 0)), .slice a3 (dg BB z3.natAbs).length c3] 69)) w') :
    Calls Try.prog 8 #[.agg #[.bool (decide (z1 < 0)), .slice a1 (dg BB z1.natAbs).length c1], .agg #[.bool (decide (z2 < 0)), .slice a2 (dg BB z2.natAbs).length c2], .agg #[.bool (decide (z3 < 0)), .slice a3 (dg BB z3.natAbs).length c3], .int .i64 n] w fun e w' => e = .returned (.bool true) ∧ Ext w w' := by
  have la13 := len_add z1 z3
  have la23 := len_add z2 z3
  have lm13 := len_mul z1 z3
  have lm23 := len_mul z2 z3
  have ln : (dg BB n.natAbs).length ≤ 3 := by rw [dg_len_le BB_gt]; have : n.natAbs ≤ 9223372036854775808 := by omega
                                              exact Nat.lt_of_le_of_lt this (by decide)
  have HC := fun W (h : IsInt W z1 a1 c1) (k : IsInt W z2 a2 c2) => cmpz_walk z1 z2 a1 a2 c1 c2 W (by omega) (by omega) h k
  have HCS := fun W (h : IsInt W z2 a2 c2) (k : IsInt W z1 a1 c1) => cmpz_walk z2 z1 a2 a1 c2 c1 W (by omega) (by omega) h k
  have HA1 := fun W (h : IsInt W z1 a1 c1) (k : IsInt W z3 a3 c3) => (addz_walk z1 z3 a1 a3 c1 c3 W (by omega) (by omega) h k).mono fun e w' h => GI.of h
  have HA2 := fun W (h : IsInt W z2 a2 c2) (k : IsInt W z3 a3 c3) => (addz_walk z2 z3 a2 a3 c2 c3 W (by omega) (by omega) h k).mono fun e w' h => GI.of h
  have HM1 := fun W (h : IsInt W z1 a1 c1) (k : IsInt W z3 a3 c3) => (mulz_walk z1 z3 a1 a3 c1 c3 W (by omega) (by omega) h k).mono fun e w' h => GI.of h
  have HM2 := fun W (h : IsInt W z2 a2 c2) (k : IsInt W z3 a3 c3) => (mulz_walk z2 z3 a2 a3 c2 c3 W (by omega) (by omega) h k).mono fun e w' h => GI.of h
  have HCA := fun W a b c d (h : IsInt W (z1 + z3) a c) (k : IsInt W (z2 + z3) b d) => cmpz_walk (z1 + z3) (z2 + z3) a b c d W (by omega) (by omega) h k
  have HCM := fun W a b c d (h : IsInt W (z1 * z3) a c) (k : IsInt W (z2 * z3) b d) => cmpz_walk (z1 * z3) (z2 * z3) a b c d W (by omega) (by omega) h k
  have HC0 := fun W (h : IsInt W z3 a3 c3) => cmpz_walk z3 0 a3 none c3 0 W (by omega) (by decide) h ⟨Nat.le_refl _, Nat.zero_le _, Rd.nil _ _⟩
  have HOF := fun W => (ofi_walk n W hn1 hn2).mono fun e w' h => GI.of h
  have HSM := fun W a c (h : IsInt W n a c) => small_walk n a c W (by omega) h
  have hs : small n = true → smallV n = n := fun h => by unfold smallV; rw [h]; rfl
  have hd := cmpZ_swap z1 z2
  have hp := cmpZ_mul z1 z2 z3
  have hb1 := cmpZ_bd z1 z2
  have hb2 := cmpZ_bd z3 0
  rw [cmpZ_add] at HCA
  have hw1 : IntKind.i64.wrap (-cmpZ z2 z1) = cmpZ z1 z2 := by
    rw [hd, Int.neg_neg]; simp only [IntKind.wrap, IntKind.bits, IntKind.signed]; simp; omega
  have hw2 : IntKind.i64.wrap (cmpZ z1 z2 * cmpZ z3 0) = cmpZ (z1 * z3) (z2 * z3) := by
    rw [← hp]
    have := cmpZ_bd (z1 * z3) (z2 * z3)
    simp only [IntKind.wrap, IntKind.bits, IntKind.signed]; simp; omega
  have J := Lib.hid (And.intro i1 (And.intro i2 i3))
  rw [show decide ((0 : Int) < 0) = false from rfl, show (dg BB (0 : Int).natAbs).length = 0 from rfl] at HC0
  clear la13 la23 lm13 lm23 ln b1 b2 b3 i1 i2 i3 hd hp hb1 hb2
  revert HC HCS HA1 HA2 HM1 HM2 HCA HCM HC0 HOF HSM hs hw1 hw2 HO
  unfold GI
  generalize cmpZ z1 z2 = q
  generalize cmpZ z2 z1 = q'
  generalize cmpZ z3 0 = e0
  generalize cmpZ (z1 * z3) (z2 * z3) = p
  generalize decide (z1 + z3 < 0) = s13
  generalize (dg BB (z1 + z3).natAbs).length = l13
  generalize decide (z2 + z3 < 0) = s23
  generalize (dg BB (z2 + z3).natAbs).length = l23
  generalize decide (z1 * z3 < 0) = t13
  generalize (dg BB (z1 * z3).natAbs).length = m13
  generalize decide (z2 * z3 < 0) = t23
  generalize (dg BB (z2 * z3).natAbs).length = m23
  generalize decide (n < 0) = sn
  generalize (dg BB n.natAbs).length = ln
  generalize decide (z1 < 0) = s1
  generalize decide (z2 < 0) = s2
  generalize decide (z3 < 0) = s3
  generalize (dg BB z1.natAbs).length = n1
  generalize (dg BB z2.natAbs).length = n2
  generalize (dg BB z3.natAbs).length = n3
  intro HO HC HCS HA1 HA2 HM1 HM2 HCA HCM HC0 HOF HSM hs hw1 hw2
  have HC := Lib.hid HC
  have HCS := Lib.hid HCS
  have HA1 := Lib.hid HA1
  have HA2 := Lib.hid HA2
  have HM1 := Lib.hid HM1
  have HM2 := Lib.hid HM2
  have HCA := Lib.hid HCA
  have HCM := Lib.hid HCM
  have HC0 := Lib.hid HC0
  have HOF := Lib.hid HOF
  have HSM := Lib.hid HSM
  have HO := Lib.hid HO
  have HS := Lib.hid hs
  clear hs
  go_enter Try.func8, Try.ntmps8
  go_wp2_with fail
  obtain ⟨W0, hW0, q0, x0⟩ := H3.new w (.bool s1) (.slice a1 n1 c1) (.bool s2) (.slice a2 n2 c2) (.bool s3) (.slice a3 n3 c3)
  rw [hW0]
  clear hW0
  refine (speaks1_walk _).mono ?_
  rintro e w1 ⟨rfl, x1⟩
  obtain ⟨k0, k1, k2, k3, k4, k5⟩ := (q0.ext x1).cells
  go_wp2_with fail
  refine (HO.out _ (x0.trans x1)).mono ?_
  rintro e w2 ⟨rfl, x2⟩
  have X2 := (x1.trans (Ext.new _ _)).trans x2
  clear k0 k1 k2 k3 k4 k5
  obtain ⟨k0, k1, k2, k3, k4, k5⟩ := (q0.ext X2).cells
  go_wp2_with fail
  refine (HC.out _ (J.out.1.ext (x0.trans X2)) (J.out.2.1.ext (x0.trans X2))).mono ?_
  rintro e w3 ⟨rfl, x3⟩
  have X3 := X2.trans x3
  clear k0 k1 k2 k3 k4 k5
  obtain ⟨k0, k1, k2, k3, k4, k5⟩ := (q0.ext X3).cells
  have Q := Lib.hid (And.intro q0 (And.intro x0 X3))
  clear q0 x0 x1 x2 x3 X2 X3
  go_wp2_with fail
  have cur := (Ext.refl w3).drew
  go_region_held3 (fun w' => w'.cell? ⟨w.heap.size, 0, none⟩ = some (.bool s1) ∧ w'.cell? ⟨w.heap.size, 1, none⟩ = some (.slice a1 n1 c1) ∧ w'.cell? ⟨w.heap.size + 1, 0, none⟩ = some (.bool s2) ∧ w'.cell? ⟨w.heap.size + 1, 1, none⟩ = some (.slice a2 n2 c2) ∧ w'.cell? ⟨w.heap.size + 1 + 1, 0, none⟩ = some (.bool s3) ∧ w'.cell? ⟨w.heap.size + 1 + 1, 1, none⟩ = some (.slice a3 n3 c3)) (exact (Q.out.1.ext (Q.out.2.2.trans cur)).cells) (first
    | (have hh := D7; go_at_call 61; refine (HC0.out _ ?_).mono ?_; exact J.out.2.2.ext ((Q.out.2.1.trans Q.out.2.2).trans cur); rintro e wn7 ⟨rfl, g⟩; have cur := cur.trans g; have D8 := trivial)
    | (have hh := D6; go_at_call 61; refine (HCM.out _ _ _ _ _ ?_ ?_).mono ?_; exact m5; exact m6; rintro e wn6 ⟨rfl, g⟩; have m5 := m5.ext g; have m6 := m6.ext g; have cur := cur.trans g; have D7 := trivial)
    | (have hh := D5; go_at_call 55; refine (HM2.out _ ?_ ?_).mono ?_; exact J.out.2.1.ext ((Q.out.2.1.trans Q.out.2.2).trans cur); exact J.out.2.2.ext ((Q.out.2.1.trans Q.out.2.2).trans cur); rintro e wn5 ⟨e4, d4, rfl, m6, g⟩; have m5 := m5.ext g; have cur := cur.trans g; have D6 := trivial)
    | (have hh := D4; go_at_call 55; refine (HM1.out _ ?_ ?_).mono ?_; exact J.out.1.ext ((Q.out.2.1.trans Q.out.2.2).trans cur); exact J.out.2.2.ext ((Q.out.2.1.trans Q.out.2.2).trans cur); rintro e wn4 ⟨e3, d3, rfl, m5, g⟩; have cur := cur.trans g; have D5 := trivial)
    | (have hh := D3; go_at_call 61; refine (HCS.out _ ?_ ?_).mono ?_; exact J.out.2.1.ext ((Q.out.2.1.trans Q.out.2.2).trans cur); exact J.out.1.ext ((Q.out.2.1.trans Q.out.2.2).trans cur); rintro e wn3 ⟨rfl, g⟩; have cur := cur.trans g; have D4 := trivial)
    | (have hh := D2; go_at_call 61; refine (HCA.out _ _ _ _ _ ?_ ?_).mono ?_; exact m1; exact m2; rintro e wn2 ⟨rfl, g⟩; have m1 := m1.ext g; have m2 := m2.ext g; have cur := cur.trans g; have D3 := trivial)
    | (have hh := D1; go_at_call 52; refine (HA2.out _ ?_ ?_).mono ?_; exact J.out.2.1.ext ((Q.out.2.1.trans Q.out.2.2).trans cur); exact J.out.2.2.ext ((Q.out.2.1.trans Q.out.2.2).trans cur); rintro e wn1 ⟨e2, d2, rfl, m2, g⟩; have m1 := m1.ext g; have cur := cur.trans g; have D2 := trivial)
    | (go_at_call 52; refine (HA1.out _ ?_ ?_).mono ?_; exact J.out.1.ext ((Q.out.2.1.trans Q.out.2.2).trans cur); exact J.out.2.2.ext ((Q.out.2.1.trans Q.out.2.2).trans cur); rintro e wn0 ⟨e1, d1, rfl, m1, g⟩; have cur := cur.trans g; have D1 := trivial))
  have X9 := Q.out.2.2.trans cur
  have X0 := Q.out.2.1
  cases hsn : small n
  · rw [hsn] at HSM
    go_wp2_with fail
    refine (HOF.out _).mono ?_
    rintro e wa ⟨aa, ca, rfl, ia, ga⟩
    go_wp2_with fail
    refine (HSM.out _ _ _ ia).mono ?_
    rintro e wb ⟨rfl, gb⟩
    go_wp2_with fail
    go_ret
    exact ⟨rfl, ((X0.trans X9).trans ga).trans gb⟩
  · rw [hsn, HS.out hsn] at HSM
    go_wp2_with fail
    refine (HOF.out _).mono ?_
    rintro e wa ⟨aa, ca, rfl, ia, ga⟩
    go_wp2_with fail
    refine (HSM.out _ _ _ ia).mono ?_
    rintro e wb ⟨rfl, gb⟩
    go_wp2_with fail
    go_ret
    exact ⟨rfl, ((X0.trans X9).trans ga).trans gb⟩
end Go.Proofs.Ytogodjiemgilaaa
