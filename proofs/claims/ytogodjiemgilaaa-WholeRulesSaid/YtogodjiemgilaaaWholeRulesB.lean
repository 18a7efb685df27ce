/- WholeRules: the walk where the integers are right, and y is 0. -/
import Derived.Test.YtogodjiemgilaaaWholeRulesA
namespace Go.Proofs.Ytogodjiemgilaaa
open Go.RowKit

set_option maxRecDepth 100000 in
set_option maxHeartbeats 16000000 in
theorem wrules_even0 (z1 z2 z3 : Int) (a1 a2 a3 : Option Addr) (c1 c2 c3 : Nat) (w : World) (i1 : IsInt w z1 a1 c1) (i2 : IsInt w z2 a2 c2) (i3 : IsInt w z3 a3 c3)
    (b1 : (dg BB z1.natAbs).length ≤ 10) (b2 : (dg BB z2.natAbs).length ≤ 10) (b3 : (dg BB z3.natAbs).length ≤ 10) (hz2 : z2 = 0)
    (HO : ∀ W, Ext w W → Calls Try.prog 47 #[.slice (some ⟨W.heap.size, 0, none⟩) 3 3] (W.alloc (.cells #[.bool (decide (z1 < 0)), .slice a1 (dg BB z1.natAbs).length c1, .bool (decide (z2 < 0)), .slice a2 (dg BB z2.natAbs).length c2, .bool (decide (z3 < 0)), .slice a3 (dg BB z3.natAbs).length c3] 69)) fun e w' => e = .returned (.bool false) ∧ Ext (W.alloc (.cells #[.bool (decide (z1 < 0)), .slice a1 (dg BB z1.natAbs).length c1, .bool (decide (z2 < 0)), .slice a2 (dg BB z2.natAbs).length c2, .bool (decide (z3 < 0)), .slice a3 (dg BB z3.natAbs).length c3] 69)) w') :
    Calls Try.prog 9 #[.agg #[.bool (decide (z1 < 0)), .slice a1 (dg BB z1.natAbs).length c1], .agg #[.bool (decide (z2 < 0)), .slice a2 (dg BB z2.natAbs).length c2], .agg #[.bool (decide (z3 < 0)), .slice a3 (dg BB z3.natAbs).length c3]] w fun e w' => e = .returned (.bool true) ∧ Ext w w' := by
  have l12 := len_add z1 z2
  have l23 := len_add z2 z3
  have p12 := len_mul z1 z2
  have p13 := len_mul z1 z3
  have p123 := len_mul z1 (z2 + z3)
  have hn2 := len_neg z2
  have ld := len_div z1 z2
  have lm := len_mod z1 z2
  have lg := len_gcd z1 z2
  have lqy := len_mul (divZ z1 z2) z2
  obtain ⟨g, hg⟩ : ∃ g : Int, g = ((Nat.gcd z1.natAbs z2.natAbs : Nat) : Int) := ⟨_, rfl⟩
  rw [← hg] at lg
  have HA12 := fun W (h : IsInt W z1 a1 c1) (k : IsInt W z2 a2 c2) => (addz_walk z1 z2 a1 a2 c1 c2 W (by omega) (by omega) h k).mono fun e w' h => GI.of h
  have HA21 := fun W (h : IsInt W z2 a2 c2) (k : IsInt W z1 a1 c1) => (addz_walk z2 z1 a2 a1 c2 c1 W (by omega) (by omega) h k).mono fun e w' h => GI.of h
  rw [Int.add_comm z2 z1] at HA21
  have HS12 := fun W a b c d (h : IsInt W (z1 + z2) a c) (k : IsInt W (z1 + z2) b d) => rsame_int (z1 + z2) a b c d W (by omega) h k
  have HM12 := fun W (h : IsInt W z1 a1 c1) (k : IsInt W z2 a2 c2) => (mulz_walk z1 z2 a1 a2 c1 c2 W (by omega) (by omega) h k).mono fun e w' h => GI.of h
  have HM21 := fun W (h : IsInt W z2 a2 c2) (k : IsInt W z1 a1 c1) => (mulz_walk z2 z1 a2 a1 c2 c1 W (by omega) (by omega) h k).mono fun e w' h => GI.of h
  rw [Int.mul_comm z2 z1] at HM21
  have HSM := fun W a b c d (h : IsInt W (z1 * z2) a c) (k : IsInt W (z1 * z2) b d) => rsame_int (z1 * z2) a b c d W (by omega) h k
  have HA23 := fun W (h : IsInt W z2 a2 c2) (k : IsInt W z3 a3 c3) => (addz_walk z2 z3 a2 a3 c2 c3 W (by omega) (by omega) h k).mono fun e w' h => GI.of h
  have HMD := fun W b d (h : IsInt W z1 a1 c1) (k : IsInt W (z2 + z3) b d) => (mulz_walk z1 (z2 + z3) a1 b c1 d W (by omega) (by omega) h k).mono fun e w' h => GI.of h
  have HM13 := fun W (h : IsInt W z1 a1 c1) (k : IsInt W z3 a3 c3) => (mulz_walk z1 z3 a1 a3 c1 c3 W (by omega) (by omega) h k).mono fun e w' h => GI.of h
  have HAD := fun W a b c d (h : IsInt W (z1 * z2) a c) (k : IsInt W (z1 * z3) b d) => (addz_walk (z1 * z2) (z1 * z3) a b c d W (by omega) (by omega) h k).mono fun e w' h => GI.of h
  rw [← Int.mul_add z1 z2 z3] at HAD
  have HSD := fun W a b c d (h : IsInt W (z1 * (z2 + z3)) a c) (k : IsInt W (z1 * (z2 + z3)) b d) => rsame_int (z1 * (z2 + z3)) a b c d W (by omega) h k
  have HN2 := fun W (h : IsInt W z2 a2 c2) => (neg_walk z2 a2 c2 W (by omega) h).mono fun e w' h => GI.of h
  have HAN := fun W a b c d (h : IsInt W (z1 + z2) a c) (k : IsInt W (-z2) b d) => (addz_walk (z1 + z2) (-z2) a b c d W (by omega) (by omega) h k).mono fun e w' h => GI.of h
  rw [show z1 + z2 + -z2 = z1 by omega] at HAN
  have HSX := fun W a c (h : IsInt W z1 a c) (k : IsInt W z1 a1 c1) => rsame_int z1 a a1 c c1 W (by omega) h k
  have HT := fun W (h : IsInt W z1 a1 c1) => textz_walk z1 a1 c1 W (by omega) h
  have d10 := dg10_len z1.natAbs 10 b1
  have htl : (txt z1).size ≤ 1000 := by
    rw [← byt_len]
    unfold txt
    rw [byt_bs]
    · unfold txtR; rw [List.length_reverse, List.length_append, List.length_append, asc_len]
      have h1 : (if z1.natAbs = 0 then [48] else []).length ≤ 1 := by split <;> simp
      have h2 : (if decide (z1 < 0) = true then [45] else []).length ≤ 1 := by split <;> simp
      omega
    · exact txt_lt z1
  have HP := fun W => parse_walk (txt z1) W (by omega)
  rw [parse_txt z1 (by omega)] at HP
  have HP : ∀ W, Calls Try.prog 67 #[.string (txt z1)] W (fun e w' => ∃ a c, e = .returned (.tuple #[.agg #[.bool (decide (z1 < 0)), .slice a (dg BB z1.natAbs).length c], .bool true]) ∧ IsInt w' z1 a c ∧ Ext W w') := HP
  have HD := fun W (h : IsInt W z1 a1 c1) (k : IsInt W z2 a2 c2) => divz_walk z1 z2 a1 a2 c1 c2 W (by omega) (by omega) h k
  have HG := fun W (h : IsInt W z1 a1 c1) (k : IsInt W z2 a2 c2) => (gcdz_walk z1 z2 a1 a2 c1 c2 W (by omega) (by omega) h k).mono fun e w' h => GI.of h
  rw [← hg] at HG
  have HDX := fun W b d (h : IsInt W z1 a1 c1) (k : IsInt W g b d) => divz_walk z1 g a1 b c1 d W (by omega) (by omega) h k
  have HDY := fun W b d (h : IsInt W z2 a2 c2) (k : IsInt W g b d) => divz_walk z2 g a2 b c2 d W (by omega) (by omega) h k
  have HMQ := fun W a c (h : IsInt W (divZ z1 z2) a c) (k : IsInt W z2 a2 c2) => (mulz_walk (divZ z1 z2) z2 a a2 c c2 W (by omega) (by omega) h k).mono fun e w' h => GI.of h
  have HAR := fun W a b c d (h : IsInt W (divZ z1 z2 * z2) a c) (k : IsInt W (modZ z1 z2) b d) => (addz_walk (divZ z1 z2 * z2) (modZ z1 z2) a b c d W (by omega) (by omega) h k).mono fun e w' h => GI.of h
  have HCR := fun W a c (h : IsInt W (modZ z1 z2) a c) (k : IsInt W z2 a2 c2) => cmpz_walk (modZ z1 z2) (z2.natAbs : Int) a a2 c c2 W (by omega) (by rw [Int.natAbs_natCast]; omega) h (by rw [IsInt, Int.natAbs_natCast]; exact k)
  rw [Int.natAbs_natCast, show decide (((z2.natAbs : Nat) : Int) < 0) = false from decide_eq_false (by omega)] at HCR
  unfold GI GotDiv at *
  have F6 : (((dg BB z2.natAbs).length : Int) == 0) = true := by rw [hz2]; rfl
  have J := Lib.hid (And.intro i1 (And.intro i2 i3))
  clear l12 l23 p12 p13 p123 hn2 ld lm lg lqy b1 b2 b3 i1 i2 i3 d10 htl hg hz2
  revert HO HA12 HA21 HS12 HM12 HM21 HSM HA23 HMD HM13 HAD HSD HN2 HAN HSX HT HP HD HG HDX HDY HMQ HAR HCR F6
  generalize decide (z1 + z2 < 0) = sA
  generalize (dg BB (z1 + z2).natAbs).length = nA
  generalize decide (z1 * z2 < 0) = sB
  generalize (dg BB (z1 * z2).natAbs).length = nB
  generalize decide (z2 + z3 < 0) = sC
  generalize (dg BB (z2 + z3).natAbs).length = nC
  generalize decide (z1 * (z2 + z3) < 0) = sD
  generalize (dg BB (z1 * (z2 + z3)).natAbs).length = nD
  generalize decide (z1 * z3 < 0) = sE
  generalize (dg BB (z1 * z3).natAbs).length = nE
  generalize decide (-z2 < 0) = sF
  generalize (dg BB (-z2).natAbs).length = nF
  generalize txt z1 = T1
  generalize hqy : divZ z1 z2 * z2 = yq
  generalize hqd : divZ z1 z2 = dq
  generalize hqm : modZ z1 z2 = mq
  generalize hqg1 : divZ z1 g = dg1
  generalize hqg2 : divZ z2 g = dg2
  generalize hqg3 : modZ z1 g = mg1
  generalize hqg4 : modZ z2 g = mg2
  clear hqy hqd hqm hqg1 hqg2 hqg3 hqg4
  generalize decide (yq < 0) = sH
  generalize (dg BB yq.natAbs).length = nH
  generalize decide (dq < 0) = sI
  generalize (dg BB dq.natAbs).length = nI
  generalize decide (mq < 0) = sJ
  generalize (dg BB mq.natAbs).length = nJ
  generalize decide (dg1 < 0) = sK
  generalize (dg BB dg1.natAbs).length = nK
  generalize decide (dg2 < 0) = sL
  generalize (dg BB dg2.natAbs).length = nL
  generalize decide (mg1 < 0) = sM
  generalize (dg BB mg1.natAbs).length = nM
  generalize decide (mg2 < 0) = sN
  generalize (dg BB mg2.natAbs).length = nN
  generalize decide (g < 0) = sO
  generalize (dg BB g.natAbs).length = nO
  generalize decide (z1 < 0) = s1
  generalize (dg BB z1.natAbs).length = n1
  generalize decide (z2 < 0) = s2
  generalize (dg BB z2.natAbs).length = n2
  generalize decide (z3 < 0) = s3
  generalize (dg BB z3.natAbs).length = n3
  intro HO HA12 HA21 HS12 HM12 HM21 HSM HA23 HMD HM13 HAD HSD HN2 HAN HSX HT HP HD HG HDX HDY HMQ HAR HCR F6
  have HO := Lib.hid HO
  have HA12 := Lib.hid HA12
  have HA21 := Lib.hid HA21
  have HS12 := Lib.hid HS12
  have HM12 := Lib.hid HM12
  have HM21 := Lib.hid HM21
  have HSM := Lib.hid HSM
  have HA23 := Lib.hid HA23
  have HMD := Lib.hid HMD
  have HM13 := Lib.hid HM13
  have HAD := Lib.hid HAD
  have HSD := Lib.hid HSD
  have HN2 := Lib.hid HN2
  have HAN := Lib.hid HAN
  have HSX := Lib.hid HSX
  have HT := Lib.hid HT
  have HP := Lib.hid HP
  have HD := Lib.hid HD
  have HG := Lib.hid HG
  have HDX := Lib.hid HDX
  have HDY := Lib.hid HDY
  have HMQ := Lib.hid HMQ
  have HAR := Lib.hid HAR
  have HCR := Lib.hid HCR
  go_enter Try.func9, Try.ntmps9
  go_wp2_with fail
  obtain ⟨W0, hW0, q0, x0⟩ := H3.new w (.bool s1) (.slice a1 n1 c1) (.bool s2) (.slice a2 n2 c2) (.bool s3) (.slice a3 n3 c3)
  rw [hW0]
  clear hW0
  refine (speaks1_walk _).mono ?_
  rintro e w1 ⟨rfl, x1⟩
  obtain ⟨k0, k1, k2, k3, k4, k5⟩ := (q0.ext x1).cells
  go_wp2_with fail
  refine (HO.out _ (x0.trans x1)).mono ?_
  rintro e w3 ⟨rfl, x2⟩
  have X3 := (x1.trans (Ext.new _ _)).trans x2
  clear k0 k1 k2 k3 k4 k5
  obtain ⟨k0, k1, k2, k3, k4, k5⟩ := (q0.ext X3).cells
  have Q := Lib.hid (And.intro q0 (And.intro x0 X3))
  clear q0 x0 x1 x2 X3
  go_wp2_with fail
  have cur := (Ext.refl w3).drew
  go_region_held3 (fun w' => w'.cell? ⟨w.heap.size, 0, none⟩ = some (.bool s1) ∧ w'.cell? ⟨w.heap.size, 1, none⟩ = some (.slice a1 n1 c1) ∧ w'.cell? ⟨w.heap.size + 1, 0, none⟩ = some (.bool s2) ∧ w'.cell? ⟨w.heap.size + 1, 1, none⟩ = some (.slice a2 n2 c2) ∧ w'.cell? ⟨w.heap.size + 1 + 1, 0, none⟩ = some (.bool s3) ∧ w'.cell? ⟨w.heap.size + 1 + 1, 1, none⟩ = some (.slice a3 n3 c3)) (exact (Q.out.1.ext (Q.out.2.2.trans cur)).cells) (first
    | (have hh := D15; go_at_call 51; refine (HSX.out _ _ _ ?_ ?_).mono ?_; exact m15; exact J.out.1.ext ((Q.out.2.1.trans Q.out.2.2).trans cur); rintro e wn ⟨rfl, g⟩; have cur := cur.trans g; have D16 := trivial)
    | (have hh := D14; go_at_call 52; refine (HAN.out _ _ _ _ _ ?_ ?_).mono ?_; exact m13; exact m14; rintro e wn ⟨_, _, rfl, m15, g⟩; have cur := cur.trans g; have D15 := trivial)
    | (have hh := D13; go_at_call 57; refine (HN2.out _ ?_).mono ?_; exact J.out.2.1.ext ((Q.out.2.1.trans Q.out.2.2).trans cur); rintro e wn ⟨_, _, rfl, m14, g⟩; have m13 := m13.ext g; have cur := cur.trans g; have D14 := trivial)
    | (have hh := D12; go_at_call 52; refine (HA12.out _ ?_ ?_).mono ?_; exact J.out.1.ext ((Q.out.2.1.trans Q.out.2.2).trans cur); exact J.out.2.1.ext ((Q.out.2.1.trans Q.out.2.2).trans cur); rintro e wn ⟨_, _, rfl, m13, g⟩; have cur := cur.trans g; have D13 := trivial)
    | (have hh := D11; go_at_call 51; refine (HSD.out _ _ _ _ _ ?_ ?_).mono ?_; exact m8; exact m11; rintro e wn ⟨rfl, g⟩; have cur := cur.trans g; have D12 := trivial)
    | (have hh := D10; go_at_call 52; refine (HAD.out _ _ _ _ _ ?_ ?_).mono ?_; exact m9; exact m10; rintro e wn ⟨_, _, rfl, m11, g⟩; have m8 := m8.ext g; have cur := cur.trans g; have D11 := trivial)
    | (have hh := D9; go_at_call 55; refine (HM13.out _ ?_ ?_).mono ?_; exact J.out.1.ext ((Q.out.2.1.trans Q.out.2.2).trans cur); exact J.out.2.2.ext ((Q.out.2.1.trans Q.out.2.2).trans cur); rintro e wn ⟨_, _, rfl, m10, g⟩; have m8 := m8.ext g; have m9 := m9.ext g; have cur := cur.trans g; have D10 := trivial)
    | (have hh := D8; go_at_call 55; refine (HM12.out _ ?_ ?_).mono ?_; exact J.out.1.ext ((Q.out.2.1.trans Q.out.2.2).trans cur); exact J.out.2.1.ext ((Q.out.2.1.trans Q.out.2.2).trans cur); rintro e wn ⟨_, _, rfl, m9, g⟩; have m8 := m8.ext g; have cur := cur.trans g; have D9 := trivial)
    | (have hh := D7; go_at_call 55; refine (HMD.out _ _ _ ?_ ?_).mono ?_; exact J.out.1.ext ((Q.out.2.1.trans Q.out.2.2).trans cur); exact m7; rintro e wn ⟨_, _, rfl, m8, g⟩; have cur := cur.trans g; have D8 := trivial)
    | (have hh := D6; go_at_call 52; refine (HA23.out _ ?_ ?_).mono ?_; exact J.out.2.1.ext ((Q.out.2.1.trans Q.out.2.2).trans cur); exact J.out.2.2.ext ((Q.out.2.1.trans Q.out.2.2).trans cur); rintro e wn ⟨_, _, rfl, m7, g⟩; have cur := cur.trans g; have D7 := trivial)
    | (have hh := D5; go_at_call 51; refine (HSM.out _ _ _ _ _ ?_ ?_).mono ?_; exact m4; exact m5; rintro e wn ⟨rfl, g⟩; have cur := cur.trans g; have D6 := trivial)
    | (have hh := D4; go_at_call 55; refine (HM21.out _ ?_ ?_).mono ?_; exact J.out.2.1.ext ((Q.out.2.1.trans Q.out.2.2).trans cur); exact J.out.1.ext ((Q.out.2.1.trans Q.out.2.2).trans cur); rintro e wn ⟨_, _, rfl, m5, g⟩; have m4 := m4.ext g; have cur := cur.trans g; have D5 := trivial)
    | (have hh := D3; go_at_call 55; refine (HM12.out _ ?_ ?_).mono ?_; exact J.out.1.ext ((Q.out.2.1.trans Q.out.2.2).trans cur); exact J.out.2.1.ext ((Q.out.2.1.trans Q.out.2.2).trans cur); rintro e wn ⟨_, _, rfl, m4, g⟩; have cur := cur.trans g; have D4 := trivial)
    | (have hh := D2; go_at_call 51; refine (HS12.out _ _ _ _ _ ?_ ?_).mono ?_; exact m1; exact m2; rintro e wn ⟨rfl, g⟩; have cur := cur.trans g; have D3 := trivial)
    | (have hh := D1; go_at_call 52; refine (HA21.out _ ?_ ?_).mono ?_; exact J.out.2.1.ext ((Q.out.2.1.trans Q.out.2.2).trans cur); exact J.out.1.ext ((Q.out.2.1.trans Q.out.2.2).trans cur); rintro e wn ⟨_, _, rfl, m2, g⟩; have m1 := m1.ext g; have cur := cur.trans g; have D2 := trivial)
    | (go_at_call 52; refine (HA12.out _ ?_ ?_).mono ?_; exact J.out.1.ext ((Q.out.2.1.trans Q.out.2.2).trans cur); exact J.out.2.1.ext ((Q.out.2.1.trans Q.out.2.2).trans cur); rintro e wn ⟨_, _, rfl, m1, g⟩; have cur := cur.trans g; have D1 := trivial))
  have Y := Q.out.2.2.trans cur
  clear cur k0 k1 k2 k3 k4 k5
  obtain ⟨k0, k1, k2, k3, k4, k5⟩ := (Q.out.1.ext Y).cells
  go_wp2_with fail
  refine (HT.out _ (J.out.1.ext (Q.out.2.1.trans Y))).mono ?_
  rintro e w4 ⟨rfl, y4⟩
  go_wp2_with fail
  refine (HP.out _).mono ?_
  rintro e w5 ⟨a7, c7, rfl, j7, y5⟩
  have Y55 := (Y.trans y4).trans y5
  have Y5 := Y55.alloc (.cells #[.bool s1, .slice a7 n1 c7] 69)
  clear k0 k1 k2 k3 k4 k5
  obtain ⟨k0, k1, k2, k3, k4, k5⟩ := (Q.out.1.ext Y5).cells
  obtain ⟨kk0, kk1, kk2, kk3, kk4, kk5⟩ := (Q.out.1.ext Y55).cells
  go_wp2_with fail
  refine (HSX.out _ _ _ (j7.ext (Ext.new _ _)) (J.out.1.ext (Q.out.2.1.trans Y5))).mono ?_
  rintro e w6 ⟨rfl, y6⟩
  have Y6 := Y5.trans y6
  clear k0 k1 k2 k3 k4 k5 kk0 kk1 kk2 kk3 kk4 kk5 Y5 Y55 y6 Y y4 y5
  obtain ⟨k0, k1, k2, k3, k4, k5⟩ := (Q.out.1.ext Y6).cells
  go_wp2_with fail
  go_ret
  exact ⟨rfl, Q.out.2.1.trans Y6⟩
end Go.Proofs.Ytogodjiemgilaaa
