/- WholeRules: plain laws; the odd case. -/
import Derived.Test.YtogodjiemgilaaaWholeOrderB
import Derived.Test.YtogodjiemgilaaaParseC
namespace Go.Proofs.Ytogodjiemgilaaa
open Go.RowKit

theorem rsame_int (z : Int) (a b : Option Addr) (c d : Nat) (W : World) (hl : (dg BB z.natAbs).length ≤ 1000000) (h : IsInt W z a c) (k : IsInt W z b d) :
    Calls Try.prog 51 #[.agg #[.bool (decide (z < 0)), .slice a (dg BB z.natAbs).length c], .agg #[.bool (decide (z < 0)), .slice b (dg BB z.natAbs).length d]] W fun e w' => e = .returned (.bool true) ∧ Ext W w' := by
  have := rsame_walk (decide (z < 0)) (decide (z < 0)) (dg BB z.natAbs) (dg BB z.natAbs) a b c d W (by omega) (by omega) h.2.2 k.2.2
  rwa [decide_eq_true (⟨rfl, rfl⟩ : decide (z < 0) = decide (z < 0) ∧ dg BB z.natAbs = dg BB z.natAbs)] at this

theorem mod_bd (x y : Int) (h : y ≠ 0) : 0 ≤ modZ x y ∧ modZ x y < (y.natAbs : Int) := by
  unfold modZ; rw [if_neg h]
  exact ⟨Int.emod_nonneg x h, Int.emod_lt x h⟩
theorem div_mod (x y : Int) (h : y ≠ 0) : divZ x y * y + modZ x y = x := by
  unfold divZ modZ; rw [if_neg h, if_neg h, Int.mul_comm]; exact Int.mul_ediv_add_emod x y
theorem mod_gcd (x : Int) (g : Int) (h : g ∣ x) (h0 : g ≠ 0) : modZ x g = 0 := by
  unfold modZ; rw [if_neg h0]; exact Int.emod_eq_zero_of_dvd h
theorem len_div (x y : Int) : (dg BB (divZ x y).natAbs).length ≤ (dg BB x.natAbs).length := by
  refine dg_len_mono BB_gt ?_
  unfold divZ; split
  · simp
  · exact Int.natAbs_ediv_le_natAbs x y
theorem len_mod (x y : Int) : (dg BB (modZ x y).natAbs).length ≤ (dg BB y.natAbs).length := by
  by_cases h : y = 0
  · unfold modZ; rw [if_pos h]; simp [dg_zero]
  · refine dg_len_mono BB_gt ?_
    have := mod_bd x y h
    omega
theorem len_gcd (x y : Int) : (dg BB ((Nat.gcd x.natAbs y.natAbs : Nat) : Int).natAbs).length ≤ (dg BB x.natAbs).length + (dg BB y.natAbs).length := by
  rw [Int.natAbs_natCast]
  rcases Nat.eq_zero_or_pos y.natAbs with h | h
  · rw [h, Nat.gcd_zero_right]; omega
  · exact Nat.le_trans (dg_len_mono BB_gt (Nat.gcd_le_right _ h)) (Nat.le_add_left _ _)

theorem new1 (w : World) (u0 u1 : Value) : ∃ W0, w.alloc (.cells #[u0, u1] 69) = W0 ∧ Row W0 w.heap.size 69 [u0, u1] ∧ Ext w W0 := ⟨_, rfl, Row.new w _ [_, _], Ext.new _ _⟩
theorem new2 (w : World) (u0 u1 v0 v1 : Value) : ∃ W0, (w.alloc (.cells #[u0, u1] 69)).alloc (.cells #[v0, v1] 69) = W0 ∧ Row W0 w.heap.size 69 [u0, u1] ∧ Row W0 (w.heap.size + 1) 69 [v0, v1] ∧ Ext w W0 := by
  refine ⟨_, rfl, (Row.new w _ [_, _]).alloc _, ?_, (Ext.new _ _).alloc _⟩
  have := Row.new (w.alloc (.cells #[u0, u1] 69)) 69 [v0, v1]
  rwa [World.size_alloc] at this

set_option maxRecDepth 100000 in
set_option maxHeartbeats 2000000 in
theorem wrules_odd (x y z : AInt) (w : World) (hx : x.ok w) (hy : y.ok w) (hz : z.ok w) (ho : [x, y, z].any AInt.odd = true) :
    Calls Try.prog 9 #[x.v, y.v, z.v] w fun e w' => e = .returned (.bool true) ∧ Ext w w' := by
  have HO := Lib.hid (fun W (h : x.ok W) (k : y.ok W) (l : z.ok W) => odd3 x y z W h k l)
  rw [ho] at HO
  have HX := Lib.hid hx
  have HY := Lib.hid hy
  have HZ := Lib.hid hz
  clear ho hx hy hz
  obtain ⟨s1, a1, l1, c1⟩ := x
  obtain ⟨s2, a2, l2, c2⟩ := y
  obtain ⟨s3, a3, l3, c3⟩ := z
  unfold AInt.v
  simp only at HO ⊢
  generalize l1.length = n1 at *
  generalize l2.length = n2 at *
  generalize l3.length = n3 at *
  go_enter Try.func9, Try.ntmps9
  go_wp2_with fail
  obtain ⟨W0, hW0, q0, x0⟩ := H3.new w (.bool s1) (.slice a1 n1 c1) (.bool s2) (.slice a2 n2 c2) (.bool s3) (.slice a3 n3 c3)
  rw [hW0]
  clear hW0
  refine (speaks1_walk _).mono ?_
  rintro e w1 ⟨rfl, x1⟩
  obtain ⟨k0, k1, k2, k3, k4, k5⟩ := (q0.ext x1).cells
  go_wp2_with fail
  refine (HO.out _ (HX.out.ext (x0.trans x1)) (HY.out.ext (x0.trans x1)) (HZ.out.ext (x0.trans x1))).mono ?_
  rintro e w2 ⟨rfl, x2⟩
  go_wp2_with fail
  go_ret
  exact ⟨rfl, ((x0.trans x1).trans (Ext.new _ _)).trans x2⟩
end Go.Proofs.Ytogodjiemgilaaa
