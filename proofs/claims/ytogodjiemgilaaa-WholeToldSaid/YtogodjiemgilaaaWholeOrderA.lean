/- WholeOrder: the walk. -/
import Derived.Test.YtogodjiemgilaaaLaw1
namespace Go.Proofs.Ytogodjiemgilaaa
open Go.RowKit

theorem cmpZ_add (x y z : Int) : cmpZ (x + z) (y + z) = cmpZ x y := by unfold cmpZ; (repeat' split) <;> omega
theorem cmpZ_swap (x y : Int) : cmpZ y x = -cmpZ x y := by unfold cmpZ; (repeat' split) <;> omega
theorem cmpZ_bd (x y : Int) : -1 ≤ cmpZ x y ∧ cmpZ x y ≤ 1 := by unfold cmpZ; (repeat' split) <;> omega
theorem cmpZ_mul (x y z : Int) : cmpZ (x * z) (y * z) = cmpZ x y * cmpZ z 0 := by
  rcases Int.lt_trichotomy z 0 with h | h | h
  · have e1 : cmpZ z 0 = -1 := by unfold cmpZ; rw [if_pos h]
    rw [e1, Int.mul_neg, Int.mul_one, ← cmpZ_swap]
    rcases Int.lt_trichotomy x y with g | g | g
    · have := Int.mul_lt_mul_of_neg_right g h
      unfold cmpZ; (repeat' split) <;> omega
    · subst g; unfold cmpZ; (repeat' split) <;> omega
    · have := Int.mul_lt_mul_of_neg_right g h
      unfold cmpZ; (repeat' split) <;> omega
  · subst h; simp [cmpZ]
  · have e1 : cmpZ z 0 = 1 := by unfold cmpZ; rw [if_neg (by omega), if_neg (by omega)]
    rw [e1, Int.mul_one]
    rcases Int.lt_trichotomy x y with g | g | g
    · have := Int.mul_lt_mul_of_pos_right g h
      unfold cmpZ; (repeat' split) <;> omega
    · subst g; unfold cmpZ; (repeat' split) <;> omega
    · have := Int.mul_lt_mul_of_pos_right g h
      unfold cmpZ; (repeat' split) <;> omega

/-- what the law's cells hold -/
def H3 (w W : World) (u0 u1 v0 v1 t0 t1 : Value) : Prop := Row W w.heap.size 69 [u0, u1] ∧ Row W (w.heap.size + 1) 69 [v0, v1] ∧ Row W (w.heap.size + 1 + 1) 69 [t0, t1]
theorem H3.ext {w W W' : World} {u0 u1 v0 v1 t0 t1 : Value} (h : H3 w W u0 u1 v0 v1 t0 t1) (e : Ext W W') : H3 w W' u0 u1 v0 v1 t0 t1 := ⟨h.1.ext e, h.2.1.ext e, h.2.2.ext e⟩
theorem H3.drew {w W : World} {u0 u1 v0 v1 t0 t1 : Value} (h : H3 w W u0 u1 v0 v1 t0 t1) : H3 w W.drew u0 u1 v0 v1 t0 t1 := h
theorem H3.cells {w W : World} {u0 u1 v0 v1 t0 t1 : Value} (h : H3 w W u0 u1 v0 v1 t0 t1) :
    W.cell? ⟨w.heap.size, 0, none⟩ = some u0 ∧ W.cell? ⟨w.heap.size, 1, none⟩ = some u1 ∧ W.cell? ⟨w.heap.size + 1, 0, none⟩ = some v0 ∧ W.cell? ⟨w.heap.size + 1, 1, none⟩ = some v1 ∧ W.cell? ⟨w.heap.size + 1 + 1, 0, none⟩ = some t0 ∧ W.cell? ⟨w.heap.size + 1 + 1, 1, none⟩ = some t1 :=
  ⟨h.1.cell (i := 0) rfl, h.1.cell (i := 1) rfl, h.2.1.cell (i := 0) rfl, h.2.1.cell (i := 1) rfl, h.2.2.cell (i := 0) rfl, h.2.2.cell (i := 1) rfl⟩
theorem H3.new (w : World) (u0 u1 v0 v1 t0 t1 : Value) : ∃ W0, ((w.alloc (.cells #[u0, u1] 69)).alloc (.cells #[v0, v1] 69)).alloc (.cells #[t0, t1] 69) = W0 ∧ H3 w W0 u0 u1 v0 v1 t0 t1 ∧ Ext w W0 := by
  refine ⟨_, rfl, ⟨((Row.new w _ [_, _]).alloc _).alloc _, ?_, ?_⟩, ((Ext.new _ _).alloc _).alloc _⟩
  · have := (Row.new (w.alloc (.cells #[u0, u1] 69)) 69 [v0, v1]).alloc (.cells #[t0, t1] 69)
    rwa [World.size_alloc] at this
  · have := Row.new ((w.alloc (.cells #[u0, u1] 69)).alloc (.cells #[v0, v1] 69)) 69 [t0, t1]
    rwa [World.size_alloc, World.size_alloc] at this

/-- Odd of three integers that the law has boxed -/
theorem odd3 (x y z : AInt) (W : World) (h : x.ok W) (k : y.ok W) (l : z.ok W) :
    Calls Try.prog 47 #[.slice (some ⟨W.heap.size, 0, none⟩) 3 3] (W.alloc (.cells #[.bool x.s, .slice x.a x.l.length x.c, .bool y.s, .slice y.a y.l.length y.c, .bool z.s, .slice z.a z.l.length z.c] 69)) fun e w' => e = .returned (.bool ([x, y, z].any AInt.odd)) ∧ Ext (W.alloc (.cells #[.bool x.s, .slice x.a x.l.length x.c, .bool y.s, .slice y.a y.l.length y.c, .bool z.s, .slice z.a z.l.length z.c] 69)) w' := by
  have r := Row.new W 69 (flatA [x, y, z])
  refine odd1_walk [x, y, z] W.heap.size 0 3 _ (by simp) (fun j u hu => ?_) ?_
  · rw [Nat.zero_add]; exact r.cell hu
  · intro q hq
    simp only [List.mem_cons, List.not_mem_nil, or_false] at hq
    rcases hq with rfl | rfl | rfl
    · exact h.ext (Ext.new _ _)
    · exact k.ext (Ext.new _ _)
    · exact l.ext (Ext.new _ _)

set_option maxRecDepth 100000 in
set_option maxHeartbeats 2000000 in
theorem worder_odd (x y z : AInt) (n : Int) (w : World) (hx : x.ok w) (hy : y.ok w) (hz : z.ok w) (ho : [x, y, z].any AInt.odd = true) :
    Calls Try.prog 8 #[x.v, y.v, z.v, .int .i64 n] w fun e w' => e = .returned (.bool true) ∧ Ext w w' := by
  have HO := Lib.hid (fun W (h : x.ok W) (k : y.ok W) (l : z.ok W) => odd3 x y z W h k l)
  rw [ho] at HO
  have HX := Lib.hid hx
  have HY := Lib.hid hy
  have HZ := Lib.hid hz
  clear ho hx hy hz
  obtain ⟨s1, a1, l1, c1⟩ := x
  obtain ⟨s2, a2, l2, c2⟩ := y
  obtain ⟨s3, a3, l3, c3⟩ := z
  unfold AInt.v
  simp only at HO ⊢
  generalize l1.length = n1 at *
  generalize l2.length = n2 at *
  generalize l3.length = n3 at *
  go_enter Try.func8, Try.ntmps8
  go_wp2_with fail
  obtain ⟨W0, hW0, q0, x0⟩ := H3.new w (.bool s1) (.slice a1 n1 c1) (.bool s2) (.slice a2 n2 c2) (.bool s3) (.slice a3 n3 c3)
  rw [hW0]
  clear hW0
  refine (speaks1_walk _).mono ?_
  rintro e w1 ⟨rfl, x1⟩
  obtain ⟨k0, k1, k2, k3, k4, k5⟩ := (q0.ext x1).cells
  go_wp2_with fail
  trace_state
  refine (HO.out _ (HX.out.ext (x0.trans x1)) (HY.out.ext (x0.trans x1)) (HZ.out.ext (x0.trans x1))).mono ?_
  rintro e w2 ⟨rfl, x2⟩
  go_wp2_with fail
  go_ret
  exact ⟨rfl, ((x0.trans x1).trans (Ext.new _ _)).trans x2⟩
end Go.Proofs.Ytogodjiemgilaaa
