/- What the laws of layer 1 share. -/
import Derived.Test.YtogodjiemgilaaaOdd1
namespace Go.Proofs.Ytogodjiemgilaaa
open Go.RowKit

theorem right_int {s : Bool} {l : List Nat} (h : rightB s l = true) : ∃ z : Int, s = decide (z < 0) ∧ l = dg BB z.natAbs := by
  unfold rightB at h
  rw [Bool.and_eq_true] at h
  obtain ⟨h1, h2⟩ := h
  have hall : ∀ d ∈ l, d < BB := fun d hd => by have := List.all_eq_true.1 h1 d hd; simpa [BB] using this
  by_cases h0 : l.length = 0
  · rw [if_pos h0] at h2
    have : s = false := by simpa using h2
    subst this
    refine ⟨0, rfl, ?_⟩
    rw [List.length_eq_zero_iff.1 h0]; rfl
  · rw [if_neg h0] at h2
    have hl : l ≠ [] := fun e => h0 (by rw [e]; rfl)
    have hlast : ∀ h : l ≠ [], l.getLast h ≠ 0 := by
      intro h
      rw [List.getLast_eq_getElem]
      have := of_decide_eq_true h2
      rw [List.getElem?_eq_getElem (by omega)] at this
      exact this
    have hv := dg_val BB_gt l hall hlast
    have hpos : val BB l ≠ 0 := fun e => by rw [e] at hv; exact hl hv.symm
    refine ⟨sz s (val BB l), ?_, by rw [sz_abs, hv]⟩
    rw [sz_neg]
    have : decide (0 < val BB l) = true := decide_eq_true (by omega)
    rw [this, Bool.and_true]

theorem int_right (z : Int) : rightB (decide (z < 0)) (dg BB z.natAbs) = true := by
  unfold rightB
  rw [Bool.and_eq_true]
  refine ⟨List.all_eq_true.2 fun d hd => decide_eq_true (dg_lt BB_gt hd), ?_⟩
  by_cases h0 : (dg BB z.natAbs).length = 0
  · rw [if_pos h0]
    have := (dg_len0 BB_gt _).1 h0
    have : ¬ z < 0 := by omega
    simp [this]
  · rw [if_neg h0]
    refine decide_eq_true ?_
    have hk : (dg BB z.natAbs).length - 1 < (dg BB z.natAbs).length := by omega
    rw [List.getElem?_eq_getElem hk, Option.getD_some, dg_at BB_gt hk]
    have h1 := (dg_len_lt BB_gt _ _).1 hk
    have h2 := lt_pow_len BB_gt z.natAbs
    have e : (dg BB z.natAbs).length = (dg BB z.natAbs).length - 1 + 1 := by omega
    rw [e, Nat.pow_succ] at h2
    generalize (dg BB z.natAbs).length - 1 = k at *
    have h3 : 0 < z.natAbs / BB ^ k := Nat.div_pos h1 (Nat.pow_pos (by decide))
    have h4 : z.natAbs / BB ^ k < BB := by rw [Nat.div_lt_iff_lt_mul (Nat.pow_pos (by decide)), Nat.mul_comm]; exact h2
    rw [Nat.mod_eq_of_lt h4]
    omega

theorem len_add (x y : Int) : (dg BB (x + y).natAbs).length ≤ (dg BB x.natAbs).length + (dg BB y.natAbs).length + 1 :=
  Nat.le_trans (dg_len_mono BB_gt (by omega)) (dg_len_add BB_gt _ _)
theorem len_mul (x y : Int) : (dg BB (x * y).natAbs).length ≤ (dg BB x.natAbs).length + (dg BB y.natAbs).length := by
  rw [Int.natAbs_mul]; exact dg_len_mul BB_gt _ _
theorem len_neg (x : Int) : (dg BB (-x).natAbs).length = (dg BB x.natAbs).length := by rw [Int.natAbs_neg]

theorem GotInt.isInt {W : World} {z : Int} {e : Ending} {w' : World} (h : GotInt W z e w') : ∃ a c, e = .returned (.agg #[.bool (decide (z < 0)), .slice a (dg BB z.natAbs).length c]) ∧ IsInt w' z a c ∧ Ext W w' := by
  obtain ⟨a, c, h1, h2, h3, h4, h5, h6⟩ := h
  exact ⟨a, c, h1, ⟨h2, h3, h4⟩, h5⟩

set_option maxRecDepth 100000 in
set_option maxHeartbeats 2000000 in
theorem speaks1_walk (w : World) : Calls Try.prog 46 #[] w fun e w' => e = .returned (.bool true) ∧ Ext w w' := by
  have HO1 := fun W => (ofi_walk (-7) W (by decide) (by decide)).mono fun e w' h => GotInt.isInt h
  have HO2 := fun W => (ofi_walk 2 W (by decide) (by decide)).mono fun e w' h => GotInt.isInt h
  have HD := fun W a ca b cb (h1 : IsInt W (-7) a ca) (h2 : IsInt W 2 b cb) => divz_walk (-7) 2 a b ca cb W (by decide) (by decide) h1 h2
  have HT1 := fun W a ca (h1 : IsInt W (-4) a ca) => textz_walk (-4) a ca W (by decide) h1
  have HT2 := fun W a ca (h1 : IsInt W 1 a ca) => textz_walk 1 a ca W (by decide) h1
  have e1 : txt (-4) = ⟨#[45, 52]⟩ := by rfl
  have e2 : txt 1 = ⟨#[49]⟩ := by rfl
  have e3 : divZ (-7) 2 = -4 := by decide
  have e4 : modZ (-7) 2 = 1 := by decide
  rw [e1] at HT1
  rw [e2] at HT2
  rw [e3, e4] at HD
  unfold GotDiv at HD
  clear e1 e2 e3 e4
  revert HO1 HO2 HD HT1 HT2
  generalize decide ((-7 : Int) < 0) = s7
  generalize (dg BB (-7 : Int).natAbs).length = l7
  generalize decide ((2 : Int) < 0) = s2
  generalize (dg BB (2 : Int).natAbs).length = l2
  generalize decide ((-4 : Int) < 0) = s4
  generalize (dg BB (-4 : Int).natAbs).length = l4
  generalize decide ((1 : Int) < 0) = s1
  generalize (dg BB (1 : Int).natAbs).length = l1
  intro HO1 HO2 HD HT1 HT2
  have HO1 := Lib.hid HO1
  have HO2 := Lib.hid HO2
  have HD := Lib.hid HD
  have HT1 := Lib.hid HT1
  have HT2 := Lib.hid HT2
  go_enter Try.func46, Try.ntmps46
  go_wp2_with fail
  refine (HO1.out _).mono ?_
  rintro e w1 ⟨a1, c1, rfl, i1, x1⟩
  go_wp2_with fail
  refine (HO2.out _).mono ?_
  rintro e w2 ⟨a2, c2, rfl, i2, x2⟩
  go_wp2_with fail
  refine (HD.out _ _ _ _ _ (i1.ext x2) i2).mono ?_
  rintro e w3 ⟨a3, c3, a4, c4, rfl, i3, i4, x3, _, _⟩
  go_wp2_with fail
  have i3' : IsInt ((w3.alloc (.cells #[.bool s4, .slice a3 l4 c3] 69)).alloc (.cells #[.bool s1, .slice a4 l1 c4] 69)) (-4) a3 c3 := i3.ext ((Ext.new _ _).alloc _)
  have i4' : IsInt ((w3.alloc (.cells #[.bool s4, .slice a3 l4 c3] 69)).alloc (.cells #[.bool s1, .slice a4 l1 c4] 69)) 1 a4 c4 := i4.ext ((Ext.new _ _).alloc _)
  refine (HT1.out _ _ _ i3').mono ?_
  rintro e w4 ⟨rfl, x4⟩
  have r4 : Row w4 (w3.heap.size + 1) 69 [.bool s1, .slice a4 l1 c4] := by
    have := Row.new (w3.alloc (.cells #[.bool s4, .slice a3 l4 c3] 69)) 69 [.bool s1, .slice a4 l1 c4]
    rw [World.size_alloc] at this
    exact this.ext x4
  have k0 := r4.cell (i := 0) rfl
  have k1 := r4.cell (i := 1) rfl
  go_wp2_with fail
  refine (HT2.out _ _ _ (i4'.ext x4)).mono ?_
  rintro e w5 ⟨rfl, x5⟩
  go_wp2_with fail
  go_ret
  exact ⟨rfl, ((((x1.trans x2).trans x3).trans ((Ext.new _ _).alloc _)).trans x4).trans x5⟩
end Go.Proofs.Ytogodjiemgilaaa
