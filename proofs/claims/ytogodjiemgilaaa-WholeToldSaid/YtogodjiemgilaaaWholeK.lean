/- Div and Gcd of integers. -/
import Derived.Test.YtogodjiemgilaaaWholeJ
import Derived.Deep.LoopGhost
namespace Go.Proofs.Ytogodjiemgilaaa
open Go.RowKit

/-- the quotient as the code gives it -/
def divZ (x y : Int) : Int := if y = 0 then 0 else x / y
def modZ (x y : Int) : Int := if y = 0 then 0 else x % y

theorem div_uniq {a b r q : Int} (hb : b ≠ 0) (h : r + b * q = a) (h0 : 0 ≤ r) (h1 : r < (b.natAbs : Int)) : divZ a b = q ∧ modZ a b = r := by
  unfold divZ modZ
  rw [if_neg hb, if_neg hb]
  rcases Int.lt_or_gt_of_ne hb with hn | hp
  · have hb' : 0 < -b := by omega
    have := (Int.ediv_emod_unique hb' (a := a) (r := r) (q := -q)).2 ⟨by rw [Int.neg_mul_neg]; exact h, h0, by omega⟩
    rw [Int.ediv_neg, Int.emod_neg] at this
    exact ⟨by omega, this.2⟩
  · exact (Int.ediv_emod_unique hp).2 ⟨h, h0, by omega⟩

theorem div_sign1 (z1 z2 : Int) (h0 : 0 < z2.natAbs) (h : (decide (z1 < 0) && decide (0 < z1.natAbs % z2.natAbs)) = true) :
    sz (decide (z1 < 0) != decide (z2 < 0)) (z1.natAbs / z2.natAbs + 1) = divZ z1 z2 ∧ sz false (z2.natAbs - z1.natAbs % z2.natAbs) = modZ z1 z2 := by
  simp only [Bool.and_eq_true, decide_eq_true_eq] at h
  have hr := Nat.mod_lt z1.natAbs h0
  have hd := Nat.mod_add_div z1.natAbs z2.natAbs
  generalize z1.natAbs % z2.natAbs = r at *
  generalize z1.natAbs / z2.natAbs = q at *
  have e : ((z2.natAbs - r : Nat) : Int) = z2.natAbs - r := Int.ofNat_sub (by omega)
  have hd' : (r : Int) + (z2.natAbs : Int) * q = z1.natAbs := by exact_mod_cast hd
  have := div_uniq (a := z1) (b := z2) (r := sz false (z2.natAbs - r)) (q := sz (decide (z1 < 0) != decide (z2 < 0)) (q + 1)) (by omega) ?_ (by unfold sz; simp only [Bool.false_eq_true, if_false]; omega) (by unfold sz; simp only [Bool.false_eq_true, if_false]; omega)
  · exact ⟨this.1.symm, this.2.symm⟩
  · unfold sz
    rw [decide_eq_true h.1]
    simp only [Bool.false_eq_true, if_false]
    rw [e]
    by_cases h2 : z2 < 0
    · rw [decide_eq_true h2]
      simp only [bne_self_eq_false, Bool.false_eq_true, if_false]
      have ez : (z2.natAbs : Int) = -z2 := by omega
      rw [ez] at hd' ⊢
      have : (z1.natAbs : Int) = -z1 := by omega
      rw [this] at hd'
      rw [Int.natCast_add, Int.mul_add]
      rw [Int.neg_mul] at hd'
      simp; omega
    · rw [decide_eq_false h2]
      simp only [Bool.true_bne, Bool.not_false, if_true]
      have ez : (z2.natAbs : Int) = z2 := by omega
      rw [ez] at hd' ⊢
      have : (z1.natAbs : Int) = -z1 := by omega
      rw [this] at hd'
      rw [Int.natCast_add, Int.mul_neg, Int.mul_add]
      simp; omega
theorem div_sign2 (z1 z2 : Int) (h0 : 0 < z2.natAbs) (h : (decide (z1 < 0) && decide (0 < z1.natAbs % z2.natAbs)) = false) :
    sz (decide (z1 < 0) != decide (z2 < 0)) (z1.natAbs / z2.natAbs) = divZ z1 z2 ∧ sz false (z1.natAbs % z2.natAbs) = modZ z1 z2 := by
  have hr := Nat.mod_lt z1.natAbs h0
  have hd := Nat.mod_add_div z1.natAbs z2.natAbs
  generalize z1.natAbs % z2.natAbs = r at *
  generalize z1.natAbs / z2.natAbs = q at *
  have hd' : (r : Int) + (z2.natAbs : Int) * q = z1.natAbs := by exact_mod_cast hd
  have := div_uniq (a := z1) (b := z2) (r := sz false r) (q := sz (decide (z1 < 0) != decide (z2 < 0)) q) (by omega) ?_ (by unfold sz; simp only [Bool.false_eq_true, if_false]; omega) (by unfold sz; simp only [Bool.false_eq_true, if_false]; omega)
  · exact ⟨this.1.symm, this.2.symm⟩
  · unfold sz
    simp only [Bool.false_eq_true, if_false]
    by_cases h1 : z1 < 0 <;> by_cases h2 : z2 < 0
    · rw [decide_eq_true h1] at h
      have : r = 0 := by simpa using h
      subst this
      rw [decide_eq_true h1, decide_eq_true h2]
      simp only [bne_self_eq_false, Bool.false_eq_true, if_false]
      have ez : (z2.natAbs : Int) = -z2 := by omega
      have : (z1.natAbs : Int) = -z1 := by omega
      rw [ez, this, Int.neg_mul] at hd'
      omega
    · rw [decide_eq_true h1] at h
      have : r = 0 := by simpa using h
      subst this
      rw [decide_eq_true h1, decide_eq_false h2]
      simp only [Bool.true_bne, Bool.not_false, if_true]
      have ez : (z2.natAbs : Int) = z2 := by omega
      have : (z1.natAbs : Int) = -z1 := by omega
      rw [ez, this] at hd'
      rw [Int.mul_neg]; omega
    · rw [decide_eq_false h1, decide_eq_true h2]
      simp only [Bool.false_bne, if_true]
      have ez : (z2.natAbs : Int) = -z2 := by omega
      have : (z1.natAbs : Int) = z1 := by omega
      rw [ez, this, Int.neg_mul] at hd'
      rw [Int.mul_neg]; omega
    · rw [decide_eq_false h1, decide_eq_false h2]
      simp only [bne_self_eq_false, Bool.false_eq_true, if_false]
      have ez : (z2.natAbs : Int) = z2 := by omega
      have : (z1.natAbs : Int) = z1 := by omega
      rw [ez, this] at hd'
      omega

/-- the two results of a quotient -/
def GotDiv (W : World) (q r : Int) (e : Ending) (w' : World) : Prop :=
  ∃ a c b d, e = .returned (.tuple #[.agg #[.bool (decide (q < 0)), .slice a (dg BB q.natAbs).length c], .agg #[.bool (decide (r < 0)), .slice b (dg BB r.natAbs).length d]]) ∧ IsInt w' q a c ∧ IsInt w' r b d ∧ Ext W w' ∧ From W.heap.size a ∧ From W.heap.size b

theorem two_boxes2 (w : World) (u0 u1 v0 v1 : Value) :
    ∃ W0, (((w.alloc (.cells #[u0, u1] 69)).alloc (.cells #[v0, v1] 69)).alloc (.cells #[.bool false, .slice none 0 0] 69)).alloc (.cells #[.bool false, .slice none 0 0] 69) = W0 ∧ Row W0 w.heap.size 69 [u0, u1] ∧ Row W0 (w.heap.size + 1) 69 [v0, v1] ∧ Row W0 (w.heap.size + 1 + 1) 69 [.bool false, .slice none 0 0] ∧ Row W0 (w.heap.size + 1 + 1 + 1) 69 [.bool false, .slice none 0 0] ∧ Ext w W0 ∧ W0.heap.size = w.heap.size + 1 + 1 + 1 + 1 := by
  obtain ⟨W, hW, q0, q1, q2, x, hs⟩ := two_boxes w u0 u1 v0 v1
  rw [hW]
  refine ⟨_, rfl, q0.alloc _, q1.alloc _, q2.alloc _, ?_, x.alloc _, by simp [hs]⟩
  have := Row.new W 69 [.bool false, .slice none 0 0]
  rwa [hs] at this

theorem Rd.far {w : World} {a : Option Addr} {xs : List Value} {g : Nat} {p : Addr} (h : Rd w a xs) (f : From g a) (hp : p.block < g) (u : Value) : Rd (w.setCell p u) a xs :=
  h.keep fun bb off e _ => Below.heap_setCell _ _ _ _ (by have := f _ e; simp only at this; omega)
/-- the two results lie in the call's own cells -/
theorem div_end {w W : World} {g : Nat} {yq yr : Int} {a b : Option Addr} {c d : Nat} (hg : g = w.heap.size + 1 + 1)
    (m2 : Row W g 69 [.bool false, .slice none 0 0]) (m3 : Row W (g + 1) 69 [.bool false, .slice none 0 0]) (x : Ext w W)
    (h1 : IsInt W yq a c) (h2 : IsInt W yr b d) (f1 : From (w.heap.size + 1 + 1 + 1 + 1) a) (f2 : From (w.heap.size + 1 + 1 + 1 + 1) b) :
    Row ((((W.setCell ⟨g, 0, none⟩ (.bool (decide (yq < 0)))).setCell ⟨g, 1, none⟩ (.slice a (dg BB yq.natAbs).length c)).setCell ⟨g + 1, 0, none⟩ (.bool (decide (yr < 0)))).setCell ⟨g + 1, 1, none⟩ (.slice b (dg BB yr.natAbs).length d)) g 69 [.bool (decide (yq < 0)), .slice a (dg BB yq.natAbs).length c] ∧
    Row ((((W.setCell ⟨g, 0, none⟩ (.bool (decide (yq < 0)))).setCell ⟨g, 1, none⟩ (.slice a (dg BB yq.natAbs).length c)).setCell ⟨g + 1, 0, none⟩ (.bool (decide (yr < 0)))).setCell ⟨g + 1, 1, none⟩ (.slice b (dg BB yr.natAbs).length d)) (g + 1) 69 [.bool (decide (yr < 0)), .slice b (dg BB yr.natAbs).length d] ∧
    GotDiv w yq yr (.returned (.tuple #[.agg #[.bool (decide (yq < 0)), .slice a (dg BB yq.natAbs).length c], .agg #[.bool (decide (yr < 0)), .slice b (dg BB yr.natAbs).length d]])) ((((W.setCell ⟨g, 0, none⟩ (.bool (decide (yq < 0)))).setCell ⟨g, 1, none⟩ (.slice a (dg BB yq.natAbs).length c)).setCell ⟨g + 1, 0, none⟩ (.bool (decide (yr < 0)))).setCell ⟨g + 1, 1, none⟩ (.slice b (dg BB yr.natAbs).length d)) := by
  subst hg
  have kp : ∀ {z : Int} {a' : Option Addr} {c' : Nat}, IsInt W z a' c' → From (w.heap.size + 1 + 1 + 1 + 1) a' → IsInt ((((W.setCell ⟨w.heap.size + 1 + 1, 0, none⟩ (.bool (decide (yq < 0)))).setCell ⟨w.heap.size + 1 + 1, 1, none⟩ (.slice a (dg BB yq.natAbs).length c)).setCell ⟨w.heap.size + 1 + 1 + 1, 0, none⟩ (.bool (decide (yr < 0)))).setCell ⟨w.heap.size + 1 + 1 + 1, 1, none⟩ (.slice b (dg BB yr.natAbs).length d)) z a' c' := by
    intro z a' c' h f
    refine ⟨h.1, h.2.1, ?_⟩
    exact (((h.2.2.far f (by show w.heap.size + 1 + 1 < _; omega) _).far f (by show w.heap.size + 1 + 1 < _; omega) _).far f (by show w.heap.size + 1 + 1 + 1 < _; omega) _).far f (by show w.heap.size + 1 + 1 + 1 < _; omega) _
  refine ⟨?_, ?_, a, c, b, d, rfl, kp h1 f1, kp h2 f2, ?_, f1.mono (by omega), f2.mono (by omega)⟩
  · exact row_far2 ((m2.set 0 _).set 1 _) (by omega) _ _
  · exact (Row.set (Row.set ((m3.far (p := ⟨w.heap.size + 1 + 1, 0, none⟩) (Nat.ne_of_gt (by show w.heap.size + 1 + 1 < _; omega)) _).far (p := ⟨w.heap.size + 1 + 1, 1, none⟩) (Nat.ne_of_gt (by show w.heap.size + 1 + 1 < _; omega)) _) 0 _) 1 _)
  · exact (((x.set (p := ⟨w.heap.size + 1 + 1, 0, none⟩) (by show _ ≤ w.heap.size + 1 + 1; omega) _).set (p := ⟨w.heap.size + 1 + 1, 1, none⟩) (by show _ ≤ w.heap.size + 1 + 1; omega) _).set (p := ⟨w.heap.size + 1 + 1 + 1, 0, none⟩) (by show _ ≤ w.heap.size + 1 + 1 + 1; omega) _).set (p := ⟨w.heap.size + 1 + 1 + 1, 1, none⟩) (by show _ ≤ w.heap.size + 1 + 1 + 1; omega) _

set_option maxRecDepth 100000 in
set_option maxHeartbeats 4000000 in
theorem divz_walk (z1 z2 : Int) (a b : Option Addr) (ca cb : Nat) (w : World) (hb1 : (dg BB z1.natAbs).length ≤ 100000) (hb2 : (dg BB z2.natAbs).length ≤ 100000) (h1 : IsInt w z1 a ca) (h2 : IsInt w z2 b cb) :
    Calls Try.prog 49 #[.agg #[.bool (decide (z1 < 0)), .slice a (dg BB z1.natAbs).length ca], .agg #[.bool (decide (z2 < 0)), .slice b (dg BB z2.natAbs).length cb]] w (GotDiv w (divZ z1 z2) (modZ z1 z2)) := by
  have hlz := dg_len0 BB_gt z2.natAbs
  rcases Nat.eq_zero_or_pos z2.natAbs with h0 | h0
  · have hd0 : divZ z1 z2 = 0 := by unfold divZ; rw [if_pos (by omega)]
    have hm0 : modZ z1 z2 = 0 := by unfold modZ; rw [if_pos (by omega)]
    rw [hd0, hm0]
    have hl0 := hlz.2 h0
    rw [hl0]
    generalize decide (z1 < 0) = s1
    generalize decide (z2 < 0) = s2
    generalize (dg BB z1.natAbs).length = na
    clear hd0 hm0 hl0 h0 hlz
    obtain ⟨W0, hW0, q0, q1, q2, q3, x0, hs0⟩ := two_boxes2 w (.bool s1) (.slice a na ca) (.bool s2) (.slice b 0 cb)
    have HW0 := Lib.hid hW0
    have QQ := Lib.hid (And.intro q0 (And.intro q1 (And.intro q2 (And.intro q3 (And.intro x0 hs0)))))
    have k2 := q1.cell (i := 0) rfl
    have k3 := q1.cell (i := 1) rfl
    have k4 := q2.cell (i := 0) rfl
    have k5 := q2.cell (i := 1) rfl
    have k6 := q3.cell (i := 0) rfl
    have k7 := q3.cell (i := 1) rfl
    have f4 := q2.frozen 0
    have f5 := q2.frozen 1
    have f6 := q3.frozen 0
    have f7 := q3.frozen 1
    clear hW0 q0 q1 q2 q3 x0 hs0
    go_enter Try.func49, Try.ntmps49
    go_wp2_with fail
    rw [HW0.out]
    obtain ⟨q0, q1, q2, q3, x0, hs0⟩ := QQ.out
    refine bodyPost_ret (v := .tuple #[.agg #[.bool false, .slice none 0 0], .agg #[.bool false, .slice none 0 0]]) ?_ rfl ?_
    · simp [results, Try.f49, go_sem, k4, k5, k6, k7]
    · exact ⟨none, 0, none, 0, rfl, ⟨Nat.le_refl _, by simp [maxLen], Rd.nil _ _⟩, ⟨Nat.le_refl _, by simp [maxLen], Rd.nil _ _⟩, x0, From.none _, From.none _⟩
  · have hln : 0 < (dg BB z2.natAbs).length := by omega
    have hqm := dg_len_mono BB_gt (Nat.div_le_self z1.natAbs z2.natAbs)
    have hq1 := dg_len_add BB_gt (z1.natAbs / z2.natAbs) 1
    have hrm := dg_len_mono BB_gt (Nat.le_of_lt (Nat.mod_lt z1.natAbs h0))
    have hsm := dg_len_mono BB_gt (Nat.sub_le z2.natAbs (z1.natAbs % z2.natAbs))
    have hl1 : (dg BB 1).length = 1 := by rw [dg_one BB_gt (by decide) BB_gt]; rfl
    have HD := Lib.hid (fun W (hr : Rd W a (ks .u32 (dg BB z1.natAbs))) (hr2 : Rd W b (ks .u32 (dg BB z2.natAbs))) => divd_walk a b ca cb z1.natAbs z2.natAbs W h0 hb1 hb2 hr hr2)
    have HA := Lib.hid (fun W a' ca' b' cb' (hr : Rd W a' (ks .u32 (dg BB (z1.natAbs / z2.natAbs)))) (hr2 : Rd W b' (ks .u32 (dg BB 1))) => add_walk a' b' ca' cb' (z1.natAbs / z2.natAbs) 1 W (by omega) (by omega) hr hr2)
    rw [hl1, dg_one BB_gt (t := 1) (by decide) BB_gt] at HA
    have HS := Lib.hid (fun W b' cb' (hr : Rd W b (ks .u32 (dg BB z2.natAbs))) (hr2 : Rd W b' (ks .u32 (dg BB (z1.natAbs % z2.natAbs)))) => sub_walk b b' cb cb' z2.natAbs (z1.natAbs % z2.natAbs) W (Nat.le_of_lt (Nat.mod_lt _ h0)) (by omega) (by omega) hr hr2)
    have HO := Lib.hid (fun (s : Bool) (n : Nat) (hn : (dg BB n).length ≤ 300000) W a' c' (g1 : (dg BB n).length ≤ c') (g2 : c' ≤ maxLen) (hr : Rd W a' (ks .u32 (dg BB n))) => of_walk s n a' c' W g1 g2 (by omega) hr)
    have HOQ1 := Lib.hid (HO.out (decide (z1 < 0) != decide (z2 < 0)) (z1.natAbs / z2.natAbs + 1) (by omega))
    have HOQ2 := Lib.hid (HO.out (decide (z1 < 0) != decide (z2 < 0)) (z1.natAbs / z2.natAbs) (by omega))
    have HOR1 := Lib.hid (HO.out false (z2.natAbs - z1.natAbs % z2.natAbs) (by omega))
    have HOR2 := Lib.hid (HO.out false (z1.natAbs % z2.natAbs) (by omega))
    have HL0 := dg_len0 BB_gt (z1.natAbs % z2.natAbs)
    have HL1 : decide (0 < z1.natAbs % z2.natAbs) = decide ((0 : Int) < ((dg BB (z1.natAbs % z2.natAbs)).length : Nat)) := by
      rw [Bool.eq_iff_iff]; simp only [decide_eq_true_eq]; omega
    have hlr : (dg BB (z1.natAbs % z2.natAbs)).length ≤ 100000 := by omega
    have HZ1 := Lib.hid (div_sign1 z1 z2 h0)
    have HZ2 := Lib.hid (div_sign2 z1 z2 h0)
    rw [HL1] at HZ1 HZ2
    have r1 := h1.2.2
    have r2 := h2.2.2
    clear h1 h2 hb1 hb2 HO hqm hq1 hrm hsm hl1 hlz HL0 HL1
    generalize divZ z1 z2 = yq at *
    generalize modZ z1 z2 = yr at *
    generalize z1.natAbs / z2.natAbs + 1 = q1 at *
    generalize z1.natAbs / z2.natAbs = q at *
    generalize z2.natAbs - z1.natAbs % z2.natAbs = rr1 at *
    generalize z1.natAbs % z2.natAbs = r at *
    generalize decide (z1 < 0) = s1 at *
    generalize decide (z2 < 0) = s2 at *
    generalize hna : (dg BB z1.natAbs).length = na at *
    generalize hnb : (dg BB z2.natAbs).length = nb at *
    clear hna hnb h0
    have R1 := Lib.hid r1
    have R2 := Lib.hid r2
    clear r1 r2
    cases s1
    · obtain ⟨hy1, hy2⟩ := HZ2.out rfl
      rw [hy1] at HOQ2
      rw [hy2] at HOR2
      rw [Bool.false_bne] at HOQ2
      clear HZ1 HZ2 HOQ1 HOR1 HA HS hy1 hy2
      obtain ⟨W0, hW0, q0, q1, q2, q3, x0, hs0⟩ := two_boxes2 w (.bool false) (.slice a na ca) (.bool s2) (.slice b nb cb)
      have HW0 := Lib.hid hW0
      have QQ := Lib.hid (And.intro q0 (And.intro q1 (And.intro q2 (And.intro q3 (And.intro x0 hs0)))))
      clear hW0 q0 q1 q2 q3 x0 hs0
      go_enter Try.func49, Try.ntmps49
      go_wp2_with (go_at_call 118; rw [HW0.out]; refine (HD.out _ ?_ ?_).mono ?_; exact R1.out.ext QQ.out.2.2.2.2.1; exact R2.out.ext QQ.out.2.2.2.2.1; rintro e w1 ⟨a1, c1, b1, d1, rfl, t1, t2, t3, t4, t5, t6, g0⟩; have p0 := QQ.out.1.ext g0; have p1 := QQ.out.2.1.ext g0; have p2 := QQ.out.2.2.1.ext g0; have p3 := QQ.out.2.2.2.1.ext g0; have k0 := p0.cell (i := 0) rfl; have k1 := p0.cell (i := 1) rfl; have k2 := p1.cell (i := 0) rfl; have k3 := p1.cell (i := 1) rfl; have ps : w.heap.size + 1 + 1 + 1 + 1 ≤ w1.heap.size := (by have h1 := g0.size; have h2 := QQ.out.2.2.2.2.2; omega); have px := QQ.out.2.2.2.2.1.trans g0)
      obtain ⟨u1, u2, u5⟩ := And.intro t1 (And.intro t2 t5)
      obtain ⟨u3, u4, u6⟩ := And.intro t3 (And.intro t4 t6)
      clear t1 t2 t3 t4 t5 t6
      refine (HOQ2.out _ _ _ u1 u2 u5).mono ?_
      rintro e w2 ⟨a2, c2, rfl, v1, v2, v3, v4, v5⟩
      have P2 := Lib.hid (And.intro (p2.ext v4) (p3.ext v4))
      clear k0 k1 k2 k3 p0 p1 p2 p3
      go_wp2_with fail
      refine (HOR2.out _ _ _ u3 u4 (u6.ext v4)).mono ?_
      rintro e w3 ⟨a3, c3, rfl, y1, y2, y3, y4, y5⟩
      have m2 := P2.out.1.ext y4
      have m3 := P2.out.2.ext y4
      have k4 := m2.cell (i := 0) rfl
      have k5 := m2.cell (i := 1) rfl
      have k6 := m3.cell (i := 0) rfl
      have k7 := m3.cell (i := 1) rfl
      have f4 := m2.frozen 0
      have f5 := m2.frozen 1
      have f6 := m3.frozen 0
      have f7 := m3.frozen 1
      have M := Lib.hid (And.intro m2 (And.intro m3 (And.intro v3 y3)))
      clear m2 m3
      go_wp2_with fail
      obtain ⟨m2, m3, v3, y3⟩ := M.out
      have hv4 := v4.size
      obtain ⟨n2, n3, n4⟩ := div_end rfl m2 m3 (((px).trans v4).trans y4) ⟨v1, v2, v3.ext y4⟩ ⟨y1, y2, y3⟩ (v5.mono (by omega)) (y5.mono (by omega))
      have j4 := n2.cell (i := 0) rfl
      have j5 := n2.cell (i := 1) rfl
      have j6 := n3.cell (i := 0) rfl
      have j7 := n3.cell (i := 1) rfl
      clear k4 k5 k6 k7 f4 f5 f6 f7 m2 m3
      refine bodyPost_ret (v := .tuple #[.agg #[.bool (decide (yq < 0)), .slice a2 (dg BB yq.natAbs).length c2], .agg #[.bool (decide (yr < 0)), .slice a3 (dg BB yr.natAbs).length c3]]) ?_ rfl n4
      simp [results, Try.f49, go_sem, j4, j5, j6, j7]
    · by_cases hr0 : 0 < (dg BB r).length
      · obtain ⟨hy1, hy2⟩ := HZ1.out (by rw [Bool.true_and]; exact decide_eq_true (by omega))
        rw [hy1] at HOQ1
        rw [hy2] at HOR1
        rw [Bool.true_bne] at HOQ1
        clear HZ1 HZ2 HOQ2 HOR2 hy1 hy2
        obtain ⟨W0, hW0, q0, q1, q2, q3, x0, hs0⟩ := two_boxes2 w (.bool true) (.slice a na ca) (.bool s2) (.slice b nb cb)
        have HW0 := Lib.hid hW0
        have QQ := Lib.hid (And.intro q0 (And.intro q1 (And.intro q2 (And.intro q3 (And.intro x0 hs0)))))
        clear hW0 q0 q1 q2 q3 x0 hs0
        go_enter Try.func49, Try.ntmps49
        go_wp2_with (go_at_call 118; rw [HW0.out]; refine (HD.out _ ?_ ?_).mono ?_; exact R1.out.ext QQ.out.2.2.2.2.1; exact R2.out.ext QQ.out.2.2.2.2.1; rintro e w1 ⟨a1, c1, b1, d1, rfl, t1, t2, t3, t4, t5, t6, g0⟩; have p0 := QQ.out.1.ext g0; have p1 := QQ.out.2.1.ext g0; have p2 := QQ.out.2.2.1.ext g0; have p3 := QQ.out.2.2.2.1.ext g0; have k0 := p0.cell (i := 0) rfl; have k1 := p0.cell (i := 1) rfl; have k2 := p1.cell (i := 0) rfl; have k3 := p1.cell (i := 1) rfl; have ps : w.heap.size + 1 + 1 + 1 + 1 ≤ w1.heap.size := (by have h1 := g0.size; have h2 := QQ.out.2.2.2.2.2; omega); have px := QQ.out.2.2.2.2.1.trans g0)
        have T := Lib.hid (And.intro t1 (And.intro t2 (And.intro t3 (And.intro t4 (And.intro t5 (And.intro t6 (And.intro px ps)))))))
        have PP := Lib.hid (And.intro p0 (And.intro p1 (And.intro p2 p3)))
        clear t1 t2 t3 t4 t5 t6 p0 p1 p2 p3 px ps
        go_region_held3 (fun w' => w'.cell? ⟨w.heap.size + 1, 1, none⟩ = some (.slice b nb cb)) (first
            | exact (pE.cell (i := 1) rfl)
            | exact ((pE.alloc _).cell (i := 1) rfl)
            | exact (PP.out.2.1.drew.cell (i := 1) rfl)
            | exact ((PP.out.2.1.alloc _).drew.cell (i := 1) rfl)) (first
          | (go_at_call 119; refine (HA.out _ _ _ _ _ ?_ ?_).mono ?_; (first | exact T.out.2.2.2.2.1.ext ((Ext.refl w1).alloc _).drew | exact T.out.2.2.2.2.1.ext xS1 | exact T.out.2.2.2.2.1.ext (xS1.alloc _)); (first | exact (Row.new w1 _ _).drew.rd | exact ((Row.new w1 _ _).drew.ext xS).rd | exact (Row.new _ _ _).rd); rintro e wA ⟨vA, rfl, ownA, xA⟩; obtain ⟨a6, c6, rfl, u1, u2, u5⟩ := own_form ownA; (first | have xA1 := (((Ext.refl w1).alloc _).drew).trans xA | have xA1 := xS1.trans xA | have xA1 := (xS1.alloc _).trans xA); have pE := PP.out.2.1.ext xA1)
          | (go_at_call 120; refine (HS.out _ _ _ ?_ ?_).mono ?_; (first | exact R2.out.ext (T.out.2.2.2.2.2.2.1.trans (Ext.refl w1).drew) | exact R2.out.ext (T.out.2.2.2.2.2.2.1.trans ((Ext.refl w1).alloc _).drew) | exact R2.out.ext (T.out.2.2.2.2.2.2.1.trans xA1)); (first | exact T.out.2.2.2.2.2.1.ext (Ext.refl w1).drew | exact T.out.2.2.2.2.2.1.ext ((Ext.refl w1).alloc _).drew | exact T.out.2.2.2.2.2.1.ext xA1); rintro e wS ⟨b6, d6, rfl, u3, u4, u6, xS, gS⟩; (first | have xS1 := (Ext.refl w1).drew.trans xS | have xS1 := ((Ext.refl w1).alloc _).drew.trans xS | have xS1 := xA1.trans xS); have pE := PP.out.2.1.ext xS1))
        all_goals
          clear pE
          first
            | (have e5 := u5.ext xS; have e6 := u6; have eP := xS1)
            | (have e6 := u6.ext xA; have e5 := u5; have eP := xA1)
          obtain ⟨p0, p1, p2, p3⟩ := PP.out
          obtain ⟨_, _, _, _, _, _, px, ps⟩ := T.out
          have p0 := p0.ext eP
          have p1 := p1.ext eP
          have p2 := p2.ext eP
          have p3 := p3.ext eP
          have px := px.trans eP
          have ps := Nat.le_trans ps eP.size
          have k0 := p0.cell (i := 0) rfl
          have k1 := p0.cell (i := 1) rfl
          have k2 := p1.cell (i := 0) rfl
          have k3 := p1.cell (i := 1) rfl
          clear u5 u6 xA xA1 xS xS1 ownA gS eP
          have u5 := e5
          have u6 := e6
          clear e5 e6
          go_wp2_with fail
          refine (HOQ1.out _ _ _ u1 u2 u5).mono ?_
          rintro e w2 ⟨a2, c2, rfl, v1, v2, v3, v4, v5⟩
          have P2 := Lib.hid (And.intro (p2.ext v4) (p3.ext v4))
          clear k0 k1 k2 k3 p0 p1 p2 p3
          go_wp2_with fail
          refine (HOR1.out _ _ _ u3 u4 (u6.ext v4)).mono ?_
          rintro e w3 ⟨a3, c3, rfl, y1, y2, y3, y4, y5⟩
          have m2 := P2.out.1.ext y4
          have m3 := P2.out.2.ext y4
          have k4 := m2.cell (i := 0) rfl
          have k5 := m2.cell (i := 1) rfl
          have k6 := m3.cell (i := 0) rfl
          have k7 := m3.cell (i := 1) rfl
          have f4 := m2.frozen 0
          have f5 := m2.frozen 1
          have f6 := m3.frozen 0
          have f7 := m3.frozen 1
          have M := Lib.hid (And.intro m2 (And.intro m3 (And.intro v3 y3)))
          clear m2 m3
          go_wp2_with fail
          obtain ⟨m2, m3, v3, y3⟩ := M.out
          have hv4 := v4.size
          obtain ⟨n2, n3, n4⟩ := div_end rfl m2 m3 (((px).trans v4).trans y4) ⟨v1, v2, v3.ext y4⟩ ⟨y1, y2, y3⟩ (v5.mono (by omega)) (y5.mono (by omega))
          have j4 := n2.cell (i := 0) rfl
          have j5 := n2.cell (i := 1) rfl
          have j6 := n3.cell (i := 0) rfl
          have j7 := n3.cell (i := 1) rfl
          clear k4 k5 k6 k7 f4 f5 f6 f7 m2 m3
          refine bodyPost_ret (v := .tuple #[.agg #[.bool (decide (yq < 0)), .slice a2 (dg BB yq.natAbs).length c2], .agg #[.bool (decide (yr < 0)), .slice a3 (dg BB yr.natAbs).length c3]]) ?_ rfl n4
          simp [results, Try.f49, go_sem, j4, j5, j6, j7]
      · obtain ⟨hy1, hy2⟩ := HZ2.out (by rw [Bool.true_and]; exact decide_eq_false (by omega))
        rw [hy1] at HOQ2
        rw [hy2] at HOR2
        rw [Bool.true_bne] at HOQ2
        clear HZ1 HZ2 HOQ1 HOR1 HA HS hy1 hy2
        obtain ⟨W0, hW0, q0, q1, q2, q3, x0, hs0⟩ := two_boxes2 w (.bool true) (.slice a na ca) (.bool s2) (.slice b nb cb)
        have HW0 := Lib.hid hW0
        have QQ := Lib.hid (And.intro q0 (And.intro q1 (And.intro q2 (And.intro q3 (And.intro x0 hs0)))))
        clear hW0 q0 q1 q2 q3 x0 hs0
        go_enter Try.func49, Try.ntmps49
        go_wp2_with (go_at_call 118; rw [HW0.out]; refine (HD.out _ ?_ ?_).mono ?_; exact R1.out.ext QQ.out.2.2.2.2.1; exact R2.out.ext QQ.out.2.2.2.2.1; rintro e w1 ⟨a1, c1, b1, d1, rfl, t1, t2, t3, t4, t5, t6, g0⟩; have p0 := QQ.out.1.ext g0; have p1 := QQ.out.2.1.ext g0; have p2 := QQ.out.2.2.1.ext g0; have p3 := QQ.out.2.2.2.1.ext g0; have k0 := p0.cell (i := 0) rfl; have k1 := p0.cell (i := 1) rfl; have k2 := p1.cell (i := 0) rfl; have k3 := p1.cell (i := 1) rfl; have ps : w.heap.size + 1 + 1 + 1 + 1 ≤ w1.heap.size := (by have h1 := g0.size; have h2 := QQ.out.2.2.2.2.2; omega); have px := QQ.out.2.2.2.2.1.trans g0)
        obtain ⟨u1, u2, u5⟩ := And.intro t1 (And.intro t2 t5)
        obtain ⟨u3, u4, u6⟩ := And.intro t3 (And.intro t4 t6)
        clear t1 t2 t3 t4 t5 t6
        refine (HOQ2.out _ _ _ u1 u2 u5).mono ?_
        rintro e w2 ⟨a2, c2, rfl, v1, v2, v3, v4, v5⟩
        have P2 := Lib.hid (And.intro (p2.ext v4) (p3.ext v4))
        clear k0 k1 k2 k3 p0 p1 p2 p3
        go_wp2_with fail
        refine (HOR2.out _ _ _ u3 u4 (u6.ext v4)).mono ?_
        rintro e w3 ⟨a3, c3, rfl, y1, y2, y3, y4, y5⟩
        have m2 := P2.out.1.ext y4
        have m3 := P2.out.2.ext y4
        have k4 := m2.cell (i := 0) rfl
        have k5 := m2.cell (i := 1) rfl
        have k6 := m3.cell (i := 0) rfl
        have k7 := m3.cell (i := 1) rfl
        have f4 := m2.frozen 0
        have f5 := m2.frozen 1
        have f6 := m3.frozen 0
        have f7 := m3.frozen 1
        have M := Lib.hid (And.intro m2 (And.intro m3 (And.intro v3 y3)))
        clear m2 m3
        go_wp2_with fail
        obtain ⟨m2, m3, v3, y3⟩ := M.out
        have hv4 := v4.size
        obtain ⟨n2, n3, n4⟩ := div_end rfl m2 m3 (((px).trans v4).trans y4) ⟨v1, v2, v3.ext y4⟩ ⟨y1, y2, y3⟩ (v5.mono (by omega)) (y5.mono (by omega))
        have j4 := n2.cell (i := 0) rfl
        have j5 := n2.cell (i := 1) rfl
        have j6 := n3.cell (i := 0) rfl
        have j7 := n3.cell (i := 1) rfl
        clear k4 k5 k6 k7 f4 f5 f6 f7 m2 m3
        refine bodyPost_ret (v := .tuple #[.agg #[.bool (decide (yq < 0)), .slice a2 (dg BB yq.natAbs).length c2], .agg #[.bool (decide (yr < 0)), .slice a3 (dg BB yr.natAbs).length c3]]) ?_ rfl n4
        simp [results, Try.f49, go_sem, j4, j5, j6, j7]
end Go.Proofs.Ytogodjiemgilaaa
