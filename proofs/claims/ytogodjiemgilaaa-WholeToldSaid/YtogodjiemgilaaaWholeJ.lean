/- Mul, Add of integers. -/
import Derived.Test.YtogodjiemgilaaaWholeI
namespace Go.Proofs.Ytogodjiemgilaaa
open Go.RowKit

theorem mul_sign (z1 z2 : Int) : sz (decide (z1 < 0) != decide (z2 < 0)) (z1.natAbs * z2.natAbs) = z1 * z2 := by
  conv => rhs; rw [← sz_self z1, ← sz_self z2]
  generalize decide (z1 < 0) = s1
  generalize decide (z2 < 0) = s2
  cases s1 <;> cases s2 <;> simp [sz, Int.neg_mul, Int.mul_neg]

/-- two integers boxed, and a result's cells -/
theorem two_boxes (w : World) (u0 u1 v0 v1 : Value) :
    ∃ W0, ((w.alloc (.cells #[u0, u1] 69)).alloc (.cells #[v0, v1] 69)).alloc (.cells #[.bool false, .slice none 0 0] 69) = W0 ∧ Row W0 w.heap.size 69 [u0, u1] ∧ Row W0 (w.heap.size + 1) 69 [v0, v1] ∧ Row W0 (w.heap.size + 1 + 1) 69 [.bool false, .slice none 0 0] ∧ Ext w W0 ∧ W0.heap.size = w.heap.size + 1 + 1 + 1 := by
  refine ⟨_, rfl, ((Row.new w _ [_, _]).alloc _).alloc _, ?_, ?_, ((Ext.new _ _).alloc _).alloc _, by simp⟩
  · have := (Row.new (w.alloc (.cells #[u0, u1] 69)) 69 [v0, v1]).alloc (.cells #[.bool false, .slice none 0 0] 69)
    rwa [World.size_alloc] at this
  · have := Row.new ((w.alloc (.cells #[u0, u1] 69)).alloc (.cells #[v0, v1] 69)) 69 [.bool false, .slice none 0 0]
    rwa [World.size_alloc, World.size_alloc] at this

/-- what a region over two boxed integers holds -/
theorem held4 {w W : World} {u0 u1 v0 v1 : Value} (h0 : Row W w.heap.size 69 [u0, u1]) (h1 : Row W (w.heap.size + 1) 69 [v0, v1]) :
    W.cell? ⟨w.heap.size, 0, none⟩ = some u0 ∧ W.cell? ⟨w.heap.size, 1, none⟩ = some u1 ∧ W.cell? ⟨w.heap.size + 1, 0, none⟩ = some v0 ∧ W.cell? ⟨w.heap.size + 1, 1, none⟩ = some v1 :=
  ⟨h0.cell (i := 0) rfl, h0.cell (i := 1) rfl, h1.cell (i := 0) rfl, h1.cell (i := 1) rfl⟩
theorem row_far2 {w : World} {g h : Nat} {E : TypeId} {xs : List Value} (r : Row w g E xs) (e : g < h) (u v : Value) : Row ((w.setCell ⟨h, 0, none⟩ u).setCell ⟨h, 1, none⟩ v) g E xs :=
  (r.far (p := ⟨h, 0, none⟩) (Nat.ne_of_lt e) u).far (p := ⟨h, 1, none⟩) (Nat.ne_of_lt e) v

set_option maxRecDepth 100000 in
set_option maxHeartbeats 4000000 in
theorem mulz_walk (z1 z2 : Int) (a b : Option Addr) (ca cb : Nat) (w : World) (hb1 : (dg BB z1.natAbs).length ≤ 100000) (hb2 : (dg BB z2.natAbs).length ≤ 100000) (h1 : IsInt w z1 a ca) (h2 : IsInt w z2 b cb) :
    Calls Try.prog 55 #[.agg #[.bool (decide (z1 < 0)), .slice a (dg BB z1.natAbs).length ca], .agg #[.bool (decide (z2 < 0)), .slice b (dg BB z2.natAbs).length cb]] w (GotInt w (z1 * z2)) := by
  have HM := Lib.hid (fun W (hr : Rd W a (ks .u32 (dg BB z1.natAbs))) (hr2 : Rd W b (ks .u32 (dg BB z2.natAbs))) => mul_walk a b ca cb z1.natAbs z2.natAbs W (by omega) (by omega) hr hr2)
  have hlm := dg_len_mul BB_gt z1.natAbs z2.natAbs
  have HO := Lib.hid (fun W a' c' (g1 : (dg BB (z1.natAbs * z2.natAbs)).length ≤ c') (g2 : c' ≤ maxLen) (hr : Rd W a' (ks .u32 (dg BB (z1.natAbs * z2.natAbs)))) => of_walk (decide (z1 < 0) != decide (z2 < 0)) (z1.natAbs * z2.natAbs) a' c' W g1 g2 (by omega) hr)
  rw [mul_sign] at HO
  have r1 := h1.2.2
  have r2 := h2.2.2
  clear h1 h2 hb1 hb2 hlm
  generalize z1 * z2 = y at *
  generalize decide (z1 < 0) = s1 at *
  generalize decide (z2 < 0) = s2 at *
  generalize hl : dg BB (z1.natAbs * z2.natAbs) = l at *
  clear hl
  generalize (dg BB z1.natAbs).length = na at *
  generalize (dg BB z2.natAbs).length = nb at *
  go_enter Try.func55, Try.ntmps55
  go_wp2_with fail
  obtain ⟨W0, hW0, q0, q1, q2, x0, hs0⟩ := two_boxes w (.bool s1) (.slice a na ca) (.bool s2) (.slice b nb cb)
  rw [hW0]
  have k0 := q0.cell (i := 0) rfl
  have k1 := q0.cell (i := 1) rfl
  have k2 := q1.cell (i := 0) rfl
  have k3 := q1.cell (i := 1) rfl
  have QQ := Lib.hid (And.intro q0 (And.intro q1 (And.intro q2 (And.intro x0 hs0))))
  clear hW0 q0 q1 q2 x0 hs0
  go_region_held3 (fun w' => w'.cell? ⟨w.heap.size, 0, none⟩ = some (.bool s1) ∧ w'.cell? ⟨w.heap.size, 1, none⟩ = some (.slice a na ca) ∧ w'.cell? ⟨w.heap.size + 1, 0, none⟩ = some (.bool s2) ∧ w'.cell? ⟨w.heap.size + 1, 1, none⟩ = some (.slice b nb cb)) (first | exact held4 QQ.out.1.drew QQ.out.2.1.drew | exact held4 (row_far2 (QQ.out.1.drew.ext (Ext.trans g4 t4)) (by omega) _ _) (row_far2 (QQ.out.2.1.drew.ext (Ext.trans g4 t4)) (by omega) _ _) | exact held4 (QQ.out.1.drew.ext (Ext.trans g4 t4)) (QQ.out.2.1.drew.ext (Ext.trans g4 t4)) | exact held4 (QQ.out.1.drew.ext g4) (QQ.out.2.1.drew.ext g4)) (first
    | (go_at_call 127; refine (HM.out _ ?_ ?_).mono ?_; exact (r1.ext QQ.out.2.2.2.1).drew; exact (r2.ext QQ.out.2.2.2.1).drew; rintro e w1 ⟨a1, c1, rfl, g1, g2, g3, g4, g5⟩)
    | (go_at_call 121; refine (HO.out _ _ _ ?_ ?_ ?_).mono ?_; exact g1; exact g2; exact g3; rintro e w2 ⟨a2, c2, rfl, t1, t2, t3, t4, t5⟩; have h0 := ((QQ.out.2.2.1.drew.ext g4).ext t4).cell (i := 0) rfl; have h1 := ((QQ.out.2.2.1.drew.ext g4).ext t4).cell (i := 1) rfl; have h2 := ((QQ.out.2.2.1.drew.ext g4).ext t4).frozen 0; have h3 := ((QQ.out.2.2.1.drew.ext g4).ext t4).frozen 1))
  go_wp2_with fail
  obtain ⟨q0, q1, q2, x0, hs0⟩ := QQ.out
  have r3 := (((q2.drew.ext g4).ext t4).set 0 (.bool (decide (y < 0)))).set 1 (.slice a2 (dg BB y.natAbs).length c2)
  have z0 := r3.cell (i := 0) rfl
  have z1 := r3.cell (i := 1) rfl
  refine bodyPost_ret (v := .agg #[.bool (decide (y < 0)), .slice a2 (dg BB y.natAbs).length c2]) ?_ rfl ?_
  · simp [results, Try.f55, go_sem, z0, z1]
  · have hz1 := g4.size
    simp only [World.drew] at hz1
    exact got_store (by omega) (by omega) (x0.drew.trans g4) t1 t2 t3 t4 t5 _ _

/-- signs of a sum -/
theorem add_sign0 (z1 z2 : Int) (h : (decide (z1 < 0) == decide (z2 < 0)) = true) : sz (decide (z1 < 0)) (z1.natAbs + z2.natAbs) = z1 + z2 := by
  simp only [beq_iff_eq] at h
  unfold sz
  by_cases h1 : z1 < 0
  · rw [decide_eq_true h1] at *; have := of_decide_eq_true h.symm; simp; omega
  · rw [decide_eq_false h1] at *; have := of_decide_eq_false h.symm; simp; omega
theorem add_sign1 (z1 z2 : Int) (h : (decide (z1 < 0) == decide (z2 < 0)) = false) (hc : z2.natAbs ≤ z1.natAbs) : sz (decide (z1 < 0)) (z1.natAbs - z2.natAbs) = z1 + z2 := by
  unfold sz
  have e : ((z1.natAbs - z2.natAbs : Nat) : Int) = z1.natAbs - z2.natAbs := Int.ofNat_sub hc
  rw [e]; clear e
  by_cases h1 : z1 < 0 <;> by_cases h2 : z2 < 0
  · rw [decide_eq_true h1, decide_eq_true h2] at h; cases h
  · rw [decide_eq_true h1]; simp only [if_true]; omega
  · rw [decide_eq_false h1]; simp only [Bool.false_eq_true, if_false]; omega
  · rw [decide_eq_false h1, decide_eq_false h2] at h; cases h
theorem add_sign2 (z1 z2 : Int) (h : (decide (z1 < 0) == decide (z2 < 0)) = false) (hc : z1.natAbs ≤ z2.natAbs) : sz (decide (z2 < 0)) (z2.natAbs - z1.natAbs) = z1 + z2 := by
  have h' : (decide (z2 < 0) == decide (z1 < 0)) = false := by rw [Bool.beq_comm]; exact h
  rw [add_sign1 z2 z1 h' hc, Int.add_comm]

set_option maxRecDepth 100000 in
set_option maxHeartbeats 4000000 in
theorem addz_walk (z1 z2 : Int) (a b : Option Addr) (ca cb : Nat) (w : World) (hb1 : (dg BB z1.natAbs).length ≤ 100000) (hb2 : (dg BB z2.natAbs).length ≤ 100000) (h1 : IsInt w z1 a ca) (h2 : IsInt w z2 b cb) :
    Calls Try.prog 52 #[.agg #[.bool (decide (z1 < 0)), .slice a (dg BB z1.natAbs).length ca], .agg #[.bool (decide (z2 < 0)), .slice b (dg BB z2.natAbs).length cb]] w (GotInt w (z1 + z2)) := by
  have HA := Lib.hid (fun W (hr : Rd W a (ks .u32 (dg BB z1.natAbs))) (hr2 : Rd W b (ks .u32 (dg BB z2.natAbs))) => add_walk a b ca cb z1.natAbs z2.natAbs W (by omega) (by omega) hr hr2)
  have HS1 := Lib.hid (fun W (hr : Rd W a (ks .u32 (dg BB z1.natAbs))) (hr2 : Rd W b (ks .u32 (dg BB z2.natAbs))) (hle : z2.natAbs ≤ z1.natAbs) => sub_walk a b ca cb z1.natAbs z2.natAbs W hle (by omega) (by omega) hr hr2)
  have HS2 := Lib.hid (fun W (hr : Rd W a (ks .u32 (dg BB z1.natAbs))) (hr2 : Rd W b (ks .u32 (dg BB z2.natAbs))) (hle : z1.natAbs ≤ z2.natAbs) => sub_walk b a cb ca z2.natAbs z1.natAbs W hle (by omega) (by omega) hr2 hr)
  have HC := Lib.hid (fun W (hr : Rd W a (ks .u32 (dg BB z1.natAbs))) (hr2 : Rd W b (ks .u32 (dg BB z2.natAbs))) => cmp_walk a b ca cb z1.natAbs z2.natAbs W (by omega) (by omega) hr hr2)
  have hla := dg_len_add BB_gt z1.natAbs z2.natAbs
  have hls1 := dg_len_mono BB_gt (Nat.sub_le z1.natAbs z2.natAbs)
  have hls2 := dg_len_mono BB_gt (Nat.sub_le z2.natAbs z1.natAbs)
  have HO := Lib.hid (fun (s : Bool) (n : Nat) (hn : (dg BB n).length ≤ 300000) W a' c' (g1 : (dg BB n).length ≤ c') (g2 : c' ≤ maxLen) (hr : Rd W a' (ks .u32 (dg BB n))) => of_walk s n a' c' W g1 g2 (by omega) hr)
  have hn1 := cmpN_ge z1.natAbs z2.natAbs
  have hcb : -1 ≤ cmpN z1.natAbs z2.natAbs ∧ cmpN z1.natAbs z2.natAbs ≤ 1 := by unfold cmpN; (repeat' split) <;> omega
  obtain ⟨hcb1, hcb2⟩ := hcb
  have HY0 := Lib.hid (add_sign0 z1 z2)
  have HY1 := Lib.hid (add_sign1 z1 z2)
  have HY2 := Lib.hid (add_sign2 z1 z2)
  have r1 := h1.2.2
  have r2 := h2.2.2
  have hL0 : (dg BB (z1.natAbs + z2.natAbs)).length ≤ 300000 := by omega
  have hL1 : (dg BB (z1.natAbs - z2.natAbs)).length ≤ 300000 := by omega
  have hL2 : (dg BB (z2.natAbs - z1.natAbs)).length ≤ 300000 := by omega
  have HO0 := Lib.hid (HO.out (decide (z1 < 0)) _ hL0)
  have HO1 := Lib.hid (HO.out (decide (z1 < 0)) _ hL1)
  have HO2 := Lib.hid (HO.out (decide (z2 < 0)) _ hL2)
  clear h1 h2 hb1 hb2 hla hls1 hls2 HO hL0 hL1 hL2
  generalize z1 + z2 = y at *
  generalize z1.natAbs + z2.natAbs = m0 at *
  generalize z1.natAbs - z2.natAbs = m1 at *
  generalize z2.natAbs - z1.natAbs = m2 at *
  generalize cmpN z1.natAbs z2.natAbs = q at *
  generalize decide (z1 < 0) = s1 at *
  generalize decide (z2 < 0) = s2 at *
  generalize hna : (dg BB z1.natAbs).length = na at *
  generalize hnb : (dg BB z2.natAbs).length = nb at *
  clear hna hnb
  cases he : (s1 == s2)
  · rw [he] at HY0 HY1 HY2
    have HE := Lib.hid he
    by_cases hq : 0 ≤ q
    · have hle := hn1.1 hq
      have HF := HY1.out rfl hle
      rw [HF] at HO1
      have HS := Lib.hid (fun W p r => HS1.out W p r hle)
      clear HA HS1 HS2 HO0 HO2 HY0 HY1 HY2 hn1 HF hle
      go_enter Try.func52, Try.ntmps52
      go_wp2_with fail
      obtain ⟨W0, hW0, q0, q1, q2, x0, hs0⟩ := two_boxes w (.bool s1) (.slice a na ca) (.bool s2) (.slice b nb cb)
      rw [hW0]
      have k0 := q0.cell (i := 0) rfl
      have k1 := q0.cell (i := 1) rfl
      have k2 := q1.cell (i := 0) rfl
      have k3 := q1.cell (i := 1) rfl
      have QQ := Lib.hid (And.intro q0 (And.intro q1 (And.intro q2 (And.intro x0 hs0))))
      clear hW0 q0 q1 q2 x0 hs0
      go_quiet (fail)
      go_wp2_with (go_at_call 125; refine (HC.out _ ?_ ?_).mono ?_; exact (r1.ext QQ.out.2.2.2.1).drew; exact (r2.ext QQ.out.2.2.2.1).drew; rintro e w1 ⟨rfl, g0⟩)
      have p0 := Row.ext (show Row (W0.drewN nq) _ _ _ from QQ.out.1) g0
      have p1 := Row.ext (show Row (W0.drewN nq) _ _ _ from QQ.out.2.1) g0
      have p2 := Row.ext (show Row (W0.drewN nq) _ _ _ from QQ.out.2.2.1) g0
      have px := (Ext.drewN QQ.out.2.2.2.1 nq).trans g0
      have ps : w.heap.size + 1 + 1 + 1 ≤ w1.heap.size := by have h1 := g0.size; have h2 := QQ.out.2.2.2.2; simp only [World.drewN] at h1; omega
      have PP := Lib.hid (And.intro p0 (And.intro p1 (And.intro p2 (And.intro px ps))))
      have k0 := p0.cell (i := 0) rfl
      have k1 := p0.cell (i := 1) rfl
      have k2 := p1.cell (i := 0) rfl
      have k3 := p1.cell (i := 1) rfl
      clear p0 p1 p2 px ps
      go_region_held3 (fun w' => w'.cell? ⟨w.heap.size, 0, none⟩ = some (.bool s1) ∧ w'.cell? ⟨w.heap.size, 1, none⟩ = some (.slice a na ca) ∧ w'.cell? ⟨w.heap.size + 1, 0, none⟩ = some (.bool s2) ∧ w'.cell? ⟨w.heap.size + 1, 1, none⟩ = some (.slice b nb cb)) (first | exact held4 PP.out.1.drew PP.out.2.1.drew | exact held4 (row_far2 (PP.out.1.drew.ext (Ext.trans g4 t4)) (by omega) _ _) (row_far2 (PP.out.2.1.drew.ext (Ext.trans g4 t4)) (by omega) _ _) | exact held4 (PP.out.1.drew.ext (Ext.trans g4 t4)) (PP.out.2.1.drew.ext (Ext.trans g4 t4)) | exact held4 (PP.out.1.drew.ext g4) (PP.out.2.1.drew.ext g4)) (first
        | (go_at_call 120; refine (HS.out _ ?_ ?_).mono ?_; exact (r1.ext PP.out.2.2.2.1).drew; exact (r2.ext PP.out.2.2.2.1).drew; rintro e w2 ⟨a2, c2, rfl, g1, g2, g3, g4, g5⟩)
        | (go_at_call 121; refine (HO1.out _ _ _ ?_ ?_ ?_).mono ?_; exact g1; exact g2; exact g3; rintro e w3 ⟨a3, c3, rfl, t1, t2, t3, t4, t5⟩; have h0 := ((PP.out.2.2.1.drew.ext g4).ext t4).cell (i := 0) rfl; have h1 := ((PP.out.2.2.1.drew.ext g4).ext t4).cell (i := 1) rfl; have h2 := ((PP.out.2.2.1.drew.ext g4).ext t4).frozen 0; have h3 := ((PP.out.2.2.1.drew.ext g4).ext t4).frozen 1))
      go_wp2_with fail
      obtain ⟨p0, p1, p2, px, ps⟩ := PP.out
      have r3 := (((p2.drew.ext g4).ext t4).set 0 (.bool (decide (y < 0)))).set 1 (.slice a3 (dg BB y.natAbs).length c3)
      have z0 := r3.cell (i := 0) rfl
      have z1 := r3.cell (i := 1) rfl
      refine bodyPost_ret (v := .agg #[.bool (decide (y < 0)), .slice a3 (dg BB y.natAbs).length c3]) ?_ rfl ?_
      · simp [results, Try.f52, go_sem, z0, z1]
      · have hz1 := g4.size
        simp only [World.drew] at hz1
        exact got_store (by omega) (by omega) (px.drew.trans g4) t1 t2 t3 t4 t5 _ _
    · have hle : z1.natAbs ≤ z2.natAbs := by have : ¬ z2.natAbs ≤ z1.natAbs := fun h => hq (hn1.2 h); omega
      have HF := HY2.out rfl hle
      rw [HF] at HO2
      have HS := Lib.hid (fun W p r => HS2.out W p r hle)
      clear HA HS1 HS2 HO0 HO1 HY0 HY1 HY2 hn1 HF hle
      go_enter Try.func52, Try.ntmps52
      go_wp2_with fail
      obtain ⟨W0, hW0, q0, q1, q2, x0, hs0⟩ := two_boxes w (.bool s1) (.slice a na ca) (.bool s2) (.slice b nb cb)
      rw [hW0]
      have k0 := q0.cell (i := 0) rfl
      have k1 := q0.cell (i := 1) rfl
      have k2 := q1.cell (i := 0) rfl
      have k3 := q1.cell (i := 1) rfl
      have QQ := Lib.hid (And.intro q0 (And.intro q1 (And.intro q2 (And.intro x0 hs0))))
      clear hW0 q0 q1 q2 x0 hs0
      go_quiet (fail)
      go_wp2_with (go_at_call 125; refine (HC.out _ ?_ ?_).mono ?_; exact (r1.ext QQ.out.2.2.2.1).drew; exact (r2.ext QQ.out.2.2.2.1).drew; rintro e w1 ⟨rfl, g0⟩)
      have p0 := Row.ext (show Row (W0.drewN nq) _ _ _ from QQ.out.1) g0
      have p1 := Row.ext (show Row (W0.drewN nq) _ _ _ from QQ.out.2.1) g0
      have p2 := Row.ext (show Row (W0.drewN nq) _ _ _ from QQ.out.2.2.1) g0
      have px := (Ext.drewN QQ.out.2.2.2.1 nq).trans g0
      have ps : w.heap.size + 1 + 1 + 1 ≤ w1.heap.size := by have h1 := g0.size; have h2 := QQ.out.2.2.2.2; simp only [World.drewN] at h1; omega
      have PP := Lib.hid (And.intro p0 (And.intro p1 (And.intro p2 (And.intro px ps))))
      have k0 := p0.cell (i := 0) rfl
      have k1 := p0.cell (i := 1) rfl
      have k2 := p1.cell (i := 0) rfl
      have k3 := p1.cell (i := 1) rfl
      clear p0 p1 p2 px ps
      go_region_held3 (fun w' => w'.cell? ⟨w.heap.size, 0, none⟩ = some (.bool s1) ∧ w'.cell? ⟨w.heap.size, 1, none⟩ = some (.slice a na ca) ∧ w'.cell? ⟨w.heap.size + 1, 0, none⟩ = some (.bool s2) ∧ w'.cell? ⟨w.heap.size + 1, 1, none⟩ = some (.slice b nb cb)) (first | exact held4 PP.out.1.drew PP.out.2.1.drew | exact held4 (row_far2 (PP.out.1.drew.ext (Ext.trans g4 t4)) (by omega) _ _) (row_far2 (PP.out.2.1.drew.ext (Ext.trans g4 t4)) (by omega) _ _) | exact held4 (PP.out.1.drew.ext (Ext.trans g4 t4)) (PP.out.2.1.drew.ext (Ext.trans g4 t4)) | exact held4 (PP.out.1.drew.ext g4) (PP.out.2.1.drew.ext g4)) (first
        | (go_at_call 120; refine (HS.out _ ?_ ?_).mono ?_; exact (r1.ext PP.out.2.2.2.1).drew; exact (r2.ext PP.out.2.2.2.1).drew; rintro e w2 ⟨a2, c2, rfl, g1, g2, g3, g4, g5⟩)
        | (go_at_call 121; refine (HO2.out _ _ _ ?_ ?_ ?_).mono ?_; exact g1; exact g2; exact g3; rintro e w3 ⟨a3, c3, rfl, t1, t2, t3, t4, t5⟩; have h0 := ((PP.out.2.2.1.drew.ext g4).ext t4).cell (i := 0) rfl; have h1 := ((PP.out.2.2.1.drew.ext g4).ext t4).cell (i := 1) rfl; have h2 := ((PP.out.2.2.1.drew.ext g4).ext t4).frozen 0; have h3 := ((PP.out.2.2.1.drew.ext g4).ext t4).frozen 1))
      go_wp2_with fail
      obtain ⟨p0, p1, p2, px, ps⟩ := PP.out
      have r3 := (((p2.drew.ext g4).ext t4).set 0 (.bool (decide (y < 0)))).set 1 (.slice a3 (dg BB y.natAbs).length c3)
      have z0 := r3.cell (i := 0) rfl
      have z1 := r3.cell (i := 1) rfl
      refine bodyPost_ret (v := .agg #[.bool (decide (y < 0)), .slice a3 (dg BB y.natAbs).length c3]) ?_ rfl ?_
      · simp [results, Try.f52, go_sem, z0, z1]
      · have hz1 := g4.size
        simp only [World.drew] at hz1
        exact got_store (by omega) (by omega) (px.drew.trans g4) t1 t2 t3 t4 t5 _ _
  · have HF := HY0.out he
    rw [HF] at HO0
    have HE := Lib.hid he
    clear HS1 HS2 HO1 HO2 HY0 HY1 HY2 hn1 HF HC
    go_enter Try.func52, Try.ntmps52
    go_wp2_with fail
    obtain ⟨W0, hW0, q0, q1, q2, x0, hs0⟩ := two_boxes w (.bool s1) (.slice a na ca) (.bool s2) (.slice b nb cb)
    rw [hW0]
    have k0 := q0.cell (i := 0) rfl
    have k1 := q0.cell (i := 1) rfl
    have k2 := q1.cell (i := 0) rfl
    have k3 := q1.cell (i := 1) rfl
    have QQ := Lib.hid (And.intro q0 (And.intro q1 (And.intro q2 (And.intro x0 hs0))))
    clear hW0 q0 q1 q2 x0 hs0
    go_quiet (fail)
    go_wp2_with fail
    obtain ⟨w1, hw1⟩ : ∃ w1, W0.drewN nq = w1 := ⟨_, rfl⟩
    have g0 : Ext (W0.drewN nq) w1 := by rw [← hw1]; exact Ext.refl _
    rw [hw1]
    clear hw1
    have p0 := Row.ext (show Row (W0.drewN nq) _ _ _ from QQ.out.1) g0
    have p1 := Row.ext (show Row (W0.drewN nq) _ _ _ from QQ.out.2.1) g0
    have p2 := Row.ext (show Row (W0.drewN nq) _ _ _ from QQ.out.2.2.1) g0
    have px := (Ext.drewN QQ.out.2.2.2.1 nq).trans g0
    have ps : w.heap.size + 1 + 1 + 1 ≤ w1.heap.size := by have h1 := g0.size; have h2 := QQ.out.2.2.2.2; simp only [World.drewN] at h1; omega
    have PP := Lib.hid (And.intro p0 (And.intro p1 (And.intro p2 (And.intro px ps))))
    have k0 := p0.cell (i := 0) rfl
    have k1 := p0.cell (i := 1) rfl
    have k2 := p1.cell (i := 0) rfl
    have k3 := p1.cell (i := 1) rfl
    clear p0 p1 p2 px ps
    go_region_held3 (fun w' => w'.cell? ⟨w.heap.size, 0, none⟩ = some (.bool s1) ∧ w'.cell? ⟨w.heap.size, 1, none⟩ = some (.slice a na ca) ∧ w'.cell? ⟨w.heap.size + 1, 0, none⟩ = some (.bool s2) ∧ w'.cell? ⟨w.heap.size + 1, 1, none⟩ = some (.slice b nb cb)) (first | exact held4 PP.out.1.drew PP.out.2.1.drew | exact held4 (row_far2 (PP.out.1.drew.ext (Ext.trans g4 t4)) (by omega) _ _) (row_far2 (PP.out.2.1.drew.ext (Ext.trans g4 t4)) (by omega) _ _) | exact held4 (PP.out.1.drew.ext (Ext.trans g4 t4)) (PP.out.2.1.drew.ext (Ext.trans g4 t4)) | exact held4 (PP.out.1.drew.ext g4) (PP.out.2.1.drew.ext g4)) (first
      | (go_at_call 119; refine (HA.out _ ?_ ?_).mono ?_; exact (r1.ext PP.out.2.2.2.1).drew; exact (r2.ext PP.out.2.2.2.1).drew; rintro e w2 ⟨v2, rfl, own2, g4⟩; obtain ⟨a2, c2, rfl, g1, g2, g3⟩ := own_form own2)
      | (go_at_call 121; refine (HO0.out _ _ _ ?_ ?_ ?_).mono ?_; exact g1; exact g2; exact g3; rintro e w3 ⟨a3, c3, rfl, t1, t2, t3, t4, t5⟩; have h0 := ((PP.out.2.2.1.drew.ext g4).ext t4).cell (i := 0) rfl; have h1 := ((PP.out.2.2.1.drew.ext g4).ext t4).cell (i := 1) rfl; have h2 := ((PP.out.2.2.1.drew.ext g4).ext t4).frozen 0; have h3 := ((PP.out.2.2.1.drew.ext g4).ext t4).frozen 1))
    go_wp2_with fail
    obtain ⟨p0, p1, p2, px, ps⟩ := PP.out
    have r3 := (((p2.drew.ext g4).ext t4).set 0 (.bool (decide (y < 0)))).set 1 (.slice a3 (dg BB y.natAbs).length c3)
    have z0 := r3.cell (i := 0) rfl
    have z1 := r3.cell (i := 1) rfl
    refine bodyPost_ret (v := .agg #[.bool (decide (y < 0)), .slice a3 (dg BB y.natAbs).length c3]) ?_ rfl ?_
    · simp [results, Try.f52, go_sem, z0, z1]
    · have hz1 := g4.size
      simp only [World.drew] at hz1
      exact got_store (by omega) (by omega) (px.drew.trans g4) t1 t2 t3 t4 t5 _ _
end Go.Proofs.Ytogodjiemgilaaa
