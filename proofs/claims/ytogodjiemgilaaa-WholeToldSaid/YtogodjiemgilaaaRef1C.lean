/- The reference's Neg, Add. -/
import Derived.Test.YtogodjiemgilaaaRef1B
namespace Go.Proofs.Ytogodjiemgilaaa
open Go.RowKit

/-- a number's own cells: the result is stored in a variable of the call's own -/
theorem num_store {w W w' : World} {z : Int} {a : Option Addr} {c g : Nat} (hg1 : w.heap.size ≤ g) (x : Ext w W) (h : IsNum w' z a c) (h5 : Ext W w') (hf : ∀ ad, a = some ad → ad.block ≠ g) (u v : Value) :
    GotNum z w (.returned (.agg #[.bool (decide (z < 0)), .slice a (dg 10 z.natAbs).length c])) ((w'.setCell ⟨g, 0, none⟩ u).setCell ⟨g, 1, none⟩ v) := by
  refine ⟨a, c, rfl, ⟨h.1, h.2.1, ?_⟩, ((x.trans h5).set (p := ⟨g, 0, none⟩) hg1 _).set (p := ⟨g, 1, none⟩) hg1 _⟩
  exact (h.2.2.keep fun bb off e _ => Below.heap_setCell _ _ _ _ (hf _ e)).keep fun bb off e _ => Below.heap_setCell _ _ _ _ (hf _ e)

/-- two numbers boxed, and a result's cells -/
theorem two_nums (w : World) (u0 u1 v0 v1 : Value) :
    ∃ W0, ((w.alloc (.cells #[u0, u1] 72)).alloc (.cells #[v0, v1] 72)).alloc (.cells #[.bool false, .slice none 0 0] 72) = W0 ∧ Row W0 w.heap.size 72 [u0, u1] ∧ Row W0 (w.heap.size + 1) 72 [v0, v1] ∧ Row W0 (w.heap.size + 1 + 1) 72 [.bool false, .slice none 0 0] ∧ Ext w W0 ∧ W0.heap.size = w.heap.size + 1 + 1 + 1 := by
  refine ⟨_, rfl, ((Row.new w _ [_, _]).alloc _).alloc _, ?_, ?_, ((Ext.new _ _).alloc _).alloc _, by simp⟩
  · have := (Row.new (w.alloc (.cells #[u0, u1] 72)) 72 [v0, v1]).alloc (.cells #[.bool false, .slice none 0 0] 72)
    rwa [World.size_alloc] at this
  · have := Row.new ((w.alloc (.cells #[u0, u1] 72)).alloc (.cells #[v0, v1] 72)) 72 [.bool false, .slice none 0 0]
    rwa [World.size_alloc, World.size_alloc] at this
theorem held4n {w W : World} {u0 u1 v0 v1 : Value} (h0 : Row W w.heap.size 72 [u0, u1]) (h1 : Row W (w.heap.size + 1) 72 [v0, v1]) :
    W.cell? ⟨w.heap.size, 0, none⟩ = some u0 ∧ W.cell? ⟨w.heap.size, 1, none⟩ = some u1 ∧ W.cell? ⟨w.heap.size + 1, 0, none⟩ = some v0 ∧ W.cell? ⟨w.heap.size + 1, 1, none⟩ = some v1 :=
  ⟨h0.cell (i := 0) rfl, h0.cell (i := 1) rfl, h1.cell (i := 0) rfl, h1.cell (i := 1) rfl⟩

set_option maxRecDepth 100000 in
set_option maxHeartbeats 4000000 in
theorem raddz_walk (z1 z2 : Int) (a b : Option Addr) (ca cb : Nat) (w : World) (hb1 : (dg 10 z1.natAbs).length ≤ 100000) (hb2 : (dg 10 z2.natAbs).length ≤ 100000) (h1 : IsNum w z1 a ca) (h2 : IsNum w z2 b cb) :
    Calls Try.prog 54 #[.agg #[.bool (decide (z1 < 0)), .slice a (dg 10 z1.natAbs).length ca], .agg #[.bool (decide (z2 < 0)), .slice b (dg 10 z2.natAbs).length cb]] w (GotNum (z1 + z2) w) := by
  have HA := Lib.hid (fun W (hr : Rd W a (ks .i64 (dg 10 z1.natAbs))) (hr2 : Rd W b (ks .i64 (dg 10 z2.natAbs))) => radd_walk a b ca cb z1.natAbs z2.natAbs W (by omega) (by omega) hr hr2)
  have HS1 := Lib.hid (fun W (hr : Rd W a (ks .i64 (dg 10 z1.natAbs))) (hr2 : Rd W b (ks .i64 (dg 10 z2.natAbs))) (hle : z2.natAbs ≤ z1.natAbs) => rsub_walk a b ca cb z1.natAbs z2.natAbs W hle (by omega) (by omega) hr hr2)
  have HS2 := Lib.hid (fun W (hr : Rd W a (ks .i64 (dg 10 z1.natAbs))) (hr2 : Rd W b (ks .i64 (dg 10 z2.natAbs))) (hle : z1.natAbs ≤ z2.natAbs) => rsub_walk b a cb ca z2.natAbs z1.natAbs W hle (by omega) (by omega) hr2 hr)
  have HC := Lib.hid (fun W (hr : Rd W a (ks .i64 (dg 10 z1.natAbs))) (hr2 : Rd W b (ks .i64 (dg 10 z2.natAbs))) => rcmp_walk a b ca cb z1.natAbs z2.natAbs W (by omega) (by omega) hr hr2)
  have hla := dg_len_add ten_gt z1.natAbs z2.natAbs
  have hls1 := dg_len_mono ten_gt (Nat.sub_le z1.natAbs z2.natAbs)
  have hls2 := dg_len_mono ten_gt (Nat.sub_le z2.natAbs z1.natAbs)
  have HO := Lib.hid (fun (s : Bool) (n : Nat) (hn : (dg 10 n).length ≤ 300000) W a' c' (g1 : (dg 10 n).length ≤ c') (g2 : c' ≤ maxLen) (hr : Rd W a' (ks .i64 (dg 10 n))) => rmk_walk s n a' c' W g1 g2 hr)
  have hn1 := cmpN_ge z1.natAbs z2.natAbs
  have hcb : -1 ≤ cmpN z1.natAbs z2.natAbs ∧ cmpN z1.natAbs z2.natAbs ≤ 1 := by unfold cmpN; (repeat' split) <;> omega
  obtain ⟨hcb1, hcb2⟩ := hcb
  have HY0 := Lib.hid (add_sign0 z1 z2)
  have HY1 := Lib.hid (add_sign1 z1 z2)
  have HY2 := Lib.hid (add_sign2 z1 z2)
  have r1 := h1.2.2
  have r2 := h2.2.2
  have hL0 : (dg 10 (z1.natAbs + z2.natAbs)).length ≤ 300000 := by omega
  have hL1 : (dg 10 (z1.natAbs - z2.natAbs)).length ≤ 300000 := by omega
  have hL2 : (dg 10 (z2.natAbs - z1.natAbs)).length ≤ 300000 := by omega
  have HO0 := Lib.hid (HO.out (decide (z1 < 0)) _ hL0)
  have HO1 := Lib.hid (HO.out (decide (z1 < 0)) _ hL1)
  have HO2 := Lib.hid (HO.out (decide (z2 < 0)) _ hL2)
  clear h1 h2 hb1 hb2 hla hls1 hls2 HO hL0 hL1 hL2
  generalize z1 + z2 = y at *
  generalize z1.natAbs + z2.natAbs = m0 at *
  generalize z1.natAbs - z2.natAbs = m1 at *
  generalize z2.natAbs - z1.natAbs = m2 at *
  generalize cmpN z1.natAbs z2.natAbs = q at *
  generalize decide (z1 < 0) = s1 at *
  generalize decide (z2 < 0) = s2 at *
  generalize hna : (dg 10 z1.natAbs).length = na at *
  generalize hnb : (dg 10 z2.natAbs).length = nb at *
  clear hna hnb
  cases he : (s1 == s2)
  · rw [he] at HY0 HY1 HY2
    have HE := Lib.hid he
    by_cases hq : 0 ≤ q
    · have hle := hn1.1 hq
      have HF := HY1.out rfl hle
      rw [HF] at HO1
      have HNAT : Hid (y.natAbs = m1) := by show _ = _; rw [← HF, sz_abs]
      have HS := Lib.hid (fun W p r => HS1.out W p r hle)
      clear HA HS1 HS2 HO0 HO2 HY0 HY1 HY2 hn1 HF hle
      go_enter Try.func54, Try.ntmps54
      go_wp2_with fail
      obtain ⟨W0, hW0, q0, q1, q2, x0, hs0⟩ := two_nums w (.bool s1) (.slice a na ca) (.bool s2) (.slice b nb cb)
      rw [hW0]
      have k0 := q0.cell (i := 0) rfl
      have k1 := q0.cell (i := 1) rfl
      have k2 := q1.cell (i := 0) rfl
      have k3 := q1.cell (i := 1) rfl
      have QQ := Lib.hid (And.intro q0 (And.intro q1 (And.intro q2 (And.intro x0 hs0))))
      clear hW0 q0 q1 q2 x0 hs0
      go_wp2_with (go_at_call 123; refine (HC.out _ ?_ ?_).mono ?_; exact r1.ext QQ.out.2.2.2.1; exact r2.ext QQ.out.2.2.2.1; rintro e w1 ⟨rfl, g0⟩)
      have p0 := Row.ext (show Row (W0) _ _ _ from QQ.out.1) g0
      have p1 := Row.ext (show Row (W0) _ _ _ from QQ.out.2.1) g0
      have p2 := Row.ext (show Row (W0) _ _ _ from QQ.out.2.2.1) g0
      have px := QQ.out.2.2.2.1.trans g0
      have ps : w.heap.size + 1 + 1 + 1 ≤ w1.heap.size := by have h1 := g0.size; have h2 := QQ.out.2.2.2.2; omega
      have PP := Lib.hid (And.intro p0 (And.intro p1 (And.intro p2 (And.intro px ps))))
      have k0 := p0.cell (i := 0) rfl
      have k1 := p0.cell (i := 1) rfl
      have k2 := p1.cell (i := 0) rfl
      have k3 := p1.cell (i := 1) rfl
      clear p0 p1 p2 px ps
      go_region_held3 (fun w' => w'.cell? ⟨w.heap.size, 0, none⟩ = some (.bool s1) ∧ w'.cell? ⟨w.heap.size, 1, none⟩ = some (.slice a na ca) ∧ w'.cell? ⟨w.heap.size + 1, 0, none⟩ = some (.bool s2) ∧ w'.cell? ⟨w.heap.size + 1, 1, none⟩ = some (.slice b nb cb)) (first | exact held4n PP.out.1.drew PP.out.2.1.drew | exact held4n (row_far2 (PP.out.1.drew.ext (Ext.trans g4 t4)) (by omega) _ _) (row_far2 (PP.out.2.1.drew.ext (Ext.trans g4 t4)) (by omega) _ _) | exact held4n (PP.out.1.drew.ext (Ext.trans g4 t4)) (PP.out.2.1.drew.ext (Ext.trans g4 t4)) | exact held4n (PP.out.1.drew.ext g4) (PP.out.2.1.drew.ext g4)) (first
        | (go_at_call 124; refine (HS.out _ ?_ ?_).mono ?_; exact (r1.ext PP.out.2.2.2.1).drew; exact (r2.ext PP.out.2.2.2.1).drew; rintro e w2 ⟨a2, c2, rfl, g1, g2, g3, g4, g5⟩)
        | (go_at_call 117; refine (HO1.out _ _ _ ?_ ?_ ?_).mono ?_; exact g1; exact g2; exact g3; rintro e w3 ⟨rfl, t4⟩; have h0 := ((PP.out.2.2.1.drew.ext g4).ext t4).cell (i := 0) rfl; have h1 := ((PP.out.2.2.1.drew.ext g4).ext t4).cell (i := 1) rfl; have h2 := ((PP.out.2.2.1.drew.ext g4).ext t4).frozen 0; have h3 := ((PP.out.2.2.1.drew.ext g4).ext t4).frozen 1))
      go_wp2_with fail
      obtain ⟨p0, p1, p2, px, ps⟩ := PP.out
      have r3 := (((p2.drew.ext g4).ext t4).set 0 (.bool (decide (y < 0)))).set 1 (.slice a2 (dg 10 m1).length c2)
      have z0 := r3.cell (i := 0) rfl
      have z1 := r3.cell (i := 1) rfl
      refine bodyPost_ret (v := .agg #[.bool (decide (y < 0)), .slice a2 (dg 10 m1).length c2]) ?_ rfl ?_
      · simp [results, Try.f54, go_sem, z0, z1]
      · have hz1 := g4.size
        simp only [World.drew] at hz1
        have hgs := num_store (w := w) (z := y) (g := w.heap.size + 1 + 1) (c := c2) (a := a2) (by omega) (px.drew.trans g4) (w' := w3) (by rw [IsNum, HNAT.out]; exact ⟨g1, g2, g3.ext t4⟩) t4 (fun ad e => by have := g5 _ e; simp only [World.drew] at this; omega) (.bool (decide (y < 0))) (.slice a2 (dg 10 m1).length c2)
        rw [HNAT.out] at hgs
        exact hgs
    · have hle : z1.natAbs ≤ z2.natAbs := by have : ¬ z2.natAbs ≤ z1.natAbs := fun h => hq (hn1.2 h); omega
      have HF := HY2.out rfl hle
      rw [HF] at HO2
      have HNAT : Hid (y.natAbs = m2) := by show _ = _; rw [← HF, sz_abs]
      have HS := Lib.hid (fun W p r => HS2.out W p r hle)
      clear HA HS1 HS2 HO0 HO1 HY0 HY1 HY2 hn1 HF hle
      go_enter Try.func54, Try.ntmps54
      go_wp2_with fail
      obtain ⟨W0, hW0, q0, q1, q2, x0, hs0⟩ := two_nums w (.bool s1) (.slice a na ca) (.bool s2) (.slice b nb cb)
      rw [hW0]
      have k0 := q0.cell (i := 0) rfl
      have k1 := q0.cell (i := 1) rfl
      have k2 := q1.cell (i := 0) rfl
      have k3 := q1.cell (i := 1) rfl
      have QQ := Lib.hid (And.intro q0 (And.intro q1 (And.intro q2 (And.intro x0 hs0))))
      clear hW0 q0 q1 q2 x0 hs0
      go_wp2_with (go_at_call 123; refine (HC.out _ ?_ ?_).mono ?_; exact r1.ext QQ.out.2.2.2.1; exact r2.ext QQ.out.2.2.2.1; rintro e w1 ⟨rfl, g0⟩)
      have p0 := Row.ext (show Row (W0) _ _ _ from QQ.out.1) g0
      have p1 := Row.ext (show Row (W0) _ _ _ from QQ.out.2.1) g0
      have p2 := Row.ext (show Row (W0) _ _ _ from QQ.out.2.2.1) g0
      have px := QQ.out.2.2.2.1.trans g0
      have ps : w.heap.size + 1 + 1 + 1 ≤ w1.heap.size := by have h1 := g0.size; have h2 := QQ.out.2.2.2.2; omega
      have PP := Lib.hid (And.intro p0 (And.intro p1 (And.intro p2 (And.intro px ps))))
      have k0 := p0.cell (i := 0) rfl
      have k1 := p0.cell (i := 1) rfl
      have k2 := p1.cell (i := 0) rfl
      have k3 := p1.cell (i := 1) rfl
      clear p0 p1 p2 px ps
      go_region_held3 (fun w' => w'.cell? ⟨w.heap.size, 0, none⟩ = some (.bool s1) ∧ w'.cell? ⟨w.heap.size, 1, none⟩ = some (.slice a na ca) ∧ w'.cell? ⟨w.heap.size + 1, 0, none⟩ = some (.bool s2) ∧ w'.cell? ⟨w.heap.size + 1, 1, none⟩ = some (.slice b nb cb)) (first | exact held4n PP.out.1.drew PP.out.2.1.drew | exact held4n (row_far2 (PP.out.1.drew.ext (Ext.trans g4 t4)) (by omega) _ _) (row_far2 (PP.out.2.1.drew.ext (Ext.trans g4 t4)) (by omega) _ _) | exact held4n (PP.out.1.drew.ext (Ext.trans g4 t4)) (PP.out.2.1.drew.ext (Ext.trans g4 t4)) | exact held4n (PP.out.1.drew.ext g4) (PP.out.2.1.drew.ext g4)) (first
        | (go_at_call 124; refine (HS.out _ ?_ ?_).mono ?_; exact (r1.ext PP.out.2.2.2.1).drew; exact (r2.ext PP.out.2.2.2.1).drew; rintro e w2 ⟨a2, c2, rfl, g1, g2, g3, g4, g5⟩)
        | (go_at_call 117; refine (HO2.out _ _ _ ?_ ?_ ?_).mono ?_; exact g1; exact g2; exact g3; rintro e w3 ⟨rfl, t4⟩; have h0 := ((PP.out.2.2.1.drew.ext g4).ext t4).cell (i := 0) rfl; have h1 := ((PP.out.2.2.1.drew.ext g4).ext t4).cell (i := 1) rfl; have h2 := ((PP.out.2.2.1.drew.ext g4).ext t4).frozen 0; have h3 := ((PP.out.2.2.1.drew.ext g4).ext t4).frozen 1))
      go_wp2_with fail
      obtain ⟨p0, p1, p2, px, ps⟩ := PP.out
      have r3 := (((p2.drew.ext g4).ext t4).set 0 (.bool (decide (y < 0)))).set 1 (.slice a2 (dg 10 m2).length c2)
      have z0 := r3.cell (i := 0) rfl
      have z1 := r3.cell (i := 1) rfl
      refine bodyPost_ret (v := .agg #[.bool (decide (y < 0)), .slice a2 (dg 10 m2).length c2]) ?_ rfl ?_
      · simp [results, Try.f54, go_sem, z0, z1]
      · have hz1 := g4.size
        simp only [World.drew] at hz1
        have hgs := num_store (w := w) (z := y) (g := w.heap.size + 1 + 1) (c := c2) (a := a2) (by omega) (px.drew.trans g4) (w' := w3) (by rw [IsNum, HNAT.out]; exact ⟨g1, g2, g3.ext t4⟩) t4 (fun ad e => by have := g5 _ e; simp only [World.drew] at this; omega) (.bool (decide (y < 0))) (.slice a2 (dg 10 m2).length c2)
        rw [HNAT.out] at hgs
        exact hgs
  · have HF := HY0.out he
    rw [HF] at HO0
    have HNAT : Hid (y.natAbs = m0) := by show _ = _; rw [← HF, sz_abs]
    have HE := Lib.hid he
    clear HS1 HS2 HO1 HO2 HY0 HY1 HY2 hn1 HF HC
    go_enter Try.func54, Try.ntmps54
    go_wp2_with fail
    obtain ⟨W0, hW0, q0, q1, q2, x0, hs0⟩ := two_nums w (.bool s1) (.slice a na ca) (.bool s2) (.slice b nb cb)
    rw [hW0]
    have k0 := q0.cell (i := 0) rfl
    have k1 := q0.cell (i := 1) rfl
    have k2 := q1.cell (i := 0) rfl
    have k3 := q1.cell (i := 1) rfl
    have QQ := Lib.hid (And.intro q0 (And.intro q1 (And.intro q2 (And.intro x0 hs0))))
    clear hW0 q0 q1 q2 x0 hs0
    go_wp2_with fail
    obtain ⟨w1, hw1⟩ : ∃ w1, W0 = w1 := ⟨_, rfl⟩
    have g0 : Ext (W0) w1 := by rw [← hw1]; exact Ext.refl _
    rw [hw1]
    clear hw1
    have p0 := Row.ext (show Row (W0) _ _ _ from QQ.out.1) g0
    have p1 := Row.ext (show Row (W0) _ _ _ from QQ.out.2.1) g0
    have p2 := Row.ext (show Row (W0) _ _ _ from QQ.out.2.2.1) g0
    have px := QQ.out.2.2.2.1.trans g0
    have ps : w.heap.size + 1 + 1 + 1 ≤ w1.heap.size := by have h1 := g0.size; have h2 := QQ.out.2.2.2.2; omega
    have PP := Lib.hid (And.intro p0 (And.intro p1 (And.intro p2 (And.intro px ps))))
    have k0 := p0.cell (i := 0) rfl
    have k1 := p0.cell (i := 1) rfl
    have k2 := p1.cell (i := 0) rfl
    have k3 := p1.cell (i := 1) rfl
    clear p0 p1 p2 px ps
    go_region_held3 (fun w' => w'.cell? ⟨w.heap.size, 0, none⟩ = some (.bool s1) ∧ w'.cell? ⟨w.heap.size, 1, none⟩ = some (.slice a na ca) ∧ w'.cell? ⟨w.heap.size + 1, 0, none⟩ = some (.bool s2) ∧ w'.cell? ⟨w.heap.size + 1, 1, none⟩ = some (.slice b nb cb)) (first | exact held4n PP.out.1.drew PP.out.2.1.drew | exact held4n (row_far2 (PP.out.1.drew.ext (Ext.trans g4 t4)) (by omega) _ _) (row_far2 (PP.out.2.1.drew.ext (Ext.trans g4 t4)) (by omega) _ _) | exact held4n (PP.out.1.drew.ext (Ext.trans g4 t4)) (PP.out.2.1.drew.ext (Ext.trans g4 t4)) | exact held4n (PP.out.1.drew.ext g4) (PP.out.2.1.drew.ext g4)) (first
      | (go_at_call 126; refine (HA.out _ ?_ ?_).mono ?_; exact (r1.ext PP.out.2.2.2.1).drew; exact (r2.ext PP.out.2.2.2.1).drew; rintro e w2 ⟨v2, rfl, own2, g4⟩; obtain ⟨a2, c2, rfl, g1, g2, g3⟩ := own_form own2; have g5 := own_from own2)
      | (go_at_call 117; refine (HO0.out _ _ _ ?_ ?_ ?_).mono ?_; exact g1; exact g2; exact g3; rintro e w3 ⟨rfl, t4⟩; have h0 := ((PP.out.2.2.1.drew.ext g4).ext t4).cell (i := 0) rfl; have h1 := ((PP.out.2.2.1.drew.ext g4).ext t4).cell (i := 1) rfl; have h2 := ((PP.out.2.2.1.drew.ext g4).ext t4).frozen 0; have h3 := ((PP.out.2.2.1.drew.ext g4).ext t4).frozen 1))
    go_wp2_with fail
    obtain ⟨p0, p1, p2, px, ps⟩ := PP.out
    have r3 := (((p2.drew.ext g4).ext t4).set 0 (.bool (decide (y < 0)))).set 1 (.slice a2 (dg 10 m0).length c2)
    have z0 := r3.cell (i := 0) rfl
    have z1 := r3.cell (i := 1) rfl
    refine bodyPost_ret (v := .agg #[.bool (decide (y < 0)), .slice a2 (dg 10 m0).length c2]) ?_ rfl ?_
    · simp [results, Try.f54, go_sem, z0, z1]
    · have hz1 := g4.size
      simp only [World.drew] at hz1
      have hgs := num_store (w := w) (z := y) (g := w.heap.size + 1 + 1) (c := c2) (a := a2) (by omega) (px.drew.trans g4) (w' := w3) (by rw [IsNum, HNAT.out]; exact ⟨g1, g2, g3.ext t4⟩) t4 (fun ad e => by have := g5 _ e; simp only [World.drew] at this; omega) (.bool (decide (y < 0))) (.slice a2 (dg 10 m0).length c2)
      rw [HNAT.out] at hgs
      exact hgs
end Go.Proofs.Ytogodjiemgilaaa
