/- The reference's Neg, Of, Int. -/
import Derived.Test.YtogodjiemgilaaaRef1C
namespace Go.Proofs.Ytogodjiemgilaaa
open Go.RowKit

set_option maxRecDepth 100000 in
set_option maxHeartbeats 1000000 in
theorem rneg_walk (z : Int) (a : Option Addr) (c : Nat) (w : World) (h : IsNum w z a c) :
    Calls Try.prog 58 #[.agg #[.bool (decide (z < 0)), .slice a (dg 10 z.natAbs).length c]] w (GotNum (-z) w) := by
  obtain ⟨h1, h2, h3⟩ := h
  have HO := Lib.hid (fun W (hr : Rd W a (ks .i64 (dg 10 z.natAbs))) => rmk_walk (!decide (z < 0)) z.natAbs a c W h1 h2 hr)
  have hz : sz (!decide (z < 0)) z.natAbs = -z := by unfold sz; by_cases hz : z < 0 <;> simp [hz] <;> omega
  rw [hz] at HO
  obtain ⟨y, hy⟩ : ∃ y, y = -z := ⟨_, rfl⟩
  have hyn : Hid (y.natAbs = z.natAbs) := by show _ = _; omega
  rw [← hy] at HO ⊢
  have H1 := Lib.hid (And.intro h1 (And.intro h2 h3))
  clear hz hy h1 h2 h3
  generalize z.natAbs = n at *
  generalize decide (z < 0) = s at *
  obtain ⟨na, hna⟩ : ∃ x, (dg 10 n).length = x := ⟨_, rfl⟩
  have HNA := Lib.hid hna
  rw [hna] at HO ⊢
  clear hna
  go_enter Try.func58, Try.ntmps58
  go_wp2_with fail
  refine (HO.out _ ((H1.out.2.2.alloc _).alloc _)).mono ?_
  rintro e w1 ⟨rfl, g1⟩
  have r1 := (Row.new (w.alloc (.cells #[.bool s, .slice a na c] 72)) 72 [.bool false, .slice none 0 0]).ext g1
  rw [World.size_alloc] at r1
  have k0 := r1.cell (i := 0) rfl
  have k1 := r1.cell (i := 1) rfl
  have f0 := r1.frozen 0
  have f1 := r1.frozen 1
  have R1 := Lib.hid r1
  clear r1
  go_wp2_with fail
  have r2 := (R1.out.set 0 (.bool (decide (y < 0)))).set 1 (.slice a na c)
  have z0 := r2.cell (i := 0) rfl
  have z1 := r2.cell (i := 1) rfl
  have xx : Ext w ((w1.setCell ⟨w.heap.size + 1, 0, none⟩ (.bool (decide (y < 0)))).setCell ⟨w.heap.size + 1, 1, none⟩ (.slice a na c)) := ((((Ext.new w _).alloc _).trans g1).set (p := ⟨w.heap.size + 1, 0, none⟩) (Nat.le_succ _) _).set (p := ⟨w.heap.size + 1, 1, none⟩) (Nat.le_succ _) _
  refine bodyPost_ret (v := .agg #[.bool (decide (y < 0)), .slice a na c]) (by simp [results, Try.f58, go_sem, z0, z1]) rfl ⟨a, c, by rw [hyn.out, HNA.out], by rw [IsNum, hyn.out]; exact ⟨H1.out.1, H1.out.2.1, H1.out.2.2.ext xx⟩, xx⟩

set_option maxRecDepth 100000 in
set_option maxHeartbeats 4000000 in
theorem rof_walk (z : Int) (a : Option Addr) (ca : Nat) (w : World) (hb : (dg BB z.natAbs).length ≤ 100000) (h : IsInt w z a ca) :
    Calls Try.prog 48 #[.agg #[.bool (decide (z < 0)), .slice a (dg BB z.natAbs).length ca]] w (GotNum z w) := by
  have hr := h.2.2
  have hnb := lt_pow_len BB_gt z.natAbs
  obtain ⟨y, hy⟩ : ∃ y, y = z := ⟨_, rfl⟩
  have hsz : sz (decide (z < 0)) z.natAbs = y := by rw [hy]; exact sz_self z
  have hyn : y.natAbs = z.natAbs := by rw [hy]
  suffices hmain : Calls Try.prog 48 #[.agg #[.bool (decide (z < 0)), .slice a (dg BB z.natAbs).length ca]] w (GotNum y w) by rw [← hy]; exact hy ▸ hmain
  clear h hy
  generalize z.natAbs = n at *
  generalize decide (z < 0) = s at *
  obtain ⟨l, hl⟩ : ∃ l, l = dg BB n := ⟨_, rfl⟩
  have hdig : ∀ i (hi : i < l.length), l[i] = n / BB ^ i % BB := fun i hi => by subst hl; exact dg_at BB_gt hi
  rw [← hl] at hr hb hnb ⊢
  have HNB := Lib.hid hnb
  have HDIG := Lib.hid hdig
  have HR := Lib.hid hr
  have HSZ := Lib.hid hsz
  have HYN := Lib.hid hyn
  clear hl hdig hnb hr hsz hyn
  go_enter Try.func48, Try.ntmps48
  go_wp2_with fail
  obtain ⟨W1, hW1⟩ : ∃ W1, (w.alloc (.cells #[.bool s, .slice a l.length ca] 69)).alloc (.cells #[.bool false, .slice none 0 0] 72) = W1 := ⟨_, rfl⟩
  have q0 : Row W1 w.heap.size 69 [.bool s, .slice a l.length ca] := by rw [← hW1]; exact (Row.new w _ [_, _]).alloc _
  have q1 : Row W1 (w.heap.size + 1) 72 [.bool false, .slice none 0 0] := by
    rw [← hW1]
    have := Row.new (w.alloc (.cells #[.bool s, .slice a l.length ca] 69)) 72 [.bool false, .slice none 0 0]
    rwa [World.size_alloc] at this
  have x1 : Ext w W1 := by rw [← hW1]; exact (Ext.new _ _).alloc _
  have hs1 : W1.heap.size = w.heap.size + 1 + 1 := by rw [← hW1]; simp
  rw [hW1]
  have own0 := own_empty W1 W1.heap.size (Nat.le_refl _)
  rw [hs1] at own0
  have HS1 := Lib.hid hs1
  clear hW1 hs1
  go_loopw [3, 4] (fun o iv wr => ∃ i : Nat, i ≤ l.length ∧ iv = .int .i64 i ∧ wr.ownsRow (w.heap.size + 1 + 1) 3 1 o (9 * i) (ks .i64 (fixd 10 (9 * i) n)) ∧ Ext W1 wr) (fun _ iv _ => l.length - (intOf iv).toNat)
  case atStart => exact ⟨0, by omega, rfl, own0, Ext.new _ _⟩
  case round =>
    obtain ⟨i, hi, rfl, hown, hext⟩ := hrel
    have k0 := (q0.ext hext).cell (i := 0) rfl
    have k1 := (q0.ext hext).cell (i := 1) rfl
    by_cases hlt : i < l.length
    · obtain ⟨b0, ob, rfl, hcb⟩ := (HR.out.ext (x1.trans hext)).num (i := i) hlt
      have hx : l[i] < 1000000000 := by rw [HDIG.out i hlt]; exact Nat.mod_lt _ (by decide)
      have hxk : Hid (l[i] = n / BB ^ i % BB) := HDIG.out i hlt
      generalize l[i] = x at *
      go_wp2_with fail
      clear k0 k1 hcb
      go_loopw [3, 5, 6] (fun o d kv wr2 => ∃ k : Nat, k ≤ 9 ∧ kv = .int .i64 k ∧ d = .int .i64 ((x / 10 ^ k : Nat) : Int) ∧ wr2.ownsRow (w.heap.size + 1 + 1) 3 1 o (9 * i + k) (ks .i64 (fixd 10 (9 * i + k) n)) ∧ Ext W1 wr2) (fun _ _ kv _ => 10 - (intOf kv).toNat)
      case atStart => exact ⟨0, by omega, rfl, by simp, hown, hext⟩
      case round =>
        obtain ⟨k, hk, rfl, rfl, hown2, hext2⟩ := hrel
        have k0 := (q0.ext hext2).cell (i := 0) rfl
        have k1 := (q0.ext hext2).cell (i := 1) rfl
        by_cases hk9 : k < 9
        · have HD : Hid (x / 10 ^ k % 10 = n / 10 ^ (9 * i + k) % 10) := by show _ = _; rw [hxk.out]; exact dig_at n i k hk9
          have HS : Hid (x / 10 ^ k / 10 = x / 10 ^ (k + 1)) := by show _ = _; rw [Nat.div_div_eq_div_mul, Nat.pow_succ]
          have hy : x / 10 ^ k < 1000000000 := Nat.lt_of_le_of_lt (Nat.div_le_self _ _) hx
          have hown3 : wr.ownsRow W1.heap.size 3 1 u3 (9 * i + k) (ks .i64 (fixd 10 (9 * i + k) n)) := by rw [HS1.out]; exact hown2
          generalize hyy : x / 10 ^ k = y at *
          clear hyy hown2
          go_wp2_with (at_builtin; refine append_elem elemI64 hown3 hext2 (by unfold maxLen; omega) (by omega) rfl (by simp [Value.oneCell']) rfl _ _ rfl rfl rfl ?_; intro v' w1 own1 ext1 _)
          go_roundw
          case rel =>
            refine ⟨k + 1, by omega, by go_num, by rw [← HS.out]; rfl, ?_, ext1⟩
            rw [HS1.out] at own1
            rw [show 9 * i + (k + 1) = 9 * i + k + 1 by omega, fixd_succ, ks_append, ← HD.out]
            exact own1
          case measure => simp [intOf] <;> omega
        · have hk9' : k = 9 := by omega
          subst hk9'
          generalize x / 10 ^ 9 = y at *
          go_wp2_with fail
          go_roundw
          case rel => exact ⟨i + 1, by omega, by go_num, by rw [show 9 * (i + 1) = 9 * i + 9 by omega]; exact hown2, hext2⟩
          case measure => simp [intOf] <;> omega
    · obtain rfl : i = l.length := by omega
      obtain ⟨a1, c1, rfl, g1, g2, g3⟩ := own_form hown
      have hv : val 10 (fixd 10 (9 * l.length) n) = n := by rw [fixd_val, ← BB_pow]; exact Nat.mod_eq_of_lt HNB.out
      have HM := Lib.hid (rmake1_walk s a1 c1 (fixd 10 (9 * l.length) n) (9 * l.length) wr (fun d hd => fixd_lt ten_gt hd) (fixd_len _ _ _) g1 g2 g3)
      rw [hv, HSZ.out] at HM
      have hle : (dg 10 n).length ≤ 9 * l.length := by rw [dg_len_le ten_gt, ← BB_pow]; exact HNB.out
      have hR : Rd wr a1 (ks .i64 (dg 10 n)) := by
        have h6 := g3.take (stripN (fixd 10 (9 * l.length) n) (fixd 10 (9 * l.length) n).length)
        rw [ks_take] at h6
        have : strip (fixd 10 (9 * l.length) n) = dg 10 n := by rw [strip_dg ten_gt _ (fun d hd => fixd_lt ten_gt hd), hv]
        rw [show (fixd 10 (9 * l.length) n).take (stripN (fixd 10 (9 * l.length) n) (fixd 10 (9 * l.length) n).length) = dg 10 n from this] at h6
        exact h6
      have G := Lib.hid (And.intro hR (And.intro (Nat.le_trans hle g1) (And.intro g2 (own_from hown))))
      obtain ⟨lm, hlm⟩ : ∃ x, (dg 10 n).length = x := ⟨_, rfl⟩
      have HLM := Lib.hid hlm
      rw [hlm] at HM
      clear hv hle hR g1 g2 g3 hown hlm
      have Q1 := Lib.hid (q1.ext hext)
      go_wp2_with fail
      refine HM.out.mono ?_
      rintro e w3 ⟨rfl, t4⟩
      have q3 := Q1.out.ext t4
      have e0 := q3.cell (i := 0) rfl
      have e1 := q3.cell (i := 1) rfl
      have f0 := q3.frozen 0
      have f1 := q3.frozen 1
      have Q3 := Lib.hid q3
      clear q3 k0 k1
      go_wp2_with fail
      have r9 := (Q3.out.set 0 (.bool (decide (y < 0)))).set 1 (.slice a1 lm c1)
      have z0 := r9.cell (i := 0) rfl
      have z1 := r9.cell (i := 1) rfl
      have hgs := num_store (w := w) (z := y) (g := w.heap.size + 1) (c := c1) (a := a1) (by omega) (x1.trans hext) (w' := w3) (by rw [IsNum, HYN.out]; exact ⟨G.out.2.1, G.out.2.2.1, G.out.1.ext t4⟩) t4 (fun ad e => by have := G.out.2.2.2 _ e; omega) (.bool (decide (y < 0))) (.slice a1 lm c1)
      rw [HYN.out, HLM.out] at hgs
      exact bodyPost_ret (v := .agg #[.bool (decide (y < 0)), .slice a1 lm c1]) (by simp [results, Try.f48, go_sem, z0, z1]) rfl hgs
end Go.Proofs.Ytogodjiemgilaaa
