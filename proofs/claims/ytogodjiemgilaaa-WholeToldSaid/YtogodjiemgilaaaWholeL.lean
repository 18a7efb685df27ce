/- Gcd of integers. -/
import Derived.Test.YtogodjiemgilaaaWholeK
namespace Go.Proofs.Ytogodjiemgilaaa
open Go.RowKit

set_option maxRecDepth 100000 in
set_option maxHeartbeats 4000000 in
theorem gcdz_walk (z1 z2 : Int) (a b : Option Addr) (ca cb : Nat) (w : World) (hb1 : (dg BB z1.natAbs).length ≤ 100000) (hb2 : (dg BB z2.natAbs).length ≤ 100000) (h1 : IsInt w z1 a ca) (h2 : IsInt w z2 b cb) :
    Calls Try.prog 59 #[.agg #[.bool (decide (z1 < 0)), .slice a (dg BB z1.natAbs).length ca], .agg #[.bool (decide (z2 < 0)), .slice b (dg BB z2.natAbs).length cb]] w (GotInt w ((Nat.gcd z1.natAbs z2.natAbs : Nat) : Int)) := by
  obtain ⟨b1, b2, r1⟩ := h1
  obtain ⟨b3, b4, r2⟩ := h2
  generalize z1.natAbs = n1 at *
  generalize z2.natAbs = n2 at *
  have HO := Lib.hid (fun (n : Nat) (hn : (dg BB n).length ≤ 100000) W a' c' (g1 : (dg BB n).length ≤ c') (g2 : c' ≤ maxLen) (hr : Rd W a' (ks .u32 (dg BB n))) => of_walk false n a' c' W g1 g2 (by omega) hr)
  generalize decide (z1 < 0) = s1 at *
  generalize decide (z2 < 0) = s2 at *
  have B1 := Lib.hid (And.intro b1 (And.intro b2 r1))
  have B2 := Lib.hid (And.intro b3 (And.intro b4 r2))
  have HB := Lib.hid (And.intro hb1 hb2)
  clear b1 b2 r1 b3 b4 r2 hb1 hb2
  obtain ⟨na, hna⟩ : ∃ x, x = (dg BB n1).length := ⟨_, rfl⟩
  obtain ⟨nb, hnb⟩ : ∃ x, x = (dg BB n2).length := ⟨_, rfl⟩
  have HNA := Lib.hid hna
  have HNB := Lib.hid hnb
  rw [← hna, ← hnb]
  clear hna hnb
  go_enter Try.func59, Try.ntmps59
  go_wp2_with fail
  obtain ⟨W0, hW0, q0, q1, q2, x0, hs0⟩ := two_boxes w (.bool s1) (.slice a na ca) (.bool s2) (.slice b nb cb)
  rw [hW0]
  have k0 := q0.cell (i := 0) rfl
  have k1 := q0.cell (i := 1) rfl
  have k2 := q1.cell (i := 0) rfl
  have k3 := q1.cell (i := 1) rfl
  have QQ := Lib.hid (And.intro q2 (And.intro x0 hs0))
  clear hW0 q0 q1 q2 x0 hs0
  go_quiet (fail)
  go_wp2_with fail
  have QX : Ext w (W0.drewN nq) := (QQ.out.2.1).drewN nq
  have QS : w.heap.size + 1 + 1 + 1 ≤ (W0.drewN nq).heap.size := by have := QQ.out.2.2; simp only [World.drewN]; omega
  have QR : Row (W0.drewN nq) (w.heap.size + 1 + 1) 69 [.bool false, .slice none 0 0] := QQ.out.1
  generalize W0.drewN nq = W1 at *
  clear k0 k1 k2 k3 QQ
  have Q := Lib.hid (And.intro QX (And.intro QS QR))
  clear QX QS QR
  go_loopg [5, 6] n2 (fun k A B wr => ∃ n m a' ca' b' cb', A = .slice a' (dg BB n).length ca' ∧ B = .slice b' (dg BB m).length cb' ∧ k = m ∧ (dg BB n).length ≤ 100000 ∧ (dg BB m).length ≤ 100000 ∧ (dg BB n).length ≤ ca' ∧ ca' ≤ maxLen ∧ (dg BB m).length ≤ cb' ∧ cb' ≤ maxLen ∧ Rd wr a' (ks .u32 (dg BB n)) ∧ Rd wr b' (ks .u32 (dg BB m)) ∧ Ext W1 wr ∧ Hid (Nat.gcd n m = Nat.gcd n1 n2))
  case atStart =>
    exact ⟨n1, n2, a, ca, b, cb, by rw [← HNA.out], by rw [← HNB.out], rfl, HB.out.1, HB.out.2, B1.out.1, B1.out.2.1, B2.out.1, B2.out.2.1, B1.out.2.2.ext Q.out.1, B2.out.2.2.ext Q.out.1, Ext.refl _, rfl⟩
  case round =>
    obtain ⟨n, m, a', ca', b', cb', rfl, rfl, hgm, l1, l2, d1, d2, d3, d4, R1, R2, X, HG⟩ := hrel
    have HGM := Lib.hid hgm
    clear hgm
    have hl0 := dg_len0 BB_gt m
    rcases Nat.eq_zero_or_pos m with h0 | h0
    · have hl := hl0.2 h0
      have HGN : Nat.gcd n1 n2 = n := by have := HG.out; rw [h0, Nat.gcd_zero_right] at this; exact this.symm
      have HO1 := Lib.hid (HO.out n l1 wr a' ca' d1 d2 R1)
      have hsz : sz false n = ((Nat.gcd n1 n2 : Nat) : Int) := by rw [HGN]; rfl
      rw [hsz] at HO1
      clear hl0 HG HGN hsz h0 l2 R2 d3 d4
      generalize ((Nat.gcd n1 n2 : Nat) : Int) = y at *
      generalize (dg BB n).length = ln at *
      generalize (dg BB m).length = lm at *
      subst hl
      have q2 := Q.out.2.2.ext X
      go_wp2_with fail
      refine HO1.out.mono ?_
      rintro e w3 ⟨a3, c3, rfl, t1, t2, t3, t4, t5⟩
      have q3 := q2.ext t4
      have k0 := q3.cell (i := 0) rfl
      have k1 := q3.cell (i := 1) rfl
      have f0 := q3.frozen 0
      have f1 := q3.frozen 1
      clear q2 q3
      go_wp2_with fail
      have r3 := (((Q.out.2.2.ext X).ext t4).set 0 (.bool (decide (y < 0)))).set 1 (.slice a3 (dg BB y.natAbs).length c3)
      have z0 := r3.cell (i := 0) rfl
      have z1 := r3.cell (i := 1) rfl
      refine bodyPost_ret (v := .agg #[.bool (decide (y < 0)), .slice a3 (dg BB y.natAbs).length c3]) ?_ rfl ?_
      · simp [results, Try.f59, go_sem, z0, z1]
      · have hz1 := X.size
        have hz2 := Q.out.2.1
        exact got_store (by omega) (by omega) (Q.out.1.trans X) t1 t2 t3 t4 t5 _ _
    · have hl : 0 < (dg BB m).length := by omega
      have HD := Lib.hid (divd_walk a' b' ca' cb' n m wr h0 l1 l2 R1 R2)
      have hln : (dg BB (n % m)).length ≤ (dg BB m).length := dg_len_mono BB_gt (Nat.le_of_lt (Nat.mod_lt _ h0))
      have HF := Lib.hid (And.intro l1 (And.intro l2 (And.intro d1 (And.intro d2 (And.intro d3 (And.intro d4 (And.intro R1 (And.intro R2 (And.intro X hln)))))))))
      clear hl0 l1 l2 d1 d2 d3 d4 R1 R2 X hln
      have H0 := Lib.hid h0
      clear h0
      obtain ⟨lm, hlm⟩ : ∃ x, x = (dg BB m).length := ⟨_, rfl⟩
      rw [← hlm] at hl HD ⊢
      have HLM := Lib.hid hlm
      clear hlm
      generalize (dg BB n).length = ln at HD ⊢
      go_wp2_with (go_at_call 118; refine HD.out.mono ?_; rintro e w3 ⟨a3, c3, b3, d3, rfl, t1, t2, t3, t4, t5, t6, g0⟩)
      go_roundg (n % m)
      case measure => rw [HGM.out]; exact Nat.mod_lt _ H0.out
      case rel =>
        obtain ⟨l1, l2, d1, d2, d3, d4, R1, R2, X, hln⟩ := HF.out
        refine ⟨m, n % m, _, _, _, _, by rw [HLM.out], rfl, rfl, l2, by omega, d3, d4, t3, t4, R2.ext g0, t6, X.trans g0, ?_⟩
        show _ = _
        rw [← HG.out, Nat.gcd_comm m, ← Nat.gcd_rec, Nat.gcd_comm]
end Go.Proofs.Ytogodjiemgilaaa
