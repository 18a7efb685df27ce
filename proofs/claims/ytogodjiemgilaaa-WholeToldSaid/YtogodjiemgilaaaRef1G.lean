/- The reference's Mul. -/
import Derived.Test.YtogodjiemgilaaaRef1F
namespace Go.Proofs.Ytogodjiemgilaaa
open Go.RowKit

theorem mul_inside_ge {B : Nat} (hB : 1 < B) (n m k j c na : Nat) (out : List Nat) (hk : k < na) (hna : na = (dg B n).length) (hl : na + (dg B m).length ≤ out.length)
    (h : val B out + c * B ^ (k + j) = (n % B ^ k) * m + B ^ k * (n / B ^ k % B * (m % B ^ j))) (hc : j < (dg B m).length ∨ 0 < c) : k + j < out.length := by
  rcases hc with hc | hc
  · omega
  · have h1 : B ^ (k + j) ≤ c * B ^ (k + j) := Nat.le_mul_of_pos_left _ hc
    have h2 : (n % B ^ k) * m + B ^ k * (n / B ^ k % B * (m % B ^ j)) ≤ (n % B ^ (k + 1)) * m := by
      rw [mod_pow_succ', Nat.add_mul]
      apply Nat.add_le_add_left
      rw [← Nat.mul_assoc]
      exact Nat.mul_le_mul_left _ (Nat.mod_le _ _)
    have hp : 0 < B ^ (k + 1) := Nat.pow_pos (by omega)
    have h3 : (n % B ^ (k + 1)) * m < B ^ (k + 1) * B ^ (dg B m).length := by
      have := Nat.mod_lt n hp
      exact Nat.mul_lt_mul'' this (lt_pow_len hB m)
    rw [← Nat.pow_add] at h3
    have h4 : B ^ (k + j) < B ^ (k + 1 + (dg B m).length) := by omega
    have := (Nat.pow_lt_pow_iff_right hB).1 h4
    omega

/-- what the product's row holds -/
def RMul (W1 : World) (g L v : Nat) (wr : World) (out : List Nat) : Prop :=
  Row wr g 3 (ks .i64 out) ∧ out.length = L ∧ (∀ d ∈ out, d < 10) ∧ val 10 out = v ∧ Ext W1 wr

set_option maxRecDepth 100000 in
set_option maxHeartbeats 4000000 in
theorem rmul_walk (z1 z2 : Int) (a b : Option Addr) (ca cb : Nat) (w : World) (hb1 : (dg 10 z1.natAbs).length ≤ 100000) (hb2 : (dg 10 z2.natAbs).length ≤ 100000) (h1 : IsNum w z1 a ca) (h2 : IsNum w z2 b cb) :
    Calls Try.prog 56 #[.agg #[.bool (decide (z1 < 0)), .slice a (dg 10 z1.natAbs).length ca], .agg #[.bool (decide (z2 < 0)), .slice b (dg 10 z2.natAbs).length cb]] w (GotNum (z1 * z2) w) := by
  have ha := h1.2.2
  have hb := h2.2.2
  have hms := mul_sign z1 z2
  have hmn : (z1 * z2).natAbs = z1.natAbs * z2.natAbs := Int.natAbs_mul _ _
  have HLM := dg_len_mul ten_gt z1.natAbs z2.natAbs
  obtain ⟨y0, hy0⟩ : ∃ y, z1 * z2 = y := ⟨_, rfl⟩
  rw [hy0] at hms hmn ⊢
  clear h1 h2 hy0
  generalize z1.natAbs = n at *
  generalize z2.natAbs = m at *
  generalize decide (z1 < 0) = s1 at *
  generalize decide (z2 < 0) = s2 at *
  have LB : ∀ i, (dg 10 m).length ≤ i → m < 10 ^ i := fun i h => (dg_len_le ten_gt i m).1 h
  have HNN := lt_pow_len ten_gt n
  have HIN : ∀ (k j c : Nat) (out : List Nat), k < (dg 10 n).length → out.length = (dg 10 n).length + (dg 10 m).length + 1 → val 10 out + c * 10 ^ (k + j) = (n % 10 ^ k) * m + 10 ^ k * (n / 10 ^ k % 10 * (m % 10 ^ j)) → (j < (dg 10 m).length ∨ 0 < c) → k + j < out.length :=
    fun k j c out hk hl h hc => mul_inside_ge ten_gt n m k j c _ out hk rfl (by omega) h hc
  generalize hna : (dg 10 n).length = na at *
  generalize hnb : (dg 10 m).length = nb at *
  have HNA := Lib.hid hna
  have HNB := Lib.hid hnb
  have HLB := Lib.hid LB
  have HN := Lib.hid HNN
  have HI := Lib.hid HIN
  have HA := Lib.hid ha
  have HB := Lib.hid hb
  have HMS := Lib.hid hms
  have HMN := Lib.hid hmn
  have HLL := Lib.hid HLM
  clear hna hnb LB HNN HIN ha hb hms hmn HLM
  go_enter Try.func56, Try.ntmps56
  obtain ⟨W1, hW1, q0, q1, q2, x1, hs1⟩ := two_nums w (.bool s1) (.slice a na ca) (.bool s2) (.slice b nb cb)
  have Q := Lib.hid (And.intro q0 (And.intro q1 (And.intro q2 (And.intro x1 (And.intro hs1 hW1)))))
  clear q0 q1 q2 x1 hs1 hW1
  go_wp2_with (at_make; rw [Q.out.2.2.2.2.2]; refine make_one elemI64 rfl rfl _ _ rfl rfl rfl (n := na + nb + 1) (by omega) (by omega) (by omega) (by unfold maxLen; omega) ?_; intro w0 hrow0 hext0)
  rw [ks_replicate] at hrow0
  go_loopw [6] (fun i wr => ∃ k : Nat, k ≤ na ∧ i = .int .i64 k ∧ ∃ out, RMul W1 W1.heap.size (na + nb + 1) ((n % 10 ^ k) * m) wr out)
    (fun i _ => na - (intOf i).toNat)
  case atStart =>
    refine ⟨0, by omega, rfl, List.replicate (na + nb + 1) 0, hrow0, by simp, ?_, ?_, hext0⟩
    · intro d hd; rw [(List.mem_replicate.1 hd).2]; decide
    · rw [val_replicate]; simp [Nat.mod_one]
  case round =>
    obtain ⟨k, hk, rfl, out, hrow, hlen, hlt, hval, hext⟩ := hrel
    clear hrow0 hext0
    obtain ⟨wo, rfl⟩ : ∃ wo : World, wo = wr := ⟨_, rfl⟩
    have k0 := (Q.out.1.ext hext).cell (i := 0) rfl
    have k1 := (Q.out.1.ext hext).cell (i := 1) rfl
    have k2 := (Q.out.2.1.ext hext).cell (i := 0) rfl
    have k3 := (Q.out.2.1.ext hext).cell (i := 1) rfl
    by_cases h1 : k < na
    · obtain ⟨ba, oa, rfl, hca⟩ := (HA.out.ext (Q.out.2.2.2.1.trans hext)).num (i := k) (by rw [HNA.out]; exact h1)
      rw [fdig10] at hca
      have hca1 := (HA.out).num (i := k) (by rw [HNA.out]; exact h1)
      obtain ⟨ba', oa', hbe, hca1⟩ := hca1
      simp only [Option.some.injEq, Addr.mk.injEq] at hbe
      obtain ⟨rfl, rfl, -⟩ := hbe
      rw [fdig10] at hca1
      have d1 : n / 10 ^ k % 10 < 10 := Nat.mod_lt _ (by decide)
      generalize hx : n / 10 ^ k % 10 = x at *
      have HV := Lib.hid hval
      have HL := Lib.hid hlen
      have HCA := Lib.hid hca1
      clear hval hlen hca hca1
      have HX := Lib.hid hx
      clear hx
      go_wp2_with fail
      clear k0 k1 k2 k3
      go_loopw [7, 8] (fun cv jv wr => ∃ c j : Nat, ∃ o2 : List Nat, cv = .int .i64 c ∧ jv = .int .i64 j ∧ c < 10 ∧ j ≤ na + nb + 1 ∧ Row wr W1.heap.size 3 (ks .i64 o2) ∧ Hid (o2.length = na + nb + 1) ∧ (∀ d ∈ o2, d < 10) ∧ Hid (val 10 o2 + c * 10 ^ (k + j) = (n % 10 ^ k) * m + 10 ^ k * (x * (m % 10 ^ j))) ∧ Ext W1 wr)
        (fun _ jv _ => na + nb + 2 - (intOf jv).toNat)
      case atStart => exact ⟨0, 0, out, rfl, rfl, by omega, by omega, hrow, HL.out, hlt, by show _ = _; rw [HV.out]; simp [Nat.mod_one], hext⟩
      case round =>
        obtain ⟨c, j, o2, rfl, rfl, hc, hj, hrow2, HL2, hlt2, HV2, hext2⟩ := hrel
        have hcx := (Q.out.2.2.2.1.trans hext2).cell HCA.out
        have k0 := (Q.out.1.ext hext2).cell (i := 0) rfl
        have k1 := (Q.out.1.ext hext2).cell (i := 1) rfl
        have k2 := (Q.out.2.1.ext hext2).cell (i := 0) rfl
        have k3 := (Q.out.2.1.ext hext2).cell (i := 1) rfl
        clear hrow hlt
        by_cases hmore : j < nb ∨ 0 < c
        · have hin : k + j < o2.length := HI.out k j c o2 h1 HL2.out (by rw [HX.out]; exact HV2.out) hmore
          have hlo : o2[k + j] < 10 := hlt2 _ (List.getElem_mem hin)
          have hcell : wr.cell? ⟨W1.heap.size, k + j, none⟩ = some (.int .i64 ((o2[k + j] : Nat) : Int)) := hrow2.cell (ks_get hin)
          have hfz : wr.frozen? ⟨W1.heap.size, k + j, none⟩ = false := hrow2.frozen _
          have hyl : m / 10 ^ j % 10 < 10 := Nat.mod_lt _ (by decide)
          have HMR := Lib.hid (mul_round (B := 10) n m x k j c o2 hin HV2.out)
          have HMC := mul_carry (B := 10) c o2[k + j] x (m / 10 ^ j % 10) hc hlo d1 hyl
          have HY0 : Hid (¬ j < nb → m / 10 ^ j % 10 = 0) := fun h => digit_0 (HLB.out j (by omega))
          have hyc : j < nb → ∃ bb ob, b = some ⟨bb, ob, none⟩ ∧ wr.cell? ⟨bb, ob + j, none⟩ = some (.int .i64 ((m / 10 ^ j % 10 : Nat) : Int)) := fun h => by
            obtain ⟨ba, oa, e, hca⟩ := (HB.out.ext (Q.out.2.2.2.1.trans hext2)).num (i := j) (by rw [HNB.out]; exact h)
            rw [fdig10] at hca
            exact ⟨ba, oa, e, hca⟩
          have hkj : k + j < na + nb + 1 := by rw [← HL2.out]; exact hin
          generalize m / 10 ^ j % 10 = y at *
          generalize hoo : o2[k + j] = oo at *
          clear hoo
          have close : ∀ (W : World) (t : Nat), t = c + oo + x * y → Row W W1.heap.size 3 (ks .i64 (o2.set (k + j) (t % 10))) → Ext W1 W → ∃ c' j' : Nat, ∃ o3 : List Nat, Value.int .i64 ((t / 10 : Nat) : Int) = .int .i64 c' ∧ Value.int .i64 ((j : Int) + 1) = .int .i64 j' ∧ c' < 10 ∧ j' ≤ na + nb + 1 ∧ Row W W1.heap.size 3 (ks .i64 o3) ∧ Hid (o3.length = na + nb + 1) ∧ (∀ d ∈ o3, d < 10) ∧ Hid (val 10 o3 + c' * 10 ^ (k + j') = (n % 10 ^ k) * m + 10 ^ k * (x * (m % 10 ^ j'))) ∧ Ext W1 W := by
            intro W t ht hW1 hW2
            subst ht
            refine ⟨_, j + 1, o2.set (k + j) ((c + oo + x * y) % 10), rfl, by go_num, HMC.1, by omega, hW1, ?_, ?_, HMR.out, hW2⟩
            · show _ = _; rw [List.length_set]; exact HL2.out
            · exact set_lt hlt2 _ _ (Nat.mod_lt _ (by decide))
          have HCL := Lib.hid close
          have hxy : x * y ≤ 81 := by have h3 := HMC.2; omega
          have hxyi : ((x : Int) * y) = ((x * y : Nat) : Int) := by rw [Int.natCast_mul]
          have R2 := Lib.hid hrow2
          have X2 := Lib.hid hext2
          clear close HMR HMC hlt2 hrow2 hext2
          by_cases h2 : j < nb
          · obtain ⟨bb, ob, rfl, hcb⟩ := hyc h2
            clear hyc hmore hin
            have hw1 : IntKind.i64.wrap ((x : Int) * y) = ((x * y : Nat) : Int) := by rw [hxyi]; simp only [IntKind.wrap, IntKind.bits, IntKind.signed]; simp; omega
            generalize hpp : x * y = pp at *
            have hw2 : IntKind.i64.wrap ((c : Int) + oo + pp) = (c : Int) + oo + pp := by simp only [IntKind.wrap, IntKind.bits, IntKind.signed]; simp; omega
            clear hxyi
            have HPP := Lib.hid hpp
            clear hpp
            go_wp2_with fail
            go_quiet (fail)
            clear hw1 hw2
            go_wp2_with fail
            go_roundw
            case rel =>
              have := HCL.out ((wr.drewN nq).setCell ⟨W1.heap.size, k + j, none⟩ (.int .i64 (((c + oo + pp) % 10 : Nat) : Int))) (c + oo + pp) rfl (by rw [← ks_set]; exact (R2.out.set _ _)) ((X2.out.drewN nq).set (p := ⟨W1.heap.size, k + j, none⟩) (Nat.le_refl _) _)
              rw [Int.natCast_ediv, Int.natCast_emod, Int.natCast_add, Int.natCast_add] at this
              exact this
            case measure => simp [intOf] <;> omega
          · have hy0 := HY0.out h2
            subst hy0
            have hc1 : 0 < c := by omega
            clear hyc hmore hin hxyi
            go_wp2_with fail
            go_roundw
            case rel => exact HCL.out (wr.setCell ⟨W1.heap.size, k + j, none⟩ (.int .i64 (((c + oo) % 10 : Nat) : Int))) (c + oo) (by omega) (by rw [← ks_set]; exact (R2.out.set _ _)) (X2.out.set (p := ⟨W1.heap.size, k + j, none⟩) (Nat.le_refl _) _)
            case measure => simp [intOf] <;> omega
        · have h2 : ¬ j < nb := by omega
          have h3 : ¬ 0 < c := by omega
          obtain rfl : c = 0 := by omega
          have HROW := Lib.hid (mul_row (B := 10) n m k j o2 (HLB.out j (by omega)) (by rw [HX.out]; exact HV2.out))
          clear hmore
          go_wp2_with fail
          go_roundw
          case rel => exact ⟨k + 1, h1, by go_num, o2, hrow2, HL2.out, hlt2, HROW.out, hext2⟩
          case measure => simp [intOf] <;> omega
    · obtain rfl : k = na := by omega
      have hv : val 10 out = n * m := by rw [hval, Nat.mod_eq_of_lt HN.out]
      have HM := Lib.hid (rmake1_walk (s1 != s2) (some ⟨W1.heap.size, 0, none⟩) (k + nb + 1) out (k + nb + 1) wo hlt hlen (Nat.le_refl _) (by unfold maxLen; omega) hrow.rd)
      rw [hv, HMS.out] at HM
      have hR : Rd wo (some ⟨W1.heap.size, 0, none⟩) (ks .i64 (dg 10 (n * m))) := by
        have h6 := hrow.rd.take (stripN out out.length)
        rw [ks_take] at h6
        have : strip out = dg 10 (n * m) := by rw [strip_dg ten_gt _ hlt, hv]
        rw [show out.take (stripN out out.length) = dg 10 (n * m) from this] at h6
        exact h6
      have hq2 := Q.out.2.2.1.ext hext
      have G := Lib.hid (And.intro hR (And.intro hq2 hext))
      obtain ⟨lm, hlm⟩ : ∃ x, (dg 10 (n * m)).length = x := ⟨_, rfl⟩
      have HLM := Lib.hid hlm
      have hle := HLL.out
      rw [hlm] at HM hle
      clear hv hR hrow hlen hlt hval hext hq2 hlm
      go_wp2_with fail
      refine HM.out.mono ?_
      rintro e w3 ⟨rfl, t4⟩
      have q3 := G.out.2.1.ext t4
      have e0 := q3.cell (i := 0) rfl
      have e1 := q3.cell (i := 1) rfl
      have f0 := q3.frozen 0
      have f1 := q3.frozen 1
      have Q3 := Lib.hid q3
      clear q3 k0 k1 k2 k3
      go_wp2_with fail
      have r9 := (Q3.out.set 0 (.bool (decide (y0 < 0)))).set 1 (.slice (some ⟨W1.heap.size, 0, none⟩) lm (k + nb + 1))
      have z0 := r9.cell (i := 0) rfl
      have z1 := r9.cell (i := 1) rfl
      have hgs := num_store (w := w) (z := y0) (g := w.heap.size + 1 + 1) (c := k + nb + 1) (a := some ⟨W1.heap.size, 0, none⟩) (by omega) (Q.out.2.2.2.1.trans G.out.2.2) (w' := w3) (by rw [IsNum, HMN.out]; exact ⟨by rw [HLM.out]; omega, by unfold maxLen; omega, G.out.1.ext t4⟩) t4 (fun ad e => by cases e; have := Q.out.2.2.2.2.1; show W1.heap.size ≠ _; omega) (.bool (decide (y0 < 0))) (.slice (some ⟨W1.heap.size, 0, none⟩) lm (k + nb + 1))
      rw [HMN.out, HLM.out] at hgs
      exact bodyPost_ret (v := .agg #[.bool (decide (y0 < 0)), .slice (some ⟨W1.heap.size, 0, none⟩) lm (k + nb + 1)]) (by simp [results, Try.f56, go_sem, z0, z1]) rfl hgs
end Go.Proofs.Ytogodjiemgilaaa
