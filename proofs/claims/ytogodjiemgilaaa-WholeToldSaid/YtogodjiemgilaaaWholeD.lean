/- A row of digits so many times; how often one is in another; quotients. -/
import Derived.Test.YtogodjiemgilaaaWholeC
import Derived.Test.YtogodjiemgilaaaWholeM
import Derived.Test.YtogodjiemgilaaaCloneDg
namespace Go.Proofs.Ytogodjiemgilaaa
open Go.RowKit

set_option maxRecDepth 100000 in
set_option maxHeartbeats 400000 in
theorem times_walk (a : Option Addr) (ca n t : Nat) (w : World) (ht : t < 1000000000) (hla : (dg BB n).length ≤ 1000000) (ha : Rd w a (ks .u32 (dg BB n))) :
    Calls Try.prog 172 #[.slice a (dg BB n).length ca, .int .i64 t] w (Got w .u32 (dg BB (n * t))) := by
  rcases Nat.eq_zero_or_pos t with rfl | h0
  · generalize (dg BB n).length = na at *
    go_enter Try.func172, Try.ntmps172
    go_wp2
    go_ret
    exact ⟨none, 0, rfl, Nat.le_refl _, by simp [maxLen], Rd.nil _ _, Ext.refl _, From.none _⟩
  · have h1 : dg BB t = [t] := dg_one BB_gt h0 (by rw [BB_eq]; exact ht)
    have H := Lib.hid (fun (W : World) (b : Option Addr) (cb : Nat) (h2 : Rd W b (ks .u32 (dg BB t))) (h3 : Rd W a (ks .u32 (dg BB n))) => mul_walk a b ca cb n t W hla (by rw [h1]; simp) h3 h2)
    rw [h1] at H
    have h0' : ((t : Int) == 0) = false := by simp; omega
    generalize (dg BB n).length = na at *
    go_enter Try.func172, Try.ntmps172
    go_wp2_with fail
    refine (H.out _ _ _ ?_ (ha.alloc _)).mono ?_
    · exact (Row.new w 160 (ks .u32 [t])).rd
    · rintro e w1 ⟨a', c', rfl, f1, f2, f3, f4, f5⟩
      go_wp2
      go_ret
      exact ⟨a', c', rfl, f1, f2, f3, (Ext.new _ _).trans f4, f5.mono (by simp)⟩

set_option maxRecDepth 100000 in
set_option maxHeartbeats 800000 in
theorem fits_walk (a b : Option Addr) (ca cb n m : Nat) (w : World) (hla : (dg BB n).length ≤ 900000) (hlb : (dg BB m).length ≤ 900000) (ha : Rd w a (ks .u32 (dg BB n))) (hb : Rd w b (ks .u32 (dg BB m)))
    (hq : n < BB * m) :
    Calls Try.prog 171 #[.slice a (dg BB n).length ca, .slice b (dg BB m).length cb] w fun e w' => e = .returned (.int .i64 ((n / m : Nat) : Int)) ∧ Ext w w' := by
  have HT := Lib.hid (fun (W : World) (t : Nat) (ht : t < 1000000000) (hr : Rd W b (ks .u32 (dg BB m))) => times_walk b cb m t W ht (by omega) hr)
  have HC := Lib.hid (fun (W : World) (t : Nat) (d : Option Addr) (cd : Nat) (ht : t < 1000000000) (hr : Rd W d (ks .u32 (dg BB (m * t)))) (hr2 : Rd W a (ks .u32 (dg BB n))) =>
    cmp_walk d a cd ca (m * t) n W (by have := dg_len_mul BB_gt m t; have := dg_len_small BB_gt (show t < BB by rw [BB_eq]; exact ht); omega) (by omega) hr hr2)
  have HQ := Lib.hid hq
  clear hq hla hlb
  generalize (dg BB n).length = na at *
  generalize (dg BB m).length = nb at *
  go_enter Try.func171, Try.ntmps171
  go_wp2
  go_loopw [5, 6] (fun lv hv wr => ∃ lo hi : Nat, lv = .int .i64 lo ∧ hv = .int .i64 hi ∧ lo ≤ hi ∧ hi ≤ 999999999 ∧ Hid (lo * m ≤ n ∧ n < (hi + 1) * m) ∧ Ext w wr)
    (fun lv hv _ => (intOf hv - intOf lv).toNat)
  case atStart => exact ⟨0, 999999999, rfl, rfl, by omega, by omega, by have := HQ.out; unfold BB at this; exact ⟨by omega, by omega⟩, Ext.refl _⟩
  case round =>
    obtain ⟨lo, hi, rfl, rfl, hlh, hhi, HI, hext⟩ := hrel
    by_cases hlt : lo < hi
    · obtain ⟨mid, hmid⟩ : ∃ mid : Nat, mid = (lo + hi + 1) / 2 := ⟨_, rfl⟩
      have hm1 : lo < mid := by omega
      have hm2 : mid ≤ hi := by omega
      have em : ((lo : Int) + hi + 1) / 2 = (mid : Int) := by omega
      have EM := Lib.hid em
      clear em hmid
      go_wp2_with fail
      rw [EM.out]
      refine (HT.out _ mid (by omega) (hb.ext hext)).mono ?_
      rintro e w1 ⟨d, cd, rfl, _, _, hrd, hext1, _⟩
      go_wp2_with fail
      refine (HC.out _ mid d cd (by omega) hrd (ha.ext (hext.trans hext1))).mono ?_
      rintro e w2 ⟨rfl, hext2⟩
      have hext3 := hext.trans (hext1.trans hext2)
      by_cases hc : m * mid ≤ n
      · have hc' : decide (cmpN (m * mid) n ≤ 0) = true := by simp only [decide_eq_true_eq]; exact (cmpN_le _ _).2 hc
        have HCC := Lib.hid hc
        clear hc
        go_wp2
        go_roundw
        case rel => exact ⟨mid, hi, rfl, rfl, hm2, hhi, ⟨by rw [Nat.mul_comm]; exact HCC.out, HI.out.2⟩, hext3⟩
        case measure => simp [intOf]; omega
      · have hc' : decide (cmpN (m * mid) n ≤ 0) = false := by simp only [decide_eq_false_iff_not]; exact fun h => hc ((cmpN_le _ _).1 h)
        have HCC := Lib.hid hc
        clear hc
        go_wp2
        go_roundw
        case rel =>
          refine ⟨lo, mid - 1, rfl, by go_num, by omega, by omega, ⟨HI.out.1, ?_⟩, hext3⟩
          rw [Nat.sub_add_cancel (by omega), Nat.mul_comm]
          have := HCC.out; omega
        case measure => simp [intOf]; omega
    · obtain rfl : lo = hi := by omega
      have hqq := Lib.hid (quot_of HI.out.1 HI.out.2)
      go_wp2
      go_ret
      exact ⟨ret_int (by rw [← hqq.out]), hext⟩
end Go.Proofs.Ytogodjiemgilaaa
