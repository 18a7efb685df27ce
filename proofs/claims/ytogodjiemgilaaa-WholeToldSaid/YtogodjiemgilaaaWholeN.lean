/- The integer of an int64. -/
import Derived.Test.YtogodjiemgilaaaWholeL
namespace Go.Proofs.Ytogodjiemgilaaa
open Go.RowKit

theorem u64_neg (n : Int) (h1 : -9223372036854775808 ≤ n) (h2 : n < 0) : IntKind.u64.wrap (-IntKind.u64.wrap n) = ((n.natAbs : Nat) : Int) := by
  simp only [IntKind.wrap, IntKind.bits, IntKind.signed]
  simp
  omega

set_option maxRecDepth 100000 in
set_option maxHeartbeats 4000000 in
theorem ofi_walk (n : Int) (w : World) (h1 : -9223372036854775808 ≤ n) (h2 : n < 9223372036854775808) :
    Calls Try.prog 66 #[.int .i64 n] w (GotInt w n) := by
  obtain ⟨N, hNe⟩ : ∃ N, N = n.natAbs := ⟨_, rfl⟩
  have HN : Hid (N ≤ 9223372036854775808) := by show _ ≤ _; omega
  suffices hall : ∀ y, y = n → Calls Try.prog 66 #[.int .i64 n] w (GotInt w y) from hall n rfl
  intro y hy
  by_cases hn : n < 0
  · have HSZ : Hid (sz true N = y) := by show sz true N = y; unfold sz; rw [hNe, hy]; simp; omega
    have HW : Hid (IntKind.u64.wrap (-IntKind.u64.wrap n) = (N : Int)) := by rw [hNe]; exact u64_neg n h1 hn
    clear hNe hy
    go_enter Try.func66, Try.ntmps66
    go_wp2_with fail
    rw [HW.out]
    have Q := Lib.hid (And.intro (Ext.new w (.cells #[.bool false, .slice none 0 0] 69)) (Row.new w 69 [.bool false, .slice none 0 0]))
    obtain ⟨W0, hW0⟩ : ∃ W0, w.alloc (.cells #[.bool false, .slice none 0 0] 69) = W0 := ⟨_, rfl⟩
    rw [show w.alloc (.cells [Value.bool false, .slice none 0 0].toArray 69) = W0 from hW0] at Q
    rw [hW0]
    clear hW0
    go_loopw [3, 4] (fun sz x wr => ∃ i : Nat, i ≤ 3 ∧ sz = .int .u64 ((N / BB ^ i : Nat) : Int) ∧ wr.ownsRow W0.heap.size 160 1 x i (ks .u32 (fixd BB i N)) ∧ Ext W0 wr ∧ Hid (i = 0 ∨ BB ^ (i - 1) ≤ N)) (fun sz _ _ => (intOf sz).toNat)
    case atStart => exact ⟨0, by omega, by simp, World.ownsRow_nil _ _ _ _, Ext.refl _, .inl rfl⟩
    case round =>
      obtain ⟨i, hi, rfl, hown, hext, HP⟩ := hrel
      by_cases hz : N / BB ^ i = 0
      · rw [hz]
        have hlt : N < BB ^ i := Nat.lt_of_div_eq_zero (Nat.pow_pos (by decide)) hz
        have hfd : fixd BB i N = dg BB N := fixd_dg BB_gt hlt HP.out
        rw [hfd] at hown
        have hl : i = (dg BB N).length := by rw [← hfd, fixd_len]
        rw [hl] at hown
        obtain ⟨a1, c1, rfl, g1, g2, g3⟩ := own_form hown
        have q2 := Q.out.2.ext hext
        have HX := Lib.hid hext
        have HO := Lib.hid (of_walk true N a1 c1 wr g1 g2 (by omega) g3)
        rw [HSZ.out] at HO
        have hs1 := hext.size
        clear hz hlt hfd hl hi HP g1 g2 g3 hown hext
        go_wp2_with fail
        refine HO.out.mono ?_
        rintro e w3 ⟨a3, c3, rfl, t1, t2, t3, t4, t5⟩
        have q3 := q2.ext t4
        have k0 := q3.cell (i := 0) rfl
        have k1 := q3.cell (i := 1) rfl
        have f0 := q3.frozen 0
        have f1 := q3.frozen 1
        have Q3 := Lib.hid q3
        clear q2 q3
        go_wp2_with fail
        have r3 := (Q3.out.set 0 (.bool (decide (y < 0)))).set 1 (.slice a3 (dg BB y.natAbs).length c3)
        have z0 := r3.cell (i := 0) rfl
        have z1 := r3.cell (i := 1) rfl
        refine bodyPost_ret (v := .agg #[.bool (decide (y < 0)), .slice a3 (dg BB y.natAbs).length c3]) ?_ rfl ?_
        · simp [results, Try.f66, go_sem, z0, z1]
        · exact got_store (Nat.le_refl _) (by have := Q.out.1.size; have := Q.out.2.lt; omega) (Q.out.1.trans HX.out) t1 t2 t3 t4 t5 _ _
      · have hN9 : N / BB ^ i ≤ 9223372036854775808 := Nat.le_trans (Nat.div_le_self _ _) HN.out
        have hi2 : i ≤ 2 := by
          by_cases h3 : i = 3
          · subst h3
            exact absurd (Nat.div_eq_of_lt (Nat.lt_of_le_of_lt HN.out (by decide))) hz
          · omega
        have hpos : 0 < N / BB ^ i := Nat.pos_of_ne_zero hz
        have hle : BB ^ i ≤ N := by
          by_cases hc : BB ^ i ≤ N
          · exact hc
          · exact absurd (Nat.div_eq_of_lt (by omega)) hz
        have HS : Hid (N / BB ^ i / BB = N / BB ^ (i + 1)) := by show _ = _; rw [Nat.div_div_eq_div_mul, Nat.pow_succ]
        have HF : Hid (fixd BB (i + 1) N = fixd BB i N ++ [N / BB ^ i % BB]) := fixd_succ _ _ _
        have HLE := Lib.hid hle
        clear hle hz
        generalize N / BB ^ i = x at *
        go_wp2_with (at_builtin; refine append_elem elemU32 hown hext (by unfold maxLen; omega) (by omega) rfl (by simp [Value.oneCell']) rfl _ _ rfl rfl rfl ?_; intro v' w1 own1 ext1 _)
        go_roundw
        case rel =>
          refine ⟨i + 1, by omega, ?_, ?_, ext1, .inr ?_⟩
          · have := HS.out
            rw [← this]; rfl
          · rw [HF.out, ks_append]; exact own1
          · simpa using HLE.out
        case measure => simp [intOf]; omega
  · have HSZ : Hid (sz false N = y) := by show sz false N = y; unfold sz; rw [hNe, hy]; simp; omega
    have HW : Hid (n = (N : Int)) := by show n = _; rw [hNe]; omega
    clear hNe hy
    go_enter Try.func66, Try.ntmps66
    go_wp2_with fail
    rw [HW.out]
    have Q := Lib.hid (And.intro (Ext.new w (.cells #[.bool false, .slice none 0 0] 69)) (Row.new w 69 [.bool false, .slice none 0 0]))
    obtain ⟨W0, hW0⟩ : ∃ W0, w.alloc (.cells #[.bool false, .slice none 0 0] 69) = W0 := ⟨_, rfl⟩
    rw [show w.alloc (.cells [Value.bool false, .slice none 0 0].toArray 69) = W0 from hW0] at Q
    rw [hW0]
    clear hW0
    go_loopw [3, 4] (fun sz x wr => ∃ i : Nat, i ≤ 3 ∧ sz = .int .u64 ((N / BB ^ i : Nat) : Int) ∧ wr.ownsRow W0.heap.size 160 1 x i (ks .u32 (fixd BB i N)) ∧ Ext W0 wr ∧ Hid (i = 0 ∨ BB ^ (i - 1) ≤ N)) (fun sz _ _ => (intOf sz).toNat)
    case atStart => exact ⟨0, by omega, by simp, World.ownsRow_nil _ _ _ _, Ext.refl _, .inl rfl⟩
    case round =>
      obtain ⟨i, hi, rfl, hown, hext, HP⟩ := hrel
      by_cases hz : N / BB ^ i = 0
      · rw [hz]
        have hlt : N < BB ^ i := Nat.lt_of_div_eq_zero (Nat.pow_pos (by decide)) hz
        have hfd : fixd BB i N = dg BB N := fixd_dg BB_gt hlt HP.out
        rw [hfd] at hown
        have hl : i = (dg BB N).length := by rw [← hfd, fixd_len]
        rw [hl] at hown
        obtain ⟨a1, c1, rfl, g1, g2, g3⟩ := own_form hown
        have q2 := Q.out.2.ext hext
        have HX := Lib.hid hext
        have HO := Lib.hid (of_walk false N a1 c1 wr g1 g2 (by omega) g3)
        rw [HSZ.out] at HO
        have hs1 := hext.size
        clear hz hlt hfd hl hi HP g1 g2 g3 hown hext
        go_wp2_with fail
        refine HO.out.mono ?_
        rintro e w3 ⟨a3, c3, rfl, t1, t2, t3, t4, t5⟩
        have q3 := q2.ext t4
        have k0 := q3.cell (i := 0) rfl
        have k1 := q3.cell (i := 1) rfl
        have f0 := q3.frozen 0
        have f1 := q3.frozen 1
        have Q3 := Lib.hid q3
        clear q2 q3
        go_wp2_with fail
        have r3 := (Q3.out.set 0 (.bool (decide (y < 0)))).set 1 (.slice a3 (dg BB y.natAbs).length c3)
        have z0 := r3.cell (i := 0) rfl
        have z1 := r3.cell (i := 1) rfl
        refine bodyPost_ret (v := .agg #[.bool (decide (y < 0)), .slice a3 (dg BB y.natAbs).length c3]) ?_ rfl ?_
        · simp [results, Try.f66, go_sem, z0, z1]
        · exact got_store (Nat.le_refl _) (by have := Q.out.1.size; have := Q.out.2.lt; omega) (Q.out.1.trans HX.out) t1 t2 t3 t4 t5 _ _
      · have hN9 : N / BB ^ i ≤ 9223372036854775808 := Nat.le_trans (Nat.div_le_self _ _) HN.out
        have hi2 : i ≤ 2 := by
          by_cases h3 : i = 3
          · subst h3
            exact absurd (Nat.div_eq_of_lt (Nat.lt_of_le_of_lt HN.out (by decide))) hz
          · omega
        have hpos : 0 < N / BB ^ i := Nat.pos_of_ne_zero hz
        have hle : BB ^ i ≤ N := by
          by_cases hc : BB ^ i ≤ N
          · exact hc
          · exact absurd (Nat.div_eq_of_lt (by omega)) hz
        have HS : Hid (N / BB ^ i / BB = N / BB ^ (i + 1)) := by show _ = _; rw [Nat.div_div_eq_div_mul, Nat.pow_succ]
        have HF : Hid (fixd BB (i + 1) N = fixd BB i N ++ [N / BB ^ i % BB]) := fixd_succ _ _ _
        have HLE := Lib.hid hle
        clear hle hz
        generalize N / BB ^ i = x at *
        go_wp2_with (at_builtin; refine append_elem elemU32 hown hext (by unfold maxLen; omega) (by omega) rfl (by simp [Value.oneCell']) rfl _ _ rfl rfl rfl ?_; intro v' w1 own1 ext1 _)
        go_roundw
        case rel =>
          refine ⟨i + 1, by omega, ?_, ?_, ext1, .inr ?_⟩
          · have := HS.out
            rw [← this]; rfl
          · rw [HF.out, ks_append]; exact own1
          · simpa using HLE.out
        case measure => simp [intOf]; omega
end Go.Proofs.Ytogodjiemgilaaa
