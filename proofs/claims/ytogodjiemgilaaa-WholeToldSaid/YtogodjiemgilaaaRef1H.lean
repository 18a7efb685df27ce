/- The reference's Int. -/
import Derived.Test.YtogodjiemgilaaaRef1G
namespace Go.Proofs.Ytogodjiemgilaaa
open Go.RowKit

set_option maxRecDepth 100000 in
set_option maxHeartbeats 4000000 in
theorem rint_walk (n : Int) (w : World) (h1 : -4611686018427387904 ≤ n) (h2 : n ≤ 4611686018427387904) :
    Calls Try.prog 71 #[.int .i64 n] w (GotNum n w) := by
  suffices hall : ∀ y, y = n → Calls Try.prog 71 #[.int .i64 n] w (GotNum y w) from hall n rfl
  intro y hy
  obtain ⟨N, hNe⟩ : ∃ N, N = n.natAbs := ⟨_, rfl⟩
  have HN : Hid (N ≤ 4611686018427387904) := by show _ ≤ _; omega
  have HNY : Hid (y.natAbs = N) := by show _ = _; rw [hy, hNe]
  by_cases hn : n < 0
  · have HSZ : Hid (sz true N = y) := by show sz true N = y; unfold sz; rw [hNe, hy]; simp; omega
    have HW : Hid (-n = (N : Int)) := by show _ = _; rw [hNe]; omega
    clear hNe hy
    go_enter Try.func71, Try.ntmps71
    go_wp2_with fail
    rw [HW.out]
    obtain ⟨W1, hW1⟩ : ∃ W1, w.alloc (.cells #[.bool false, .slice none 0 0] 72) = W1 := ⟨_, rfl⟩
    have q0 : Row W1 w.heap.size 72 [.bool false, .slice none 0 0] := by rw [← hW1]; exact Row.new w _ [_, _]
    have x1 : Ext w W1 := by rw [← hW1]; exact Ext.new _ _
    have hs1 : W1.heap.size = w.heap.size + 1 := by rw [← hW1]; simp
    rw [hW1]
    have own0 := own_emptyE W1 3
    rw [← hs1]
    have HS1 := Lib.hid hs1
    clear hW1 hs1
    go_loopw [0, 4] (fun nv o wr => ∃ i : Nat, i ≤ 20 ∧ nv = .int .i64 ((N / 10 ^ i : Nat) : Int) ∧ wr.ownsRow W1.heap.size 3 1 o i (ks .i64 (fixd 10 i N)) ∧ Ext W1 wr ∧ Hid (i = 0 ∨ 10 ^ (i - 1) ≤ N)) (fun nv _ _ => (intOf nv).toNat)
    case atStart => exact ⟨0, by omega, by simp, own0, Ext.new _ _, .inl rfl⟩
    case round =>
      obtain ⟨i, hi, rfl, hown, hext, HP⟩ := hrel
      by_cases hz : N / 10 ^ i = 0
      · rw [hz]
        have hlt : N < 10 ^ i := Nat.lt_of_div_eq_zero (Nat.pow_pos (by decide)) hz
        have hfd : fixd 10 i N = dg 10 N := fixd_dg ten_gt hlt HP.out
        rw [hfd] at hown
        have hl : i = (dg 10 N).length := by rw [← hfd, fixd_len]
        rw [hl] at hown
        obtain ⟨a1, c1, rfl, g1, g2, g3⟩ := own_form hown
        have gf := own_from hown
        have HO := Lib.hid (rmk_walk true N a1 c1 wr g1 g2 g3)
        rw [HSZ.out] at HO
        have G := Lib.hid (And.intro g1 (And.intro g2 (And.intro g3 (And.intro gf (And.intro (q0.ext hext) hext)))))
        obtain ⟨lm, hlm⟩ : ∃ x, (dg 10 N).length = x := ⟨_, rfl⟩
        have HLM := Lib.hid hlm
        rw [hlm] at HO ⊢
        clear hz hlt hfd hl hi HP g1 g2 g3 gf hown hext own0 hlm
        go_wp2_with fail
        refine HO.out.mono ?_
        rintro e w3 ⟨rfl, t4⟩
        have q3 := G.out.2.2.2.2.1.ext t4
        have k0 := q3.cell (i := 0) rfl
        have k1 := q3.cell (i := 1) rfl
        have f0 := q3.frozen 0
        have f1 := q3.frozen 1
        have Q3 := Lib.hid q3
        clear q3
        go_wp2_with fail
        have r3 := (Q3.out.set 0 (.bool (decide (y < 0)))).set 1 (.slice a1 lm c1)
        have z0 := r3.cell (i := 0) rfl
        have z1 := r3.cell (i := 1) rfl
        have hgs := num_store (w := w) (z := y) (g := w.heap.size) (c := c1) (a := a1) (Nat.le_refl _) (x1.trans G.out.2.2.2.2.2) (w' := w3) (by rw [IsNum, HNY.out]; exact ⟨G.out.1, G.out.2.1, G.out.2.2.1.ext t4⟩) t4 (fun ad e => by have := G.out.2.2.2.1 _ e; have := HS1.out; omega) (.bool (decide (y < 0))) (.slice a1 lm c1)
        rw [HNY.out, HLM.out] at hgs
        exact bodyPost_ret (v := .agg #[.bool (decide (y < 0)), .slice a1 lm c1]) (by simp [results, Try.f71, go_sem, z0, z1]) rfl hgs
      · have hN9 : N / 10 ^ i ≤ 4611686018427387904 := Nat.le_trans (Nat.div_le_self _ _) HN.out
        have hle : 10 ^ i ≤ N := by
          by_cases hc : 10 ^ i ≤ N
          · exact hc
          · exact absurd (Nat.div_eq_of_lt (by omega)) hz
        have hi2 : i < 20 := by
          by_cases h3 : i = 20
          · subst h3
            have := HN.out
            exact absurd hle (by omega)
          · omega
        have hpos : 0 < N / 10 ^ i := Nat.pos_of_ne_zero hz
        have HS : Hid (N / 10 ^ i / 10 = N / 10 ^ (i + 1)) := by show _ = _; rw [Nat.div_div_eq_div_mul, Nat.pow_succ]
        have HF : Hid (fixd 10 (i + 1) N = fixd 10 i N ++ [N / 10 ^ i % 10]) := fixd_succ _ _ _
        have HLE := Lib.hid hle
        clear hle hz
        generalize N / 10 ^ i = x at *
        go_wp2_with (at_builtin; refine append_elem elemI64 hown hext (by unfold maxLen; omega) (by omega) rfl (by simp [Value.oneCell']) rfl _ _ rfl rfl rfl ?_; intro v' w1 own1 ext1 _)
        go_roundw
        case rel =>
          refine ⟨i + 1, by omega, ?_, ?_, ext1, .inr ?_⟩
          · have := HS.out
            rw [← this]; rfl
          · rw [HF.out, ks_append]; exact own1
          · simpa using HLE.out
        case measure => simp [intOf] <;> omega
  · have HSZ : Hid (sz false N = y) := by show sz false N = y; unfold sz; rw [hNe, hy]; simp; omega
    have HW : Hid (n = (N : Int)) := by show n = _; rw [hNe]; omega
    clear hNe hy
    go_enter Try.func71, Try.ntmps71
    go_wp2_with fail
    rw [HW.out]
    obtain ⟨W1, hW1⟩ : ∃ W1, w.alloc (.cells #[.bool false, .slice none 0 0] 72) = W1 := ⟨_, rfl⟩
    have q0 : Row W1 w.heap.size 72 [.bool false, .slice none 0 0] := by rw [← hW1]; exact Row.new w _ [_, _]
    have x1 : Ext w W1 := by rw [← hW1]; exact Ext.new _ _
    have hs1 : W1.heap.size = w.heap.size + 1 := by rw [← hW1]; simp
    rw [hW1]
    have own0 := own_emptyE W1 3
    rw [← hs1]
    have HS1 := Lib.hid hs1
    clear hW1 hs1
    go_loopw [0, 4] (fun nv o wr => ∃ i : Nat, i ≤ 20 ∧ nv = .int .i64 ((N / 10 ^ i : Nat) : Int) ∧ wr.ownsRow W1.heap.size 3 1 o i (ks .i64 (fixd 10 i N)) ∧ Ext W1 wr ∧ Hid (i = 0 ∨ 10 ^ (i - 1) ≤ N)) (fun nv _ _ => (intOf nv).toNat)
    case atStart => exact ⟨0, by omega, by simp, own0, Ext.new _ _, .inl rfl⟩
    case round =>
      obtain ⟨i, hi, rfl, hown, hext, HP⟩ := hrel
      by_cases hz : N / 10 ^ i = 0
      · rw [hz]
        have hlt : N < 10 ^ i := Nat.lt_of_div_eq_zero (Nat.pow_pos (by decide)) hz
        have hfd : fixd 10 i N = dg 10 N := fixd_dg ten_gt hlt HP.out
        rw [hfd] at hown
        have hl : i = (dg 10 N).length := by rw [← hfd, fixd_len]
        rw [hl] at hown
        obtain ⟨a1, c1, rfl, g1, g2, g3⟩ := own_form hown
        have gf := own_from hown
        have HO := Lib.hid (rmk_walk false N a1 c1 wr g1 g2 g3)
        rw [HSZ.out] at HO
        have G := Lib.hid (And.intro g1 (And.intro g2 (And.intro g3 (And.intro gf (And.intro (q0.ext hext) hext)))))
        obtain ⟨lm, hlm⟩ : ∃ x, (dg 10 N).length = x := ⟨_, rfl⟩
        have HLM := Lib.hid hlm
        rw [hlm] at HO ⊢
        clear hz hlt hfd hl hi HP g1 g2 g3 gf hown hext own0 hlm
        go_wp2_with fail
        refine HO.out.mono ?_
        rintro e w3 ⟨rfl, t4⟩
        have q3 := G.out.2.2.2.2.1.ext t4
        have k0 := q3.cell (i := 0) rfl
        have k1 := q3.cell (i := 1) rfl
        have f0 := q3.frozen 0
        have f1 := q3.frozen 1
        have Q3 := Lib.hid q3
        clear q3
        go_wp2_with fail
        have r3 := (Q3.out.set 0 (.bool (decide (y < 0)))).set 1 (.slice a1 lm c1)
        have z0 := r3.cell (i := 0) rfl
        have z1 := r3.cell (i := 1) rfl
        have hgs := num_store (w := w) (z := y) (g := w.heap.size) (c := c1) (a := a1) (Nat.le_refl _) (x1.trans G.out.2.2.2.2.2) (w' := w3) (by rw [IsNum, HNY.out]; exact ⟨G.out.1, G.out.2.1, G.out.2.2.1.ext t4⟩) t4 (fun ad e => by have := G.out.2.2.2.1 _ e; have := HS1.out; omega) (.bool (decide (y < 0))) (.slice a1 lm c1)
        rw [HNY.out, HLM.out] at hgs
        exact bodyPost_ret (v := .agg #[.bool (decide (y < 0)), .slice a1 lm c1]) (by simp [results, Try.f71, go_sem, z0, z1]) rfl hgs
      · have hN9 : N / 10 ^ i ≤ 4611686018427387904 := Nat.le_trans (Nat.div_le_self _ _) HN.out
        have hle : 10 ^ i ≤ N := by
          by_cases hc : 10 ^ i ≤ N
          · exact hc
          · exact absurd (Nat.div_eq_of_lt (by omega)) hz
        have hi2 : i < 20 := by
          by_cases h3 : i = 20
          · subst h3
            have := HN.out
            exact absurd hle (by omega)
          · omega
        have hpos : 0 < N / 10 ^ i := Nat.pos_of_ne_zero hz
        have HS : Hid (N / 10 ^ i / 10 = N / 10 ^ (i + 1)) := by show _ = _; rw [Nat.div_div_eq_div_mul, Nat.pow_succ]
        have HF : Hid (fixd 10 (i + 1) N = fixd 10 i N ++ [N / 10 ^ i % 10]) := fixd_succ _ _ _
        have HLE := Lib.hid hle
        clear hle hz
        generalize N / 10 ^ i = x at *
        go_wp2_with (at_builtin; refine append_elem elemI64 hown hext (by unfold maxLen; omega) (by omega) rfl (by simp [Value.oneCell']) rfl _ _ rfl rfl rfl ?_; intro v' w1 own1 ext1 _)
        go_roundw
        case rel =>
          refine ⟨i + 1, by omega, ?_, ?_, ext1, .inr ?_⟩
          · have := HS.out
            rw [← this]; rfl
          · rw [HF.out, ks_append]; exact own1
          · simpa using HLE.out
        case measure => simp [intOf] <;> omega
end Go.Proofs.Ytogodjiemgilaaa
