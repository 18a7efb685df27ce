/- The reference's Text. -/
import Derived.Test.YtogodjiemgilaaaRef1E
namespace Go.Proofs.Ytogodjiemgilaaa
open Go.RowKit

theorem own_emptyE (w : World) (E : TypeId) : (w.alloc (.cells #[] E)).ownsRow w.heap.size E 1 (.slice (some ⟨w.heap.size, 0, none⟩) 0 0) 0 [] :=
  ⟨rfl, .inr ⟨w.heap.size, 0, #[], rfl, Nat.le_refl _, heap_alloc_new w _, Nat.le_refl _, by simp [maxLen], rfl, rfl⟩⟩

set_option maxRecDepth 100000 in
set_option maxHeartbeats 4000000 in
theorem rtext_walk (z : Int) (a : Option Addr) (ca : Nat) (w : World) (hb : (dg 10 z.natAbs).length ≤ 100000) (h : IsNum w z a ca) :
    Calls Try.prog 64 #[.agg #[.bool (decide (z < 0)), .slice a (dg 10 z.natAbs).length ca]] w fun e w' => e = .returned (.string (txt z)) ∧ Ext w w' := by
  have hr := h.2.2
  have hs0 : z.natAbs = 0 → decide (z < 0) = false := fun h => decide_eq_false (by omega)
  obtain ⟨T, hT⟩ : ∃ T, txt z = T := ⟨_, rfl⟩
  rw [hT]
  unfold txt at hT
  clear h
  generalize z.natAbs = n at *
  generalize decide (z < 0) = s at *
  obtain ⟨L, hL⟩ : ∃ L, (dg 10 n).length = L := ⟨_, rfl⟩
  have hlen0 := dg_len0 ten_gt n
  rw [hL] at hb hlen0 ⊢
  obtain ⟨RV, hRV⟩ : ∃ RV, RV = (asc (dg 10 n)).reverse := ⟨_, rfl⟩
  have HGET : Hid (∀ W, Rd W a (ks .i64 (dg 10 n)) → ∀ i, i < L → ∃ b off, a = some ⟨b, off, none⟩ ∧ W.cell? ⟨b, off + i, none⟩ = some (.int .i64 ((n / 10 ^ i % 10 : Nat) : Int))) := fun W hW i hi => by
    obtain ⟨b, off, e, hc⟩ := hW.num (i := i) (by rw [hL]; exact hi)
    rw [dg_at ten_gt] at hc
    exact ⟨b, off, e, hc⟩
  have HRV : Hid (∀ j p, j < L → p = L - 1 - j → RV.take (j + 1) = RV.take j ++ [48 + n / 10 ^ p % 10]) := fun j p hj hp => by
    have hlr : RV.length = L := by rw [hRV, List.length_reverse, asc_len, hL]
    rw [List.take_succ_eq_append_getElem (by rw [hlr]; exact hj)]
    congr 2
    subst hRV hp
    rw [List.getElem_reverse]
    simp only [asc, List.getElem_map, List.length_map]
    rw [dg_at ten_gt, hL, Nat.add_comm]
  have HR := Lib.hid hr
  by_cases hL0 : L = 0
  · have hn := hlen0.1 hL0
    subst hn
    have := hs0 rfl
    subst this
    have HT : Hid (T = ⟨#[48]⟩) := by show _ = _; rw [← hT]; rfl
    subst hL0
    rw [HT.out]
    clear hT HT HGET HRV hs0 hlen0 hRV hL hr
    go_enter Try.func64, Try.ntmps64
    go_wp2_with fail
    obtain ⟨W1, hW1⟩ : ∃ W1, w.alloc (.cells #[.bool false, .slice a 0 ca] 72) = W1 := ⟨_, rfl⟩
    have q0 : Row W1 w.heap.size 72 [.bool false, .slice a 0 ca] := by rw [← hW1]; exact Row.new w _ [_, _]
    have x1 : Ext w W1 := by rw [← hW1]; exact Ext.new _ _
    rw [hW1]
    have q2 := q0.alloc (.cells #[] 5)
    have X2 := x1.alloc (.cells #[] 5)
    clear hW1
    generalize W1.alloc (.cells #[] 5) = W2 at *
    have k0 := q2.cell (i := 0) rfl
    have k1 := q2.cell (i := 1) rfl
    go_loopw [4] (fun iv wr => iv = .int .i64 (-1) ∧ W2 = wr) (fun _ _ => 0)
    case atStart => exact ⟨rfl, rfl⟩
    case round =>
      obtain ⟨rfl, rfl⟩ := hrel
      go_wp2_with fail
      go_ret
      exact ⟨rfl, X2⟩
  · have hn0 : ¬ n = 0 := fun e => hL0 (hlen0.2 e)
    have hL0' : ((L : Int) == 0) = false := beq_false_of_ne (by omega)
    have hLp : 0 < L := by omega
    cases s
    · have HFIN : Hid (bs ([] ++ RV.take L) = T) := by
        show _ = _
        rw [← hT, List.take_of_length_le (by rw [hRV, List.length_reverse, asc_len, hL]; exact Nat.le_refl _), hRV]
        unfold txtR; rw [if_neg hn0]; simp
      have HLEN : Hid (([] ++ RV.take L : List Nat).length = L) := by
        show _ = _
        rw [List.nil_append, List.length_take, hRV, List.length_reverse, asc_len, hL]; omega
      clear hT hs0 hlen0 hRV hL hr hn0
      go_enter Try.func64, Try.ntmps64
      go_wp2_with fail
      obtain ⟨W1, hW1⟩ : ∃ W1, w.alloc (.cells #[.bool false, .slice a L ca] 72) = W1 := ⟨_, rfl⟩
      have q0 : Row W1 w.heap.size 72 [.bool false, .slice a L ca] := by rw [← hW1]; exact Row.new w _ [_, _]
      have x1 : Ext w W1 := by rw [← hW1]; exact Ext.new _ _
      have hs1 : W1.heap.size = w.heap.size + 1 := by rw [← hW1]; simp
      rw [hW1]
      have own0 := own_emptyE W1 5
      rw [hs1] at own0
      rw [← hs1] at *
      clear hW1
      go_loopw [3, 4] (fun o iv wr => ∃ j : Nat, j ≤ L ∧ iv = .int .i64 ((L : Int) - 1 - j) ∧ wr.ownsRow W1.heap.size 5 1 o j (ks .u8 (([] : List Nat) ++ RV.take j)) ∧ Ext W1 wr) (fun _ iv _ => (intOf iv + 1).toNat)
      case atStart => exact ⟨0, by omega, by simp, own0, Ext.new _ _⟩
      case round =>
        obtain ⟨j, hj, rfl, hown, hext⟩ := hrel
        have k0 := (q0.ext hext).cell (i := 0) rfl
        have k1 := (q0.ext hext).cell (i := 1) rfl
        by_cases hlt : j < L
        · obtain ⟨p, hp⟩ : ∃ p : Nat, (L : Int) - 1 - j = (p : Int) := ⟨L - 1 - j, by omega⟩
          have HPP := Lib.hid hp
          have hpl : p < L := by omega
          rw [hp]
          clear hp
          obtain ⟨b0, ob, rfl, hcb⟩ := HGET.out wr (HR.out.ext (x1.trans hext)) p hpl
          have HTK : Hid (RV.take (j + 1) = RV.take j ++ [48 + n / 10 ^ p % 10]) := by
            have h4 := HPP.out
            exact HRV.out j p hlt (by omega)
          have hd10 : n / 10 ^ p % 10 < 10 := Nat.mod_lt _ (by decide)
          generalize n / 10 ^ p % 10 = d at *
          go_wp2_with (at_builtin; refine append_elem elemU8 hown hext (by unfold maxLen; omega) (by omega) rfl (by simp [Value.oneCell']) rfl _ _ rfl rfl rfl ?_; intro v' w1 own1 ext1 _)
          go_roundw
          case rel =>
            have h4 := HPP.out
            refine ⟨j + 1, by omega, ?_, ?_, ext1⟩
            · congr 1; omega
            · rw [HTK.out, ← List.append_assoc, ks_append]; exact own1
          case measure => simp [intOf] <;> omega
        · obtain rfl : j = L := by omega
          obtain ⟨a1, c1, rfl, g1, g2, g3⟩ := own_form hown
          have hcv := conv_bytes (c := c1) g3
          rw [HFIN.out, HLEN.out] at hcv
          go_wp2_with fail
          go_ret
          exact ⟨rfl, x1.trans hext⟩
    · have HFIN : Hid (bs ([45] ++ RV.take L) = T) := by
        show _ = _
        rw [← hT, List.take_of_length_le (by rw [hRV, List.length_reverse, asc_len, hL]; exact Nat.le_refl _), hRV]
        unfold txtR; rw [if_neg hn0]; simp
      have HLEN : Hid (([45] ++ RV.take L : List Nat).length = 1 + L) := by
        show _ = _
        rw [List.length_append, List.length_take, hRV, List.length_reverse, asc_len, hL]; simp
      clear hT hs0 hlen0 hRV hL hr hn0
      have own0 := own_emptyE (w.alloc (.cells #[.bool true, .slice a L ca] 72)) 5
      rw [World.size_alloc] at own0
      have Q0 := Lib.hid (Row.new w 72 [.bool true, .slice a L ca])
      go_enter Try.func64, Try.ntmps64
      go_wp2_with (at_builtin; refine append_elem_b elemU8 own0 (by simp) (by unfold maxLen; omega) (by omega) rfl (by simp [Value.oneCell']) rfl _ _ rfl rfl (by simp [Act.eval]) ?_; intro v' w1 own1 gr1; have t0 := (Q0.out.alloc (.cells #[] 5)).below own0 (Nat.lt_succ_self _) gr1; have k0 := t0.cell (i := 0) rfl; have k1 := t0.cell (i := 1) rfl)
      obtain ⟨W1, hW1⟩ : ∃ W1, w.alloc (.cells #[.bool true, .slice a L ca] 72) = W1 := ⟨_, rfl⟩
      have q0 : Row W1 w.heap.size 72 [.bool true, .slice a L ca] := by rw [← hW1]; exact Row.new w _ [_, _]
      have x1 : Ext w W1 := by rw [← hW1]; exact Ext.new _ _
      have hs1 : W1.heap.size = w.heap.size + 1 := by rw [← hW1]; simp
      have y1 : Ext W1 w1 := by
        rw [← hW1]
        exact (((Ext.new _ _).alloc _)).grown gr1 (fun q hq => by have := (own0.lt q hq).1; simpa using this)
      rw [← hs1] at own1
      clear hW1 own0 gr1 k0 k1 t0 Q0
      go_loopw [3, 4] (fun o iv wr => ∃ j : Nat, j ≤ L ∧ iv = .int .i64 ((L : Int) - 1 - j) ∧ wr.ownsRow W1.heap.size 5 1 o (1 + j) (ks .u8 (([45] : List Nat) ++ RV.take j)) ∧ Ext W1 wr) (fun _ iv _ => (intOf iv + 1).toNat)
      case atStart => exact ⟨0, by omega, by simp, own1, y1⟩
      case round =>
        obtain ⟨j, hj, rfl, hown, hext⟩ := hrel
        have k0 := (q0.ext hext).cell (i := 0) rfl
        have k1 := (q0.ext hext).cell (i := 1) rfl
        by_cases hlt : j < L
        · obtain ⟨p, hp⟩ : ∃ p : Nat, (L : Int) - 1 - j = (p : Int) := ⟨L - 1 - j, by omega⟩
          have HPP := Lib.hid hp
          have hpl : p < L := by omega
          rw [hp]
          clear hp
          obtain ⟨b0, ob, rfl, hcb⟩ := HGET.out wr (HR.out.ext (x1.trans hext)) p hpl
          have HTK : Hid (RV.take (j + 1) = RV.take j ++ [48 + n / 10 ^ p % 10]) := by
            have h4 := HPP.out
            exact HRV.out j p hlt (by omega)
          have hd10 : n / 10 ^ p % 10 < 10 := Nat.mod_lt _ (by decide)
          generalize n / 10 ^ p % 10 = d at *
          go_wp2_with (at_builtin; refine append_elem elemU8 hown hext (by unfold maxLen; omega) (by omega) rfl (by simp [Value.oneCell']) rfl _ _ rfl rfl rfl ?_; intro v' w1 own1 ext1 _)
          go_roundw
          case rel =>
            have h4 := HPP.out
            refine ⟨j + 1, by omega, ?_, ?_, ext1⟩
            · congr 1; omega
            · rw [HTK.out, ← List.append_assoc, ks_append]; exact own1
          case measure => simp [intOf] <;> omega
        · obtain rfl : j = L := by omega
          obtain ⟨a1, c1, rfl, g1, g2, g3⟩ := own_form hown
          have hcv := conv_bytes (c := c1) g3
          rw [HFIN.out, HLEN.out] at hcv
          go_wp2_with fail
          go_ret
          exact ⟨rfl, x1.trans hext⟩
end Go.Proofs.Ytogodjiemgilaaa
