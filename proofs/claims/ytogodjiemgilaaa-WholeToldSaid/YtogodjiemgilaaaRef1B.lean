/- The reference's cmp, Cmp, Neg. -/
import Derived.Test.YtogodjiemgilaaaRef1A
import Derived.Deep.CutRange
namespace Go.Proofs.Ytogodjiemgilaaa
open Go.RowKit

set_option maxRecDepth 100000 in
set_option maxHeartbeats 1000000 in
theorem rcmp_walk (a b : Option Addr) (ca cb n m : Nat) (w : World) (hla : (dg 10 n).length ≤ 1000000) (hlb : (dg 10 m).length ≤ 1000000) (ha : Rd w a (ks .i64 (dg 10 n))) (hb : Rd w b (ks .i64 (dg 10 m))) :
    Calls Try.prog 123 #[.slice a (dg 10 n).length ca, .slice b (dg 10 m).length cb] w fun e w' => e = .returned (.int .i64 (cmpN n m)) ∧ Ext w w' := by
  by_cases hne : (dg 10 n).length = (dg 10 m).length
  · have HT := fun k h1 h2 h3 => cmpN_top ten_gt n m k hne h1 h2 h3
    have HE := cmpN_eq ten_gt n m hne
    generalize dg 10 n = l at *
    generalize dg 10 m = l2 at *
    generalize cmpN n m = r at *
    have HNE := Lib.hid hne
    have HHT := Lib.hid HT
    have HHE := Lib.hid HE
    have HA := Lib.hid ha
    have HB := Lib.hid hb
    rw [← hne]
    clear hne HT HE ha hb hlb
    go_enter Try.func123, Try.ntmps123
    go_wp2_with fail
    go_loopw [5] (fun iv wr => ∃ k : Nat, k ≤ l.length ∧ iv = .int .i64 ((l.length : Int) - 1 - k) ∧ Ext w wr ∧ Hid (∀ j, l.length ≤ j + k → j < l.length → l[j]?.getD 0 = l2[j]?.getD 0)) (fun iv _ => (intOf iv + 1).toNat)
    case atStart => exact ⟨0, by omega, by simp, Ext.refl _, fun j h1 h2 => absurd h1 (by omega)⟩
    case round =>
      obtain ⟨k, hk, rfl, hext, HP⟩ := hrel
      by_cases hlt : k < l.length
      · obtain ⟨p, hp⟩ : ∃ p : Nat, (l.length : Int) - 1 - k = (p : Int) := ⟨l.length - 1 - k, by omega⟩
        have HPP := Lib.hid hp
        have hpl : p < l.length := by omega
        have hpl2 : p < l2.length := by rw [← HNE.out]; exact hpl
        rw [hp]
        clear hp
        obtain ⟨b0, ob, rfl, hcb⟩ := (HA.out.ext hext).num (i := p) hpl
        obtain ⟨b1, ob1, rfl, hcb1⟩ := (HB.out.ext hext).num (i := p) hpl2
        have hg : Hid (l[p]?.getD 0 = l[p]) := by show _ = _; rw [List.getElem?_eq_getElem hpl]; rfl
        have hg2 : Hid (l2[p]?.getD 0 = l2[p]) := by show _ = _; rw [List.getElem?_eq_getElem hpl2]; rfl
        have HQ : Hid (l[p] ≠ l2[p] → r = sgn ((l[p] : Nat) - (l2[p] : Nat) : Int)) := by
          intro hx
          have h4 := HPP.out
          have := HHT.out p hpl (fun i h1 h2 => HP.out i (by omega) h2) (by rw [hg.out, hg2.out]; exact hx)
          rw [hg.out, hg2.out] at this
          exact this
        generalize l[p] = x at *
        generalize l2[p] = y at *
        by_cases hxy : x = y
        · subst hxy
          go_wp2_with fail
          go_quiet (fail)
          go_wp2_with fail
          go_roundw
          case rel =>
            have h4 := HPP.out
            refine ⟨k + 1, by omega, ?_, hext.drewN _, ?_⟩
            · congr 1; omega
            · intro j h1 h2
              by_cases hj : j = p
              · subst hj; exact hg.out.trans hg2.out.symm
              · exact HP.out j (by omega) h2
          case measure => simp [intOf] <;> omega
        · have hxy' : ((x : Int) != (y : Int)) = true := by simp; omega
          have HR := Lib.hid (HQ.out hxy)
          clear HQ hxy
          by_cases hl : x < y
          · have HR2 : Hid (-1 = r) := by rw [HR.out]; show _ = _; unfold sgn; rw [if_pos (by omega)]
            go_wp2_with fail
            go_quiet (fail)
            go_wp2_with fail
            go_quiet (fail)
            go_wp2_with fail
            go_ret
            exact ⟨ret_int HR2.out, (hext.drewN _).drewN _⟩
          · have HR2 : Hid (1 = r) := by rw [HR.out]; show _ = _; unfold sgn; rw [if_neg (by omega), if_neg (by simp at hxy'; omega)]
            go_wp2_with fail
            go_quiet (fail)
            go_wp2_with fail
            go_quiet (fail)
            go_wp2_with fail
            go_ret
            exact ⟨ret_int HR2.out, (hext.drewN _).drewN _⟩
      · have HR : Hid (0 = r) := (HHE.out fun i hi => HP.out i (by omega) hi).symm
        go_wp2_with fail
        go_ret
        exact ⟨ret_int HR.out, hext⟩
  · have H := Lib.hid (cmpN_len ten_gt n m hne)
    have hne' : (((dg 10 n).length : Int) != ((dg 10 m).length : Int)) = true := by simp; omega
    generalize (dg 10 n).length = na at *
    generalize (dg 10 m).length = nb at *
    generalize cmpN n m = r at *
    by_cases hl : na < nb
    · have HR2 : Hid (-1 = r) := by rw [H.out]; show _ = _; unfold sgn; rw [if_pos (by omega)]
      clear hne
      go_enter Try.func123, Try.ntmps123
      go_wp2_with fail
      go_ret
      exact ⟨ret_int HR2.out, Ext.refl _⟩
    · have HR2 : Hid (1 = r) := by rw [H.out]; show _ = _; unfold sgn; rw [if_neg (by omega), if_neg (by omega)]
      clear hne
      go_enter Try.func123, Try.ntmps123
      go_wp2_with fail
      go_ret
      exact ⟨ret_int HR2.out, Ext.refl _⟩

/-- two numbers boxed -/
def N2 (w W : World) (u0 u1 v0 v1 : Value) : Prop := Row W w.heap.size 72 [u0, u1] ∧ Row W (w.heap.size + 1) 72 [v0, v1]
theorem N2.ext {w W W' : World} {u0 u1 v0 v1 : Value} (h : N2 w W u0 u1 v0 v1) (e : Ext W W') : N2 w W' u0 u1 v0 v1 := ⟨h.1.ext e, h.2.ext e⟩
theorem N2.cells {w W : World} {u0 u1 v0 v1 : Value} (h : N2 w W u0 u1 v0 v1) :
    W.cell? ⟨w.heap.size, 0, none⟩ = some u0 ∧ W.cell? ⟨w.heap.size, 1, none⟩ = some u1 ∧ W.cell? ⟨w.heap.size + 1, 0, none⟩ = some v0 ∧ W.cell? ⟨w.heap.size + 1, 1, none⟩ = some v1 :=
  ⟨h.1.cell (i := 0) rfl, h.1.cell (i := 1) rfl, h.2.cell (i := 0) rfl, h.2.cell (i := 1) rfl⟩
theorem N2.new (w : World) (u0 u1 v0 v1 : Value) : ∃ W0, (w.alloc (.cells #[u0, u1] 72)).alloc (.cells #[v0, v1] 72) = W0 ∧ N2 w W0 u0 u1 v0 v1 ∧ Ext w W0 ∧ W0.heap.size = w.heap.size + 1 + 1 := by
  refine ⟨_, rfl, ⟨(Row.new w _ [_, _]).alloc _, ?_⟩, (Ext.new _ _).alloc _, by simp⟩
  have := Row.new (w.alloc (.cells #[u0, u1] 72)) 72 [v0, v1]
  rwa [World.size_alloc] at this

set_option maxRecDepth 100000 in
set_option maxHeartbeats 2000000 in
theorem rcmpz_walk (z1 z2 : Int) (a b : Option Addr) (ca cb : Nat) (w : World) (hb1 : (dg 10 z1.natAbs).length ≤ 1000000) (hb2 : (dg 10 z2.natAbs).length ≤ 1000000) (h1 : IsNum w z1 a ca) (h2 : IsNum w z2 b cb) :
    Calls Try.prog 62 #[.agg #[.bool (decide (z1 < 0)), .slice a (dg 10 z1.natAbs).length ca], .agg #[.bool (decide (z2 < 0)), .slice b (dg 10 z2.natAbs).length cb]] w fun e w' => e = .returned (.int .i64 (cmpZ z1 z2)) ∧ Ext w w' := by
  have HC := Lib.hid (fun W (hr : Rd W a (ks .i64 (dg 10 z1.natAbs))) (hr2 : Rd W b (ks .i64 (dg 10 z2.natAbs))) => rcmp_walk a b ca cb z1.natAbs z2.natAbs W hb1 hb2 hr hr2)
  have HCS := Lib.hid (fun W (hr : Rd W a (ks .i64 (dg 10 z1.natAbs))) (hr2 : Rd W b (ks .i64 (dg 10 z2.natAbs))) => rcmp_walk b a cb ca z2.natAbs z1.natAbs W hb2 hb1 hr2 hr)
  have hR1 : Hid (decide (z1 < 0) = true → decide (z2 < 0) = false → cmpZ z1 z2 = -1) := by
    unfold Hid cmpZ; simp only [decide_eq_true_eq, decide_eq_false_iff_not]; intro p q; rw [if_pos (by omega)]
  have hR2 : Hid (decide (z1 < 0) = false → decide (z2 < 0) = true → cmpZ z1 z2 = 1) := by
    unfold Hid cmpZ; simp only [decide_eq_true_eq, decide_eq_false_iff_not]; intro p q; rw [if_neg (by omega), if_neg (by omega)]
  have hR3 : Hid (decide (z1 < 0) = true → decide (z2 < 0) = true → cmpZ z1 z2 = cmpN z2.natAbs z1.natAbs) := by
    unfold Hid cmpZ cmpN; simp only [decide_eq_true_eq]; intro p q; (repeat' split) <;> omega
  have hR4 : Hid (decide (z1 < 0) = false → decide (z2 < 0) = false → cmpZ z1 z2 = cmpN z1.natAbs z2.natAbs) := by
    unfold Hid cmpZ cmpN; simp only [decide_eq_false_iff_not]; intro p q; (repeat' split) <;> omega
  have R1 := Lib.hid h1.2.2
  have R2 := Lib.hid h2.2.2
  clear h1 h2 hb1 hb2
  generalize cmpZ z1 z2 = r at *
  generalize cmpN z1.natAbs z2.natAbs = q at *
  generalize cmpN z2.natAbs z1.natAbs = q' at *
  generalize hna : (dg 10 z1.natAbs).length = na at *
  generalize hnb : (dg 10 z2.natAbs).length = nb at *
  clear hna hnb
  cases s1 : decide (z1 < 0) <;> cases s2 : decide (z2 < 0)
  case false.false =>
    have HF := Lib.hid (hR4.out s1 s2)
    clear hR1 hR2 hR3 hR4 s1 s2
    go_enter Try.func62, Try.ntmps62
    go_wp2_with fail
    refine (HC.out _ ((R1.out.alloc _).alloc _) ((R2.out.alloc _).alloc _)).mono ?_
    rintro e w1 ⟨rfl, g1⟩
    go_wp2_with fail
    go_ret
    exact ⟨ret_int HF.out.symm, ((Ext.new _ _).alloc _).trans g1⟩
  case false.true =>
    have HF := Lib.hid (hR2.out s1 s2)
    clear hR1 hR2 hR3 hR4 s1 s2
    go_enter Try.func62, Try.ntmps62
    go_wp2_with fail
    go_ret
    exact ⟨ret_int HF.out.symm, (Ext.new _ _).alloc _⟩
  case true.false =>
    have HF := Lib.hid (hR1.out s1 s2)
    clear hR1 hR2 hR3 hR4 s1 s2
    go_enter Try.func62, Try.ntmps62
    go_wp2_with fail
    go_ret
    exact ⟨ret_int HF.out.symm, (Ext.new _ _).alloc _⟩
  case true.true =>
    have HF := Lib.hid (hR3.out s1 s2)
    clear hR1 hR2 hR3 hR4 s1 s2
    go_enter Try.func62, Try.ntmps62
    go_wp2_with fail
    refine (HCS.out _ ((R1.out.alloc _).alloc _) ((R2.out.alloc _).alloc _)).mono ?_
    rintro e w1 ⟨rfl, g1⟩
    go_wp2_with fail
    go_ret
    exact ⟨ret_int HF.out.symm, ((Ext.new _ _).alloc _).trans g1⟩
end Go.Proofs.Ytogodjiemgilaaa
