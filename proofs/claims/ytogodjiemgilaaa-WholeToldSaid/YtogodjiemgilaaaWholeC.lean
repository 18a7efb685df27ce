/- How two rows of digits stand. -/
import Derived.Test.YtogodjiemgilaaaBackB
import Derived.Test.YtogodjiemgilaaaBaseIn
namespace Go.Proofs.Ytogodjiemgilaaa
open Go.RowKit Go.Shelf

attribute [local go_sem] Oper.semAt_some

set_option maxRecDepth 100000 in
set_option maxHeartbeats 2000000 in
theorem cmp_walk (a b : Option Addr) (ca cb n m : Nat) (w : World) (hla : (dg BB n).length ≤ 1000000) (hlb : (dg BB m).length ≤ 1000000) (ha : Rd w a (ks .u32 (dg BB n))) (hb : Rd w b (ks .u32 (dg BB m))) :
    Calls Try.prog 125 #[.slice a (dg BB n).length ca, .slice b (dg BB m).length cb] w fun e w' => e = .returned (.int .i64 (cmpN n m)) ∧ Ext w w' := by
  by_cases hne : (dg BB n).length = (dg BB m).length
  · have HT := fun k h1 h2 h3 => cmpN_top BB_gt n m k hne h1 h2 h3
    have HE := cmpN_eq BB_gt n m hne
    have d1 : ∀ i (h : i < (dg BB n).length), (dg BB n)[i] < 1000000000 := fun i h => dg_lt BB_gt (List.getElem_mem h)
    have d2 : ∀ i (h : i < (dg BB m).length), (dg BB m)[i] < 1000000000 := fun i h => dg_lt BB_gt (List.getElem_mem h)
    generalize dg BB n = l at *
    generalize dg BB m = l2 at *
    generalize hcm : cmpN n m = r at *
    clear hcm
    have hne' : ((l.length : Int) != (l2.length : Int)) = false := by simp; omega
    have HNE := Lib.hid hne
    have HHT := Lib.hid HT
    have HHE := Lib.hid HE
    clear hne HT HE
    refine (callsIn_wide (n := 3)).1 ?_
    refine callsIn_of_wp_marks Try.func125 rfl trivial ?_ rfl
    simp only [Try.ntmps125, List.size_toArray, List.length_cons, List.length_nil, Nat.reduceAdd, Nat.reduceSub, Array.replicate_succ, Array.replicate_zero, List.push_toArray, List.append_toArray, List.nil_append, List.cons_append]
    gi_wp2_with (refine ⟨trivial, ?_⟩; gi_at_call 170; refine (backA_in Fence.wide 2 trivial rfl _ _ _ _).mono ?_; rintro e w' ⟨rfl, rfl⟩)
    have bY := Boxed.new w 162 (.slice b l2.length cb)
    have bR := Boxed.new (w.alloc (.cells #[.slice b l2.length cb] 162)) 3 (.int .i64 0)
    have bN := Boxed.new ((w.alloc (.cells #[.slice b l2.length cb] 162)).alloc (.cells #[.int .i64 0] 3)) 162 (.slice a l.length ca)
    simp only [World.size_alloc] at bR bN
    have hB0 : Ext w (((w.alloc (.cells #[.slice b l2.length cb] 162)).alloc (.cells #[.int .i64 0] 3)).alloc (.cells #[.slice a l.length ca] 162)) := ((Ext.new _ _).alloc _).alloc _
    refine wpIn_rangeFunc_ownG (n := 3) rfl (by omega) (gf := 197) (lb := #[.pointer (some ⟨w.heap.size + 1 + 1, 0, none⟩)]) rfl trivial (enters_of Try.func197 (by kernel_rfl) rfl)
      (backA_stops Fence.wide 2 trivial rfl (by omega) (w.heap.size + 1 + 1) ca a l hla w _ ha hB0 (by simp) bN.cell) kpB_t (kpB_b (by simp; omega) (by simp)) (Below.refl _ _) (fun _ => rfl)
      (fun pre W => ((∀ i ∈ pre, l[i.1]?.getD 0 = l2[i.1]?.getD 0) ∧ W.cell? ⟨w.heap.size, 0, none⟩ = some (.slice b l2.length cb) ∧ W.cell? ⟨w.heap.size + 1, 0, none⟩ = some (.int .i64 0) ∧ W.frozen? ⟨w.heap.size + 1, 0, none⟩ = false) ∧ Below w.heap.size w W)
      (fun c pre W => (c = .ret ∧ ∃ ini, ∃ k : Fin l.length, pre = ini ++ [k] ∧ (∀ i ∈ ini, l[i.1]?.getD 0 = l2[i.1]?.getD 0) ∧ l[k.1]?.getD 0 ≠ l2[k.1]?.getD 0 ∧ W.cell? ⟨w.heap.size + 1, 0, none⟩ = some (.int .i64 (sgn ((l[k.1]?.getD 0 : Nat) - (l2[k.1]?.getD 0 : Nat) : Int)))) ∧ Below w.heap.size w W)
      (OwnFrom.and (Own.from (fun s A B row hs hg hr => ⟨hs.1, cell_kept hs.2.1 hg hr, cell_kept hs.2.2.1 hg hr, (frozen_kept hs.2.2.1 hg hr).trans hs.2.2.2⟩) _) (ownFrom_below (Nat.le_refl _) (by simp; omega)))
      (fun c => OwnFrom.and (Own.from (fun s A B row hs hg hr => by obtain ⟨hc, ini, last, e1, e2, e3, e4⟩ := hs; exact ⟨hc, ini, last, e1, e2, e3, cell_kept e4 hg hr⟩) _) (ownFrom_below (Nat.le_refl _) (by simp; omega)))
      ⟨⟨by simp, ((bY.alloc _).alloc _).cell, (bR.alloc _).cell, (bR.alloc _).frozen⟩, hB0⟩
      (fun i => { tmps := #[.slice a l.length ca, .slice b l2.length cb, undef, .pointer (some ⟨w.heap.size, 0, none⟩), .pointer (some ⟨w.heap.size + 1, 0, none⟩), .int .i64 (i.1 : Int), .int .u32 (l[i.1] : Int), .slice a l.length ca, .int .i64 (l.length : Int), .slice b l2.length cb, .int .i64 (l2.length : Int), .bool false, undef, undef, undef, undef, undef, undef, .slice a l.length ca, .func (.func 197) #[] #[.pointer (some ⟨w.heap.size + 1 + 1, 0, none⟩)], .int .i64 (i.1 : Int), .int .u32 (l[i.1] : Int), undef, undef, undef, undef, undef, undef, undef, undef, undef, undef, undef, undef, undef, undef, undef], defers := [] }) ?assign ?body ?done ?stop
    case assign =>
      intro lp x W K hK
      dsimp only [bkEnc]
      gi_wp2
      exact hK
    case body =>
      rintro lp pre x W ⟨⟨hp, hcy, hcr, hfr⟩, hB⟩ _
      obtain ⟨k, hk⟩ := x
      obtain ⟨b0, ob, rfl, hcb⟩ := hb.num (i := k) (by rw [← HNE.out]; exact hk)
      have hb0 : b0 < w.heap.size := World.block_lt_of_cell? w _ hcb
      have hcb' : W.cell? ⟨b0, ob + k, none⟩ = some (.int .u32 (l2[k]'(by rw [← HNE.out]; exact hk) : Int)) := (hB.cell (p := ⟨b0, ob + k, none⟩) hb0).trans hcb
      have hkk : k < l2.length := by rw [← HNE.out]; exact hk
      have b1 := d1 k hk
      have b2 := d2 k hkk
      have hx1 : Hid (l[k]?.getD 0 = l[k]) := by show _ = _; rw [List.getElem?_eq_getElem hk]; rfl
      have hx2 : Hid (l2[k]?.getD 0 = l2[k]) := by show _ = _; rw [List.getElem?_eq_getElem hkk]; rfl
      generalize l[k] = x at *
      generalize l2[k] = y at *
      have hpp := Lib.hid hp
      clear hcb d1 d2 hp
      by_cases hxy : x = y
      · subst hxy
        gi_wp2
        exact ⟨KeepsFrom.refl _ _, KpB.refl _ _ _, ⟨fun i hi => (List.mem_append.1 hi).elim (hpp.out i) (fun e => by simp at e; subst e; exact hx1.out.trans hx2.out.symm), hcy, hcr, hfr⟩, hB⟩
      · have hxy' : ((x : Int) != (y : Int)) = true := by simp; omega
        gi_wp2_with fail
        refine ⟨trivial, ?_⟩
        refine (CallsIn.inRound lp (callsIn_wide.2 (sgn_walk _ _ (by omega) (by omega)))).mono ?_
        rintro e w' ⟨rfl, rfl⟩
        gi_wp2
        refine ⟨(KeepsOthers.setCell _ _ _).from _, ⟨rfl, pre, ⟨k, hk⟩, rfl, hpp.out, by rw [hx1.out, hx2.out]; exact hxy, ?_⟩, hB.setCell (p := ⟨w.heap.size + 1, 0, none⟩) (by simp) _⟩
        rw [hx1.out, hx2.out]
        exact World.cell?_setCell_same' _ _ _ (by rw [hcr]; rfl)
    case done =>
      rintro D ys W hD rfl ⟨⟨hne, hcy, hcr, hfr⟩, hB⟩ hK
      have hr0 : r = 0 := HHE.out fun i hi => hne ⟨i, hi⟩ (by
        simp only [down, List.mem_map]
        exact ⟨Fin.rev ⟨i, hi⟩, by rw [List.take_of_length_le (by simp)]; exact List.mem_finRange _, by simp⟩)
      gi_wp2
      have hK' := (KeepsOthers.setCell W ⟨w.heap.size + 1, 0, none⟩ (.int .i64 0)).same D _ hK rfl
      refine ⟨by simp, .inl ⟨_, _, rfl, run_takeDeferred hK', ?_⟩⟩
      have hc5 := cell_kept (World.cell?_setCell_same' W ⟨w.heap.size + 1, 0, none⟩ (.int .i64 0) (by rw [hcr]; rfl)) (grownBy_putObj' _ D (.deferred none)) (fun r e => by cases e; exact ⟨_, hK', rfl⟩)
      refine ⟨.int .i64 0, ?_, by rw [hr0], (hB.setCell (p := ⟨w.heap.size + 1, 0, none⟩) (by simp) _).trans (belowK_b (w := w) (Nat.le_refl _) _ D _ _ (by simp at hD; omega) hK' rfl rfl)⟩
      simp [results, Try.f125, go_sem, hc5]
    case stop =>
      rintro D c pre W hD ⟨k, hk, rfl⟩ ⟨⟨rfl, ini, last, e1, e2, e3, hcr⟩, hB⟩ hK
      obtain ⟨k', rfl⟩ : ∃ k', k = k' + 1 := by
        cases k with
        | zero => simp [down_zero] at e1
        | succ k' => exact ⟨k', rfl⟩
      rw [down_succ _ _ (by omega)] at e1
      obtain ⟨rfl, e5⟩ := List.append_inj' e1 rfl
      obtain rfl : (⟨l.length - 1 - k', by omega⟩ : Fin l.length) = last := by simpa using e5
      have hr0 : r = _ := HHT.out (l.length - 1 - k') (by omega) (fun i hi1 hi2 => e2 ⟨i, hi2⟩ (by
        simp only [down, List.mem_map]
        refine ⟨Fin.rev ⟨i, hi2⟩, ?_, by simp⟩
        rw [List.mem_take_iff_getElem]
        refine ⟨l.length - 1 - i, by simp; omega, ?_⟩
        simp only [List.getElem_finRange]
        apply Fin.ext
        simp [Fin.rev]; omega)) e3
      gi_wp2
      refine ⟨by simp, .inl ⟨_, _, rfl, run_takeDeferred hK, ?_⟩⟩
      have hc5 := cell_kept hcr (grownBy_putObj' _ D (.deferred none)) (fun r e => by cases e; exact ⟨_, hK, rfl⟩)
      refine ⟨.int .i64 _, ?_, rfl, hB.trans (belowK_b (w := w) (Nat.le_refl _) W D _ _ (by simp at hD; omega) hK rfl rfl)⟩
      simp [results, Try.f125, go_sem, hc5]
  · have H := Lib.hid (cmpN_len BB_gt n m hne)
    have hne' : (((dg BB n).length : Int) != ((dg BB m).length : Int)) = true := by simp; omega
    generalize (dg BB n).length = na at *
    generalize (dg BB m).length = nb at *
    clear hne
    go_enter Try.func125, Try.ntmps125
    go_wp2_with (go_at_call 174; refine (sgn_walk _ _ (by omega) (by omega)).mono ?_; rintro e w' ⟨rfl, rfl⟩)
    have hr : (results Try.f125 #[]).run Try.prog w = (results Try.f125 #[]).run Try.prog w := rfl
    refine bodyPost_ret (v := .int .i64 (sgn (na - nb))) (by simp [results, Try.f125, go_sem]) rfl ⟨by rw [H.out], ?_⟩
    exact (Ext.new _ _).alloc _
end Go.Proofs.Ytogodjiemgilaaa
