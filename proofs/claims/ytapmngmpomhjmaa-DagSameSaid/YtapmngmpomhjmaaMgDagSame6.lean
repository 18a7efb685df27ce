/- Part of the proof that a law returns true for all that comes in, and that what came in reads as it did. No condition. -/
import Derived.SizedLaws
import Derived.Test.YtapmngmpomhjmaaRows
import Derived.Test.YtapmngmpomhjmaaMgDagSame5
/- What the laws ask of all acts. -/
namespace Go.Proofs.Ytapmngmpomhjmaa
open Go.RowKit
namespace O

structure ActD where
  what : Int
  name : ByteArray
  args : List Int
  res : Int
  term : TermD
def cActD (a : ActD) : List VP := [VP.int .i64 a.what, VP.str a.name, VP.ro a.args.length (a.args.flatMap cInt), VP.int .i64 a.res, VP.int .i64 a.term.op, VP.int .i64 a.term.fn, VP.ro a.term.kids.length (a.term.kids.flatMap cInt), VP.str a.term.num]
theorem cActD_len (a : ActD) : (cActD a).length = 8 := rfl
abbrev S_act6 (l : List ActD) : HA := HA.slc l.length (l.flatMap cActD)
abbrev O_act6 (l : List ActD) : VP := VP.ro l.length (l.flatMap cActD)
abbrev B_act6 (x : ActD) : HA := HA.cells 32 [HA.of (VP.int .i64 x.what), HA.of (VP.str x.name), HA.of (O_int x.args), HA.of (VP.int .i64 x.res), HA.of (VP.int .i64 x.term.op), HA.of (VP.int .i64 x.term.fn), HA.of (O_int x.term.kids), HA.of (VP.str x.term.num)]
def bigA (a : ActD) : Bool := decide (((a.name.size : Nat) : Int) > 60) || decide (((a.args.length : Nat) : Int) > 12) || decide (((a.term.kids.length : Nat) : Int) > 12) || decide (((a.term.num.size : Nat) : Int) > 60)
def greatL (l : List ActD) : Bool := bif decide (((l.length : Nat) : Int) > 80) then true else l.any bigA
theorem great_no {l : List ActD} (h : greatL l = false) : l.length ≤ 80 ∧ ∀ a ∈ l, a.name.size ≤ 60 ∧ a.args.length ≤ 12 ∧ a.term.kids.length ≤ 12 ∧ a.term.num.size ≤ 60 := by
  unfold greatL at h
  rcases Bool.eq_false_or_eq_true (decide (((l.length : Nat) : Int) > 80)) with h1 | h1
  · rw [h1] at h; cases h
  rw [h1] at h
  have h1 := of_decide_eq_false h1
  refine ⟨by omega, fun a ha => ?_⟩
  have := List.any_eq_false.1 h a ha
  simp only [bigA, Bool.not_eq_true, Bool.or_eq_false_iff, decide_eq_false_iff_not] at this
  omega
theorem any_hit {α : Type} {g : α → Bool} {l : List α} {k : Nat} {x : α} (hx : l[k]? = some x) (h : g x = true) : l.any g = true := List.any_eq_true.2 ⟨x, List.mem_of_getElem? hx, h⟩
theorem any_miss {α : Type} {g : α → Bool} {l : List α} {k : Nat} (h : ∀ j y, j < k → l[j]? = some y → g y = false) (hk : l.length ≤ k) : l.any g = false := List.any_eq_false.2 fun x hx => by
  obtain ⟨j, hj, rfl⟩ := List.mem_iff_getElem.1 hx
  rw [h j _ (by omega) (List.getElem?_eq_getElem hj)]; exact Bool.false_ne_true
theorem DagM_agg_collatorlaw06_Act : aggTy Try.prog 32 8 = true := by kernel_rfl
theorem DagM_size_collatorlaw06_Act : ∀ w, (sizeOf 32).run Try.prog w = .ok 8 w := run_sizeAgg DagM_agg_collatorlaw06_Act
theorem DagM_zero_collatorlaw06_Act : zeroOf Try.prog 32 [(.int .i64 0), (.string (ByteArray.mk #[])), (.slice none 0 0), (.int .i64 0), (.int .i64 0), (.int .i64 0), (.slice none 0 0), (.string (ByteArray.mk #[]))] := by unfold zeroOf; kernel_rfl
theorem DagM_f_collatorlaw06_Act_1 : fieldAt Try.prog 32 1 1 = true := by kernel_rfl
theorem DagM_one_string : oneTy Try.prog 9 = true := by kernel_rfl
theorem DagM_f_collatorlaw06_Act_2 : fieldAt Try.prog 32 2 2 = true := by kernel_rfl
theorem DagM_one___int : oneTy Try.prog 28 = true := by kernel_rfl
theorem DagM_f_collatorlaw06_Act_4 : fieldAt Try.prog 32 4 4 = true := by kernel_rfl
theorem DagM_f_api_Term_2 : fieldAt Try.prog 30 2 2 = true := by kernel_rfl
theorem DagM_f_api_Term_3 : fieldAt Try.prog 30 3 3 = true := by kernel_rfl
theorem DagM_hb_collator_dag_New : hasBody Try.prog 9 = true := by kernel_rfl
theorem DagM_zero_api_Term : zeroOf Try.prog 30 [(.int .i64 0), (.int .i64 0), (.slice none 0 0), (.string (ByteArray.mk #[]))] := by unfold zeroOf; kernel_rfl
theorem DagM_pl_api_Term : placesOf Try.prog 30 #[(0, 1), (1, 1), (2, 1), (3, 1)] := ⟨_, Try.underlying30, fun w => by kernel_rfl⟩
theorem DagM_hb___collator_dag_Arena__Term : hasBody Try.prog 13 = true := by kernel_rfl
theorem DagM_hb___collator_dag_Arena__Len : hasBody Try.prog 12 = true := by kernel_rfl
theorem DagM_hb___collator_dag_Arena__Sorts : hasBody Try.prog 21 = true := by kernel_rfl
set_option maxRecDepth 100000 in
set_option maxHeartbeats 4000000 in
theorem dl_Great (l : List ActD) : SpecO Try.prog 8 [.bo (S_act6 l)] [] [] [] (HA.of (VP.bool (greatL l))) := by
  refine spec_of 39 Try.func8 rfl Try.ntmps8 rfl fun w0 S0 Z0 Bf => ?_
  refine b_name fun v0 => ?_
  refine b_know slc_le fun hla => ?_
  refine t_seq ?_
  refine t_region (F := ⟨_, _, _, _, _, _⟩) [.bor (.val v0) (S_act6 l), .is (.tmp 0) (VP.eq v0 true true)] [] [(0, .is (.tmp 2) (VP.bool false))] [] [0, 1] [] [[]] [[]] rfl rfl follow rfl ⟨
    .inl ⟨wants_plain rfl, does_move _ (.inr rfl) rfl rfl rfl rfl (ar_const (fun _ _ => rfl))⟩,
    trivial⟩ ?_
  refine nx_then ?_
  refine t_seq ?_
  refine t_seq ?_
  refine t_region (F := ⟨_, _, _, _, _, _⟩) [.bor (.val v0) (S_act6 l), .is (.tmp 0) (VP.eq v0 true true), .is (.tmp 2) (VP.bool false)] [] [(0, .is (.tmp 5) (VP.eq v0 true true)), (1, .is (.tmp 6) (VP.int .i64 ((l.length : Nat) : Int))), (2, .is (.tmp 7) (VP.bool (decide (((l.length : Nat) : Int) > 80))))] [] [0, 1, 2] [] [[], [0], [0, 1]] [[1, 2], [2], []] rfl rfl follow rfl ⟨
    .inl ⟨wants_plain rfl, does_move _ (.inl rfl) rfl rfl rfl rfl (ar_tmp (av_fs 1 rfl))⟩,
    .inl ⟨wants_plain rfl, does_len _ _ (by kernel_rfl) rfl rfl rfl rfl rfl (sl_slc (av_fs 0 rfl) (ar_tmp (av_rs 0 0 rfl rfl)))⟩,
    .inl ⟨wants_plain rfl, does_cmp (m := ((l.length : Nat) : Int)) (n := 80) _ _ _ _ _ rfl rfl rfl rfl rfl rfl .i64 (ar_tmp (av_rs 1 1 rfl rfl)) (ar_const (fun _ _ => rfl))⟩,
    trivial⟩ ?_
  refine t_pick [0, 1, 2, 5] rfl ?_
  refine nx_then ?_
  refine t_split 3 rfl (fun hb1 => ?_) (fun hb1 => ?_)
  · have hc1 := of_decide_eq_true hb1
    refine t_seq ?_
    refine t_region (F := ⟨_, _, _, _, _, _⟩) [.bor (.val v0) (S_act6 l), .is (.tmp 0) (VP.eq v0 true true), .is (.tmp 7) (VP.bool (decide (((l.length : Nat) : Int) > 80)))] [(0, .is (.tmp 2) (VP.bool false))] [(0, .is (.tmp 2) (VP.bool true))] [] [0, 1, 3] [2] [[]] [[]] rfl rfl follow rfl ⟨
      .inl ⟨wants_plain rfl, does_move _ (.inr rfl) rfl rfl rfl rfl (ar_const (fun _ _ => rfl))⟩,
      trivial⟩ ?_
    refine t_pick [0, 1, 3] rfl ?_
    refine nx_then ?_
    refine t_ret ?_
    refine rt_then ?_
    exact rt_post [HA.of (VP.bool (greatL l))] [[]] [] [] rfl ⟨(rv_eq (congrArg HA.of (congrArg VP.bool (show true = greatL l from Eq.symm (by unfold greatL; rw [hb1]; rfl)))) (rv_vp 2 rfl)), trivial⟩ (by decide) rfl rfl
  · have hc1 := of_decide_eq_false hb1
    refine t_skip ?_
    refine nx_then ?_
    refine t_seq ?_
    refine t_seq ?_
    refine t_region (F := ⟨_, _, _, _, _, _⟩) [.bor (.val v0) (S_act6 l), .is (.tmp 0) (VP.eq v0 true true), .is (.tmp 2) (VP.bool false), .is (.tmp 7) (VP.bool (decide (((l.length : Nat) : Int) > 80)))] [] [(0, .is (.tmp 8) (VP.eq v0 true true)), (1, .is (.tmp 9) (VP.int .i64 ((l.length : Nat) : Int))), (2, .is (.tmp 10) (VP.int .i64 0))] [] [0, 1, 2, 3] [] [[], [0], []] [[1], [], []] rfl rfl follow rfl ⟨
      .inl ⟨wants_plain rfl, does_move _ (.inl rfl) rfl rfl rfl rfl (ar_tmp (av_fs 1 rfl))⟩,
      .inl ⟨wants_plain rfl, does_len _ _ (by kernel_rfl) rfl rfl rfl rfl rfl (sl_slc (av_fs 0 rfl) (ar_tmp (av_rs 0 0 rfl rfl)))⟩,
      .inl ⟨wants_plain rfl, does_move _ (.inl rfl) rfl rfl rfl rfl (ar_const (fun _ _ => rfl))⟩,
      trivial⟩ ?_
    refine t_pick [0, 2, 4, 5, 6] rfl ?_
    refine nx_then ?_
    refine t_block ?_
    refine t_pick [4, 0, 1, 2, 3] rfl ?_
    refine t_slot (y := VP.int .i64 ((0 : Nat) : Int)) (fun _ _ _ h => h) ?_
    refine t_loop (τ := {k : Nat // (decide (((l.length : Nat) : Int) > 80)) = false ∧ k ≤ l.length ∧ ∀ j y, j < k → l[j]? = some y → bigA y = false}) (fun ⟨k, _⟩ => [.is (.tmp 8) (VP.eq v0 true true), .is (.tmp 9) (VP.int .i64 ((l.length : Nat) : Int)), .is (.tmp 10) (VP.int .i64 ((k : Nat) : Int)), .bor (.val v0) (S_act6 l)]) (fun ⟨k, _⟩ => l.length - k) (⟨0, hb1, Nat.zero_le _, fun j y hj => by omega⟩) [3, 4, 0, 1] rfl ?_
    rintro ⟨k, hle, hk, hno⟩
    refine t_seq ?_
    refine t_region (F := ⟨_, _, _, _, _, _⟩) [.is (.tmp 8) (VP.eq v0 true true), .is (.tmp 9) (VP.int .i64 ((l.length : Nat) : Int)), .is (.tmp 10) (VP.int .i64 ((k : Nat) : Int)), .bor (.val v0) (S_act6 l)] [] [(0, .is (.tmp 11) (VP.bool (decide (((k : Nat) : Int) < ((l.length : Nat) : Int)))))] [] [0, 1, 2, 3] [] [[]] [[]] rfl rfl follow rfl ⟨
      .inl ⟨wants_plain rfl, does_cmp (m := ((k : Nat) : Int)) (n := ((l.length : Nat) : Int)) _ _ _ _ _ rfl rfl rfl rfl rfl rfl .i64 (ar_tmp (av_fs 2 rfl)) (ar_tmp (av_fs 1 rfl))⟩,
      trivial⟩ ?_
    refine nx_then ?_
    refine t_seq ?_
    refine t_split 4 rfl (fun hb2 => ?_) (fun hb2 => ?_)
    · have hc2 := of_decide_eq_true hb2
      obtain ⟨a, hx⟩ : ∃ a, l[k]? = some a := ⟨_, List.getElem?_eq_getElem (by omega)⟩
      refine t_skip ?_
      refine nx_then ?_
      refine t_seq ?_
      refine t_block ?_
      refine t_seq ?_
      refine t_region (F := ⟨_, _, _, _, _, _⟩) [.is (.tmp 8) (VP.eq v0 true true), .is (.tmp 9) (VP.int .i64 ((l.length : Nat) : Int)), .is (.tmp 10) (VP.int .i64 ((k : Nat) : Int)), .bor (.val v0) (S_act6 l), .is (.tmp 11) (VP.bool (decide (((k : Nat) : Int) < ((l.length : Nat) : Int))))] [] [(0, .pt 12 (.row (.val v0) (k * 8))), (1, .is (.tmp 13) (VP.agg [VP.int .i64 a.what, VP.str a.name, O_int a.args, VP.int .i64 a.res, VP.int .i64 a.term.op, VP.int .i64 a.term.fn, O_int a.term.kids, VP.str a.term.num])), (3, .own 101 (.tmp 4) (B_act6 a))] [(2, 3, .own 101 (.tmp 4) (HA.cells 32 [HA.of (VP.int .i64 0), HA.of (VP.str (ByteArray.mk #[])), HA.of (VP.nilS), HA.of (VP.int .i64 0), HA.of (VP.int .i64 0), HA.of (VP.int .i64 0), HA.of (VP.nilS), HA.of (VP.str (ByteArray.mk #[]))]))] [0, 1, 2, 3, 4] [] [[], [0], [], [0, 1, 2]] [[1, 3], [3], [3], []] rfl rfl follow rfl ⟨
        .inl ⟨wants_plain rfl, does_index (m := k) _ _ Try.underlying22 DagM_size_collatorlaw06_Act rfl rfl rfl rfl rfl _ (by omega) rfl (by omega) (sl_slc (av_fs 3 rfl) (ar_tmp (av_fs 0 rfl))) (ar_tmp (av_fs 2 rfl))⟩,
        .inl ⟨wants_plain rfl, does_loadAgg (ps := [VP.int .i64 a.what, VP.str a.name, O_int a.args, VP.int .i64 a.res, VP.int .i64 a.term.op, VP.int .i64 a.term.fn, O_int a.term.kids, VP.str a.term.num]) _ DagM_agg_collatorlaw06_Act rfl rfl rfl rfl rfl (pt_pt (av_rs 0 0 rfl rfl)) (rds_slc (av_fs 3 rfl) (hq_flatV cActD_len hx (by omega) rfl))⟩,
        .inl ⟨wants_plain rfl, does_alloc (ps := [VP.int .i64 0, VP.str (ByteArray.mk #[]), VP.nilS, VP.int .i64 0, VP.int .i64 0, VP.int .i64 0, VP.nilS, VP.str (ByteArray.mk #[])]) DagM_zero_collatorlaw06_Act rfl rfl rfl rfl rfl rfl (fun _ _ => ⟨rfl, rfl, rfl, rfl, rfl, rfl, rfl, rfl, trivial⟩)⟩,
        .inl ⟨wants_plain rfl, does_store (off := 0) (Qs := [HA.of (VP.int .i64 a.what), HA.of (VP.str a.name), HA.of (O_int a.args), HA.of (VP.int .i64 a.res), HA.of (VP.int .i64 a.term.op), HA.of (VP.int .i64 a.term.fn), HA.of (O_int a.term.kids), HA.of (VP.str a.term.num)]) _ _ DagM_size_collatorlaw06_Act rfl rfl rfl rfl rfl rfl (pt_box (av_ms 0 2 3 rfl rfl rfl)) (av_ms 0 2 3 rfl rfl rfl) (cv_agg (ps := [VP.int .i64 a.what, VP.str a.name, O_int a.args, VP.int .i64 a.res, VP.int .i64 a.term.op, VP.int .i64 a.term.fn, O_int a.term.kids, VP.str a.term.num]) (ar_tmp (av_rs 1 1 rfl rfl)))⟩,
        trivial⟩ ?_
      refine nx_then ?_
      refine t_pick [7, 0, 1, 2, 3, 4, 5, 6] rfl ?_
      refine t_nameP rfl fun c4 => ?_
      refine t_seq ?_
      rcases Bool.eq_false_or_eq_true (decide (((a.name.size : Nat) : Int) > 60)) with hb3 | hb3
      · have hc3 := of_decide_eq_true hb3
        refine t_region (F := ⟨_, _, _, _, _, _⟩) [.own 101 (.val c4) (B_act6 a), .is (.tmp 4) (VP.ptr c4), .is (.tmp 8) (VP.eq v0 true true), .is (.tmp 9) (VP.int .i64 ((l.length : Nat) : Int)), .is (.tmp 10) (VP.int .i64 ((k : Nat) : Int)), .bor (.val v0) (S_act6 l), .is (.tmp 11) (VP.bool (decide (((k : Nat) : Int) < ((l.length : Nat) : Int)))), .pt 12 (.row (.val v0) (k * 8)), .is (.tmp 13) (VP.agg [VP.int .i64 a.what, VP.str a.name, O_int a.args, VP.int .i64 a.res, VP.int .i64 a.term.op, VP.int .i64 a.term.fn, O_int a.term.kids, VP.str a.term.num])] [] [(0, .pt 14 (.blk (.val c4) 1)), (1, .is (.tmp 15) (VP.str a.name)), (2, .is (.tmp 16) (VP.int .i64 ((a.name.size : Nat) : Int))), (3, .is (.tmp 17) (VP.bool (decide (((a.name.size : Nat) : Int) > 60)))), (4, .is (.tmp 18) (VP.bool (decide (((a.name.size : Nat) : Int) > 60)))), (5, .is (.tmp 19) (VP.undef)), (6, .is (.tmp 20) (VP.undef)), (7, .is (.tmp 21) (VP.undef)), (8, .is (.tmp 22) (VP.undef)), (9, .is (.tmp 23) (VP.bool true)), (10, .is (.tmp 24) (VP.bool true)), (11, .is (.tmp 25) (VP.undef)), (12, .is (.tmp 26) (VP.undef)), (13, .is (.tmp 27) (VP.undef)), (14, .is (.tmp 28) (VP.undef)), (15, .is (.tmp 29) (VP.undef)), (16, .is (.tmp 30) (VP.bool true)), (17, .is (.tmp 31) (VP.bool true)), (18, .is (.tmp 32) (VP.undef)), (19, .is (.tmp 33) (VP.undef)), (20, .is (.tmp 34) (VP.undef)), (21, .is (.tmp 35) (VP.undef)), (22, .is (.tmp 36) (VP.undef)), (23, .is (.tmp 37) (VP.bool true))] [] [0, 1, 2, 3, 4, 5, 6, 7, 8] [] [[], [0], [0, 1], [0, 1, 2], [0, 1, 2, 3], [0, 1, 2, 3, 4], [0, 1, 2, 3, 4, 5], [0, 1, 2, 3, 4, 5, 6], [0, 1, 2, 3, 4, 5, 6, 7], [0, 1, 2, 3, 4, 5, 6, 7, 8], [0, 1, 2, 3, 4, 5, 6, 7, 8, 9], [0, 1, 2, 3, 4, 5, 6, 7, 8, 9, 10], [0, 1, 2, 3, 4, 5, 6, 7, 8, 9, 10, 11], [0, 1, 2, 3, 4, 5, 6, 7, 8, 9, 10, 11, 12], [0, 1, 2, 3, 4, 5, 6, 7, 8, 9, 10, 11, 12, 13], [0, 1, 2, 3, 4, 5, 6, 7, 8, 9, 10, 11, 12, 13, 14], [0, 1, 2, 3, 4, 5, 6, 7, 8, 9, 10, 11, 12, 13, 14, 15], [0, 1, 2, 3, 4, 5, 6, 7, 8, 9, 10, 11, 12, 13, 14, 15, 16], [0, 1, 2, 3, 4, 5, 6, 7, 8, 9, 10, 11, 12, 13, 14, 15, 16, 17], [0, 1, 2, 3, 4, 5, 6, 7, 8, 9, 10, 11, 12, 13, 14, 15, 16, 17, 18], [0, 1, 2, 3, 4, 5, 6, 7, 8, 9, 10, 11, 12, 13, 14, 15, 16, 17, 18, 19], [0, 1, 2, 3, 4, 5, 6, 7, 8, 9, 10, 11, 12, 13, 14, 15, 16, 17, 18, 19, 20], [0, 1, 2, 3, 4, 5, 6, 7, 8, 9, 10, 11, 12, 13, 14, 15, 16, 17, 18, 19, 20, 21], [0, 1, 2, 3, 4, 5, 6, 7, 8, 9, 10, 11, 12, 13, 14, 15, 16, 17, 18, 19, 20, 21, 22]] [[1, 2, 3, 4, 5, 6, 7, 8, 9, 10, 11, 12, 13, 14, 15, 16, 17, 18, 19, 20, 21, 22, 23], [2, 3, 4, 5, 6, 7, 8, 9, 10, 11, 12, 13, 14, 15, 16, 17, 18, 19, 20, 21, 22, 23], [3, 4, 5, 6, 7, 8, 9, 10, 11, 12, 13, 14, 15, 16, 17, 18, 19, 20, 21, 22, 23], [4, 5, 6, 7, 8, 9, 10, 11, 12, 13, 14, 15, 16, 17, 18, 19, 20, 21, 22, 23], [5, 6, 7, 8, 9, 10, 11, 12, 13, 14, 15, 16, 17, 18, 19, 20, 21, 22, 23], [6, 7, 8, 9, 10, 11, 12, 13, 14, 15, 16, 17, 18, 19, 20, 21, 22, 23], [7, 8, 9, 10, 11, 12, 13, 14, 15, 16, 17, 18, 19, 20, 21, 22, 23], [8, 9, 10, 11, 12, 13, 14, 15, 16, 17, 18, 19, 20, 21, 22, 23], [9, 10, 11, 12, 13, 14, 15, 16, 17, 18, 19, 20, 21, 22, 23], [10, 11, 12, 13, 14, 15, 16, 17, 18, 19, 20, 21, 22, 23], [11, 12, 13, 14, 15, 16, 17, 18, 19, 20, 21, 22, 23], [12, 13, 14, 15, 16, 17, 18, 19, 20, 21, 22, 23], [13, 14, 15, 16, 17, 18, 19, 20, 21, 22, 23], [14, 15, 16, 17, 18, 19, 20, 21, 22, 23], [15, 16, 17, 18, 19, 20, 21, 22, 23], [16, 17, 18, 19, 20, 21, 22, 23], [17, 18, 19, 20, 21, 22, 23], [18, 19, 20, 21, 22, 23], [19, 20, 21, 22, 23], [20, 21, 22, 23], [21, 22, 23], [22, 23], [23], []] rfl rfl follow rfl ⟨
          .inl ⟨wants_plain rfl, does_field _ _ _ 1 DagM_f_collatorlaw06_Act_1 rfl rfl rfl rfl rfl rfl (pt_ptr (ar_tmp (av_fs 1 rfl)))⟩,
          .inl ⟨wants_plain rfl, does_loadOne _ DagM_one_string rfl rfl rfl rfl rfl (pt_pt (av_rs 0 0 rfl rfl)) (rds_box (off := 1) (av_fs 0 rfl) (hq_one rfl))⟩,
          .inl ⟨wants_plain rfl, does_lenStr _ _ Try.underlying9 rfl rfl rfl rfl rfl (ar_tmp (av_rs 1 1 rfl rfl))⟩,
          .inl ⟨wants_plain rfl, does_cmp (m := ((a.name.size : Nat) : Int)) (n := 60) _ _ _ _ _ rfl rfl rfl rfl rfl rfl .i64 (ar_tmp (av_rs 2 2 rfl rfl)) (ar_const (fun _ _ => rfl))⟩,
          .inl ⟨wants_plain rfl, does_move _ (.inl rfl) rfl rfl rfl rfl (ar_tmp (av_rs 3 3 rfl rfl))⟩,
          .inr (skips_guardU true rfl rfl rfl (av_bool hb3 (av_rs 4 4 rfl rfl)) rfl rfl rfl rfl),
          .inr (skips_guardU true rfl rfl rfl (av_bool hb3 (av_rs 4 4 rfl rfl)) rfl rfl rfl rfl),
          .inr (skips_guardU true rfl rfl rfl (av_bool hb3 (av_rs 4 4 rfl rfl)) rfl rfl rfl rfl),
          .inr (skips_guardU true rfl rfl rfl (av_bool hb3 (av_rs 4 4 rfl rfl)) rfl rfl rfl rfl),
          .inl ⟨wants_plain rfl, does_pick true _ _ _ rfl rfl rfl rfl rfl (ar_tmp (av_bool hb3 (av_rs 4 4 rfl rfl))) (ar_const (fun _ _ => rfl))⟩,
          .inl ⟨wants_plain rfl, does_move _ (.inl rfl) rfl rfl rfl rfl (ar_tmp (av_rs 9 9 rfl rfl))⟩,
          .inr (skips_guardU true rfl rfl rfl (av_rs 10 10 rfl rfl) rfl rfl rfl rfl),
          .inr (skips_guardU true rfl rfl rfl (av_rs 10 10 rfl rfl) rfl rfl rfl rfl),
          .inr (skips_guardU true rfl rfl rfl (av_rs 10 10 rfl rfl) rfl rfl rfl rfl),
          .inr (skips_guardU true rfl rfl rfl (av_rs 10 10 rfl rfl) rfl rfl rfl rfl),
          .inr (skips_guardU true rfl rfl rfl (av_rs 10 10 rfl rfl) rfl rfl rfl rfl),
          .inl ⟨wants_plain rfl, does_pick true _ _ _ rfl rfl rfl rfl rfl (ar_tmp (av_rs 10 10 rfl rfl)) (ar_const (fun _ _ => rfl))⟩,
          .inl ⟨wants_plain rfl, does_move _ (.inl rfl) rfl rfl rfl rfl (ar_tmp (av_rs 16 16 rfl rfl))⟩,
          .inr (skips_guardU true rfl rfl rfl (av_rs 17 17 rfl rfl) rfl rfl rfl rfl),
          .inr (skips_guardU true rfl rfl rfl (av_rs 17 17 rfl rfl) rfl rfl rfl rfl),
          .inr (skips_guardU true rfl rfl rfl (av_rs 17 17 rfl rfl) rfl rfl rfl rfl),
          .inr (skips_guardU true rfl rfl rfl (av_rs 17 17 rfl rfl) rfl rfl rfl rfl),
          .inr (skips_guardU true rfl rfl rfl (av_rs 17 17 rfl rfl) rfl rfl rfl rfl),
          .inl ⟨wants_plain rfl, does_pick true _ _ _ rfl rfl rfl rfl rfl (ar_tmp (av_rs 17 17 rfl rfl)) (ar_const (fun _ _ => rfl))⟩,
          trivial⟩ ?_
        refine nx_then ?_
        refine t_cond_t 32 rfl ?_
        refine t_seq ?_
        refine t_region (F := ⟨_, _, _, _, _, _⟩) [.own 101 (.val c4) (B_act6 a), .is (.tmp 4) (VP.ptr c4), .is (.tmp 8) (VP.eq v0 true true), .is (.tmp 9) (VP.int .i64 ((l.length : Nat) : Int)), .is (.tmp 10) (VP.int .i64 ((k : Nat) : Int)), .bor (.val v0) (S_act6 l), .is (.tmp 11) (VP.bool (decide (((k : Nat) : Int) < ((l.length : Nat) : Int)))), .pt 12 (.row (.val v0) (k * 8)), .is (.tmp 13) (VP.agg [VP.int .i64 a.what, VP.str a.name, O_int a.args, VP.int .i64 a.res, VP.int .i64 a.term.op, VP.int .i64 a.term.fn, O_int a.term.kids, VP.str a.term.num]), .pt 14 (.blk (.val c4) 1), .is (.tmp 15) (VP.str a.name), .is (.tmp 16) (VP.int .i64 ((a.name.size : Nat) : Int)), .is (.tmp 17) (VP.bool (decide (((a.name.size : Nat) : Int) > 60))), .is (.tmp 18) (VP.bool (decide (((a.name.size : Nat) : Int) > 60))), .is (.tmp 19) (VP.undef), .is (.tmp 20) (VP.undef), .is (.tmp 21) (VP.undef), .is (.tmp 22) (VP.undef), .is (.tmp 23) (VP.bool true), .is (.tmp 24) (VP.bool true), .is (.tmp 25) (VP.undef), .is (.tmp 26) (VP.undef), .is (.tmp 27) (VP.undef), .is (.tmp 28) (VP.undef), .is (.tmp 29) (VP.undef), .is (.tmp 30) (VP.bool true), .is (.tmp 31) (VP.bool true), .is (.tmp 32) (VP.undef), .is (.tmp 33) (VP.undef), .is (.tmp 34) (VP.undef), .is (.tmp 35) (VP.undef), .is (.tmp 36) (VP.undef), .is (.tmp 37) (VP.bool true)] [] [(0, .is (.tmp 2) (VP.bool true))] [] [0, 1, 2, 3, 4, 5, 6, 7, 8, 9, 10, 11, 12, 13, 14, 15, 16, 17, 18, 19, 20, 21, 22, 23, 24, 25, 26, 27, 28, 29, 30, 31, 32] [] [[]] [[]] rfl rfl follow rfl ⟨
          .inl ⟨wants_plain rfl, does_move _ (.inr rfl) rfl rfl rfl rfl (ar_const (fun _ _ => rfl))⟩,
          trivial⟩ ?_
        refine nx_then ?_
        refine t_ret ?_
        refine rt_block ?_
        refine rt_then ?_
        refine rt_then ?_
        refine rt_block ?_
        refine rt_then ?_
        exact rt_post [HA.of (VP.bool (greatL l))] [[]] [] [] rfl ⟨(rv_eq (congrArg HA.of (congrArg VP.bool (show true = greatL l from Eq.symm (by unfold greatL; rw [hle, cond_false]; exact any_hit hx (by unfold bigA; (try rw [hb3]); (try rfl)))))) (rv_vp 33 rfl)), trivial⟩ (by decide) rfl rfl
      · have hc3 := of_decide_eq_false hb3
        rcases Bool.eq_false_or_eq_true (decide (((a.args.length : Nat) : Int) > 12)) with hb4 | hb4
        · have hc4 := of_decide_eq_true hb4
          refine t_region (F := ⟨_, _, _, _, _, _⟩) [.own 101 (.val c4) (B_act6 a), .is (.tmp 4) (VP.ptr c4), .is (.tmp 8) (VP.eq v0 true true), .is (.tmp 9) (VP.int .i64 ((l.length : Nat) : Int)), .is (.tmp 10) (VP.int .i64 ((k : Nat) : Int)), .bor (.val v0) (S_act6 l), .is (.tmp 11) (VP.bool (decide (((k : Nat) : Int) < ((l.length : Nat) : Int)))), .pt 12 (.row (.val v0) (k * 8)), .is (.tmp 13) (VP.agg [VP.int .i64 a.what, VP.str a.name, O_int a.args, VP.int .i64 a.res, VP.int .i64 a.term.op, VP.int .i64 a.term.fn, O_int a.term.kids, VP.str a.term.num])] [] [(0, .pt 14 (.blk (.val c4) 1)), (1, .is (.tmp 15) (VP.str a.name)), (2, .is (.tmp 16) (VP.int .i64 ((a.name.size : Nat) : Int))), (3, .is (.tmp 17) (VP.bool (decide (((a.name.size : Nat) : Int) > 60)))), (4, .is (.tmp 18) (VP.bool (decide (((a.name.size : Nat) : Int) > 60)))), (5, .pt 19 (.blk (.val c4) 2)), (6, .is (.tmp 20) (O_int a.args)), (7, .is (.tmp 21) (VP.int .i64 ((a.args.length : Nat) : Int))), (8, .is (.tmp 22) (VP.bool (decide (((a.args.length : Nat) : Int) > 12)))), (9, .is (.tmp 23) (VP.bool (decide (((a.args.length : Nat) : Int) > 12)))), (10, .is (.tmp 24) (VP.bool (decide (((a.args.length : Nat) : Int) > 12)))), (11, .is (.tmp 25) (VP.undef)), (12, .is (.tmp 26) (VP.undef)), (13, .is (.tmp 27) (VP.undef)), (14, .is (.tmp 28) (VP.undef)), (15, .is (.tmp 29) (VP.undef)), (16, .is (.tmp 30) (VP.bool true)), (17, .is (.tmp 31) (VP.bool true)), (18, .is (.tmp 32) (VP.undef)), (19, .is (.tmp 33) (VP.undef)), (20, .is (.tmp 34) (VP.undef)), (21, .is (.tmp 35) (VP.undef)), (22, .is (.tmp 36) (VP.undef)), (23, .is (.tmp 37) (VP.bool true))] [] [0, 1, 2, 3, 4, 5, 6, 7, 8] [] [[], [0], [0, 1], [0, 1, 2], [0, 1, 2, 3], [0, 1, 2, 3, 4], [0, 1, 2, 3, 4, 5], [0, 1, 2, 3, 4, 5, 6], [0, 1, 2, 3, 4, 5, 6, 7], [0, 1, 2, 3, 4, 5, 6, 7, 8], [0, 1, 2, 3, 4, 5, 6, 7, 8, 9], [0, 1, 2, 3, 4, 5, 6, 7, 8, 9, 10], [0, 1, 2, 3, 4, 5, 6, 7, 8, 9, 10, 11], [0, 1, 2, 3, 4, 5, 6, 7, 8, 9, 10, 11, 12], [0, 1, 2, 3, 4, 5, 6, 7, 8, 9, 10, 11, 12, 13], [0, 1, 2, 3, 4, 5, 6, 7, 8, 9, 10, 11, 12, 13, 14], [0, 1, 2, 3, 4, 5, 6, 7, 8, 9, 10, 11, 12, 13, 14, 15], [0, 1, 2, 3, 4, 5, 6, 7, 8, 9, 10, 11, 12, 13, 14, 15, 16], [0, 1, 2, 3, 4, 5, 6, 7, 8, 9, 10, 11, 12, 13, 14, 15, 16, 17], [0, 1, 2, 3, 4, 5, 6, 7, 8, 9, 10, 11, 12, 13, 14, 15, 16, 17, 18], [0, 1, 2, 3, 4, 5, 6, 7, 8, 9, 10, 11, 12, 13, 14, 15, 16, 17, 18, 19], [0, 1, 2, 3, 4, 5, 6, 7, 8, 9, 10, 11, 12, 13, 14, 15, 16, 17, 18, 19, 20], [0, 1, 2, 3, 4, 5, 6, 7, 8, 9, 10, 11, 12, 13, 14, 15, 16, 17, 18, 19, 20, 21], [0, 1, 2, 3, 4, 5, 6, 7, 8, 9, 10, 11, 12, 13, 14, 15, 16, 17, 18, 19, 20, 21, 22]] [[1, 2, 3, 4, 5, 6, 7, 8, 9, 10, 11, 12, 13, 14, 15, 16, 17, 18, 19, 20, 21, 22, 23], [2, 3, 4, 5, 6, 7, 8, 9, 10, 11, 12, 13, 14, 15, 16, 17, 18, 19, 20, 21, 22, 23], [3, 4, 5, 6, 7, 8, 9, 10, 11, 12, 13, 14, 15, 16, 17, 18, 19, 20, 21, 22, 23], [4, 5, 6, 7, 8, 9, 10, 11, 12, 13, 14, 15, 16, 17, 18, 19, 20, 21, 22, 23], [5, 6, 7, 8, 9, 10, 11, 12, 13, 14, 15, 16, 17, 18, 19, 20, 21, 22, 23], [6, 7, 8, 9, 10, 11, 12, 13, 14, 15, 16, 17, 18, 19, 20, 21, 22, 23], [7, 8, 9, 10, 11, 12, 13, 14, 15, 16, 17, 18, 19, 20, 21, 22, 23], [8, 9, 10, 11, 12, 13, 14, 15, 16, 17, 18, 19, 20, 21, 22, 23], [9, 10, 11, 12, 13, 14, 15, 16, 17, 18, 19, 20, 21, 22, 23], [10, 11, 12, 13, 14, 15, 16, 17, 18, 19, 20, 21, 22, 23], [11, 12, 13, 14, 15, 16, 17, 18, 19, 20, 21, 22, 23], [12, 13, 14, 15, 16, 17, 18, 19, 20, 21, 22, 23], [13, 14, 15, 16, 17, 18, 19, 20, 21, 22, 23], [14, 15, 16, 17, 18, 19, 20, 21, 22, 23], [15, 16, 17, 18, 19, 20, 21, 22, 23], [16, 17, 18, 19, 20, 21, 22, 23], [17, 18, 19, 20, 21, 22, 23], [18, 19, 20, 21, 22, 23], [19, 20, 21, 22, 23], [20, 21, 22, 23], [21, 22, 23], [22, 23], [23], []] rfl rfl follow rfl ⟨
            .inl ⟨wants_plain rfl, does_field _ _ _ 1 DagM_f_collatorlaw06_Act_1 rfl rfl rfl rfl rfl rfl (pt_ptr (ar_tmp (av_fs 1 rfl)))⟩,
            .inl ⟨wants_plain rfl, does_loadOne _ DagM_one_string rfl rfl rfl rfl rfl (pt_pt (av_rs 0 0 rfl rfl)) (rds_box (off := 1) (av_fs 0 rfl) (hq_one rfl))⟩,
            .inl ⟨wants_plain rfl, does_lenStr _ _ Try.underlying9 rfl rfl rfl rfl rfl (ar_tmp (av_rs 1 1 rfl rfl))⟩,
            .inl ⟨wants_plain rfl, does_cmp (m := ((a.name.size : Nat) : Int)) (n := 60) _ _ _ _ _ rfl rfl rfl rfl rfl rfl .i64 (ar_tmp (av_rs 2 2 rfl rfl)) (ar_const (fun _ _ => rfl))⟩,
            .inl ⟨wants_plain rfl, does_move _ (.inl rfl) rfl rfl rfl rfl (ar_tmp (av_rs 3 3 rfl rfl))⟩,
            .inl ⟨wants_guard false rfl rfl rfl (av_bool hb3 (av_rs 4 4 rfl rfl)), does_field _ _ _ 2 DagM_f_collatorlaw06_Act_2 rfl rfl rfl rfl rfl rfl (pt_ptr (ar_tmp (av_fs 1 rfl)))⟩,
            .inl ⟨wants_guard false rfl rfl rfl (av_bool hb3 (av_rs 4 4 rfl rfl)), does_loadOne _ DagM_one___int rfl rfl rfl rfl rfl (pt_pt (av_rs 5 5 rfl rfl)) (rds_box (off := 2) (av_fs 0 rfl) (hq_one rfl))⟩,
            .inl ⟨wants_guard false rfl rfl rfl (av_bool hb3 (av_rs 4 4 rfl rfl)), does_len _ _ (by kernel_rfl) rfl rfl rfl rfl rfl (sl_ro (av_rs 6 6 rfl rfl) (flat_nil_iff cInt_len (by decide) _))⟩,
            .inl ⟨wants_guard false rfl rfl rfl (av_bool hb3 (av_rs 4 4 rfl rfl)), does_cmp (m := ((a.args.length : Nat) : Int)) (n := 12) _ _ _ _ _ rfl rfl rfl rfl rfl rfl .i64 (ar_tmp (av_rs 7 7 rfl rfl)) (ar_const (fun _ _ => rfl))⟩,
            .inl ⟨wants_plain rfl, does_pick false _ _ _ rfl rfl rfl rfl rfl (ar_tmp (av_bool hb3 (av_rs 4 4 rfl rfl))) (ar_tmp (av_rs 8 8 rfl rfl))⟩,
            .inl ⟨wants_plain rfl, does_move _ (.inl rfl) rfl rfl rfl rfl (ar_tmp (av_rs 9 9 rfl rfl))⟩,
            .inr (skips_guardU true rfl rfl rfl (av_bool hb4 (av_rs 10 10 rfl rfl)) rfl rfl rfl rfl),
            .inr (skips_guardU true rfl rfl rfl (av_bool hb4 (av_rs 10 10 rfl rfl)) rfl rfl rfl rfl),
            .inr (skips_guardU true rfl rfl rfl (av_bool hb4 (av_rs 10 10 rfl rfl)) rfl rfl rfl rfl),
            .inr (skips_guardU true rfl rfl rfl (av_bool hb4 (av_rs 10 10 rfl rfl)) rfl rfl rfl rfl),
            .inr (skips_guardU true rfl rfl rfl (av_bool hb4 (av_rs 10 10 rfl rfl)) rfl rfl rfl rfl),
            .inl ⟨wants_plain rfl, does_pick true _ _ _ rfl rfl rfl rfl rfl (ar_tmp (av_bool hb4 (av_rs 10 10 rfl rfl))) (ar_const (fun _ _ => rfl))⟩,
            .inl ⟨wants_plain rfl, does_move _ (.inl rfl) rfl rfl rfl rfl (ar_tmp (av_rs 16 16 rfl rfl))⟩,
            .inr (skips_guardU true rfl rfl rfl (av_rs 17 17 rfl rfl) rfl rfl rfl rfl),
            .inr (skips_guardU true rfl rfl rfl (av_rs 17 17 rfl rfl) rfl rfl rfl rfl),
            .inr (skips_guardU true rfl rfl rfl (av_rs 17 17 rfl rfl) rfl rfl rfl rfl),
            .inr (skips_guardU true rfl rfl rfl (av_rs 17 17 rfl rfl) rfl rfl rfl rfl),
            .inr (skips_guardU true rfl rfl rfl (av_rs 17 17 rfl rfl) rfl rfl rfl rfl),
            .inl ⟨wants_plain rfl, does_pick true _ _ _ rfl rfl rfl rfl rfl (ar_tmp (av_rs 17 17 rfl rfl)) (ar_const (fun _ _ => rfl))⟩,
            trivial⟩ ?_
          refine nx_then ?_
          refine t_cond_t 32 rfl ?_
          refine t_seq ?_
          refine t_region (F := ⟨_, _, _, _, _, _⟩) [.own 101 (.val c4) (B_act6 a), .is (.tmp 4) (VP.ptr c4), .is (.tmp 8) (VP.eq v0 true true), .is (.tmp 9) (VP.int .i64 ((l.length : Nat) : Int)), .is (.tmp 10) (VP.int .i64 ((k : Nat) : Int)), .bor (.val v0) (S_act6 l), .is (.tmp 11) (VP.bool (decide (((k : Nat) : Int) < ((l.length : Nat) : Int)))), .pt 12 (.row (.val v0) (k * 8)), .is (.tmp 13) (VP.agg [VP.int .i64 a.what, VP.str a.name, O_int a.args, VP.int .i64 a.res, VP.int .i64 a.term.op, VP.int .i64 a.term.fn, O_int a.term.kids, VP.str a.term.num]), .pt 14 (.blk (.val c4) 1), .is (.tmp 15) (VP.str a.name), .is (.tmp 16) (VP.int .i64 ((a.name.size : Nat) : Int)), .is (.tmp 17) (VP.bool (decide (((a.name.size : Nat) : Int) > 60))), .is (.tmp 18) (VP.bool (decide (((a.name.size : Nat) : Int) > 60))), .pt 19 (.blk (.val c4) 2), .is (.tmp 20) (O_int a.args), .is (.tmp 21) (VP.int .i64 ((a.args.length : Nat) : Int)), .is (.tmp 22) (VP.bool (decide (((a.args.length : Nat) : Int) > 12))), .is (.tmp 23) (VP.bool (decide (((a.args.length : Nat) : Int) > 12))), .is (.tmp 24) (VP.bool (decide (((a.args.length : Nat) : Int) > 12))), .is (.tmp 25) (VP.undef), .is (.tmp 26) (VP.undef), .is (.tmp 27) (VP.undef), .is (.tmp 28) (VP.undef), .is (.tmp 29) (VP.undef), .is (.tmp 30) (VP.bool true), .is (.tmp 31) (VP.bool true), .is (.tmp 32) (VP.undef), .is (.tmp 33) (VP.undef), .is (.tmp 34) (VP.undef), .is (.tmp 35) (VP.undef), .is (.tmp 36) (VP.undef), .is (.tmp 37) (VP.bool true)] [] [(0, .is (.tmp 2) (VP.bool true))] [] [0, 1, 2, 3, 4, 5, 6, 7, 8, 9, 10, 11, 12, 13, 14, 15, 16, 17, 18, 19, 20, 21, 22, 23, 24, 25, 26, 27, 28, 29, 30, 31, 32] [] [[]] [[]] rfl rfl follow rfl ⟨
            .inl ⟨wants_plain rfl, does_move _ (.inr rfl) rfl rfl rfl rfl (ar_const (fun _ _ => rfl))⟩,
            trivial⟩ ?_
          refine nx_then ?_
          refine t_ret ?_
          refine rt_block ?_
          refine rt_then ?_
          refine rt_then ?_
          refine rt_block ?_
          refine rt_then ?_
          exact rt_post [HA.of (VP.bool (greatL l))] [[]] [] [] rfl ⟨(rv_eq (congrArg HA.of (congrArg VP.bool (show true = greatL l from Eq.symm (by unfold greatL; rw [hle, cond_false]; exact any_hit hx (by unfold bigA; (try rw [hb3]); (try rw [hb4]); (try rfl)))))) (rv_vp 33 rfl)), trivial⟩ (by decide) rfl rfl
        · have hc4 := of_decide_eq_false hb4
          rcases Bool.eq_false_or_eq_true (decide (((a.term.kids.length : Nat) : Int) > 12)) with hb5 | hb5
          · have hc5 := of_decide_eq_true hb5
            refine t_region (F := ⟨_, _, _, _, _, _⟩) [.own 101 (.val c4) (B_act6 a), .is (.tmp 4) (VP.ptr c4), .is (.tmp 8) (VP.eq v0 true true), .is (.tmp 9) (VP.int .i64 ((l.length : Nat) : Int)), .is (.tmp 10) (VP.int .i64 ((k : Nat) : Int)), .bor (.val v0) (S_act6 l), .is (.tmp 11) (VP.bool (decide (((k : Nat) : Int) < ((l.length : Nat) : Int)))), .pt 12 (.row (.val v0) (k * 8)), .is (.tmp 13) (VP.agg [VP.int .i64 a.what, VP.str a.name, O_int a.args, VP.int .i64 a.res, VP.int .i64 a.term.op, VP.int .i64 a.term.fn, O_int a.term.kids, VP.str a.term.num])] [] [(0, .pt 14 (.blk (.val c4) 1)), (1, .is (.tmp 15) (VP.str a.name)), (2, .is (.tmp 16) (VP.int .i64 ((a.name.size : Nat) : Int))), (3, .is (.tmp 17) (VP.bool (decide (((a.name.size : Nat) : Int) > 60)))), (4, .is (.tmp 18) (VP.bool (decide (((a.name.size : Nat) : Int) > 60)))), (5, .pt 19 (.blk (.val c4) 2)), (6, .is (.tmp 20) (O_int a.args)), (7, .is (.tmp 21) (VP.int .i64 ((a.args.length : Nat) : Int))), (8, .is (.tmp 22) (VP.bool (decide (((a.args.length : Nat) : Int) > 12)))), (9, .is (.tmp 23) (VP.bool (decide (((a.args.length : Nat) : Int) > 12)))), (10, .is (.tmp 24) (VP.bool (decide (((a.args.length : Nat) : Int) > 12)))), (11, .pt 25 (.blk (.val c4) 4)), (12, .pt 26 (.blk (.val c4) 6)), (13, .is (.tmp 27) (O_int a.term.kids)), (14, .is (.tmp 28) (VP.int .i64 ((a.term.kids.length : Nat) : Int))), (15, .is (.tmp 29) (VP.bool (decide (((a.term.kids.length : Nat) : Int) > 12)))), (16, .is (.tmp 30) (VP.bool (decide (((a.term.kids.length : Nat) : Int) > 12)))), (17, .is (.tmp 31) (VP.bool (decide (((a.term.kids.length : Nat) : Int) > 12)))), (18, .is (.tmp 32) (VP.undef)), (19, .is (.tmp 33) (VP.undef)), (20, .is (.tmp 34) (VP.undef)), (21, .is (.tmp 35) (VP.undef)), (22, .is (.tmp 36) (VP.undef)), (23, .is (.tmp 37) (VP.bool true))] [] [0, 1, 2, 3, 4, 5, 6, 7, 8] [] [[], [0], [0, 1], [0, 1, 2], [0, 1, 2, 3], [0, 1, 2, 3, 4], [0, 1, 2, 3, 4, 5], [0, 1, 2, 3, 4, 5, 6], [0, 1, 2, 3, 4, 5, 6, 7], [0, 1, 2, 3, 4, 5, 6, 7, 8], [0, 1, 2, 3, 4, 5, 6, 7, 8, 9], [0, 1, 2, 3, 4, 5, 6, 7, 8, 9, 10], [0, 1, 2, 3, 4, 5, 6, 7, 8, 9, 10, 11], [0, 1, 2, 3, 4, 5, 6, 7, 8, 9, 10, 11, 12], [0, 1, 2, 3, 4, 5, 6, 7, 8, 9, 10, 11, 12, 13], [0, 1, 2, 3, 4, 5, 6, 7, 8, 9, 10, 11, 12, 13, 14], [0, 1, 2, 3, 4, 5, 6, 7, 8, 9, 10, 11, 12, 13, 14, 15], [0, 1, 2, 3, 4, 5, 6, 7, 8, 9, 10, 11, 12, 13, 14, 15, 16], [0, 1, 2, 3, 4, 5, 6, 7, 8, 9, 10, 11, 12, 13, 14, 15, 16, 17], [0, 1, 2, 3, 4, 5, 6, 7, 8, 9, 10, 11, 12, 13, 14, 15, 16, 17, 18], [0, 1, 2, 3, 4, 5, 6, 7, 8, 9, 10, 11, 12, 13, 14, 15, 16, 17, 18, 19], [0, 1, 2, 3, 4, 5, 6, 7, 8, 9, 10, 11, 12, 13, 14, 15, 16, 17, 18, 19, 20], [0, 1, 2, 3, 4, 5, 6, 7, 8, 9, 10, 11, 12, 13, 14, 15, 16, 17, 18, 19, 20, 21], [0, 1, 2, 3, 4, 5, 6, 7, 8, 9, 10, 11, 12, 13, 14, 15, 16, 17, 18, 19, 20, 21, 22]] [[1, 2, 3, 4, 5, 6, 7, 8, 9, 10, 11, 12, 13, 14, 15, 16, 17, 18, 19, 20, 21, 22, 23], [2, 3, 4, 5, 6, 7, 8, 9, 10, 11, 12, 13, 14, 15, 16, 17, 18, 19, 20, 21, 22, 23], [3, 4, 5, 6, 7, 8, 9, 10, 11, 12, 13, 14, 15, 16, 17, 18, 19, 20, 21, 22, 23], [4, 5, 6, 7, 8, 9, 10, 11, 12, 13, 14, 15, 16, 17, 18, 19, 20, 21, 22, 23], [5, 6, 7, 8, 9, 10, 11, 12, 13, 14, 15, 16, 17, 18, 19, 20, 21, 22, 23], [6, 7, 8, 9, 10, 11, 12, 13, 14, 15, 16, 17, 18, 19, 20, 21, 22, 23], [7, 8, 9, 10, 11, 12, 13, 14, 15, 16, 17, 18, 19, 20, 21, 22, 23], [8, 9, 10, 11, 12, 13, 14, 15, 16, 17, 18, 19, 20, 21, 22, 23], [9, 10, 11, 12, 13, 14, 15, 16, 17, 18, 19, 20, 21, 22, 23], [10, 11, 12, 13, 14, 15, 16, 17, 18, 19, 20, 21, 22, 23], [11, 12, 13, 14, 15, 16, 17, 18, 19, 20, 21, 22, 23], [12, 13, 14, 15, 16, 17, 18, 19, 20, 21, 22, 23], [13, 14, 15, 16, 17, 18, 19, 20, 21, 22, 23], [14, 15, 16, 17, 18, 19, 20, 21, 22, 23], [15, 16, 17, 18, 19, 20, 21, 22, 23], [16, 17, 18, 19, 20, 21, 22, 23], [17, 18, 19, 20, 21, 22, 23], [18, 19, 20, 21, 22, 23], [19, 20, 21, 22, 23], [20, 21, 22, 23], [21, 22, 23], [22, 23], [23], []] rfl rfl follow rfl ⟨
              .inl ⟨wants_plain rfl, does_field _ _ _ 1 DagM_f_collatorlaw06_Act_1 rfl rfl rfl rfl rfl rfl (pt_ptr (ar_tmp (av_fs 1 rfl)))⟩,
              .inl ⟨wants_plain rfl, does_loadOne _ DagM_one_string rfl rfl rfl rfl rfl (pt_pt (av_rs 0 0 rfl rfl)) (rds_box (off := 1) (av_fs 0 rfl) (hq_one rfl))⟩,
              .inl ⟨wants_plain rfl, does_lenStr _ _ Try.underlying9 rfl rfl rfl rfl rfl (ar_tmp (av_rs 1 1 rfl rfl))⟩,
              .inl ⟨wants_plain rfl, does_cmp (m := ((a.name.size : Nat) : Int)) (n := 60) _ _ _ _ _ rfl rfl rfl rfl rfl rfl .i64 (ar_tmp (av_rs 2 2 rfl rfl)) (ar_const (fun _ _ => rfl))⟩,
              .inl ⟨wants_plain rfl, does_move _ (.inl rfl) rfl rfl rfl rfl (ar_tmp (av_rs 3 3 rfl rfl))⟩,
              .inl ⟨wants_guard false rfl rfl rfl (av_bool hb3 (av_rs 4 4 rfl rfl)), does_field _ _ _ 2 DagM_f_collatorlaw06_Act_2 rfl rfl rfl rfl rfl rfl (pt_ptr (ar_tmp (av_fs 1 rfl)))⟩,
              .inl ⟨wants_guard false rfl rfl rfl (av_bool hb3 (av_rs 4 4 rfl rfl)), does_loadOne _ DagM_one___int rfl rfl rfl rfl rfl (pt_pt (av_rs 5 5 rfl rfl)) (rds_box (off := 2) (av_fs 0 rfl) (hq_one rfl))⟩,
              .inl ⟨wants_guard false rfl rfl rfl (av_bool hb3 (av_rs 4 4 rfl rfl)), does_len _ _ (by kernel_rfl) rfl rfl rfl rfl rfl (sl_ro (av_rs 6 6 rfl rfl) (flat_nil_iff cInt_len (by decide) _))⟩,
              .inl ⟨wants_guard false rfl rfl rfl (av_bool hb3 (av_rs 4 4 rfl rfl)), does_cmp (m := ((a.args.length : Nat) : Int)) (n := 12) _ _ _ _ _ rfl rfl rfl rfl rfl rfl .i64 (ar_tmp (av_rs 7 7 rfl rfl)) (ar_const (fun _ _ => rfl))⟩,
              .inl ⟨wants_plain rfl, does_pick false _ _ _ rfl rfl rfl rfl rfl (ar_tmp (av_bool hb3 (av_rs 4 4 rfl rfl))) (ar_tmp (av_rs 8 8 rfl rfl))⟩,
              .inl ⟨wants_plain rfl, does_move _ (.inl rfl) rfl rfl rfl rfl (ar_tmp (av_rs 9 9 rfl rfl))⟩,
              .inl ⟨wants_guard false rfl rfl rfl (av_bool hb4 (av_rs 10 10 rfl rfl)), does_field _ _ _ 4 DagM_f_collatorlaw06_Act_4 rfl rfl rfl rfl rfl rfl (pt_ptr (ar_tmp (av_fs 1 rfl)))⟩,
              .inl ⟨wants_guard false rfl rfl rfl (av_bool hb4 (av_rs 10 10 rfl rfl)), does_field _ _ _ 2 DagM_f_api_Term_2 rfl rfl rfl rfl rfl rfl (pt_pt (av_rs 11 11 rfl rfl))⟩,
              .inl ⟨wants_guard false rfl rfl rfl (av_bool hb4 (av_rs 10 10 rfl rfl)), does_loadOne _ DagM_one___int rfl rfl rfl rfl rfl (pt_pt (av_rs 12 12 rfl rfl)) (rds_box (off := 6) (av_fs 0 rfl) (hq_one rfl))⟩,
              .inl ⟨wants_guard false rfl rfl rfl (av_bool hb4 (av_rs 10 10 rfl rfl)), does_len _ _ (by kernel_rfl) rfl rfl rfl rfl rfl (sl_ro (av_rs 13 13 rfl rfl) (flat_nil_iff cInt_len (by decide) _))⟩,
              .inl ⟨wants_guard false rfl rfl rfl (av_bool hb4 (av_rs 10 10 rfl rfl)), does_cmp (m := ((a.term.kids.length : Nat) : Int)) (n := 12) _ _ _ _ _ rfl rfl rfl rfl rfl rfl .i64 (ar_tmp (av_rs 14 14 rfl rfl)) (ar_const (fun _ _ => rfl))⟩,
              .inl ⟨wants_plain rfl, does_pick false _ _ _ rfl rfl rfl rfl rfl (ar_tmp (av_bool hb4 (av_rs 10 10 rfl rfl))) (ar_tmp (av_rs 15 15 rfl rfl))⟩,
              .inl ⟨wants_plain rfl, does_move _ (.inl rfl) rfl rfl rfl rfl (ar_tmp (av_rs 16 16 rfl rfl))⟩,
              .inr (skips_guardU true rfl rfl rfl (av_bool hb5 (av_rs 17 17 rfl rfl)) rfl rfl rfl rfl),
              .inr (skips_guardU true rfl rfl rfl (av_bool hb5 (av_rs 17 17 rfl rfl)) rfl rfl rfl rfl),
              .inr (skips_guardU true rfl rfl rfl (av_bool hb5 (av_rs 17 17 rfl rfl)) rfl rfl rfl rfl),
              .inr (skips_guardU true rfl rfl rfl (av_bool hb5 (av_rs 17 17 rfl rfl)) rfl rfl rfl rfl),
              .inr (skips_guardU true rfl rfl rfl (av_bool hb5 (av_rs 17 17 rfl rfl)) rfl rfl rfl rfl),
              .inl ⟨wants_plain rfl, does_pick true _ _ _ rfl rfl rfl rfl rfl (ar_tmp (av_bool hb5 (av_rs 17 17 rfl rfl))) (ar_const (fun _ _ => rfl))⟩,
              trivial⟩ ?_
            refine nx_then ?_
            refine t_cond_t 32 rfl ?_
            refine t_seq ?_
            refine t_region (F := ⟨_, _, _, _, _, _⟩) [.own 101 (.val c4) (B_act6 a), .is (.tmp 4) (VP.ptr c4), .is (.tmp 8) (VP.eq v0 true true), .is (.tmp 9) (VP.int .i64 ((l.length : Nat) : Int)), .is (.tmp 10) (VP.int .i64 ((k : Nat) : Int)), .bor (.val v0) (S_act6 l), .is (.tmp 11) (VP.bool (decide (((k : Nat) : Int) < ((l.length : Nat) : Int)))), .pt 12 (.row (.val v0) (k * 8)), .is (.tmp 13) (VP.agg [VP.int .i64 a.what, VP.str a.name, O_int a.args, VP.int .i64 a.res, VP.int .i64 a.term.op, VP.int .i64 a.term.fn, O_int a.term.kids, VP.str a.term.num]), .pt 14 (.blk (.val c4) 1), .is (.tmp 15) (VP.str a.name), .is (.tmp 16) (VP.int .i64 ((a.name.size : Nat) : Int)), .is (.tmp 17) (VP.bool (decide (((a.name.size : Nat) : Int) > 60))), .is (.tmp 18) (VP.bool (decide (((a.name.size : Nat) : Int) > 60))), .pt 19 (.blk (.val c4) 2), .is (.tmp 20) (O_int a.args), .is (.tmp 21) (VP.int .i64 ((a.args.length : Nat) : Int)), .is (.tmp 22) (VP.bool (decide (((a.args.length : Nat) : Int) > 12))), .is (.tmp 23) (VP.bool (decide (((a.args.length : Nat) : Int) > 12))), .is (.tmp 24) (VP.bool (decide (((a.args.length : Nat) : Int) > 12))), .pt 25 (.blk (.val c4) 4), .pt 26 (.blk (.val c4) 6), .is (.tmp 27) (O_int a.term.kids), .is (.tmp 28) (VP.int .i64 ((a.term.kids.length : Nat) : Int)), .is (.tmp 29) (VP.bool (decide (((a.term.kids.length : Nat) : Int) > 12))), .is (.tmp 30) (VP.bool (decide (((a.term.kids.length : Nat) : Int) > 12))), .is (.tmp 31) (VP.bool (decide (((a.term.kids.length : Nat) : Int) > 12))), .is (.tmp 32) (VP.undef), .is (.tmp 33) (VP.undef), .is (.tmp 34) (VP.undef), .is (.tmp 35) (VP.undef), .is (.tmp 36) (VP.undef), .is (.tmp 37) (VP.bool true)] [] [(0, .is (.tmp 2) (VP.bool true))] [] [0, 1, 2, 3, 4, 5, 6, 7, 8, 9, 10, 11, 12, 13, 14, 15, 16, 17, 18, 19, 20, 21, 22, 23, 24, 25, 26, 27, 28, 29, 30, 31, 32] [] [[]] [[]] rfl rfl follow rfl ⟨
              .inl ⟨wants_plain rfl, does_move _ (.inr rfl) rfl rfl rfl rfl (ar_const (fun _ _ => rfl))⟩,
              trivial⟩ ?_
            refine nx_then ?_
            refine t_ret ?_
            refine rt_block ?_
            refine rt_then ?_
            refine rt_then ?_
            refine rt_block ?_
            refine rt_then ?_
            exact rt_post [HA.of (VP.bool (greatL l))] [[]] [] [] rfl ⟨(rv_eq (congrArg HA.of (congrArg VP.bool (show true = greatL l from Eq.symm (by unfold greatL; rw [hle, cond_false]; exact any_hit hx (by unfold bigA; (try rw [hb3]); (try rw [hb4]); (try rw [hb5]); (try rfl)))))) (rv_vp 33 rfl)), trivial⟩ (by decide) rfl rfl
          · have hc5 := of_decide_eq_false hb5
            refine t_region (F := ⟨_, _, _, _, _, _⟩) [.own 101 (.val c4) (B_act6 a), .is (.tmp 4) (VP.ptr c4), .is (.tmp 8) (VP.eq v0 true true), .is (.tmp 9) (VP.int .i64 ((l.length : Nat) : Int)), .is (.tmp 10) (VP.int .i64 ((k : Nat) : Int)), .bor (.val v0) (S_act6 l), .is (.tmp 11) (VP.bool (decide (((k : Nat) : Int) < ((l.length : Nat) : Int)))), .pt 12 (.row (.val v0) (k * 8)), .is (.tmp 13) (VP.agg [VP.int .i64 a.what, VP.str a.name, O_int a.args, VP.int .i64 a.res, VP.int .i64 a.term.op, VP.int .i64 a.term.fn, O_int a.term.kids, VP.str a.term.num])] [] [(0, .pt 14 (.blk (.val c4) 1)), (1, .is (.tmp 15) (VP.str a.name)), (2, .is (.tmp 16) (VP.int .i64 ((a.name.size : Nat) : Int))), (3, .is (.tmp 17) (VP.bool (decide (((a.name.size : Nat) : Int) > 60)))), (4, .is (.tmp 18) (VP.bool (decide (((a.name.size : Nat) : Int) > 60)))), (5, .pt 19 (.blk (.val c4) 2)), (6, .is (.tmp 20) (O_int a.args)), (7, .is (.tmp 21) (VP.int .i64 ((a.args.length : Nat) : Int))), (8, .is (.tmp 22) (VP.bool (decide (((a.args.length : Nat) : Int) > 12)))), (9, .is (.tmp 23) (VP.bool (decide (((a.args.length : Nat) : Int) > 12)))), (10, .is (.tmp 24) (VP.bool (decide (((a.args.length : Nat) : Int) > 12)))), (11, .pt 25 (.blk (.val c4) 4)), (12, .pt 26 (.blk (.val c4) 6)), (13, .is (.tmp 27) (O_int a.term.kids)), (14, .is (.tmp 28) (VP.int .i64 ((a.term.kids.length : Nat) : Int))), (15, .is (.tmp 29) (VP.bool (decide (((a.term.kids.length : Nat) : Int) > 12)))), (16, .is (.tmp 30) (VP.bool (decide (((a.term.kids.length : Nat) : Int) > 12)))), (17, .is (.tmp 31) (VP.bool (decide (((a.term.kids.length : Nat) : Int) > 12)))), (18, .pt 32 (.blk (.val c4) 4)), (19, .pt 33 (.blk (.val c4) 7)), (20, .is (.tmp 34) (VP.str a.term.num)), (21, .is (.tmp 35) (VP.int .i64 ((a.term.num.size : Nat) : Int))), (22, .is (.tmp 36) (VP.bool (decide (((a.term.num.size : Nat) : Int) > 60)))), (23, .is (.tmp 37) (VP.bool (decide (((a.term.num.size : Nat) : Int) > 60))))] [] [0, 1, 2, 3, 4, 5, 6, 7, 8] [] [[], [0], [0, 1], [0, 1, 2], [0, 1, 2, 3], [0, 1, 2, 3, 4], [0, 1, 2, 3, 4, 5], [0, 1, 2, 3, 4, 5, 6], [0, 1, 2, 3, 4, 5, 6, 7], [0, 1, 2, 3, 4, 5, 6, 7, 8], [0, 1, 2, 3, 4, 5, 6, 7, 8, 9], [0, 1, 2, 3, 4, 5, 6, 7, 8, 9, 10], [0, 1, 2, 3, 4, 5, 6, 7, 8, 9, 10, 11], [0, 1, 2, 3, 4, 5, 6, 7, 8, 9, 10, 11, 12], [0, 1, 2, 3, 4, 5, 6, 7, 8, 9, 10, 11, 12, 13], [0, 1, 2, 3, 4, 5, 6, 7, 8, 9, 10, 11, 12, 13, 14], [0, 1, 2, 3, 4, 5, 6, 7, 8, 9, 10, 11, 12, 13, 14, 15], [0, 1, 2, 3, 4, 5, 6, 7, 8, 9, 10, 11, 12, 13, 14, 15, 16], [0, 1, 2, 3, 4, 5, 6, 7, 8, 9, 10, 11, 12, 13, 14, 15, 16, 17], [0, 1, 2, 3, 4, 5, 6, 7, 8, 9, 10, 11, 12, 13, 14, 15, 16, 17, 18], [0, 1, 2, 3, 4, 5, 6, 7, 8, 9, 10, 11, 12, 13, 14, 15, 16, 17, 18, 19], [0, 1, 2, 3, 4, 5, 6, 7, 8, 9, 10, 11, 12, 13, 14, 15, 16, 17, 18, 19, 20], [0, 1, 2, 3, 4, 5, 6, 7, 8, 9, 10, 11, 12, 13, 14, 15, 16, 17, 18, 19, 20, 21], [0, 1, 2, 3, 4, 5, 6, 7, 8, 9, 10, 11, 12, 13, 14, 15, 16, 17, 18, 19, 20, 21, 22]] [[1, 2, 3, 4, 5, 6, 7, 8, 9, 10, 11, 12, 13, 14, 15, 16, 17, 18, 19, 20, 21, 22, 23], [2, 3, 4, 5, 6, 7, 8, 9, 10, 11, 12, 13, 14, 15, 16, 17, 18, 19, 20, 21, 22, 23], [3, 4, 5, 6, 7, 8, 9, 10, 11, 12, 13, 14, 15, 16, 17, 18, 19, 20, 21, 22, 23], [4, 5, 6, 7, 8, 9, 10, 11, 12, 13, 14, 15, 16, 17, 18, 19, 20, 21, 22, 23], [5, 6, 7, 8, 9, 10, 11, 12, 13, 14, 15, 16, 17, 18, 19, 20, 21, 22, 23], [6, 7, 8, 9, 10, 11, 12, 13, 14, 15, 16, 17, 18, 19, 20, 21, 22, 23], [7, 8, 9, 10, 11, 12, 13, 14, 15, 16, 17, 18, 19, 20, 21, 22, 23], [8, 9, 10, 11, 12, 13, 14, 15, 16, 17, 18, 19, 20, 21, 22, 23], [9, 10, 11, 12, 13, 14, 15, 16, 17, 18, 19, 20, 21, 22, 23], [10, 11, 12, 13, 14, 15, 16, 17, 18, 19, 20, 21, 22, 23], [11, 12, 13, 14, 15, 16, 17, 18, 19, 20, 21, 22, 23], [12, 13, 14, 15, 16, 17, 18, 19, 20, 21, 22, 23], [13, 14, 15, 16, 17, 18, 19, 20, 21, 22, 23], [14, 15, 16, 17, 18, 19, 20, 21, 22, 23], [15, 16, 17, 18, 19, 20, 21, 22, 23], [16, 17, 18, 19, 20, 21, 22, 23], [17, 18, 19, 20, 21, 22, 23], [18, 19, 20, 21, 22, 23], [19, 20, 21, 22, 23], [20, 21, 22, 23], [21, 22, 23], [22, 23], [23], []] rfl rfl follow rfl ⟨
              .inl ⟨wants_plain rfl, does_field _ _ _ 1 DagM_f_collatorlaw06_Act_1 rfl rfl rfl rfl rfl rfl (pt_ptr (ar_tmp (av_fs 1 rfl)))⟩,
              .inl ⟨wants_plain rfl, does_loadOne _ DagM_one_string rfl rfl rfl rfl rfl (pt_pt (av_rs 0 0 rfl rfl)) (rds_box (off := 1) (av_fs 0 rfl) (hq_one rfl))⟩,
              .inl ⟨wants_plain rfl, does_lenStr _ _ Try.underlying9 rfl rfl rfl rfl rfl (ar_tmp (av_rs 1 1 rfl rfl))⟩,
              .inl ⟨wants_plain rfl, does_cmp (m := ((a.name.size : Nat) : Int)) (n := 60) _ _ _ _ _ rfl rfl rfl rfl rfl rfl .i64 (ar_tmp (av_rs 2 2 rfl rfl)) (ar_const (fun _ _ => rfl))⟩,
              .inl ⟨wants_plain rfl, does_move _ (.inl rfl) rfl rfl rfl rfl (ar_tmp (av_rs 3 3 rfl rfl))⟩,
              .inl ⟨wants_guard false rfl rfl rfl (av_bool hb3 (av_rs 4 4 rfl rfl)), does_field _ _ _ 2 DagM_f_collatorlaw06_Act_2 rfl rfl rfl rfl rfl rfl (pt_ptr (ar_tmp (av_fs 1 rfl)))⟩,
              .inl ⟨wants_guard false rfl rfl rfl (av_bool hb3 (av_rs 4 4 rfl rfl)), does_loadOne _ DagM_one___int rfl rfl rfl rfl rfl (pt_pt (av_rs 5 5 rfl rfl)) (rds_box (off := 2) (av_fs 0 rfl) (hq_one rfl))⟩,
              .inl ⟨wants_guard false rfl rfl rfl (av_bool hb3 (av_rs 4 4 rfl rfl)), does_len _ _ (by kernel_rfl) rfl rfl rfl rfl rfl (sl_ro (av_rs 6 6 rfl rfl) (flat_nil_iff cInt_len (by decide) _))⟩,
              .inl ⟨wants_guard false rfl rfl rfl (av_bool hb3 (av_rs 4 4 rfl rfl)), does_cmp (m := ((a.args.length : Nat) : Int)) (n := 12) _ _ _ _ _ rfl rfl rfl rfl rfl rfl .i64 (ar_tmp (av_rs 7 7 rfl rfl)) (ar_const (fun _ _ => rfl))⟩,
              .inl ⟨wants_plain rfl, does_pick false _ _ _ rfl rfl rfl rfl rfl (ar_tmp (av_bool hb3 (av_rs 4 4 rfl rfl))) (ar_tmp (av_rs 8 8 rfl rfl))⟩,
              .inl ⟨wants_plain rfl, does_move _ (.inl rfl) rfl rfl rfl rfl (ar_tmp (av_rs 9 9 rfl rfl))⟩,
              .inl ⟨wants_guard false rfl rfl rfl (av_bool hb4 (av_rs 10 10 rfl rfl)), does_field _ _ _ 4 DagM_f_collatorlaw06_Act_4 rfl rfl rfl rfl rfl rfl (pt_ptr (ar_tmp (av_fs 1 rfl)))⟩,
              .inl ⟨wants_guard false rfl rfl rfl (av_bool hb4 (av_rs 10 10 rfl rfl)), does_field _ _ _ 2 DagM_f_api_Term_2 rfl rfl rfl rfl rfl rfl (pt_pt (av_rs 11 11 rfl rfl))⟩,
              .inl ⟨wants_guard false rfl rfl rfl (av_bool hb4 (av_rs 10 10 rfl rfl)), does_loadOne _ DagM_one___int rfl rfl rfl rfl rfl (pt_pt (av_rs 12 12 rfl rfl)) (rds_box (off := 6) (av_fs 0 rfl) (hq_one rfl))⟩,
              .inl ⟨wants_guard false rfl rfl rfl (av_bool hb4 (av_rs 10 10 rfl rfl)), does_len _ _ (by kernel_rfl) rfl rfl rfl rfl rfl (sl_ro (av_rs 13 13 rfl rfl) (flat_nil_iff cInt_len (by decide) _))⟩,
              .inl ⟨wants_guard false rfl rfl rfl (av_bool hb4 (av_rs 10 10 rfl rfl)), does_cmp (m := ((a.term.kids.length : Nat) : Int)) (n := 12) _ _ _ _ _ rfl rfl rfl rfl rfl rfl .i64 (ar_tmp (av_rs 14 14 rfl rfl)) (ar_const (fun _ _ => rfl))⟩,
              .inl ⟨wants_plain rfl, does_pick false _ _ _ rfl rfl rfl rfl rfl (ar_tmp (av_bool hb4 (av_rs 10 10 rfl rfl))) (ar_tmp (av_rs 15 15 rfl rfl))⟩,
              .inl ⟨wants_plain rfl, does_move _ (.inl rfl) rfl rfl rfl rfl (ar_tmp (av_rs 16 16 rfl rfl))⟩,
              .inl ⟨wants_guard false rfl rfl rfl (av_bool hb5 (av_rs 17 17 rfl rfl)), does_field _ _ _ 4 DagM_f_collatorlaw06_Act_4 rfl rfl rfl rfl rfl rfl (pt_ptr (ar_tmp (av_fs 1 rfl)))⟩,
              .inl ⟨wants_guard false rfl rfl rfl (av_bool hb5 (av_rs 17 17 rfl rfl)), does_field _ _ _ 3 DagM_f_api_Term_3 rfl rfl rfl rfl rfl rfl (pt_pt (av_rs 18 18 rfl rfl))⟩,
              .inl ⟨wants_guard false rfl rfl rfl (av_bool hb5 (av_rs 17 17 rfl rfl)), does_loadOne _ DagM_one_string rfl rfl rfl rfl rfl (pt_pt (av_rs 19 19 rfl rfl)) (rds_box (off := 7) (av_fs 0 rfl) (hq_one rfl))⟩,
              .inl ⟨wants_guard false rfl rfl rfl (av_bool hb5 (av_rs 17 17 rfl rfl)), does_lenStr _ _ Try.underlying9 rfl rfl rfl rfl rfl (ar_tmp (av_rs 20 20 rfl rfl))⟩,
              .inl ⟨wants_guard false rfl rfl rfl (av_bool hb5 (av_rs 17 17 rfl rfl)), does_cmp (m := ((a.term.num.size : Nat) : Int)) (n := 60) _ _ _ _ _ rfl rfl rfl rfl rfl rfl .i64 (ar_tmp (av_rs 21 21 rfl rfl)) (ar_const (fun _ _ => rfl))⟩,
              .inl ⟨wants_plain rfl, does_pick false _ _ _ rfl rfl rfl rfl rfl (ar_tmp (av_bool hb5 (av_rs 17 17 rfl rfl))) (ar_tmp (av_rs 22 22 rfl rfl))⟩,
              trivial⟩ ?_
            refine nx_then ?_
            refine t_split 32 rfl (fun hb6 => ?_) (fun hb6 => ?_)
            · have hc6 := of_decide_eq_true hb6
              refine t_seq ?_
              refine t_region (F := ⟨_, _, _, _, _, _⟩) [.own 101 (.val c4) (B_act6 a), .is (.tmp 4) (VP.ptr c4), .is (.tmp 8) (VP.eq v0 true true), .is (.tmp 9) (VP.int .i64 ((l.length : Nat) : Int)), .is (.tmp 10) (VP.int .i64 ((k : Nat) : Int)), .bor (.val v0) (S_act6 l), .is (.tmp 11) (VP.bool (decide (((k : Nat) : Int) < ((l.length : Nat) : Int)))), .pt 12 (.row (.val v0) (k * 8)), .is (.tmp 13) (VP.agg [VP.int .i64 a.what, VP.str a.name, O_int a.args, VP.int .i64 a.res, VP.int .i64 a.term.op, VP.int .i64 a.term.fn, O_int a.term.kids, VP.str a.term.num]), .pt 14 (.blk (.val c4) 1), .is (.tmp 15) (VP.str a.name), .is (.tmp 16) (VP.int .i64 ((a.name.size : Nat) : Int)), .is (.tmp 17) (VP.bool (decide (((a.name.size : Nat) : Int) > 60))), .is (.tmp 18) (VP.bool (decide (((a.name.size : Nat) : Int) > 60))), .pt 19 (.blk (.val c4) 2), .is (.tmp 20) (O_int a.args), .is (.tmp 21) (VP.int .i64 ((a.args.length : Nat) : Int)), .is (.tmp 22) (VP.bool (decide (((a.args.length : Nat) : Int) > 12))), .is (.tmp 23) (VP.bool (decide (((a.args.length : Nat) : Int) > 12))), .is (.tmp 24) (VP.bool (decide (((a.args.length : Nat) : Int) > 12))), .pt 25 (.blk (.val c4) 4), .pt 26 (.blk (.val c4) 6), .is (.tmp 27) (O_int a.term.kids), .is (.tmp 28) (VP.int .i64 ((a.term.kids.length : Nat) : Int)), .is (.tmp 29) (VP.bool (decide (((a.term.kids.length : Nat) : Int) > 12))), .is (.tmp 30) (VP.bool (decide (((a.term.kids.length : Nat) : Int) > 12))), .is (.tmp 31) (VP.bool (decide (((a.term.kids.length : Nat) : Int) > 12))), .pt 32 (.blk (.val c4) 4), .pt 33 (.blk (.val c4) 7), .is (.tmp 34) (VP.str a.term.num), .is (.tmp 35) (VP.int .i64 ((a.term.num.size : Nat) : Int)), .is (.tmp 36) (VP.bool (decide (((a.term.num.size : Nat) : Int) > 60))), .is (.tmp 37) (VP.bool (decide (((a.term.num.size : Nat) : Int) > 60)))] [] [(0, .is (.tmp 2) (VP.bool true))] [] [0, 1, 2, 3, 4, 5, 6, 7, 8, 9, 10, 11, 12, 13, 14, 15, 16, 17, 18, 19, 20, 21, 22, 23, 24, 25, 26, 27, 28, 29, 30, 31, 32] [] [[]] [[]] rfl rfl follow rfl ⟨
                .inl ⟨wants_plain rfl, does_move _ (.inr rfl) rfl rfl rfl rfl (ar_const (fun _ _ => rfl))⟩,
                trivial⟩ ?_
              refine nx_then ?_
              refine t_ret ?_
              refine rt_block ?_
              refine rt_then ?_
              refine rt_then ?_
              refine rt_block ?_
              refine rt_then ?_
              exact rt_post [HA.of (VP.bool (greatL l))] [[]] [] [] rfl ⟨(rv_eq (congrArg HA.of (congrArg VP.bool (show true = greatL l from Eq.symm (by unfold greatL; rw [hle, cond_false]; exact any_hit hx (by unfold bigA; (try rw [hb3]); (try rw [hb4]); (try rw [hb5]); (try rw [hb6]); (try rfl)))))) (rv_vp 33 rfl)), trivial⟩ (by decide) rfl rfl
            · have hc6 := of_decide_eq_false hb6
              refine t_skip ?_
              refine nx_block ?_
              refine nx_then ?_
              refine t_region (F := ⟨_, _, _, _, _, _⟩) [.own 101 (.val c4) (B_act6 a), .is (.tmp 4) (VP.ptr c4), .is (.tmp 8) (VP.eq v0 true true), .is (.tmp 9) (VP.int .i64 ((l.length : Nat) : Int)), .bor (.val v0) (S_act6 l), .is (.tmp 11) (VP.bool (decide (((k : Nat) : Int) < ((l.length : Nat) : Int)))), .pt 12 (.row (.val v0) (k * 8)), .is (.tmp 13) (VP.agg [VP.int .i64 a.what, VP.str a.name, O_int a.args, VP.int .i64 a.res, VP.int .i64 a.term.op, VP.int .i64 a.term.fn, O_int a.term.kids, VP.str a.term.num]), .pt 14 (.blk (.val c4) 1), .is (.tmp 15) (VP.str a.name), .is (.tmp 16) (VP.int .i64 ((a.name.size : Nat) : Int)), .is (.tmp 17) (VP.bool (decide (((a.name.size : Nat) : Int) > 60))), .is (.tmp 18) (VP.bool (decide (((a.name.size : Nat) : Int) > 60))), .pt 19 (.blk (.val c4) 2), .is (.tmp 20) (O_int a.args), .is (.tmp 21) (VP.int .i64 ((a.args.length : Nat) : Int)), .is (.tmp 22) (VP.bool (decide (((a.args.length : Nat) : Int) > 12))), .is (.tmp 23) (VP.bool (decide (((a.args.length : Nat) : Int) > 12))), .is (.tmp 24) (VP.bool (decide (((a.args.length : Nat) : Int) > 12))), .pt 25 (.blk (.val c4) 4), .pt 26 (.blk (.val c4) 6), .is (.tmp 27) (O_int a.term.kids), .is (.tmp 28) (VP.int .i64 ((a.term.kids.length : Nat) : Int)), .is (.tmp 29) (VP.bool (decide (((a.term.kids.length : Nat) : Int) > 12))), .is (.tmp 30) (VP.bool (decide (((a.term.kids.length : Nat) : Int) > 12))), .is (.tmp 31) (VP.bool (decide (((a.term.kids.length : Nat) : Int) > 12))), .pt 32 (.blk (.val c4) 4), .pt 33 (.blk (.val c4) 7), .is (.tmp 34) (VP.str a.term.num), .is (.tmp 35) (VP.int .i64 ((a.term.num.size : Nat) : Int)), .is (.tmp 36) (VP.bool (decide (((a.term.num.size : Nat) : Int) > 60))), .is (.tmp 37) (VP.bool (decide (((a.term.num.size : Nat) : Int) > 60)))] [(1, .is (.tmp 10) (VP.int .i64 ((k : Nat) : Int)))] [(0, .is (.tmp 38) (VP.int .i64 (((k + 1) : Nat) : Int))), (1, .is (.tmp 10) (VP.int .i64 (((k + 1) : Nat) : Int)))] [] [0, 1, 2, 3, 5, 6, 7, 8, 9, 10, 11, 12, 13, 14, 15, 16, 17, 18, 19, 20, 21, 22, 23, 24, 25, 26, 27, 28, 29, 30, 31, 32] [4] [[], [0]] [[1], []] rfl rfl follow rfl ⟨
                .inl ⟨wants_plain rfl, does_addE (m := ((k : Nat) : Int)) (n := 1) (x := (((k + 1) : Nat) : Int)) (by omega) _ _ _ _ rfl rfl rfl rfl rfl (by omega) (ar_tmp (av_os 0 1 rfl rfl)) (ar_const (fun _ _ => rfl))⟩,
                .inl ⟨wants_plain rfl, does_move _ (.inl rfl) rfl rfl rfl rfl (ar_tmp (av_rs 0 0 rfl rfl))⟩,
                trivial⟩ ?_
              refine nx_round (τ := {k : Nat // (decide (((l.length : Nat) : Int) > 80)) = false ∧ k ≤ l.length ∧ ∀ j y, j < k → l[j]? = some y → bigA y = false}) (I := fun ⟨k, _⟩ => [.is (.tmp 8) (VP.eq v0 true true), .is (.tmp 9) (VP.int .i64 ((l.length : Nat) : Int)), .is (.tmp 10) (VP.int .i64 ((k : Nat) : Int)), .bor (.val v0) (S_act6 l)]) (μ := fun ⟨k, _⟩ => l.length - k) (s := ⟨k, hle, hk, hno⟩) (⟨k + 1, hle, by omega, ixf_step hno hx (by unfold bigA; (try rw [hb3]); (try rw [hb4]); (try rw [hb5]); (try rw [hb6]); (try rfl))⟩) ?_ [2, 3, 33, 4] ?_
              · exact (show l.length - (k + 1) < l.length - k by omega)
              · exact rfl
    · have hc2 := of_decide_eq_false hb2
      refine t_exit ?_
      refine ex_then ?_
      refine ex_then ?_
      refine ex_block ?_
      refine nx_then ?_
      refine t_pick [3] rfl ?_
      refine t_seq ?_
      refine t_region (F := ⟨_, _, _, _, _, _⟩) [.bor (.val v0) (S_act6 l)] [] [(0, .is (.tmp 2) (VP.bool false))] [] [0] [] [[]] [[]] rfl rfl follow rfl ⟨
        .inl ⟨wants_plain rfl, does_move _ (.inr rfl) rfl rfl rfl rfl (ar_const (fun _ _ => rfl))⟩,
        trivial⟩ ?_
      refine nx_then ?_
      refine t_ret ?_
      exact rt_post [HA.of (VP.bool (greatL l))] [[]] [] [] rfl ⟨(rv_eq (congrArg HA.of (congrArg VP.bool (show false = greatL l from Eq.symm (by unfold greatL; rw [hle, cond_false]; exact any_miss hno (by omega))))) (rv_vp 1 rfl)), trivial⟩ (by decide) rfl rfl

set_option maxRecDepth 100000 in
set_option maxHeartbeats 4000000 in
theorem dl_speaks  : SpecO Try.prog 7 [] [] [] [] (HA.of (VP.bool true)) := by
  refine spec_of 41 Try.func7 rfl Try.ntmps7 rfl fun w0 S0 Z0 Bf => ?_
  refine t_seq ?_
  refine t_region (F := ⟨_, _, _, _, _, _⟩) [] [] [(0, .is (.tmp 0) (VP.bool false))] [] [] [] [[]] [[]] rfl rfl follow rfl ⟨
    .inl ⟨wants_plain rfl, does_move _ (.inr rfl) rfl rfl rfl rfl (ar_const (fun _ _ => rfl))⟩,
    trivial⟩ ?_
  refine nx_then ?_
  refine t_seq ?_
  refine t_region (F := ⟨_, _, _, _, _, _⟩) [.is (.tmp 0) (VP.bool false)] [] [(0, .own 101 (.tmp 6) (Arn (newA 9))), (1, .eq 1 (.tmp 6))] [] [0] [] [[], [0]] [[1], []] rfl rfl follow rfl ⟨
    .inl ⟨wants_plain rfl, does_callG [] [] [] 101 [0] (da_New 9) rfl DagM_hb_collator_dag_New rfl rfl rfl rfl rfl ar_clo (ars_cons (pa_vp (ar_const (fun _ _ => rfl))) ars_nil) trivial trivial⟩,
    .inl ⟨wants_plain rfl, does_eqTmp (k := 6) _ rfl (.inr rfl) rfl rfl rfl rfl rfl⟩,
    trivial⟩ ?_
  refine nx_then ?_
  refine t_pick [1, 0, 2] rfl ?_
  refine t_nameP rfl fun va => ?_
  refine t_pick [3, 1, 0, 2] rfl ?_
  refine t_eq ?_
  refine t_pick [0, 2, 3] rfl ?_
  refine t_seq ?_
  refine t_region (F := ⟨_, _, _, _, _, _⟩) [.is (.tmp 1) (VP.ptr va), .is (.tmp 0) (VP.bool false)] [(2, .own 101 (.val va) (Arn (newA 9)))] [(0, .is (.tmp 8) (VP.ptr va)), (1, .is (.tmp 9) (VP.agg [VP.int .i64 1, VP.int .i64 0, VP.nilS, VP.str (ByteArray.mk #[])])), (2, .own 102 (.tmp 10) (HA.of (VP.tup [VP.int .i64 ((newA 9).termR (⟨1, 0, [], (ByteArray.mk #[])⟩ : TermD)), VP.int .i64 ((newA 9).termE (⟨1, 0, [], (ByteArray.mk #[])⟩ : TermD))]))), (2, .own 101 (.val va) (Arn ((newA 9).term (⟨1, 0, [], (ByteArray.mk #[])⟩ : TermD)))), (3, .is (.tmp 7) (VP.tup [VP.int .i64 ((newA 9).termR (⟨1, 0, [], (ByteArray.mk #[])⟩ : TermD)), VP.int .i64 ((newA 9).termE (⟨1, 0, [], (ByteArray.mk #[])⟩ : TermD))])), (4, .is (.tmp 11) (VP.int .i64 ((newA 9).termR (⟨1, 0, [], (ByteArray.mk #[])⟩ : TermD)))), (5, .is (.tmp 12) (VP.int .i64 ((newA 9).termE (⟨1, 0, [], (ByteArray.mk #[])⟩ : TermD)))), (6, .is (.tmp 2) (VP.int .i64 ((newA 9).termR (⟨1, 0, [], (ByteArray.mk #[])⟩ : TermD)))), (7, .is (.tmp 3) (VP.int .i64 ((newA 9).termE (⟨1, 0, [], (ByteArray.mk #[])⟩ : TermD))))] [] [0, 2] [1] [[], [], [0, 1], [0, 1, 2], [0, 1, 2, 3], [0, 1, 2, 3], [0, 1, 2, 3, 4], [0, 1, 2, 3, 4, 5, 6]] [[2, 3, 4, 5, 6, 7], [2, 3, 4, 5, 6, 7], [3, 4, 5, 6, 7], [4, 5, 6, 7], [6, 7], [7], [7], []] rfl rfl follow rfl ⟨
    .inl ⟨wants_plain rfl, does_move _ (.inl rfl) rfl rfl rfl rfl (ar_tmp (av_fs 0 rfl))⟩,
    .inl ⟨wants_plain rfl, does_build [VP.int .i64 0, VP.int .i64 0, VP.nilS, VP.str (ByteArray.mk #[])] DagM_zero_api_Term DagM_pl_api_Term rfl rfl rfl rfl rfl (fun _ _ => ⟨rfl, rfl, rfl, rfl, trivial⟩) (.cons 0 [HA.of (VP.int .i64 1)] none rfl rfl (cv_one rfl (mv_vp (ar_const (fun _ _ => rfl)))) (.nil _))⟩,
    .inl ⟨wants_plain rfl, does_callG [] [101] [101] 102 [0, 1] (da_Term (v := va) (d := (newA 9)) (⟨1, 0, [], (ByteArray.mk #[])⟩ : TermD) (newA_ok 9 (by decide)) (by decide) (by decide)) rfl DagM_hb___collator_dag_Arena__Term rfl rfl rfl rfl rfl ar_clo (ars_cons (pa_vp (ar_tmp (av_rs 0 0 rfl rfl))) (ars_cons (pa_vp (ar_w (ar_tmp (av_rs 1 1 rfl rfl)) term_nil)) ars_nil)) trivial ⟨(av_os 0 2 rfl rfl), trivial⟩⟩,
    .inl ⟨wants_plain rfl, does_move _ (.inl rfl) rfl rfl rfl rfl (ar_of (av_rs 2 2 rfl rfl))⟩,
    .inl ⟨wants_plain rfl, does_extract (ps := [VP.int .i64 ((newA 9).termR (⟨1, 0, [], (ByteArray.mk #[])⟩ : TermD)), VP.int .i64 ((newA 9).termE (⟨1, 0, [], (ByteArray.mk #[])⟩ : TermD))]) _ 0 rfl rfl rfl rfl rfl (ar_tmp (av_rs 4 3 rfl rfl)) rfl⟩,
    .inl ⟨wants_plain rfl, does_extract (ps := [VP.int .i64 ((newA 9).termR (⟨1, 0, [], (ByteArray.mk #[])⟩ : TermD)), VP.int .i64 ((newA 9).termE (⟨1, 0, [], (ByteArray.mk #[])⟩ : TermD))]) _ 1 rfl rfl rfl rfl rfl (ar_tmp (av_rs 4 3 rfl rfl)) rfl⟩,
    .inl ⟨wants_plain rfl, does_move _ (.inr rfl) rfl rfl rfl rfl (ar_tmp (av_rs 5 4 rfl rfl))⟩,
    .inl ⟨wants_plain rfl, does_move _ (.inr rfl) rfl rfl rfl rfl (ar_tmp (av_rs 6 5 rfl rfl))⟩,
    trivial⟩ ?_
  refine t_pick [0, 1, 4, 5, 9, 10] rfl ?_
  refine nx_then ?_
  refine t_pick [0, 1, 3, 4, 5] rfl ?_
  refine t_seq ?_
  refine t_region (F := ⟨_, _, _, _, _, _⟩) [.is (.tmp 1) (VP.ptr va), .is (.tmp 0) (VP.bool false), .is (.tmp 2) (VP.int .i64 ((newA 9).termR (⟨1, 0, [], (ByteArray.mk #[])⟩ : TermD))), .is (.tmp 3) (VP.int .i64 ((newA 9).termE (⟨1, 0, [], (ByteArray.mk #[])⟩ : TermD)))] [(2, .own 101 (.val va) (Arn ((newA 9).term (⟨1, 0, [], (ByteArray.mk #[])⟩ : TermD))))] [(0, .is (.tmp 14) (VP.ptr va)), (1, .is (.tmp 15) (VP.agg [VP.int .i64 1, VP.int .i64 0, VP.nilS, VP.str (ByteArray.mk #[])])), (2, .own 103 (.tmp 16) (HA.of (VP.tup [VP.int .i64 (((newA 9).term (⟨1, 0, [], (ByteArray.mk #[])⟩ : TermD)).termR (⟨1, 0, [], (ByteArray.mk #[])⟩ : TermD)), VP.int .i64 (((newA 9).term (⟨1, 0, [], (ByteArray.mk #[])⟩ : TermD)).termE (⟨1, 0, [], (ByteArray.mk #[])⟩ : TermD))]))), (2, .own 101 (.val va) (Arn (((newA 9).term (⟨1, 0, [], (ByteArray.mk #[])⟩ : TermD)).term (⟨1, 0, [], (ByteArray.mk #[])⟩ : TermD)))), (3, .is (.tmp 13) (VP.tup [VP.int .i64 (((newA 9).term (⟨1, 0, [], (ByteArray.mk #[])⟩ : TermD)).termR (⟨1, 0, [], (ByteArray.mk #[])⟩ : TermD)), VP.int .i64 (((newA 9).term (⟨1, 0, [], (ByteArray.mk #[])⟩ : TermD)).termE (⟨1, 0, [], (ByteArray.mk #[])⟩ : TermD))])), (4, .is (.tmp 17) (VP.int .i64 (((newA 9).term (⟨1, 0, [], (ByteArray.mk #[])⟩ : TermD)).termR (⟨1, 0, [], (ByteArray.mk #[])⟩ : TermD)))), (5, .is (.tmp 18) (VP.int .i64 (((newA 9).term (⟨1, 0, [], (ByteArray.mk #[])⟩ : TermD)).termE (⟨1, 0, [], (ByteArray.mk #[])⟩ : TermD)))), (6, .is (.tmp 4) (VP.int .i64 (((newA 9).term (⟨1, 0, [], (ByteArray.mk #[])⟩ : TermD)).termR (⟨1, 0, [], (ByteArray.mk #[])⟩ : TermD)))), (7, .is (.tmp 5) (VP.int .i64 (((newA 9).term (⟨1, 0, [], (ByteArray.mk #[])⟩ : TermD)).termE (⟨1, 0, [], (ByteArray.mk #[])⟩ : TermD))))] [] [0, 1, 3, 4] [2] [[], [], [0, 1], [0, 1, 2], [0, 1, 2, 3], [0, 1, 2, 3], [0, 1, 2, 3, 4], [0, 1, 2, 3, 4, 5, 6]] [[2, 3, 4, 5, 6, 7], [2, 3, 4, 5, 6, 7], [3, 4, 5, 6, 7], [4, 5, 6, 7], [6, 7], [7], [7], []] rfl rfl follow rfl ⟨
    .inl ⟨wants_plain rfl, does_move _ (.inl rfl) rfl rfl rfl rfl (ar_tmp (av_fs 0 rfl))⟩,
    .inl ⟨wants_plain rfl, does_build [VP.int .i64 0, VP.int .i64 0, VP.nilS, VP.str (ByteArray.mk #[])] DagM_zero_api_Term DagM_pl_api_Term rfl rfl rfl rfl rfl (fun _ _ => ⟨rfl, rfl, rfl, rfl, trivial⟩) (.cons 0 [HA.of (VP.int .i64 1)] none rfl rfl (cv_one rfl (mv_vp (ar_const (fun _ _ => rfl)))) (.nil _))⟩,
    .inl ⟨wants_plain rfl, does_callG [] [101] [101] 103 [0, 1] (da_Term (v := va) (d := ((newA 9).term (⟨1, 0, [], (ByteArray.mk #[])⟩ : TermD))) (⟨1, 0, [], (ByteArray.mk #[])⟩ : TermD) (term_ok (newA_ok 9 (by decide)) _) (by decide) (by decide)) rfl DagM_hb___collator_dag_Arena__Term rfl rfl rfl rfl rfl ar_clo (ars_cons (pa_vp (ar_tmp (av_rs 0 0 rfl rfl))) (ars_cons (pa_vp (ar_w (ar_tmp (av_rs 1 1 rfl rfl)) term_nil)) ars_nil)) trivial ⟨(av_os 0 2 rfl rfl), trivial⟩⟩,
    .inl ⟨wants_plain rfl, does_move _ (.inl rfl) rfl rfl rfl rfl (ar_of (av_rs 2 2 rfl rfl))⟩,
    .inl ⟨wants_plain rfl, does_extract (ps := [VP.int .i64 (((newA 9).term (⟨1, 0, [], (ByteArray.mk #[])⟩ : TermD)).termR (⟨1, 0, [], (ByteArray.mk #[])⟩ : TermD)), VP.int .i64 (((newA 9).term (⟨1, 0, [], (ByteArray.mk #[])⟩ : TermD)).termE (⟨1, 0, [], (ByteArray.mk #[])⟩ : TermD))]) _ 0 rfl rfl rfl rfl rfl (ar_tmp (av_rs 4 3 rfl rfl)) rfl⟩,
    .inl ⟨wants_plain rfl, does_extract (ps := [VP.int .i64 (((newA 9).term (⟨1, 0, [], (ByteArray.mk #[])⟩ : TermD)).termR (⟨1, 0, [], (ByteArray.mk #[])⟩ : TermD)), VP.int .i64 (((newA 9).term (⟨1, 0, [], (ByteArray.mk #[])⟩ : TermD)).termE (⟨1, 0, [], (ByteArray.mk #[])⟩ : TermD))]) _ 1 rfl rfl rfl rfl rfl (ar_tmp (av_rs 4 3 rfl rfl)) rfl⟩,
    .inl ⟨wants_plain rfl, does_move _ (.inr rfl) rfl rfl rfl rfl (ar_tmp (av_rs 5 4 rfl rfl))⟩,
    .inl ⟨wants_plain rfl, does_move _ (.inr rfl) rfl rfl rfl rfl (ar_tmp (av_rs 6 5 rfl rfl))⟩,
    trivial⟩ ?_
  refine t_pick [0, 1, 2, 3, 6, 7, 11, 12] rfl ?_
  refine nx_then ?_
  refine t_pick [0, 1, 2, 3, 5, 6, 7] rfl ?_
  refine t_seq ?_
  refine t_region (F := ⟨_, _, _, _, _, _⟩) [.is (.tmp 1) (VP.ptr va), .is (.tmp 2) (VP.int .i64 ((newA 9).termR (⟨1, 0, [], (ByteArray.mk #[])⟩ : TermD))), .is (.tmp 3) (VP.int .i64 ((newA 9).termE (⟨1, 0, [], (ByteArray.mk #[])⟩ : TermD))), .own 101 (.val va) (Arn (((newA 9).term (⟨1, 0, [], (ByteArray.mk #[])⟩ : TermD)).term (⟨1, 0, [], (ByteArray.mk #[])⟩ : TermD))), .is (.tmp 4) (VP.int .i64 (((newA 9).term (⟨1, 0, [], (ByteArray.mk #[])⟩ : TermD)).termR (⟨1, 0, [], (ByteArray.mk #[])⟩ : TermD))), .is (.tmp 5) (VP.int .i64 (((newA 9).term (⟨1, 0, [], (ByteArray.mk #[])⟩ : TermD)).termE (⟨1, 0, [], (ByteArray.mk #[])⟩ : TermD)))] [(22, .is (.tmp 0) (VP.bool false))] [(0, .is (.tmp 19) (VP.int .i64 ((newA 9).termE (⟨1, 0, [], (ByteArray.mk #[])⟩ : TermD)))), (1, .is (.tmp 20) (VP.bool (((newA 9).termE (⟨1, 0, [], (ByteArray.mk #[])⟩ : TermD)) == 0))), (2, .is (.tmp 21) (VP.bool (((newA 9).termE (⟨1, 0, [], (ByteArray.mk #[])⟩ : TermD)) == 0))), (3, .is (.tmp 22) (VP.int .i64 (((newA 9).term (⟨1, 0, [], (ByteArray.mk #[])⟩ : TermD)).termE (⟨1, 0, [], (ByteArray.mk #[])⟩ : TermD)))), (4, .is (.tmp 23) (VP.bool ((((newA 9).term (⟨1, 0, [], (ByteArray.mk #[])⟩ : TermD)).termE (⟨1, 0, [], (ByteArray.mk #[])⟩ : TermD)) == 0))), (5, .is (.tmp 24) (VP.bool ((((newA 9).term (⟨1, 0, [], (ByteArray.mk #[])⟩ : TermD)).termE (⟨1, 0, [], (ByteArray.mk #[])⟩ : TermD)) == 0))), (6, .is (.tmp 25) (VP.bool ((((newA 9).term (⟨1, 0, [], (ByteArray.mk #[])⟩ : TermD)).termE (⟨1, 0, [], (ByteArray.mk #[])⟩ : TermD)) == 0))), (7, .is (.tmp 26) (VP.int .i64 ((newA 9).termR (⟨1, 0, [], (ByteArray.mk #[])⟩ : TermD)))), (8, .is (.tmp 27) (VP.int .i64 (((newA 9).term (⟨1, 0, [], (ByteArray.mk #[])⟩ : TermD)).termR (⟨1, 0, [], (ByteArray.mk #[])⟩ : TermD)))), (9, .is (.tmp 28) (VP.bool (((newA 9).termR (⟨1, 0, [], (ByteArray.mk #[])⟩ : TermD)) == (((newA 9).term (⟨1, 0, [], (ByteArray.mk #[])⟩ : TermD)).termR (⟨1, 0, [], (ByteArray.mk #[])⟩ : TermD))))), (10, .is (.tmp 29) (VP.bool (((newA 9).termR (⟨1, 0, [], (ByteArray.mk #[])⟩ : TermD)) == (((newA 9).term (⟨1, 0, [], (ByteArray.mk #[])⟩ : TermD)).termR (⟨1, 0, [], (ByteArray.mk #[])⟩ : TermD))))), (11, .is (.tmp 30) (VP.bool (((newA 9).termR (⟨1, 0, [], (ByteArray.mk #[])⟩ : TermD)) == (((newA 9).term (⟨1, 0, [], (ByteArray.mk #[])⟩ : TermD)).termR (⟨1, 0, [], (ByteArray.mk #[])⟩ : TermD))))), (12, .is (.tmp 31) (VP.ptr va)), (13, .is (.tmp 32) (VP.int .i64 (((((newA 9).term (⟨1, 0, [], (ByteArray.mk #[])⟩ : TermD)).term (⟨1, 0, [], (ByteArray.mk #[])⟩ : TermD)).terms.length : Nat) : Int))), (14, .is (.tmp 33) (VP.bool ((((((newA 9).term (⟨1, 0, [], (ByteArray.mk #[])⟩ : TermD)).term (⟨1, 0, [], (ByteArray.mk #[])⟩ : TermD)).terms.length : Nat) : Int) == 1))), (15, .is (.tmp 34) (VP.bool ((((((newA 9).term (⟨1, 0, [], (ByteArray.mk #[])⟩ : TermD)).term (⟨1, 0, [], (ByteArray.mk #[])⟩ : TermD)).terms.length : Nat) : Int) == 1))), (16, .is (.tmp 35) (VP.bool ((((((newA 9).term (⟨1, 0, [], (ByteArray.mk #[])⟩ : TermD)).term (⟨1, 0, [], (ByteArray.mk #[])⟩ : TermD)).terms.length : Nat) : Int) == 1))), (17, .is (.tmp 36) (VP.ptr va)), (18, .own 104 (.tmp 37) (R_sort ((((newA 9).term (⟨1, 0, [], (ByteArray.mk #[])⟩ : TermD)).term (⟨1, 0, [], (ByteArray.mk #[])⟩ : TermD)).sorts))), (19, .is (.tmp 38) (VP.int .i64 ((((((newA 9).term (⟨1, 0, [], (ByteArray.mk #[])⟩ : TermD)).term (⟨1, 0, [], (ByteArray.mk #[])⟩ : TermD)).sorts).length : Nat) : Int))), (20, .is (.tmp 39) (VP.bool (((((((newA 9).term (⟨1, 0, [], (ByteArray.mk #[])⟩ : TermD)).term (⟨1, 0, [], (ByteArray.mk #[])⟩ : TermD)).sorts).length : Nat) : Int) == 2))), (21, .is (.tmp 40) (VP.bool (((((((newA 9).term (⟨1, 0, [], (ByteArray.mk #[])⟩ : TermD)).term (⟨1, 0, [], (ByteArray.mk #[])⟩ : TermD)).sorts).length : Nat) : Int) == 2))), (22, .is (.tmp 0) (VP.bool (((((((newA 9).term (⟨1, 0, [], (ByteArray.mk #[])⟩ : TermD)).term (⟨1, 0, [], (ByteArray.mk #[])⟩ : TermD)).sorts).length : Nat) : Int) == 2)))] [] [0, 2, 3, 4, 5, 6] [1] [[], [0], [0, 1], [0, 1, 2], [0, 1, 2, 3], [0, 1, 2, 3, 4], [0, 1, 2, 3, 4, 5], [0, 1, 2, 3, 4, 5, 6], [0, 1, 2, 3, 4, 5, 6], [0, 1, 2, 3, 4, 5, 6, 7, 8], [0, 1, 2, 3, 4, 5, 6, 7, 8, 9], [0, 1, 2, 3, 4, 5, 6, 7, 8, 9, 10], [0, 1, 2, 3, 4, 5, 6, 7, 8, 9, 10, 11], [0, 1, 2, 3, 4, 5, 6, 7, 8, 9, 10, 11, 12], [0, 1, 2, 3, 4, 5, 6, 7, 8, 9, 10, 11, 12, 13], [0, 1, 2, 3, 4, 5, 6, 7, 8, 9, 10, 11, 12, 13, 14], [0, 1, 2, 3, 4, 5, 6, 7, 8, 9, 10, 11, 12, 13, 14, 15], [0, 1, 2, 3, 4, 5, 6, 7, 8, 9, 10, 11, 12, 13, 14, 15, 16], [0, 1, 2, 3, 4, 5, 6, 7, 8, 9, 10, 11, 12, 13, 14, 15, 16, 17], [0, 1, 2, 3, 4, 5, 6, 7, 8, 9, 10, 11, 12, 13, 14, 15, 16, 17, 18], [0, 1, 2, 3, 4, 5, 6, 7, 8, 9, 10, 11, 12, 13, 14, 15, 16, 17, 18, 19], [0, 1, 2, 3, 4, 5, 6, 7, 8, 9, 10, 11, 12, 13, 14, 15, 16, 17, 18, 19, 20], [0, 1, 2, 3, 4, 5, 6, 7, 8, 9, 10, 11, 12, 13, 14, 15, 16, 17, 18, 19, 20, 21]] [[1, 2, 3, 4, 5, 6, 7, 8, 9, 10, 11, 12, 13, 14, 15, 16, 17, 18, 19, 20, 21, 22], [2, 3, 4, 5, 6, 7, 8, 9, 10, 11, 12, 13, 14, 15, 16, 17, 18, 19, 20, 21, 22], [3, 4, 5, 6, 7, 8, 9, 10, 11, 12, 13, 14, 15, 16, 17, 18, 19, 20, 21, 22], [4, 5, 6, 7, 8, 9, 10, 11, 12, 13, 14, 15, 16, 17, 18, 19, 20, 21, 22], [5, 6, 7, 8, 9, 10, 11, 12, 13, 14, 15, 16, 17, 18, 19, 20, 21, 22], [6, 7, 8, 9, 10, 11, 12, 13, 14, 15, 16, 17, 18, 19, 20, 21, 22], [7, 8, 9, 10, 11, 12, 13, 14, 15, 16, 17, 18, 19, 20, 21, 22], [9, 10, 11, 12, 13, 14, 15, 16, 17, 18, 19, 20, 21, 22], [9, 10, 11, 12, 13, 14, 15, 16, 17, 18, 19, 20, 21, 22], [10, 11, 12, 13, 14, 15, 16, 17, 18, 19, 20, 21, 22], [11, 12, 13, 14, 15, 16, 17, 18, 19, 20, 21, 22], [12, 13, 14, 15, 16, 17, 18, 19, 20, 21, 22], [13, 14, 15, 16, 17, 18, 19, 20, 21, 22], [14, 15, 16, 17, 18, 19, 20, 21, 22], [15, 16, 17, 18, 19, 20, 21, 22], [16, 17, 18, 19, 20, 21, 22], [17, 18, 19, 20, 21, 22], [18, 19, 20, 21, 22], [19, 20, 21, 22], [20, 21, 22], [21, 22], [22], []] rfl rfl follow rfl ⟨
    .inl ⟨wants_plain rfl, does_move _ (.inl rfl) rfl rfl rfl rfl (ar_tmp (av_fs 2 rfl))⟩,
    .inl ⟨wants_plain rfl, does_cmp (m := ((newA 9).termE (⟨1, 0, [], (ByteArray.mk #[])⟩ : TermD))) (n := 0) _ _ _ _ _ rfl rfl rfl rfl rfl rfl .i64 (ar_tmp (av_rs 0 0 rfl rfl)) (ar_const (fun _ _ => rfl))⟩,
    .inl ⟨wants_plain rfl, does_move _ (.inl rfl) rfl rfl rfl rfl (ar_tmp (av_rs 1 1 rfl rfl))⟩,
    .inl ⟨wants_guard true rfl rfl rfl (av_bool (by decide +kernel) (av_rs 2 2 rfl rfl)), does_move _ (.inl rfl) rfl rfl rfl rfl (ar_tmp (av_fs 5 rfl))⟩,
    .inl ⟨wants_guard true rfl rfl rfl (av_bool (by decide +kernel) (av_rs 2 2 rfl rfl)), does_cmp (m := (((newA 9).term (⟨1, 0, [], (ByteArray.mk #[])⟩ : TermD)).termE (⟨1, 0, [], (ByteArray.mk #[])⟩ : TermD))) (n := 0) _ _ _ _ _ rfl rfl rfl rfl rfl rfl .i64 (ar_tmp (av_rs 3 3 rfl rfl)) (ar_const (fun _ _ => rfl))⟩,
    .inl ⟨wants_plain rfl, does_pick true _ _ _ rfl rfl rfl rfl rfl (ar_tmp (av_bool (by decide +kernel) (av_rs 2 2 rfl rfl))) (ar_tmp (av_rs 4 4 rfl rfl))⟩,
    .inl ⟨wants_plain rfl, does_move _ (.inl rfl) rfl rfl rfl rfl (ar_tmp (av_rs 5 5 rfl rfl))⟩,
    .inl ⟨wants_guard true rfl rfl rfl (av_bool (by decide +kernel) (av_rs 6 6 rfl rfl)), does_move _ (.inl rfl) rfl rfl rfl rfl (ar_tmp (av_fs 1 rfl))⟩,
    .inl ⟨wants_guard true rfl rfl rfl (av_bool (by decide +kernel) (av_rs 6 6 rfl rfl)), does_move _ (.inl rfl) rfl rfl rfl rfl (ar_tmp (av_fs 4 rfl))⟩,
    .inl ⟨wants_guard true rfl rfl rfl (av_bool (by decide +kernel) (av_rs 6 6 rfl rfl)), does_cmp (m := ((newA 9).termR (⟨1, 0, [], (ByteArray.mk #[])⟩ : TermD))) (n := (((newA 9).term (⟨1, 0, [], (ByteArray.mk #[])⟩ : TermD)).termR (⟨1, 0, [], (ByteArray.mk #[])⟩ : TermD))) _ _ _ _ _ rfl rfl rfl rfl rfl rfl .i64 (ar_tmp (av_rs 7 7 rfl rfl)) (ar_tmp (av_rs 8 8 rfl rfl))⟩,
    .inl ⟨wants_plain rfl, does_pick true _ _ _ rfl rfl rfl rfl rfl (ar_tmp (av_bool (by decide +kernel) (av_rs 6 6 rfl rfl))) (ar_tmp (av_rs 9 9 rfl rfl))⟩,
    .inl ⟨wants_plain rfl, does_move _ (.inl rfl) rfl rfl rfl rfl (ar_tmp (av_rs 10 10 rfl rfl))⟩,
    .inl ⟨wants_guard true rfl rfl rfl (av_bool (by decide +kernel) (av_rs 11 11 rfl rfl)), does_move _ (.inl rfl) rfl rfl rfl rfl (ar_tmp (av_fs 0 rfl))⟩,
    .inl ⟨wants_guard true rfl rfl rfl (av_bool (by decide +kernel) (av_rs 11 11 rfl rfl)), does_call (da_Len (v := va) (d := (((newA 9).term (⟨1, 0, [], (ByteArray.mk #[])⟩ : TermD)).term (⟨1, 0, [], (ByteArray.mk #[])⟩ : TermD)))) (fun _ _ _ _ h => h) rfl DagM_hb___collator_dag_Arena__Len rfl rfl rfl rfl ar_clo (ars_cons (pa_vp (ar_tmp (av_rs 12 12 rfl rfl))) ars_nil) ⟨(brw_own (av_fs 3 rfl) rfl), trivial⟩⟩,
    .inl ⟨wants_guard true rfl rfl rfl (av_bool (by decide +kernel) (av_rs 11 11 rfl rfl)), does_cmp (m := (((((newA 9).term (⟨1, 0, [], (ByteArray.mk #[])⟩ : TermD)).term (⟨1, 0, [], (ByteArray.mk #[])⟩ : TermD)).terms.length : Nat) : Int)) (n := 1) _ _ _ _ _ rfl rfl rfl rfl rfl rfl .i64 (ar_tmp (av_rs 13 13 rfl rfl)) (ar_const (fun _ _ => rfl))⟩,
    .inl ⟨wants_plain rfl, does_pick true _ _ _ rfl rfl rfl rfl rfl (ar_tmp (av_bool (by decide +kernel) (av_rs 11 11 rfl rfl))) (ar_tmp (av_rs 14 14 rfl rfl))⟩,
    .inl ⟨wants_plain rfl, does_move _ (.inl rfl) rfl rfl rfl rfl (ar_tmp (av_rs 15 15 rfl rfl))⟩,
    .inl ⟨wants_guard true rfl rfl rfl (av_bool (by decide +kernel) (av_rs 16 16 rfl rfl)), does_move _ (.inl rfl) rfl rfl rfl rfl (ar_tmp (av_fs 0 rfl))⟩,
    .inl ⟨wants_guard true rfl rfl rfl (av_bool (by decide +kernel) (av_rs 16 16 rfl rfl)), does_callG [] [] [] 104 [0] (da_Sorts (v := va) (d := (((newA 9).term (⟨1, 0, [], (ByteArray.mk #[])⟩ : TermD)).term (⟨1, 0, [], (ByteArray.mk #[])⟩ : TermD))) (by decide +kernel) (by decide +kernel)) rfl DagM_hb___collator_dag_Arena__Sorts rfl rfl rfl rfl rfl ar_clo (ars_cons (pa_vp (ar_tmp (av_rs 17 17 rfl rfl))) ars_nil) ⟨(brw_own (av_fs 3 rfl) rfl), trivial⟩ trivial⟩,
    .inl ⟨wants_guard true rfl rfl rfl (av_bool (by decide +kernel) (av_rs 16 16 rfl rfl)), does_len _ _ (by kernel_rfl) rfl rfl rfl rfl rfl (sl_tmp (av_rs 18 18 rfl rfl))⟩,
    .inl ⟨wants_guard true rfl rfl rfl (av_bool (by decide +kernel) (av_rs 16 16 rfl rfl)), does_cmp (m := ((((((newA 9).term (⟨1, 0, [], (ByteArray.mk #[])⟩ : TermD)).term (⟨1, 0, [], (ByteArray.mk #[])⟩ : TermD)).sorts).length : Nat) : Int)) (n := 2) _ _ _ _ _ rfl rfl rfl rfl rfl rfl .i64 (ar_tmp (av_rs 19 19 rfl rfl)) (ar_const (fun _ _ => rfl))⟩,
    .inl ⟨wants_plain rfl, does_pick true _ _ _ rfl rfl rfl rfl rfl (ar_tmp (av_bool (by decide +kernel) (av_rs 16 16 rfl rfl))) (ar_tmp (av_rs 20 20 rfl rfl))⟩,
    .inl ⟨wants_plain rfl, does_move _ (.inr rfl) rfl rfl rfl rfl (ar_tmp (av_rs 21 21 rfl rfl))⟩,
    trivial⟩ ?_
  refine t_pick [3, 24, 28] rfl ?_
  refine nx_then ?_
  refine t_pick [0, 2] rfl ?_
  refine t_ret ?_
  exact rt_post [HA.of (VP.bool true)] [[]] [] [] rfl ⟨(rv_eq (congrArg (fun b => HA.of (VP.bool b)) (by decide +kernel)) (rv_vp 1 rfl)), trivial⟩ (by decide) rfl rfl

end O
end Go.Proofs.Ytapmngmpomhjmaa

/- Laws in the logic over objects: what comes in is read and never turned. No program stands in this text. -/
namespace Go.Proofs.Ytapmngmpomhjmaa
open Go.RowKit
namespace O
/-- all that there was -/
abbrev was (W : World) : Foot := fun b => b < W.heap.size
theorem Turn.ext {S : Foot} {w w' : World} (h : Turn S w w') (hs : ∀ b, ¬ S b) : Ext w w' := ⟨h.os, h.tape, h.output, h.size, fun b hb => h.block b hb (hs b)⟩
theorem flat_all2 {α : Type} {P : Program} {W : World} {Z : Foot} {m : Nat} {e : TypeId} (f : α → List VP) (he : ∀ x : List Value, x.length = P.cellsOf e → Typed P W m e x → ∃ a, All2 Z (f a) x W) :
    ∀ (xs : List (List Value)), (∀ x ∈ xs, x.length = P.cellsOf e ∧ Typed P W m e x) → ∃ l : List α, l.length = xs.length ∧ All2 Z (l.flatMap f) xs.flatten W
  | [], _ => ⟨[], rfl, trivial⟩
  | x :: xs, h => by
    obtain ⟨l, h1, h2⟩ := flat_all2 f he xs fun y hy => h y (List.mem_cons_of_mem _ hy)
    obtain ⟨a, ha⟩ := he x (h x List.mem_cons_self).1 (h x List.mem_cons_self).2
    exact ⟨a :: l, by simp [h1], by rw [List.flatMap_cons, List.flatten_cons]; exact ha.app h2⟩
/-- a slice that came in -/
theorem ro_of {α : Type} {P : Program} {W : World} {T e : TypeId} {v : Value} (hT : P.underlying T = some (.slice e)) (f : α → List VP) (he : ∀ (m : Nat) (x : List Value), x.length = P.cellsOf e → Typed P W m e x → ∃ a, All2 (was W) (f a) x W) (h : Arg P W T v) :
    ∃ l : List α, l.length ≤ maxLen ∧ (VP.ro l.length (l.flatMap f)).p (was W) v W := by
  obtain ⟨a, cap, xs, m, rfl, h1, h2, h3, h4⟩ := h.slice hT
  obtain ⟨l, e1, e2⟩ := flat_all2 f (he m) xs h3
  refine ⟨l, by omega, a, cap, by rw [e1], by omega, h2, ?_⟩
  rcases Nat.eq_zero_or_pos xs.flatten.length with h0 | h0
  · left
    have := e2.len
    exact List.eq_nil_of_length_eq_zero (by omega)
  · right
    obtain ⟨b, off, ea, hb, hc⟩ := h4.all h0
    exact ⟨b, off, ea, hb, fun j x hx => by
      obtain ⟨u, hu, hp⟩ := e2.get hx
      exact ⟨u, hc j u hu, hp⟩⟩
/-- what a law's walk says of all that comes in -/
theorem SpecO.law {P : Program} {f : FuncId} {ps : List VP} (h : SpecO P f (ps.map Par.vp) [] [] [] (HA.of (VP.bool true))) {vs : List Value} {W : World} (ha : All2 (was W) ps vs W) :
    Calls P f vs.toArray W fun e W' => e = .returned (.bool true) ∧ Ext W W' := by
  have hl := ha.len
  refine (h vs.toArray W (was W) (fun _ => False) (fun _ => False) (by simp [hl]) (fun j q hq => ?_) (fun y hy => by cases hy) ?_ (fun _ h => h) (fun _ h => h.elim) (fun _ h => h.elim)).mono fun e w' ⟨v, Z', S', T, h1, _, _, _, h2, _, _, h3⟩ => ⟨?_, h3.ext fun _ h => h⟩
  · rw [List.getElem?_map, Option.map_eq_some_iff] at hq
    obtain ⟨x, hx, rfl⟩ := hq
    obtain ⟨v, hv, hp⟩ := ha.get hx
    exact ⟨v, by simpa using hv, hp⟩
  · have : ∀ {ps : List VP} {vs : List Value}, All2 (was W) ps vs W → AllS (was W) ((ps.map Par.vp).map Par.mvR) vs W fun _ => False := by
      intro ps vs h
      have e : (ps.map Par.vp).map Par.mvR = (ps.map fun _ => VP.any).map HA.of := by simp [Par.mvR]
      rw [e]
      exact AllS.of_all2 (fun _ h => h) (All2.of_get (by simp [h.len]) fun i x v hx _ => by
        rw [List.getElem?_map, Option.map_eq_some_iff] at hx
        obtain ⟨_, _, rfl⟩ := hx; trivial)
    simpa using this ha
  · obtain ⟨h2, _⟩ := h2
    rw [h1, h2]
theorem typed_str {P : Program} {W : World} {Z : Foot} {m : Nat} {t : TypeId} {x : List Value} (ht : P.underlying t = some .string) (h : Typed P W m t x) : ∃ s, All2 Z [VP.str s] x W := by
  obtain ⟨s, rfl, _⟩ := h.string ht
  exact ⟨s, rfl, trivial⟩
theorem typed_int {P : Program} {W : World} {Z : Foot} {m : Nat} {t : TypeId} {k : IntKind} {x : List Value} (ht : P.underlying t = some (.int k)) (h : Typed P W m t x) : ∃ n, All2 Z [VP.int k n] x W ∧ (Lit.int k n).wf = true := by
  obtain ⟨s, rfl, hs⟩ := h.int ht
  exact ⟨s, ⟨rfl, trivial⟩, hs⟩
end O
end Go.Proofs.Ytapmngmpomhjmaa

/- What an argument of some type is, with the reach that the form itself gives: each string and each slice that comes in has at most 2^47 - 4096 bytes. No program stands in this text. -/
namespace Go.Proofs.Ytapmngmpomhjmaa
open Go.ChangeShapes Go.WideShapes Go.ChangeAt Go.RowKit
namespace O
/-- cs are the cells of a value of type t; what it leads to lies in w; nothing is larger than the reach -/
def TypedB (P : Program) (w : World) : Nat → TypeId → List Value → Prop
  | 0, _, _ => False
  | n + 1, t, cs => match P.underlying t with
    | some .bool => ∃ b, cs = [.bool b]
    | some (.int k) => ∃ x, cs = [.int k x] ∧ (Lit.int k x).wf = true
    | some (.float k) => ∃ x, cs = [.float k x] ∧ (Lit.float k x).wf = true
    | some .string => ∃ s : ByteArray, cs = [.string s] ∧ s.size ≤ reachBytes
    | some (.slice e) => ∃ a cap, ∃ xs : List (List Value), cs = [.slice a xs.length cap] ∧ xs.length ≤ cap ∧ cap ≤ maxLen ∧ xs.length * P.bytesOf e ≤ reachBytes ∧ (∀ x ∈ xs, x.length = P.cellsOf e ∧ TypedB P w n e x) ∧ Rd w a xs.flatten
    | some (.struct fs) => cs.length = P.cellsOf t ∧ ∀ f ∈ fs.toList, TypedB P w n f.type ((cs.drop f.offset).take (P.cellsOf f.type))
    | _ => True
section
variable {H : Type} {enc : TypeId × Value → H} {P : Program} {w : World} {base : Nat} {spare : Nat → Bool} {held : Bool}
/-- v is a value of type t that came in, as w has it -/
def ArgB (P : Program) (w : World) (t : TypeId) (v : Value) : Prop :=
  ∃ n cs, TypedB P w n t cs ∧ v = (match P.underlying t with | some (.struct _) => .agg cs.toArray | _ => cs.headD undef)
theorem TypedB.int {k : IntKind} {n : Nat} {t : TypeId} {cs : List Value} (ht : P.underlying t = some (.int k)) (h : TypedB P w n t cs) : ∃ x, cs = [.int k x] ∧ (Lit.int k x).wf = true := by
  cases n with
  | zero => exact h.elim
  | succ n => unfold TypedB at h; rw [ht] at h; exact h
theorem TypedB.bool {n : Nat} {t : TypeId} {cs : List Value} (ht : P.underlying t = some .bool) (h : TypedB P w n t cs) : ∃ b, cs = [.bool b] := by
  cases n with
  | zero => exact h.elim
  | succ n => unfold TypedB at h; rw [ht] at h; exact h
theorem TypedB.string {n : Nat} {t : TypeId} {cs : List Value} (ht : P.underlying t = some .string) (h : TypedB P w n t cs) : ∃ s : ByteArray, cs = [.string s] ∧ s.size ≤ reachBytes := by
  cases n with
  | zero => exact h.elim
  | succ n => unfold TypedB at h; rw [ht] at h; exact h
theorem TypedB.slice {e : TypeId} {n : Nat} {t : TypeId} {cs : List Value} (ht : P.underlying t = some (.slice e)) (h : TypedB P w n t cs) :
    ∃ a cap, ∃ xs : List (List Value), ∃ m, cs = [.slice a xs.length cap] ∧ xs.length ≤ cap ∧ cap ≤ maxLen ∧ xs.length * P.bytesOf e ≤ reachBytes ∧ (∀ x ∈ xs, x.length = P.cellsOf e ∧ TypedB P w m e x) ∧ Rd w a xs.flatten := by
  cases n with
  | zero => exact h.elim
  | succ n =>
    unfold TypedB at h; rw [ht] at h
    obtain ⟨a, cap, xs, h1, h2, h3, h4, h5, h6⟩ := h
    exact ⟨a, cap, xs, n, h1, h2, h3, h4, h5, h6⟩
theorem TypedB.struct {fs : Array Field} {n : Nat} {t : TypeId} {cs : List Value} (ht : P.underlying t = some (.struct fs)) (h : TypedB P w n t cs) :
    ∃ m, cs.length = P.cellsOf t ∧ ∀ f ∈ fs.toList, TypedB P w m f.type ((cs.drop f.offset).take (P.cellsOf f.type)) := by
  cases n with
  | zero => exact h.elim
  | succ n => unfold TypedB at h; rw [ht] at h; exact ⟨n, h⟩
theorem ArgB.int {k : IntKind} {t : TypeId} {v : Value} (ht : P.underlying t = some (.int k)) (h : ArgB P w t v) : ∃ x, v = .int k x ∧ (Lit.int k x).wf = true := by
  obtain ⟨n, cs, h1, rfl⟩ := h
  obtain ⟨x, rfl, hx⟩ := h1.int ht
  exact ⟨x, by rw [ht]; rfl, hx⟩
theorem ArgB.bool {t : TypeId} {v : Value} (ht : P.underlying t = some .bool) (h : ArgB P w t v) : ∃ x, v = .bool x := by
  obtain ⟨n, cs, h1, rfl⟩ := h
  obtain ⟨x, rfl⟩ := h1.bool ht
  exact ⟨x, by rw [ht]; rfl⟩
theorem ArgB.string {t : TypeId} {v : Value} (ht : P.underlying t = some .string) (h : ArgB P w t v) : ∃ x : ByteArray, v = .string x ∧ x.size ≤ reachBytes := by
  obtain ⟨n, cs, h1, rfl⟩ := h
  obtain ⟨x, rfl, hx⟩ := h1.string ht
  exact ⟨x, by rw [ht]; rfl, hx⟩
theorem ArgB.slice {e : TypeId} {t : TypeId} {v : Value} (ht : P.underlying t = some (.slice e)) (h : ArgB P w t v) :
    ∃ a cap, ∃ xs : List (List Value), ∃ m, v = .slice a xs.length cap ∧ xs.length ≤ cap ∧ cap ≤ maxLen ∧ xs.length * P.bytesOf e ≤ reachBytes ∧ (∀ x ∈ xs, x.length = P.cellsOf e ∧ TypedB P w m e x) ∧ Rd w a xs.flatten := by
  obtain ⟨n, cs, h1, rfl⟩ := h
  obtain ⟨a, cap, xs, m, rfl, h2⟩ := h1.slice ht
  exact ⟨a, cap, xs, m, by rw [ht]; rfl, h2⟩
theorem ArgB.struct {fs : Array Field} {t : TypeId} {v : Value} (ht : P.underlying t = some (.struct fs)) (h : ArgB P w t v) :
    ∃ (cs : List Value) (m : Nat), v = .agg cs.toArray ∧ cs.length = P.cellsOf t ∧ ∀ f ∈ fs.toList, TypedB P w m f.type ((cs.drop f.offset).take (P.cellsOf f.type)) := by
  obtain ⟨n, cs, h1, rfl⟩ := h
  obtain ⟨m, h2, h3⟩ := h1.struct ht
  exact ⟨cs, m, by rw [ht], h2, h3⟩
end
/-! ### in the logic over objects -/
end O
end Go.Proofs.Ytapmngmpomhjmaa

/- What an act that comes in is. -/
namespace Go.Proofs.Ytapmngmpomhjmaa
open Go.RowKit
namespace O
theorem list5_of {α : Type} {l : List α} (h : l.length = 8) : ∃ a b c d e f g i, l = [a, b, c, d, e, f, g, i] := by
  match l, h with
  | [a, b, c, d, e, f, g, i], _ => exact ⟨a, b, c, d, e, f, g, i, rfl⟩
theorem list4_of {α : Type} {l : List α} (h : l.length = 4) : ∃ a b c d, l = [a, b, c, d] := by
  match l, h with
  | [a, b, c, d], _ => exact ⟨a, b, c, d, rfl⟩
theorem cells_act6 : Try.prog.cellsOf 32 = 8 := by kernel_rfl
theorem cells_term6 : Try.prog.cellsOf 30 = 4 := by kernel_rfl
theorem cells_int6 : Try.prog.cellsOf 3 = 1 := by kernel_rfl
theorem cells_str6 : Try.prog.cellsOf 9 = 1 := by kernel_rfl
theorem cells_ints6 : Try.prog.cellsOf 28 = 1 := by kernel_rfl
/-- a slice among the cells of what came in -/
theorem ro_cells {α : Type} {P : Program} {W : World} {T e : TypeId} {n : Nat} {cs : List Value} (hT : P.underlying T = some (.slice e)) (f : α → List VP) (he : ∀ (m : Nat) (x : List Value), x.length = P.cellsOf e → Typed P W m e x → ∃ a, All2 (was W) (f a) x W) (h : Typed P W n T cs) :
    ∃ (l : List α) (v : Value), cs = [v] ∧ (VP.ro l.length (l.flatMap f)).p (was W) v W := by
  obtain ⟨a, cap, xs, m, rfl, h1, h2, h3, h4⟩ := h.slice hT
  obtain ⟨l, e1, e2⟩ := flat_all2 f (he m) xs h3
  refine ⟨l, _, rfl, a, cap, by rw [e1], by omega, h2, ?_⟩
  rcases Nat.eq_zero_or_pos xs.flatten.length with h0 | h0
  · left
    have := e2.len
    exact List.eq_nil_of_length_eq_zero (by omega)
  · right
    obtain ⟨b, off, ea, hb, hc⟩ := h4.all h0
    exact ⟨b, off, ea, hb, fun j x hx => by
      obtain ⟨u, hu, hp⟩ := e2.get hx
      exact ⟨u, hc j u hu, hp⟩⟩
theorem ints_cells {W : World} {n : Nat} {cs : List Value} (h : Typed Try.prog W n 28 cs) : ∃ (l : List Int) (v : Value), cs = [v] ∧ (VP.ro l.length (l.flatMap cInt)).p (was W) v W :=
  ro_cells Try.underlying28 cInt (fun m x _ hx => by
    obtain ⟨a, h1, _⟩ := typed_int (Z := was W) Try.underlying3 hx
    exact ⟨a, h1⟩) h
theorem typed_term {W : World} (m : Nat) (x : List Value) (h : Typed Try.prog W m 30 x) : ∃ a : TermD, All2 (was W) (cTerm a) x W := by
  obtain ⟨m, hl, hf⟩ := h.struct Try.underlying30
  rw [cells_term6] at hl
  obtain ⟨u0, u1, u2, u3, rfl⟩ := list4_of hl
  have f0 := hf _ List.mem_cons_self
  have f1 := hf _ (List.mem_cons_of_mem _ List.mem_cons_self)
  have f2 := hf _ (List.mem_cons_of_mem _ (List.mem_cons_of_mem _ List.mem_cons_self))
  have f3 := hf _ (List.mem_cons_of_mem _ (List.mem_cons_of_mem _ (List.mem_cons_of_mem _ List.mem_cons_self)))
  simp only at f0 f1 f2 f3
  rw [cells_int6] at f0 f1
  rw [cells_ints6] at f2
  rw [cells_str6] at f3
  obtain ⟨a, h0, _⟩ := typed_int (Z := was W) Try.underlying3 f0
  obtain ⟨b, h1, _⟩ := typed_int (Z := was W) Try.underlying3 f1
  obtain ⟨c, v, hv, h2⟩ := ints_cells f2
  obtain ⟨e, h3⟩ := typed_str (Z := was W) Try.underlying9 f3
  have hv : [u2] = [v] := hv
  injection hv with hv
  subst hv
  exact ⟨⟨a, b, c, e⟩, h0.1, h1.1, h2, h3.1, trivial⟩
theorem typed_act6 {W : World} (m : Nat) (x : List Value) (_ : x.length = Try.prog.cellsOf 32) (h : Typed Try.prog W m 32 x) : ∃ a : ActD, All2 (was W) (cActD a) x W := by
  obtain ⟨m, hl, hf⟩ := h.struct Try.underlying32
  rw [cells_act6] at hl
  obtain ⟨u0, u1, u2, u3, u4, u5, u6, u7, rfl⟩ := list5_of hl
  have f0 := hf _ List.mem_cons_self
  have f1 := hf _ (List.mem_cons_of_mem _ List.mem_cons_self)
  have f2 := hf _ (List.mem_cons_of_mem _ (List.mem_cons_of_mem _ List.mem_cons_self))
  have f3 := hf _ (List.mem_cons_of_mem _ (List.mem_cons_of_mem _ (List.mem_cons_of_mem _ List.mem_cons_self)))
  have f4 := hf _ (List.mem_cons_of_mem _ (List.mem_cons_of_mem _ (List.mem_cons_of_mem _ (List.mem_cons_of_mem _ List.mem_cons_self))))
  simp only at f0 f1 f2 f3 f4
  rw [cells_int6] at f0 f3
  rw [cells_str6] at f1
  rw [cells_ints6] at f2
  rw [cells_term6] at f4
  obtain ⟨a, h0, _⟩ := typed_int (Z := was W) Try.underlying3 f0
  obtain ⟨b, h1⟩ := typed_str (Z := was W) Try.underlying9 f1
  obtain ⟨c, v, hv, h2⟩ := ints_cells f2
  obtain ⟨e, h3, _⟩ := typed_int (Z := was W) Try.underlying3 f3
  obtain ⟨t, h4⟩ := typed_term _ _ f4
  have hv : [u2] = [v] := hv
  injection hv with hv
  subst hv
  have h4 : All2 (was W) (cTerm t) [u4, u5, u6, u7] W := h4
  exact ⟨⟨a, b, c, e, t⟩, h0.1, h1.1, h2, h3.1, h4.1, h4.2.1, h4.2.2.1, h4.2.2.2.1, trivial⟩
theorem arg_acts6 {W : World} {v : Value} (h : Arg Try.prog W 22 v) : ∃ l : List ActD, l.length ≤ maxLen ∧ (VP.ro l.length (l.flatMap cActD)).p (was W) v W := ro_of Try.underlying22 cActD typed_act6 h
end O
end Go.Proofs.Ytapmngmpomhjmaa

/- DagSorts: the walk. -/
namespace Go.Proofs.Ytapmngmpomhjmaa
open Go.RowKit
namespace O

/-- sorts as they should be -/
structure SInv (d : ArD) (k : Nat) : Prop where
  ns : d.sorts.length ≤ 2 + k
  nf : d.funs.length ≤ k
  sa : ∀ x ∈ d.sorts, x.args.length ≤ 12
  fa : ∀ x ∈ d.funs, x.args.length ≤ 12
  tm : d.terms = []
  uq : ∀ (i j : Nat) (x y : SortD), i < j → d.sorts[i]? = some x → d.sorts[j]? = some y → sortIs x.name x.args y = false
  lo : ∀ (i : Nat) (x : SortD), d.sorts[i]? = some x → ∀ k ∈ x.args, 0 ≤ k ∧ k < (i : Int)
theorem sinv_new (n : Int) : SInv (newA n) 0 where
  ns := Nat.le_refl _
  nf := Nat.le_refl _
  sa := fun x hx => by
    have hx : x ∈ [boolS, intS] := hx
    simp only [List.mem_cons, List.not_mem_nil, or_false] at hx
    rcases hx with rfl | rfl <;> exact Nat.zero_le _
  fa := fun x hx => by cases hx
  tm := rfl
  uq := fun i j x y h hx hy => by
    have hx : [boolS, intS][i]? = some x := hx
    have hy : [boolS, intS][j]? = some y := hy
    match i, j with
    | 0, 1 => injection hx with hx; injection hy with hy; subst hx hy; decide +kernel
    | 0, 0 => omega
    | i + 1, 0 => omega
    | i + 1, 1 => omega
    | i, j + 2 => simp at hy
  lo := fun i x hx k hk => by
    have hx : [boolS, intS][i]? = some x := hx
    match i with
    | 0 => injection hx with hx; subst hx; cases hk
    | 1 => injection hx with hx; subst hx; cases hk
    | i + 2 => simp at hx
theorem SInv.up {d : ArD} {k : Nat} (h : SInv d k) : SInv d (k + 1) := ⟨by have := h.ns; omega, by have := h.nf; omega, h.sa, h.fa, h.tm, h.uq, h.lo⟩
end O
end Go.Proofs.Ytapmngmpomhjmaa

/- Arenas by acts. -/
namespace Go.Proofs.Ytapmngmpomhjmaa
open Go.RowKit
namespace O

/-- an arena after k acts -/
structure AInv (d : ArD) (k : Nat) : Prop where
  ok : d.Ok
  ns : d.sorts.length ≤ 2 + k
  nf : d.funs.length ≤ k
  sa : ∀ x ∈ d.sorts, x.args.length ≤ 12
  fa : ∀ x ∈ d.funs, x.args.length ≤ 12
theorem ainv_new (n : Int) (hn : n ≤ 100000) : AInv (newA n) 0 := ⟨newA_ok n hn, (sinv_new n).ns, (sinv_new n).nf, (sinv_new n).sa, (sinv_new n).fa⟩
theorem AInv.up {d : ArD} {k : Nat} (h : AInv d k) : AInv d (k + 1) := ⟨h.ok, by have := h.ns; omega, by have := h.nf; omega, h.sa, h.fa⟩
theorem ainv_sort {d : ArD} {k : Nat} (h : AInv d k) (n : ByteArray) (q : List Int) (hq : q.length ≤ 12) : AInv (d.sort n q) (k + 1) := by
  refine ⟨sort_ok h.ok n q, ?_, ?_, ?_, ?_⟩ <;> unfold ArD.sort <;> split <;> (try split)
  · exact h.up.ns
  · have := h.ns; show (d.sorts ++ [_]).length ≤ _; simp only [List.length_append, List.length_cons, List.length_nil]; omega
  · exact h.up.ns
  · exact h.up.nf
  · exact h.up.nf
  · exact h.up.nf
  · exact h.sa
  · intro x hx
    rcases List.mem_append.1 (show x ∈ d.sorts ++ [_] from hx) with hx | hx
    · exact h.sa x hx
    · rw [List.mem_singleton] at hx; subst hx; exact hq
  · exact h.sa
  · exact h.fa
  · exact h.fa
  · exact h.fa
theorem ainv_fun {d : ArD} {k : Nat} (h : AInv d k) (f : FunD) (hq : f.args.length ≤ 12) : AInv (d.fun_ f) (k + 1) := by
  refine ⟨fun_ok h.ok f, ?_, ?_, ?_, ?_⟩ <;> unfold ArD.fun_ <;> split
  · exact h.up.ns
  · exact h.up.ns
  · exact h.up.nf
  · have := h.nf; show (d.funs ++ [f]).length ≤ _; simp only [List.length_append, List.length_cons, List.length_nil]; omega
  · exact h.sa
  · exact h.sa
  · exact h.fa
  · intro x hx
    rcases List.mem_append.1 (show x ∈ d.funs ++ [_] from hx) with hx | hx
    · exact h.fa x hx
    · rw [List.mem_singleton] at hx; subst hx; exact hq
theorem put_sf (d : ArD) (t : TermD) : (d.put t).sorts = d.sorts ∧ (d.put t).funs = d.funs ∧ (d.put t).terms = d.terms ++ [t] ∧ (d.put t).most = d.most := by
  unfold ArD.put
  rcases Bool.eq_false_or_eq_true (decide (((d.terms ++ [t]).length : Int) > (d.table.length : Int))) with h | h <;> rw [h] <;> exact ⟨rfl, rfl, rfl, rfl⟩
theorem term_sf (d : ArD) (t : TermD) : (d.term t).sorts = d.sorts ∧ (d.term t).funs = d.funs := by
  rcases term_cases d t with ⟨e, _⟩ | ⟨e, _⟩ <;> rw [e]
  · exact ⟨rfl, rfl⟩
  · exact ⟨(put_sf d t).1, (put_sf d t).2.1⟩
theorem ainv_term {d : ArD} {k : Nat} (h : AInv d k) (t : TermD) : AInv (d.term t) (k + 1) :=
  ⟨term_ok h.ok t, by rw [(term_sf d t).1]; exact h.up.ns, by rw [(term_sf d t).2]; exact h.up.nf, by rw [(term_sf d t).1]; exact h.sa, by rw [(term_sf d t).2]; exact h.fa⟩
theorem term_refuse {d : ArD} {t : TermD} (h : d.termE t ≠ 0) : d.term t = d := by
  rcases term_cases d t with ⟨e, _⟩ | ⟨_, e, _⟩
  · exact e
  · exact absurd e h
theorem ok_table {d : ArD} (h : d.Ok) : d.table.length ≤ 200016 ∧ ∀ b ∈ d.table, b.length ≤ 1000000 := by
  obtain ⟨j, h1, h2⟩ := h.tab
  have := h.few
  exact ⟨by omega, fun b hb => by have := (h.ent b hb).1; omega⟩
/-! how many places stand in all buckets -/
def cntT (t : List (List Int)) : Nat := (t.map List.length).sum
theorem cntT_succ {t : List (List Int)} {k : Nat} {b : List Int} (h : t[k]? = some b) : cntT (t.take (k + 1)) = cntT (t.take k) + b.length := by
  unfold cntT; rw [List.take_add_one, h]; simp
theorem cntT_le {t : List (List Int)} {k : Nat} : cntT (t.take k) ≤ cntT t := by
  have e : t = t.take k ++ t.drop k := (List.take_append_drop _ _).symm
  have : cntT t = cntT (t.take k) + cntT (t.drop k) := by
    conv => lhs; rw [e]
    unfold cntT; rw [List.map_append, List.sum_append]
  omega
theorem cntT_set {x : Int} : ∀ {t : List (List Int)} {m : Nat}, m < t.length → cntT (t.set m ((t[m]?).getD [] ++ [x])) = cntT t + 1
  | b :: t, 0, _ => by unfold cntT; simp; omega
  | b :: t, m + 1, h => by
    have := cntT_set (x := x) (t := t) (m := m) (by simpa using h)
    unfold cntT at this ⊢
    simp only [List.set_cons_succ, List.map_cons, List.sum_cons, List.getElem?_cons_succ] at this ⊢
    omega
theorem cntT_rep : ∀ n, cntT (List.replicate n []) = 0
  | 0 => rfl
  | n + 1 => by
    have := cntT_rep n
    unfold cntT at this ⊢
    rw [List.replicate_succ, List.map_cons, List.sum_cons, this]; rfl
theorem cntT_grow {hs : List Int} {n : Nat} (hn : 1 ≤ n) : ∀ k, cntT (growT hs n k) = k
  | 0 => cntT_rep n
  | k + 1 => by
    show cntT (addT _ _ _) = _
    unfold addT
    have hl := growT_len (hs := hs) (n := n) k
    obtain ⟨m, hm, _, hlt⟩ := mod_at (x := (hs[k]?).getD 0) (n := (growT hs n k).length) (by omega)
    rw [← hm, cntT_set hlt, cntT_grow hn k]
/-- each place stands in one bucket -/
def ArD.all1 (d : ArD) : Prop := cntT d.table = d.terms.length
theorem all1_new (n : Int) : (newA n).all1 := cntT_rep 16
theorem all1_sort {d : ArD} (h : d.all1) (n : ByteArray) (q : List Int) : (d.sort n q).all1 := by
  unfold ArD.sort
  split
  · exact h
  · split <;> exact h
theorem all1_fun {d : ArD} (h : d.all1) (f : FunD) : (d.fun_ f).all1 := by
  unfold ArD.fun_
  split <;> exact h
theorem all1_term {d : ArD} (ho : d.Ok) (h : d.all1) (t : TermD) : (d.term t).all1 := by
  rcases term_cases d t with ⟨e, _⟩ | ⟨e, _⟩
  · rw [e]; exact h
  rw [e]
  obtain ⟨j, hT, _⟩ := ho.tab
  have hT1 : 1 ≤ d.table.length := by rw [hT]; exact Nat.one_le_two_pow
  unfold ArD.all1
  rw [(put_sf d t).2.2.1]
  unfold ArD.put
  rcases Bool.eq_false_or_eq_true (decide (((d.terms ++ [t]).length : Int) > (d.table.length : Int))) with hg | hg <;> rw [hg]
  · show cntT (growT (d.hashes ++ [hashT t]) (2 * d.table.length) (d.hashes ++ [hashT t]).length) = _
    rw [cntT_grow (by omega), List.length_append, List.length_append, ho.ha]; rfl
  · show cntT (d.table.set (d.bk t) (d.bucket t ++ [_])) = _
    obtain ⟨m, hm, _, hlt⟩ := mod_at (x := hashT t) (n := d.table.length) hT1
    have : d.bk t = m := hm.symm
    unfold ArD.bucket
    rw [this, cntT_set hlt, List.length_append]
    have h : cntT d.table = d.terms.length := h
    rw [h]; rfl


end O
end Go.Proofs.Ytapmngmpomhjmaa

/- DagSame: the walk. -/
namespace Go.Proofs.Ytapmngmpomhjmaa
open Go.RowKit
namespace O
theorem DagP_hb_collator_collatorlaw06_speaks : hasBody Try.prog 7 = true := by kernel_rfl
theorem DagP_hb_collator_collatorlaw06_Great : hasBody Try.prog 8 = true := by kernel_rfl
theorem DagP_hb_collator_dag_New : hasBody Try.prog 9 = true := by kernel_rfl
theorem DagP_agg_collatorlaw06_Act : aggTy Try.prog 32 8 = true := by kernel_rfl
theorem DagP_size_collatorlaw06_Act : ∀ w, (sizeOf 32).run Try.prog w = .ok 8 w := run_sizeAgg DagP_agg_collatorlaw06_Act
theorem DagP_zero_collatorlaw06_Act : zeroOf Try.prog 32 [(.int .i64 0), (.string (ByteArray.mk #[])), (.slice none 0 0), (.int .i64 0), (.int .i64 0), (.int .i64 0), (.slice none 0 0), (.string (ByteArray.mk #[]))] := by unfold zeroOf; kernel_rfl
theorem DagP_f_collatorlaw06_Act_0 : fieldAt Try.prog 32 0 0 = true := by kernel_rfl
theorem DagP_one_int : oneTy Try.prog 3 = true := by kernel_rfl
theorem DagP_f_collatorlaw06_Act_1 : fieldAt Try.prog 32 1 1 = true := by kernel_rfl
theorem DagP_one_string : oneTy Try.prog 9 = true := by kernel_rfl
theorem DagP_f_collatorlaw06_Act_2 : fieldAt Try.prog 32 2 2 = true := by kernel_rfl
theorem DagP_one___int : oneTy Try.prog 28 = true := by kernel_rfl
theorem DagP_hb___collator_dag_Arena__Sort : hasBody Try.prog 10 = true := by kernel_rfl
theorem DagP_hb___collator_dag_Arena__Sorts : hasBody Try.prog 21 = true := by kernel_rfl
theorem DagP_f_collatorlaw06_Act_3 : fieldAt Try.prog 32 3 3 = true := by kernel_rfl
theorem DagP_zero_api_Fun : zeroOf Try.prog 38 [(.string (ByteArray.mk #[])), (.slice none 0 0), (.int .i64 0)] := by unfold zeroOf; kernel_rfl
theorem DagP_pl_api_Fun : placesOf Try.prog 38 #[(0, 1), (1, 1), (2, 1)] := ⟨_, Try.underlying38, fun w => by kernel_rfl⟩
theorem DagP_agg_api_Fun : aggTy Try.prog 38 3 = true := by kernel_rfl
theorem DagP_size_api_Fun : ∀ w, (sizeOf 38).run Try.prog w = .ok 3 w := run_sizeAgg DagP_agg_api_Fun
theorem DagP_hb___collator_dag_Arena__Fun : hasBody Try.prog 11 = true := by kernel_rfl
theorem DagP_hb___collator_dag_Arena__Len : hasBody Try.prog 12 = true := by kernel_rfl
theorem DagP_f_collatorlaw06_Act_4 : fieldAt Try.prog 32 4 4 = true := by kernel_rfl
theorem DagP_agg_api_Term : aggTy Try.prog 30 4 = true := by kernel_rfl
theorem DagP_hb___collator_dag_Arena__Term : hasBody Try.prog 13 = true := by kernel_rfl
theorem DagP_hb___collator_dag_Arena__Buckets : hasBody Try.prog 16 = true := by kernel_rfl
theorem DagP_size___int : ∀ w, (sizeOf 28).run Try.prog w = .ok 1 w := run_sizeOne DagP_one___int
theorem DagP_hb_collator_collatorref06_SameInts : hasBody Try.prog 20 = true := by kernel_rfl
set_option maxRecDepth 100000 in
set_option maxHeartbeats 4000000 in
theorem dl_DagSame (l : List ActD) : SpecO Try.prog 5 [.vp (O_act6 l)] [] [] [] (HA.of (VP.bool true)) := by
  refine spec_of 155 Try.func5 rfl Try.ntmps5 rfl fun w0 S0 Z0 Bf => ?_
  refine t_seq ?_
  refine t_region (F := ⟨_, _, _, _, _, _⟩) [.is (.tmp 0) (O_act6 l)] [] [(0, .is (.tmp 2) (VP.bool false))] [] [0] [] [[]] [[]] rfl rfl follow rfl ⟨
    .inl ⟨wants_plain rfl, does_move _ (.inr rfl) rfl rfl rfl rfl (ar_const (fun _ _ => rfl))⟩,
    trivial⟩ ?_
  refine nx_then ?_
  refine t_seq ?_
  refine t_seq ?_
  refine t_region (F := ⟨_, _, _, _, _, _⟩) [.is (.tmp 0) (O_act6 l), .is (.tmp 2) (VP.bool false)] [] [(0, .is (.tmp 19) (VP.bool true)), (1, .is (.tmp 20) (VP.bool false))] [] [0, 1] [] [[], [0]] [[1], []] rfl rfl follow rfl ⟨
    .inl ⟨wants_plain rfl, does_call dl_speaks (fun _ _ _ _ h => h) rfl DagP_hb_collator_collatorlaw06_speaks rfl rfl rfl rfl ar_clo ars_nil trivial⟩,
    .inl ⟨wants_plain rfl, does_not true _ _ rfl rfl rfl rfl rfl (ar_tmp (av_rs 0 0 rfl rfl))⟩,
    trivial⟩ ?_
  refine t_pick [0, 1, 3] rfl ?_
  refine nx_then ?_
  refine t_cond_f 2 rfl ?_
  refine t_skip ?_
  refine nx_then ?_
  refine t_seq ?_
  refine t_seq ?_
  refine t_region (F := ⟨_, _, _, _, _, _⟩) [.is (.tmp 0) (O_act6 l), .is (.tmp 2) (VP.bool false), .is (.tmp 20) (VP.bool false)] [] [(0, .is (.tmp 21) (O_act6 l)), (1, .is (.tmp 22) (VP.bool (greatL l)))] [] [0, 1, 2] [] [[], [0]] [[1], []] rfl rfl follow rfl ⟨
    .inl ⟨wants_plain rfl, does_move _ (.inl rfl) rfl rfl rfl rfl (ar_tmp (av_fs 0 rfl))⟩,
    .inl ⟨wants_plain rfl, does_call (dl_Great l) (fun _ _ _ _ h => h) rfl DagP_hb_collator_collatorlaw06_Great rfl rfl rfl rfl ar_clo (ars_cons (pa_slcRo (ar_tmp (av_rs 0 0 rfl rfl)) (flat_nil_iff cActD_len (by decide) _)) ars_nil) trivial⟩,
    trivial⟩ ?_
  refine t_pick [0, 1, 4] rfl ?_
  refine nx_then ?_
  refine t_split 2 rfl (fun hb1 => ?_) (fun hb1 => ?_)
  · refine t_seq ?_
    refine t_region (F := ⟨_, _, _, _, _, _⟩) [.is (.tmp 0) (O_act6 l), .is (.tmp 22) (VP.bool (greatL l))] [(0, .is (.tmp 2) (VP.bool false))] [(0, .is (.tmp 2) (VP.bool true))] [] [0, 2] [1] [[]] [[]] rfl rfl follow rfl ⟨
      .inl ⟨wants_plain rfl, does_move _ (.inr rfl) rfl rfl rfl rfl (ar_const (fun _ _ => rfl))⟩,
      trivial⟩ ?_
    refine t_pick [0, 2] rfl ?_
    refine nx_then ?_
    refine t_ret ?_
    refine rt_then ?_
    exact rt_post [HA.of (VP.bool true)] [[]] [] [] rfl ⟨(rv_vp 1 rfl), trivial⟩ (by decide) rfl rfl
  · obtain ⟨hg1, hg2⟩ := great_no hb1
    refine t_skip ?_
    refine nx_then ?_
    refine t_seq ?_
    refine t_region (F := ⟨_, _, _, _, _, _⟩) [.is (.tmp 0) (O_act6 l), .is (.tmp 2) (VP.bool false), .is (.tmp 22) (VP.bool (greatL l))] [] [(0, .own 101 (.tmp 23) (Arn (newA 500))), (1, .own 102 (.tmp 24) (Arn (newA 500))), (2, .eq 3 (.tmp 23)), (3, .eq 4 (.tmp 24))] [] [0, 1, 2] [] [[], [0], [0, 1], [0, 1, 2]] [[1, 2, 3], [2, 3], [3], []] rfl rfl follow rfl ⟨
      .inl ⟨wants_plain rfl, does_callG [] [] [] 101 [0] (da_New 500) rfl DagP_hb_collator_dag_New rfl rfl rfl rfl rfl ar_clo (ars_cons (pa_vp (ar_const (fun _ _ => rfl))) ars_nil) trivial trivial⟩,
      .inl ⟨wants_plain rfl, does_callG [] [] [] 102 [0] (da_New 500) rfl DagP_hb_collator_dag_New rfl rfl rfl rfl rfl ar_clo (ars_cons (pa_vp (ar_const (fun _ _ => rfl))) ars_nil) trivial trivial⟩,
      .inl ⟨wants_plain rfl, does_eqTmp (k := 23) _ rfl (.inr rfl) rfl rfl rfl rfl rfl⟩,
      .inl ⟨wants_plain rfl, does_eqTmp (k := 24) _ rfl (.inr rfl) rfl rfl rfl rfl rfl⟩,
      trivial⟩ ?_
    refine t_pick [0, 1, 3, 4, 5, 6] rfl ?_
    refine nx_then ?_
    refine t_pick [2, 0, 1, 3, 4, 5] rfl ?_
    refine t_nameP rfl fun va => ?_
    refine t_pick [4, 0, 1, 2, 3, 5, 6] rfl ?_
    refine t_nameP rfl fun vb => ?_
    refine t_pick [6, 3, 0, 1, 2, 4, 5, 7] rfl ?_
    refine t_eq ?_
    refine t_pick [7, 3, 0, 1, 2, 4, 5, 6] rfl ?_
    refine t_eq ?_
    refine t_pick [0, 2, 4, 5, 6, 7] rfl ?_
    refine t_seq ?_
    refine t_seq ?_
    refine t_region (F := ⟨_, _, _, _, _, _⟩) [.is (.tmp 4) (VP.ptr vb), .is (.tmp 3) (VP.ptr va), .own 102 (.val vb) (Arn (newA 500)), .own 101 (.val va) (Arn (newA 500)), .is (.tmp 0) (O_act6 l), .is (.tmp 2) (VP.bool false)] [] [(0, .is (.tmp 25) (O_act6 l)), (1, .is (.tmp 26) (VP.int .i64 ((l.length : Nat) : Int))), (2, .is (.tmp 27) (VP.int .i64 0))] [] [0, 1, 2, 3, 4, 5] [] [[], [0], []] [[1], [], []] rfl rfl follow rfl ⟨
      .inl ⟨wants_plain rfl, does_move _ (.inl rfl) rfl rfl rfl rfl (ar_tmp (av_fs 4 rfl))⟩,
      .inl ⟨wants_plain rfl, does_len _ _ (by kernel_rfl) rfl rfl rfl rfl rfl (sl_ro (av_rs 0 0 rfl rfl) (flat_nil_iff cActD_len (by decide) _))⟩,
      .inl ⟨wants_plain rfl, does_move _ (.inl rfl) rfl rfl rfl rfl (ar_const (fun _ _ => rfl))⟩,
      trivial⟩ ?_
    refine t_pick [0, 1, 2, 3, 5, 6, 7, 8] rfl ?_
    refine nx_then ?_
    refine t_block ?_
    refine t_pick [7, 0, 1, 2, 3, 4, 5, 6] rfl ?_
    refine t_slot (y := VP.int .i64 ((0 : Nat) : Int)) (fun _ _ _ h => h) ?_
    refine t_loop (τ := {p : Nat × ArD // p.1 ≤ l.length ∧ AInv p.2 p.1 ∧ p.2.all1}) (fun ⟨(k, d), _⟩ => [.is (.tmp 3) (VP.ptr va), .is (.tmp 4) (VP.ptr vb), .is (.tmp 25) (O_act6 l), .is (.tmp 26) (VP.int .i64 ((l.length : Nat) : Int)), .is (.tmp 27) (VP.int .i64 ((k : Nat) : Int)), .own 101 (.val va) (Arn d), .own 102 (.val vb) (Arn d)]) (fun ⟨(k, d), _⟩ => l.length - k) (⟨(0, newA 500), Nat.zero_le _, ainv_new 500 (by decide), all1_new 500⟩) [2, 1, 6, 7, 0, 4, 3] rfl ?_
    rintro ⟨⟨k, d⟩, hk, hI, hal⟩
    have hk : k ≤ l.length := hk
    have hI : AInv d k := hI
    have hal : cntT d.table = d.terms.length := hal
    have hns := hI.ns
    have hnf := hI.nf
    refine t_seq ?_
    refine t_region (F := ⟨_, _, _, _, _, _⟩) [.is (.tmp 3) (VP.ptr va), .is (.tmp 4) (VP.ptr vb), .is (.tmp 25) (O_act6 l), .is (.tmp 26) (VP.int .i64 ((l.length : Nat) : Int)), .is (.tmp 27) (VP.int .i64 ((k : Nat) : Int)), .own 101 (.val va) (Arn d), .own 102 (.val vb) (Arn d)] [] [(0, .is (.tmp 28) (VP.bool (decide (((k : Nat) : Int) < ((l.length : Nat) : Int)))))] [] [0, 1, 2, 3, 4, 5, 6] [] [[]] [[]] rfl rfl follow rfl ⟨
      .inl ⟨wants_plain rfl, does_cmp (m := ((k : Nat) : Int)) (n := ((l.length : Nat) : Int)) _ _ _ _ _ rfl rfl rfl rfl rfl rfl .i64 (ar_tmp (av_fs 4 rfl)) (ar_tmp (av_fs 3 rfl))⟩,
      trivial⟩ ?_
    refine nx_then ?_
    refine t_seq ?_
    refine t_split 7 rfl (fun hb2 => ?_) (fun hb2 => ?_)
    · have hc2 := of_decide_eq_true hb2
      obtain ⟨a, ha⟩ : ∃ a, l[k]? = some a := ⟨_, List.getElem?_eq_getElem (by omega)⟩
      have hga0 := hg2 a (List.mem_of_getElem? ha)
      have hga := hga0.2.1
      refine t_skip ?_
      refine nx_then ?_
      refine t_seq ?_
      refine t_block ?_
      refine t_seq ?_
      refine t_region (F := ⟨_, _, _, _, _, _⟩) [.is (.tmp 3) (VP.ptr va), .is (.tmp 4) (VP.ptr vb), .is (.tmp 25) (O_act6 l), .is (.tmp 26) (VP.int .i64 ((l.length : Nat) : Int)), .is (.tmp 27) (VP.int .i64 ((k : Nat) : Int)), .own 101 (.val va) (Arn d), .own 102 (.val vb) (Arn d), .is (.tmp 28) (VP.bool (decide (((k : Nat) : Int) < ((l.length : Nat) : Int))))] [] [(0, .pt 29 (.row (.tmp 25) (k * 8))), (1, .is (.tmp 30) (VP.agg [VP.int .i64 a.what, VP.str a.name, O_int a.args, VP.int .i64 a.res, VP.int .i64 a.term.op, VP.int .i64 a.term.fn, O_int a.term.kids, VP.str a.term.num])), (3, .own 103 (.tmp 6) (B_act6 a))] [(2, 3, .own 103 (.tmp 6) (HA.cells 32 [HA.of (VP.int .i64 0), HA.of (VP.str (ByteArray.mk #[])), HA.of (VP.nilS), HA.of (VP.int .i64 0), HA.of (VP.int .i64 0), HA.of (VP.int .i64 0), HA.of (VP.nilS), HA.of (VP.str (ByteArray.mk #[]))]))] [0, 1, 2, 3, 4, 5, 6, 7] [] [[], [0], [], [0, 1, 2]] [[1, 3], [3], [3], []] rfl rfl follow rfl ⟨
        .inl ⟨wants_plain rfl, does_index (m := k) _ _ Try.underlying22 DagP_size_collatorlaw06_Act rfl rfl rfl rfl rfl _ (by omega) rfl (by omega) (sl_ro (av_fs 2 rfl) (flat_nil_iff cActD_len (by decide) _)) (ar_tmp (av_fs 4 rfl))⟩,
        .inl ⟨wants_plain rfl, does_loadAgg (ps := [VP.int .i64 a.what, VP.str a.name, O_int a.args, VP.int .i64 a.res, VP.int .i64 a.term.op, VP.int .i64 a.term.fn, O_int a.term.kids, VP.str a.term.num]) _ DagP_agg_collatorlaw06_Act rfl rfl rfl rfl rfl (pt_pt (av_rs 0 0 rfl rfl)) (rds_ro (av_fs 2 rfl) (hq_flatV cActD_len ha (by omega) rfl))⟩,
        .inl ⟨wants_plain rfl, does_alloc (ps := [VP.int .i64 0, VP.str (ByteArray.mk #[]), VP.nilS, VP.int .i64 0, VP.int .i64 0, VP.int .i64 0, VP.nilS, VP.str (ByteArray.mk #[])]) DagP_zero_collatorlaw06_Act rfl rfl rfl rfl rfl rfl (fun _ _ => ⟨rfl, rfl, rfl, rfl, rfl, rfl, rfl, rfl, trivial⟩)⟩,
        .inl ⟨wants_plain rfl, does_store (off := 0) (Qs := [HA.of (VP.int .i64 a.what), HA.of (VP.str a.name), HA.of (O_int a.args), HA.of (VP.int .i64 a.res), HA.of (VP.int .i64 a.term.op), HA.of (VP.int .i64 a.term.fn), HA.of (O_int a.term.kids), HA.of (VP.str a.term.num)]) _ _ DagP_size_collatorlaw06_Act rfl rfl rfl rfl rfl rfl (pt_box (av_ms 0 2 3 rfl rfl rfl)) (av_ms 0 2 3 rfl rfl rfl) (cv_agg (ps := [VP.int .i64 a.what, VP.str a.name, O_int a.args, VP.int .i64 a.res, VP.int .i64 a.term.op, VP.int .i64 a.term.fn, O_int a.term.kids, VP.str a.term.num]) (ar_tmp (av_rs 1 1 rfl rfl)))⟩,
        trivial⟩ ?_
      refine nx_then ?_
      refine t_pick [10, 0, 1, 2, 3, 4, 5, 6, 7, 8, 9] rfl ?_
      refine t_nameP rfl fun ca => ?_
      refine t_seq ?_
      refine t_region (F := ⟨_, _, _, _, _, _⟩) [.own 103 (.val ca) (B_act6 a), .is (.tmp 6) (VP.ptr ca), .is (.tmp 3) (VP.ptr va), .is (.tmp 4) (VP.ptr vb), .is (.tmp 25) (O_act6 l), .is (.tmp 26) (VP.int .i64 ((l.length : Nat) : Int)), .is (.tmp 27) (VP.int .i64 ((k : Nat) : Int)), .own 101 (.val va) (Arn d), .own 102 (.val vb) (Arn d), .is (.tmp 28) (VP.bool (decide (((k : Nat) : Int) < ((l.length : Nat) : Int)))), .pt 29 (.row (.tmp 25) (k * 8)), .is (.tmp 30) (VP.agg [VP.int .i64 a.what, VP.str a.name, O_int a.args, VP.int .i64 a.res, VP.int .i64 a.term.op, VP.int .i64 a.term.fn, O_int a.term.kids, VP.str a.term.num])] [] [(0, .pt 31 (.blk (.val ca) 0)), (1, .is (.tmp 32) (VP.int .i64 a.what))] [] [0, 1, 2, 3, 4, 5, 6, 7, 8, 9, 10, 11] [] [[], [0]] [[1], []] rfl rfl follow rfl ⟨
        .inl ⟨wants_plain rfl, does_field _ _ _ 0 DagP_f_collatorlaw06_Act_0 rfl rfl rfl rfl rfl rfl (pt_ptr (ar_tmp (av_fs 1 rfl)))⟩,
        .inl ⟨wants_plain rfl, does_loadOne _ DagP_one_int rfl rfl rfl rfl rfl (pt_pt (av_rs 0 0 rfl rfl)) (rds_box (off := 0) (av_fs 0 rfl) (hq_one rfl))⟩,
        trivial⟩ ?_
      refine nx_then ?_
      refine t_block ?_
      refine t_seq ?_
      refine t_region (F := ⟨_, _, _, _, _, _⟩) [.own 103 (.val ca) (B_act6 a), .is (.tmp 6) (VP.ptr ca), .is (.tmp 3) (VP.ptr va), .is (.tmp 4) (VP.ptr vb), .is (.tmp 25) (O_act6 l), .is (.tmp 26) (VP.int .i64 ((l.length : Nat) : Int)), .is (.tmp 27) (VP.int .i64 ((k : Nat) : Int)), .own 101 (.val va) (Arn d), .own 102 (.val vb) (Arn d), .is (.tmp 28) (VP.bool (decide (((k : Nat) : Int) < ((l.length : Nat) : Int)))), .pt 29 (.row (.tmp 25) (k * 8)), .is (.tmp 30) (VP.agg [VP.int .i64 a.what, VP.str a.name, O_int a.args, VP.int .i64 a.res, VP.int .i64 a.term.op, VP.int .i64 a.term.fn, O_int a.term.kids, VP.str a.term.num]), .pt 31 (.blk (.val ca) 0), .is (.tmp 32) (VP.int .i64 a.what)] [] [(0, .is (.tmp 68) (VP.bool (a.what == 0))), (1, .is (.tmp 67) (VP.bool (a.what == 0)))] [] [0, 1, 2, 3, 4, 5, 6, 7, 8, 9, 10, 11, 12, 13] [] [[], [0]] [[1], []] rfl rfl follow rfl ⟨
        .inl ⟨wants_plain rfl, does_cmp (m := a.what) (n := 0) _ _ _ _ _ rfl rfl rfl rfl rfl rfl .i64 (ar_tmp (av_fs 13 rfl)) (ar_const (fun _ _ => rfl))⟩,
        .inl ⟨wants_plain rfl, does_move _ (.inr rfl) rfl rfl rfl rfl (ar_tmp (av_rs 0 0 rfl rfl))⟩,
        trivial⟩ ?_
      refine nx_then ?_
      refine t_split 15 rfl (fun hb3 => ?_) (fun hb3 => ?_)
      · have hc3 := eq_of_beq hb3
        have hn1 := (ainv_sort hI a.name a.args hga).ns
        have hgs : ∀ x ∈ (d.sort a.name a.args).sorts, x.args.length ≤ 1000 := fun x hx => Nat.le_trans ((ainv_sort hI a.name a.args hga).sa x hx) (by decide)
        refine t_seq ?_
        refine t_region (F := ⟨_, _, _, _, _, _⟩) [.own 103 (.val ca) (B_act6 a), .is (.tmp 6) (VP.ptr ca), .is (.tmp 3) (VP.ptr va), .is (.tmp 4) (VP.ptr vb), .is (.tmp 25) (O_act6 l), .is (.tmp 26) (VP.int .i64 ((l.length : Nat) : Int)), .is (.tmp 27) (VP.int .i64 ((k : Nat) : Int)), .own 102 (.val vb) (Arn d), .is (.tmp 28) (VP.bool (decide (((k : Nat) : Int) < ((l.length : Nat) : Int)))), .pt 29 (.row (.tmp 25) (k * 8)), .is (.tmp 30) (VP.agg [VP.int .i64 a.what, VP.str a.name, O_int a.args, VP.int .i64 a.res, VP.int .i64 a.term.op, VP.int .i64 a.term.fn, O_int a.term.kids, VP.str a.term.num]), .pt 31 (.blk (.val ca) 0), .is (.tmp 32) (VP.int .i64 a.what), .is (.tmp 68) (VP.bool (a.what == 0)), .is (.tmp 67) (VP.bool (a.what == 0))] [(5, .own 101 (.val va) (Arn d))] [(0, .is (.tmp 69) (VP.ptr va)), (1, .pt 70 (.blk (.val ca) 1)), (2, .is (.tmp 71) (VP.str a.name)), (3, .pt 72 (.blk (.val ca) 2)), (4, .is (.tmp 73) (O_int a.args)), (5, .own 104 (.tmp 74) (HA.of (VP.tup [VP.int .i64 (d.sortR a.name a.args), VP.int .i64 (d.sortE a.args)]))), (5, .own 101 (.val va) (Arn (d.sort a.name a.args)))] [] [0, 1, 2, 3, 4, 5, 6, 8, 9, 10, 11, 12, 13, 14, 15] [7] [[], [], [1], [], [3], [0, 1, 2, 3, 4]] [[5], [2, 5], [5], [4, 5], [5], []] rfl rfl follow rfl ⟨
          .inl ⟨wants_plain rfl, does_move _ (.inl rfl) rfl rfl rfl rfl (ar_tmp (av_fs 2 rfl))⟩,
          .inl ⟨wants_plain rfl, does_field _ _ _ 1 DagP_f_collatorlaw06_Act_1 rfl rfl rfl rfl rfl rfl (pt_ptr (ar_tmp (av_fs 1 rfl)))⟩,
          .inl ⟨wants_plain rfl, does_loadOne _ DagP_one_string rfl rfl rfl rfl rfl (pt_pt (av_rs 1 1 rfl rfl)) (rds_box (off := 1) (av_fs 0 rfl) (hq_one rfl))⟩,
          .inl ⟨wants_plain rfl, does_field _ _ _ 2 DagP_f_collatorlaw06_Act_2 rfl rfl rfl rfl rfl rfl (pt_ptr (ar_tmp (av_fs 1 rfl)))⟩,
          .inl ⟨wants_plain rfl, does_loadOne _ DagP_one___int rfl rfl rfl rfl rfl (pt_pt (av_rs 3 3 rfl rfl)) (rds_box (off := 2) (av_fs 0 rfl) (hq_one rfl))⟩,
          .inl ⟨wants_plain rfl, does_callG [] [101] [101] 104 [0, 1] (da_Sort (v := va) (d := d) a.name a.args (by omega) (by omega)) rfl DagP_hb___collator_dag_Arena__Sort rfl rfl rfl rfl rfl ar_clo (ars_cons (pa_vp (ar_tmp (av_rs 0 0 rfl rfl))) (ars_cons (pa_vp (ar_tmp (av_rs 2 2 rfl rfl))) (ars_cons (pa_slcRo (ar_tmp (av_rs 4 4 rfl rfl)) (flat_nil_iff cInt_len (by decide) _)) ars_nil))) trivial ⟨(av_os 0 5 rfl rfl), trivial⟩⟩,
          trivial⟩ ?_
        refine nx_then ?_
        refine t_pick [0, 1, 2, 3, 4, 5, 6, 7, 8, 9, 10, 11, 12, 13, 14, 15, 16, 17, 18, 19, 21] rfl ?_
        refine t_seq ?_
        refine t_region (F := ⟨_, _, _, _, _, _⟩) [.own 103 (.val ca) (B_act6 a), .is (.tmp 6) (VP.ptr ca), .is (.tmp 3) (VP.ptr va), .is (.tmp 4) (VP.ptr vb), .is (.tmp 25) (O_act6 l), .is (.tmp 26) (VP.int .i64 ((l.length : Nat) : Int)), .is (.tmp 27) (VP.int .i64 ((k : Nat) : Int)), .is (.tmp 28) (VP.bool (decide (((k : Nat) : Int) < ((l.length : Nat) : Int)))), .pt 29 (.row (.tmp 25) (k * 8)), .is (.tmp 30) (VP.agg [VP.int .i64 a.what, VP.str a.name, O_int a.args, VP.int .i64 a.res, VP.int .i64 a.term.op, VP.int .i64 a.term.fn, O_int a.term.kids, VP.str a.term.num]), .pt 31 (.blk (.val ca) 0), .is (.tmp 32) (VP.int .i64 a.what), .is (.tmp 68) (VP.bool (a.what == 0)), .is (.tmp 67) (VP.bool (a.what == 0)), .is (.tmp 69) (VP.ptr va), .pt 70 (.blk (.val ca) 1), .is (.tmp 71) (VP.str a.name), .pt 72 (.blk (.val ca) 2), .is (.tmp 73) (O_int a.args), .own 101 (.val va) (Arn (d.sort a.name a.args))] [(5, .own 102 (.val vb) (Arn d))] [(0, .is (.tmp 76) (VP.ptr vb)), (1, .pt 77 (.blk (.val ca) 1)), (2, .is (.tmp 78) (VP.str a.name)), (3, .pt 79 (.blk (.val ca) 2)), (4, .is (.tmp 80) (O_int a.args)), (5, .own 105 (.tmp 81) (HA.of (VP.tup [VP.int .i64 (d.sortR a.name a.args), VP.int .i64 (d.sortE a.args)]))), (5, .own 102 (.val vb) (Arn (d.sort a.name a.args))), (6, .is (.tmp 75) (VP.tup [VP.int .i64 (d.sortR a.name a.args), VP.int .i64 (d.sortE a.args)])), (7, .is (.tmp 82) (VP.int .i64 (d.sortR a.name a.args))), (8, .is (.tmp 83) (VP.int .i64 (d.sortE a.args))), (9, .is (.tmp 7) (VP.int .i64 (d.sortR a.name a.args))), (10, .is (.tmp 8) (VP.int .i64 (d.sortE a.args)))] [] [0, 1, 2, 3, 4, 5, 6, 8, 9, 10, 11, 12, 13, 14, 15, 16, 17, 18, 19, 20] [7] [[], [], [1], [], [3], [0, 1, 2, 3, 4], [0, 1, 2, 3, 4, 5], [0, 1, 2, 3, 4, 5, 6], [0, 1, 2, 3, 4, 5, 6], [0, 1, 2, 3, 4, 5, 6, 7], [0, 1, 2, 3, 4, 5, 6, 7, 8, 9]] [[5, 6, 7, 8, 9, 10], [2, 5, 6, 7, 8, 9, 10], [5, 6, 7, 8, 9, 10], [4, 5, 6, 7, 8, 9, 10], [5, 6, 7, 8, 9, 10], [6, 7, 8, 9, 10], [7, 8, 9, 10], [9, 10], [10], [10], []] rfl rfl follow rfl ⟨
          .inl ⟨wants_plain rfl, does_move _ (.inl rfl) rfl rfl rfl rfl (ar_tmp (av_fs 3 rfl))⟩,
          .inl ⟨wants_plain rfl, does_field _ _ _ 1 DagP_f_collatorlaw06_Act_1 rfl rfl rfl rfl rfl rfl (pt_ptr (ar_tmp (av_fs 1 rfl)))⟩,
          .inl ⟨wants_plain rfl, does_loadOne _ DagP_one_string rfl rfl rfl rfl rfl (pt_pt (av_rs 1 1 rfl rfl)) (rds_box (off := 1) (av_fs 0 rfl) (hq_one rfl))⟩,
          .inl ⟨wants_plain rfl, does_field _ _ _ 2 DagP_f_collatorlaw06_Act_2 rfl rfl rfl rfl rfl rfl (pt_ptr (ar_tmp (av_fs 1 rfl)))⟩,
          .inl ⟨wants_plain rfl, does_loadOne _ DagP_one___int rfl rfl rfl rfl rfl (pt_pt (av_rs 3 3 rfl rfl)) (rds_box (off := 2) (av_fs 0 rfl) (hq_one rfl))⟩,
          .inl ⟨wants_plain rfl, does_callG [] [102] [102] 105 [0, 1] (da_Sort (v := vb) (d := d) a.name a.args (by omega) (by omega)) rfl DagP_hb___collator_dag_Arena__Sort rfl rfl rfl rfl rfl ar_clo (ars_cons (pa_vp (ar_tmp (av_rs 0 0 rfl rfl))) (ars_cons (pa_vp (ar_tmp (av_rs 2 2 rfl rfl))) (ars_cons (pa_slcRo (ar_tmp (av_rs 4 4 rfl rfl)) (flat_nil_iff cInt_len (by decide) _)) ars_nil))) trivial ⟨(av_os 0 5 rfl rfl), trivial⟩⟩,
          .inl ⟨wants_plain rfl, does_move _ (.inl rfl) rfl rfl rfl rfl (ar_of (av_rs 5 5 rfl rfl))⟩,
          .inl ⟨wants_plain rfl, does_extract (ps := [VP.int .i64 (d.sortR a.name a.args), VP.int .i64 (d.sortE a.args)]) _ 0 rfl rfl rfl rfl rfl (ar_tmp (av_rs 7 6 rfl rfl)) rfl⟩,
          .inl ⟨wants_plain rfl, does_extract (ps := [VP.int .i64 (d.sortR a.name a.args), VP.int .i64 (d.sortE a.args)]) _ 1 rfl rfl rfl rfl rfl (ar_tmp (av_rs 7 6 rfl rfl)) rfl⟩,
          .inl ⟨wants_plain rfl, does_move _ (.inr rfl) rfl rfl rfl rfl (ar_tmp (av_rs 8 7 rfl rfl))⟩,
          .inl ⟨wants_plain rfl, does_move _ (.inr rfl) rfl rfl rfl rfl (ar_tmp (av_rs 9 8 rfl rfl))⟩,
          trivial⟩ ?_
        refine t_pick [0, 1, 2, 3, 4, 5, 6, 7, 8, 9, 10, 11, 12, 13, 14, 15, 16, 17, 18, 19, 20, 21, 22, 23, 24, 25, 26, 27, 28, 29, 31] rfl ?_
        refine nx_then ?_
        refine t_pick [25, 0, 1, 2, 3, 4, 5, 6, 7, 8, 9, 10, 11, 12, 13, 14, 15, 16, 17, 18, 19, 20, 21, 22, 23, 24, 26, 27, 28, 29, 30] rfl ?_
        refine t_freeze (fz_of _) rfl ?_
        refine t_seq ?_
        rcases Bool.eq_false_or_eq_true ((d.sortE a.args) != 0) with hb4 | hb4
        · have hc4 := (bne_iff_ne.1 hb4)
          refine t_region (F := ⟨_, _, _, _, _, _⟩) [.is (.tmp 81) (VP.tup [VP.int .i64 (d.sortR a.name a.args), VP.int .i64 (d.sortE a.args)]), .own 103 (.val ca) (B_act6 a), .is (.tmp 6) (VP.ptr ca), .is (.tmp 3) (VP.ptr va), .is (.tmp 4) (VP.ptr vb), .is (.tmp 25) (O_act6 l), .is (.tmp 26) (VP.int .i64 ((l.length : Nat) : Int)), .is (.tmp 27) (VP.int .i64 ((k : Nat) : Int)), .is (.tmp 28) (VP.bool (decide (((k : Nat) : Int) < ((l.length : Nat) : Int)))), .pt 29 (.row (.tmp 25) (k * 8)), .is (.tmp 30) (VP.agg [VP.int .i64 a.what, VP.str a.name, O_int a.args, VP.int .i64 a.res, VP.int .i64 a.term.op, VP.int .i64 a.term.fn, O_int a.term.kids, VP.str a.term.num]), .pt 31 (.blk (.val ca) 0), .is (.tmp 32) (VP.int .i64 a.what), .is (.tmp 68) (VP.bool (a.what == 0)), .is (.tmp 67) (VP.bool (a.what == 0)), .is (.tmp 69) (VP.ptr va), .pt 70 (.blk (.val ca) 1), .is (.tmp 71) (VP.str a.name), .pt 72 (.blk (.val ca) 2), .is (.tmp 73) (O_int a.args), .own 101 (.val va) (Arn (d.sort a.name a.args)), .is (.tmp 76) (VP.ptr vb), .pt 77 (.blk (.val ca) 1), .is (.tmp 78) (VP.str a.name), .pt 79 (.blk (.val ca) 2), .is (.tmp 80) (O_int a.args), .own 102 (.val vb) (Arn (d.sort a.name a.args)), .is (.tmp 75) (VP.tup [VP.int .i64 (d.sortR a.name a.args), VP.int .i64 (d.sortE a.args)]), .is (.tmp 82) (VP.int .i64 (d.sortR a.name a.args)), .is (.tmp 83) (VP.int .i64 (d.sortE a.args)), .is (.tmp 8) (VP.int .i64 (d.sortE a.args))] [] [(0, .is (.tmp 84) (VP.int .i64 (d.sortE a.args))), (1, .is (.tmp 85) (VP.bool ((d.sortE a.args) != 0))), (2, .is (.tmp 86) (VP.bool ((d.sortE a.args) != 0))), (3, .is (.tmp 87) (VP.ptr va)), (4, .own 106 (.tmp 88) (R_sort ((d.sort a.name a.args).sorts))), (5, .is (.tmp 89) (VP.int .i64 ((((d.sort a.name a.args).sorts).length : Nat) : Int))), (6, .is (.tmp 90) (VP.ptr vb)), (7, .own 107 (.tmp 91) (R_sort ((d.sort a.name a.args).sorts))), (8, .is (.tmp 92) (VP.int .i64 ((((d.sort a.name a.args).sorts).length : Nat) : Int))), (9, .is (.tmp 93) (VP.bool (((((d.sort a.name a.args).sorts).length : Nat) : Int) != ((((d.sort a.name a.args).sorts).length : Nat) : Int)))), (10, .is (.tmp 94) (VP.bool (((((d.sort a.name a.args).sorts).length : Nat) : Int) != ((((d.sort a.name a.args).sorts).length : Nat) : Int))))] [] [0, 1, 2, 3, 4, 5, 6, 7, 8, 9, 10, 11, 12, 13, 14, 15, 16, 17, 18, 19, 20, 21, 22, 23, 24, 25, 26, 27, 28, 29, 30] [] [[], [0], [0, 1], [0, 1, 2], [0, 1, 2, 3], [0, 1, 2, 3, 4], [0, 1, 2], [0, 1, 2, 3, 4, 6], [0, 1, 2, 3, 4, 6, 7], [0, 1, 2, 3, 4, 5, 6, 7, 8], [0, 1, 2, 3, 4, 5, 6, 7, 8, 9]] [[1, 2, 3, 4, 5, 6, 7, 8, 9, 10], [2, 3, 4, 5, 6, 7, 8, 9, 10], [3, 4, 5, 6, 7, 8, 9, 10], [4, 5, 7, 8, 9, 10], [5, 7, 8, 9, 10], [9, 10], [7, 8, 9, 10], [8, 9, 10], [9, 10], [10], []] rfl rfl follow rfl ⟨
            .inl ⟨wants_plain rfl, does_move _ (.inl rfl) rfl rfl rfl rfl (ar_tmp (av_fs 30 rfl))⟩,
            .inl ⟨wants_plain rfl, does_cmp (m := (d.sortE a.args)) (n := 0) _ _ _ _ _ rfl rfl rfl rfl rfl rfl .i64 (ar_tmp (av_rs 0 0 rfl rfl)) (ar_const (fun _ _ => rfl))⟩,
            .inl ⟨wants_plain rfl, does_move _ (.inl rfl) rfl rfl rfl rfl (ar_tmp (av_rs 1 1 rfl rfl))⟩,
            .inl ⟨wants_guard true rfl rfl rfl (av_bool hb4 (av_rs 2 2 rfl rfl)), does_move _ (.inl rfl) rfl rfl rfl rfl (ar_tmp (av_fs 3 rfl))⟩,
            .inl ⟨wants_guard true rfl rfl rfl (av_bool hb4 (av_rs 2 2 rfl rfl)), does_callG [] [] [] 106 [0] (da_Sorts (v := va) (d := (d.sort a.name a.args)) (by omega) (hgs)) rfl DagP_hb___collator_dag_Arena__Sorts rfl rfl rfl rfl rfl ar_clo (ars_cons (pa_vp (ar_tmp (av_rs 3 3 rfl rfl))) ars_nil) ⟨(brw_own (av_fs 20 rfl) rfl), trivial⟩ trivial⟩,
            .inl ⟨wants_guard true rfl rfl rfl (av_bool hb4 (av_rs 2 2 rfl rfl)), does_len _ _ (by kernel_rfl) rfl rfl rfl rfl rfl (sl_tmp (av_rs 4 4 rfl rfl))⟩,
            .inl ⟨wants_guard true rfl rfl rfl (av_bool hb4 (av_rs 2 2 rfl rfl)), does_move _ (.inl rfl) rfl rfl rfl rfl (ar_tmp (av_fs 4 rfl))⟩,
            .inl ⟨wants_guard true rfl rfl rfl (av_bool hb4 (av_rs 2 2 rfl rfl)), does_callG [] [] [] 107 [0] (da_Sorts (v := vb) (d := (d.sort a.name a.args)) (by omega) (hgs)) rfl DagP_hb___collator_dag_Arena__Sorts rfl rfl rfl rfl rfl ar_clo (ars_cons (pa_vp (ar_tmp (av_rs 6 6 rfl rfl))) ars_nil) ⟨(brw_own (av_fs 26 rfl) rfl), trivial⟩ trivial⟩,
            .inl ⟨wants_guard true rfl rfl rfl (av_bool hb4 (av_rs 2 2 rfl rfl)), does_len _ _ (by kernel_rfl) rfl rfl rfl rfl rfl (sl_tmp (av_rs 7 7 rfl rfl))⟩,
            .inl ⟨wants_guard true rfl rfl rfl (av_bool hb4 (av_rs 2 2 rfl rfl)), does_cmp (m := ((((d.sort a.name a.args).sorts).length : Nat) : Int)) (n := ((((d.sort a.name a.args).sorts).length : Nat) : Int)) _ _ _ _ _ rfl rfl rfl rfl rfl rfl .i64 (ar_tmp (av_rs 5 5 rfl rfl)) (ar_tmp (av_rs 8 8 rfl rfl))⟩,
            .inl ⟨wants_plain rfl, does_pick true _ _ _ rfl rfl rfl rfl rfl (ar_tmp (av_bool hb4 (av_rs 2 2 rfl rfl))) (ar_tmp (av_rs 9 9 rfl rfl))⟩,
            trivial⟩ ?_
          refine nx_then ?_
          refine t_pick [35, 0, 1, 2, 3, 4, 5, 6, 7, 8, 9, 10, 11, 12, 13, 14, 15, 16, 17, 18, 19, 20, 21, 22, 23, 24, 25, 26, 27, 28, 29, 30, 31, 32, 33, 34, 36, 37, 38, 39, 40, 41] rfl ?_
          refine t_name rfl fun v5 => ?_
          refine t_pick [39, 0, 1, 2, 3, 4, 5, 6, 7, 8, 9, 10, 11, 12, 13, 14, 15, 16, 17, 18, 19, 20, 21, 22, 23, 24, 25, 26, 27, 28, 29, 30, 31, 32, 33, 34, 35, 36, 37, 38, 40, 41, 42] rfl ?_
          refine t_name rfl fun v6 => ?_
          refine t_cond_fe 43 rfl (by simp) ?_
          refine t_skip ?_
          refine nx_block ?_
          refine nx_block ?_
          refine nx_then ?_
          refine t_region (F := ⟨_, _, _, _, _, _⟩) [.own 107 (.val v6) (R_sort ((d.sort a.name a.args).sorts)), .is (.tmp 91) (VP.eq v6 true true), .own 106 (.val v5) (R_sort ((d.sort a.name a.args).sorts)), .is (.tmp 88) (VP.eq v5 true true), .is (.tmp 81) (VP.tup [VP.int .i64 (d.sortR a.name a.args), VP.int .i64 (d.sortE a.args)]), .own 103 (.val ca) (B_act6 a), .is (.tmp 6) (VP.ptr ca), .is (.tmp 3) (VP.ptr va), .is (.tmp 4) (VP.ptr vb), .is (.tmp 25) (O_act6 l), .is (.tmp 26) (VP.int .i64 ((l.length : Nat) : Int)), .is (.tmp 28) (VP.bool (decide (((k : Nat) : Int) < ((l.length : Nat) : Int)))), .pt 29 (.row (.tmp 25) (k * 8)), .is (.tmp 30) (VP.agg [VP.int .i64 a.what, VP.str a.name, O_int a.args, VP.int .i64 a.res, VP.int .i64 a.term.op, VP.int .i64 a.term.fn, O_int a.term.kids, VP.str a.term.num]), .pt 31 (.blk (.val ca) 0), .is (.tmp 32) (VP.int .i64 a.what), .is (.tmp 68) (VP.bool (a.what == 0)), .is (.tmp 67) (VP.bool (a.what == 0)), .is (.tmp 69) (VP.ptr va), .pt 70 (.blk (.val ca) 1), .is (.tmp 71) (VP.str a.name), .pt 72 (.blk (.val ca) 2), .is (.tmp 73) (O_int a.args), .own 101 (.val va) (Arn (d.sort a.name a.args)), .is (.tmp 76) (VP.ptr vb), .pt 77 (.blk (.val ca) 1), .is (.tmp 78) (VP.str a.name), .pt 79 (.blk (.val ca) 2), .is (.tmp 80) (O_int a.args), .own 102 (.val vb) (Arn (d.sort a.name a.args)), .is (.tmp 75) (VP.tup [VP.int .i64 (d.sortR a.name a.args), VP.int .i64 (d.sortE a.args)]), .is (.tmp 82) (VP.int .i64 (d.sortR a.name a.args)), .is (.tmp 83) (VP.int .i64 (d.sortE a.args)), .is (.tmp 8) (VP.int .i64 (d.sortE a.args)), .is (.tmp 84) (VP.int .i64 (d.sortE a.args)), .is (.tmp 85) (VP.bool ((d.sortE a.args) != 0)), .is (.tmp 86) (VP.bool ((d.sortE a.args) != 0)), .is (.tmp 87) (VP.ptr va), .is (.tmp 89) (VP.int .i64 ((((d.sort a.name a.args).sorts).length : Nat) : Int)), .is (.tmp 90) (VP.ptr vb), .is (.tmp 92) (VP.int .i64 ((((d.sort a.name a.args).sorts).length : Nat) : Int)), .is (.tmp 93) (VP.bool (((((d.sort a.name a.args).sorts).length : Nat) : Int) != ((((d.sort a.name a.args).sorts).length : Nat) : Int))), .is (.tmp 94) (VP.bool (((((d.sort a.name a.args).sorts).length : Nat) : Int) != ((((d.sort a.name a.args).sorts).length : Nat) : Int)))] [(1, .is (.tmp 27) (VP.int .i64 ((k : Nat) : Int)))] [(0, .is (.tmp 110) (VP.int .i64 (((k + 1) : Nat) : Int))), (1, .is (.tmp 27) (VP.int .i64 (((k + 1) : Nat) : Int)))] [] [0, 1, 2, 3, 4, 5, 6, 7, 8, 9, 10, 12, 13, 14, 15, 16, 17, 18, 19, 20, 21, 22, 23, 24, 25, 26, 27, 28, 29, 30, 31, 32, 33, 34, 35, 36, 37, 38, 39, 40, 41, 42, 43] [11] [[], [0]] [[1], []] rfl rfl follow rfl ⟨
            .inl ⟨wants_plain rfl, does_addE (m := ((k : Nat) : Int)) (n := 1) (x := (((k + 1) : Nat) : Int)) (by omega) _ _ _ _ rfl rfl rfl rfl rfl (by omega) (ar_tmp (av_os 0 1 rfl rfl)) (ar_const (fun _ _ => rfl))⟩,
            .inl ⟨wants_plain rfl, does_move _ (.inl rfl) rfl rfl rfl rfl (ar_tmp (av_rs 0 0 rfl rfl))⟩,
            trivial⟩ ?_
          refine nx_round (τ := {p : Nat × ArD // p.1 ≤ l.length ∧ AInv p.2 p.1 ∧ p.2.all1}) (I := fun ⟨(k, d), _⟩ => [.is (.tmp 3) (VP.ptr va), .is (.tmp 4) (VP.ptr vb), .is (.tmp 25) (O_act6 l), .is (.tmp 26) (VP.int .i64 ((l.length : Nat) : Int)), .is (.tmp 27) (VP.int .i64 ((k : Nat) : Int)), .own 101 (.val va) (Arn d), .own 102 (.val vb) (Arn d)]) (μ := fun ⟨(k, d), _⟩ => l.length - k) (s := ⟨(k, d), hk, hI, hal⟩) (⟨(k + 1, (d.sort a.name a.args)), (show k + 1 ≤ l.length by omega), ainv_sort hI a.name a.args hga, all1_sort hal a.name a.args⟩) ?_ [7, 8, 9, 10, 44, 23, 29] ?_
          · exact (show l.length - (k + 1) < l.length - k by omega)
          · exact rfl
        · have hc4 := (bne_eq_false_iff_eq.1 hb4)
          refine t_region (F := ⟨_, _, _, _, _, _⟩) [.is (.tmp 81) (VP.tup [VP.int .i64 (d.sortR a.name a.args), VP.int .i64 (d.sortE a.args)]), .own 103 (.val ca) (B_act6 a), .is (.tmp 6) (VP.ptr ca), .is (.tmp 3) (VP.ptr va), .is (.tmp 4) (VP.ptr vb), .is (.tmp 25) (O_act6 l), .is (.tmp 26) (VP.int .i64 ((l.length : Nat) : Int)), .is (.tmp 27) (VP.int .i64 ((k : Nat) : Int)), .is (.tmp 28) (VP.bool (decide (((k : Nat) : Int) < ((l.length : Nat) : Int)))), .pt 29 (.row (.tmp 25) (k * 8)), .is (.tmp 30) (VP.agg [VP.int .i64 a.what, VP.str a.name, O_int a.args, VP.int .i64 a.res, VP.int .i64 a.term.op, VP.int .i64 a.term.fn, O_int a.term.kids, VP.str a.term.num]), .pt 31 (.blk (.val ca) 0), .is (.tmp 32) (VP.int .i64 a.what), .is (.tmp 68) (VP.bool (a.what == 0)), .is (.tmp 67) (VP.bool (a.what == 0)), .is (.tmp 69) (VP.ptr va), .pt 70 (.blk (.val ca) 1), .is (.tmp 71) (VP.str a.name), .pt 72 (.blk (.val ca) 2), .is (.tmp 73) (O_int a.args), .own 101 (.val va) (Arn (d.sort a.name a.args)), .is (.tmp 76) (VP.ptr vb), .pt 77 (.blk (.val ca) 1), .is (.tmp 78) (VP.str a.name), .pt 79 (.blk (.val ca) 2), .is (.tmp 80) (O_int a.args), .own 102 (.val vb) (Arn (d.sort a.name a.args)), .is (.tmp 75) (VP.tup [VP.int .i64 (d.sortR a.name a.args), VP.int .i64 (d.sortE a.args)]), .is (.tmp 82) (VP.int .i64 (d.sortR a.name a.args)), .is (.tmp 83) (VP.int .i64 (d.sortE a.args)), .is (.tmp 8) (VP.int .i64 (d.sortE a.args))] [] [(0, .is (.tmp 84) (VP.int .i64 (d.sortE a.args))), (1, .is (.tmp 85) (VP.bool ((d.sortE a.args) != 0))), (2, .is (.tmp 86) (VP.bool ((d.sortE a.args) != 0))), (3, .is (.tmp 87) (VP.undef)), (4, .is (.tmp 88) (VP.undef)), (5, .is (.tmp 89) (VP.undef)), (6, .is (.tmp 90) (VP.undef)), (7, .is (.tmp 91) (VP.undef)), (8, .is (.tmp 92) (VP.undef)), (9, .is (.tmp 93) (VP.undef)), (10, .is (.tmp 94) (VP.bool false))] [] [0, 1, 2, 3, 4, 5, 6, 7, 8, 9, 10, 11, 12, 13, 14, 15, 16, 17, 18, 19, 20, 21, 22, 23, 24, 25, 26, 27, 28, 29, 30] [] [[], [0], [0, 1], [0, 1, 2], [0, 1, 2, 3], [0, 1, 2, 3, 4], [0, 1, 2], [0, 1, 2, 3, 4, 6], [0, 1, 2, 3, 4, 6, 7], [0, 1, 2, 3, 4, 5, 6, 7, 8], [0, 1, 2, 3, 4, 5, 6, 7, 8, 9]] [[1, 2, 3, 4, 5, 6, 7, 8, 9, 10], [2, 3, 4, 5, 6, 7, 8, 9, 10], [3, 4, 5, 6, 7, 8, 9, 10], [4, 5, 7, 8, 9, 10], [5, 7, 8, 9, 10], [9, 10], [7, 8, 9, 10], [8, 9, 10], [9, 10], [10], []] rfl rfl follow rfl ⟨
            .inl ⟨wants_plain rfl, does_move _ (.inl rfl) rfl rfl rfl rfl (ar_tmp (av_fs 30 rfl))⟩,
            .inl ⟨wants_plain rfl, does_cmp (m := (d.sortE a.args)) (n := 0) _ _ _ _ _ rfl rfl rfl rfl rfl rfl .i64 (ar_tmp (av_rs 0 0 rfl rfl)) (ar_const (fun _ _ => rfl))⟩,
            .inl ⟨wants_plain rfl, does_move _ (.inl rfl) rfl rfl rfl rfl (ar_tmp (av_rs 1 1 rfl rfl))⟩,
            .inr (skips_guardU false rfl rfl rfl (av_bool hb4 (av_rs 2 2 rfl rfl)) rfl rfl rfl rfl),
            .inr (skips_guardU false rfl rfl rfl (av_bool hb4 (av_rs 2 2 rfl rfl)) rfl rfl rfl rfl),
            .inr (skips_guardU false rfl rfl rfl (av_bool hb4 (av_rs 2 2 rfl rfl)) rfl rfl rfl rfl),
            .inr (skips_guardU false rfl rfl rfl (av_bool hb4 (av_rs 2 2 rfl rfl)) rfl rfl rfl rfl),
            .inr (skips_guardU false rfl rfl rfl (av_bool hb4 (av_rs 2 2 rfl rfl)) rfl rfl rfl rfl),
            .inr (skips_guardU false rfl rfl rfl (av_bool hb4 (av_rs 2 2 rfl rfl)) rfl rfl rfl rfl),
            .inr (skips_guardU false rfl rfl rfl (av_bool hb4 (av_rs 2 2 rfl rfl)) rfl rfl rfl rfl),
            .inl ⟨wants_plain rfl, does_pick false _ _ _ rfl rfl rfl rfl rfl (ar_tmp (av_bool hb4 (av_rs 2 2 rfl rfl))) (ar_const (fun _ _ => rfl))⟩,
            trivial⟩ ?_
          refine nx_then ?_
          refine t_cond_f 41 rfl ?_
          refine t_skip ?_
          refine nx_block ?_
          refine nx_block ?_
          refine nx_then ?_
          refine t_region (F := ⟨_, _, _, _, _, _⟩) [.is (.tmp 81) (VP.tup [VP.int .i64 (d.sortR a.name a.args), VP.int .i64 (d.sortE a.args)]), .own 103 (.val ca) (B_act6 a), .is (.tmp 6) (VP.ptr ca), .is (.tmp 3) (VP.ptr va), .is (.tmp 4) (VP.ptr vb), .is (.tmp 25) (O_act6 l), .is (.tmp 26) (VP.int .i64 ((l.length : Nat) : Int)), .is (.tmp 28) (VP.bool (decide (((k : Nat) : Int) < ((l.length : Nat) : Int)))), .pt 29 (.row (.tmp 25) (k * 8)), .is (.tmp 30) (VP.agg [VP.int .i64 a.what, VP.str a.name, O_int a.args, VP.int .i64 a.res, VP.int .i64 a.term.op, VP.int .i64 a.term.fn, O_int a.term.kids, VP.str a.term.num]), .pt 31 (.blk (.val ca) 0), .is (.tmp 32) (VP.int .i64 a.what), .is (.tmp 68) (VP.bool (a.what == 0)), .is (.tmp 67) (VP.bool (a.what == 0)), .is (.tmp 69) (VP.ptr va), .pt 70 (.blk (.val ca) 1), .is (.tmp 71) (VP.str a.name), .pt 72 (.blk (.val ca) 2), .is (.tmp 73) (O_int a.args), .own 101 (.val va) (Arn (d.sort a.name a.args)), .is (.tmp 76) (VP.ptr vb), .pt 77 (.blk (.val ca) 1), .is (.tmp 78) (VP.str a.name), .pt 79 (.blk (.val ca) 2), .is (.tmp 80) (O_int a.args), .own 102 (.val vb) (Arn (d.sort a.name a.args)), .is (.tmp 75) (VP.tup [VP.int .i64 (d.sortR a.name a.args), VP.int .i64 (d.sortE a.args)]), .is (.tmp 82) (VP.int .i64 (d.sortR a.name a.args)), .is (.tmp 83) (VP.int .i64 (d.sortE a.args)), .is (.tmp 8) (VP.int .i64 (d.sortE a.args)), .is (.tmp 84) (VP.int .i64 (d.sortE a.args)), .is (.tmp 85) (VP.bool ((d.sortE a.args) != 0)), .is (.tmp 86) (VP.bool ((d.sortE a.args) != 0)), .is (.tmp 87) (VP.undef), .is (.tmp 88) (VP.undef), .is (.tmp 89) (VP.undef), .is (.tmp 90) (VP.undef), .is (.tmp 91) (VP.undef), .is (.tmp 92) (VP.undef), .is (.tmp 93) (VP.undef), .is (.tmp 94) (VP.bool false)] [(1, .is (.tmp 27) (VP.int .i64 ((k : Nat) : Int)))] [(0, .is (.tmp 110) (VP.int .i64 (((k + 1) : Nat) : Int))), (1, .is (.tmp 27) (VP.int .i64 (((k + 1) : Nat) : Int)))] [] [0, 1, 2, 3, 4, 5, 6, 8, 9, 10, 11, 12, 13, 14, 15, 16, 17, 18, 19, 20, 21, 22, 23, 24, 25, 26, 27, 28, 29, 30, 31, 32, 33, 34, 35, 36, 37, 38, 39, 40, 41] [7] [[], [0]] [[1], []] rfl rfl follow rfl ⟨
            .inl ⟨wants_plain rfl, does_addE (m := ((k : Nat) : Int)) (n := 1) (x := (((k + 1) : Nat) : Int)) (by omega) _ _ _ _ rfl rfl rfl rfl rfl (by omega) (ar_tmp (av_os 0 1 rfl rfl)) (ar_const (fun _ _ => rfl))⟩,
            .inl ⟨wants_plain rfl, does_move _ (.inl rfl) rfl rfl rfl rfl (ar_tmp (av_rs 0 0 rfl rfl))⟩,
            trivial⟩ ?_
          refine nx_round (τ := {p : Nat × ArD // p.1 ≤ l.length ∧ AInv p.2 p.1 ∧ p.2.all1}) (I := fun ⟨(k, d), _⟩ => [.is (.tmp 3) (VP.ptr va), .is (.tmp 4) (VP.ptr vb), .is (.tmp 25) (O_act6 l), .is (.tmp 26) (VP.int .i64 ((l.length : Nat) : Int)), .is (.tmp 27) (VP.int .i64 ((k : Nat) : Int)), .own 101 (.val va) (Arn d), .own 102 (.val vb) (Arn d)]) (μ := fun ⟨(k, d), _⟩ => l.length - k) (s := ⟨(k, d), hk, hI, hal⟩) (⟨(k + 1, (d.sort a.name a.args)), (show k + 1 ≤ l.length by omega), ainv_sort hI a.name a.args hga, all1_sort hal a.name a.args⟩) ?_ [3, 4, 5, 6, 42, 19, 25] ?_
          · exact (show l.length - (k + 1) < l.length - k by omega)
          · exact rfl
      · have hc3 := ne_of_beq_false hb3
        refine t_seq ?_
        refine t_region (F := ⟨_, _, _, _, _, _⟩) [.own 103 (.val ca) (B_act6 a), .is (.tmp 6) (VP.ptr ca), .is (.tmp 3) (VP.ptr va), .is (.tmp 4) (VP.ptr vb), .is (.tmp 25) (O_act6 l), .is (.tmp 26) (VP.int .i64 ((l.length : Nat) : Int)), .is (.tmp 27) (VP.int .i64 ((k : Nat) : Int)), .own 101 (.val va) (Arn d), .own 102 (.val vb) (Arn d), .is (.tmp 28) (VP.bool (decide (((k : Nat) : Int) < ((l.length : Nat) : Int)))), .pt 29 (.row (.tmp 25) (k * 8)), .is (.tmp 30) (VP.agg [VP.int .i64 a.what, VP.str a.name, O_int a.args, VP.int .i64 a.res, VP.int .i64 a.term.op, VP.int .i64 a.term.fn, O_int a.term.kids, VP.str a.term.num]), .pt 31 (.blk (.val ca) 0), .is (.tmp 32) (VP.int .i64 a.what), .is (.tmp 68) (VP.bool (a.what == 0)), .is (.tmp 67) (VP.bool (a.what == 0))] [] [(0, .is (.tmp 96) (VP.bool (a.what == 1))), (1, .is (.tmp 95) (VP.bool (a.what == 1)))] [] [0, 1, 2, 3, 4, 5, 6, 7, 8, 9, 10, 11, 12, 13, 14, 15] [] [[], [0]] [[1], []] rfl rfl follow rfl ⟨
          .inl ⟨wants_plain rfl, does_cmp (m := a.what) (n := 1) _ _ _ _ _ rfl rfl rfl rfl rfl rfl .i64 (ar_tmp (av_fs 13 rfl)) (ar_const (fun _ _ => rfl))⟩,
          .inl ⟨wants_plain rfl, does_move _ (.inr rfl) rfl rfl rfl rfl (ar_tmp (av_rs 0 0 rfl rfl))⟩,
          trivial⟩ ?_
        refine nx_then ?_
        refine t_split 17 rfl (fun hb7 => ?_) (fun hb7 => ?_)
        · have hc7 := eq_of_beq hb7
          refine t_seq ?_
          refine t_region (F := ⟨_, _, _, _, _, _⟩) [.own 103 (.val ca) (B_act6 a), .is (.tmp 6) (VP.ptr ca), .is (.tmp 3) (VP.ptr va), .is (.tmp 4) (VP.ptr vb), .is (.tmp 25) (O_act6 l), .is (.tmp 26) (VP.int .i64 ((l.length : Nat) : Int)), .is (.tmp 27) (VP.int .i64 ((k : Nat) : Int)), .own 101 (.val va) (Arn d), .own 102 (.val vb) (Arn d), .is (.tmp 28) (VP.bool (decide (((k : Nat) : Int) < ((l.length : Nat) : Int)))), .pt 29 (.row (.tmp 25) (k * 8)), .is (.tmp 30) (VP.agg [VP.int .i64 a.what, VP.str a.name, O_int a.args, VP.int .i64 a.res, VP.int .i64 a.term.op, VP.int .i64 a.term.fn, O_int a.term.kids, VP.str a.term.num]), .pt 31 (.blk (.val ca) 0), .is (.tmp 32) (VP.int .i64 a.what), .is (.tmp 68) (VP.bool (a.what == 0)), .is (.tmp 67) (VP.bool (a.what == 0)), .is (.tmp 96) (VP.bool (a.what == 1)), .is (.tmp 95) (VP.bool (a.what == 1))] [] [(0, .pt 97 (.blk (.val ca) 1)), (1, .is (.tmp 98) (VP.str a.name)), (2, .pt 99 (.blk (.val ca) 2)), (3, .is (.tmp 100) (O_int a.args)), (4, .pt 101 (.blk (.val ca) 3)), (5, .is (.tmp 102) (VP.int .i64 a.res)), (6, .is (.tmp 103) (VP.agg [VP.str a.name, O_int a.args, VP.int .i64 a.res])), (8, .own 108 (.tmp 9) (HA.cells 38 [HA.of (VP.str a.name), HA.of (O_int a.args), HA.of (VP.int .i64 a.res)]))] [(7, 8, .own 108 (.tmp 9) (HA.cells 38 [HA.of (VP.str (ByteArray.mk #[])), HA.of (VP.nilS), HA.of (VP.int .i64 0)]))] [0, 1, 2, 3, 4, 5, 6, 7, 8, 9, 10, 11, 12, 13, 14, 15, 16, 17] [] [[], [0], [], [2], [], [4], [0, 1, 2, 3, 4, 5], [], [0, 1, 2, 3, 4, 5, 6, 7]] [[1, 6, 8], [6, 8], [3, 6, 8], [6, 8], [5, 6, 8], [6, 8], [8], [8], []] rfl rfl follow rfl ⟨
            .inl ⟨wants_plain rfl, does_field _ _ _ 1 DagP_f_collatorlaw06_Act_1 rfl rfl rfl rfl rfl rfl (pt_ptr (ar_tmp (av_fs 1 rfl)))⟩,
            .inl ⟨wants_plain rfl, does_loadOne _ DagP_one_string rfl rfl rfl rfl rfl (pt_pt (av_rs 0 0 rfl rfl)) (rds_box (off := 1) (av_fs 0 rfl) (hq_one rfl))⟩,
            .inl ⟨wants_plain rfl, does_field _ _ _ 2 DagP_f_collatorlaw06_Act_2 rfl rfl rfl rfl rfl rfl (pt_ptr (ar_tmp (av_fs 1 rfl)))⟩,
            .inl ⟨wants_plain rfl, does_loadOne _ DagP_one___int rfl rfl rfl rfl rfl (pt_pt (av_rs 2 2 rfl rfl)) (rds_box (off := 2) (av_fs 0 rfl) (hq_one rfl))⟩,
            .inl ⟨wants_plain rfl, does_field _ _ _ 3 DagP_f_collatorlaw06_Act_3 rfl rfl rfl rfl rfl rfl (pt_ptr (ar_tmp (av_fs 1 rfl)))⟩,
            .inl ⟨wants_plain rfl, does_loadOne _ DagP_one_int rfl rfl rfl rfl rfl (pt_pt (av_rs 4 4 rfl rfl)) (rds_box (off := 3) (av_fs 0 rfl) (hq_one rfl))⟩,
            .inl ⟨wants_plain rfl, does_build [VP.str (ByteArray.mk #[]), VP.nilS, VP.int .i64 0] DagP_zero_api_Fun DagP_pl_api_Fun rfl rfl rfl rfl rfl (fun _ _ => ⟨rfl, rfl, rfl, trivial⟩) (.cons 0 [HA.of (VP.str a.name)] none rfl rfl (cv_one rfl (mv_vp (ar_tmp (av_rs 1 1 rfl rfl)))) (.cons 1 [HA.of (O_int a.args)] none rfl rfl (cv_one rfl (mv_vp (ar_tmp (av_rs 3 3 rfl rfl)))) (.cons 2 [HA.of (VP.int .i64 a.res)] none rfl rfl (cv_one rfl (mv_vp (ar_tmp (av_rs 5 5 rfl rfl)))) (.nil _))))⟩,
            .inl ⟨wants_plain rfl, does_alloc (ps := [VP.str (ByteArray.mk #[]), VP.nilS, VP.int .i64 0]) DagP_zero_api_Fun rfl rfl rfl rfl rfl rfl (fun _ _ => ⟨rfl, rfl, rfl, trivial⟩)⟩,
            .inl ⟨wants_plain rfl, does_store (off := 0) (Qs := [HA.of (VP.str a.name), HA.of (O_int a.args), HA.of (VP.int .i64 a.res)]) _ _ DagP_size_api_Fun rfl rfl rfl rfl rfl rfl (pt_box (av_ms 0 7 8 rfl rfl rfl)) (av_ms 0 7 8 rfl rfl rfl) (cv_agg (ps := [VP.str a.name, O_int a.args, VP.int .i64 a.res]) (ar_tmp (av_rs 6 6 rfl rfl)))⟩,
            trivial⟩ ?_
          refine nx_then ?_
          refine t_pick [25, 0, 1, 2, 3, 4, 5, 6, 7, 8, 9, 10, 11, 12, 13, 14, 15, 16, 17, 18, 19, 20, 21, 22, 23, 24] rfl ?_
          refine t_nameP rfl fun cf => ?_
          refine t_seq ?_
          refine t_region (F := ⟨_, _, _, _, _, _⟩) [.own 108 (.val cf) (HA.cells 38 [HA.of (VP.str a.name), HA.of (O_int a.args), HA.of (VP.int .i64 a.res)]), .is (.tmp 9) (VP.ptr cf), .own 103 (.val ca) (B_act6 a), .is (.tmp 6) (VP.ptr ca), .is (.tmp 3) (VP.ptr va), .is (.tmp 4) (VP.ptr vb), .is (.tmp 25) (O_act6 l), .is (.tmp 26) (VP.int .i64 ((l.length : Nat) : Int)), .is (.tmp 27) (VP.int .i64 ((k : Nat) : Int)), .own 102 (.val vb) (Arn d), .is (.tmp 28) (VP.bool (decide (((k : Nat) : Int) < ((l.length : Nat) : Int)))), .pt 29 (.row (.tmp 25) (k * 8)), .is (.tmp 30) (VP.agg [VP.int .i64 a.what, VP.str a.name, O_int a.args, VP.int .i64 a.res, VP.int .i64 a.term.op, VP.int .i64 a.term.fn, O_int a.term.kids, VP.str a.term.num]), .pt 31 (.blk (.val ca) 0), .is (.tmp 32) (VP.int .i64 a.what), .is (.tmp 68) (VP.bool (a.what == 0)), .is (.tmp 67) (VP.bool (a.what == 0)), .is (.tmp 96) (VP.bool (a.what == 1)), .is (.tmp 95) (VP.bool (a.what == 1)), .pt 97 (.blk (.val ca) 1), .is (.tmp 98) (VP.str a.name), .pt 99 (.blk (.val ca) 2), .is (.tmp 100) (O_int a.args), .pt 101 (.blk (.val ca) 3), .is (.tmp 102) (VP.int .i64 a.res), .is (.tmp 103) (VP.agg [VP.str a.name, O_int a.args, VP.int .i64 a.res])] [(2, .own 101 (.val va) (Arn d))] [(0, .is (.tmp 104) (VP.ptr va)), (1, .is (.tmp 105) (VP.agg [VP.str a.name, O_int a.args, VP.int .i64 a.res])), (2, .own 109 (.tmp 106) (HA.of (VP.tup [VP.int .i64 (d.funR (⟨a.name, a.args, a.res⟩ : FunD)), VP.int .i64 (d.funE (⟨a.name, a.args, a.res⟩ : FunD))]))), (2, .own 101 (.val va) (Arn (d.fun_ (⟨a.name, a.args, a.res⟩ : FunD))))] [] [0, 1, 2, 3, 4, 5, 6, 7, 8, 10, 11, 12, 13, 14, 15, 16, 17, 18, 19, 20, 21, 22, 23, 24, 25, 26] [9] [[], [], [0, 1]] [[2], [2], []] rfl rfl follow rfl ⟨
            .inl ⟨wants_plain rfl, does_move _ (.inl rfl) rfl rfl rfl rfl (ar_tmp (av_fs 4 rfl))⟩,
            .inl ⟨wants_plain rfl, does_loadAgg (ps := [VP.str a.name, O_int a.args, VP.int .i64 a.res]) _ DagP_agg_api_Fun rfl rfl rfl rfl rfl (pt_ptr (ar_tmp (av_fs 1 rfl))) (rds_box (off := 0) (av_fs 0 rfl) (hq_many (n := 3) rfl))⟩,
            .inl ⟨wants_plain rfl, does_callG [] [101] [101] 109 [0, 1] (da_Fun (v := va) (d := d) (⟨a.name, a.args, a.res⟩ : FunD) (by first | omega | (dsimp only; omega)) (by omega)) rfl DagP_hb___collator_dag_Arena__Fun rfl rfl rfl rfl rfl ar_clo (ars_cons (pa_vp (ar_tmp (av_rs 0 0 rfl rfl))) (ars_cons (pa_vp (ar_tmp (av_rs 1 1 rfl rfl))) ars_nil)) trivial ⟨(av_os 0 2 rfl rfl), trivial⟩⟩,
            trivial⟩ ?_
          refine nx_then ?_
          refine t_pick [0, 1, 2, 3, 4, 5, 6, 7, 8, 9, 10, 11, 12, 13, 14, 15, 16, 17, 18, 19, 20, 21, 22, 23, 24, 25, 26, 27, 29] rfl ?_
          refine t_region (F := ⟨_, _, _, _, _, _⟩) [.own 108 (.val cf) (HA.cells 38 [HA.of (VP.str a.name), HA.of (O_int a.args), HA.of (VP.int .i64 a.res)]), .is (.tmp 9) (VP.ptr cf), .own 103 (.val ca) (B_act6 a), .is (.tmp 6) (VP.ptr ca), .is (.tmp 3) (VP.ptr va), .is (.tmp 4) (VP.ptr vb), .is (.tmp 25) (O_act6 l), .is (.tmp 26) (VP.int .i64 ((l.length : Nat) : Int)), .is (.tmp 27) (VP.int .i64 ((k : Nat) : Int)), .is (.tmp 28) (VP.bool (decide (((k : Nat) : Int) < ((l.length : Nat) : Int)))), .pt 29 (.row (.tmp 25) (k * 8)), .is (.tmp 30) (VP.agg [VP.int .i64 a.what, VP.str a.name, O_int a.args, VP.int .i64 a.res, VP.int .i64 a.term.op, VP.int .i64 a.term.fn, O_int a.term.kids, VP.str a.term.num]), .pt 31 (.blk (.val ca) 0), .is (.tmp 32) (VP.int .i64 a.what), .is (.tmp 68) (VP.bool (a.what == 0)), .is (.tmp 67) (VP.bool (a.what == 0)), .is (.tmp 96) (VP.bool (a.what == 1)), .is (.tmp 95) (VP.bool (a.what == 1)), .pt 97 (.blk (.val ca) 1), .is (.tmp 98) (VP.str a.name), .pt 99 (.blk (.val ca) 2), .is (.tmp 100) (O_int a.args), .pt 101 (.blk (.val ca) 3), .is (.tmp 102) (VP.int .i64 a.res), .is (.tmp 103) (VP.agg [VP.str a.name, O_int a.args, VP.int .i64 a.res]), .is (.tmp 104) (VP.ptr va), .is (.tmp 105) (VP.agg [VP.str a.name, O_int a.args, VP.int .i64 a.res]), .own 101 (.val va) (Arn (d.fun_ (⟨a.name, a.args, a.res⟩ : FunD)))] [(2, .own 102 (.val vb) (Arn d))] [(0, .is (.tmp 107) (VP.ptr vb)), (1, .is (.tmp 108) (VP.agg [VP.str a.name, O_int a.args, VP.int .i64 a.res])), (2, .own 110 (.tmp 109) (HA.of (VP.tup [VP.int .i64 (d.funR (⟨a.name, a.args, a.res⟩ : FunD)), VP.int .i64 (d.funE (⟨a.name, a.args, a.res⟩ : FunD))]))), (2, .own 102 (.val vb) (Arn (d.fun_ (⟨a.name, a.args, a.res⟩ : FunD))))] [] [0, 1, 2, 3, 4, 5, 6, 7, 8, 10, 11, 12, 13, 14, 15, 16, 17, 18, 19, 20, 21, 22, 23, 24, 25, 26, 27, 28] [9] [[], [], [0, 1]] [[2], [2], []] rfl rfl follow rfl ⟨
            .inl ⟨wants_plain rfl, does_move _ (.inl rfl) rfl rfl rfl rfl (ar_tmp (av_fs 5 rfl))⟩,
            .inl ⟨wants_plain rfl, does_loadAgg (ps := [VP.str a.name, O_int a.args, VP.int .i64 a.res]) _ DagP_agg_api_Fun rfl rfl rfl rfl rfl (pt_ptr (ar_tmp (av_fs 1 rfl))) (rds_box (off := 0) (av_fs 0 rfl) (hq_many (n := 3) rfl))⟩,
            .inl ⟨wants_plain rfl, does_callG [] [102] [102] 110 [0, 1] (da_Fun (v := vb) (d := d) (⟨a.name, a.args, a.res⟩ : FunD) (by first | omega | (dsimp only; omega)) (by omega)) rfl DagP_hb___collator_dag_Arena__Fun rfl rfl rfl rfl rfl ar_clo (ars_cons (pa_vp (ar_tmp (av_rs 0 0 rfl rfl))) (ars_cons (pa_vp (ar_tmp (av_rs 1 1 rfl rfl))) ars_nil)) trivial ⟨(av_os 0 2 rfl rfl), trivial⟩⟩,
            trivial⟩ ?_
          refine nx_block ?_
          refine nx_block ?_
          refine nx_then ?_
          refine t_pick [0, 1, 2, 3, 4, 5, 6, 7, 8, 9, 10, 11, 12, 13, 14, 15, 16, 17, 18, 19, 20, 21, 22, 23, 24, 25, 26, 27, 28, 29, 31] rfl ?_
          refine t_region (F := ⟨_, _, _, _, _, _⟩) [.own 108 (.val cf) (HA.cells 38 [HA.of (VP.str a.name), HA.of (O_int a.args), HA.of (VP.int .i64 a.res)]), .is (.tmp 9) (VP.ptr cf), .own 103 (.val ca) (B_act6 a), .is (.tmp 6) (VP.ptr ca), .is (.tmp 3) (VP.ptr va), .is (.tmp 4) (VP.ptr vb), .is (.tmp 25) (O_act6 l), .is (.tmp 26) (VP.int .i64 ((l.length : Nat) : Int)), .is (.tmp 28) (VP.bool (decide (((k : Nat) : Int) < ((l.length : Nat) : Int)))), .pt 29 (.row (.tmp 25) (k * 8)), .is (.tmp 30) (VP.agg [VP.int .i64 a.what, VP.str a.name, O_int a.args, VP.int .i64 a.res, VP.int .i64 a.term.op, VP.int .i64 a.term.fn, O_int a.term.kids, VP.str a.term.num]), .pt 31 (.blk (.val ca) 0), .is (.tmp 32) (VP.int .i64 a.what), .is (.tmp 68) (VP.bool (a.what == 0)), .is (.tmp 67) (VP.bool (a.what == 0)), .is (.tmp 96) (VP.bool (a.what == 1)), .is (.tmp 95) (VP.bool (a.what == 1)), .pt 97 (.blk (.val ca) 1), .is (.tmp 98) (VP.str a.name), .pt 99 (.blk (.val ca) 2), .is (.tmp 100) (O_int a.args), .pt 101 (.blk (.val ca) 3), .is (.tmp 102) (VP.int .i64 a.res), .is (.tmp 103) (VP.agg [VP.str a.name, O_int a.args, VP.int .i64 a.res]), .is (.tmp 104) (VP.ptr va), .is (.tmp 105) (VP.agg [VP.str a.name, O_int a.args, VP.int .i64 a.res]), .own 101 (.val va) (Arn (d.fun_ (⟨a.name, a.args, a.res⟩ : FunD))), .is (.tmp 107) (VP.ptr vb), .is (.tmp 108) (VP.agg [VP.str a.name, O_int a.args, VP.int .i64 a.res]), .own 102 (.val vb) (Arn (d.fun_ (⟨a.name, a.args, a.res⟩ : FunD)))] [(1, .is (.tmp 27) (VP.int .i64 ((k : Nat) : Int)))] [(0, .is (.tmp 110) (VP.int .i64 (((k + 1) : Nat) : Int))), (1, .is (.tmp 27) (VP.int .i64 (((k + 1) : Nat) : Int)))] [] [0, 1, 2, 3, 4, 5, 6, 7, 9, 10, 11, 12, 13, 14, 15, 16, 17, 18, 19, 20, 21, 22, 23, 24, 25, 26, 27, 28, 29, 30] [8] [[], [0]] [[1], []] rfl rfl follow rfl ⟨
            .inl ⟨wants_plain rfl, does_addE (m := ((k : Nat) : Int)) (n := 1) (x := (((k + 1) : Nat) : Int)) (by omega) _ _ _ _ rfl rfl rfl rfl rfl (by omega) (ar_tmp (av_os 0 1 rfl rfl)) (ar_const (fun _ _ => rfl))⟩,
            .inl ⟨wants_plain rfl, does_move _ (.inl rfl) rfl rfl rfl rfl (ar_tmp (av_rs 0 0 rfl rfl))⟩,
            trivial⟩ ?_
          refine nx_round (τ := {p : Nat × ArD // p.1 ≤ l.length ∧ AInv p.2 p.1 ∧ p.2.all1}) (I := fun ⟨(k, d), _⟩ => [.is (.tmp 3) (VP.ptr va), .is (.tmp 4) (VP.ptr vb), .is (.tmp 25) (O_act6 l), .is (.tmp 26) (VP.int .i64 ((l.length : Nat) : Int)), .is (.tmp 27) (VP.int .i64 ((k : Nat) : Int)), .own 101 (.val va) (Arn d), .own 102 (.val vb) (Arn d)]) (μ := fun ⟨(k, d), _⟩ => l.length - k) (s := ⟨(k, d), hk, hI, hal⟩) (⟨(k + 1, (d.fun_ (⟨a.name, a.args, a.res⟩ : FunD))), (show k + 1 ≤ l.length by omega), ainv_fun hI (⟨a.name, a.args, a.res⟩ : FunD) hga, all1_fun hal (⟨a.name, a.args, a.res⟩ : FunD)⟩) ?_ [4, 5, 6, 7, 31, 26, 29] ?_
          · exact (show l.length - (k + 1) < l.length - k by omega)
          · exact rfl
        · have hc7 := ne_of_beq_false hb7
          refine t_seq ?_
          refine t_region (F := ⟨_, _, _, _, _, _⟩) [.own 103 (.val ca) (B_act6 a), .is (.tmp 6) (VP.ptr ca), .is (.tmp 3) (VP.ptr va), .is (.tmp 4) (VP.ptr vb), .is (.tmp 25) (O_act6 l), .is (.tmp 26) (VP.int .i64 ((l.length : Nat) : Int)), .is (.tmp 27) (VP.int .i64 ((k : Nat) : Int)), .own 101 (.val va) (Arn d), .own 102 (.val vb) (Arn d), .is (.tmp 28) (VP.bool (decide (((k : Nat) : Int) < ((l.length : Nat) : Int)))), .pt 29 (.row (.tmp 25) (k * 8)), .is (.tmp 30) (VP.agg [VP.int .i64 a.what, VP.str a.name, O_int a.args, VP.int .i64 a.res, VP.int .i64 a.term.op, VP.int .i64 a.term.fn, O_int a.term.kids, VP.str a.term.num]), .pt 31 (.blk (.val ca) 0), .is (.tmp 32) (VP.int .i64 a.what), .is (.tmp 68) (VP.bool (a.what == 0)), .is (.tmp 67) (VP.bool (a.what == 0)), .is (.tmp 96) (VP.bool (a.what == 1)), .is (.tmp 95) (VP.bool (a.what == 1))] [] [(0, .is (.tmp 33) (VP.ptr va)), (1, .is (.tmp 34) (VP.int .i64 ((d.terms.length : Nat) : Int))), (2, .is (.tmp 10) (VP.int .i64 ((d.terms.length : Nat) : Int)))] [] [0, 1, 2, 3, 4, 5, 6, 7, 8, 9, 10, 11, 12, 13, 14, 15, 16, 17] [] [[], [0], [0, 1]] [[1, 2], [2], []] rfl rfl follow rfl ⟨
            .inl ⟨wants_plain rfl, does_move _ (.inl rfl) rfl rfl rfl rfl (ar_tmp (av_fs 2 rfl))⟩,
            .inl ⟨wants_plain rfl, does_call (da_Len (v := va) (d := d)) (fun _ _ _ _ h => h) rfl DagP_hb___collator_dag_Arena__Len rfl rfl rfl rfl ar_clo (ars_cons (pa_vp (ar_tmp (av_rs 0 0 rfl rfl))) ars_nil) ⟨(brw_own (av_fs 7 rfl) rfl), trivial⟩⟩,
            .inl ⟨wants_plain rfl, does_move _ (.inr rfl) rfl rfl rfl rfl (ar_tmp (av_rs 1 1 rfl rfl))⟩,
            trivial⟩ ?_
          refine nx_then ?_
          refine t_seq ?_
          refine t_region (F := ⟨_, _, _, _, _, _⟩) [.own 103 (.val ca) (B_act6 a), .is (.tmp 6) (VP.ptr ca), .is (.tmp 3) (VP.ptr va), .is (.tmp 4) (VP.ptr vb), .is (.tmp 25) (O_act6 l), .is (.tmp 26) (VP.int .i64 ((l.length : Nat) : Int)), .is (.tmp 27) (VP.int .i64 ((k : Nat) : Int)), .own 102 (.val vb) (Arn d), .is (.tmp 28) (VP.bool (decide (((k : Nat) : Int) < ((l.length : Nat) : Int)))), .pt 29 (.row (.tmp 25) (k * 8)), .is (.tmp 30) (VP.agg [VP.int .i64 a.what, VP.str a.name, O_int a.args, VP.int .i64 a.res, VP.int .i64 a.term.op, VP.int .i64 a.term.fn, O_int a.term.kids, VP.str a.term.num]), .pt 31 (.blk (.val ca) 0), .is (.tmp 32) (VP.int .i64 a.what), .is (.tmp 68) (VP.bool (a.what == 0)), .is (.tmp 67) (VP.bool (a.what == 0)), .is (.tmp 96) (VP.bool (a.what == 1)), .is (.tmp 95) (VP.bool (a.what == 1)), .is (.tmp 33) (VP.ptr va), .is (.tmp 34) (VP.int .i64 ((d.terms.length : Nat) : Int)), .is (.tmp 10) (VP.int .i64 ((d.terms.length : Nat) : Int))] [(3, .own 101 (.val va) (Arn d))] [(0, .is (.tmp 36) (VP.ptr va)), (1, .pt 37 (.blk (.val ca) 4)), (2, .is (.tmp 38) (VP.agg [VP.int .i64 a.term.op, VP.int .i64 a.term.fn, O_int a.term.kids, VP.str a.term.num])), (3, .own 111 (.tmp 39) (HA.of (VP.tup [VP.int .i64 (d.termR a.term), VP.int .i64 (d.termE a.term)]))), (3, .own 101 (.val va) (Arn (d.term a.term))), (4, .is (.tmp 35) (VP.tup [VP.int .i64 (d.termR a.term), VP.int .i64 (d.termE a.term)])), (5, .is (.tmp 40) (VP.int .i64 (d.termR a.term))), (6, .is (.tmp 41) (VP.int .i64 (d.termE a.term))), (7, .is (.tmp 11) (VP.int .i64 (d.termR a.term))), (8, .is (.tmp 12) (VP.int .i64 (d.termE a.term)))] [] [0, 1, 2, 3, 4, 5, 6, 8, 9, 10, 11, 12, 13, 14, 15, 16, 17, 18, 19, 20] [7] [[], [], [1], [0, 1, 2], [0, 1, 2, 3], [0, 1, 2, 3, 4], [0, 1, 2, 3, 4], [0, 1, 2, 3, 4, 5], [0, 1, 2, 3, 4, 5, 6, 7]] [[3, 4, 5, 6, 7, 8], [2, 3, 4, 5, 6, 7, 8], [3, 4, 5, 6, 7, 8], [4, 5, 6, 7, 8], [5, 6, 7, 8], [7, 8], [8], [8], []] rfl rfl follow rfl ⟨
            .inl ⟨wants_plain rfl, does_move _ (.inl rfl) rfl rfl rfl rfl (ar_tmp (av_fs 2 rfl))⟩,
            .inl ⟨wants_plain rfl, does_field _ _ _ 4 DagP_f_collatorlaw06_Act_4 rfl rfl rfl rfl rfl rfl (pt_ptr (ar_tmp (av_fs 1 rfl)))⟩,
            .inl ⟨wants_plain rfl, does_loadAgg (ps := [VP.int .i64 a.term.op, VP.int .i64 a.term.fn, O_int a.term.kids, VP.str a.term.num]) _ DagP_agg_api_Term rfl rfl rfl rfl rfl (pt_pt (av_rs 1 1 rfl rfl)) (rds_box (off := 4) (av_fs 0 rfl) (hq_many (n := 4) rfl))⟩,
            .inl ⟨wants_plain rfl, does_callG [] [101] [101] 111 [0, 1] (da_Term (v := va) (d := d) a.term hI.ok (by omega) (by omega)) rfl DagP_hb___collator_dag_Arena__Term rfl rfl rfl rfl rfl ar_clo (ars_cons (pa_vp (ar_tmp (av_rs 0 0 rfl rfl))) (ars_cons (pa_vp (ar_tmp (av_rs 2 2 rfl rfl))) ars_nil)) trivial ⟨(av_os 0 3 rfl rfl), trivial⟩⟩,
            .inl ⟨wants_plain rfl, does_move _ (.inl rfl) rfl rfl rfl rfl (ar_of (av_rs 3 3 rfl rfl))⟩,
            .inl ⟨wants_plain rfl, does_extract (ps := [VP.int .i64 (d.termR a.term), VP.int .i64 (d.termE a.term)]) _ 0 rfl rfl rfl rfl rfl (ar_tmp (av_rs 5 4 rfl rfl)) rfl⟩,
            .inl ⟨wants_plain rfl, does_extract (ps := [VP.int .i64 (d.termR a.term), VP.int .i64 (d.termE a.term)]) _ 1 rfl rfl rfl rfl rfl (ar_tmp (av_rs 5 4 rfl rfl)) rfl⟩,
            .inl ⟨wants_plain rfl, does_move _ (.inr rfl) rfl rfl rfl rfl (ar_tmp (av_rs 6 5 rfl rfl))⟩,
            .inl ⟨wants_plain rfl, does_move _ (.inr rfl) rfl rfl rfl rfl (ar_tmp (av_rs 7 6 rfl rfl))⟩,
            trivial⟩ ?_
          refine nx_then ?_
          refine t_pick [23, 0, 1, 2, 3, 4, 5, 6, 7, 8, 9, 10, 11, 12, 13, 14, 15, 16, 17, 18, 19, 20, 21, 22, 24, 25, 26, 27, 28, 29] rfl ?_
          refine t_freeze (fz_of _) rfl ?_
          refine t_seq ?_
          refine t_region (F := ⟨_, _, _, _, _, _⟩) [.is (.tmp 39) (VP.tup [VP.int .i64 (d.termR a.term), VP.int .i64 (d.termE a.term)]), .own 103 (.val ca) (B_act6 a), .is (.tmp 6) (VP.ptr ca), .is (.tmp 3) (VP.ptr va), .is (.tmp 4) (VP.ptr vb), .is (.tmp 25) (O_act6 l), .is (.tmp 26) (VP.int .i64 ((l.length : Nat) : Int)), .is (.tmp 27) (VP.int .i64 ((k : Nat) : Int)), .is (.tmp 28) (VP.bool (decide (((k : Nat) : Int) < ((l.length : Nat) : Int)))), .pt 29 (.row (.tmp 25) (k * 8)), .is (.tmp 30) (VP.agg [VP.int .i64 a.what, VP.str a.name, O_int a.args, VP.int .i64 a.res, VP.int .i64 a.term.op, VP.int .i64 a.term.fn, O_int a.term.kids, VP.str a.term.num]), .pt 31 (.blk (.val ca) 0), .is (.tmp 32) (VP.int .i64 a.what), .is (.tmp 68) (VP.bool (a.what == 0)), .is (.tmp 67) (VP.bool (a.what == 0)), .is (.tmp 96) (VP.bool (a.what == 1)), .is (.tmp 95) (VP.bool (a.what == 1)), .is (.tmp 33) (VP.ptr va), .is (.tmp 34) (VP.int .i64 ((d.terms.length : Nat) : Int)), .is (.tmp 10) (VP.int .i64 ((d.terms.length : Nat) : Int)), .is (.tmp 36) (VP.ptr va), .pt 37 (.blk (.val ca) 4), .is (.tmp 38) (VP.agg [VP.int .i64 a.term.op, VP.int .i64 a.term.fn, O_int a.term.kids, VP.str a.term.num]), .own 101 (.val va) (Arn (d.term a.term)), .is (.tmp 35) (VP.tup [VP.int .i64 (d.termR a.term), VP.int .i64 (d.termE a.term)]), .is (.tmp 40) (VP.int .i64 (d.termR a.term)), .is (.tmp 41) (VP.int .i64 (d.termE a.term)), .is (.tmp 11) (VP.int .i64 (d.termR a.term)), .is (.tmp 12) (VP.int .i64 (d.termE a.term))] [(3, .own 102 (.val vb) (Arn d))] [(0, .is (.tmp 43) (VP.ptr vb)), (1, .pt 44 (.blk (.val ca) 4)), (2, .is (.tmp 45) (VP.agg [VP.int .i64 a.term.op, VP.int .i64 a.term.fn, O_int a.term.kids, VP.str a.term.num])), (3, .own 112 (.tmp 46) (HA.of (VP.tup [VP.int .i64 (d.termR a.term), VP.int .i64 (d.termE a.term)]))), (3, .own 102 (.val vb) (Arn (d.term a.term))), (4, .is (.tmp 42) (VP.tup [VP.int .i64 (d.termR a.term), VP.int .i64 (d.termE a.term)])), (5, .is (.tmp 47) (VP.int .i64 (d.termR a.term))), (6, .is (.tmp 48) (VP.int .i64 (d.termE a.term))), (7, .is (.tmp 13) (VP.int .i64 (d.termR a.term))), (8, .is (.tmp 14) (VP.int .i64 (d.termE a.term)))] [] [0, 1, 2, 3, 4, 5, 6, 7, 9, 10, 11, 12, 13, 14, 15, 16, 17, 18, 19, 20, 21, 22, 23, 24, 25, 26, 27, 28, 29] [8] [[], [], [1], [0, 1, 2], [0, 1, 2, 3], [0, 1, 2, 3, 4], [0, 1, 2, 3, 4], [0, 1, 2, 3, 4, 5], [0, 1, 2, 3, 4, 5, 6, 7]] [[3, 4, 5, 6, 7, 8], [2, 3, 4, 5, 6, 7, 8], [3, 4, 5, 6, 7, 8], [4, 5, 6, 7, 8], [5, 6, 7, 8], [7, 8], [8], [8], []] rfl rfl follow rfl ⟨
            .inl ⟨wants_plain rfl, does_move _ (.inl rfl) rfl rfl rfl rfl (ar_tmp (av_fs 4 rfl))⟩,
            .inl ⟨wants_plain rfl, does_field _ _ _ 4 DagP_f_collatorlaw06_Act_4 rfl rfl rfl rfl rfl rfl (pt_ptr (ar_tmp (av_fs 2 rfl)))⟩,
            .inl ⟨wants_plain rfl, does_loadAgg (ps := [VP.int .i64 a.term.op, VP.int .i64 a.term.fn, O_int a.term.kids, VP.str a.term.num]) _ DagP_agg_api_Term rfl rfl rfl rfl rfl (pt_pt (av_rs 1 1 rfl rfl)) (rds_box (off := 4) (av_fs 1 rfl) (hq_many (n := 4) rfl))⟩,
            .inl ⟨wants_plain rfl, does_callG [] [102] [102] 112 [0, 1] (da_Term (v := vb) (d := d) a.term hI.ok (by omega) (by omega)) rfl DagP_hb___collator_dag_Arena__Term rfl rfl rfl rfl rfl ar_clo (ars_cons (pa_vp (ar_tmp (av_rs 0 0 rfl rfl))) (ars_cons (pa_vp (ar_tmp (av_rs 2 2 rfl rfl))) ars_nil)) trivial ⟨(av_os 0 3 rfl rfl), trivial⟩⟩,
            .inl ⟨wants_plain rfl, does_move _ (.inl rfl) rfl rfl rfl rfl (ar_of (av_rs 3 3 rfl rfl))⟩,
            .inl ⟨wants_plain rfl, does_extract (ps := [VP.int .i64 (d.termR a.term), VP.int .i64 (d.termE a.term)]) _ 0 rfl rfl rfl rfl rfl (ar_tmp (av_rs 5 4 rfl rfl)) rfl⟩,
            .inl ⟨wants_plain rfl, does_extract (ps := [VP.int .i64 (d.termR a.term), VP.int .i64 (d.termE a.term)]) _ 1 rfl rfl rfl rfl rfl (ar_tmp (av_rs 5 4 rfl rfl)) rfl⟩,
            .inl ⟨wants_plain rfl, does_move _ (.inr rfl) rfl rfl rfl rfl (ar_tmp (av_rs 6 5 rfl rfl))⟩,
            .inl ⟨wants_plain rfl, does_move _ (.inr rfl) rfl rfl rfl rfl (ar_tmp (av_rs 7 6 rfl rfl))⟩,
            trivial⟩ ?_
          refine nx_then ?_
          refine t_pick [32, 0, 1, 2, 3, 4, 5, 6, 7, 8, 9, 10, 11, 12, 13, 14, 15, 16, 17, 18, 19, 20, 21, 22, 23, 24, 25, 26, 27, 28, 29, 30, 31, 33, 34, 35, 36, 37, 38] rfl ?_
          refine t_freeze (fz_of _) rfl ?_
          refine t_seq ?_
          rcases Bool.eq_false_or_eq_true ((d.termE a.term) != 0) with hb8 | hb8
          · have hc8 := (bne_iff_ne.1 hb8)
            refine t_region (F := ⟨_, _, _, _, _, _⟩) [.is (.tmp 46) (VP.tup [VP.int .i64 (d.termR a.term), VP.int .i64 (d.termE a.term)]), .is (.tmp 39) (VP.tup [VP.int .i64 (d.termR a.term), VP.int .i64 (d.termE a.term)]), .own 103 (.val ca) (B_act6 a), .is (.tmp 6) (VP.ptr ca), .is (.tmp 3) (VP.ptr va), .is (.tmp 4) (VP.ptr vb), .is (.tmp 25) (O_act6 l), .is (.tmp 26) (VP.int .i64 ((l.length : Nat) : Int)), .is (.tmp 27) (VP.int .i64 ((k : Nat) : Int)), .is (.tmp 28) (VP.bool (decide (((k : Nat) : Int) < ((l.length : Nat) : Int)))), .pt 29 (.row (.tmp 25) (k * 8)), .is (.tmp 30) (VP.agg [VP.int .i64 a.what, VP.str a.name, O_int a.args, VP.int .i64 a.res, VP.int .i64 a.term.op, VP.int .i64 a.term.fn, O_int a.term.kids, VP.str a.term.num]), .pt 31 (.blk (.val ca) 0), .is (.tmp 32) (VP.int .i64 a.what), .is (.tmp 68) (VP.bool (a.what == 0)), .is (.tmp 67) (VP.bool (a.what == 0)), .is (.tmp 96) (VP.bool (a.what == 1)), .is (.tmp 95) (VP.bool (a.what == 1)), .is (.tmp 33) (VP.ptr va), .is (.tmp 34) (VP.int .i64 ((d.terms.length : Nat) : Int)), .is (.tmp 10) (VP.int .i64 ((d.terms.length : Nat) : Int)), .is (.tmp 36) (VP.ptr va), .pt 37 (.blk (.val ca) 4), .is (.tmp 38) (VP.agg [VP.int .i64 a.term.op, VP.int .i64 a.term.fn, O_int a.term.kids, VP.str a.term.num]), .own 101 (.val va) (Arn (d.term a.term)), .is (.tmp 35) (VP.tup [VP.int .i64 (d.termR a.term), VP.int .i64 (d.termE a.term)]), .is (.tmp 40) (VP.int .i64 (d.termR a.term)), .is (.tmp 41) (VP.int .i64 (d.termE a.term)), .is (.tmp 11) (VP.int .i64 (d.termR a.term)), .is (.tmp 12) (VP.int .i64 (d.termE a.term)), .is (.tmp 43) (VP.ptr vb), .pt 44 (.blk (.val ca) 4), .is (.tmp 45) (VP.agg [VP.int .i64 a.term.op, VP.int .i64 a.term.fn, O_int a.term.kids, VP.str a.term.num]), .own 102 (.val vb) (Arn (d.term a.term)), .is (.tmp 42) (VP.tup [VP.int .i64 (d.termR a.term), VP.int .i64 (d.termE a.term)]), .is (.tmp 47) (VP.int .i64 (d.termR a.term)), .is (.tmp 48) (VP.int .i64 (d.termE a.term)), .is (.tmp 13) (VP.int .i64 (d.termR a.term)), .is (.tmp 14) (VP.int .i64 (d.termE a.term))] [] [(0, .is (.tmp 49) (VP.int .i64 (d.termR a.term))), (1, .is (.tmp 50) (VP.int .i64 (d.termR a.term))), (2, .is (.tmp 51) (VP.bool ((d.termR a.term) != (d.termR a.term)))), (3, .is (.tmp 52) (VP.bool ((d.termR a.term) != (d.termR a.term)))), (4, .is (.tmp 53) (VP.int .i64 (d.termE a.term))), (5, .is (.tmp 54) (VP.int .i64 (d.termE a.term))), (6, .is (.tmp 55) (VP.bool ((d.termE a.term) != (d.termE a.term)))), (7, .is (.tmp 56) (VP.bool ((d.termE a.term) != (d.termE a.term)))), (8, .is (.tmp 57) (VP.bool ((d.termE a.term) != (d.termE a.term)))), (9, .is (.tmp 58) (VP.int .i64 (d.termE a.term))), (10, .is (.tmp 59) (VP.bool ((d.termE a.term) != 0))), (11, .is (.tmp 60) (VP.bool ((d.termE a.term) != 0))), (12, .is (.tmp 61) (VP.ptr va)), (13, .is (.tmp 62) (VP.int .i64 (((d.term a.term).terms.length : Nat) : Int))), (14, .is (.tmp 63) (VP.int .i64 ((d.terms.length : Nat) : Int))), (15, .is (.tmp 64) (VP.bool ((((d.term a.term).terms.length : Nat) : Int) != ((d.terms.length : Nat) : Int)))), (16, .is (.tmp 65) (VP.bool ((((d.term a.term).terms.length : Nat) : Int) != ((d.terms.length : Nat) : Int)))), (17, .is (.tmp 66) (VP.bool ((((d.term a.term).terms.length : Nat) : Int) != ((d.terms.length : Nat) : Int))))] [] [0, 1, 2, 3, 4, 5, 6, 7, 8, 9, 10, 11, 12, 13, 14, 15, 16, 17, 18, 19, 20, 21, 22, 23, 24, 25, 26, 27, 28, 29, 30, 31, 32, 33, 34, 35, 36, 37, 38] [] [[], [], [0, 1], [0, 1, 2], [0, 1, 2, 3], [0, 1, 2, 3], [0, 1, 2, 3, 4, 5], [0, 1, 2, 3, 4, 5, 6], [0, 1, 2, 3, 4, 5, 6, 7], [0, 1, 2, 3, 4, 5, 6, 7, 8], [0, 1, 2, 3, 4, 5, 6, 7, 8, 9], [0, 1, 2, 3, 4, 5, 6, 7, 8, 9, 10], [0, 1, 2, 3, 4, 5, 6, 7, 8, 9, 10, 11], [0, 1, 2, 3, 4, 5, 6, 7, 8, 9, 10, 11, 12], [0, 1, 2, 3, 4, 5, 6, 7, 8, 9, 10, 11], [0, 1, 2, 3, 4, 5, 6, 7, 8, 9, 10, 11, 12, 13, 14], [0, 1, 2, 3, 4, 5, 6, 7, 8, 9, 10, 11, 12, 13, 14, 15], [0, 1, 2, 3, 4, 5, 6, 7, 8, 9, 10, 11, 12, 13, 14, 15, 16]] [[2, 3, 4, 5, 6, 7, 8, 9, 10, 11, 12, 13, 14, 15, 16, 17], [2, 3, 4, 5, 6, 7, 8, 9, 10, 11, 12, 13, 14, 15, 16, 17], [3, 4, 5, 6, 7, 8, 9, 10, 11, 12, 13, 14, 15, 16, 17], [4, 5, 6, 7, 8, 9, 10, 11, 12, 13, 14, 15, 16, 17], [6, 7, 8, 9, 10, 11, 12, 13, 14, 15, 16, 17], [6, 7, 8, 9, 10, 11, 12, 13, 14, 15, 16, 17], [7, 8, 9, 10, 11, 12, 13, 14, 15, 16, 17], [8, 9, 10, 11, 12, 13, 14, 15, 16, 17], [9, 10, 11, 12, 13, 14, 15, 16, 17], [10, 11, 12, 13, 14, 15, 16, 17], [11, 12, 13, 14, 15, 16, 17], [12, 13, 14, 15, 16, 17], [13, 15, 16, 17], [15, 16, 17], [15, 16, 17], [16, 17], [17], []] rfl rfl follow rfl ⟨
              .inl ⟨wants_plain rfl, does_move _ (.inl rfl) rfl rfl rfl rfl (ar_tmp (av_fs 28 rfl))⟩,
              .inl ⟨wants_plain rfl, does_move _ (.inl rfl) rfl rfl rfl rfl (ar_tmp (av_fs 37 rfl))⟩,
              .inl ⟨wants_plain rfl, does_cmp (m := (d.termR a.term)) (n := (d.termR a.term)) _ _ _ _ _ rfl rfl rfl rfl rfl rfl .i64 (ar_tmp (av_rs 0 0 rfl rfl)) (ar_tmp (av_rs 1 1 rfl rfl))⟩,
              .inl ⟨wants_plain rfl, does_move _ (.inl rfl) rfl rfl rfl rfl (ar_tmp (av_rs 2 2 rfl rfl))⟩,
              .inl ⟨wants_guard false rfl rfl rfl (av_bool (by simp) (av_rs 3 3 rfl rfl)), does_move _ (.inl rfl) rfl rfl rfl rfl (ar_tmp (av_fs 29 rfl))⟩,
              .inl ⟨wants_guard false rfl rfl rfl (av_bool (by simp) (av_rs 3 3 rfl rfl)), does_move _ (.inl rfl) rfl rfl rfl rfl (ar_tmp (av_fs 38 rfl))⟩,
              .inl ⟨wants_guard false rfl rfl rfl (av_bool (by simp) (av_rs 3 3 rfl rfl)), does_cmp (m := (d.termE a.term)) (n := (d.termE a.term)) _ _ _ _ _ rfl rfl rfl rfl rfl rfl .i64 (ar_tmp (av_rs 4 4 rfl rfl)) (ar_tmp (av_rs 5 5 rfl rfl))⟩,
              .inl ⟨wants_plain rfl, does_pick false _ _ _ rfl rfl rfl rfl rfl (ar_tmp (av_bool (by simp) (av_rs 3 3 rfl rfl))) (ar_tmp (av_rs 6 6 rfl rfl))⟩,
              .inl ⟨wants_plain rfl, does_move _ (.inl rfl) rfl rfl rfl rfl (ar_tmp (av_rs 7 7 rfl rfl))⟩,
              .inl ⟨wants_guard false rfl rfl rfl (av_bool (by simp) (av_rs 8 8 rfl rfl)), does_move _ (.inl rfl) rfl rfl rfl rfl (ar_tmp (av_fs 29 rfl))⟩,
              .inl ⟨wants_guard false rfl rfl rfl (av_bool (by simp) (av_rs 8 8 rfl rfl)), does_cmp (m := (d.termE a.term)) (n := 0) _ _ _ _ _ rfl rfl rfl rfl rfl rfl .i64 (ar_tmp (av_rs 9 9 rfl rfl)) (ar_const (fun _ _ => rfl))⟩,
              .inl ⟨wants_guard false rfl rfl rfl (av_bool (by simp) (av_rs 8 8 rfl rfl)), does_move _ (.inl rfl) rfl rfl rfl rfl (ar_tmp (av_rs 10 10 rfl rfl))⟩,
              .inl ⟨wants_guard true rfl rfl rfl (av_bool hb8 (av_rs 11 11 rfl rfl)), does_move _ (.inl rfl) rfl rfl rfl rfl (ar_tmp (av_fs 4 rfl))⟩,
              .inl ⟨wants_guard true rfl rfl rfl (av_bool hb8 (av_rs 11 11 rfl rfl)), does_call (da_Len (v := va) (d := (d.term a.term))) (fun _ _ _ _ h => h) rfl DagP_hb___collator_dag_Arena__Len rfl rfl rfl rfl ar_clo (ars_cons (pa_vp (ar_tmp (av_rs 12 12 rfl rfl))) ars_nil) ⟨(brw_own (av_fs 24 rfl) rfl), trivial⟩⟩,
              .inl ⟨wants_guard true rfl rfl rfl (av_bool hb8 (av_rs 11 11 rfl rfl)), does_move _ (.inl rfl) rfl rfl rfl rfl (ar_tmp (av_fs 20 rfl))⟩,
              .inl ⟨wants_guard true rfl rfl rfl (av_bool hb8 (av_rs 11 11 rfl rfl)), does_cmp (m := (((d.term a.term).terms.length : Nat) : Int)) (n := ((d.terms.length : Nat) : Int)) _ _ _ _ _ rfl rfl rfl rfl rfl rfl .i64 (ar_tmp (av_rs 13 13 rfl rfl)) (ar_tmp (av_rs 14 14 rfl rfl))⟩,
              .inl ⟨wants_guard false rfl rfl rfl (av_bool (by simp) (av_rs 8 8 rfl rfl)), does_pick true _ _ _ rfl rfl rfl rfl rfl (ar_tmp (av_bool hb8 (av_rs 11 11 rfl rfl))) (ar_tmp (av_rs 15 15 rfl rfl))⟩,
              .inl ⟨wants_plain rfl, does_pick false _ _ _ rfl rfl rfl rfl rfl (ar_tmp (av_bool (by simp) (av_rs 8 8 rfl rfl))) (ar_tmp (av_rs 16 16 rfl rfl))⟩,
              trivial⟩ ?_
            refine nx_then ?_
            refine t_cond_fe 56 rfl (by rw [term_refuse (bne_iff_ne.1 hb8)]; simp) ?_
            refine t_skip ?_
            refine nx_block ?_
            refine nx_block ?_
            refine nx_then ?_
            refine t_region (F := ⟨_, _, _, _, _, _⟩) [.is (.tmp 46) (VP.tup [VP.int .i64 (d.termR a.term), VP.int .i64 (d.termE a.term)]), .is (.tmp 39) (VP.tup [VP.int .i64 (d.termR a.term), VP.int .i64 (d.termE a.term)]), .own 103 (.val ca) (B_act6 a), .is (.tmp 6) (VP.ptr ca), .is (.tmp 3) (VP.ptr va), .is (.tmp 4) (VP.ptr vb), .is (.tmp 25) (O_act6 l), .is (.tmp 26) (VP.int .i64 ((l.length : Nat) : Int)), .is (.tmp 28) (VP.bool (decide (((k : Nat) : Int) < ((l.length : Nat) : Int)))), .pt 29 (.row (.tmp 25) (k * 8)), .is (.tmp 30) (VP.agg [VP.int .i64 a.what, VP.str a.name, O_int a.args, VP.int .i64 a.res, VP.int .i64 a.term.op, VP.int .i64 a.term.fn, O_int a.term.kids, VP.str a.term.num]), .pt 31 (.blk (.val ca) 0), .is (.tmp 32) (VP.int .i64 a.what), .is (.tmp 68) (VP.bool (a.what == 0)), .is (.tmp 67) (VP.bool (a.what == 0)), .is (.tmp 96) (VP.bool (a.what == 1)), .is (.tmp 95) (VP.bool (a.what == 1)), .is (.tmp 33) (VP.ptr va), .is (.tmp 34) (VP.int .i64 ((d.terms.length : Nat) : Int)), .is (.tmp 10) (VP.int .i64 ((d.terms.length : Nat) : Int)), .is (.tmp 36) (VP.ptr va), .pt 37 (.blk (.val ca) 4), .is (.tmp 38) (VP.agg [VP.int .i64 a.term.op, VP.int .i64 a.term.fn, O_int a.term.kids, VP.str a.term.num]), .own 101 (.val va) (Arn (d.term a.term)), .is (.tmp 35) (VP.tup [VP.int .i64 (d.termR a.term), VP.int .i64 (d.termE a.term)]), .is (.tmp 40) (VP.int .i64 (d.termR a.term)), .is (.tmp 41) (VP.int .i64 (d.termE a.term)), .is (.tmp 11) (VP.int .i64 (d.termR a.term)), .is (.tmp 12) (VP.int .i64 (d.termE a.term)), .is (.tmp 43) (VP.ptr vb), .pt 44 (.blk (.val ca) 4), .is (.tmp 45) (VP.agg [VP.int .i64 a.term.op, VP.int .i64 a.term.fn, O_int a.term.kids, VP.str a.term.num]), .own 102 (.val vb) (Arn (d.term a.term)), .is (.tmp 42) (VP.tup [VP.int .i64 (d.termR a.term), VP.int .i64 (d.termE a.term)]), .is (.tmp 47) (VP.int .i64 (d.termR a.term)), .is (.tmp 48) (VP.int .i64 (d.termE a.term)), .is (.tmp 13) (VP.int .i64 (d.termR a.term)), .is (.tmp 14) (VP.int .i64 (d.termE a.term)), .is (.tmp 49) (VP.int .i64 (d.termR a.term)), .is (.tmp 50) (VP.int .i64 (d.termR a.term)), .is (.tmp 51) (VP.bool ((d.termR a.term) != (d.termR a.term))), .is (.tmp 52) (VP.bool ((d.termR a.term) != (d.termR a.term))), .is (.tmp 53) (VP.int .i64 (d.termE a.term)), .is (.tmp 54) (VP.int .i64 (d.termE a.term)), .is (.tmp 55) (VP.bool ((d.termE a.term) != (d.termE a.term))), .is (.tmp 56) (VP.bool ((d.termE a.term) != (d.termE a.term))), .is (.tmp 57) (VP.bool ((d.termE a.term) != (d.termE a.term))), .is (.tmp 58) (VP.int .i64 (d.termE a.term)), .is (.tmp 59) (VP.bool ((d.termE a.term) != 0)), .is (.tmp 60) (VP.bool ((d.termE a.term) != 0)), .is (.tmp 61) (VP.ptr va), .is (.tmp 62) (VP.int .i64 (((d.term a.term).terms.length : Nat) : Int)), .is (.tmp 63) (VP.int .i64 ((d.terms.length : Nat) : Int)), .is (.tmp 64) (VP.bool ((((d.term a.term).terms.length : Nat) : Int) != ((d.terms.length : Nat) : Int))), .is (.tmp 65) (VP.bool ((((d.term a.term).terms.length : Nat) : Int) != ((d.terms.length : Nat) : Int))), .is (.tmp 66) (VP.bool ((((d.term a.term).terms.length : Nat) : Int) != ((d.terms.length : Nat) : Int)))] [(1, .is (.tmp 27) (VP.int .i64 ((k : Nat) : Int)))] [(0, .is (.tmp 110) (VP.int .i64 (((k + 1) : Nat) : Int))), (1, .is (.tmp 27) (VP.int .i64 (((k + 1) : Nat) : Int)))] [] [0, 1, 2, 3, 4, 5, 6, 7, 9, 10, 11, 12, 13, 14, 15, 16, 17, 18, 19, 20, 21, 22, 23, 24, 25, 26, 27, 28, 29, 30, 31, 32, 33, 34, 35, 36, 37, 38, 39, 40, 41, 42, 43, 44, 45, 46, 47, 48, 49, 50, 51, 52, 53, 54, 55, 56] [8] [[], [0]] [[1], []] rfl rfl follow rfl ⟨
              .inl ⟨wants_plain rfl, does_addE (m := ((k : Nat) : Int)) (n := 1) (x := (((k + 1) : Nat) : Int)) (by omega) _ _ _ _ rfl rfl rfl rfl rfl (by omega) (ar_tmp (av_os 0 1 rfl rfl)) (ar_const (fun _ _ => rfl))⟩,
              .inl ⟨wants_plain rfl, does_move _ (.inl rfl) rfl rfl rfl rfl (ar_tmp (av_rs 0 0 rfl rfl))⟩,
              trivial⟩ ?_
            refine nx_round (τ := {p : Nat × ArD // p.1 ≤ l.length ∧ AInv p.2 p.1 ∧ p.2.all1}) (I := fun ⟨(k, d), _⟩ => [.is (.tmp 3) (VP.ptr va), .is (.tmp 4) (VP.ptr vb), .is (.tmp 25) (O_act6 l), .is (.tmp 26) (VP.int .i64 ((l.length : Nat) : Int)), .is (.tmp 27) (VP.int .i64 ((k : Nat) : Int)), .own 101 (.val va) (Arn d), .own 102 (.val vb) (Arn d)]) (μ := fun ⟨(k, d), _⟩ => l.length - k) (s := ⟨(k, d), hk, hI, hal⟩) (⟨(k + 1, (d.term a.term)), (show k + 1 ≤ l.length by omega), ainv_term hI a.term, all1_term hI.ok hal a.term⟩) ?_ [4, 5, 6, 7, 57, 23, 32] ?_
            · exact (show l.length - (k + 1) < l.length - k by omega)
            · exact rfl
          · have hc8 := (bne_eq_false_iff_eq.1 hb8)
            refine t_region (F := ⟨_, _, _, _, _, _⟩) [.is (.tmp 46) (VP.tup [VP.int .i64 (d.termR a.term), VP.int .i64 (d.termE a.term)]), .is (.tmp 39) (VP.tup [VP.int .i64 (d.termR a.term), VP.int .i64 (d.termE a.term)]), .own 103 (.val ca) (B_act6 a), .is (.tmp 6) (VP.ptr ca), .is (.tmp 3) (VP.ptr va), .is (.tmp 4) (VP.ptr vb), .is (.tmp 25) (O_act6 l), .is (.tmp 26) (VP.int .i64 ((l.length : Nat) : Int)), .is (.tmp 27) (VP.int .i64 ((k : Nat) : Int)), .is (.tmp 28) (VP.bool (decide (((k : Nat) : Int) < ((l.length : Nat) : Int)))), .pt 29 (.row (.tmp 25) (k * 8)), .is (.tmp 30) (VP.agg [VP.int .i64 a.what, VP.str a.name, O_int a.args, VP.int .i64 a.res, VP.int .i64 a.term.op, VP.int .i64 a.term.fn, O_int a.term.kids, VP.str a.term.num]), .pt 31 (.blk (.val ca) 0), .is (.tmp 32) (VP.int .i64 a.what), .is (.tmp 68) (VP.bool (a.what == 0)), .is (.tmp 67) (VP.bool (a.what == 0)), .is (.tmp 96) (VP.bool (a.what == 1)), .is (.tmp 95) (VP.bool (a.what == 1)), .is (.tmp 33) (VP.ptr va), .is (.tmp 34) (VP.int .i64 ((d.terms.length : Nat) : Int)), .is (.tmp 10) (VP.int .i64 ((d.terms.length : Nat) : Int)), .is (.tmp 36) (VP.ptr va), .pt 37 (.blk (.val ca) 4), .is (.tmp 38) (VP.agg [VP.int .i64 a.term.op, VP.int .i64 a.term.fn, O_int a.term.kids, VP.str a.term.num]), .own 101 (.val va) (Arn (d.term a.term)), .is (.tmp 35) (VP.tup [VP.int .i64 (d.termR a.term), VP.int .i64 (d.termE a.term)]), .is (.tmp 40) (VP.int .i64 (d.termR a.term)), .is (.tmp 41) (VP.int .i64 (d.termE a.term)), .is (.tmp 11) (VP.int .i64 (d.termR a.term)), .is (.tmp 12) (VP.int .i64 (d.termE a.term)), .is (.tmp 43) (VP.ptr vb), .pt 44 (.blk (.val ca) 4), .is (.tmp 45) (VP.agg [VP.int .i64 a.term.op, VP.int .i64 a.term.fn, O_int a.term.kids, VP.str a.term.num]), .own 102 (.val vb) (Arn (d.term a.term)), .is (.tmp 42) (VP.tup [VP.int .i64 (d.termR a.term), VP.int .i64 (d.termE a.term)]), .is (.tmp 47) (VP.int .i64 (d.termR a.term)), .is (.tmp 48) (VP.int .i64 (d.termE a.term)), .is (.tmp 13) (VP.int .i64 (d.termR a.term)), .is (.tmp 14) (VP.int .i64 (d.termE a.term))] [] [(0, .is (.tmp 49) (VP.int .i64 (d.termR a.term))), (1, .is (.tmp 50) (VP.int .i64 (d.termR a.term))), (2, .is (.tmp 51) (VP.bool ((d.termR a.term) != (d.termR a.term)))), (3, .is (.tmp 52) (VP.bool ((d.termR a.term) != (d.termR a.term)))), (4, .is (.tmp 53) (VP.int .i64 (d.termE a.term))), (5, .is (.tmp 54) (VP.int .i64 (d.termE a.term))), (6, .is (.tmp 55) (VP.bool ((d.termE a.term) != (d.termE a.term)))), (7, .is (.tmp 56) (VP.bool ((d.termE a.term) != (d.termE a.term)))), (8, .is (.tmp 57) (VP.bool ((d.termE a.term) != (d.termE a.term)))), (9, .is (.tmp 58) (VP.int .i64 (d.termE a.term))), (10, .is (.tmp 59) (VP.bool ((d.termE a.term) != 0))), (11, .is (.tmp 60) (VP.bool ((d.termE a.term) != 0))), (12, .is (.tmp 61) (VP.undef)), (13, .is (.tmp 62) (VP.undef)), (14, .is (.tmp 63) (VP.undef)), (15, .is (.tmp 64) (VP.undef)), (16, .is (.tmp 65) (VP.bool false)), (17, .is (.tmp 66) (VP.bool false))] [] [0, 1, 2, 3, 4, 5, 6, 7, 8, 9, 10, 11, 12, 13, 14, 15, 16, 17, 18, 19, 20, 21, 22, 23, 24, 25, 26, 27, 28, 29, 30, 31, 32, 33, 34, 35, 36, 37, 38] [] [[], [], [0, 1], [0, 1, 2], [0, 1, 2, 3], [0, 1, 2, 3], [0, 1, 2, 3, 4, 5], [0, 1, 2, 3, 4, 5, 6], [0, 1, 2, 3, 4, 5, 6, 7], [0, 1, 2, 3, 4, 5, 6, 7, 8], [0, 1, 2, 3, 4, 5, 6, 7, 8, 9], [0, 1, 2, 3, 4, 5, 6, 7, 8, 9, 10], [0, 1, 2, 3, 4, 5, 6, 7, 8, 9, 10, 11], [0, 1, 2, 3, 4, 5, 6, 7, 8, 9, 10, 11, 12], [0, 1, 2, 3, 4, 5, 6, 7, 8, 9, 10, 11], [0, 1, 2, 3, 4, 5, 6, 7, 8, 9, 10, 11, 12, 13, 14], [0, 1, 2, 3, 4, 5, 6, 7, 8, 9, 10, 11, 12, 13, 14, 15], [0, 1, 2, 3, 4, 5, 6, 7, 8, 9, 10, 11, 12, 13, 14, 15, 16]] [[2, 3, 4, 5, 6, 7, 8, 9, 10, 11, 12, 13, 14, 15, 16, 17], [2, 3, 4, 5, 6, 7, 8, 9, 10, 11, 12, 13, 14, 15, 16, 17], [3, 4, 5, 6, 7, 8, 9, 10, 11, 12, 13, 14, 15, 16, 17], [4, 5, 6, 7, 8, 9, 10, 11, 12, 13, 14, 15, 16, 17], [6, 7, 8, 9, 10, 11, 12, 13, 14, 15, 16, 17], [6, 7, 8, 9, 10, 11, 12, 13, 14, 15, 16, 17], [7, 8, 9, 10, 11, 12, 13, 14, 15, 16, 17], [8, 9, 10, 11, 12, 13, 14, 15, 16, 17], [9, 10, 11, 12, 13, 14, 15, 16, 17], [10, 11, 12, 13, 14, 15, 16, 17], [11, 12, 13, 14, 15, 16, 17], [12, 13, 14, 15, 16, 17], [13, 15, 16, 17], [15, 16, 17], [15, 16, 17], [16, 17], [17], []] rfl rfl follow rfl ⟨
              .inl ⟨wants_plain rfl, does_move _ (.inl rfl) rfl rfl rfl rfl (ar_tmp (av_fs 28 rfl))⟩,
              .inl ⟨wants_plain rfl, does_move _ (.inl rfl) rfl rfl rfl rfl (ar_tmp (av_fs 37 rfl))⟩,
              .inl ⟨wants_plain rfl, does_cmp (m := (d.termR a.term)) (n := (d.termR a.term)) _ _ _ _ _ rfl rfl rfl rfl rfl rfl .i64 (ar_tmp (av_rs 0 0 rfl rfl)) (ar_tmp (av_rs 1 1 rfl rfl))⟩,
              .inl ⟨wants_plain rfl, does_move _ (.inl rfl) rfl rfl rfl rfl (ar_tmp (av_rs 2 2 rfl rfl))⟩,
              .inl ⟨wants_guard false rfl rfl rfl (av_bool (by simp) (av_rs 3 3 rfl rfl)), does_move _ (.inl rfl) rfl rfl rfl rfl (ar_tmp (av_fs 29 rfl))⟩,
              .inl ⟨wants_guard false rfl rfl rfl (av_bool (by simp) (av_rs 3 3 rfl rfl)), does_move _ (.inl rfl) rfl rfl rfl rfl (ar_tmp (av_fs 38 rfl))⟩,
              .inl ⟨wants_guard false rfl rfl rfl (av_bool (by simp) (av_rs 3 3 rfl rfl)), does_cmp (m := (d.termE a.term)) (n := (d.termE a.term)) _ _ _ _ _ rfl rfl rfl rfl rfl rfl .i64 (ar_tmp (av_rs 4 4 rfl rfl)) (ar_tmp (av_rs 5 5 rfl rfl))⟩,
              .inl ⟨wants_plain rfl, does_pick false _ _ _ rfl rfl rfl rfl rfl (ar_tmp (av_bool (by simp) (av_rs 3 3 rfl rfl))) (ar_tmp (av_rs 6 6 rfl rfl))⟩,
              .inl ⟨wants_plain rfl, does_move _ (.inl rfl) rfl rfl rfl rfl (ar_tmp (av_rs 7 7 rfl rfl))⟩,
              .inl ⟨wants_guard false rfl rfl rfl (av_bool (by simp) (av_rs 8 8 rfl rfl)), does_move _ (.inl rfl) rfl rfl rfl rfl (ar_tmp (av_fs 29 rfl))⟩,
              .inl ⟨wants_guard false rfl rfl rfl (av_bool (by simp) (av_rs 8 8 rfl rfl)), does_cmp (m := (d.termE a.term)) (n := 0) _ _ _ _ _ rfl rfl rfl rfl rfl rfl .i64 (ar_tmp (av_rs 9 9 rfl rfl)) (ar_const (fun _ _ => rfl))⟩,
              .inl ⟨wants_guard false rfl rfl rfl (av_bool (by simp) (av_rs 8 8 rfl rfl)), does_move _ (.inl rfl) rfl rfl rfl rfl (ar_tmp (av_rs 10 10 rfl rfl))⟩,
              .inr (skips_guardU false rfl rfl rfl (av_bool hb8 (av_rs 11 11 rfl rfl)) rfl rfl rfl rfl),
              .inr (skips_guardU false rfl rfl rfl (av_bool hb8 (av_rs 11 11 rfl rfl)) rfl rfl rfl rfl),
              .inr (skips_guardU false rfl rfl rfl (av_bool hb8 (av_rs 11 11 rfl rfl)) rfl rfl rfl rfl),
              .inr (skips_guardU false rfl rfl rfl (av_bool hb8 (av_rs 11 11 rfl rfl)) rfl rfl rfl rfl),
              .inl ⟨wants_guard false rfl rfl rfl (av_bool (by simp) (av_rs 8 8 rfl rfl)), does_pick false _ _ _ rfl rfl rfl rfl rfl (ar_tmp (av_bool hb8 (av_rs 11 11 rfl rfl))) (ar_const (fun _ _ => rfl))⟩,
              .inl ⟨wants_plain rfl, does_pick false _ _ _ rfl rfl rfl rfl rfl (ar_tmp (av_bool (by simp) (av_rs 8 8 rfl rfl))) (ar_tmp (av_rs 16 16 rfl rfl))⟩,
              trivial⟩ ?_
            refine nx_then ?_
            refine t_cond_f 56 rfl ?_
            refine t_skip ?_
            refine nx_block ?_
            refine nx_block ?_
            refine nx_then ?_
            refine t_region (F := ⟨_, _, _, _, _, _⟩) [.is (.tmp 46) (VP.tup [VP.int .i64 (d.termR a.term), VP.int .i64 (d.termE a.term)]), .is (.tmp 39) (VP.tup [VP.int .i64 (d.termR a.term), VP.int .i64 (d.termE a.term)]), .own 103 (.val ca) (B_act6 a), .is (.tmp 6) (VP.ptr ca), .is (.tmp 3) (VP.ptr va), .is (.tmp 4) (VP.ptr vb), .is (.tmp 25) (O_act6 l), .is (.tmp 26) (VP.int .i64 ((l.length : Nat) : Int)), .is (.tmp 28) (VP.bool (decide (((k : Nat) : Int) < ((l.length : Nat) : Int)))), .pt 29 (.row (.tmp 25) (k * 8)), .is (.tmp 30) (VP.agg [VP.int .i64 a.what, VP.str a.name, O_int a.args, VP.int .i64 a.res, VP.int .i64 a.term.op, VP.int .i64 a.term.fn, O_int a.term.kids, VP.str a.term.num]), .pt 31 (.blk (.val ca) 0), .is (.tmp 32) (VP.int .i64 a.what), .is (.tmp 68) (VP.bool (a.what == 0)), .is (.tmp 67) (VP.bool (a.what == 0)), .is (.tmp 96) (VP.bool (a.what == 1)), .is (.tmp 95) (VP.bool (a.what == 1)), .is (.tmp 33) (VP.ptr va), .is (.tmp 34) (VP.int .i64 ((d.terms.length : Nat) : Int)), .is (.tmp 10) (VP.int .i64 ((d.terms.length : Nat) : Int)), .is (.tmp 36) (VP.ptr va), .pt 37 (.blk (.val ca) 4), .is (.tmp 38) (VP.agg [VP.int .i64 a.term.op, VP.int .i64 a.term.fn, O_int a.term.kids, VP.str a.term.num]), .own 101 (.val va) (Arn (d.term a.term)), .is (.tmp 35) (VP.tup [VP.int .i64 (d.termR a.term), VP.int .i64 (d.termE a.term)]), .is (.tmp 40) (VP.int .i64 (d.termR a.term)), .is (.tmp 41) (VP.int .i64 (d.termE a.term)), .is (.tmp 11) (VP.int .i64 (d.termR a.term)), .is (.tmp 12) (VP.int .i64 (d.termE a.term)), .is (.tmp 43) (VP.ptr vb), .pt 44 (.blk (.val ca) 4), .is (.tmp 45) (VP.agg [VP.int .i64 a.term.op, VP.int .i64 a.term.fn, O_int a.term.kids, VP.str a.term.num]), .own 102 (.val vb) (Arn (d.term a.term)), .is (.tmp 42) (VP.tup [VP.int .i64 (d.termR a.term), VP.int .i64 (d.termE a.term)]), .is (.tmp 47) (VP.int .i64 (d.termR a.term)), .is (.tmp 48) (VP.int .i64 (d.termE a.term)), .is (.tmp 13) (VP.int .i64 (d.termR a.term)), .is (.tmp 14) (VP.int .i64 (d.termE a.term)), .is (.tmp 49) (VP.int .i64 (d.termR a.term)), .is (.tmp 50) (VP.int .i64 (d.termR a.term)), .is (.tmp 51) (VP.bool ((d.termR a.term) != (d.termR a.term))), .is (.tmp 52) (VP.bool ((d.termR a.term) != (d.termR a.term))), .is (.tmp 53) (VP.int .i64 (d.termE a.term)), .is (.tmp 54) (VP.int .i64 (d.termE a.term)), .is (.tmp 55) (VP.bool ((d.termE a.term) != (d.termE a.term))), .is (.tmp 56) (VP.bool ((d.termE a.term) != (d.termE a.term))), .is (.tmp 57) (VP.bool ((d.termE a.term) != (d.termE a.term))), .is (.tmp 58) (VP.int .i64 (d.termE a.term)), .is (.tmp 59) (VP.bool ((d.termE a.term) != 0)), .is (.tmp 60) (VP.bool ((d.termE a.term) != 0)), .is (.tmp 61) (VP.undef), .is (.tmp 62) (VP.undef), .is (.tmp 63) (VP.undef), .is (.tmp 64) (VP.undef), .is (.tmp 65) (VP.bool false), .is (.tmp 66) (VP.bool false)] [(1, .is (.tmp 27) (VP.int .i64 ((k : Nat) : Int)))] [(0, .is (.tmp 110) (VP.int .i64 (((k + 1) : Nat) : Int))), (1, .is (.tmp 27) (VP.int .i64 (((k + 1) : Nat) : Int)))] [] [0, 1, 2, 3, 4, 5, 6, 7, 9, 10, 11, 12, 13, 14, 15, 16, 17, 18, 19, 20, 21, 22, 23, 24, 25, 26, 27, 28, 29, 30, 31, 32, 33, 34, 35, 36, 37, 38, 39, 40, 41, 42, 43, 44, 45, 46, 47, 48, 49, 50, 51, 52, 53, 54, 55, 56] [8] [[], [0]] [[1], []] rfl rfl follow rfl ⟨
              .inl ⟨wants_plain rfl, does_addE (m := ((k : Nat) : Int)) (n := 1) (x := (((k + 1) : Nat) : Int)) (by omega) _ _ _ _ rfl rfl rfl rfl rfl (by omega) (ar_tmp (av_os 0 1 rfl rfl)) (ar_const (fun _ _ => rfl))⟩,
              .inl ⟨wants_plain rfl, does_move _ (.inl rfl) rfl rfl rfl rfl (ar_tmp (av_rs 0 0 rfl rfl))⟩,
              trivial⟩ ?_
            refine nx_round (τ := {p : Nat × ArD // p.1 ≤ l.length ∧ AInv p.2 p.1 ∧ p.2.all1}) (I := fun ⟨(k, d), _⟩ => [.is (.tmp 3) (VP.ptr va), .is (.tmp 4) (VP.ptr vb), .is (.tmp 25) (O_act6 l), .is (.tmp 26) (VP.int .i64 ((l.length : Nat) : Int)), .is (.tmp 27) (VP.int .i64 ((k : Nat) : Int)), .own 101 (.val va) (Arn d), .own 102 (.val vb) (Arn d)]) (μ := fun ⟨(k, d), _⟩ => l.length - k) (s := ⟨(k, d), hk, hI, hal⟩) (⟨(k + 1, (d.term a.term)), (show k + 1 ≤ l.length by omega), ainv_term hI a.term, all1_term hI.ok hal a.term⟩) ?_ [4, 5, 6, 7, 57, 23, 32] ?_
            · exact (show l.length - (k + 1) < l.length - k by omega)
            · exact rfl
    · have hc2 := of_decide_eq_false hb2
      refine t_exit ?_
      refine ex_then ?_
      refine ex_then ?_
      refine ex_block ?_
      refine nx_then ?_
      refine t_pick [0, 1, 5, 6] rfl ?_
      refine t_seq ?_
      obtain ⟨htb, hbl⟩ := ok_table hI.ok
      have hfw := hI.ok.few
      refine t_region (F := ⟨_, _, _, _, _, _⟩) [.is (.tmp 3) (VP.ptr va), .is (.tmp 4) (VP.ptr vb), .own 101 (.val va) (Arn d), .own 102 (.val vb) (Arn d)] [] [(0, .is (.tmp 111) (VP.ptr va)), (1, .own 113 (.tmp 112) (R_ri d.table)), (2, .is (.tmp 113) (VP.ptr vb)), (3, .own 114 (.tmp 114) (R_ri d.table)), (4, .eq 15 (.tmp 112)), (5, .eq 16 (.tmp 114))] [] [0, 1, 2, 3] [] [[], [0], [], [0, 1, 2], [0, 1, 2, 3], [0, 1, 2, 3, 4]] [[1, 3, 4, 5], [3, 4, 5], [3, 4, 5], [4, 5], [5], []] rfl rfl follow rfl ⟨
        .inl ⟨wants_plain rfl, does_move _ (.inl rfl) rfl rfl rfl rfl (ar_tmp (av_fs 0 rfl))⟩,
        .inl ⟨wants_plain rfl, does_callG [] [] [] 113 [0] (da_Buckets (v := va) (d := d) (by omega) hbl) rfl DagP_hb___collator_dag_Arena__Buckets rfl rfl rfl rfl rfl ar_clo (ars_cons (pa_vp (ar_tmp (av_rs 0 0 rfl rfl))) ars_nil) ⟨(brw_own (av_fs 2 rfl) rfl), trivial⟩ trivial⟩,
        .inl ⟨wants_plain rfl, does_move _ (.inl rfl) rfl rfl rfl rfl (ar_tmp (av_fs 1 rfl))⟩,
        .inl ⟨wants_plain rfl, does_callG [] [] [] 114 [0] (da_Buckets (v := vb) (d := d) (by omega) hbl) rfl DagP_hb___collator_dag_Arena__Buckets rfl rfl rfl rfl rfl ar_clo (ars_cons (pa_vp (ar_tmp (av_rs 2 2 rfl rfl))) ars_nil) ⟨(brw_own (av_fs 3 rfl) rfl), trivial⟩ trivial⟩,
        .inl ⟨wants_plain rfl, does_eqTmp (k := 112) _ rfl (.inr rfl) rfl rfl rfl rfl rfl⟩,
        .inl ⟨wants_plain rfl, does_eqTmp (k := 114) _ rfl (.inr rfl) rfl rfl rfl rfl rfl⟩,
        trivial⟩ ?_
      refine t_pick [0, 2, 3, 5, 7, 8, 9] rfl ?_
      refine nx_then ?_
      refine t_pick [3, 0, 1, 2, 4, 5, 6] rfl ?_
      refine t_name rfl fun vx => ?_
      refine t_pick [5, 0, 1, 2, 3, 4, 6, 7] rfl ?_
      refine t_name rfl fun vy => ?_
      refine t_pick [7, 3, 0, 1, 2, 4, 5, 6, 8] rfl ?_
      refine t_eq ?_
      refine t_pick [8, 3, 0, 1, 2, 4, 5, 6, 7] rfl ?_
      refine t_eq ?_
      refine t_pick [0, 2, 4, 5, 6, 7, 8] rfl ?_
      refine t_seq ?_
      refine t_region (F := ⟨_, _, _, _, _, _⟩) [.is (.tmp 16) (VP.eq vy true true), .is (.tmp 15) (VP.eq vx true true), .own 114 (.val vy) (R_ri d.table), .own 113 (.val vx) (R_ri d.table), .is (.tmp 3) (VP.ptr va), .own 101 (.val va) (Arn d), .own 102 (.val vb) (Arn d)] [] [(0, .is (.tmp 17) (VP.int .i64 0))] [] [0, 1, 2, 3, 4, 5, 6] [] [[]] [[]] rfl rfl follow rfl ⟨
        .inl ⟨wants_plain rfl, does_move _ (.inr rfl) rfl rfl rfl rfl (ar_const (fun _ _ => rfl))⟩,
        trivial⟩ ?_
      refine nx_then ?_
      refine t_seq ?_
      refine t_seq ?_
      refine t_region (F := ⟨_, _, _, _, _, _⟩) [.is (.tmp 16) (VP.eq vy true true), .is (.tmp 15) (VP.eq vx true true), .own 114 (.val vy) (R_ri d.table), .own 113 (.val vx) (R_ri d.table), .is (.tmp 3) (VP.ptr va), .own 101 (.val va) (Arn d), .own 102 (.val vb) (Arn d), .is (.tmp 17) (VP.int .i64 0)] [] [(0, .is (.tmp 115) (VP.eq vx true true)), (1, .is (.tmp 116) (VP.int .i64 ((d.table.length : Nat) : Int))), (2, .is (.tmp 117) (VP.int .i64 0))] [] [0, 1, 2, 3, 4, 5, 6, 7] [] [[], [0], []] [[1], [], []] rfl rfl follow rfl ⟨
        .inl ⟨wants_plain rfl, does_move _ (.inl rfl) rfl rfl rfl rfl (ar_tmp (av_fs 1 rfl))⟩,
        .inl ⟨wants_plain rfl, does_len _ _ (by kernel_rfl) rfl rfl rfl rfl rfl (sl_own (av_fs 3 rfl) (ar_tmp (av_rs 0 0 rfl rfl)))⟩,
        .inl ⟨wants_plain rfl, does_move _ (.inl rfl) rfl rfl rfl rfl (ar_const (fun _ _ => rfl))⟩,
        trivial⟩ ?_
      refine t_pick [0, 1, 2, 3, 4, 5, 6, 7, 9, 10] rfl ?_
      refine nx_then ?_
      refine t_block ?_
      refine t_pick [7, 0, 1, 2, 3, 4, 5, 6, 8, 9] rfl ?_
      refine t_slot (y := VP.int .i64 ((cntT (d.table.take 0) : Nat) : Int)) (fun _ _ _ h => h) ?_
      refine t_pick [9, 0, 1, 2, 3, 4, 5, 6, 7, 8] rfl ?_
      refine t_slot (y := VP.int .i64 ((0 : Nat) : Int)) (fun _ _ _ h => h) ?_
      refine t_loop (τ := {i : Nat // i ≤ d.table.length}) (fun ⟨i, _⟩ => [.is (.tmp 17) (VP.int .i64 ((cntT (d.table.take i) : Nat) : Int)), .is (.tmp 116) (VP.int .i64 ((d.table.length : Nat) : Int)), .is (.tmp 117) (VP.int .i64 ((i : Nat) : Int)), .is (.tmp 3) (VP.ptr va), .is (.tmp 15) (VP.eq vx true true), .is (.tmp 16) (VP.eq vy true true), .own 101 (.val va) (Arn d), .own 113 (.val vx) (R_ri d.table), .own 114 (.val vy) (R_ri d.table)]) (fun ⟨i, _⟩ => d.table.length - i) (⟨0, Nat.zero_le _⟩) [1, 9, 0, 6, 3, 2, 7, 5, 4] rfl ?_
      rintro ⟨i, hi⟩
      have hle1 := cntT_le (t := d.table) (k := i)
      refine t_seq ?_
      refine t_region (F := ⟨_, _, _, _, _, _⟩) [.is (.tmp 17) (VP.int .i64 ((cntT (d.table.take i) : Nat) : Int)), .is (.tmp 116) (VP.int .i64 ((d.table.length : Nat) : Int)), .is (.tmp 117) (VP.int .i64 ((i : Nat) : Int)), .is (.tmp 3) (VP.ptr va), .is (.tmp 15) (VP.eq vx true true), .is (.tmp 16) (VP.eq vy true true), .own 101 (.val va) (Arn d), .own 113 (.val vx) (R_ri d.table), .own 114 (.val vy) (R_ri d.table)] [] [(0, .is (.tmp 118) (VP.bool (decide (((i : Nat) : Int) < ((d.table.length : Nat) : Int)))))] [] [0, 1, 2, 3, 4, 5, 6, 7, 8] [] [[]] [[]] rfl rfl follow rfl ⟨
        .inl ⟨wants_plain rfl, does_cmp (m := ((i : Nat) : Int)) (n := ((d.table.length : Nat) : Int)) _ _ _ _ _ rfl rfl rfl rfl rfl rfl .i64 (ar_tmp (av_fs 2 rfl)) (ar_tmp (av_fs 1 rfl))⟩,
        trivial⟩ ?_
      refine nx_then ?_
      refine t_seq ?_
      refine t_split 9 rfl (fun hb9 => ?_) (fun hb9 => ?_)
      · have hc9 := of_decide_eq_true hb9
        obtain ⟨b, hb⟩ : ∃ b, d.table[i]? = some b := ⟨_, List.getElem?_eq_getElem (by omega)⟩
        have hst := cntT_succ hb
        have hle2 := cntT_le (t := d.table) (k := i + 1)
        refine t_skip ?_
        refine nx_then ?_
        refine t_seq ?_
        refine t_block ?_
        refine t_seq ?_
        refine t_region (F := ⟨_, _, _, _, _, _⟩) [.is (.tmp 17) (VP.int .i64 ((cntT (d.table.take i) : Nat) : Int)), .is (.tmp 116) (VP.int .i64 ((d.table.length : Nat) : Int)), .is (.tmp 117) (VP.int .i64 ((i : Nat) : Int)), .is (.tmp 3) (VP.ptr va), .is (.tmp 15) (VP.eq vx true true), .is (.tmp 16) (VP.eq vy true true), .own 101 (.val va) (Arn d), .own 113 (.val vx) (R_ri d.table), .own 114 (.val vy) (R_ri d.table), .is (.tmp 118) (VP.bool (decide (((i : Nat) : Int) < ((d.table.length : Nat) : Int))))] [] [(0, .is (.tmp 119) (VP.int .i64 ((i : Nat) : Int))), (1, .is (.tmp 18) (VP.int .i64 ((i : Nat) : Int)))] [] [0, 1, 2, 3, 4, 5, 6, 7, 8, 9] [] [[], [0]] [[1], []] rfl rfl follow rfl ⟨
          .inl ⟨wants_plain rfl, does_move _ (.inl rfl) rfl rfl rfl rfl (ar_tmp (av_fs 2 rfl))⟩,
          .inl ⟨wants_plain rfl, does_move _ (.inr rfl) rfl rfl rfl rfl (ar_tmp (av_rs 0 0 rfl rfl))⟩,
          trivial⟩ ?_
        refine nx_then ?_
        refine t_seq ?_
        refine t_seq ?_
        refine t_region (F := ⟨_, _, _, _, _, _⟩) [.is (.tmp 17) (VP.int .i64 ((cntT (d.table.take i) : Nat) : Int)), .is (.tmp 116) (VP.int .i64 ((d.table.length : Nat) : Int)), .is (.tmp 117) (VP.int .i64 ((i : Nat) : Int)), .is (.tmp 3) (VP.ptr va), .is (.tmp 15) (VP.eq vx true true), .is (.tmp 16) (VP.eq vy true true), .own 101 (.val va) (Arn d), .own 113 (.val vx) (R_ri d.table), .own 114 (.val vy) (R_ri d.table), .is (.tmp 118) (VP.bool (decide (((i : Nat) : Int) < ((d.table.length : Nat) : Int)))), .is (.tmp 119) (VP.int .i64 ((i : Nat) : Int)), .is (.tmp 18) (VP.int .i64 ((i : Nat) : Int))] [] [(0, .is (.tmp 120) (VP.int .i64 ((i : Nat) : Int))), (1, .is (.tmp 121) (VP.eq vy true true)), (2, .is (.tmp 122) (VP.int .i64 ((d.table.length : Nat) : Int))), (3, .is (.tmp 123) (VP.bool (decide (((i : Nat) : Int) ≥ ((d.table.length : Nat) : Int))))), (4, .is (.tmp 124) (VP.bool (decide (((i : Nat) : Int) ≥ ((d.table.length : Nat) : Int))))), (5, .is (.tmp 125) (VP.eq vx true true)), (6, .is (.tmp 126) (VP.int .i64 ((i : Nat) : Int))), (7, .pt 127 (.row (.val vx) (i * 1))), (8, .is (.tmp 128) (O_int b)), (9, .is (.tmp 129) (VP.eq vy true true)), (10, .is (.tmp 130) (VP.int .i64 ((i : Nat) : Int))), (11, .pt 131 (.row (.val vy) (i * 1))), (12, .is (.tmp 132) (O_int b)), (13, .is (.tmp 133) (VP.bool (b == b))), (14, .is (.tmp 134) (VP.bool false)), (15, .is (.tmp 135) (VP.bool false))] [] [0, 1, 2, 3, 4, 5, 6, 7, 8, 9, 10, 11] [] [[], [], [1], [0, 1, 2], [0, 1, 2, 3], [0, 1, 2, 3, 4], [0, 1, 2, 3, 4], [0, 1, 2, 3, 4, 5, 6], [0, 1, 2, 3, 4, 5, 6, 7], [0, 1, 2, 3, 4], [0, 1, 2, 3, 4], [0, 1, 2, 3, 4, 9, 10], [0, 1, 2, 3, 4, 9, 10, 11], [0, 1, 2, 3, 4, 5, 6, 7, 8, 9, 10, 11, 12], [0, 1, 2, 3, 4, 5, 6, 7, 8, 9, 10, 11, 12, 13], [0, 1, 2, 3, 4, 5, 6, 7, 8, 9, 10, 11, 12, 13, 14]] [[3, 4, 5, 6, 7, 8, 9, 10, 11, 12, 13, 14, 15], [2, 3, 4, 5, 6, 7, 8, 9, 10, 11, 12, 13, 14, 15], [3, 4, 5, 6, 7, 8, 9, 10, 11, 12, 13, 14, 15], [4, 5, 6, 7, 8, 9, 10, 11, 12, 13, 14, 15], [5, 6, 7, 8, 9, 10, 11, 12, 13, 14, 15], [7, 8, 13, 14, 15], [7, 8, 13, 14, 15], [8, 13, 14, 15], [13, 14, 15], [11, 12, 13, 14, 15], [11, 12, 13, 14, 15], [12, 13, 14, 15], [13, 14, 15], [14, 15], [15], []] rfl rfl follow rfl ⟨
          .inl ⟨wants_plain rfl, does_move _ (.inl rfl) rfl rfl rfl rfl (ar_tmp (av_fs 11 rfl))⟩,
          .inl ⟨wants_plain rfl, does_move _ (.inl rfl) rfl rfl rfl rfl (ar_tmp (av_fs 5 rfl))⟩,
          .inl ⟨wants_plain rfl, does_len _ _ (by kernel_rfl) rfl rfl rfl rfl rfl (sl_own (av_fs 8 rfl) (ar_tmp (av_rs 1 1 rfl rfl)))⟩,
          .inl ⟨wants_plain rfl, does_cmp (m := ((i : Nat) : Int)) (n := ((d.table.length : Nat) : Int)) _ _ _ _ _ rfl rfl rfl rfl rfl rfl .i64 (ar_tmp (av_rs 0 0 rfl rfl)) (ar_tmp (av_rs 2 2 rfl rfl))⟩,
          .inl ⟨wants_plain rfl, does_move _ (.inl rfl) rfl rfl rfl rfl (ar_tmp (av_rs 3 3 rfl rfl))⟩,
          .inl ⟨wants_guard false rfl rfl rfl (av_bool (decide_eq_false (by omega)) (av_rs 4 4 rfl rfl)), does_move _ (.inl rfl) rfl rfl rfl rfl (ar_tmp (av_fs 4 rfl))⟩,
          .inl ⟨wants_guard false rfl rfl rfl (av_bool (decide_eq_false (by omega)) (av_rs 4 4 rfl rfl)), does_move _ (.inl rfl) rfl rfl rfl rfl (ar_tmp (av_fs 11 rfl))⟩,
          .inl ⟨wants_guard false rfl rfl rfl (av_bool (decide_eq_false (by omega)) (av_rs 4 4 rfl rfl)), does_index (m := i) _ _ Try.underlying47 DagP_size___int rfl rfl rfl rfl rfl _ (by omega) rfl (by omega) (sl_own (av_fs 7 rfl) (ar_tmp (av_rs 5 5 rfl rfl))) (ar_tmp (av_rs 6 6 rfl rfl))⟩,
          .inl ⟨wants_guard false rfl rfl rfl (av_bool (decide_eq_false (by omega)) (av_rs 4 4 rfl rfl)), does_loadOne _ DagP_one___int rfl rfl rfl rfl rfl (pt_pt (av_rs 7 7 rfl rfl)) (rds_row (av_fs 7 rfl) (hq_flat1 cRi_len hb 0 (by omega) rfl))⟩,
          .inl ⟨wants_guard false rfl rfl rfl (av_bool (decide_eq_false (by omega)) (av_rs 4 4 rfl rfl)), does_move _ (.inl rfl) rfl rfl rfl rfl (ar_tmp (av_fs 5 rfl))⟩,
          .inl ⟨wants_guard false rfl rfl rfl (av_bool (decide_eq_false (by omega)) (av_rs 4 4 rfl rfl)), does_move _ (.inl rfl) rfl rfl rfl rfl (ar_tmp (av_fs 11 rfl))⟩,
          .inl ⟨wants_guard false rfl rfl rfl (av_bool (decide_eq_false (by omega)) (av_rs 4 4 rfl rfl)), does_index (m := i) _ _ Try.underlying47 DagP_size___int rfl rfl rfl rfl rfl _ (by omega) rfl (by omega) (sl_own (av_fs 8 rfl) (ar_tmp (av_rs 9 9 rfl rfl))) (ar_tmp (av_rs 10 10 rfl rfl))⟩,
          .inl ⟨wants_guard false rfl rfl rfl (av_bool (decide_eq_false (by omega)) (av_rs 4 4 rfl rfl)), does_loadOne _ DagP_one___int rfl rfl rfl rfl rfl (pt_pt (av_rs 11 11 rfl rfl)) (rds_row (av_fs 8 rfl) (hq_flat1 cRi_len hb 0 (by omega) rfl))⟩,
          .inl ⟨wants_guard false rfl rfl rfl (av_bool (decide_eq_false (by omega)) (av_rs 4 4 rfl rfl)), does_call (dg_SameInts b b) (fun _ _ _ _ h => h) rfl DagP_hb_collator_collatorref06_SameInts rfl rfl rfl rfl ar_clo (ars_cons (pa_slcRo (ar_tmp (av_rs 8 8 rfl rfl)) (flat_nil_iff cInt_len (by decide) _)) (ars_cons (pa_slcRo (ar_tmp (av_rs 12 12 rfl rfl)) (flat_nil_iff cInt_len (by decide) _)) ars_nil)) trivial⟩,
          .inl ⟨wants_guard false rfl rfl rfl (av_bool (decide_eq_false (by omega)) (av_rs 4 4 rfl rfl)), does_not true _ _ rfl rfl rfl rfl rfl (ar_tmp (av_bool (by simp) (av_rs 13 13 rfl rfl)))⟩,
          .inl ⟨wants_plain rfl, does_pick false _ _ _ rfl rfl rfl rfl rfl (ar_tmp (av_bool (decide_eq_false (by omega)) (av_rs 4 4 rfl rfl))) (ar_tmp (av_rs 14 14 rfl rfl))⟩,
          trivial⟩ ?_
        refine nx_then ?_
        refine t_cond_f 27 rfl ?_
        refine t_skip ?_
        refine nx_then ?_
        refine t_region (F := ⟨_, _, _, _, _, _⟩) [.is (.tmp 116) (VP.int .i64 ((d.table.length : Nat) : Int)), .is (.tmp 117) (VP.int .i64 ((i : Nat) : Int)), .is (.tmp 3) (VP.ptr va), .is (.tmp 15) (VP.eq vx true true), .is (.tmp 16) (VP.eq vy true true), .own 101 (.val va) (Arn d), .own 113 (.val vx) (R_ri d.table), .own 114 (.val vy) (R_ri d.table), .is (.tmp 118) (VP.bool (decide (((i : Nat) : Int) < ((d.table.length : Nat) : Int)))), .is (.tmp 119) (VP.int .i64 ((i : Nat) : Int)), .is (.tmp 18) (VP.int .i64 ((i : Nat) : Int)), .is (.tmp 120) (VP.int .i64 ((i : Nat) : Int)), .is (.tmp 121) (VP.eq vy true true), .is (.tmp 122) (VP.int .i64 ((d.table.length : Nat) : Int)), .is (.tmp 123) (VP.bool (decide (((i : Nat) : Int) ≥ ((d.table.length : Nat) : Int)))), .is (.tmp 124) (VP.bool (decide (((i : Nat) : Int) ≥ ((d.table.length : Nat) : Int)))), .is (.tmp 125) (VP.eq vx true true), .is (.tmp 126) (VP.int .i64 ((i : Nat) : Int)), .pt 127 (.row (.val vx) (i * 1)), .is (.tmp 128) (O_int b), .is (.tmp 129) (VP.eq vy true true), .is (.tmp 130) (VP.int .i64 ((i : Nat) : Int)), .pt 131 (.row (.val vy) (i * 1)), .is (.tmp 132) (O_int b), .is (.tmp 133) (VP.bool (b == b)), .is (.tmp 134) (VP.bool false), .is (.tmp 135) (VP.bool false)] [(7, .is (.tmp 17) (VP.int .i64 ((cntT (d.table.take i) : Nat) : Int)))] [(0, .is (.tmp 136) (VP.int .i64 ((cntT (d.table.take i) : Nat) : Int))), (1, .is (.tmp 137) (VP.eq vx true true)), (2, .is (.tmp 138) (VP.int .i64 ((i : Nat) : Int))), (3, .pt 139 (.row (.val vx) (i * 1))), (4, .is (.tmp 140) (O_int b)), (5, .is (.tmp 141) (VP.int .i64 ((b.length : Nat) : Int))), (6, .is (.tmp 142) (VP.int .i64 ((cntT (d.table.take (i + 1)) : Nat) : Int))), (7, .is (.tmp 17) (VP.int .i64 ((cntT (d.table.take (i + 1)) : Nat) : Int)))] [] [1, 2, 3, 4, 5, 6, 7, 8, 9, 10, 11, 12, 13, 14, 15, 16, 17, 18, 19, 20, 21, 22, 23, 24, 25, 26, 27] [0] [[], [], [], [1, 2], [1, 2, 3], [1, 2, 3, 4], [0, 1, 2, 3, 4, 5], [0, 1, 2, 3, 4, 5, 6]] [[6, 7], [3, 4, 5, 6, 7], [3, 4, 5, 6, 7], [4, 5, 6, 7], [5, 6, 7], [6, 7], [7], []] rfl rfl follow rfl ⟨
          .inl ⟨wants_plain rfl, does_move _ (.inl rfl) rfl rfl rfl rfl (ar_tmp (av_os 0 7 rfl rfl))⟩,
          .inl ⟨wants_plain rfl, does_move _ (.inl rfl) rfl rfl rfl rfl (ar_tmp (av_fs 3 rfl))⟩,
          .inl ⟨wants_plain rfl, does_move _ (.inl rfl) rfl rfl rfl rfl (ar_tmp (av_fs 10 rfl))⟩,
          .inl ⟨wants_plain rfl, does_index (m := i) _ _ Try.underlying47 DagP_size___int rfl rfl rfl rfl rfl _ (by omega) rfl (by omega) (sl_own (av_fs 6 rfl) (ar_tmp (av_rs 1 1 rfl rfl))) (ar_tmp (av_rs 2 2 rfl rfl))⟩,
          .inl ⟨wants_plain rfl, does_loadOne _ DagP_one___int rfl rfl rfl rfl rfl (pt_pt (av_rs 3 3 rfl rfl)) (rds_row (av_fs 6 rfl) (hq_flat1 cRi_len hb 0 (by omega) rfl))⟩,
          .inl ⟨wants_plain rfl, does_len _ _ (by kernel_rfl) rfl rfl rfl rfl rfl (sl_ro (av_rs 4 4 rfl rfl) (flat_nil_iff cInt_len (by decide) _))⟩,
          .inl ⟨wants_plain rfl, does_addE (m := ((cntT (d.table.take i) : Nat) : Int)) (n := ((b.length : Nat) : Int)) (x := ((cntT (d.table.take (i + 1)) : Nat) : Int)) (by omega) _ _ _ _ rfl rfl rfl rfl rfl (by omega) (ar_tmp (av_rs 0 0 rfl rfl)) (ar_tmp (av_rs 5 5 rfl rfl))⟩,
          .inl ⟨wants_plain rfl, does_move _ (.inr rfl) rfl rfl rfl rfl (ar_tmp (av_rs 6 6 rfl rfl))⟩,
          trivial⟩ ?_
        refine nx_block ?_
        refine nx_then ?_
        refine t_region (F := ⟨_, _, _, _, _, _⟩) [.is (.tmp 116) (VP.int .i64 ((d.table.length : Nat) : Int)), .is (.tmp 3) (VP.ptr va), .is (.tmp 15) (VP.eq vx true true), .is (.tmp 16) (VP.eq vy true true), .own 101 (.val va) (Arn d), .own 113 (.val vx) (R_ri d.table), .own 114 (.val vy) (R_ri d.table), .is (.tmp 118) (VP.bool (decide (((i : Nat) : Int) < ((d.table.length : Nat) : Int)))), .is (.tmp 119) (VP.int .i64 ((i : Nat) : Int)), .is (.tmp 18) (VP.int .i64 ((i : Nat) : Int)), .is (.tmp 120) (VP.int .i64 ((i : Nat) : Int)), .is (.tmp 121) (VP.eq vy true true), .is (.tmp 122) (VP.int .i64 ((d.table.length : Nat) : Int)), .is (.tmp 123) (VP.bool (decide (((i : Nat) : Int) ≥ ((d.table.length : Nat) : Int)))), .is (.tmp 124) (VP.bool (decide (((i : Nat) : Int) ≥ ((d.table.length : Nat) : Int)))), .is (.tmp 125) (VP.eq vx true true), .is (.tmp 126) (VP.int .i64 ((i : Nat) : Int)), .pt 127 (.row (.val vx) (i * 1)), .is (.tmp 128) (O_int b), .is (.tmp 129) (VP.eq vy true true), .is (.tmp 130) (VP.int .i64 ((i : Nat) : Int)), .pt 131 (.row (.val vy) (i * 1)), .is (.tmp 132) (O_int b), .is (.tmp 133) (VP.bool (b == b)), .is (.tmp 134) (VP.bool false), .is (.tmp 135) (VP.bool false), .is (.tmp 136) (VP.int .i64 ((cntT (d.table.take i) : Nat) : Int)), .is (.tmp 137) (VP.eq vx true true), .is (.tmp 138) (VP.int .i64 ((i : Nat) : Int)), .pt 139 (.row (.val vx) (i * 1)), .is (.tmp 140) (O_int b), .is (.tmp 141) (VP.int .i64 ((b.length : Nat) : Int)), .is (.tmp 142) (VP.int .i64 ((cntT (d.table.take (i + 1)) : Nat) : Int)), .is (.tmp 17) (VP.int .i64 ((cntT (d.table.take (i + 1)) : Nat) : Int))] [(1, .is (.tmp 117) (VP.int .i64 ((i : Nat) : Int)))] [(0, .is (.tmp 143) (VP.int .i64 (((i + 1) : Nat) : Int))), (1, .is (.tmp 117) (VP.int .i64 (((i + 1) : Nat) : Int)))] [] [0, 2, 3, 4, 5, 6, 7, 8, 9, 10, 11, 12, 13, 14, 15, 16, 17, 18, 19, 20, 21, 22, 23, 24, 25, 26, 27, 28, 29, 30, 31, 32, 33, 34] [1] [[], [0]] [[1], []] rfl rfl follow rfl ⟨
          .inl ⟨wants_plain rfl, does_addE (m := ((i : Nat) : Int)) (n := 1) (x := (((i + 1) : Nat) : Int)) (by omega) _ _ _ _ rfl rfl rfl rfl rfl (by omega) (ar_tmp (av_os 0 1 rfl rfl)) (ar_const (fun _ _ => rfl))⟩,
          .inl ⟨wants_plain rfl, does_move _ (.inl rfl) rfl rfl rfl rfl (ar_tmp (av_rs 0 0 rfl rfl))⟩,
          trivial⟩ ?_
        refine nx_round (τ := {i : Nat // i ≤ d.table.length}) (I := fun ⟨i, _⟩ => [.is (.tmp 17) (VP.int .i64 ((cntT (d.table.take i) : Nat) : Int)), .is (.tmp 116) (VP.int .i64 ((d.table.length : Nat) : Int)), .is (.tmp 117) (VP.int .i64 ((i : Nat) : Int)), .is (.tmp 3) (VP.ptr va), .is (.tmp 15) (VP.eq vx true true), .is (.tmp 16) (VP.eq vy true true), .own 101 (.val va) (Arn d), .own 113 (.val vx) (R_ri d.table), .own 114 (.val vy) (R_ri d.table)]) (μ := fun ⟨i, _⟩ => d.table.length - i) (s := ⟨i, hi⟩) (⟨i + 1, by omega⟩) ?_ [33, 0, 35, 1, 2, 3, 4, 5, 6] ?_
        · exact (show d.table.length - (i + 1) < d.table.length - i by omega)
        · exact rfl
      · have hc9 := of_decide_eq_false hb9
        refine t_exit ?_
        refine ex_then ?_
        refine ex_then ?_
        refine ex_block ?_
        refine nx_then ?_
        refine t_pick [0, 3, 4, 5, 6, 7, 8] rfl ?_
        refine t_seq ?_
        refine t_slot (y := VP.int .i64 ((cntT d.table : Nat) : Int)) (fun _ _ _ h => by rw [List.take_of_length_le (show d.table.length ≤ i by omega)] at h; exact h) ?_
        refine t_region (F := ⟨_, _, _, _, _, _⟩) [.is (.tmp 17) (VP.int .i64 ((cntT d.table : Nat) : Int)), .is (.tmp 3) (VP.ptr va), .is (.tmp 15) (VP.eq vx true true), .is (.tmp 16) (VP.eq vy true true), .own 101 (.val va) (Arn d), .own 113 (.val vx) (R_ri d.table), .own 114 (.val vy) (R_ri d.table)] [] [(0, .is (.tmp 144) (VP.eq vx true true)), (1, .is (.tmp 145) (VP.int .i64 ((d.table.length : Nat) : Int))), (2, .is (.tmp 146) (VP.eq vy true true)), (3, .is (.tmp 147) (VP.int .i64 ((d.table.length : Nat) : Int))), (4, .is (.tmp 148) (VP.bool (((d.table.length : Nat) : Int) == ((d.table.length : Nat) : Int)))), (5, .is (.tmp 149) (VP.bool (((d.table.length : Nat) : Int) == ((d.table.length : Nat) : Int)))), (6, .is (.tmp 150) (VP.int .i64 ((cntT d.table : Nat) : Int))), (7, .is (.tmp 151) (VP.ptr va)), (8, .is (.tmp 152) (VP.int .i64 ((d.terms.length : Nat) : Int))), (9, .is (.tmp 153) (VP.bool (((cntT d.table : Nat) : Int) == ((d.terms.length : Nat) : Int)))), (10, .is (.tmp 154) (VP.bool (((cntT d.table : Nat) : Int) == ((d.terms.length : Nat) : Int)))), (11, .is (.tmp 2) (VP.bool (((cntT d.table : Nat) : Int) == ((d.terms.length : Nat) : Int))))] [] [0, 1, 2, 3, 4, 5, 6] [] [[], [0], [], [2], [0, 1, 2, 3], [0, 1, 2, 3, 4], [0, 1, 2, 3, 4, 5], [0, 1, 2, 3, 4, 5], [0, 1, 2, 3, 4, 5, 7], [0, 1, 2, 3, 4, 5, 6, 7, 8], [0, 1, 2, 3, 4, 5, 6, 7, 8, 9], [0, 1, 2, 3, 4, 5, 6, 7, 8, 9, 10]] [[1, 4, 5, 6, 7, 8, 9, 10, 11], [4, 5, 6, 7, 8, 9, 10, 11], [3, 4, 5, 6, 7, 8, 9, 10, 11], [4, 5, 6, 7, 8, 9, 10, 11], [5, 6, 7, 8, 9, 10, 11], [6, 7, 8, 9, 10, 11], [9, 10, 11], [8, 9, 10, 11], [9, 10, 11], [10, 11], [11], []] rfl rfl follow rfl ⟨
          .inl ⟨wants_plain rfl, does_move _ (.inl rfl) rfl rfl rfl rfl (ar_tmp (av_fs 2 rfl))⟩,
          .inl ⟨wants_plain rfl, does_len _ _ (by kernel_rfl) rfl rfl rfl rfl rfl (sl_own (av_fs 5 rfl) (ar_tmp (av_rs 0 0 rfl rfl)))⟩,
          .inl ⟨wants_plain rfl, does_move _ (.inl rfl) rfl rfl rfl rfl (ar_tmp (av_fs 3 rfl))⟩,
          .inl ⟨wants_plain rfl, does_len _ _ (by kernel_rfl) rfl rfl rfl rfl rfl (sl_own (av_fs 6 rfl) (ar_tmp (av_rs 2 2 rfl rfl)))⟩,
          .inl ⟨wants_plain rfl, does_cmp (m := ((d.table.length : Nat) : Int)) (n := ((d.table.length : Nat) : Int)) _ _ _ _ _ rfl rfl rfl rfl rfl rfl .i64 (ar_tmp (av_rs 1 1 rfl rfl)) (ar_tmp (av_rs 3 3 rfl rfl))⟩,
          .inl ⟨wants_plain rfl, does_move _ (.inl rfl) rfl rfl rfl rfl (ar_tmp (av_rs 4 4 rfl rfl))⟩,
          .inl ⟨wants_guard true rfl rfl rfl (av_bool (by simp) (av_rs 5 5 rfl rfl)), does_move _ (.inl rfl) rfl rfl rfl rfl (ar_tmp (av_fs 0 rfl))⟩,
          .inl ⟨wants_guard true rfl rfl rfl (av_bool (by simp) (av_rs 5 5 rfl rfl)), does_move _ (.inl rfl) rfl rfl rfl rfl (ar_tmp (av_fs 1 rfl))⟩,
          .inl ⟨wants_guard true rfl rfl rfl (av_bool (by simp) (av_rs 5 5 rfl rfl)), does_call (da_Len (v := va) (d := d)) (fun _ _ _ _ h => h) rfl DagP_hb___collator_dag_Arena__Len rfl rfl rfl rfl ar_clo (ars_cons (pa_vp (ar_tmp (av_rs 7 7 rfl rfl))) ars_nil) ⟨(brw_own (av_fs 4 rfl) rfl), trivial⟩⟩,
          .inl ⟨wants_guard true rfl rfl rfl (av_bool (by simp) (av_rs 5 5 rfl rfl)), does_cmp (m := ((cntT d.table : Nat) : Int)) (n := ((d.terms.length : Nat) : Int)) _ _ _ _ _ rfl rfl rfl rfl rfl rfl .i64 (ar_tmp (av_rs 6 6 rfl rfl)) (ar_tmp (av_rs 8 8 rfl rfl))⟩,
          .inl ⟨wants_plain rfl, does_pick true _ _ _ rfl rfl rfl rfl rfl (ar_tmp (av_bool (by simp) (av_rs 5 5 rfl rfl))) (ar_tmp (av_rs 9 9 rfl rfl))⟩,
          .inl ⟨wants_plain rfl, does_move _ (.inr rfl) rfl rfl rfl rfl (ar_tmp (av_rs 10 10 rfl rfl))⟩,
          trivial⟩ ?_
        refine t_pick [4, 5, 6, 18] rfl ?_
        refine nx_then ?_
        refine t_ret ?_
        exact rt_post [HA.of (VP.bool true)] [[]] [] [] rfl ⟨(rv_eq (congrArg (fun b => HA.of (VP.bool b)) (by rw [hal]; simp)) (rv_vp 3 rfl)), trivial⟩ (by decide) rfl rfl

end O
end Go.Proofs.Ytapmngmpomhjmaa

/- DagSame: for all that comes in the law returns true, and what came in reads as it did. No condition. -/
namespace Go.Proofs.Ytapmngmpomhjmaa
open Go.ChangeShapes Go.WideShapes Go.ChangeAt Go.RowKit

theorem dagSame_own : ownKnob Try.prog.godebug = none := by kernel_rfl
theorem dagSame_laid : laidOutB Try.prog = true := by kernel_rfl

theorem dagSame_args (W : World) (args : Array Value) (hn : args.size = 1) (h : ∀ (j : Nat) (t : TypeId) (v : Value), (#[22] : Array TypeId)[j]? = some t → args[j]? = some v → Arg Try.prog W t v) :
    Calls Try.prog 5 args W fun e W' => e = .returned (.bool true) ∧ Ext W W' := by
  obtain ⟨l⟩ := args
  match l, hn with
  | [v0], _ =>
    obtain ⟨l, _, p1⟩ := O.arg_acts6 (h 0 _ v0 rfl rfl)
    exact O.SpecO.law (ps := [_]) (O.dl_DagSame l) ⟨p1, trivial⟩

set_option maxRecDepth 100000 in
theorem dagSame_lifted (os : Os) (started : os.Started) (H : Type) (enc : TypeId × Value → H) :
    ReturnsInHanded {} Try.checked os 5 .any (Rows.dagSameSpec.pre6 enc Try.prog Try.f5 Rows.dagSameRow.domain false) (Rows.dagSameSpec.post enc Try.prog Try.f5 false true false false) :=
  law_lifted (C := Try.checked) 4 dagSame_own started (by kernel_rfl) Try.func5 dagSame_laid
      (by rw [Try.params5]; exact (List.forall_mem_cons.2 ⟨⟨by kernel_rfl, of_decide_eq_true (by kernel_rfl)⟩, (fun _ h => by cases h)⟩))
      (by rw [Try.params5]; exact (List.forall_mem_cons.2 ⟨(by show Served Try.prog _; unfold Served; rw [Try.underlying22]; trivial), (fun _ h => by cases h)⟩))
      rfl Try.underlying4 rfl
      (fun ds hd => by match ds, hd with | [_], _ => rfl)
      (ChangeSpec.witness6 (enc := enc) (C := Try.checked) false ⟨#[], #[.slice none 0 0], []⟩ 8 (by kernel_rfl) (by kernel_rfl) (by kernel_rfl) (by kernel_rfl))
      (fun W args hn h => dagSame_args W args (by rw [Try.params5] at hn; exact hn) (by rw [Try.params5] at h; exact h))

theorem dagSame_over : Rows.dagSameRow.holds Try.pinned (OpenSpec.ofChange Rows.dagSameSpec) :=
  OpenClaim.holds_of_wide 5 Try.f5 rfl rfl rfl rfl rfl rfl rfl ⟨rfl, rfl, rfl, rfl, rfl⟩ rfl rfl rfl rfl rfl (by kernel_rfl) Try.func5 (by kernel_rfl)
    (of_decide_eq_true (by kernel_rfl)) (by unfold Func.isWrapper; first | (rw [if_pos (by decide +kernel)]; kernel_rfl) | (rw [if_neg (by decide +kernel)]; exact ⟨rfl, rfl⟩))
    (fun os started H enc _ => dagSame_lifted os started H enc)

theorem dagSame_holds : Rows.DagSameSaid := dagSame_over
#print axioms dagSame_holds
end Go.Proofs.Ytapmngmpomhjmaa
