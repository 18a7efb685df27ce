/- Part of the proof that a law returns true for all that comes in, and that what came in reads as it did. No condition. -/
import Derived.SizedLaws
import Derived.Test.YtapmngmpomhjmaaMgDagSorts5
/- What the laws ask of all acts. -/
namespace Go.Proofs.Ytapmngmpomhjmaa
open Go.RowKit
namespace O

structure ActD where
  what : Int
  name : ByteArray
  args : List Int
  res : Int
  term : TermD
def cActD (a : ActD) : List VP := [VP.int .i64 a.what, VP.str a.name, VP.ro a.args.length (a.args.flatMap cInt), VP.int .i64 a.res, VP.int .i64 a.term.op, VP.int .i64 a.term.fn, VP.ro a.term.kids.length (a.term.kids.flatMap cInt), VP.str a.term.num]
theorem cActD_len (a : ActD) : (cActD a).length = 8 := rfl
abbrev S_act6 (l : List ActD) : HA := HA.slc l.length (l.flatMap cActD)
abbrev O_act6 (l : List ActD) : VP := VP.ro l.length (l.flatMap cActD)
abbrev B_act6 (x : ActD) : HA := HA.cells 32 [HA.of (VP.int .i64 x.what), HA.of (VP.str x.name), HA.of (O_int x.args), HA.of (VP.int .i64 x.res), HA.of (VP.int .i64 x.term.op), HA.of (VP.int .i64 x.term.fn), HA.of (O_int x.term.kids), HA.of (VP.str x.term.num)]
def bigA (a : ActD) : Bool := decide (((a.name.size : Nat) : Int) > 60) || decide (((a.args.length : Nat) : Int) > 12) || decide (((a.term.kids.length : Nat) : Int) > 12) || decide (((a.term.num.size : Nat) : Int) > 60)
def greatL (l : List ActD) : Bool := bif decide (((l.length : Nat) : Int) > 80) then true else l.any bigA
theorem great_no {l : List ActD} (h : greatL l = false) : l.length ≤ 80 ∧ ∀ a ∈ l, a.name.size ≤ 60 ∧ a.args.length ≤ 12 ∧ a.term.kids.length ≤ 12 ∧ a.term.num.size ≤ 60 := by
  unfold greatL at h
  rcases Bool.eq_false_or_eq_true (decide (((l.length : Nat) : Int) > 80)) with h1 | h1
  · rw [h1] at h; cases h
  rw [h1] at h
  have h1 := of_decide_eq_false h1
  refine ⟨by omega, fun a ha => ?_⟩
  have := List.any_eq_false.1 h a ha
  simp only [bigA, Bool.not_eq_true, Bool.or_eq_false_iff, decide_eq_false_iff_not] at this
  omega
theorem any_hit {α : Type} {g : α → Bool} {l : List α} {k : Nat} {x : α} (hx : l[k]? = some x) (h : g x = true) : l.any g = true := List.any_eq_true.2 ⟨x, List.mem_of_getElem? hx, h⟩
theorem any_miss {α : Type} {g : α → Bool} {l : List α} {k : Nat} (h : ∀ j y, j < k → l[j]? = some y → g y = false) (hk : l.length ≤ k) : l.any g = false := List.any_eq_false.2 fun x hx => by
  obtain ⟨j, hj, rfl⟩ := List.mem_iff_getElem.1 hx
  rw [h j _ (by omega) (List.getElem?_eq_getElem hj)]; exact Bool.false_ne_true
theorem DagM_agg_collatorlaw06_Act : aggTy Try.prog 32 8 = true := by kernel_rfl
theorem DagM_size_collatorlaw06_Act : ∀ w, (sizeOf 32).run Try.prog w = .ok 8 w := run_sizeAgg DagM_agg_collatorlaw06_Act
theorem DagM_zero_collatorlaw06_Act : zeroOf Try.prog 32 [(.int .i64 0), (.string (ByteArray.mk #[])), (.slice none 0 0), (.int .i64 0), (.int .i64 0), (.int .i64 0), (.slice none 0 0), (.string (ByteArray.mk #[]))] := by unfold zeroOf; kernel_rfl
theorem DagM_f_collatorlaw06_Act_1 : fieldAt Try.prog 32 1 1 = true := by kernel_rfl
theorem DagM_one_string : oneTy Try.prog 9 = true := by kernel_rfl
theorem DagM_f_collatorlaw06_Act_2 : fieldAt Try.prog 32 2 2 = true := by kernel_rfl
theorem DagM_one___int : oneTy Try.prog 28 = true := by kernel_rfl
theorem DagM_f_collatorlaw06_Act_4 : fieldAt Try.prog 32 4 4 = true := by kernel_rfl
theorem DagM_f_api_Term_2 : fieldAt Try.prog 30 2 2 = true := by kernel_rfl
theorem DagM_f_api_Term_3 : fieldAt Try.prog 30 3 3 = true := by kernel_rfl
theorem DagM_agg_api_Fun : aggTy Try.prog 38 3 = true := by kernel_rfl
theorem DagM_size_api_Fun : ∀ w, (sizeOf 38).run Try.prog w = .ok 3 w := run_sizeAgg DagM_agg_api_Fun
theorem DagM_f_api_Fun_0 : fieldAt Try.prog 38 0 0 = true := by kernel_rfl
theorem DagM_f_api_Fun_1 : fieldAt Try.prog 38 1 1 = true := by kernel_rfl
theorem DagM_hb_collator_collatorref06_SameInts : hasBody Try.prog 20 = true := by kernel_rfl
theorem DagM_f_api_Fun_2 : fieldAt Try.prog 38 2 2 = true := by kernel_rfl
theorem DagM_one_int : oneTy Try.prog 3 = true := by kernel_rfl
theorem DagM_hb_collator_collatorlaw06_funs : hasBody Try.prog 41 = true := by kernel_rfl
theorem DagM_hb_collator_dag_New : hasBody Try.prog 9 = true := by kernel_rfl
theorem DagM_zero_api_Term : zeroOf Try.prog 30 [(.int .i64 0), (.int .i64 0), (.slice none 0 0), (.string (ByteArray.mk #[]))] := by unfold zeroOf; kernel_rfl
theorem DagM_pl_api_Term : placesOf Try.prog 30 #[(0, 1), (1, 1), (2, 1), (3, 1)] := ⟨_, Try.underlying30, fun w => by kernel_rfl⟩
theorem DagM_hb___collator_dag_Arena__Term : hasBody Try.prog 13 = true := by kernel_rfl
theorem DagM_hb___collator_dag_Arena__Len : hasBody Try.prog 12 = true := by kernel_rfl
theorem DagM_hb___collator_dag_Arena__Sorts : hasBody Try.prog 21 = true := by kernel_rfl
set_option maxRecDepth 100000 in
set_option maxHeartbeats 4000000 in
theorem dl_Great (l : List ActD) : SpecO Try.prog 8 [.bo (S_act6 l)] [] [] [] (HA.of (VP.bool (greatL l))) := by
  refine spec_of 39 Try.func8 rfl Try.ntmps8 rfl fun w0 S0 Z0 Bf => ?_
  refine b_name fun v0 => ?_
  refine b_know slc_le fun hla => ?_
  refine t_seq ?_
  refine t_region (F := ⟨_, _, _, _, _, _⟩) [.bor (.val v0) (S_act6 l), .is (.tmp 0) (VP.eq v0 true true)] [] [(0, .is (.tmp 2) (VP.bool false))] [] [0, 1] [] [[]] [[]] rfl rfl follow rfl ⟨
    .inl ⟨wants_plain rfl, does_move _ (.inr rfl) rfl rfl rfl rfl (ar_const (fun _ _ => rfl))⟩,
    trivial⟩ ?_
  refine nx_then ?_
  refine t_seq ?_
  refine t_seq ?_
  refine t_region (F := ⟨_, _, _, _, _, _⟩) [.bor (.val v0) (S_act6 l), .is (.tmp 0) (VP.eq v0 true true), .is (.tmp 2) (VP.bool false)] [] [(0, .is (.tmp 5) (VP.eq v0 true true)), (1, .is (.tmp 6) (VP.int .i64 ((l.length : Nat) : Int))), (2, .is (.tmp 7) (VP.bool (decide (((l.length : Nat) : Int) > 80))))] [] [0, 1, 2] [] [[], [0], [0, 1]] [[1, 2], [2], []] rfl rfl follow rfl ⟨
    .inl ⟨wants_plain rfl, does_move _ (.inl rfl) rfl rfl rfl rfl (ar_tmp (av_fs 1 rfl))⟩,
    .inl ⟨wants_plain rfl, does_len _ _ (by kernel_rfl) rfl rfl rfl rfl rfl (sl_slc (av_fs 0 rfl) (ar_tmp (av_rs 0 0 rfl rfl)))⟩,
    .inl ⟨wants_plain rfl, does_cmp (m := ((l.length : Nat) : Int)) (n := 80) _ _ _ _ _ rfl rfl rfl rfl rfl rfl .i64 (ar_tmp (av_rs 1 1 rfl rfl)) (ar_const (fun _ _ => rfl))⟩,
    trivial⟩ ?_
  refine t_pick [0, 1, 2, 5] rfl ?_
  refine nx_then ?_
  refine t_split 3 rfl (fun hb1 => ?_) (fun hb1 => ?_)
  · have hc1 := of_decide_eq_true hb1
    refine t_seq ?_
    refine t_region (F := ⟨_, _, _, _, _, _⟩) [.bor (.val v0) (S_act6 l), .is (.tmp 0) (VP.eq v0 true true), .is (.tmp 7) (VP.bool (decide (((l.length : Nat) : Int) > 80)))] [(0, .is (.tmp 2) (VP.bool false))] [(0, .is (.tmp 2) (VP.bool true))] [] [0, 1, 3] [2] [[]] [[]] rfl rfl follow rfl ⟨
      .inl ⟨wants_plain rfl, does_move _ (.inr rfl) rfl rfl rfl rfl (ar_const (fun _ _ => rfl))⟩,
      trivial⟩ ?_
    refine t_pick [0, 1, 3] rfl ?_
    refine nx_then ?_
    refine t_ret ?_
    refine rt_then ?_
    exact rt_post [HA.of (VP.bool (greatL l))] [[]] [] [] rfl ⟨(rv_eq (congrArg HA.of (congrArg VP.bool (show true = greatL l from Eq.symm (by unfold greatL; rw [hb1]; rfl)))) (rv_vp 2 rfl)), trivial⟩ (by decide) rfl rfl
  · have hc1 := of_decide_eq_false hb1
    refine t_skip ?_
    refine nx_then ?_
    refine t_seq ?_
    refine t_seq ?_
    refine t_region (F := ⟨_, _, _, _, _, _⟩) [.bor (.val v0) (S_act6 l), .is (.tmp 0) (VP.eq v0 true true), .is (.tmp 2) (VP.bool false), .is (.tmp 7) (VP.bool (decide (((l.length : Nat) : Int) > 80)))] [] [(0, .is (.tmp 8) (VP.eq v0 true true)), (1, .is (.tmp 9) (VP.int .i64 ((l.length : Nat) : Int))), (2, .is (.tmp 10) (VP.int .i64 0))] [] [0, 1, 2, 3] [] [[], [0], []] [[1], [], []] rfl rfl follow rfl ⟨
      .inl ⟨wants_plain rfl, does_move _ (.inl rfl) rfl rfl rfl rfl (ar_tmp (av_fs 1 rfl))⟩,
      .inl ⟨wants_plain rfl, does_len _ _ (by kernel_rfl) rfl rfl rfl rfl rfl (sl_slc (av_fs 0 rfl) (ar_tmp (av_rs 0 0 rfl rfl)))⟩,
      .inl ⟨wants_plain rfl, does_move _ (.inl rfl) rfl rfl rfl rfl (ar_const (fun _ _ => rfl))⟩,
      trivial⟩ ?_
    refine t_pick [0, 2, 4, 5, 6] rfl ?_
    refine nx_then ?_
    refine t_block ?_
    refine t_pick [4, 0, 1, 2, 3] rfl ?_
    refine t_slot (y := VP.int .i64 ((0 : Nat) : Int)) (fun _ _ _ h => h) ?_
    refine t_loop (τ := {k : Nat // (decide (((l.length : Nat) : Int) > 80)) = false ∧ k ≤ l.length ∧ ∀ j y, j < k → l[j]? = some y → bigA y = false}) (fun ⟨k, _⟩ => [.is (.tmp 8) (VP.eq v0 true true), .is (.tmp 9) (VP.int .i64 ((l.length : Nat) : Int)), .is (.tmp 10) (VP.int .i64 ((k : Nat) : Int)), .bor (.val v0) (S_act6 l)]) (fun ⟨k, _⟩ => l.length - k) (⟨0, hb1, Nat.zero_le _, fun j y hj => by omega⟩) [3, 4, 0, 1] rfl ?_
    rintro ⟨k, hle, hk, hno⟩
    refine t_seq ?_
    refine t_region (F := ⟨_, _, _, _, _, _⟩) [.is (.tmp 8) (VP.eq v0 true true), .is (.tmp 9) (VP.int .i64 ((l.length : Nat) : Int)), .is (.tmp 10) (VP.int .i64 ((k : Nat) : Int)), .bor (.val v0) (S_act6 l)] [] [(0, .is (.tmp 11) (VP.bool (decide (((k : Nat) : Int) < ((l.length : Nat) : Int)))))] [] [0, 1, 2, 3] [] [[]] [[]] rfl rfl follow rfl ⟨
      .inl ⟨wants_plain rfl, does_cmp (m := ((k : Nat) : Int)) (n := ((l.length : Nat) : Int)) _ _ _ _ _ rfl rfl rfl rfl rfl rfl .i64 (ar_tmp (av_fs 2 rfl)) (ar_tmp (av_fs 1 rfl))⟩,
      trivial⟩ ?_
    refine nx_then ?_
    refine t_seq ?_
    refine t_split 4 rfl (fun hb2 => ?_) (fun hb2 => ?_)
    · have hc2 := of_decide_eq_true hb2
      obtain ⟨a, hx⟩ : ∃ a, l[k]? = some a := ⟨_, List.getElem?_eq_getElem (by omega)⟩
      refine t_skip ?_
      refine nx_then ?_
      refine t_seq ?_
      refine t_block ?_
      refine t_seq ?_
      refine t_region (F := ⟨_, _, _, _, _, _⟩) [.is (.tmp 8) (VP.eq v0 true true), .is (.tmp 9) (VP.int .i64 ((l.length : Nat) : Int)), .is (.tmp 10) (VP.int .i64 ((k : Nat) : Int)), .bor (.val v0) (S_act6 l), .is (.tmp 11) (VP.bool (decide (((k : Nat) : Int) < ((l.length : Nat) : Int))))] [] [(0, .pt 12 (.row (.val v0) (k * 8))), (1, .is (.tmp 13) (VP.agg [VP.int .i64 a.what, VP.str a.name, O_int a.args, VP.int .i64 a.res, VP.int .i64 a.term.op, VP.int .i64 a.term.fn, O_int a.term.kids, VP.str a.term.num])), (3, .own 101 (.tmp 4) (B_act6 a))] [(2, 3, .own 101 (.tmp 4) (HA.cells 32 [HA.of (VP.int .i64 0), HA.of (VP.str (ByteArray.mk #[])), HA.of (VP.nilS), HA.of (VP.int .i64 0), HA.of (VP.int .i64 0), HA.of (VP.int .i64 0), HA.of (VP.nilS), HA.of (VP.str (ByteArray.mk #[]))]))] [0, 1, 2, 3, 4] [] [[], [0], [], [0, 1, 2]] [[1, 3], [3], [3], []] rfl rfl follow rfl ⟨
        .inl ⟨wants_plain rfl, does_index (m := k) _ _ Try.underlying22 DagM_size_collatorlaw06_Act rfl rfl rfl rfl rfl _ (by omega) rfl (by omega) (sl_slc (av_fs 3 rfl) (ar_tmp (av_fs 0 rfl))) (ar_tmp (av_fs 2 rfl))⟩,
        .inl ⟨wants_plain rfl, does_loadAgg (ps := [VP.int .i64 a.what, VP.str a.name, O_int a.args, VP.int .i64 a.res, VP.int .i64 a.term.op, VP.int .i64 a.term.fn, O_int a.term.kids, VP.str a.term.num]) _ DagM_agg_collatorlaw06_Act rfl rfl rfl rfl rfl (pt_pt (av_rs 0 0 rfl rfl)) (rds_slc (av_fs 3 rfl) (hq_flatV cActD_len hx (by omega) rfl))⟩,
        .inl ⟨wants_plain rfl, does_alloc (ps := [VP.int .i64 0, VP.str (ByteArray.mk #[]), VP.nilS, VP.int .i64 0, VP.int .i64 0, VP.int .i64 0, VP.nilS, VP.str (ByteArray.mk #[])]) DagM_zero_collatorlaw06_Act rfl rfl rfl rfl rfl rfl (fun _ _ => ⟨rfl, rfl, rfl, rfl, rfl, rfl, rfl, rfl, trivial⟩)⟩,
        .inl ⟨wants_plain rfl, does_store (off := 0) (Qs := [HA.of (VP.int .i64 a.what), HA.of (VP.str a.name), HA.of (O_int a.args), HA.of (VP.int .i64 a.res), HA.of (VP.int .i64 a.term.op), HA.of (VP.int .i64 a.term.fn), HA.of (O_int a.term.kids), HA.of (VP.str a.term.num)]) _ _ DagM_size_collatorlaw06_Act rfl rfl rfl rfl rfl rfl (pt_box (av_ms 0 2 3 rfl rfl rfl)) (av_ms 0 2 3 rfl rfl rfl) (cv_agg (ps := [VP.int .i64 a.what, VP.str a.name, O_int a.args, VP.int .i64 a.res, VP.int .i64 a.term.op, VP.int .i64 a.term.fn, O_int a.term.kids, VP.str a.term.num]) (ar_tmp (av_rs 1 1 rfl rfl)))⟩,
        trivial⟩ ?_
      refine nx_then ?_
      refine t_pick [7, 0, 1, 2, 3, 4, 5, 6] rfl ?_
      refine t_nameP rfl fun c4 => ?_
      refine t_seq ?_
      rcases Bool.eq_false_or_eq_true (decide (((a.name.size : Nat) : Int) > 60)) with hb3 | hb3
      · have hc3 := of_decide_eq_true hb3
        refine t_region (F := ⟨_, _, _, _, _, _⟩) [.own 101 (.val c4) (B_act6 a), .is (.tmp 4) (VP.ptr c4), .is (.tmp 8) (VP.eq v0 true true), .is (.tmp 9) (VP.int .i64 ((l.length : Nat) : Int)), .is (.tmp 10) (VP.int .i64 ((k : Nat) : Int)), .bor (.val v0) (S_act6 l), .is (.tmp 11) (VP.bool (decide (((k : Nat) : Int) < ((l.length : Nat) : Int)))), .pt 12 (.row (.val v0) (k * 8)), .is (.tmp 13) (VP.agg [VP.int .i64 a.what, VP.str a.name, O_int a.args, VP.int .i64 a.res, VP.int .i64 a.term.op, VP.int .i64 a.term.fn, O_int a.term.kids, VP.str a.term.num])] [] [(0, .pt 14 (.blk (.val c4) 1)), (1, .is (.tmp 15) (VP.str a.name)), (2, .is (.tmp 16) (VP.int .i64 ((a.name.size : Nat) : Int))), (3, .is (.tmp 17) (VP.bool (decide (((a.name.size : Nat) : Int) > 60)))), (4, .is (.tmp 18) (VP.bool (decide (((a.name.size : Nat) : Int) > 60)))), (5, .is (.tmp 19) (VP.undef)), (6, .is (.tmp 20) (VP.undef)), (7, .is (.tmp 21) (VP.undef)), (8, .is (.tmp 22) (VP.undef)), (9, .is (.tmp 23) (VP.bool true)), (10, .is (.tmp 24) (VP.bool true)), (11, .is (.tmp 25) (VP.undef)), (12, .is (.tmp 26) (VP.undef)), (13, .is (.tmp 27) (VP.undef)), (14, .is (.tmp 28) (VP.undef)), (15, .is (.tmp 29) (VP.undef)), (16, .is (.tmp 30) (VP.bool true)), (17, .is (.tmp 31) (VP.bool true)), (18, .is (.tmp 32) (VP.undef)), (19, .is (.tmp 33) (VP.undef)), (20, .is (.tmp 34) (VP.undef)), (21, .is (.tmp 35) (VP.undef)), (22, .is (.tmp 36) (VP.undef)), (23, .is (.tmp 37) (VP.bool true))] [] [0, 1, 2, 3, 4, 5, 6, 7, 8] [] [[], [0], [0, 1], [0, 1, 2], [0, 1, 2, 3], [0, 1, 2, 3, 4], [0, 1, 2, 3, 4, 5], [0, 1, 2, 3, 4, 5, 6], [0, 1, 2, 3, 4, 5, 6, 7], [0, 1, 2, 3, 4, 5, 6, 7, 8], [0, 1, 2, 3, 4, 5, 6, 7, 8, 9], [0, 1, 2, 3, 4, 5, 6, 7, 8, 9, 10], [0, 1, 2, 3, 4, 5, 6, 7, 8, 9, 10, 11], [0, 1, 2, 3, 4, 5, 6, 7, 8, 9, 10, 11, 12], [0, 1, 2, 3, 4, 5, 6, 7, 8, 9, 10, 11, 12, 13], [0, 1, 2, 3, 4, 5, 6, 7, 8, 9, 10, 11, 12, 13, 14], [0, 1, 2, 3, 4, 5, 6, 7, 8, 9, 10, 11, 12, 13, 14, 15], [0, 1, 2, 3, 4, 5, 6, 7, 8, 9, 10, 11, 12, 13, 14, 15, 16], [0, 1, 2, 3, 4, 5, 6, 7, 8, 9, 10, 11, 12, 13, 14, 15, 16, 17], [0, 1, 2, 3, 4, 5, 6, 7, 8, 9, 10, 11, 12, 13, 14, 15, 16, 17, 18], [0, 1, 2, 3, 4, 5, 6, 7, 8, 9, 10, 11, 12, 13, 14, 15, 16, 17, 18, 19], [0, 1, 2, 3, 4, 5, 6, 7, 8, 9, 10, 11, 12, 13, 14, 15, 16, 17, 18, 19, 20], [0, 1, 2, 3, 4, 5, 6, 7, 8, 9, 10, 11, 12, 13, 14, 15, 16, 17, 18, 19, 20, 21], [0, 1, 2, 3, 4, 5, 6, 7, 8, 9, 10, 11, 12, 13, 14, 15, 16, 17, 18, 19, 20, 21, 22]] [[1, 2, 3, 4, 5, 6, 7, 8, 9, 10, 11, 12, 13, 14, 15, 16, 17, 18, 19, 20, 21, 22, 23], [2, 3, 4, 5, 6, 7, 8, 9, 10, 11, 12, 13, 14, 15, 16, 17, 18, 19, 20, 21, 22, 23], [3, 4, 5, 6, 7, 8, 9, 10, 11, 12, 13, 14, 15, 16, 17, 18, 19, 20, 21, 22, 23], [4, 5, 6, 7, 8, 9, 10, 11, 12, 13, 14, 15, 16, 17, 18, 19, 20, 21, 22, 23], [5, 6, 7, 8, 9, 10, 11, 12, 13, 14, 15, 16, 17, 18, 19, 20, 21, 22, 23], [6, 7, 8, 9, 10, 11, 12, 13, 14, 15, 16, 17, 18, 19, 20, 21, 22, 23], [7, 8, 9, 10, 11, 12, 13, 14, 15, 16, 17, 18, 19, 20, 21, 22, 23], [8, 9, 10, 11, 12, 13, 14, 15, 16, 17, 18, 19, 20, 21, 22, 23], [9, 10, 11, 12, 13, 14, 15, 16, 17, 18, 19, 20, 21, 22, 23], [10, 11, 12, 13, 14, 15, 16, 17, 18, 19, 20, 21, 22, 23], [11, 12, 13, 14, 15, 16, 17, 18, 19, 20, 21, 22, 23], [12, 13, 14, 15, 16, 17, 18, 19, 20, 21, 22, 23], [13, 14, 15, 16, 17, 18, 19, 20, 21, 22, 23], [14, 15, 16, 17, 18, 19, 20, 21, 22, 23], [15, 16, 17, 18, 19, 20, 21, 22, 23], [16, 17, 18, 19, 20, 21, 22, 23], [17, 18, 19, 20, 21, 22, 23], [18, 19, 20, 21, 22, 23], [19, 20, 21, 22, 23], [20, 21, 22, 23], [21, 22, 23], [22, 23], [23], []] rfl rfl follow rfl ⟨
          .inl ⟨wants_plain rfl, does_field _ _ _ 1 DagM_f_collatorlaw06_Act_1 rfl rfl rfl rfl rfl rfl (pt_ptr (ar_tmp (av_fs 1 rfl)))⟩,
          .inl ⟨wants_plain rfl, does_loadOne _ DagM_one_string rfl rfl rfl rfl rfl (pt_pt (av_rs 0 0 rfl rfl)) (rds_box (off := 1) (av_fs 0 rfl) (hq_one rfl))⟩,
          .inl ⟨wants_plain rfl, does_lenStr _ _ Try.underlying9 rfl rfl rfl rfl rfl (ar_tmp (av_rs 1 1 rfl rfl))⟩,
          .inl ⟨wants_plain rfl, does_cmp (m := ((a.name.size : Nat) : Int)) (n := 60) _ _ _ _ _ rfl rfl rfl rfl rfl rfl .i64 (ar_tmp (av_rs 2 2 rfl rfl)) (ar_const (fun _ _ => rfl))⟩,
          .inl ⟨wants_plain rfl, does_move _ (.inl rfl) rfl rfl rfl rfl (ar_tmp (av_rs 3 3 rfl rfl))⟩,
          .inr (skips_guardU true rfl rfl rfl (av_bool hb3 (av_rs 4 4 rfl rfl)) rfl rfl rfl rfl),
          .inr (skips_guardU true rfl rfl rfl (av_bool hb3 (av_rs 4 4 rfl rfl)) rfl rfl rfl rfl),
          .inr (skips_guardU true rfl rfl rfl (av_bool hb3 (av_rs 4 4 rfl rfl)) rfl rfl rfl rfl),
          .inr (skips_guardU true rfl rfl rfl (av_bool hb3 (av_rs 4 4 rfl rfl)) rfl rfl rfl rfl),
          .inl ⟨wants_plain rfl, does_pick true _ _ _ rfl rfl rfl rfl rfl (ar_tmp (av_bool hb3 (av_rs 4 4 rfl rfl))) (ar_const (fun _ _ => rfl))⟩,
          .inl ⟨wants_plain rfl, does_move _ (.inl rfl) rfl rfl rfl rfl (ar_tmp (av_rs 9 9 rfl rfl))⟩,
          .inr (skips_guardU true rfl rfl rfl (av_rs 10 10 rfl rfl) rfl rfl rfl rfl),
          .inr (skips_guardU true rfl rfl rfl (av_rs 10 10 rfl rfl) rfl rfl rfl rfl),
          .inr (skips_guardU true rfl rfl rfl (av_rs 10 10 rfl rfl) rfl rfl rfl rfl),
          .inr (skips_guardU true rfl rfl rfl (av_rs 10 10 rfl rfl) rfl rfl rfl rfl),
          .inr (skips_guardU true rfl rfl rfl (av_rs 10 10 rfl rfl) rfl rfl rfl rfl),
          .inl ⟨wants_plain rfl, does_pick true _ _ _ rfl rfl rfl rfl rfl (ar_tmp (av_rs 10 10 rfl rfl)) (ar_const (fun _ _ => rfl))⟩,
          .inl ⟨wants_plain rfl, does_move _ (.inl rfl) rfl rfl rfl rfl (ar_tmp (av_rs 16 16 rfl rfl))⟩,
          .inr (skips_guardU true rfl rfl rfl (av_rs 17 17 rfl rfl) rfl rfl rfl rfl),
          .inr (skips_guardU true rfl rfl rfl (av_rs 17 17 rfl rfl) rfl rfl rfl rfl),
          .inr (skips_guardU true rfl rfl rfl (av_rs 17 17 rfl rfl) rfl rfl rfl rfl),
          .inr (skips_guardU true rfl rfl rfl (av_rs 17 17 rfl rfl) rfl rfl rfl rfl),
          .inr (skips_guardU true rfl rfl rfl (av_rs 17 17 rfl rfl) rfl rfl rfl rfl),
          .inl ⟨wants_plain rfl, does_pick true _ _ _ rfl rfl rfl rfl rfl (ar_tmp (av_rs 17 17 rfl rfl)) (ar_const (fun _ _ => rfl))⟩,
          trivial⟩ ?_
        refine nx_then ?_
        refine t_cond_t 32 rfl ?_
        refine t_seq ?_
        refine t_region (F := ⟨_, _, _, _, _, _⟩) [.own 101 (.val c4) (B_act6 a), .is (.tmp 4) (VP.ptr c4), .is (.tmp 8) (VP.eq v0 true true), .is (.tmp 9) (VP.int .i64 ((l.length : Nat) : Int)), .is (.tmp 10) (VP.int .i64 ((k : Nat) : Int)), .bor (.val v0) (S_act6 l), .is (.tmp 11) (VP.bool (decide (((k : Nat) : Int) < ((l.length : Nat) : Int)))), .pt 12 (.row (.val v0) (k * 8)), .is (.tmp 13) (VP.agg [VP.int .i64 a.what, VP.str a.name, O_int a.args, VP.int .i64 a.res, VP.int .i64 a.term.op, VP.int .i64 a.term.fn, O_int a.term.kids, VP.str a.term.num]), .pt 14 (.blk (.val c4) 1), .is (.tmp 15) (VP.str a.name), .is (.tmp 16) (VP.int .i64 ((a.name.size : Nat) : Int)), .is (.tmp 17) (VP.bool (decide (((a.name.size : Nat) : Int) > 60))), .is (.tmp 18) (VP.bool (decide (((a.name.size : Nat) : Int) > 60))), .is (.tmp 19) (VP.undef), .is (.tmp 20) (VP.undef), .is (.tmp 21) (VP.undef), .is (.tmp 22) (VP.undef), .is (.tmp 23) (VP.bool true), .is (.tmp 24) (VP.bool true), .is (.tmp 25) (VP.undef), .is (.tmp 26) (VP.undef), .is (.tmp 27) (VP.undef), .is (.tmp 28) (VP.undef), .is (.tmp 29) (VP.undef), .is (.tmp 30) (VP.bool true), .is (.tmp 31) (VP.bool true), .is (.tmp 32) (VP.undef), .is (.tmp 33) (VP.undef), .is (.tmp 34) (VP.undef), .is (.tmp 35) (VP.undef), .is (.tmp 36) (VP.undef), .is (.tmp 37) (VP.bool true)] [] [(0, .is (.tmp 2) (VP.bool true))] [] [0, 1, 2, 3, 4, 5, 6, 7, 8, 9, 10, 11, 12, 13, 14, 15, 16, 17, 18, 19, 20, 21, 22, 23, 24, 25, 26, 27, 28, 29, 30, 31, 32] [] [[]] [[]] rfl rfl follow rfl ⟨
          .inl ⟨wants_plain rfl, does_move _ (.inr rfl) rfl rfl rfl rfl (ar_const (fun _ _ => rfl))⟩,
          trivial⟩ ?_
        refine nx_then ?_
        refine t_ret ?_
        refine rt_block ?_
        refine rt_then ?_
        refine rt_then ?_
        refine rt_block ?_
        refine rt_then ?_
        exact rt_post [HA.of (VP.bool (greatL l))] [[]] [] [] rfl ⟨(rv_eq (congrArg HA.of (congrArg VP.bool (show true = greatL l from Eq.symm (by unfold greatL; rw [hle, cond_false]; exact any_hit hx (by unfold bigA; (try rw [hb3]); (try rfl)))))) (rv_vp 33 rfl)), trivial⟩ (by decide) rfl rfl
      · have hc3 := of_decide_eq_false hb3
        rcases Bool.eq_false_or_eq_true (decide (((a.args.length : Nat) : Int) > 12)) with hb4 | hb4
        · have hc4 := of_decide_eq_true hb4
          refine t_region (F := ⟨_, _, _, _, _, _⟩) [.own 101 (.val c4) (B_act6 a), .is (.tmp 4) (VP.ptr c4), .is (.tmp 8) (VP.eq v0 true true), .is (.tmp 9) (VP.int .i64 ((l.length : Nat) : Int)), .is (.tmp 10) (VP.int .i64 ((k : Nat) : Int)), .bor (.val v0) (S_act6 l), .is (.tmp 11) (VP.bool (decide (((k : Nat) : Int) < ((l.length : Nat) : Int)))), .pt 12 (.row (.val v0) (k * 8)), .is (.tmp 13) (VP.agg [VP.int .i64 a.what, VP.str a.name, O_int a.args, VP.int .i64 a.res, VP.int .i64 a.term.op, VP.int .i64 a.term.fn, O_int a.term.kids, VP.str a.term.num])] [] [(0, .pt 14 (.blk (.val c4) 1)), (1, .is (.tmp 15) (VP.str a.name)), (2, .is (.tmp 16) (VP.int .i64 ((a.name.size : Nat) : Int))), (3, .is (.tmp 17) (VP.bool (decide (((a.name.size : Nat) : Int) > 60)))), (4, .is (.tmp 18) (VP.bool (decide (((a.name.size : Nat) : Int) > 60)))), (5, .pt 19 (.blk (.val c4) 2)), (6, .is (.tmp 20) (O_int a.args)), (7, .is (.tmp 21) (VP.int .i64 ((a.args.length : Nat) : Int))), (8, .is (.tmp 22) (VP.bool (decide (((a.args.length : Nat) : Int) > 12)))), (9, .is (.tmp 23) (VP.bool (decide (((a.args.length : Nat) : Int) > 12)))), (10, .is (.tmp 24) (VP.bool (decide (((a.args.length : Nat) : Int) > 12)))), (11, .is (.tmp 25) (VP.undef)), (12, .is (.tmp 26) (VP.undef)), (13, .is (.tmp 27) (VP.undef)), (14, .is (.tmp 28) (VP.undef)), (15, .is (.tmp 29) (VP.undef)), (16, .is (.tmp 30) (VP.bool true)), (17, .is (.tmp 31) (VP.bool true)), (18, .is (.tmp 32) (VP.undef)), (19, .is (.tmp 33) (VP.undef)), (20, .is (.tmp 34) (VP.undef)), (21, .is (.tmp 35) (VP.undef)), (22, .is (.tmp 36) (VP.undef)), (23, .is (.tmp 37) (VP.bool true))] [] [0, 1, 2, 3, 4, 5, 6, 7, 8] [] [[], [0], [0, 1], [0, 1, 2], [0, 1, 2, 3], [0, 1, 2, 3, 4], [0, 1, 2, 3, 4, 5], [0, 1, 2, 3, 4, 5, 6], [0, 1, 2, 3, 4, 5, 6, 7], [0, 1, 2, 3, 4, 5, 6, 7, 8], [0, 1, 2, 3, 4, 5, 6, 7, 8, 9], [0, 1, 2, 3, 4, 5, 6, 7, 8, 9, 10], [0, 1, 2, 3, 4, 5, 6, 7, 8, 9, 10, 11], [0, 1, 2, 3, 4, 5, 6, 7, 8, 9, 10, 11, 12], [0, 1, 2, 3, 4, 5, 6, 7, 8, 9, 10, 11, 12, 13], [0, 1, 2, 3, 4, 5, 6, 7, 8, 9, 10, 11, 12, 13, 14], [0, 1, 2, 3, 4, 5, 6, 7, 8, 9, 10, 11, 12, 13, 14, 15], [0, 1, 2, 3, 4, 5, 6, 7, 8, 9, 10, 11, 12, 13, 14, 15, 16], [0, 1, 2, 3, 4, 5, 6, 7, 8, 9, 10, 11, 12, 13, 14, 15, 16, 17], [0, 1, 2, 3, 4, 5, 6, 7, 8, 9, 10, 11, 12, 13, 14, 15, 16, 17, 18], [0, 1, 2, 3, 4, 5, 6, 7, 8, 9, 10, 11, 12, 13, 14, 15, 16, 17, 18, 19], [0, 1, 2, 3, 4, 5, 6, 7, 8, 9, 10, 11, 12, 13, 14, 15, 16, 17, 18, 19, 20], [0, 1, 2, 3, 4, 5, 6, 7, 8, 9, 10, 11, 12, 13, 14, 15, 16, 17, 18, 19, 20, 21], [0, 1, 2, 3, 4, 5, 6, 7, 8, 9, 10, 11, 12, 13, 14, 15, 16, 17, 18, 19, 20, 21, 22]] [[1, 2, 3, 4, 5, 6, 7, 8, 9, 10, 11, 12, 13, 14, 15, 16, 17, 18, 19, 20, 21, 22, 23], [2, 3, 4, 5, 6, 7, 8, 9, 10, 11, 12, 13, 14, 15, 16, 17, 18, 19, 20, 21, 22, 23], [3, 4, 5, 6, 7, 8, 9, 10, 11, 12, 13, 14, 15, 16, 17, 18, 19, 20, 21, 22, 23], [4, 5, 6, 7, 8, 9, 10, 11, 12, 13, 14, 15, 16, 17, 18, 19, 20, 21, 22, 23], [5, 6, 7, 8, 9, 10, 11, 12, 13, 14, 15, 16, 17, 18, 19, 20, 21, 22, 23], [6, 7, 8, 9, 10, 11, 12, 13, 14, 15, 16, 17, 18, 19, 20, 21, 22, 23], [7, 8, 9, 10, 11, 12, 13, 14, 15, 16, 17, 18, 19, 20, 21, 22, 23], [8, 9, 10, 11, 12, 13, 14, 15, 16, 17, 18, 19, 20, 21, 22, 23], [9, 10, 11, 12, 13, 14, 15, 16, 17, 18, 19, 20, 21, 22, 23], [10, 11, 12, 13, 14, 15, 16, 17, 18, 19, 20, 21, 22, 23], [11, 12, 13, 14, 15, 16, 17, 18, 19, 20, 21, 22, 23], [12, 13, 14, 15, 16, 17, 18, 19, 20, 21, 22, 23], [13, 14, 15, 16, 17, 18, 19, 20, 21, 22, 23], [14, 15, 16, 17, 18, 19, 20, 21, 22, 23], [15, 16, 17, 18, 19, 20, 21, 22, 23], [16, 17, 18, 19, 20, 21, 22, 23], [17, 18, 19, 20, 21, 22, 23], [18, 19, 20, 21, 22, 23], [19, 20, 21, 22, 23], [20, 21, 22, 23], [21, 22, 23], [22, 23], [23], []] rfl rfl follow rfl ⟨
            .inl ⟨wants_plain rfl, does_field _ _ _ 1 DagM_f_collatorlaw06_Act_1 rfl rfl rfl rfl rfl rfl (pt_ptr (ar_tmp (av_fs 1 rfl)))⟩,
            .inl ⟨wants_plain rfl, does_loadOne _ DagM_one_string rfl rfl rfl rfl rfl (pt_pt (av_rs 0 0 rfl rfl)) (rds_box (off := 1) (av_fs 0 rfl) (hq_one rfl))⟩,
            .inl ⟨wants_plain rfl, does_lenStr _ _ Try.underlying9 rfl rfl rfl rfl rfl (ar_tmp (av_rs 1 1 rfl rfl))⟩,
            .inl ⟨wants_plain rfl, does_cmp (m := ((a.name.size : Nat) : Int)) (n := 60) _ _ _ _ _ rfl rfl rfl rfl rfl rfl .i64 (ar_tmp (av_rs 2 2 rfl rfl)) (ar_const (fun _ _ => rfl))⟩,
            .inl ⟨wants_plain rfl, does_move _ (.inl rfl) rfl rfl rfl rfl (ar_tmp (av_rs 3 3 rfl rfl))⟩,
            .inl ⟨wants_guard false rfl rfl rfl (av_bool hb3 (av_rs 4 4 rfl rfl)), does_field _ _ _ 2 DagM_f_collatorlaw06_Act_2 rfl rfl rfl rfl rfl rfl (pt_ptr (ar_tmp (av_fs 1 rfl)))⟩,
            .inl ⟨wants_guard false rfl rfl rfl (av_bool hb3 (av_rs 4 4 rfl rfl)), does_loadOne _ DagM_one___int rfl rfl rfl rfl rfl (pt_pt (av_rs 5 5 rfl rfl)) (rds_box (off := 2) (av_fs 0 rfl) (hq_one rfl))⟩,
            .inl ⟨wants_guard false rfl rfl rfl (av_bool hb3 (av_rs 4 4 rfl rfl)), does_len _ _ (by kernel_rfl) rfl rfl rfl rfl rfl (sl_ro (av_rs 6 6 rfl rfl) (flat_nil_iff cInt_len (by decide) _))⟩,
            .inl ⟨wants_guard false rfl rfl rfl (av_bool hb3 (av_rs 4 4 rfl rfl)), does_cmp (m := ((a.args.length : Nat) : Int)) (n := 12) _ _ _ _ _ rfl rfl rfl rfl rfl rfl .i64 (ar_tmp (av_rs 7 7 rfl rfl)) (ar_const (fun _ _ => rfl))⟩,
            .inl ⟨wants_plain rfl, does_pick false _ _ _ rfl rfl rfl rfl rfl (ar_tmp (av_bool hb3 (av_rs 4 4 rfl rfl))) (ar_tmp (av_rs 8 8 rfl rfl))⟩,
            .inl ⟨wants_plain rfl, does_move _ (.inl rfl) rfl rfl rfl rfl (ar_tmp (av_rs 9 9 rfl rfl))⟩,
            .inr (skips_guardU true rfl rfl rfl (av_bool hb4 (av_rs 10 10 rfl rfl)) rfl rfl rfl rfl),
            .inr (skips_guardU true rfl rfl rfl (av_bool hb4 (av_rs 10 10 rfl rfl)) rfl rfl rfl rfl),
            .inr (skips_guardU true rfl rfl rfl (av_bool hb4 (av_rs 10 10 rfl rfl)) rfl rfl rfl rfl),
            .inr (skips_guardU true rfl rfl rfl (av_bool hb4 (av_rs 10 10 rfl rfl)) rfl rfl rfl rfl),
            .inr (skips_guardU true rfl rfl rfl (av_bool hb4 (av_rs 10 10 rfl rfl)) rfl rfl rfl rfl),
            .inl ⟨wants_plain rfl, does_pick true _ _ _ rfl rfl rfl rfl rfl (ar_tmp (av_bool hb4 (av_rs 10 10 rfl rfl))) (ar_const (fun _ _ => rfl))⟩,
            .inl ⟨wants_plain rfl, does_move _ (.inl rfl) rfl rfl rfl rfl (ar_tmp (av_rs 16 16 rfl rfl))⟩,
            .inr (skips_guardU true rfl rfl rfl (av_rs 17 17 rfl rfl) rfl rfl rfl rfl),
            .inr (skips_guardU true rfl rfl rfl (av_rs 17 17 rfl rfl) rfl rfl rfl rfl),
            .inr (skips_guardU true rfl rfl rfl (av_rs 17 17 rfl rfl) rfl rfl rfl rfl),
            .inr (skips_guardU true rfl rfl rfl (av_rs 17 17 rfl rfl) rfl rfl rfl rfl),
            .inr (skips_guardU true rfl rfl rfl (av_rs 17 17 rfl rfl) rfl rfl rfl rfl),
            .inl ⟨wants_plain rfl, does_pick true _ _ _ rfl rfl rfl rfl rfl (ar_tmp (av_rs 17 17 rfl rfl)) (ar_const (fun _ _ => rfl))⟩,
            trivial⟩ ?_
          refine nx_then ?_
          refine t_cond_t 32 rfl ?_
          refine t_seq ?_
          refine t_region (F := ⟨_, _, _, _, _, _⟩) [.own 101 (.val c4) (B_act6 a), .is (.tmp 4) (VP.ptr c4), .is (.tmp 8) (VP.eq v0 true true), .is (.tmp 9) (VP.int .i64 ((l.length : Nat) : Int)), .is (.tmp 10) (VP.int .i64 ((k : Nat) : Int)), .bor (.val v0) (S_act6 l), .is (.tmp 11) (VP.bool (decide (((k : Nat) : Int) < ((l.length : Nat) : Int)))), .pt 12 (.row (.val v0) (k * 8)), .is (.tmp 13) (VP.agg [VP.int .i64 a.what, VP.str a.name, O_int a.args, VP.int .i64 a.res, VP.int .i64 a.term.op, VP.int .i64 a.term.fn, O_int a.term.kids, VP.str a.term.num]), .pt 14 (.blk (.val c4) 1), .is (.tmp 15) (VP.str a.name), .is (.tmp 16) (VP.int .i64 ((a.name.size : Nat) : Int)), .is (.tmp 17) (VP.bool (decide (((a.name.size : Nat) : Int) > 60))), .is (.tmp 18) (VP.bool (decide (((a.name.size : Nat) : Int) > 60))), .pt 19 (.blk (.val c4) 2), .is (.tmp 20) (O_int a.args), .is (.tmp 21) (VP.int .i64 ((a.args.length : Nat) : Int)), .is (.tmp 22) (VP.bool (decide (((a.args.length : Nat) : Int) > 12))), .is (.tmp 23) (VP.bool (decide (((a.args.length : Nat) : Int) > 12))), .is (.tmp 24) (VP.bool (decide (((a.args.length : Nat) : Int) > 12))), .is (.tmp 25) (VP.undef), .is (.tmp 26) (VP.undef), .is (.tmp 27) (VP.undef), .is (.tmp 28) (VP.undef), .is (.tmp 29) (VP.undef), .is (.tmp 30) (VP.bool true), .is (.tmp 31) (VP.bool true), .is (.tmp 32) (VP.undef), .is (.tmp 33) (VP.undef), .is (.tmp 34) (VP.undef), .is (.tmp 35) (VP.undef), .is (.tmp 36) (VP.undef), .is (.tmp 37) (VP.bool true)] [] [(0, .is (.tmp 2) (VP.bool true))] [] [0, 1, 2, 3, 4, 5, 6, 7, 8, 9, 10, 11, 12, 13, 14, 15, 16, 17, 18, 19, 20, 21, 22, 23, 24, 25, 26, 27, 28, 29, 30, 31, 32] [] [[]] [[]] rfl rfl follow rfl ⟨
            .inl ⟨wants_plain rfl, does_move _ (.inr rfl) rfl rfl rfl rfl (ar_const (fun _ _ => rfl))⟩,
            trivial⟩ ?_
          refine nx_then ?_
          refine t_ret ?_
          refine rt_block ?_
          refine rt_then ?_
          refine rt_then ?_
          refine rt_block ?_
          refine rt_then ?_
          exact rt_post [HA.of (VP.bool (greatL l))] [[]] [] [] rfl ⟨(rv_eq (congrArg HA.of (congrArg VP.bool (show true = greatL l from Eq.symm (by unfold greatL; rw [hle, cond_false]; exact any_hit hx (by unfold bigA; (try rw [hb3]); (try rw [hb4]); (try rfl)))))) (rv_vp 33 rfl)), trivial⟩ (by decide) rfl rfl
        · have hc4 := of_decide_eq_false hb4
          rcases Bool.eq_false_or_eq_true (decide (((a.term.kids.length : Nat) : Int) > 12)) with hb5 | hb5
          · have hc5 := of_decide_eq_true hb5
            refine t_region (F := ⟨_, _, _, _, _, _⟩) [.own 101 (.val c4) (B_act6 a), .is (.tmp 4) (VP.ptr c4), .is (.tmp 8) (VP.eq v0 true true), .is (.tmp 9) (VP.int .i64 ((l.length : Nat) : Int)), .is (.tmp 10) (VP.int .i64 ((k : Nat) : Int)), .bor (.val v0) (S_act6 l), .is (.tmp 11) (VP.bool (decide (((k : Nat) : Int) < ((l.length : Nat) : Int)))), .pt 12 (.row (.val v0) (k * 8)), .is (.tmp 13) (VP.agg [VP.int .i64 a.what, VP.str a.name, O_int a.args, VP.int .i64 a.res, VP.int .i64 a.term.op, VP.int .i64 a.term.fn, O_int a.term.kids, VP.str a.term.num])] [] [(0, .pt 14 (.blk (.val c4) 1)), (1, .is (.tmp 15) (VP.str a.name)), (2, .is (.tmp 16) (VP.int .i64 ((a.name.size : Nat) : Int))), (3, .is (.tmp 17) (VP.bool (decide (((a.name.size : Nat) : Int) > 60)))), (4, .is (.tmp 18) (VP.bool (decide (((a.name.size : Nat) : Int) > 60)))), (5, .pt 19 (.blk (.val c4) 2)), (6, .is (.tmp 20) (O_int a.args)), (7, .is (.tmp 21) (VP.int .i64 ((a.args.length : Nat) : Int))), (8, .is (.tmp 22) (VP.bool (decide (((a.args.length : Nat) : Int) > 12)))), (9, .is (.tmp 23) (VP.bool (decide (((a.args.length : Nat) : Int) > 12)))), (10, .is (.tmp 24) (VP.bool (decide (((a.args.length : Nat) : Int) > 12)))), (11, .pt 25 (.blk (.val c4) 4)), (12, .pt 26 (.blk (.val c4) 6)), (13, .is (.tmp 27) (O_int a.term.kids)), (14, .is (.tmp 28) (VP.int .i64 ((a.term.kids.length : Nat) : Int))), (15, .is (.tmp 29) (VP.bool (decide (((a.term.kids.length : Nat) : Int) > 12)))), (16, .is (.tmp 30) (VP.bool (decide (((a.term.kids.length : Nat) : Int) > 12)))), (17, .is (.tmp 31) (VP.bool (decide (((a.term.kids.length : Nat) : Int) > 12)))), (18, .is (.tmp 32) (VP.undef)), (19, .is (.tmp 33) (VP.undef)), (20, .is (.tmp 34) (VP.undef)), (21, .is (.tmp 35) (VP.undef)), (22, .is (.tmp 36) (VP.undef)), (23, .is (.tmp 37) (VP.bool true))] [] [0, 1, 2, 3, 4, 5, 6, 7, 8] [] [[], [0], [0, 1], [0, 1, 2], [0, 1, 2, 3], [0, 1, 2, 3, 4], [0, 1, 2, 3, 4, 5], [0, 1, 2, 3, 4, 5, 6], [0, 1, 2, 3, 4, 5, 6, 7], [0, 1, 2, 3, 4, 5, 6, 7, 8], [0, 1, 2, 3, 4, 5, 6, 7, 8, 9], [0, 1, 2, 3, 4, 5, 6, 7, 8, 9, 10], [0, 1, 2, 3, 4, 5, 6, 7, 8, 9, 10, 11], [0, 1, 2, 3, 4, 5, 6, 7, 8, 9, 10, 11, 12], [0, 1, 2, 3, 4, 5, 6, 7, 8, 9, 10, 11, 12, 13], [0, 1, 2, 3, 4, 5, 6, 7, 8, 9, 10, 11, 12, 13, 14], [0, 1, 2, 3, 4, 5, 6, 7, 8, 9, 10, 11, 12, 13, 14, 15], [0, 1, 2, 3, 4, 5, 6, 7, 8, 9, 10, 11, 12, 13, 14, 15, 16], [0, 1, 2, 3, 4, 5, 6, 7, 8, 9, 10, 11, 12, 13, 14, 15, 16, 17], [0, 1, 2, 3, 4, 5, 6, 7, 8, 9, 10, 11, 12, 13, 14, 15, 16, 17, 18], [0, 1, 2, 3, 4, 5, 6, 7, 8, 9, 10, 11, 12, 13, 14, 15, 16, 17, 18, 19], [0, 1, 2, 3, 4, 5, 6, 7, 8, 9, 10, 11, 12, 13, 14, 15, 16, 17, 18, 19, 20], [0, 1, 2, 3, 4, 5, 6, 7, 8, 9, 10, 11, 12, 13, 14, 15, 16, 17, 18, 19, 20, 21], [0, 1, 2, 3, 4, 5, 6, 7, 8, 9, 10, 11, 12, 13, 14, 15, 16, 17, 18, 19, 20, 21, 22]] [[1, 2, 3, 4, 5, 6, 7, 8, 9, 10, 11, 12, 13, 14, 15, 16, 17, 18, 19, 20, 21, 22, 23], [2, 3, 4, 5, 6, 7, 8, 9, 10, 11, 12, 13, 14, 15, 16, 17, 18, 19, 20, 21, 22, 23], [3, 4, 5, 6, 7, 8, 9, 10, 11, 12, 13, 14, 15, 16, 17, 18, 19, 20, 21, 22, 23], [4, 5, 6, 7, 8, 9, 10, 11, 12, 13, 14, 15, 16, 17, 18, 19, 20, 21, 22, 23], [5, 6, 7, 8, 9, 10, 11, 12, 13, 14, 15, 16, 17, 18, 19, 20, 21, 22, 23], [6, 7, 8, 9, 10, 11, 12, 13, 14, 15, 16, 17, 18, 19, 20, 21, 22, 23], [7, 8, 9, 10, 11, 12, 13, 14, 15, 16, 17, 18, 19, 20, 21, 22, 23], [8, 9, 10, 11, 12, 13, 14, 15, 16, 17, 18, 19, 20, 21, 22, 23], [9, 10, 11, 12, 13, 14, 15, 16, 17, 18, 19, 20, 21, 22, 23], [10, 11, 12, 13, 14, 15, 16, 17, 18, 19, 20, 21, 22, 23], [11, 12, 13, 14, 15, 16, 17, 18, 19, 20, 21, 22, 23], [12, 13, 14, 15, 16, 17, 18, 19, 20, 21, 22, 23], [13, 14, 15, 16, 17, 18, 19, 20, 21, 22, 23], [14, 15, 16, 17, 18, 19, 20, 21, 22, 23], [15, 16, 17, 18, 19, 20, 21, 22, 23], [16, 17, 18, 19, 20, 21, 22, 23], [17, 18, 19, 20, 21, 22, 23], [18, 19, 20, 21, 22, 23], [19, 20, 21, 22, 23], [20, 21, 22, 23], [21, 22, 23], [22, 23], [23], []] rfl rfl follow rfl ⟨
              .inl ⟨wants_plain rfl, does_field _ _ _ 1 DagM_f_collatorlaw06_Act_1 rfl rfl rfl rfl rfl rfl (pt_ptr (ar_tmp (av_fs 1 rfl)))⟩,
              .inl ⟨wants_plain rfl, does_loadOne _ DagM_one_string rfl rfl rfl rfl rfl (pt_pt (av_rs 0 0 rfl rfl)) (rds_box (off := 1) (av_fs 0 rfl) (hq_one rfl))⟩,
              .inl ⟨wants_plain rfl, does_lenStr _ _ Try.underlying9 rfl rfl rfl rfl rfl (ar_tmp (av_rs 1 1 rfl rfl))⟩,
              .inl ⟨wants_plain rfl, does_cmp (m := ((a.name.size : Nat) : Int)) (n := 60) _ _ _ _ _ rfl rfl rfl rfl rfl rfl .i64 (ar_tmp (av_rs 2 2 rfl rfl)) (ar_const (fun _ _ => rfl))⟩,
              .inl ⟨wants_plain rfl, does_move _ (.inl rfl) rfl rfl rfl rfl (ar_tmp (av_rs 3 3 rfl rfl))⟩,
              .inl ⟨wants_guard false rfl rfl rfl (av_bool hb3 (av_rs 4 4 rfl rfl)), does_field _ _ _ 2 DagM_f_collatorlaw06_Act_2 rfl rfl rfl rfl rfl rfl (pt_ptr (ar_tmp (av_fs 1 rfl)))⟩,
              .inl ⟨wants_guard false rfl rfl rfl (av_bool hb3 (av_rs 4 4 rfl rfl)), does_loadOne _ DagM_one___int rfl rfl rfl rfl rfl (pt_pt (av_rs 5 5 rfl rfl)) (rds_box (off := 2) (av_fs 0 rfl) (hq_one rfl))⟩,
              .inl ⟨wants_guard false rfl rfl rfl (av_bool hb3 (av_rs 4 4 rfl rfl)), does_len _ _ (by kernel_rfl) rfl rfl rfl rfl rfl (sl_ro (av_rs 6 6 rfl rfl) (flat_nil_iff cInt_len (by decide) _))⟩,
              .inl ⟨wants_guard false rfl rfl rfl (av_bool hb3 (av_rs 4 4 rfl rfl)), does_cmp (m := ((a.args.length : Nat) : Int)) (n := 12) _ _ _ _ _ rfl rfl rfl rfl rfl rfl .i64 (ar_tmp (av_rs 7 7 rfl rfl)) (ar_const (fun _ _ => rfl))⟩,
              .inl ⟨wants_plain rfl, does_pick false _ _ _ rfl rfl rfl rfl rfl (ar_tmp (av_bool hb3 (av_rs 4 4 rfl rfl))) (ar_tmp (av_rs 8 8 rfl rfl))⟩,
              .inl ⟨wants_plain rfl, does_move _ (.inl rfl) rfl rfl rfl rfl (ar_tmp (av_rs 9 9 rfl rfl))⟩,
              .inl ⟨wants_guard false rfl rfl rfl (av_bool hb4 (av_rs 10 10 rfl rfl)), does_field _ _ _ 4 DagM_f_collatorlaw06_Act_4 rfl rfl rfl rfl rfl rfl (pt_ptr (ar_tmp (av_fs 1 rfl)))⟩,
              .inl ⟨wants_guard false rfl rfl rfl (av_bool hb4 (av_rs 10 10 rfl rfl)), does_field _ _ _ 2 DagM_f_api_Term_2 rfl rfl rfl rfl rfl rfl (pt_pt (av_rs 11 11 rfl rfl))⟩,
              .inl ⟨wants_guard false rfl rfl rfl (av_bool hb4 (av_rs 10 10 rfl rfl)), does_loadOne _ DagM_one___int rfl rfl rfl rfl rfl (pt_pt (av_rs 12 12 rfl rfl)) (rds_box (off := 6) (av_fs 0 rfl) (hq_one rfl))⟩,
              .inl ⟨wants_guard false rfl rfl rfl (av_bool hb4 (av_rs 10 10 rfl rfl)), does_len _ _ (by kernel_rfl) rfl rfl rfl rfl rfl (sl_ro (av_rs 13 13 rfl rfl) (flat_nil_iff cInt_len (by decide) _))⟩,
              .inl ⟨wants_guard false rfl rfl rfl (av_bool hb4 (av_rs 10 10 rfl rfl)), does_cmp (m := ((a.term.kids.length : Nat) : Int)) (n := 12) _ _ _ _ _ rfl rfl rfl rfl rfl rfl .i64 (ar_tmp (av_rs 14 14 rfl rfl)) (ar_const (fun _ _ => rfl))⟩,
              .inl ⟨wants_plain rfl, does_pick false _ _ _ rfl rfl rfl rfl rfl (ar_tmp (av_bool hb4 (av_rs 10 10 rfl rfl))) (ar_tmp (av_rs 15 15 rfl rfl))⟩,
              .inl ⟨wants_plain rfl, does_move _ (.inl rfl) rfl rfl rfl rfl (ar_tmp (av_rs 16 16 rfl rfl))⟩,
              .inr (skips_guardU true rfl rfl rfl (av_bool hb5 (av_rs 17 17 rfl rfl)) rfl rfl rfl rfl),
              .inr (skips_guardU true rfl rfl rfl (av_bool hb5 (av_rs 17 17 rfl rfl)) rfl rfl rfl rfl),
              .inr (skips_guardU true rfl rfl rfl (av_bool hb5 (av_rs 17 17 rfl rfl)) rfl rfl rfl rfl),
              .inr (skips_guardU true rfl rfl rfl (av_bool hb5 (av_rs 17 17 rfl rfl)) rfl rfl rfl rfl),
              .inr (skips_guardU true rfl rfl rfl (av_bool hb5 (av_rs 17 17 rfl rfl)) rfl rfl rfl rfl),
              .inl ⟨wants_plain rfl, does_pick true _ _ _ rfl rfl rfl rfl rfl (ar_tmp (av_bool hb5 (av_rs 17 17 rfl rfl))) (ar_const (fun _ _ => rfl))⟩,
              trivial⟩ ?_
            refine nx_then ?_
            refine t_cond_t 32 rfl ?_
            refine t_seq ?_
            refine t_region (F := ⟨_, _, _, _, _, _⟩) [.own 101 (.val c4) (B_act6 a), .is (.tmp 4) (VP.ptr c4), .is (.tmp 8) (VP.eq v0 true true), .is (.tmp 9) (VP.int .i64 ((l.length : Nat) : Int)), .is (.tmp 10) (VP.int .i64 ((k : Nat) : Int)), .bor (.val v0) (S_act6 l), .is (.tmp 11) (VP.bool (decide (((k : Nat) : Int) < ((l.length : Nat) : Int)))), .pt 12 (.row (.val v0) (k * 8)), .is (.tmp 13) (VP.agg [VP.int .i64 a.what, VP.str a.name, O_int a.args, VP.int .i64 a.res, VP.int .i64 a.term.op, VP.int .i64 a.term.fn, O_int a.term.kids, VP.str a.term.num]), .pt 14 (.blk (.val c4) 1), .is (.tmp 15) (VP.str a.name), .is (.tmp 16) (VP.int .i64 ((a.name.size : Nat) : Int)), .is (.tmp 17) (VP.bool (decide (((a.name.size : Nat) : Int) > 60))), .is (.tmp 18) (VP.bool (decide (((a.name.size : Nat) : Int) > 60))), .pt 19 (.blk (.val c4) 2), .is (.tmp 20) (O_int a.args), .is (.tmp 21) (VP.int .i64 ((a.args.length : Nat) : Int)), .is (.tmp 22) (VP.bool (decide (((a.args.length : Nat) : Int) > 12))), .is (.tmp 23) (VP.bool (decide (((a.args.length : Nat) : Int) > 12))), .is (.tmp 24) (VP.bool (decide (((a.args.length : Nat) : Int) > 12))), .pt 25 (.blk (.val c4) 4), .pt 26 (.blk (.val c4) 6), .is (.tmp 27) (O_int a.term.kids), .is (.tmp 28) (VP.int .i64 ((a.term.kids.length : Nat) : Int)), .is (.tmp 29) (VP.bool (decide (((a.term.kids.length : Nat) : Int) > 12))), .is (.tmp 30) (VP.bool (decide (((a.term.kids.length : Nat) : Int) > 12))), .is (.tmp 31) (VP.bool (decide (((a.term.kids.length : Nat) : Int) > 12))), .is (.tmp 32) (VP.undef), .is (.tmp 33) (VP.undef), .is (.tmp 34) (VP.undef), .is (.tmp 35) (VP.undef), .is (.tmp 36) (VP.undef), .is (.tmp 37) (VP.bool true)] [] [(0, .is (.tmp 2) (VP.bool true))] [] [0, 1, 2, 3, 4, 5, 6, 7, 8, 9, 10, 11, 12, 13, 14, 15, 16, 17, 18, 19, 20, 21, 22, 23, 24, 25, 26, 27, 28, 29, 30, 31, 32] [] [[]] [[]] rfl rfl follow rfl ⟨
              .inl ⟨wants_plain rfl, does_move _ (.inr rfl) rfl rfl rfl rfl (ar_const (fun _ _ => rfl))⟩,
              trivial⟩ ?_
            refine nx_then ?_
            refine t_ret ?_
            refine rt_block ?_
            refine rt_then ?_
            refine rt_then ?_
            refine rt_block ?_
            refine rt_then ?_
            exact rt_post [HA.of (VP.bool (greatL l))] [[]] [] [] rfl ⟨(rv_eq (congrArg HA.of (congrArg VP.bool (show true = greatL l from Eq.symm (by unfold greatL; rw [hle, cond_false]; exact any_hit hx (by unfold bigA; (try rw [hb3]); (try rw [hb4]); (try rw [hb5]); (try rfl)))))) (rv_vp 33 rfl)), trivial⟩ (by decide) rfl rfl
          · have hc5 := of_decide_eq_false hb5
            refine t_region (F := ⟨_, _, _, _, _, _⟩) [.own 101 (.val c4) (B_act6 a), .is (.tmp 4) (VP.ptr c4), .is (.tmp 8) (VP.eq v0 true true), .is (.tmp 9) (VP.int .i64 ((l.length : Nat) : Int)), .is (.tmp 10) (VP.int .i64 ((k : Nat) : Int)), .bor (.val v0) (S_act6 l), .is (.tmp 11) (VP.bool (decide (((k : Nat) : Int) < ((l.length : Nat) : Int)))), .pt 12 (.row (.val v0) (k * 8)), .is (.tmp 13) (VP.agg [VP.int .i64 a.what, VP.str a.name, O_int a.args, VP.int .i64 a.res, VP.int .i64 a.term.op, VP.int .i64 a.term.fn, O_int a.term.kids, VP.str a.term.num])] [] [(0, .pt 14 (.blk (.val c4) 1)), (1, .is (.tmp 15) (VP.str a.name)), (2, .is (.tmp 16) (VP.int .i64 ((a.name.size : Nat) : Int))), (3, .is (.tmp 17) (VP.bool (decide (((a.name.size : Nat) : Int) > 60)))), (4, .is (.tmp 18) (VP.bool (decide (((a.name.size : Nat) : Int) > 60)))), (5, .pt 19 (.blk (.val c4) 2)), (6, .is (.tmp 20) (O_int a.args)), (7, .is (.tmp 21) (VP.int .i64 ((a.args.length : Nat) : Int))), (8, .is (.tmp 22) (VP.bool (decide (((a.args.length : Nat) : Int) > 12)))), (9, .is (.tmp 23) (VP.bool (decide (((a.args.length : Nat) : Int) > 12)))), (10, .is (.tmp 24) (VP.bool (decide (((a.args.length : Nat) : Int) > 12)))), (11, .pt 25 (.blk (.val c4) 4)), (12, .pt 26 (.blk (.val c4) 6)), (13, .is (.tmp 27) (O_int a.term.kids)), (14, .is (.tmp 28) (VP.int .i64 ((a.term.kids.length : Nat) : Int))), (15, .is (.tmp 29) (VP.bool (decide (((a.term.kids.length : Nat) : Int) > 12)))), (16, .is (.tmp 30) (VP.bool (decide (((a.term.kids.length : Nat) : Int) > 12)))), (17, .is (.tmp 31) (VP.bool (decide (((a.term.kids.length : Nat) : Int) > 12)))), (18, .pt 32 (.blk (.val c4) 4)), (19, .pt 33 (.blk (.val c4) 7)), (20, .is (.tmp 34) (VP.str a.term.num)), (21, .is (.tmp 35) (VP.int .i64 ((a.term.num.size : Nat) : Int))), (22, .is (.tmp 36) (VP.bool (decide (((a.term.num.size : Nat) : Int) > 60)))), (23, .is (.tmp 37) (VP.bool (decide (((a.term.num.size : Nat) : Int) > 60))))] [] [0, 1, 2, 3, 4, 5, 6, 7, 8] [] [[], [0], [0, 1], [0, 1, 2], [0, 1, 2, 3], [0, 1, 2, 3, 4], [0, 1, 2, 3, 4, 5], [0, 1, 2, 3, 4, 5, 6], [0, 1, 2, 3, 4, 5, 6, 7], [0, 1, 2, 3, 4, 5, 6, 7, 8], [0, 1, 2, 3, 4, 5, 6, 7, 8, 9], [0, 1, 2, 3, 4, 5, 6, 7, 8, 9, 10], [0, 1, 2, 3, 4, 5, 6, 7, 8, 9, 10, 11], [0, 1, 2, 3, 4, 5, 6, 7, 8, 9, 10, 11, 12], [0, 1, 2, 3, 4, 5, 6, 7, 8, 9, 10, 11, 12, 13], [0, 1, 2, 3, 4, 5, 6, 7, 8, 9, 10, 11, 12, 13, 14], [0, 1, 2, 3, 4, 5, 6, 7, 8, 9, 10, 11, 12, 13, 14, 15], [0, 1, 2, 3, 4, 5, 6, 7, 8, 9, 10, 11, 12, 13, 14, 15, 16], [0, 1, 2, 3, 4, 5, 6, 7, 8, 9, 10, 11, 12, 13, 14, 15, 16, 17], [0, 1, 2, 3, 4, 5, 6, 7, 8, 9, 10, 11, 12, 13, 14, 15, 16, 17, 18], [0, 1, 2, 3, 4, 5, 6, 7, 8, 9, 10, 11, 12, 13, 14, 15, 16, 17, 18, 19], [0, 1, 2, 3, 4, 5, 6, 7, 8, 9, 10, 11, 12, 13, 14, 15, 16, 17, 18, 19, 20], [0, 1, 2, 3, 4, 5, 6, 7, 8, 9, 10, 11, 12, 13, 14, 15, 16, 17, 18, 19, 20, 21], [0, 1, 2, 3, 4, 5, 6, 7, 8, 9, 10, 11, 12, 13, 14, 15, 16, 17, 18, 19, 20, 21, 22]] [[1, 2, 3, 4, 5, 6, 7, 8, 9, 10, 11, 12, 13, 14, 15, 16, 17, 18, 19, 20, 21, 22, 23], [2, 3, 4, 5, 6, 7, 8, 9, 10, 11, 12, 13, 14, 15, 16, 17, 18, 19, 20, 21, 22, 23], [3, 4, 5, 6, 7, 8, 9, 10, 11, 12, 13, 14, 15, 16, 17, 18, 19, 20, 21, 22, 23], [4, 5, 6, 7, 8, 9, 10, 11, 12, 13, 14, 15, 16, 17, 18, 19, 20, 21, 22, 23], [5, 6, 7, 8, 9, 10, 11, 12, 13, 14, 15, 16, 17, 18, 19, 20, 21, 22, 23], [6, 7, 8, 9, 10, 11, 12, 13, 14, 15, 16, 17, 18, 19, 20, 21, 22, 23], [7, 8, 9, 10, 11, 12, 13, 14, 15, 16, 17, 18, 19, 20, 21, 22, 23], [8, 9, 10, 11, 12, 13, 14, 15, 16, 17, 18, 19, 20, 21, 22, 23], [9, 10, 11, 12, 13, 14, 15, 16, 17, 18, 19, 20, 21, 22, 23], [10, 11, 12, 13, 14, 15, 16, 17, 18, 19, 20, 21, 22, 23], [11, 12, 13, 14, 15, 16, 17, 18, 19, 20, 21, 22, 23], [12, 13, 14, 15, 16, 17, 18, 19, 20, 21, 22, 23], [13, 14, 15, 16, 17, 18, 19, 20, 21, 22, 23], [14, 15, 16, 17, 18, 19, 20, 21, 22, 23], [15, 16, 17, 18, 19, 20, 21, 22, 23], [16, 17, 18, 19, 20, 21, 22, 23], [17, 18, 19, 20, 21, 22, 23], [18, 19, 20, 21, 22, 23], [19, 20, 21, 22, 23], [20, 21, 22, 23], [21, 22, 23], [22, 23], [23], []] rfl rfl follow rfl ⟨
              .inl ⟨wants_plain rfl, does_field _ _ _ 1 DagM_f_collatorlaw06_Act_1 rfl rfl rfl rfl rfl rfl (pt_ptr (ar_tmp (av_fs 1 rfl)))⟩,
              .inl ⟨wants_plain rfl, does_loadOne _ DagM_one_string rfl rfl rfl rfl rfl (pt_pt (av_rs 0 0 rfl rfl)) (rds_box (off := 1) (av_fs 0 rfl) (hq_one rfl))⟩,
              .inl ⟨wants_plain rfl, does_lenStr _ _ Try.underlying9 rfl rfl rfl rfl rfl (ar_tmp (av_rs 1 1 rfl rfl))⟩,
              .inl ⟨wants_plain rfl, does_cmp (m := ((a.name.size : Nat) : Int)) (n := 60) _ _ _ _ _ rfl rfl rfl rfl rfl rfl .i64 (ar_tmp (av_rs 2 2 rfl rfl)) (ar_const (fun _ _ => rfl))⟩,
              .inl ⟨wants_plain rfl, does_move _ (.inl rfl) rfl rfl rfl rfl (ar_tmp (av_rs 3 3 rfl rfl))⟩,
              .inl ⟨wants_guard false rfl rfl rfl (av_bool hb3 (av_rs 4 4 rfl rfl)), does_field _ _ _ 2 DagM_f_collatorlaw06_Act_2 rfl rfl rfl rfl rfl rfl (pt_ptr (ar_tmp (av_fs 1 rfl)))⟩,
              .inl ⟨wants_guard false rfl rfl rfl (av_bool hb3 (av_rs 4 4 rfl rfl)), does_loadOne _ DagM_one___int rfl rfl rfl rfl rfl (pt_pt (av_rs 5 5 rfl rfl)) (rds_box (off := 2) (av_fs 0 rfl) (hq_one rfl))⟩,
              .inl ⟨wants_guard false rfl rfl rfl (av_bool hb3 (av_rs 4 4 rfl rfl)), does_len _ _ (by kernel_rfl) rfl rfl rfl rfl rfl (sl_ro (av_rs 6 6 rfl rfl) (flat_nil_iff cInt_len (by decide) _))⟩,
              .inl ⟨wants_guard false rfl rfl rfl (av_bool hb3 (av_rs 4 4 rfl rfl)), does_cmp (m := ((a.args.length : Nat) : Int)) (n := 12) _ _ _ _ _ rfl rfl rfl rfl rfl rfl .i64 (ar_tmp (av_rs 7 7 rfl rfl)) (ar_const (fun _ _ => rfl))⟩,
              .inl ⟨wants_plain rfl, does_pick false _ _ _ rfl rfl rfl rfl rfl (ar_tmp (av_bool hb3 (av_rs 4 4 rfl rfl))) (ar_tmp (av_rs 8 8 rfl rfl))⟩,
              .inl ⟨wants_plain rfl, does_move _ (.inl rfl) rfl rfl rfl rfl (ar_tmp (av_rs 9 9 rfl rfl))⟩,
              .inl ⟨wants_guard false rfl rfl rfl (av_bool hb4 (av_rs 10 10 rfl rfl)), does_field _ _ _ 4 DagM_f_collatorlaw06_Act_4 rfl rfl rfl rfl rfl rfl (pt_ptr (ar_tmp (av_fs 1 rfl)))⟩,
              .inl ⟨wants_guard false rfl rfl rfl (av_bool hb4 (av_rs 10 10 rfl rfl)), does_field _ _ _ 2 DagM_f_api_Term_2 rfl rfl rfl rfl rfl rfl (pt_pt (av_rs 11 11 rfl rfl))⟩,
              .inl ⟨wants_guard false rfl rfl rfl (av_bool hb4 (av_rs 10 10 rfl rfl)), does_loadOne _ DagM_one___int rfl rfl rfl rfl rfl (pt_pt (av_rs 12 12 rfl rfl)) (rds_box (off := 6) (av_fs 0 rfl) (hq_one rfl))⟩,
              .inl ⟨wants_guard false rfl rfl rfl (av_bool hb4 (av_rs 10 10 rfl rfl)), does_len _ _ (by kernel_rfl) rfl rfl rfl rfl rfl (sl_ro (av_rs 13 13 rfl rfl) (flat_nil_iff cInt_len (by decide) _))⟩,
              .inl ⟨wants_guard false rfl rfl rfl (av_bool hb4 (av_rs 10 10 rfl rfl)), does_cmp (m := ((a.term.kids.length : Nat) : Int)) (n := 12) _ _ _ _ _ rfl rfl rfl rfl rfl rfl .i64 (ar_tmp (av_rs 14 14 rfl rfl)) (ar_const (fun _ _ => rfl))⟩,
              .inl ⟨wants_plain rfl, does_pick false _ _ _ rfl rfl rfl rfl rfl (ar_tmp (av_bool hb4 (av_rs 10 10 rfl rfl))) (ar_tmp (av_rs 15 15 rfl rfl))⟩,
              .inl ⟨wants_plain rfl, does_move _ (.inl rfl) rfl rfl rfl rfl (ar_tmp (av_rs 16 16 rfl rfl))⟩,
              .inl ⟨wants_guard false rfl rfl rfl (av_bool hb5 (av_rs 17 17 rfl rfl)), does_field _ _ _ 4 DagM_f_collatorlaw06_Act_4 rfl rfl rfl rfl rfl rfl (pt_ptr (ar_tmp (av_fs 1 rfl)))⟩,
              .inl ⟨wants_guard false rfl rfl rfl (av_bool hb5 (av_rs 17 17 rfl rfl)), does_field _ _ _ 3 DagM_f_api_Term_3 rfl rfl rfl rfl rfl rfl (pt_pt (av_rs 18 18 rfl rfl))⟩,
              .inl ⟨wants_guard false rfl rfl rfl (av_bool hb5 (av_rs 17 17 rfl rfl)), does_loadOne _ DagM_one_string rfl rfl rfl rfl rfl (pt_pt (av_rs 19 19 rfl rfl)) (rds_box (off := 7) (av_fs 0 rfl) (hq_one rfl))⟩,
              .inl ⟨wants_guard false rfl rfl rfl (av_bool hb5 (av_rs 17 17 rfl rfl)), does_lenStr _ _ Try.underlying9 rfl rfl rfl rfl rfl (ar_tmp (av_rs 20 20 rfl rfl))⟩,
              .inl ⟨wants_guard false rfl rfl rfl (av_bool hb5 (av_rs 17 17 rfl rfl)), does_cmp (m := ((a.term.num.size : Nat) : Int)) (n := 60) _ _ _ _ _ rfl rfl rfl rfl rfl rfl .i64 (ar_tmp (av_rs 21 21 rfl rfl)) (ar_const (fun _ _ => rfl))⟩,
              .inl ⟨wants_plain rfl, does_pick false _ _ _ rfl rfl rfl rfl rfl (ar_tmp (av_bool hb5 (av_rs 17 17 rfl rfl))) (ar_tmp (av_rs 22 22 rfl rfl))⟩,
              trivial⟩ ?_
            refine nx_then ?_
            refine t_split 32 rfl (fun hb6 => ?_) (fun hb6 => ?_)
            · have hc6 := of_decide_eq_true hb6
              refine t_seq ?_
              refine t_region (F := ⟨_, _, _, _, _, _⟩) [.own 101 (.val c4) (B_act6 a), .is (.tmp 4) (VP.ptr c4), .is (.tmp 8) (VP.eq v0 true true), .is (.tmp 9) (VP.int .i64 ((l.length : Nat) : Int)), .is (.tmp 10) (VP.int .i64 ((k : Nat) : Int)), .bor (.val v0) (S_act6 l), .is (.tmp 11) (VP.bool (decide (((k : Nat) : Int) < ((l.length : Nat) : Int)))), .pt 12 (.row (.val v0) (k * 8)), .is (.tmp 13) (VP.agg [VP.int .i64 a.what, VP.str a.name, O_int a.args, VP.int .i64 a.res, VP.int .i64 a.term.op, VP.int .i64 a.term.fn, O_int a.term.kids, VP.str a.term.num]), .pt 14 (.blk (.val c4) 1), .is (.tmp 15) (VP.str a.name), .is (.tmp 16) (VP.int .i64 ((a.name.size : Nat) : Int)), .is (.tmp 17) (VP.bool (decide (((a.name.size : Nat) : Int) > 60))), .is (.tmp 18) (VP.bool (decide (((a.name.size : Nat) : Int) > 60))), .pt 19 (.blk (.val c4) 2), .is (.tmp 20) (O_int a.args), .is (.tmp 21) (VP.int .i64 ((a.args.length : Nat) : Int)), .is (.tmp 22) (VP.bool (decide (((a.args.length : Nat) : Int) > 12))), .is (.tmp 23) (VP.bool (decide (((a.args.length : Nat) : Int) > 12))), .is (.tmp 24) (VP.bool (decide (((a.args.length : Nat) : Int) > 12))), .pt 25 (.blk (.val c4) 4), .pt 26 (.blk (.val c4) 6), .is (.tmp 27) (O_int a.term.kids), .is (.tmp 28) (VP.int .i64 ((a.term.kids.length : Nat) : Int)), .is (.tmp 29) (VP.bool (decide (((a.term.kids.length : Nat) : Int) > 12))), .is (.tmp 30) (VP.bool (decide (((a.term.kids.length : Nat) : Int) > 12))), .is (.tmp 31) (VP.bool (decide (((a.term.kids.length : Nat) : Int) > 12))), .pt 32 (.blk (.val c4) 4), .pt 33 (.blk (.val c4) 7), .is (.tmp 34) (VP.str a.term.num), .is (.tmp 35) (VP.int .i64 ((a.term.num.size : Nat) : Int)), .is (.tmp 36) (VP.bool (decide (((a.term.num.size : Nat) : Int) > 60))), .is (.tmp 37) (VP.bool (decide (((a.term.num.size : Nat) : Int) > 60)))] [] [(0, .is (.tmp 2) (VP.bool true))] [] [0, 1, 2, 3, 4, 5, 6, 7, 8, 9, 10, 11, 12, 13, 14, 15, 16, 17, 18, 19, 20, 21, 22, 23, 24, 25, 26, 27, 28, 29, 30, 31, 32] [] [[]] [[]] rfl rfl follow rfl ⟨
                .inl ⟨wants_plain rfl, does_move _ (.inr rfl) rfl rfl rfl rfl (ar_const (fun _ _ => rfl))⟩,
                trivial⟩ ?_
              refine nx_then ?_
              refine t_ret ?_
              refine rt_block ?_
              refine rt_then ?_
              refine rt_then ?_
              refine rt_block ?_
              refine rt_then ?_
              exact rt_post [HA.of (VP.bool (greatL l))] [[]] [] [] rfl ⟨(rv_eq (congrArg HA.of (congrArg VP.bool (show true = greatL l from Eq.symm (by unfold greatL; rw [hle, cond_false]; exact any_hit hx (by unfold bigA; (try rw [hb3]); (try rw [hb4]); (try rw [hb5]); (try rw [hb6]); (try rfl)))))) (rv_vp 33 rfl)), trivial⟩ (by decide) rfl rfl
            · have hc6 := of_decide_eq_false hb6
              refine t_skip ?_
              refine nx_block ?_
              refine nx_then ?_
              refine t_region (F := ⟨_, _, _, _, _, _⟩) [.own 101 (.val c4) (B_act6 a), .is (.tmp 4) (VP.ptr c4), .is (.tmp 8) (VP.eq v0 true true), .is (.tmp 9) (VP.int .i64 ((l.length : Nat) : Int)), .bor (.val v0) (S_act6 l), .is (.tmp 11) (VP.bool (decide (((k : Nat) : Int) < ((l.length : Nat) : Int)))), .pt 12 (.row (.val v0) (k * 8)), .is (.tmp 13) (VP.agg [VP.int .i64 a.what, VP.str a.name, O_int a.args, VP.int .i64 a.res, VP.int .i64 a.term.op, VP.int .i64 a.term.fn, O_int a.term.kids, VP.str a.term.num]), .pt 14 (.blk (.val c4) 1), .is (.tmp 15) (VP.str a.name), .is (.tmp 16) (VP.int .i64 ((a.name.size : Nat) : Int)), .is (.tmp 17) (VP.bool (decide (((a.name.size : Nat) : Int) > 60))), .is (.tmp 18) (VP.bool (decide (((a.name.size : Nat) : Int) > 60))), .pt 19 (.blk (.val c4) 2), .is (.tmp 20) (O_int a.args), .is (.tmp 21) (VP.int .i64 ((a.args.length : Nat) : Int)), .is (.tmp 22) (VP.bool (decide (((a.args.length : Nat) : Int) > 12))), .is (.tmp 23) (VP.bool (decide (((a.args.length : Nat) : Int) > 12))), .is (.tmp 24) (VP.bool (decide (((a.args.length : Nat) : Int) > 12))), .pt 25 (.blk (.val c4) 4), .pt 26 (.blk (.val c4) 6), .is (.tmp 27) (O_int a.term.kids), .is (.tmp 28) (VP.int .i64 ((a.term.kids.length : Nat) : Int)), .is (.tmp 29) (VP.bool (decide (((a.term.kids.length : Nat) : Int) > 12))), .is (.tmp 30) (VP.bool (decide (((a.term.kids.length : Nat) : Int) > 12))), .is (.tmp 31) (VP.bool (decide (((a.term.kids.length : Nat) : Int) > 12))), .pt 32 (.blk (.val c4) 4), .pt 33 (.blk (.val c4) 7), .is (.tmp 34) (VP.str a.term.num), .is (.tmp 35) (VP.int .i64 ((a.term.num.size : Nat) : Int)), .is (.tmp 36) (VP.bool (decide (((a.term.num.size : Nat) : Int) > 60))), .is (.tmp 37) (VP.bool (decide (((a.term.num.size : Nat) : Int) > 60)))] [(1, .is (.tmp 10) (VP.int .i64 ((k : Nat) : Int)))] [(0, .is (.tmp 38) (VP.int .i64 (((k + 1) : Nat) : Int))), (1, .is (.tmp 10) (VP.int .i64 (((k + 1) : Nat) : Int)))] [] [0, 1, 2, 3, 5, 6, 7, 8, 9, 10, 11, 12, 13, 14, 15, 16, 17, 18, 19, 20, 21, 22, 23, 24, 25, 26, 27, 28, 29, 30, 31, 32] [4] [[], [0]] [[1], []] rfl rfl follow rfl ⟨
                .inl ⟨wants_plain rfl, does_addE (m := ((k : Nat) : Int)) (n := 1) (x := (((k + 1) : Nat) : Int)) (by omega) _ _ _ _ rfl rfl rfl rfl rfl (by omega) (ar_tmp (av_os 0 1 rfl rfl)) (ar_const (fun _ _ => rfl))⟩,
                .inl ⟨wants_plain rfl, does_move _ (.inl rfl) rfl rfl rfl rfl (ar_tmp (av_rs 0 0 rfl rfl))⟩,
                trivial⟩ ?_
              refine nx_round (τ := {k : Nat // (decide (((l.length : Nat) : Int) > 80)) = false ∧ k ≤ l.length ∧ ∀ j y, j < k → l[j]? = some y → bigA y = false}) (I := fun ⟨k, _⟩ => [.is (.tmp 8) (VP.eq v0 true true), .is (.tmp 9) (VP.int .i64 ((l.length : Nat) : Int)), .is (.tmp 10) (VP.int .i64 ((k : Nat) : Int)), .bor (.val v0) (S_act6 l)]) (μ := fun ⟨k, _⟩ => l.length - k) (s := ⟨k, hle, hk, hno⟩) (⟨k + 1, hle, by omega, ixf_step hno hx (by unfold bigA; (try rw [hb3]); (try rw [hb4]); (try rw [hb5]); (try rw [hb6]); (try rfl))⟩) ?_ [2, 3, 33, 4] ?_
              · exact (show l.length - (k + 1) < l.length - k by omega)
              · exact rfl
    · have hc2 := of_decide_eq_false hb2
      refine t_exit ?_
      refine ex_then ?_
      refine ex_then ?_
      refine ex_block ?_
      refine nx_then ?_
      refine t_pick [3] rfl ?_
      refine t_seq ?_
      refine t_region (F := ⟨_, _, _, _, _, _⟩) [.bor (.val v0) (S_act6 l)] [] [(0, .is (.tmp 2) (VP.bool false))] [] [0] [] [[]] [[]] rfl rfl follow rfl ⟨
        .inl ⟨wants_plain rfl, does_move _ (.inr rfl) rfl rfl rfl rfl (ar_const (fun _ _ => rfl))⟩,
        trivial⟩ ?_
      refine nx_then ?_
      refine t_ret ?_
      exact rt_post [HA.of (VP.bool (greatL l))] [[]] [] [] rfl ⟨(rv_eq (congrArg HA.of (congrArg VP.bool (show false = greatL l from Eq.symm (by unfold greatL; rw [hle, cond_false]; exact any_miss hno (by omega))))) (rv_vp 1 rfl)), trivial⟩ (by decide) rfl rfl

set_option maxRecDepth 100000 in
set_option maxHeartbeats 4000000 in
theorem dl_funs (l : List FunD) : SpecO Try.prog 41 [.bo (S_fun l), .bo (S_fun l)] [] [] [] (HA.of (VP.bool true)) := by
  refine spec_of 55 Try.func41 rfl Try.ntmps41 rfl fun w0 S0 Z0 Bf => ?_
  refine b_name fun v0 => ?_
  refine t_pick [2, 0, 1] rfl ?_
  refine b_name fun v1 => ?_
  refine t_pick [2, 0, 1, 3] rfl ?_
  refine b_know slc_le fun hla => ?_
  refine t_seq ?_
  refine t_region (F := ⟨_, _, _, _, _, _⟩) [.bor (.val v0) (S_fun l), .bor (.val v1) (S_fun l), .is (.tmp 1) (VP.eq v1 true true), .is (.tmp 0) (VP.eq v0 true true)] [] [(0, .is (.tmp 4) (VP.bool false))] [] [0, 1, 2, 3] [] [[]] [[]] rfl rfl follow rfl ⟨
    .inl ⟨wants_plain rfl, does_move _ (.inr rfl) rfl rfl rfl rfl (ar_const (fun _ _ => rfl))⟩,
    trivial⟩ ?_
  refine nx_then ?_
  refine t_seq ?_
  refine t_seq ?_
  refine t_region (F := ⟨_, _, _, _, _, _⟩) [.bor (.val v0) (S_fun l), .bor (.val v1) (S_fun l), .is (.tmp 1) (VP.eq v1 true true), .is (.tmp 0) (VP.eq v0 true true), .is (.tmp 4) (VP.bool false)] [] [(0, .is (.tmp 6) (VP.eq v0 true true)), (1, .is (.tmp 7) (VP.int .i64 ((l.length : Nat) : Int))), (2, .is (.tmp 8) (VP.eq v1 true true)), (3, .is (.tmp 9) (VP.int .i64 ((l.length : Nat) : Int))), (4, .is (.tmp 10) (VP.bool (((l.length : Nat) : Int) != ((l.length : Nat) : Int))))] [] [0, 1, 2, 3, 4] [] [[], [0], [], [2], [0, 1, 2, 3]] [[1, 4], [4], [3, 4], [4], []] rfl rfl follow rfl ⟨
    .inl ⟨wants_plain rfl, does_move _ (.inl rfl) rfl rfl rfl rfl (ar_tmp (av_fs 3 rfl))⟩,
    .inl ⟨wants_plain rfl, does_len _ _ (by kernel_rfl) rfl rfl rfl rfl rfl (sl_slc (av_fs 0 rfl) (ar_tmp (av_rs 0 0 rfl rfl)))⟩,
    .inl ⟨wants_plain rfl, does_move _ (.inl rfl) rfl rfl rfl rfl (ar_tmp (av_fs 2 rfl))⟩,
    .inl ⟨wants_plain rfl, does_len _ _ (by kernel_rfl) rfl rfl rfl rfl rfl (sl_slc (av_fs 1 rfl) (ar_tmp (av_rs 2 2 rfl rfl)))⟩,
    .inl ⟨wants_plain rfl, does_cmp (m := ((l.length : Nat) : Int)) (n := ((l.length : Nat) : Int)) _ _ _ _ _ rfl rfl rfl rfl rfl rfl .i64 (ar_tmp (av_rs 1 1 rfl rfl)) (ar_tmp (av_rs 3 3 rfl rfl))⟩,
    trivial⟩ ?_
  refine t_pick [0, 1, 2, 3, 4, 9] rfl ?_
  refine nx_then ?_
  refine t_cond_fe 5 rfl (by simp) ?_
  refine t_skip ?_
  refine nx_then ?_
  refine t_seq ?_
  refine t_seq ?_
  refine t_region (F := ⟨_, _, _, _, _, _⟩) [.bor (.val v0) (S_fun l), .bor (.val v1) (S_fun l), .is (.tmp 1) (VP.eq v1 true true), .is (.tmp 0) (VP.eq v0 true true), .is (.tmp 4) (VP.bool false), .is (.tmp 10) (VP.bool (((l.length : Nat) : Int) != ((l.length : Nat) : Int)))] [] [(0, .is (.tmp 11) (VP.eq v0 true true)), (1, .is (.tmp 12) (VP.int .i64 ((l.length : Nat) : Int))), (2, .is (.tmp 13) (VP.int .i64 0))] [] [0, 1, 2, 3, 4, 5] [] [[], [0], []] [[1], [], []] rfl rfl follow rfl ⟨
    .inl ⟨wants_plain rfl, does_move _ (.inl rfl) rfl rfl rfl rfl (ar_tmp (av_fs 3 rfl))⟩,
    .inl ⟨wants_plain rfl, does_len _ _ (by kernel_rfl) rfl rfl rfl rfl rfl (sl_slc (av_fs 0 rfl) (ar_tmp (av_rs 0 0 rfl rfl)))⟩,
    .inl ⟨wants_plain rfl, does_move _ (.inl rfl) rfl rfl rfl rfl (ar_const (fun _ _ => rfl))⟩,
    trivial⟩ ?_
  refine t_pick [0, 1, 2, 3, 4, 7, 8] rfl ?_
  refine nx_then ?_
  refine t_block ?_
  refine t_pick [6, 0, 1, 2, 3, 4, 5] rfl ?_
  refine t_slot (y := VP.int .i64 ((0 : Nat) : Int)) (fun _ _ _ h => h) ?_
  refine t_loop (τ := {k : Nat // k ≤ l.length}) (fun ⟨k, _⟩ => [.is (.tmp 0) (VP.eq v0 true true), .is (.tmp 1) (VP.eq v1 true true), .is (.tmp 12) (VP.int .i64 ((l.length : Nat) : Int)), .is (.tmp 13) (VP.int .i64 ((k : Nat) : Int)), .bor (.val v0) (S_fun l), .bor (.val v1) (S_fun l)]) (fun ⟨k, _⟩ => l.length - k) (⟨0, Nat.zero_le _⟩) [4, 3, 6, 0, 1, 2] rfl ?_
  rintro ⟨k, hk⟩
  refine t_seq ?_
  refine t_region (F := ⟨_, _, _, _, _, _⟩) [.is (.tmp 0) (VP.eq v0 true true), .is (.tmp 1) (VP.eq v1 true true), .is (.tmp 12) (VP.int .i64 ((l.length : Nat) : Int)), .is (.tmp 13) (VP.int .i64 ((k : Nat) : Int)), .bor (.val v0) (S_fun l), .bor (.val v1) (S_fun l)] [] [(0, .is (.tmp 14) (VP.bool (decide (((k : Nat) : Int) < ((l.length : Nat) : Int)))))] [] [0, 1, 2, 3, 4, 5] [] [[]] [[]] rfl rfl follow rfl ⟨
    .inl ⟨wants_plain rfl, does_cmp (m := ((k : Nat) : Int)) (n := ((l.length : Nat) : Int)) _ _ _ _ _ rfl rfl rfl rfl rfl rfl .i64 (ar_tmp (av_fs 3 rfl)) (ar_tmp (av_fs 2 rfl))⟩,
    trivial⟩ ?_
  refine nx_then ?_
  refine t_seq ?_
  refine t_split 6 rfl (fun hb1 => ?_) (fun hb1 => ?_)
  · have hc1 := of_decide_eq_true hb1
    obtain ⟨x, hx⟩ : ∃ x, l[k]? = some x := ⟨_, List.getElem?_eq_getElem (by omega)⟩
    refine t_skip ?_
    refine nx_then ?_
    refine t_seq ?_
    refine t_block ?_
    refine t_seq ?_
    refine t_region (F := ⟨_, _, _, _, _, _⟩) [.is (.tmp 0) (VP.eq v0 true true), .is (.tmp 1) (VP.eq v1 true true), .is (.tmp 12) (VP.int .i64 ((l.length : Nat) : Int)), .is (.tmp 13) (VP.int .i64 ((k : Nat) : Int)), .bor (.val v0) (S_fun l), .bor (.val v1) (S_fun l), .is (.tmp 14) (VP.bool (decide (((k : Nat) : Int) < ((l.length : Nat) : Int))))] [] [(0, .is (.tmp 15) (VP.int .i64 ((k : Nat) : Int))), (1, .is (.tmp 5) (VP.int .i64 ((k : Nat) : Int)))] [] [0, 1, 2, 3, 4, 5, 6] [] [[], [0]] [[1], []] rfl rfl follow rfl ⟨
      .inl ⟨wants_plain rfl, does_move _ (.inl rfl) rfl rfl rfl rfl (ar_tmp (av_fs 3 rfl))⟩,
      .inl ⟨wants_plain rfl, does_move _ (.inr rfl) rfl rfl rfl rfl (ar_tmp (av_rs 0 0 rfl rfl))⟩,
      trivial⟩ ?_
    refine nx_then ?_
    refine t_seq ?_
    refine t_region (F := ⟨_, _, _, _, _, _⟩) [.is (.tmp 0) (VP.eq v0 true true), .is (.tmp 1) (VP.eq v1 true true), .is (.tmp 12) (VP.int .i64 ((l.length : Nat) : Int)), .is (.tmp 13) (VP.int .i64 ((k : Nat) : Int)), .bor (.val v0) (S_fun l), .bor (.val v1) (S_fun l), .is (.tmp 14) (VP.bool (decide (((k : Nat) : Int) < ((l.length : Nat) : Int)))), .is (.tmp 15) (VP.int .i64 ((k : Nat) : Int)), .is (.tmp 5) (VP.int .i64 ((k : Nat) : Int))] [] [(0, .is (.tmp 16) (VP.eq v0 true true)), (1, .is (.tmp 17) (VP.int .i64 ((k : Nat) : Int))), (2, .pt 18 (.row (.val v0) (k * 3))), (3, .pt 19 (.row (.val v0) ((k * 3) + 0))), (4, .is (.tmp 20) (VP.str x.name)), (5, .is (.tmp 21) (VP.eq v1 true true)), (6, .is (.tmp 22) (VP.int .i64 ((k : Nat) : Int))), (7, .pt 23 (.row (.val v1) (k * 3))), (8, .pt 24 (.row (.val v1) ((k * 3) + 0))), (9, .is (.tmp 25) (VP.str x.name)), (10, .is (.tmp 26) (VP.bool (!(x.name.toList == x.name.toList)))), (11, .is (.tmp 27) (VP.bool (!(x.name.toList == x.name.toList)))), (12, .is (.tmp 28) (VP.eq v0 true true)), (13, .is (.tmp 29) (VP.int .i64 ((k : Nat) : Int))), (14, .pt 30 (.row (.val v0) (k * 3))), (15, .pt 31 (.row (.val v0) ((k * 3) + 1))), (16, .is (.tmp 32) (O_int x.args)), (17, .is (.tmp 33) (VP.eq v1 true true)), (18, .is (.tmp 34) (VP.int .i64 ((k : Nat) : Int))), (19, .pt 35 (.row (.val v1) (k * 3))), (20, .pt 36 (.row (.val v1) ((k * 3) + 1))), (21, .is (.tmp 37) (O_int x.args)), (22, .is (.tmp 38) (VP.bool (x.args == x.args))), (23, .is (.tmp 39) (VP.bool false)), (24, .is (.tmp 40) (VP.bool false)), (25, .is (.tmp 41) (VP.bool false)), (26, .is (.tmp 42) (VP.eq v0 true true)), (27, .is (.tmp 43) (VP.int .i64 ((k : Nat) : Int))), (28, .pt 44 (.row (.val v0) (k * 3))), (29, .pt 45 (.row (.val v0) ((k * 3) + 2))), (30, .is (.tmp 46) (VP.int .i64 x.res)), (31, .is (.tmp 47) (VP.eq v1 true true)), (32, .is (.tmp 48) (VP.int .i64 ((k : Nat) : Int))), (33, .pt 49 (.row (.val v1) (k * 3))), (34, .pt 50 (.row (.val v1) ((k * 3) + 2))), (35, .is (.tmp 51) (VP.int .i64 x.res)), (36, .is (.tmp 52) (VP.bool (x.res != x.res))), (37, .is (.tmp 53) (VP.bool (x.res != x.res)))] [] [0, 1, 2, 3, 4, 5, 6, 7, 8] [] [[], [], [0, 1], [0, 1, 2], [0, 1, 2, 3], [], [], [5, 6], [5, 6, 7], [5, 6, 7, 8], [0, 1, 2, 3, 4, 5, 6, 7, 8, 9], [0, 1, 2, 3, 4, 5, 6, 7, 8, 9, 10], [0, 1, 2, 3, 4, 5, 6, 7, 8, 9, 10, 11], [0, 1, 2, 3, 4, 5, 6, 7, 8, 9, 10, 11], [0, 1, 2, 3, 4, 5, 6, 7, 8, 9, 10, 11, 12, 13], [0, 1, 2, 3, 4, 5, 6, 7, 8, 9, 10, 11, 12, 13, 14], [0, 1, 2, 3, 4, 5, 6, 7, 8, 9, 10, 11, 12, 13, 14, 15], [0, 1, 2, 3, 4, 5, 6, 7, 8, 9, 10, 11], [0, 1, 2, 3, 4, 5, 6, 7, 8, 9, 10, 11], [0, 1, 2, 3, 4, 5, 6, 7, 8, 9, 10, 11, 17, 18], [0, 1, 2, 3, 4, 5, 6, 7, 8, 9, 10, 11, 17, 18, 19], [0, 1, 2, 3, 4, 5, 6, 7, 8, 9, 10, 11, 17, 18, 19, 20], [0, 1, 2, 3, 4, 5, 6, 7, 8, 9, 10, 11, 12, 13, 14, 15, 16, 17, 18, 19, 20, 21], [0, 1, 2, 3, 4, 5, 6, 7, 8, 9, 10, 11, 12, 13, 14, 15, 16, 17, 18, 19, 20, 21, 22], [0, 1, 2, 3, 4, 5, 6, 7, 8, 9, 10, 11, 12, 13, 14, 15, 16, 17, 18, 19, 20, 21, 22, 23], [0, 1, 2, 3, 4, 5, 6, 7, 8, 9, 10, 11, 12, 13, 14, 15, 16, 17, 18, 19, 20, 21, 22, 23, 24], [0, 1, 2, 3, 4, 5, 6, 7, 8, 9, 10, 11, 12, 13, 14, 15, 16, 17, 18, 19, 20, 21, 22, 23, 24, 25], [0, 1, 2, 3, 4, 5, 6, 7, 8, 9, 10, 11, 12, 13, 14, 15, 16, 17, 18, 19, 20, 21, 22, 23, 24, 25], [0, 1, 2, 3, 4, 5, 6, 7, 8, 9, 10, 11, 12, 13, 14, 15, 16, 17, 18, 19, 20, 21, 22, 23, 24, 25, 26, 27], [0, 1, 2, 3, 4, 5, 6, 7, 8, 9, 10, 11, 12, 13, 14, 15, 16, 17, 18, 19, 20, 21, 22, 23, 24, 25, 26, 27, 28], [0, 1, 2, 3, 4, 5, 6, 7, 8, 9, 10, 11, 12, 13, 14, 15, 16, 17, 18, 19, 20, 21, 22, 23, 24, 25, 26, 27, 28, 29], [0, 1, 2, 3, 4, 5, 6, 7, 8, 9, 10, 11, 12, 13, 14, 15, 16, 17, 18, 19, 20, 21, 22, 23, 24, 25], [0, 1, 2, 3, 4, 5, 6, 7, 8, 9, 10, 11, 12, 13, 14, 15, 16, 17, 18, 19, 20, 21, 22, 23, 24, 25], [0, 1, 2, 3, 4, 5, 6, 7, 8, 9, 10, 11, 12, 13, 14, 15, 16, 17, 18, 19, 20, 21, 22, 23, 24, 25, 31, 32], [0, 1, 2, 3, 4, 5, 6, 7, 8, 9, 10, 11, 12, 13, 14, 15, 16, 17, 18, 19, 20, 21, 22, 23, 24, 25, 31, 32, 33], [0, 1, 2, 3, 4, 5, 6, 7, 8, 9, 10, 11, 12, 13, 14, 15, 16, 17, 18, 19, 20, 21, 22, 23, 24, 25, 31, 32, 33, 34], [0, 1, 2, 3, 4, 5, 6, 7, 8, 9, 10, 11, 12, 13, 14, 15, 16, 17, 18, 19, 20, 21, 22, 23, 24, 25, 26, 27, 28, 29, 30, 31, 32, 33, 34, 35], [0, 1, 2, 3, 4, 5, 6, 7, 8, 9, 10, 11, 12, 13, 14, 15, 16, 17, 18, 19, 20, 21, 22, 23, 24, 25, 26, 27, 28, 29, 30, 31, 32, 33, 34, 35, 36]] [[2, 3, 4, 10, 11, 12, 13, 14, 15, 16, 17, 18, 19, 20, 21, 22, 23, 24, 25, 26, 27, 28, 29, 30, 31, 32, 33, 34, 35, 36, 37], [2, 3, 4, 10, 11, 12, 13, 14, 15, 16, 17, 18, 19, 20, 21, 22, 23, 24, 25, 26, 27, 28, 29, 30, 31, 32, 33, 34, 35, 36, 37], [3, 4, 10, 11, 12, 13, 14, 15, 16, 17, 18, 19, 20, 21, 22, 23, 24, 25, 26, 27, 28, 29, 30, 31, 32, 33, 34, 35, 36, 37], [4, 10, 11, 12, 13, 14, 15, 16, 17, 18, 19, 20, 21, 22, 23, 24, 25, 26, 27, 28, 29, 30, 31, 32, 33, 34, 35, 36, 37], [10, 11, 12, 13, 14, 15, 16, 17, 18, 19, 20, 21, 22, 23, 24, 25, 26, 27, 28, 29, 30, 31, 32, 33, 34, 35, 36, 37], [7, 8, 9, 10, 11, 12, 13, 14, 15, 16, 17, 18, 19, 20, 21, 22, 23, 24, 25, 26, 27, 28, 29, 30, 31, 32, 33, 34, 35, 36, 37], [7, 8, 9, 10, 11, 12, 13, 14, 15, 16, 17, 18, 19, 20, 21, 22, 23, 24, 25, 26, 27, 28, 29, 30, 31, 32, 33, 34, 35, 36, 37], [8, 9, 10, 11, 12, 13, 14, 15, 16, 17, 18, 19, 20, 21, 22, 23, 24, 25, 26, 27, 28, 29, 30, 31, 32, 33, 34, 35, 36, 37], [9, 10, 11, 12, 13, 14, 15, 16, 17, 18, 19, 20, 21, 22, 23, 24, 25, 26, 27, 28, 29, 30, 31, 32, 33, 34, 35, 36, 37], [10, 11, 12, 13, 14, 15, 16, 17, 18, 19, 20, 21, 22, 23, 24, 25, 26, 27, 28, 29, 30, 31, 32, 33, 34, 35, 36, 37], [11, 12, 13, 14, 15, 16, 17, 18, 19, 20, 21, 22, 23, 24, 25, 26, 27, 28, 29, 30, 31, 32, 33, 34, 35, 36, 37], [12, 13, 14, 15, 16, 17, 18, 19, 20, 21, 22, 23, 24, 25, 26, 27, 28, 29, 30, 31, 32, 33, 34, 35, 36, 37], [14, 15, 16, 22, 23, 24, 25, 26, 27, 28, 29, 30, 31, 32, 33, 34, 35, 36, 37], [14, 15, 16, 22, 23, 24, 25, 26, 27, 28, 29, 30, 31, 32, 33, 34, 35, 36, 37], [15, 16, 22, 23, 24, 25, 26, 27, 28, 29, 30, 31, 32, 33, 34, 35, 36, 37], [16, 22, 23, 24, 25, 26, 27, 28, 29, 30, 31, 32, 33, 34, 35, 36, 37], [22, 23, 24, 25, 26, 27, 28, 29, 30, 31, 32, 33, 34, 35, 36, 37], [19, 20, 21, 22, 23, 24, 25, 26, 27, 28, 29, 30, 31, 32, 33, 34, 35, 36, 37], [19, 20, 21, 22, 23, 24, 25, 26, 27, 28, 29, 30, 31, 32, 33, 34, 35, 36, 37], [20, 21, 22, 23, 24, 25, 26, 27, 28, 29, 30, 31, 32, 33, 34, 35, 36, 37], [21, 22, 23, 24, 25, 26, 27, 28, 29, 30, 31, 32, 33, 34, 35, 36, 37], [22, 23, 24, 25, 26, 27, 28, 29, 30, 31, 32, 33, 34, 35, 36, 37], [23, 24, 25, 26, 27, 28, 29, 30, 31, 32, 33, 34, 35, 36, 37], [24, 25, 26, 27, 28, 29, 30, 31, 32, 33, 34, 35, 36, 37], [25, 26, 27, 28, 29, 30, 31, 32, 33, 34, 35, 36, 37], [26, 27, 28, 29, 30, 31, 32, 33, 34, 35, 36, 37], [28, 29, 30, 36, 37], [28, 29, 30, 36, 37], [29, 30, 36, 37], [30, 36, 37], [36, 37], [33, 34, 35, 36, 37], [33, 34, 35, 36, 37], [34, 35, 36, 37], [35, 36, 37], [36, 37], [37], []] rfl rfl follow rfl ⟨
      .inl ⟨wants_plain rfl, does_move _ (.inl rfl) rfl rfl rfl rfl (ar_tmp (av_fs 0 rfl))⟩,
      .inl ⟨wants_plain rfl, does_move _ (.inl rfl) rfl rfl rfl rfl (ar_tmp (av_fs 8 rfl))⟩,
      .inl ⟨wants_plain rfl, does_index (m := k) _ _ Try.underlying55 DagM_size_api_Fun rfl rfl rfl rfl rfl _ (by omega) rfl (by omega) (sl_slc (av_fs 4 rfl) (ar_tmp (av_rs 0 0 rfl rfl))) (ar_tmp (av_rs 1 1 rfl rfl))⟩,
      .inl ⟨wants_plain rfl, does_field _ _ _ 0 DagM_f_api_Fun_0 rfl rfl rfl rfl rfl rfl (pt_pt (av_rs 2 2 rfl rfl))⟩,
      .inl ⟨wants_plain rfl, does_loadOne _ DagM_one_string rfl rfl rfl rfl rfl (pt_pt (av_rs 3 3 rfl rfl)) (rds_slc (av_fs 4 rfl) (hq_flatV1 cFun_len hx 0 (by omega) rfl))⟩,
      .inl ⟨wants_plain rfl, does_move _ (.inl rfl) rfl rfl rfl rfl (ar_tmp (av_fs 1 rfl))⟩,
      .inl ⟨wants_plain rfl, does_move _ (.inl rfl) rfl rfl rfl rfl (ar_tmp (av_fs 8 rfl))⟩,
      .inl ⟨wants_plain rfl, does_index (m := k) _ _ Try.underlying55 DagM_size_api_Fun rfl rfl rfl rfl rfl _ (by omega) rfl (by omega) (sl_slc (av_fs 5 rfl) (ar_tmp (av_rs 5 5 rfl rfl))) (ar_tmp (av_rs 6 6 rfl rfl))⟩,
      .inl ⟨wants_plain rfl, does_field _ _ _ 0 DagM_f_api_Fun_0 rfl rfl rfl rfl rfl rfl (pt_pt (av_rs 7 7 rfl rfl))⟩,
      .inl ⟨wants_plain rfl, does_loadOne _ DagM_one_string rfl rfl rfl rfl rfl (pt_pt (av_rs 8 8 rfl rfl)) (rds_slc (av_fs 5 rfl) (hq_flatV1 cFun_len hx 0 (by omega) rfl))⟩,
      .inl ⟨wants_plain rfl, does_eqStr (u := x.name) (v := x.name) _ _ _ _ _ rfl rfl rfl rfl rfl rfl (ar_tmp (av_rs 4 4 rfl rfl)) (ar_tmp (av_rs 9 9 rfl rfl))⟩,
      .inl ⟨wants_plain rfl, does_move _ (.inl rfl) rfl rfl rfl rfl (ar_tmp (av_rs 10 10 rfl rfl))⟩,
      .inl ⟨wants_guard false rfl rfl rfl (av_bool (by simp) (av_rs 11 11 rfl rfl)), does_move _ (.inl rfl) rfl rfl rfl rfl (ar_tmp (av_fs 0 rfl))⟩,
      .inl ⟨wants_guard false rfl rfl rfl (av_bool (by simp) (av_rs 11 11 rfl rfl)), does_move _ (.inl rfl) rfl rfl rfl rfl (ar_tmp (av_fs 8 rfl))⟩,
      .inl ⟨wants_guard false rfl rfl rfl (av_bool (by simp) (av_rs 11 11 rfl rfl)), does_index (m := k) _ _ Try.underlying55 DagM_size_api_Fun rfl rfl rfl rfl rfl _ (by omega) rfl (by omega) (sl_slc (av_fs 4 rfl) (ar_tmp (av_rs 12 12 rfl rfl))) (ar_tmp (av_rs 13 13 rfl rfl))⟩,
      .inl ⟨wants_guard false rfl rfl rfl (av_bool (by simp) (av_rs 11 11 rfl rfl)), does_field _ _ _ 1 DagM_f_api_Fun_1 rfl rfl rfl rfl rfl rfl (pt_pt (av_rs 14 14 rfl rfl))⟩,
      .inl ⟨wants_guard false rfl rfl rfl (av_bool (by simp) (av_rs 11 11 rfl rfl)), does_loadOne _ DagM_one___int rfl rfl rfl rfl rfl (pt_pt (av_rs 15 15 rfl rfl)) (rds_slc (av_fs 4 rfl) (hq_flatV1 cFun_len hx 1 (by omega) rfl))⟩,
      .inl ⟨wants_guard false rfl rfl rfl (av_bool (by simp) (av_rs 11 11 rfl rfl)), does_move _ (.inl rfl) rfl rfl rfl rfl (ar_tmp (av_fs 1 rfl))⟩,
      .inl ⟨wants_guard false rfl rfl rfl (av_bool (by simp) (av_rs 11 11 rfl rfl)), does_move _ (.inl rfl) rfl rfl rfl rfl (ar_tmp (av_fs 8 rfl))⟩,
      .inl ⟨wants_guard false rfl rfl rfl (av_bool (by simp) (av_rs 11 11 rfl rfl)), does_index (m := k) _ _ Try.underlying55 DagM_size_api_Fun rfl rfl rfl rfl rfl _ (by omega) rfl (by omega) (sl_slc (av_fs 5 rfl) (ar_tmp (av_rs 17 17 rfl rfl))) (ar_tmp (av_rs 18 18 rfl rfl))⟩,
      .inl ⟨wants_guard false rfl rfl rfl (av_bool (by simp) (av_rs 11 11 rfl rfl)), does_field _ _ _ 1 DagM_f_api_Fun_1 rfl rfl rfl rfl rfl rfl (pt_pt (av_rs 19 19 rfl rfl))⟩,
      .inl ⟨wants_guard false rfl rfl rfl (av_bool (by simp) (av_rs 11 11 rfl rfl)), does_loadOne _ DagM_one___int rfl rfl rfl rfl rfl (pt_pt (av_rs 20 20 rfl rfl)) (rds_slc (av_fs 5 rfl) (hq_flatV1 cFun_len hx 1 (by omega) rfl))⟩,
      .inl ⟨wants_guard false rfl rfl rfl (av_bool (by simp) (av_rs 11 11 rfl rfl)), does_call (dg_SameInts x.args x.args) (fun _ _ _ _ h => h) rfl DagM_hb_collator_collatorref06_SameInts rfl rfl rfl rfl ar_clo (ars_cons (pa_slcRo (ar_tmp (av_rs 16 16 rfl rfl)) (flat_nil_iff cInt_len (by decide) _)) (ars_cons (pa_slcRo (ar_tmp (av_rs 21 21 rfl rfl)) (flat_nil_iff cInt_len (by decide) _)) ars_nil)) trivial⟩,
      .inl ⟨wants_guard false rfl rfl rfl (av_bool (by simp) (av_rs 11 11 rfl rfl)), does_not true _ _ rfl rfl rfl rfl rfl (ar_tmp (av_bool (by simp) (av_rs 22 22 rfl rfl)))⟩,
      .inl ⟨wants_plain rfl, does_pick false _ _ _ rfl rfl rfl rfl rfl (ar_tmp (av_bool (by simp) (av_rs 11 11 rfl rfl))) (ar_tmp (av_rs 23 23 rfl rfl))⟩,
      .inl ⟨wants_plain rfl, does_move _ (.inl rfl) rfl rfl rfl rfl (ar_tmp (av_rs 24 24 rfl rfl))⟩,
      .inl ⟨wants_guard false rfl rfl rfl (av_rs 25 25 rfl rfl), does_move _ (.inl rfl) rfl rfl rfl rfl (ar_tmp (av_fs 0 rfl))⟩,
      .inl ⟨wants_guard false rfl rfl rfl (av_rs 25 25 rfl rfl), does_move _ (.inl rfl) rfl rfl rfl rfl (ar_tmp (av_fs 8 rfl))⟩,
      .inl ⟨wants_guard false rfl rfl rfl (av_rs 25 25 rfl rfl), does_index (m := k) _ _ Try.underlying55 DagM_size_api_Fun rfl rfl rfl rfl rfl _ (by omega) rfl (by omega) (sl_slc (av_fs 4 rfl) (ar_tmp (av_rs 26 26 rfl rfl))) (ar_tmp (av_rs 27 27 rfl rfl))⟩,
      .inl ⟨wants_guard false rfl rfl rfl (av_rs 25 25 rfl rfl), does_field _ _ _ 2 DagM_f_api_Fun_2 rfl rfl rfl rfl rfl rfl (pt_pt (av_rs 28 28 rfl rfl))⟩,
      .inl ⟨wants_guard false rfl rfl rfl (av_rs 25 25 rfl rfl), does_loadOne _ DagM_one_int rfl rfl rfl rfl rfl (pt_pt (av_rs 29 29 rfl rfl)) (rds_slc (av_fs 4 rfl) (hq_flatV1 cFun_len hx 2 (by omega) rfl))⟩,
      .inl ⟨wants_guard false rfl rfl rfl (av_rs 25 25 rfl rfl), does_move _ (.inl rfl) rfl rfl rfl rfl (ar_tmp (av_fs 1 rfl))⟩,
      .inl ⟨wants_guard false rfl rfl rfl (av_rs 25 25 rfl rfl), does_move _ (.inl rfl) rfl rfl rfl rfl (ar_tmp (av_fs 8 rfl))⟩,
      .inl ⟨wants_guard false rfl rfl rfl (av_rs 25 25 rfl rfl), does_index (m := k) _ _ Try.underlying55 DagM_size_api_Fun rfl rfl rfl rfl rfl _ (by omega) rfl (by omega) (sl_slc (av_fs 5 rfl) (ar_tmp (av_rs 31 31 rfl rfl))) (ar_tmp (av_rs 32 32 rfl rfl))⟩,
      .inl ⟨wants_guard false rfl rfl rfl (av_rs 25 25 rfl rfl), does_field _ _ _ 2 DagM_f_api_Fun_2 rfl rfl rfl rfl rfl rfl (pt_pt (av_rs 33 33 rfl rfl))⟩,
      .inl ⟨wants_guard false rfl rfl rfl (av_rs 25 25 rfl rfl), does_loadOne _ DagM_one_int rfl rfl rfl rfl rfl (pt_pt (av_rs 34 34 rfl rfl)) (rds_slc (av_fs 5 rfl) (hq_flatV1 cFun_len hx 2 (by omega) rfl))⟩,
      .inl ⟨wants_guard false rfl rfl rfl (av_rs 25 25 rfl rfl), does_cmp (m := x.res) (n := x.res) _ _ _ _ _ rfl rfl rfl rfl rfl rfl .i64 (ar_tmp (av_rs 30 30 rfl rfl)) (ar_tmp (av_rs 35 35 rfl rfl))⟩,
      .inl ⟨wants_plain rfl, does_pick false _ _ _ rfl rfl rfl rfl rfl (ar_tmp (av_rs 25 25 rfl rfl)) (ar_tmp (av_rs 36 36 rfl rfl))⟩,
      trivial⟩ ?_
    refine nx_then ?_
    refine t_cond_fe 46 rfl (by simp) ?_
    refine t_skip ?_
    refine nx_block ?_
    refine nx_then ?_
    refine t_region (F := ⟨_, _, _, _, _, _⟩) [.is (.tmp 0) (VP.eq v0 true true), .is (.tmp 1) (VP.eq v1 true true), .is (.tmp 12) (VP.int .i64 ((l.length : Nat) : Int)), .bor (.val v0) (S_fun l), .bor (.val v1) (S_fun l), .is (.tmp 14) (VP.bool (decide (((k : Nat) : Int) < ((l.length : Nat) : Int)))), .is (.tmp 15) (VP.int .i64 ((k : Nat) : Int)), .is (.tmp 5) (VP.int .i64 ((k : Nat) : Int)), .is (.tmp 16) (VP.eq v0 true true), .is (.tmp 17) (VP.int .i64 ((k : Nat) : Int)), .pt 18 (.row (.val v0) (k * 3)), .pt 19 (.row (.val v0) ((k * 3) + 0)), .is (.tmp 20) (VP.str x.name), .is (.tmp 21) (VP.eq v1 true true), .is (.tmp 22) (VP.int .i64 ((k : Nat) : Int)), .pt 23 (.row (.val v1) (k * 3)), .pt 24 (.row (.val v1) ((k * 3) + 0)), .is (.tmp 25) (VP.str x.name), .is (.tmp 26) (VP.bool (!(x.name.toList == x.name.toList))), .is (.tmp 27) (VP.bool (!(x.name.toList == x.name.toList))), .is (.tmp 28) (VP.eq v0 true true), .is (.tmp 29) (VP.int .i64 ((k : Nat) : Int)), .pt 30 (.row (.val v0) (k * 3)), .pt 31 (.row (.val v0) ((k * 3) + 1)), .is (.tmp 32) (O_int x.args), .is (.tmp 33) (VP.eq v1 true true), .is (.tmp 34) (VP.int .i64 ((k : Nat) : Int)), .pt 35 (.row (.val v1) (k * 3)), .pt 36 (.row (.val v1) ((k * 3) + 1)), .is (.tmp 37) (O_int x.args), .is (.tmp 38) (VP.bool (x.args == x.args)), .is (.tmp 39) (VP.bool false), .is (.tmp 40) (VP.bool false), .is (.tmp 41) (VP.bool false), .is (.tmp 42) (VP.eq v0 true true), .is (.tmp 43) (VP.int .i64 ((k : Nat) : Int)), .pt 44 (.row (.val v0) (k * 3)), .pt 45 (.row (.val v0) ((k * 3) + 2)), .is (.tmp 46) (VP.int .i64 x.res), .is (.tmp 47) (VP.eq v1 true true), .is (.tmp 48) (VP.int .i64 ((k : Nat) : Int)), .pt 49 (.row (.val v1) (k * 3)), .pt 50 (.row (.val v1) ((k * 3) + 2)), .is (.tmp 51) (VP.int .i64 x.res), .is (.tmp 52) (VP.bool (x.res != x.res)), .is (.tmp 53) (VP.bool (x.res != x.res))] [(1, .is (.tmp 13) (VP.int .i64 ((k : Nat) : Int)))] [(0, .is (.tmp 54) (VP.int .i64 (((k + 1) : Nat) : Int))), (1, .is (.tmp 13) (VP.int .i64 (((k + 1) : Nat) : Int)))] [] [0, 1, 2, 4, 5, 6, 7, 8, 9, 10, 11, 12, 13, 14, 15, 16, 17, 18, 19, 20, 21, 22, 23, 24, 25, 26, 27, 28, 29, 30, 31, 32, 33, 34, 35, 36, 37, 38, 39, 40, 41, 42, 43, 44, 45, 46] [3] [[], [0]] [[1], []] rfl rfl follow rfl ⟨
      .inl ⟨wants_plain rfl, does_addE (m := ((k : Nat) : Int)) (n := 1) (x := (((k + 1) : Nat) : Int)) (by omega) _ _ _ _ rfl rfl rfl rfl rfl (by omega) (ar_tmp (av_os 0 1 rfl rfl)) (ar_const (fun _ _ => rfl))⟩,
      .inl ⟨wants_plain rfl, does_move _ (.inl rfl) rfl rfl rfl rfl (ar_tmp (av_rs 0 0 rfl rfl))⟩,
      trivial⟩ ?_
    refine nx_round (τ := {k : Nat // k ≤ l.length}) (I := fun ⟨k, _⟩ => [.is (.tmp 0) (VP.eq v0 true true), .is (.tmp 1) (VP.eq v1 true true), .is (.tmp 12) (VP.int .i64 ((l.length : Nat) : Int)), .is (.tmp 13) (VP.int .i64 ((k : Nat) : Int)), .bor (.val v0) (S_fun l), .bor (.val v1) (S_fun l)]) (μ := fun ⟨k, _⟩ => l.length - k) (s := ⟨k, hk⟩) (⟨k + 1, by omega⟩) ?_ [0, 1, 2, 47, 3, 4] ?_
    · exact (show l.length - (k + 1) < l.length - k by omega)
    · exact rfl
  · have hc1 := of_decide_eq_false hb1
    refine t_exit ?_
    refine ex_then ?_
    refine ex_then ?_
    refine ex_block ?_
    refine nx_then ?_
    refine t_pick [4, 5] rfl ?_
    refine t_seq ?_
    refine t_region (F := ⟨_, _, _, _, _, _⟩) [.bor (.val v0) (S_fun l), .bor (.val v1) (S_fun l)] [] [(0, .is (.tmp 4) (VP.bool true))] [] [0, 1] [] [[]] [[]] rfl rfl follow rfl ⟨
      .inl ⟨wants_plain rfl, does_move _ (.inr rfl) rfl rfl rfl rfl (ar_const (fun _ _ => rfl))⟩,
      trivial⟩ ?_
    refine nx_then ?_
    refine t_ret ?_
    exact rt_post [HA.of (VP.bool true)] [[]] [] [] rfl ⟨(rv_vp 2 rfl), trivial⟩ (by decide) rfl rfl

set_option maxRecDepth 100000 in
set_option maxHeartbeats 4000000 in
theorem dl_alike (l : List FunD) : SpecO Try.prog 22 [.bo (S_fun l), .bo (S_fun l)] [] [] [] (HA.of (VP.bool true)) := by
  refine spec_of 8 Try.func22 rfl Try.ntmps22 rfl fun w0 S0 Z0 Bf => ?_
  refine b_name fun v0 => ?_
  refine t_pick [2, 0, 1] rfl ?_
  refine b_name fun v1 => ?_
  refine t_seq ?_
  refine t_region (F := ⟨_, _, _, _, _, _⟩) [.bor (.val v1) (S_fun l), .is (.tmp 1) (VP.eq v1 true true), .bor (.val v0) (S_fun l), .is (.tmp 0) (VP.eq v0 true true)] [] [(0, .is (.tmp 4) (VP.bool false))] [] [0, 1, 2, 3] [] [[]] [[]] rfl rfl follow rfl ⟨
    .inl ⟨wants_plain rfl, does_move _ (.inr rfl) rfl rfl rfl rfl (ar_const (fun _ _ => rfl))⟩,
    trivial⟩ ?_
  refine nx_then ?_
  refine t_seq ?_
  refine t_region (F := ⟨_, _, _, _, _, _⟩) [.bor (.val v1) (S_fun l), .is (.tmp 1) (VP.eq v1 true true), .bor (.val v0) (S_fun l), .is (.tmp 0) (VP.eq v0 true true)] [(3, .is (.tmp 4) (VP.bool false))] [(0, .is (.tmp 5) (VP.eq v0 true true)), (1, .is (.tmp 6) (VP.eq v1 true true)), (2, .is (.tmp 7) (VP.bool true)), (3, .is (.tmp 4) (VP.bool true))] [] [0, 1, 2, 3] [4] [[], [], [0, 1], [0, 1, 2]] [[2, 3], [2, 3], [3], []] rfl rfl follow rfl ⟨
    .inl ⟨wants_plain rfl, does_move _ (.inl rfl) rfl rfl rfl rfl (ar_tmp (av_fs 3 rfl))⟩,
    .inl ⟨wants_plain rfl, does_move _ (.inl rfl) rfl rfl rfl rfl (ar_tmp (av_fs 1 rfl))⟩,
    .inl ⟨wants_plain rfl, does_call (dl_funs l) (fun _ _ _ _ h => h) rfl DagM_hb_collator_collatorlaw06_funs rfl rfl rfl rfl ar_clo (ars_cons (pa_bor (av_fs 2 rfl) (ar_tmp (av_rs 0 0 rfl rfl))) (ars_cons (pa_bor (av_fs 0 rfl) (ar_tmp (av_rs 1 1 rfl rfl))) ars_nil)) trivial⟩,
    .inl ⟨wants_plain rfl, does_move _ (.inr rfl) rfl rfl rfl rfl (ar_tmp (av_rs 2 2 rfl rfl))⟩,
    trivial⟩ ?_
  refine t_pick [0, 2, 7] rfl ?_
  refine nx_then ?_
  refine t_ret ?_
  exact rt_post [HA.of (VP.bool true)] [[]] [] [] rfl ⟨(rv_vp 2 rfl), trivial⟩ (by decide) rfl rfl

set_option maxRecDepth 100000 in
set_option maxHeartbeats 4000000 in
theorem dl_speaks  : SpecO Try.prog 7 [] [] [] [] (HA.of (VP.bool true)) := by
  refine spec_of 41 Try.func7 rfl Try.ntmps7 rfl fun w0 S0 Z0 Bf => ?_
  refine t_seq ?_
  refine t_region (F := ⟨_, _, _, _, _, _⟩) [] [] [(0, .is (.tmp 0) (VP.bool false))] [] [] [] [[]] [[]] rfl rfl follow rfl ⟨
    .inl ⟨wants_plain rfl, does_move _ (.inr rfl) rfl rfl rfl rfl (ar_const (fun _ _ => rfl))⟩,
    trivial⟩ ?_
  refine nx_then ?_
  refine t_seq ?_
  refine t_region (F := ⟨_, _, _, _, _, _⟩) [.is (.tmp 0) (VP.bool false)] [] [(0, .own 101 (.tmp 6) (Arn (newA 9))), (1, .eq 1 (.tmp 6))] [] [0] [] [[], [0]] [[1], []] rfl rfl follow rfl ⟨
    .inl ⟨wants_plain rfl, does_callG [] [] [] 101 [0] (da_New 9) rfl DagM_hb_collator_dag_New rfl rfl rfl rfl rfl ar_clo (ars_cons (pa_vp (ar_const (fun _ _ => rfl))) ars_nil) trivial trivial⟩,
    .inl ⟨wants_plain rfl, does_eqTmp (k := 6) _ rfl (.inr rfl) rfl rfl rfl rfl rfl⟩,
    trivial⟩ ?_
  refine nx_then ?_
  refine t_pick [1, 0, 2] rfl ?_
  refine t_nameP rfl fun va => ?_
  refine t_pick [3, 1, 0, 2] rfl ?_
  refine t_eq ?_
  refine t_pick [0, 2, 3] rfl ?_
  refine t_seq ?_
  refine t_region (F := ⟨_, _, _, _, _, _⟩) [.is (.tmp 1) (VP.ptr va), .is (.tmp 0) (VP.bool false)] [(2, .own 101 (.val va) (Arn (newA 9)))] [(0, .is (.tmp 8) (VP.ptr va)), (1, .is (.tmp 9) (VP.agg [VP.int .i64 1, VP.int .i64 0, VP.nilS, VP.str (ByteArray.mk #[])])), (2, .own 102 (.tmp 10) (HA.of (VP.tup [VP.int .i64 ((newA 9).termR (⟨1, 0, [], (ByteArray.mk #[])⟩ : TermD)), VP.int .i64 ((newA 9).termE (⟨1, 0, [], (ByteArray.mk #[])⟩ : TermD))]))), (2, .own 101 (.val va) (Arn ((newA 9).term (⟨1, 0, [], (ByteArray.mk #[])⟩ : TermD)))), (3, .is (.tmp 7) (VP.tup [VP.int .i64 ((newA 9).termR (⟨1, 0, [], (ByteArray.mk #[])⟩ : TermD)), VP.int .i64 ((newA 9).termE (⟨1, 0, [], (ByteArray.mk #[])⟩ : TermD))])), (4, .is (.tmp 11) (VP.int .i64 ((newA 9).termR (⟨1, 0, [], (ByteArray.mk #[])⟩ : TermD)))), (5, .is (.tmp 12) (VP.int .i64 ((newA 9).termE (⟨1, 0, [], (ByteArray.mk #[])⟩ : TermD)))), (6, .is (.tmp 2) (VP.int .i64 ((newA 9).termR (⟨1, 0, [], (ByteArray.mk #[])⟩ : TermD)))), (7, .is (.tmp 3) (VP.int .i64 ((newA 9).termE (⟨1, 0, [], (ByteArray.mk #[])⟩ : TermD))))] [] [0, 2] [1] [[], [], [0, 1], [0, 1, 2], [0, 1, 2, 3], [0, 1, 2, 3], [0, 1, 2, 3, 4], [0, 1, 2, 3, 4, 5, 6]] [[2, 3, 4, 5, 6, 7], [2, 3, 4, 5, 6, 7], [3, 4, 5, 6, 7], [4, 5, 6, 7], [6, 7], [7], [7], []] rfl rfl follow rfl ⟨
    .inl ⟨wants_plain rfl, does_move _ (.inl rfl) rfl rfl rfl rfl (ar_tmp (av_fs 0 rfl))⟩,
    .inl ⟨wants_plain rfl, does_build [VP.int .i64 0, VP.int .i64 0, VP.nilS, VP.str (ByteArray.mk #[])] DagM_zero_api_Term DagM_pl_api_Term rfl rfl rfl rfl rfl (fun _ _ => ⟨rfl, rfl, rfl, rfl, trivial⟩) (.cons 0 [HA.of (VP.int .i64 1)] none rfl rfl (cv_one rfl (mv_vp (ar_const (fun _ _ => rfl)))) (.nil _))⟩,
    .inl ⟨wants_plain rfl, does_callG [] [101] [101] 102 [0, 1] (da_Term (v := va) (d := (newA 9)) (⟨1, 0, [], (ByteArray.mk #[])⟩ : TermD) (newA_ok 9 (by decide)) (by decide) (by decide)) rfl DagM_hb___collator_dag_Arena__Term rfl rfl rfl rfl rfl ar_clo (ars_cons (pa_vp (ar_tmp (av_rs 0 0 rfl rfl))) (ars_cons (pa_vp (ar_w (ar_tmp (av_rs 1 1 rfl rfl)) term_nil)) ars_nil)) trivial ⟨(av_os 0 2 rfl rfl), trivial⟩⟩,
    .inl ⟨wants_plain rfl, does_move _ (.inl rfl) rfl rfl rfl rfl (ar_of (av_rs 2 2 rfl rfl))⟩,
    .inl ⟨wants_plain rfl, does_extract (ps := [VP.int .i64 ((newA 9).termR (⟨1, 0, [], (ByteArray.mk #[])⟩ : TermD)), VP.int .i64 ((newA 9).termE (⟨1, 0, [], (ByteArray.mk #[])⟩ : TermD))]) _ 0 rfl rfl rfl rfl rfl (ar_tmp (av_rs 4 3 rfl rfl)) rfl⟩,
    .inl ⟨wants_plain rfl, does_extract (ps := [VP.int .i64 ((newA 9).termR (⟨1, 0, [], (ByteArray.mk #[])⟩ : TermD)), VP.int .i64 ((newA 9).termE (⟨1, 0, [], (ByteArray.mk #[])⟩ : TermD))]) _ 1 rfl rfl rfl rfl rfl (ar_tmp (av_rs 4 3 rfl rfl)) rfl⟩,
    .inl ⟨wants_plain rfl, does_move _ (.inr rfl) rfl rfl rfl rfl (ar_tmp (av_rs 5 4 rfl rfl))⟩,
    .inl ⟨wants_plain rfl, does_move _ (.inr rfl) rfl rfl rfl rfl (ar_tmp (av_rs 6 5 rfl rfl))⟩,
    trivial⟩ ?_
  refine t_pick [0, 1, 4, 5, 9, 10] rfl ?_
  refine nx_then ?_
  refine t_pick [0, 1, 3, 4, 5] rfl ?_
  refine t_seq ?_
  refine t_region (F := ⟨_, _, _, _, _, _⟩) [.is (.tmp 1) (VP.ptr va), .is (.tmp 0) (VP.bool false), .is (.tmp 2) (VP.int .i64 ((newA 9).termR (⟨1, 0, [], (ByteArray.mk #[])⟩ : TermD))), .is (.tmp 3) (VP.int .i64 ((newA 9).termE (⟨1, 0, [], (ByteArray.mk #[])⟩ : TermD)))] [(2, .own 101 (.val va) (Arn ((newA 9).term (⟨1, 0, [], (ByteArray.mk #[])⟩ : TermD))))] [(0, .is (.tmp 14) (VP.ptr va)), (1, .is (.tmp 15) (VP.agg [VP.int .i64 1, VP.int .i64 0, VP.nilS, VP.str (ByteArray.mk #[])])), (2, .own 103 (.tmp 16) (HA.of (VP.tup [VP.int .i64 (((newA 9).term (⟨1, 0, [], (ByteArray.mk #[])⟩ : TermD)).termR (⟨1, 0, [], (ByteArray.mk #[])⟩ : TermD)), VP.int .i64 (((newA 9).term (⟨1, 0, [], (ByteArray.mk #[])⟩ : TermD)).termE (⟨1, 0, [], (ByteArray.mk #[])⟩ : TermD))]))), (2, .own 101 (.val va) (Arn (((newA 9).term (⟨1, 0, [], (ByteArray.mk #[])⟩ : TermD)).term (⟨1, 0, [], (ByteArray.mk #[])⟩ : TermD)))), (3, .is (.tmp 13) (VP.tup [VP.int .i64 (((newA 9).term (⟨1, 0, [], (ByteArray.mk #[])⟩ : TermD)).termR (⟨1, 0, [], (ByteArray.mk #[])⟩ : TermD)), VP.int .i64 (((newA 9).term (⟨1, 0, [], (ByteArray.mk #[])⟩ : TermD)).termE (⟨1, 0, [], (ByteArray.mk #[])⟩ : TermD))])), (4, .is (.tmp 17) (VP.int .i64 (((newA 9).term (⟨1, 0, [], (ByteArray.mk #[])⟩ : TermD)).termR (⟨1, 0, [], (ByteArray.mk #[])⟩ : TermD)))), (5, .is (.tmp 18) (VP.int .i64 (((newA 9).term (⟨1, 0, [], (ByteArray.mk #[])⟩ : TermD)).termE (⟨1, 0, [], (ByteArray.mk #[])⟩ : TermD)))), (6, .is (.tmp 4) (VP.int .i64 (((newA 9).term (⟨1, 0, [], (ByteArray.mk #[])⟩ : TermD)).termR (⟨1, 0, [], (ByteArray.mk #[])⟩ : TermD)))), (7, .is (.tmp 5) (VP.int .i64 (((newA 9).term (⟨1, 0, [], (ByteArray.mk #[])⟩ : TermD)).termE (⟨1, 0, [], (ByteArray.mk #[])⟩ : TermD))))] [] [0, 1, 3, 4] [2] [[], [], [0, 1], [0, 1, 2], [0, 1, 2, 3], [0, 1, 2, 3], [0, 1, 2, 3, 4], [0, 1, 2, 3, 4, 5, 6]] [[2, 3, 4, 5, 6, 7], [2, 3, 4, 5, 6, 7], [3, 4, 5, 6, 7], [4, 5, 6, 7], [6, 7], [7], [7], []] rfl rfl follow rfl ⟨
    .inl ⟨wants_plain rfl, does_move _ (.inl rfl) rfl rfl rfl rfl (ar_tmp (av_fs 0 rfl))⟩,
    .inl ⟨wants_plain rfl, does_build [VP.int .i64 0, VP.int .i64 0, VP.nilS, VP.str (ByteArray.mk #[])] DagM_zero_api_Term DagM_pl_api_Term rfl rfl rfl rfl rfl (fun _ _ => ⟨rfl, rfl, rfl, rfl, trivial⟩) (.cons 0 [HA.of (VP.int .i64 1)] none rfl rfl (cv_one rfl (mv_vp (ar_const (fun _ _ => rfl)))) (.nil _))⟩,
    .inl ⟨wants_plain rfl, does_callG [] [101] [101] 103 [0, 1] (da_Term (v := va) (d := ((newA 9).term (⟨1, 0, [], (ByteArray.mk #[])⟩ : TermD))) (⟨1, 0, [], (ByteArray.mk #[])⟩ : TermD) (term_ok (newA_ok 9 (by decide)) _) (by decide) (by decide)) rfl DagM_hb___collator_dag_Arena__Term rfl rfl rfl rfl rfl ar_clo (ars_cons (pa_vp (ar_tmp (av_rs 0 0 rfl rfl))) (ars_cons (pa_vp (ar_w (ar_tmp (av_rs 1 1 rfl rfl)) term_nil)) ars_nil)) trivial ⟨(av_os 0 2 rfl rfl), trivial⟩⟩,
    .inl ⟨wants_plain rfl, does_move _ (.inl rfl) rfl rfl rfl rfl (ar_of (av_rs 2 2 rfl rfl))⟩,
    .inl ⟨wants_plain rfl, does_extract (ps := [VP.int .i64 (((newA 9).term (⟨1, 0, [], (ByteArray.mk #[])⟩ : TermD)).termR (⟨1, 0, [], (ByteArray.mk #[])⟩ : TermD)), VP.int .i64 (((newA 9).term (⟨1, 0, [], (ByteArray.mk #[])⟩ : TermD)).termE (⟨1, 0, [], (ByteArray.mk #[])⟩ : TermD))]) _ 0 rfl rfl rfl rfl rfl (ar_tmp (av_rs 4 3 rfl rfl)) rfl⟩,
    .inl ⟨wants_plain rfl, does_extract (ps := [VP.int .i64 (((newA 9).term (⟨1, 0, [], (ByteArray.mk #[])⟩ : TermD)).termR (⟨1, 0, [], (ByteArray.mk #[])⟩ : TermD)), VP.int .i64 (((newA 9).term (⟨1, 0, [], (ByteArray.mk #[])⟩ : TermD)).termE (⟨1, 0, [], (ByteArray.mk #[])⟩ : TermD))]) _ 1 rfl rfl rfl rfl rfl (ar_tmp (av_rs 4 3 rfl rfl)) rfl⟩,
    .inl ⟨wants_plain rfl, does_move _ (.inr rfl) rfl rfl rfl rfl (ar_tmp (av_rs 5 4 rfl rfl))⟩,
    .inl ⟨wants_plain rfl, does_move _ (.inr rfl) rfl rfl rfl rfl (ar_tmp (av_rs 6 5 rfl rfl))⟩,
    trivial⟩ ?_
  refine t_pick [0, 1, 2, 3, 6, 7, 11, 12] rfl ?_
  refine nx_then ?_
  refine t_pick [0, 1, 2, 3, 5, 6, 7] rfl ?_
  refine t_seq ?_
  refine t_region (F := ⟨_, _, _, _, _, _⟩) [.is (.tmp 1) (VP.ptr va), .is (.tmp 2) (VP.int .i64 ((newA 9).termR (⟨1, 0, [], (ByteArray.mk #[])⟩ : TermD))), .is (.tmp 3) (VP.int .i64 ((newA 9).termE (⟨1, 0, [], (ByteArray.mk #[])⟩ : TermD))), .own 101 (.val va) (Arn (((newA 9).term (⟨1, 0, [], (ByteArray.mk #[])⟩ : TermD)).term (⟨1, 0, [], (ByteArray.mk #[])⟩ : TermD))), .is (.tmp 4) (VP.int .i64 (((newA 9).term (⟨1, 0, [], (ByteArray.mk #[])⟩ : TermD)).termR (⟨1, 0, [], (ByteArray.mk #[])⟩ : TermD))), .is (.tmp 5) (VP.int .i64 (((newA 9).term (⟨1, 0, [], (ByteArray.mk #[])⟩ : TermD)).termE (⟨1, 0, [], (ByteArray.mk #[])⟩ : TermD)))] [(22, .is (.tmp 0) (VP.bool false))] [(0, .is (.tmp 19) (VP.int .i64 ((newA 9).termE (⟨1, 0, [], (ByteArray.mk #[])⟩ : TermD)))), (1, .is (.tmp 20) (VP.bool (((newA 9).termE (⟨1, 0, [], (ByteArray.mk #[])⟩ : TermD)) == 0))), (2, .is (.tmp 21) (VP.bool (((newA 9).termE (⟨1, 0, [], (ByteArray.mk #[])⟩ : TermD)) == 0))), (3, .is (.tmp 22) (VP.int .i64 (((newA 9).term (⟨1, 0, [], (ByteArray.mk #[])⟩ : TermD)).termE (⟨1, 0, [], (ByteArray.mk #[])⟩ : TermD)))), (4, .is (.tmp 23) (VP.bool ((((newA 9).term (⟨1, 0, [], (ByteArray.mk #[])⟩ : TermD)).termE (⟨1, 0, [], (ByteArray.mk #[])⟩ : TermD)) == 0))), (5, .is (.tmp 24) (VP.bool ((((newA 9).term (⟨1, 0, [], (ByteArray.mk #[])⟩ : TermD)).termE (⟨1, 0, [], (ByteArray.mk #[])⟩ : TermD)) == 0))), (6, .is (.tmp 25) (VP.bool ((((newA 9).term (⟨1, 0, [], (ByteArray.mk #[])⟩ : TermD)).termE (⟨1, 0, [], (ByteArray.mk #[])⟩ : TermD)) == 0))), (7, .is (.tmp 26) (VP.int .i64 ((newA 9).termR (⟨1, 0, [], (ByteArray.mk #[])⟩ : TermD)))), (8, .is (.tmp 27) (VP.int .i64 (((newA 9).term (⟨1, 0, [], (ByteArray.mk #[])⟩ : TermD)).termR (⟨1, 0, [], (ByteArray.mk #[])⟩ : TermD)))), (9, .is (.tmp 28) (VP.bool (((newA 9).termR (⟨1, 0, [], (ByteArray.mk #[])⟩ : TermD)) == (((newA 9).term (⟨1, 0, [], (ByteArray.mk #[])⟩ : TermD)).termR (⟨1, 0, [], (ByteArray.mk #[])⟩ : TermD))))), (10, .is (.tmp 29) (VP.bool (((newA 9).termR (⟨1, 0, [], (ByteArray.mk #[])⟩ : TermD)) == (((newA 9).term (⟨1, 0, [], (ByteArray.mk #[])⟩ : TermD)).termR (⟨1, 0, [], (ByteArray.mk #[])⟩ : TermD))))), (11, .is (.tmp 30) (VP.bool (((newA 9).termR (⟨1, 0, [], (ByteArray.mk #[])⟩ : TermD)) == (((newA 9).term (⟨1, 0, [], (ByteArray.mk #[])⟩ : TermD)).termR (⟨1, 0, [], (ByteArray.mk #[])⟩ : TermD))))), (12, .is (.tmp 31) (VP.ptr va)), (13, .is (.tmp 32) (VP.int .i64 (((((newA 9).term (⟨1, 0, [], (ByteArray.mk #[])⟩ : TermD)).term (⟨1, 0, [], (ByteArray.mk #[])⟩ : TermD)).terms.length : Nat) : Int))), (14, .is (.tmp 33) (VP.bool ((((((newA 9).term (⟨1, 0, [], (ByteArray.mk #[])⟩ : TermD)).term (⟨1, 0, [], (ByteArray.mk #[])⟩ : TermD)).terms.length : Nat) : Int) == 1))), (15, .is (.tmp 34) (VP.bool ((((((newA 9).term (⟨1, 0, [], (ByteArray.mk #[])⟩ : TermD)).term (⟨1, 0, [], (ByteArray.mk #[])⟩ : TermD)).terms.length : Nat) : Int) == 1))), (16, .is (.tmp 35) (VP.bool ((((((newA 9).term (⟨1, 0, [], (ByteArray.mk #[])⟩ : TermD)).term (⟨1, 0, [], (ByteArray.mk #[])⟩ : TermD)).terms.length : Nat) : Int) == 1))), (17, .is (.tmp 36) (VP.ptr va)), (18, .own 104 (.tmp 37) (R_sort ((((newA 9).term (⟨1, 0, [], (ByteArray.mk #[])⟩ : TermD)).term (⟨1, 0, [], (ByteArray.mk #[])⟩ : TermD)).sorts))), (19, .is (.tmp 38) (VP.int .i64 ((((((newA 9).term (⟨1, 0, [], (ByteArray.mk #[])⟩ : TermD)).term (⟨1, 0, [], (ByteArray.mk #[])⟩ : TermD)).sorts).length : Nat) : Int))), (20, .is (.tmp 39) (VP.bool (((((((newA 9).term (⟨1, 0, [], (ByteArray.mk #[])⟩ : TermD)).term (⟨1, 0, [], (ByteArray.mk #[])⟩ : TermD)).sorts).length : Nat) : Int) == 2))), (21, .is (.tmp 40) (VP.bool (((((((newA 9).term (⟨1, 0, [], (ByteArray.mk #[])⟩ : TermD)).term (⟨1, 0, [], (ByteArray.mk #[])⟩ : TermD)).sorts).length : Nat) : Int) == 2))), (22, .is (.tmp 0) (VP.bool (((((((newA 9).term (⟨1, 0, [], (ByteArray.mk #[])⟩ : TermD)).term (⟨1, 0, [], (ByteArray.mk #[])⟩ : TermD)).sorts).length : Nat) : Int) == 2)))] [] [0, 2, 3, 4, 5, 6] [1] [[], [0], [0, 1], [0, 1, 2], [0, 1, 2, 3], [0, 1, 2, 3, 4], [0, 1, 2, 3, 4, 5], [0, 1, 2, 3, 4, 5, 6], [0, 1, 2, 3, 4, 5, 6], [0, 1, 2, 3, 4, 5, 6, 7, 8], [0, 1, 2, 3, 4, 5, 6, 7, 8, 9], [0, 1, 2, 3, 4, 5, 6, 7, 8, 9, 10], [0, 1, 2, 3, 4, 5, 6, 7, 8, 9, 10, 11], [0, 1, 2, 3, 4, 5, 6, 7, 8, 9, 10, 11, 12], [0, 1, 2, 3, 4, 5, 6, 7, 8, 9, 10, 11, 12, 13], [0, 1, 2, 3, 4, 5, 6, 7, 8, 9, 10, 11, 12, 13, 14], [0, 1, 2, 3, 4, 5, 6, 7, 8, 9, 10, 11, 12, 13, 14, 15], [0, 1, 2, 3, 4, 5, 6, 7, 8, 9, 10, 11, 12, 13, 14, 15, 16], [0, 1, 2, 3, 4, 5, 6, 7, 8, 9, 10, 11, 12, 13, 14, 15, 16, 17], [0, 1, 2, 3, 4, 5, 6, 7, 8, 9, 10, 11, 12, 13, 14, 15, 16, 17, 18], [0, 1, 2, 3, 4, 5, 6, 7, 8, 9, 10, 11, 12, 13, 14, 15, 16, 17, 18, 19], [0, 1, 2, 3, 4, 5, 6, 7, 8, 9, 10, 11, 12, 13, 14, 15, 16, 17, 18, 19, 20], [0, 1, 2, 3, 4, 5, 6, 7, 8, 9, 10, 11, 12, 13, 14, 15, 16, 17, 18, 19, 20, 21]] [[1, 2, 3, 4, 5, 6, 7, 8, 9, 10, 11, 12, 13, 14, 15, 16, 17, 18, 19, 20, 21, 22], [2, 3, 4, 5, 6, 7, 8, 9, 10, 11, 12, 13, 14, 15, 16, 17, 18, 19, 20, 21, 22], [3, 4, 5, 6, 7, 8, 9, 10, 11, 12, 13, 14, 15, 16, 17, 18, 19, 20, 21, 22], [4, 5, 6, 7, 8, 9, 10, 11, 12, 13, 14, 15, 16, 17, 18, 19, 20, 21, 22], [5, 6, 7, 8, 9, 10, 11, 12, 13, 14, 15, 16, 17, 18, 19, 20, 21, 22], [6, 7, 8, 9, 10, 11, 12, 13, 14, 15, 16, 17, 18, 19, 20, 21, 22], [7, 8, 9, 10, 11, 12, 13, 14, 15, 16, 17, 18, 19, 20, 21, 22], [9, 10, 11, 12, 13, 14, 15, 16, 17, 18, 19, 20, 21, 22], [9, 10, 11, 12, 13, 14, 15, 16, 17, 18, 19, 20, 21, 22], [10, 11, 12, 13, 14, 15, 16, 17, 18, 19, 20, 21, 22], [11, 12, 13, 14, 15, 16, 17, 18, 19, 20, 21, 22], [12, 13, 14, 15, 16, 17, 18, 19, 20, 21, 22], [13, 14, 15, 16, 17, 18, 19, 20, 21, 22], [14, 15, 16, 17, 18, 19, 20, 21, 22], [15, 16, 17, 18, 19, 20, 21, 22], [16, 17, 18, 19, 20, 21, 22], [17, 18, 19, 20, 21, 22], [18, 19, 20, 21, 22], [19, 20, 21, 22], [20, 21, 22], [21, 22], [22], []] rfl rfl follow rfl ⟨
    .inl ⟨wants_plain rfl, does_move _ (.inl rfl) rfl rfl rfl rfl (ar_tmp (av_fs 2 rfl))⟩,
    .inl ⟨wants_plain rfl, does_cmp (m := ((newA 9).termE (⟨1, 0, [], (ByteArray.mk #[])⟩ : TermD))) (n := 0) _ _ _ _ _ rfl rfl rfl rfl rfl rfl .i64 (ar_tmp (av_rs 0 0 rfl rfl)) (ar_const (fun _ _ => rfl))⟩,
    .inl ⟨wants_plain rfl, does_move _ (.inl rfl) rfl rfl rfl rfl (ar_tmp (av_rs 1 1 rfl rfl))⟩,
    .inl ⟨wants_guard true rfl rfl rfl (av_bool (by decide +kernel) (av_rs 2 2 rfl rfl)), does_move _ (.inl rfl) rfl rfl rfl rfl (ar_tmp (av_fs 5 rfl))⟩,
    .inl ⟨wants_guard true rfl rfl rfl (av_bool (by decide +kernel) (av_rs 2 2 rfl rfl)), does_cmp (m := (((newA 9).term (⟨1, 0, [], (ByteArray.mk #[])⟩ : TermD)).termE (⟨1, 0, [], (ByteArray.mk #[])⟩ : TermD))) (n := 0) _ _ _ _ _ rfl rfl rfl rfl rfl rfl .i64 (ar_tmp (av_rs 3 3 rfl rfl)) (ar_const (fun _ _ => rfl))⟩,
    .inl ⟨wants_plain rfl, does_pick true _ _ _ rfl rfl rfl rfl rfl (ar_tmp (av_bool (by decide +kernel) (av_rs 2 2 rfl rfl))) (ar_tmp (av_rs 4 4 rfl rfl))⟩,
    .inl ⟨wants_plain rfl, does_move _ (.inl rfl) rfl rfl rfl rfl (ar_tmp (av_rs 5 5 rfl rfl))⟩,
    .inl ⟨wants_guard true rfl rfl rfl (av_bool (by decide +kernel) (av_rs 6 6 rfl rfl)), does_move _ (.inl rfl) rfl rfl rfl rfl (ar_tmp (av_fs 1 rfl))⟩,
    .inl ⟨wants_guard true rfl rfl rfl (av_bool (by decide +kernel) (av_rs 6 6 rfl rfl)), does_move _ (.inl rfl) rfl rfl rfl rfl (ar_tmp (av_fs 4 rfl))⟩,
    .inl ⟨wants_guard true rfl rfl rfl (av_bool (by decide +kernel) (av_rs 6 6 rfl rfl)), does_cmp (m := ((newA 9).termR (⟨1, 0, [], (ByteArray.mk #[])⟩ : TermD))) (n := (((newA 9).term (⟨1, 0, [], (ByteArray.mk #[])⟩ : TermD)).termR (⟨1, 0, [], (ByteArray.mk #[])⟩ : TermD))) _ _ _ _ _ rfl rfl rfl rfl rfl rfl .i64 (ar_tmp (av_rs 7 7 rfl rfl)) (ar_tmp (av_rs 8 8 rfl rfl))⟩,
    .inl ⟨wants_plain rfl, does_pick true _ _ _ rfl rfl rfl rfl rfl (ar_tmp (av_bool (by decide +kernel) (av_rs 6 6 rfl rfl))) (ar_tmp (av_rs 9 9 rfl rfl))⟩,
    .inl ⟨wants_plain rfl, does_move _ (.inl rfl) rfl rfl rfl rfl (ar_tmp (av_rs 10 10 rfl rfl))⟩,
    .inl ⟨wants_guard true rfl rfl rfl (av_bool (by decide +kernel) (av_rs 11 11 rfl rfl)), does_move _ (.inl rfl) rfl rfl rfl rfl (ar_tmp (av_fs 0 rfl))⟩,
    .inl ⟨wants_guard true rfl rfl rfl (av_bool (by decide +kernel) (av_rs 11 11 rfl rfl)), does_call (da_Len (v := va) (d := (((newA 9).term (⟨1, 0, [], (ByteArray.mk #[])⟩ : TermD)).term (⟨1, 0, [], (ByteArray.mk #[])⟩ : TermD)))) (fun _ _ _ _ h => h) rfl DagM_hb___collator_dag_Arena__Len rfl rfl rfl rfl ar_clo (ars_cons (pa_vp (ar_tmp (av_rs 12 12 rfl rfl))) ars_nil) ⟨(brw_own (av_fs 3 rfl) rfl), trivial⟩⟩,
    .inl ⟨wants_guard true rfl rfl rfl (av_bool (by decide +kernel) (av_rs 11 11 rfl rfl)), does_cmp (m := (((((newA 9).term (⟨1, 0, [], (ByteArray.mk #[])⟩ : TermD)).term (⟨1, 0, [], (ByteArray.mk #[])⟩ : TermD)).terms.length : Nat) : Int)) (n := 1) _ _ _ _ _ rfl rfl rfl rfl rfl rfl .i64 (ar_tmp (av_rs 13 13 rfl rfl)) (ar_const (fun _ _ => rfl))⟩,
    .inl ⟨wants_plain rfl, does_pick true _ _ _ rfl rfl rfl rfl rfl (ar_tmp (av_bool (by decide +kernel) (av_rs 11 11 rfl rfl))) (ar_tmp (av_rs 14 14 rfl rfl))⟩,
    .inl ⟨wants_plain rfl, does_move _ (.inl rfl) rfl rfl rfl rfl (ar_tmp (av_rs 15 15 rfl rfl))⟩,
    .inl ⟨wants_guard true rfl rfl rfl (av_bool (by decide +kernel) (av_rs 16 16 rfl rfl)), does_move _ (.inl rfl) rfl rfl rfl rfl (ar_tmp (av_fs 0 rfl))⟩,
    .inl ⟨wants_guard true rfl rfl rfl (av_bool (by decide +kernel) (av_rs 16 16 rfl rfl)), does_callG [] [] [] 104 [0] (da_Sorts (v := va) (d := (((newA 9).term (⟨1, 0, [], (ByteArray.mk #[])⟩ : TermD)).term (⟨1, 0, [], (ByteArray.mk #[])⟩ : TermD))) (by decide +kernel) (by decide +kernel)) rfl DagM_hb___collator_dag_Arena__Sorts rfl rfl rfl rfl rfl ar_clo (ars_cons (pa_vp (ar_tmp (av_rs 17 17 rfl rfl))) ars_nil) ⟨(brw_own (av_fs 3 rfl) rfl), trivial⟩ trivial⟩,
    .inl ⟨wants_guard true rfl rfl rfl (av_bool (by decide +kernel) (av_rs 16 16 rfl rfl)), does_len _ _ (by kernel_rfl) rfl rfl rfl rfl rfl (sl_tmp (av_rs 18 18 rfl rfl))⟩,
    .inl ⟨wants_guard true rfl rfl rfl (av_bool (by decide +kernel) (av_rs 16 16 rfl rfl)), does_cmp (m := ((((((newA 9).term (⟨1, 0, [], (ByteArray.mk #[])⟩ : TermD)).term (⟨1, 0, [], (ByteArray.mk #[])⟩ : TermD)).sorts).length : Nat) : Int)) (n := 2) _ _ _ _ _ rfl rfl rfl rfl rfl rfl .i64 (ar_tmp (av_rs 19 19 rfl rfl)) (ar_const (fun _ _ => rfl))⟩,
    .inl ⟨wants_plain rfl, does_pick true _ _ _ rfl rfl rfl rfl rfl (ar_tmp (av_bool (by decide +kernel) (av_rs 16 16 rfl rfl))) (ar_tmp (av_rs 20 20 rfl rfl))⟩,
    .inl ⟨wants_plain rfl, does_move _ (.inr rfl) rfl rfl rfl rfl (ar_tmp (av_rs 21 21 rfl rfl))⟩,
    trivial⟩ ?_
  refine t_pick [3, 24, 28] rfl ?_
  refine nx_then ?_
  refine t_pick [0, 2] rfl ?_
  refine t_ret ?_
  exact rt_post [HA.of (VP.bool true)] [[]] [] [] rfl ⟨(rv_eq (congrArg (fun b => HA.of (VP.bool b)) (by decide +kernel)) (rv_vp 1 rfl)), trivial⟩ (by decide) rfl rfl

end O
end Go.Proofs.Ytapmngmpomhjmaa

/- Laws in the logic over objects: what comes in is read and never turned. No program stands in this text. -/
namespace Go.Proofs.Ytapmngmpomhjmaa
open Go.RowKit
namespace O
/-- all that there was -/
abbrev was (W : World) : Foot := fun b => b < W.heap.size
theorem Turn.ext {S : Foot} {w w' : World} (h : Turn S w w') (hs : ∀ b, ¬ S b) : Ext w w' := ⟨h.os, h.tape, h.output, h.size, fun b hb => h.block b hb (hs b)⟩
theorem flat_all2 {α : Type} {P : Program} {W : World} {Z : Foot} {m : Nat} {e : TypeId} (f : α → List VP) (he : ∀ x : List Value, x.length = P.cellsOf e → Typed P W m e x → ∃ a, All2 Z (f a) x W) :
    ∀ (xs : List (List Value)), (∀ x ∈ xs, x.length = P.cellsOf e ∧ Typed P W m e x) → ∃ l : List α, l.length = xs.length ∧ All2 Z (l.flatMap f) xs.flatten W
  | [], _ => ⟨[], rfl, trivial⟩
  | x :: xs, h => by
    obtain ⟨l, h1, h2⟩ := flat_all2 f he xs fun y hy => h y (List.mem_cons_of_mem _ hy)
    obtain ⟨a, ha⟩ := he x (h x List.mem_cons_self).1 (h x List.mem_cons_self).2
    exact ⟨a :: l, by simp [h1], by rw [List.flatMap_cons, List.flatten_cons]; exact ha.app h2⟩
/-- a slice that came in -/
theorem ro_of {α : Type} {P : Program} {W : World} {T e : TypeId} {v : Value} (hT : P.underlying T = some (.slice e)) (f : α → List VP) (he : ∀ (m : Nat) (x : List Value), x.length = P.cellsOf e → Typed P W m e x → ∃ a, All2 (was W) (f a) x W) (h : Arg P W T v) :
    ∃ l : List α, l.length ≤ maxLen ∧ (VP.ro l.length (l.flatMap f)).p (was W) v W := by
  obtain ⟨a, cap, xs, m, rfl, h1, h2, h3, h4⟩ := h.slice hT
  obtain ⟨l, e1, e2⟩ := flat_all2 f (he m) xs h3
  refine ⟨l, by omega, a, cap, by rw [e1], by omega, h2, ?_⟩
  rcases Nat.eq_zero_or_pos xs.flatten.length with h0 | h0
  · left
    have := e2.len
    exact List.eq_nil_of_length_eq_zero (by omega)
  · right
    obtain ⟨b, off, ea, hb, hc⟩ := h4.all h0
    exact ⟨b, off, ea, hb, fun j x hx => by
      obtain ⟨u, hu, hp⟩ := e2.get hx
      exact ⟨u, hc j u hu, hp⟩⟩
/-- what a law's walk says of all that comes in -/
theorem SpecO.law {P : Program} {f : FuncId} {ps : List VP} (h : SpecO P f (ps.map Par.vp) [] [] [] (HA.of (VP.bool true))) {vs : List Value} {W : World} (ha : All2 (was W) ps vs W) :
    Calls P f vs.toArray W fun e W' => e = .returned (.bool true) ∧ Ext W W' := by
  have hl := ha.len
  refine (h vs.toArray W (was W) (fun _ => False) (fun _ => False) (by simp [hl]) (fun j q hq => ?_) (fun y hy => by cases hy) ?_ (fun _ h => h) (fun _ h => h.elim) (fun _ h => h.elim)).mono fun e w' ⟨v, Z', S', T, h1, _, _, _, h2, _, _, h3⟩ => ⟨?_, h3.ext fun _ h => h⟩
  · rw [List.getElem?_map, Option.map_eq_some_iff] at hq
    obtain ⟨x, hx, rfl⟩ := hq
    obtain ⟨v, hv, hp⟩ := ha.get hx
    exact ⟨v, by simpa using hv, hp⟩
  · have : ∀ {ps : List VP} {vs : List Value}, All2 (was W) ps vs W → AllS (was W) ((ps.map Par.vp).map Par.mvR) vs W fun _ => False := by
      intro ps vs h
      have e : (ps.map Par.vp).map Par.mvR = (ps.map fun _ => VP.any).map HA.of := by simp [Par.mvR]
      rw [e]
      exact AllS.of_all2 (fun _ h => h) (All2.of_get (by simp [h.len]) fun i x v hx _ => by
        rw [List.getElem?_map, Option.map_eq_some_iff] at hx
        obtain ⟨_, _, rfl⟩ := hx; trivial)
    simpa using this ha
  · obtain ⟨h2, _⟩ := h2
    rw [h1, h2]
theorem typed_str {P : Program} {W : World} {Z : Foot} {m : Nat} {t : TypeId} {x : List Value} (ht : P.underlying t = some .string) (h : Typed P W m t x) : ∃ s, All2 Z [VP.str s] x W := by
  obtain ⟨s, rfl, _⟩ := h.string ht
  exact ⟨s, rfl, trivial⟩
theorem typed_int {P : Program} {W : World} {Z : Foot} {m : Nat} {t : TypeId} {k : IntKind} {x : List Value} (ht : P.underlying t = some (.int k)) (h : Typed P W m t x) : ∃ n, All2 Z [VP.int k n] x W ∧ (Lit.int k n).wf = true := by
  obtain ⟨s, rfl, hs⟩ := h.int ht
  exact ⟨s, ⟨rfl, trivial⟩, hs⟩
end O
end Go.Proofs.Ytapmngmpomhjmaa

/- What an argument of some type is, with the reach that the form itself gives: each string and each slice that comes in has at most 2^47 - 4096 bytes. No program stands in this text. -/
namespace Go.Proofs.Ytapmngmpomhjmaa
open Go.ChangeShapes Go.WideShapes Go.ChangeAt Go.RowKit
namespace O
/-- cs are the cells of a value of type t; what it leads to lies in w; nothing is larger than the reach -/
def TypedB (P : Program) (w : World) : Nat → TypeId → List Value → Prop
  | 0, _, _ => False
  | n + 1, t, cs => match P.underlying t with
    | some .bool => ∃ b, cs = [.bool b]
    | some (.int k) => ∃ x, cs = [.int k x] ∧ (Lit.int k x).wf = true
    | some (.float k) => ∃ x, cs = [.float k x] ∧ (Lit.float k x).wf = true
    | some .string => ∃ s : ByteArray, cs = [.string s] ∧ s.size ≤ reachBytes
    | some (.slice e) => ∃ a cap, ∃ xs : List (List Value), cs = [.slice a xs.length cap] ∧ xs.length ≤ cap ∧ cap ≤ maxLen ∧ xs.length * P.bytesOf e ≤ reachBytes ∧ (∀ x ∈ xs, x.length = P.cellsOf e ∧ TypedB P w n e x) ∧ Rd w a xs.flatten
    | some (.struct fs) => cs.length = P.cellsOf t ∧ ∀ f ∈ fs.toList, TypedB P w n f.type ((cs.drop f.offset).take (P.cellsOf f.type))
    | _ => True
section
variable {H : Type} {enc : TypeId × Value → H} {P : Program} {w : World} {base : Nat} {spare : Nat → Bool} {held : Bool}
/-- v is a value of type t that came in, as w has it -/
def ArgB (P : Program) (w : World) (t : TypeId) (v : Value) : Prop :=
  ∃ n cs, TypedB P w n t cs ∧ v = (match P.underlying t with | some (.struct _) => .agg cs.toArray | _ => cs.headD undef)
theorem TypedB.int {k : IntKind} {n : Nat} {t : TypeId} {cs : List Value} (ht : P.underlying t = some (.int k)) (h : TypedB P w n t cs) : ∃ x, cs = [.int k x] ∧ (Lit.int k x).wf = true := by
  cases n with
  | zero => exact h.elim
  | succ n => unfold TypedB at h; rw [ht] at h; exact h
theorem TypedB.bool {n : Nat} {t : TypeId} {cs : List Value} (ht : P.underlying t = some .bool) (h : TypedB P w n t cs) : ∃ b, cs = [.bool b] := by
  cases n with
  | zero => exact h.elim
  | succ n => unfold TypedB at h; rw [ht] at h; exact h
theorem TypedB.string {n : Nat} {t : TypeId} {cs : List Value} (ht : P.underlying t = some .string) (h : TypedB P w n t cs) : ∃ s : ByteArray, cs = [.string s] ∧ s.size ≤ reachBytes := by
  cases n with
  | zero => exact h.elim
  | succ n => unfold TypedB at h; rw [ht] at h; exact h
theorem TypedB.slice {e : TypeId} {n : Nat} {t : TypeId} {cs : List Value} (ht : P.underlying t = some (.slice e)) (h : TypedB P w n t cs) :
    ∃ a cap, ∃ xs : List (List Value), ∃ m, cs = [.slice a xs.length cap] ∧ xs.length ≤ cap ∧ cap ≤ maxLen ∧ xs.length * P.bytesOf e ≤ reachBytes ∧ (∀ x ∈ xs, x.length = P.cellsOf e ∧ TypedB P w m e x) ∧ Rd w a xs.flatten := by
  cases n with
  | zero => exact h.elim
  | succ n =>
    unfold TypedB at h; rw [ht] at h
    obtain ⟨a, cap, xs, h1, h2, h3, h4, h5, h6⟩ := h
    exact ⟨a, cap, xs, n, h1, h2, h3, h4, h5, h6⟩
theorem TypedB.struct {fs : Array Field} {n : Nat} {t : TypeId} {cs : List Value} (ht : P.underlying t = some (.struct fs)) (h : TypedB P w n t cs) :
    ∃ m, cs.length = P.cellsOf t ∧ ∀ f ∈ fs.toList, TypedB P w m f.type ((cs.drop f.offset).take (P.cellsOf f.type)) := by
  cases n with
  | zero => exact h.elim
  | succ n => unfold TypedB at h; rw [ht] at h; exact ⟨n, h⟩
theorem ArgB.int {k : IntKind} {t : TypeId} {v : Value} (ht : P.underlying t = some (.int k)) (h : ArgB P w t v) : ∃ x, v = .int k x ∧ (Lit.int k x).wf = true := by
  obtain ⟨n, cs, h1, rfl⟩ := h
  obtain ⟨x, rfl, hx⟩ := h1.int ht
  exact ⟨x, by rw [ht]; rfl, hx⟩
theorem ArgB.bool {t : TypeId} {v : Value} (ht : P.underlying t = some .bool) (h : ArgB P w t v) : ∃ x, v = .bool x := by
  obtain ⟨n, cs, h1, rfl⟩ := h
  obtain ⟨x, rfl⟩ := h1.bool ht
  exact ⟨x, by rw [ht]; rfl⟩
theorem ArgB.string {t : TypeId} {v : Value} (ht : P.underlying t = some .string) (h : ArgB P w t v) : ∃ x : ByteArray, v = .string x ∧ x.size ≤ reachBytes := by
  obtain ⟨n, cs, h1, rfl⟩ := h
  obtain ⟨x, rfl, hx⟩ := h1.string ht
  exact ⟨x, by rw [ht]; rfl, hx⟩
theorem ArgB.slice {e : TypeId} {t : TypeId} {v : Value} (ht : P.underlying t = some (.slice e)) (h : ArgB P w t v) :
    ∃ a cap, ∃ xs : List (List Value), ∃ m, v = .slice a xs.length cap ∧ xs.length ≤ cap ∧ cap ≤ maxLen ∧ xs.length * P.bytesOf e ≤ reachBytes ∧ (∀ x ∈ xs, x.length = P.cellsOf e ∧ TypedB P w m e x) ∧ Rd w a xs.flatten := by
  obtain ⟨n, cs, h1, rfl⟩ := h
  obtain ⟨a, cap, xs, m, rfl, h2⟩ := h1.slice ht
  exact ⟨a, cap, xs, m, by rw [ht]; rfl, h2⟩
theorem ArgB.struct {fs : Array Field} {t : TypeId} {v : Value} (ht : P.underlying t = some (.struct fs)) (h : ArgB P w t v) :
    ∃ (cs : List Value) (m : Nat), v = .agg cs.toArray ∧ cs.length = P.cellsOf t ∧ ∀ f ∈ fs.toList, TypedB P w m f.type ((cs.drop f.offset).take (P.cellsOf f.type)) := by
  obtain ⟨n, cs, h1, rfl⟩ := h
  obtain ⟨m, h2, h3⟩ := h1.struct ht
  exact ⟨cs, m, by rw [ht], h2, h3⟩
end
/-! ### in the logic over objects -/
end O
end Go.Proofs.Ytapmngmpomhjmaa

/- What an act that comes in is. -/
namespace Go.Proofs.Ytapmngmpomhjmaa
open Go.RowKit
namespace O
theorem list5_of {α : Type} {l : List α} (h : l.length = 8) : ∃ a b c d e f g i, l = [a, b, c, d, e, f, g, i] := by
  match l, h with
  | [a, b, c, d, e, f, g, i], _ => exact ⟨a, b, c, d, e, f, g, i, rfl⟩
theorem list4_of {α : Type} {l : List α} (h : l.length = 4) : ∃ a b c d, l = [a, b, c, d] := by
  match l, h with
  | [a, b, c, d], _ => exact ⟨a, b, c, d, rfl⟩
theorem cells_act6 : Try.prog.cellsOf 32 = 8 := by kernel_rfl
theorem cells_term6 : Try.prog.cellsOf 30 = 4 := by kernel_rfl
theorem cells_int6 : Try.prog.cellsOf 3 = 1 := by kernel_rfl
theorem cells_str6 : Try.prog.cellsOf 9 = 1 := by kernel_rfl
theorem cells_ints6 : Try.prog.cellsOf 28 = 1 := by kernel_rfl
/-- a slice among the cells of what came in -/
theorem ro_cells {α : Type} {P : Program} {W : World} {T e : TypeId} {n : Nat} {cs : List Value} (hT : P.underlying T = some (.slice e)) (f : α → List VP) (he : ∀ (m : Nat) (x : List Value), x.length = P.cellsOf e → Typed P W m e x → ∃ a, All2 (was W) (f a) x W) (h : Typed P W n T cs) :
    ∃ (l : List α) (v : Value), cs = [v] ∧ (VP.ro l.length (l.flatMap f)).p (was W) v W := by
  obtain ⟨a, cap, xs, m, rfl, h1, h2, h3, h4⟩ := h.slice hT
  obtain ⟨l, e1, e2⟩ := flat_all2 f (he m) xs h3
  refine ⟨l, _, rfl, a, cap, by rw [e1], by omega, h2, ?_⟩
  rcases Nat.eq_zero_or_pos xs.flatten.length with h0 | h0
  · left
    have := e2.len
    exact List.eq_nil_of_length_eq_zero (by omega)
  · right
    obtain ⟨b, off, ea, hb, hc⟩ := h4.all h0
    exact ⟨b, off, ea, hb, fun j x hx => by
      obtain ⟨u, hu, hp⟩ := e2.get hx
      exact ⟨u, hc j u hu, hp⟩⟩
theorem ints_cells {W : World} {n : Nat} {cs : List Value} (h : Typed Try.prog W n 28 cs) : ∃ (l : List Int) (v : Value), cs = [v] ∧ (VP.ro l.length (l.flatMap cInt)).p (was W) v W :=
  ro_cells Try.underlying28 cInt (fun m x _ hx => by
    obtain ⟨a, h1, _⟩ := typed_int (Z := was W) Try.underlying3 hx
    exact ⟨a, h1⟩) h
theorem typed_term {W : World} (m : Nat) (x : List Value) (h : Typed Try.prog W m 30 x) : ∃ a : TermD, All2 (was W) (cTerm a) x W := by
  obtain ⟨m, hl, hf⟩ := h.struct Try.underlying30
  rw [cells_term6] at hl
  obtain ⟨u0, u1, u2, u3, rfl⟩ := list4_of hl
  have f0 := hf _ List.mem_cons_self
  have f1 := hf _ (List.mem_cons_of_mem _ List.mem_cons_self)
  have f2 := hf _ (List.mem_cons_of_mem _ (List.mem_cons_of_mem _ List.mem_cons_self))
  have f3 := hf _ (List.mem_cons_of_mem _ (List.mem_cons_of_mem _ (List.mem_cons_of_mem _ List.mem_cons_self)))
  simp only at f0 f1 f2 f3
  rw [cells_int6] at f0 f1
  rw [cells_ints6] at f2
  rw [cells_str6] at f3
  obtain ⟨a, h0, _⟩ := typed_int (Z := was W) Try.underlying3 f0
  obtain ⟨b, h1, _⟩ := typed_int (Z := was W) Try.underlying3 f1
  obtain ⟨c, v, hv, h2⟩ := ints_cells f2
  obtain ⟨e, h3⟩ := typed_str (Z := was W) Try.underlying9 f3
  have hv : [u2] = [v] := hv
  injection hv with hv
  subst hv
  exact ⟨⟨a, b, c, e⟩, h0.1, h1.1, h2, h3.1, trivial⟩
theorem typed_act6 {W : World} (m : Nat) (x : List Value) (_ : x.length = Try.prog.cellsOf 32) (h : Typed Try.prog W m 32 x) : ∃ a : ActD, All2 (was W) (cActD a) x W := by
  obtain ⟨m, hl, hf⟩ := h.struct Try.underlying32
  rw [cells_act6] at hl
  obtain ⟨u0, u1, u2, u3, u4, u5, u6, u7, rfl⟩ := list5_of hl
  have f0 := hf _ List.mem_cons_self
  have f1 := hf _ (List.mem_cons_of_mem _ List.mem_cons_self)
  have f2 := hf _ (List.mem_cons_of_mem _ (List.mem_cons_of_mem _ List.mem_cons_self))
  have f3 := hf _ (List.mem_cons_of_mem _ (List.mem_cons_of_mem _ (List.mem_cons_of_mem _ List.mem_cons_self)))
  have f4 := hf _ (List.mem_cons_of_mem _ (List.mem_cons_of_mem _ (List.mem_cons_of_mem _ (List.mem_cons_of_mem _ List.mem_cons_self))))
  simp only at f0 f1 f2 f3 f4
  rw [cells_int6] at f0 f3
  rw [cells_str6] at f1
  rw [cells_ints6] at f2
  rw [cells_term6] at f4
  obtain ⟨a, h0, _⟩ := typed_int (Z := was W) Try.underlying3 f0
  obtain ⟨b, h1⟩ := typed_str (Z := was W) Try.underlying9 f1
  obtain ⟨c, v, hv, h2⟩ := ints_cells f2
  obtain ⟨e, h3, _⟩ := typed_int (Z := was W) Try.underlying3 f3
  obtain ⟨t, h4⟩ := typed_term _ _ f4
  have hv : [u2] = [v] := hv
  injection hv with hv
  subst hv
  have h4 : All2 (was W) (cTerm t) [u4, u5, u6, u7] W := h4
  exact ⟨⟨a, b, c, e, t⟩, h0.1, h1.1, h2, h3.1, h4.1, h4.2.1, h4.2.2.1, h4.2.2.2.1, trivial⟩
theorem arg_acts6 {W : World} {v : Value} (h : Arg Try.prog W 22 v) : ∃ l : List ActD, l.length ≤ maxLen ∧ (VP.ro l.length (l.flatMap cActD)).p (was W) v W := ro_of Try.underlying22 cActD typed_act6 h
end O
end Go.Proofs.Ytapmngmpomhjmaa
