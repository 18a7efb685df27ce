/- Part of the proof that a law returns true for all that comes in, and that what came in reads as it did. No condition. -/
import Derived.Test.YtapmngmpomhjmaaMgDagSame4
/- Hashes. -/
namespace Go.Proofs.Ytapmngmpomhjmaa
open Go.RowKit
namespace O
theorem DagH_one_uint64 : oneTy Try.prog 49 = true := by kernel_rfl
theorem DagH_size_uint64 : ∀ w, (sizeOf 49).run Try.prog w = .ok 1 w := run_sizeOne DagH_one_uint64
theorem DagH_zero_uint64 : zeroOf Try.prog 49 [(.int .u64 0)] := by unfold zeroOf; kernel_rfl
theorem DagH_f_api_Term_0 : fieldAt Try.prog 30 0 0 = true := by kernel_rfl
theorem DagH_one_int : oneTy Try.prog 3 = true := by kernel_rfl
theorem DagH_f_api_Term_1 : fieldAt Try.prog 30 1 1 = true := by kernel_rfl
theorem DagH_f_api_Term_2 : fieldAt Try.prog 30 2 2 = true := by kernel_rfl
theorem DagH_one___int : oneTy Try.prog 28 = true := by kernel_rfl
theorem DagH_el_int : Elem Try.prog 28 3 (.int .i64 0) 1 8 := Elem.mk Try.underlying28 (by kernel_rfl) rfl (by decide)
theorem DagH_el_____int : Elem Try.prog 47 28 (.slice none 0 0) 1 24 := Elem.mk Try.underlying47 (by kernel_rfl) rfl (by decide)
theorem DagH_hb_slices_Concat___int_int_ : hasBody Try.prog 40 = true := by kernel_rfl
theorem DagH_size_int : ∀ w, (sizeOf 3).run Try.prog w = .ok 1 w := run_sizeOne DagH_one_int
theorem DagH_hb_collator_dag_Hash_1 : hasBody Try.prog 39 = true := by kernel_rfl
theorem DagH_f_api_Term_3 : fieldAt Try.prog 30 3 3 = true := by kernel_rfl
theorem DagH_one_string : oneTy Try.prog 9 = true := by kernel_rfl
theorem DagH_one_uint8 : oneTy Try.prog 5 = true := by kernel_rfl
theorem DagH_size_uint8 : ∀ w, (sizeOf 5).run Try.prog w = .ok 1 w := run_sizeOne DagH_one_uint8
set_option maxRecDepth 100000 in
set_option maxHeartbeats 4000000 in
theorem da_Hash1 {c : Value} (h n : Int) : SpecO Try.prog 39 [.vp (VP.int .u64 n), .vp (VP.ptr c)] [] [(c, HA.cells 49 [HA.of (VP.int .u64 h)])] [(c, HA.cells 49 [HA.of (VP.int .u64 (mixI h n))])] (HA.of (VP.tup [])) := by
  refine spec_tup (ps := []) ?_
  refine spec_of 7 Try.func39 rfl Try.ntmps39 rfl fun w0 S0 Z0 Bf => ?_
  refine t_region (F := ⟨_, _, _, _, _, _⟩) [.is (.tmp 0) (VP.int .u64 n), .is (.tmp 1) (VP.ptr c)] [(4, .own 0 (.val c) (HA.cells 49 [HA.of (VP.int .u64 h)]))] [(0, .is (.tmp 3) (VP.int .u64 h)), (1, .is (.tmp 4) (VP.int .u64 n)), (2, .is (.tmp 5) (VP.int .u64 (xor64 h n))), (3, .is (.tmp 6) (VP.int .u64 (mixI h n))), (4, .own 0 (.val c) (HA.cells 49 [HA.of (VP.int .u64 (mixI h n))]))] [] [0, 1] [2] [[], [], [0, 1], [0, 1, 2], [0, 1, 2, 3]] [[2, 3, 4], [2, 3, 4], [3, 4], [4], []] rfl rfl follow rfl ⟨
    .inl ⟨wants_plain rfl, does_loadOne _ DagH_one_uint64 rfl rfl rfl rfl rfl (pt_ptr (ar_tmp (av_fs 1 rfl))) (rds_box (off := 0) (av_os 0 4 rfl rfl) (hq_one rfl))⟩,
    .inl ⟨wants_plain rfl, does_move _ (.inl rfl) rfl rfl rfl rfl (ar_tmp (av_fs 0 rfl))⟩,
    .inl ⟨wants_plain rfl, does_bin (m := h) (n := n) (r := (xor64 h n)) _ _ _ _ _ rfl rfl rfl rfl rfl rfl br_xor (ar_tmp (av_rs 0 0 rfl rfl)) (ar_tmp (av_rs 1 1 rfl rfl))⟩,
    .inl ⟨wants_plain rfl, does_bin (m := (xor64 h n)) (n := 1099511628211) (r := (mixI h n)) _ _ _ _ _ rfl rfl rfl rfl rfl rfl (br_mul rfl) (ar_tmp (av_rs 2 2 rfl rfl)) (ar_const (fun _ _ => rfl))⟩,
    .inl ⟨wants_plain rfl, does_store (off := 0) (Qs := [HA.of (VP.int .u64 (mixI h n))]) _ _ DagH_size_uint64 rfl rfl rfl rfl rfl rfl (pt_ptr (ar_tmp (av_fs 1 rfl))) (av_os 0 4 rfl rfl) (cv_one rfl (mv_vp (ar_tmp (av_rs 3 3 rfl rfl))))⟩,
    trivial⟩ ?_
  refine t_pick [6] rfl ?_
  exact rt_post [] [] [0] [0] rfl trivial (by decide) rfl rfl

set_option maxRecDepth 100000 in
set_option maxHeartbeats 4000000 in
theorem da_Hash (t : TermD) (hk : t.kids.length ≤ 900000) (hn : t.num.size ≤ 1000000) : SpecO Try.prog 18 [.vp (VP.agg [VP.int .i64 t.op, VP.int .i64 t.fn, O_int t.kids, VP.str t.num])] [] [] [] (HA.of (VP.int .u64 (hashT t))) := by
  have hll : (hashL t).length = t.kids.length + 3 := by simp only [hashL, List.length_append, List.length_cons, List.length_nil]; omega
  have hbl : (bytesL t.num).length = t.num.size := bytesL_len _
  refine spec_of 46 Try.func18 rfl Try.ntmps18 rfl fun w0 S0 Z0 Bf => ?_
  refine t_seq ?_
  refine t_region (F := ⟨_, _, _, _, _, _⟩) [.is (.tmp 0) (VP.agg [VP.int .i64 t.op, VP.int .i64 t.fn, O_int t.kids, VP.str t.num])] [] [(0, .own 101 (.tmp 1) (B_term t)), (1, .is (.tmp 2) (VP.int .u64 0))] [] [0] [] [[], []] [[], []] rfl rfl follow rfl ⟨
    .inl ⟨wants_plain rfl, does_box (Rs := [HA.of (VP.int .i64 t.op), HA.of (VP.int .i64 t.fn), HA.of (O_int t.kids), HA.of (VP.str t.num)]) _ rfl rfl rfl rfl rfl rfl (cv_agg (ps := [VP.int .i64 t.op, VP.int .i64 t.fn, O_int t.kids, VP.str t.num]) (ar_tmp (av_fs 0 rfl)))⟩,
    .inl ⟨wants_plain rfl, does_move _ (.inr rfl) rfl rfl rfl rfl (ar_const (fun _ _ => rfl))⟩,
    trivial⟩ ?_
  refine t_pick [1, 2] rfl ?_
  refine nx_then ?_
  refine t_nameP rfl fun c1 => ?_
  refine t_seq ?_
  refine t_region (F := ⟨_, _, _, _, _, _⟩) [.own 101 (.val c1) (B_term t), .is (.tmp 1) (VP.ptr c1), .is (.tmp 2) (VP.int .u64 0)] [] [(1, .own 102 (.tmp 3) (HA.cells 49 [HA.of (VP.int .u64 14695981039346656037)]))] [(0, 1, .own 102 (.tmp 3) (HA.cells 49 [HA.of (VP.int .u64 0)]))] [0, 1, 2] [] [[], [0]] [[1], []] rfl rfl follow rfl ⟨
    .inl ⟨wants_plain rfl, does_alloc (ps := [VP.int .u64 0]) DagH_zero_uint64 rfl rfl rfl rfl rfl rfl (fun _ _ => ⟨rfl, trivial⟩)⟩,
    .inl ⟨wants_plain rfl, does_store (off := 0) (Qs := [HA.of (VP.int .u64 14695981039346656037)]) _ _ DagH_size_uint64 rfl rfl rfl rfl rfl rfl (pt_box (av_ms 0 0 1 rfl rfl rfl)) (av_ms 0 0 1 rfl rfl rfl) (cv_one rfl (mv_vp (ar_const (fun _ _ => rfl))))⟩,
    trivial⟩ ?_
  refine nx_then ?_
  refine t_pick [3, 0, 1, 2] rfl ?_
  refine t_nameP rfl fun c3 => ?_
  refine t_knowP fun hc3 => ?_
  refine t_seq ?_
  refine t_region (F := ⟨_, _, _, _, _, _⟩) [.own 102 (.val c3) (HA.cells 49 [HA.of (VP.int .u64 14695981039346656037)]), .is (.tmp 3) (VP.ptr c3), .own 101 (.val c1) (B_term t), .is (.tmp 1) (VP.ptr c1), .is (.tmp 2) (VP.int .u64 0)] [] [(0, .is (.tmp 9) (VP.clo 39 [c3])), (1, .is (.tmp 4) (VP.clo 39 [c3]))] [] [0, 1, 2, 3, 4] [] [[], [0]] [[1], []] rfl rfl follow rfl ⟨
    .inl ⟨wants_plain rfl, does_makeFunc rfl rfl rfl rfl rfl ⟨(cap_ptr (ar_tmp (av_fs 1 rfl))), trivial⟩⟩,
    .inl ⟨wants_plain rfl, does_move _ (.inr rfl) rfl rfl rfl rfl (ar_tmp (av_rs 0 0 rfl rfl))⟩,
    trivial⟩ ?_
  refine t_pick [0, 1, 2, 3, 4, 6] rfl ?_
  refine nx_then ?_
  refine t_seq ?_
  refine t_seq ?_
  refine t_region (F := ⟨_, _, _, _, _, _⟩) [.own 102 (.val c3) (HA.cells 49 [HA.of (VP.int .u64 14695981039346656037)]), .is (.tmp 3) (VP.ptr c3), .own 101 (.val c1) (B_term t), .is (.tmp 1) (VP.ptr c1), .is (.tmp 2) (VP.int .u64 0), .is (.tmp 4) (VP.clo 39 [c3])] [] [(0, .pt 10 (.blk (.val c1) 0)), (1, .is (.tmp 11) (VP.int .i64 t.op)), (2, .pt 12 (.blk (.val c1) 1)), (3, .is (.tmp 13) (VP.int .i64 t.fn)), (4, .pt 14 (.blk (.val c1) 2)), (5, .is (.tmp 15) (O_int t.kids)), (6, .is (.tmp 16) (VP.int .i64 ((t.kids.length : Nat) : Int))), (8, .pt 18 (.blk (.val c1) 2)), (9, .is (.tmp 19) (O_int t.kids)), (10, .own 104 (.tmp 20) (HA.row 28 1 2 [R_int ([t.op, t.fn, ((t.kids.length : Nat) : Int)]), HA.of (O_int t.kids)])), (11, .own 105 (.tmp 21) (R_int ([[t.op, t.fn, ((t.kids.length : Nat) : Int)], t.kids].flatten))), (12, .is (.tmp 22) (VP.int .i64 ((([[t.op, t.fn, ((t.kids.length : Nat) : Int)], t.kids].flatten).length : Nat) : Int))), (13, .is (.tmp 23) (VP.int .i64 0))] [(7, 10, .own 103 (.tmp 17) (R_int ([t.op, t.fn, ((t.kids.length : Nat) : Int)])))] [0, 1, 2, 3, 4, 5] [] [[], [0], [], [2], [], [4], [4, 5], [0, 1, 2, 3, 4, 5, 6], [], [8], [0, 1, 2, 3, 4, 5, 6, 7, 8, 9], [0, 1, 2, 3, 4, 5, 6, 7, 8, 9, 10], [0, 1, 2, 3, 4, 5, 6, 7, 8, 9, 10, 11], []] [[1, 7, 10, 11, 12], [7, 10, 11, 12], [3, 7, 10, 11, 12], [7, 10, 11, 12], [5, 6, 7, 10, 11, 12], [6, 7, 10, 11, 12], [7, 10, 11, 12], [10, 11, 12], [9, 10, 11, 12], [10, 11, 12], [11, 12], [12], [], []] rfl rfl follow rfl ⟨
    .inl ⟨wants_plain rfl, does_field _ _ _ 0 DagH_f_api_Term_0 rfl rfl rfl rfl rfl rfl (pt_ptr (ar_tmp (av_fs 3 rfl)))⟩,
    .inl ⟨wants_plain rfl, does_loadOne _ DagH_one_int rfl rfl rfl rfl rfl (pt_pt (av_rs 0 0 rfl rfl)) (rds_box (off := 0) (av_fs 2 rfl) (hq_one rfl))⟩,
    .inl ⟨wants_plain rfl, does_field _ _ _ 1 DagH_f_api_Term_1 rfl rfl rfl rfl rfl rfl (pt_ptr (ar_tmp (av_fs 3 rfl)))⟩,
    .inl ⟨wants_plain rfl, does_loadOne _ DagH_one_int rfl rfl rfl rfl rfl (pt_pt (av_rs 2 2 rfl rfl)) (rds_box (off := 1) (av_fs 2 rfl) (hq_one rfl))⟩,
    .inl ⟨wants_plain rfl, does_field _ _ _ 2 DagH_f_api_Term_2 rfl rfl rfl rfl rfl rfl (pt_ptr (ar_tmp (av_fs 3 rfl)))⟩,
    .inl ⟨wants_plain rfl, does_loadOne _ DagH_one___int rfl rfl rfl rfl rfl (pt_pt (av_rs 4 4 rfl rfl)) (rds_box (off := 2) (av_fs 2 rfl) (hq_one rfl))⟩,
    .inl ⟨wants_plain rfl, does_len _ _ (by kernel_rfl) rfl rfl rfl rfl rfl (sl_ro (av_rs 5 5 rfl rfl) (flat_nil_iff cInt_len (by decide) _))⟩,
    .inl ⟨wants_plain rfl, does_sliceLit (n := 3) DagH_el_int rfl (List.replicate 3 (VP.int .i64 0)) (z1_of (fun _ _ => rfl) rfl 3) rfl rfl rfl rfl rfl rfl rfl (.cons 0 [HA.of (VP.int .i64 t.op)] none rfl rfl (cv_one rfl (mv_vp (ar_tmp (av_rs 1 1 rfl rfl)))) (.cons 1 [HA.of (VP.int .i64 t.fn)] none rfl rfl (cv_one rfl (mv_vp (ar_tmp (av_rs 3 3 rfl rfl)))) (.cons 2 [HA.of (VP.int .i64 ((t.kids.length : Nat) : Int))] none rfl rfl (cv_one rfl (mv_vp (ar_tmp (av_rs 6 6 rfl rfl)))) (.nil _))))⟩,
    .inl ⟨wants_plain rfl, does_field _ _ _ 2 DagH_f_api_Term_2 rfl rfl rfl rfl rfl rfl (pt_ptr (ar_tmp (av_fs 3 rfl)))⟩,
    .inl ⟨wants_plain rfl, does_loadOne _ DagH_one___int rfl rfl rfl rfl rfl (pt_pt (av_rs 7 8 rfl rfl)) (rds_box (off := 2) (av_fs 2 rfl) (hq_one rfl))⟩,
    .inl ⟨wants_plain rfl, does_sliceLit (n := 2) DagH_el_____int rfl (List.replicate 2 VP.nilS) (zsn_of 2) rfl rfl rfl rfl rfl rfl rfl (.cons 0 [R_int ([t.op, t.fn, ((t.kids.length : Nat) : Int)])] (some 103) rfl rfl (cv_one rfl (mv_own (av_ms 0 7 10 rfl rfl rfl))) (.cons 1 [HA.of (O_int t.kids)] none rfl rfl (cv_one rfl (mv_vp (ar_tmp (av_rs 8 9 rfl rfl)))) (.nil _)))⟩,
    .inl ⟨wants_plain rfl, does_callG [] [] [] 105 [0] (da_Concat [[t.op, t.fn, ((t.kids.length : Nat) : Int)], t.kids] (by simp) (by simp only [List.flatten_cons, List.flatten_nil, List.append_nil, List.length_append, List.length_cons, List.length_nil]; omega)) rfl DagH_hb_slices_Concat___int_int_ rfl rfl rfl rfl rfl ar_clo (ars_cons (pa_weak (pa_tmp (av_rs 9 10 rfl rfl) rfl) (slcs_two (slcI_row ([t.op, t.fn, ((t.kids.length : Nat) : Int)])) (slcI_ro t.kids))) ars_nil) trivial trivial⟩,
    .inl ⟨wants_plain rfl, does_len _ _ (by kernel_rfl) rfl rfl rfl rfl rfl (sl_tmp (av_rs 10 11 rfl rfl))⟩,
    .inl ⟨wants_plain rfl, does_move _ (.inl rfl) rfl rfl rfl rfl (ar_const (fun _ _ => rfl))⟩,
    trivial⟩ ?_
  refine t_pick [0, 1, 2, 3, 4, 5, 15, 16, 17, 18] rfl ?_
  refine nx_then ?_
  refine t_pick [0, 1, 2, 3, 4, 5, 7, 8, 9] rfl ?_
  refine t_pick [6, 0, 1, 2, 3, 4, 5, 7, 8] rfl ?_
  refine t_name rfl fun vl => ?_
  refine t_weak (R' := R_int (hashL t)) (fun _ _ _ _ h => by rw [show ([[t.op, t.fn, ((t.kids.length : Nat) : Int)], t.kids].flatten) = hashL t by simp [hashL]] at h; exact h) rfl ?_
  refine t_block ?_
  refine t_pick [2, 0, 1, 3, 4, 5, 6, 7, 8, 9] rfl ?_
  refine t_weak (R' := HA.cells 49 [HA.of (VP.int .u64 (mixs seedI ((hashL t).take 0)))]) (fun _ _ _ _ h => h) rfl ?_
  refine t_pick [8, 0, 1, 2, 3, 4, 5, 6, 7, 9] rfl ?_
  refine t_slot (y := VP.int .i64 (((hashL t).length : Nat) : Int)) (fun _ _ _ h => by rw [show [[t.op, t.fn, ((t.kids.length : Nat) : Int)], t.kids].flatten = hashL t by simp [hashL]] at h; exact h) ?_
  refine t_pick [9, 0, 1, 2, 3, 4, 5, 6, 7, 8] rfl ?_
  refine t_slot (y := VP.int .i64 ((0 : Nat) : Int)) (fun _ _ _ h => h) ?_
  refine t_loop (τ := {k : Nat // k ≤ (hashL t).length}) (fun ⟨k, _⟩ => [.is (.tmp 1) (VP.ptr c1), .is (.tmp 3) (VP.ptr c3), .is (.tmp 4) (VP.clo 39 [c3]), .is (.tmp 21) (VP.eq vl true true), .is (.tmp 22) (VP.int .i64 (((hashL t).length : Nat) : Int)), .is (.tmp 23) (VP.int .i64 ((k : Nat) : Int)), .own 102 (.val c3) (HA.cells 49 [HA.of (VP.int .u64 (mixs seedI ((hashL t).take k)))]), .own 101 (.val c1) (B_term t), .own 105 (.val vl) (R_int (hashL t))]) (fun ⟨k, _⟩ => (hashL t).length - k) (⟨0, Nat.zero_le _⟩) [7, 5, 9, 4, 1, 0, 2, 6, 3] rfl ?_
  rintro ⟨k, hkk⟩
  refine t_seq ?_
  refine t_region (F := ⟨_, _, _, _, _, _⟩) [.is (.tmp 1) (VP.ptr c1), .is (.tmp 3) (VP.ptr c3), .is (.tmp 4) (VP.clo 39 [c3]), .is (.tmp 21) (VP.eq vl true true), .is (.tmp 22) (VP.int .i64 (((hashL t).length : Nat) : Int)), .is (.tmp 23) (VP.int .i64 ((k : Nat) : Int)), .own 102 (.val c3) (HA.cells 49 [HA.of (VP.int .u64 (mixs seedI ((hashL t).take k)))]), .own 101 (.val c1) (B_term t), .own 105 (.val vl) (R_int (hashL t))] [] [(0, .is (.tmp 24) (VP.bool (decide (((k : Nat) : Int) < (((hashL t).length : Nat) : Int)))))] [] [0, 1, 2, 3, 4, 5, 6, 7, 8] [] [[]] [[]] rfl rfl follow rfl ⟨
    .inl ⟨wants_plain rfl, does_cmp (m := ((k : Nat) : Int)) (n := (((hashL t).length : Nat) : Int)) _ _ _ _ _ rfl rfl rfl rfl rfl rfl .i64 (ar_tmp (av_fs 5 rfl)) (ar_tmp (av_fs 4 rfl))⟩,
    trivial⟩ ?_
  refine nx_then ?_
  refine t_seq ?_
  refine t_split 9 rfl (fun hb1 => ?_) (fun hb1 => ?_)
  · have hc1 := of_decide_eq_true hb1
    obtain ⟨x, hx⟩ : ∃ x, (hashL t)[k]? = some x := ⟨_, List.getElem?_eq_getElem (by omega)⟩
    refine t_skip ?_
    refine nx_then ?_
    refine t_seq ?_
    refine t_block ?_
    refine t_seq ?_
    refine t_region (F := ⟨_, _, _, _, _, _⟩) [.is (.tmp 1) (VP.ptr c1), .is (.tmp 3) (VP.ptr c3), .is (.tmp 4) (VP.clo 39 [c3]), .is (.tmp 21) (VP.eq vl true true), .is (.tmp 22) (VP.int .i64 (((hashL t).length : Nat) : Int)), .is (.tmp 23) (VP.int .i64 ((k : Nat) : Int)), .own 102 (.val c3) (HA.cells 49 [HA.of (VP.int .u64 (mixs seedI ((hashL t).take k)))]), .own 101 (.val c1) (B_term t), .own 105 (.val vl) (R_int (hashL t)), .is (.tmp 24) (VP.bool (decide (((k : Nat) : Int) < (((hashL t).length : Nat) : Int))))] [] [(0, .pt 25 (.row (.val vl) (k * 1))), (1, .is (.tmp 26) (VP.int .i64 x)), (2, .is (.tmp 6) (VP.int .i64 x))] [] [0, 1, 2, 3, 4, 5, 6, 7, 8, 9] [] [[], [0], [0, 1]] [[1, 2], [2], []] rfl rfl follow rfl ⟨
      .inl ⟨wants_plain rfl, does_index (m := k) _ _ Try.underlying28 DagH_size_int rfl rfl rfl rfl rfl _ (by omega) rfl (by omega) (sl_own (av_fs 8 rfl) (ar_tmp (av_fs 3 rfl))) (ar_tmp (av_fs 5 rfl))⟩,
      .inl ⟨wants_plain rfl, does_loadOne _ DagH_one_int rfl rfl rfl rfl rfl (pt_pt (av_rs 0 0 rfl rfl)) (rds_row (av_fs 8 rfl) (hq_flat1 cInt_len hx 0 (by omega) rfl))⟩,
      .inl ⟨wants_plain rfl, does_move _ (.inr rfl) rfl rfl rfl rfl (ar_tmp (av_rs 1 1 rfl rfl))⟩,
      trivial⟩ ?_
    refine nx_then ?_
    refine t_region (F := ⟨_, _, _, _, _, _⟩) [.is (.tmp 1) (VP.ptr c1), .is (.tmp 3) (VP.ptr c3), .is (.tmp 4) (VP.clo 39 [c3]), .is (.tmp 21) (VP.eq vl true true), .is (.tmp 22) (VP.int .i64 (((hashL t).length : Nat) : Int)), .is (.tmp 23) (VP.int .i64 ((k : Nat) : Int)), .own 101 (.val c1) (B_term t), .own 105 (.val vl) (R_int (hashL t)), .is (.tmp 24) (VP.bool (decide (((k : Nat) : Int) < (((hashL t).length : Nat) : Int)))), .pt 25 (.row (.val vl) (k * 1)), .is (.tmp 26) (VP.int .i64 x), .is (.tmp 6) (VP.int .i64 x)] [(3, .own 102 (.val c3) (HA.cells 49 [HA.of (VP.int .u64 (mixs seedI ((hashL t).take k)))]))] [(0, .is (.tmp 27) (VP.clo 39 [c3])), (1, .is (.tmp 28) (VP.int .i64 x)), (2, .is (.tmp 29) (VP.int .u64 (IntKind.u64.wrap x))), (3, .own 106 (.tmp 30) (HA.of (VP.tup []))), (3, .own 102 (.val c3) (HA.cells 49 [HA.of (VP.int .u64 (mixI (mixs seedI ((hashL t).take k)) (IntKind.u64.wrap x)))]))] [] [0, 1, 2, 3, 4, 5, 7, 8, 9, 10, 11, 12] [6] [[], [], [1], [0, 1, 2]] [[3], [2, 3], [3], []] rfl rfl follow rfl ⟨
      .inl ⟨wants_plain rfl, does_move _ (.inl rfl) rfl rfl rfl rfl (ar_tmp (av_fs 2 rfl))⟩,
      .inl ⟨wants_plain rfl, does_move _ (.inl rfl) rfl rfl rfl rfl (ar_tmp (av_fs 11 rfl))⟩,
      .inl ⟨wants_plain rfl, does_conv' (n := x) (m := (IntKind.u64.wrap x)) _ Try.underlying3 Try.underlying49 rfl rfl rfl rfl rfl rfl (ar_tmp (av_rs 1 1 rfl rfl))⟩,
      .inl ⟨wants_plain rfl, does_callG [] [102] [102] 106 [0, 1] (da_Hash1 (c := c3) (mixs seedI ((hashL t).take k)) (IntKind.u64.wrap x)) rfl DagH_hb_collator_dag_Hash_1 rfl rfl rfl rfl rfl (ar_tmp (av_rs 0 0 rfl rfl)) (ars_cons (pa_vp (ar_tmp (av_rs 2 2 rfl rfl))) (ars_cap (fun _ _ _ _ _ => ⟨rfl, hc3⟩) ars_nil)) trivial ⟨(av_os 0 3 rfl rfl), trivial⟩⟩,
      trivial⟩ ?_
    refine nx_block ?_
    refine nx_then ?_
    refine t_pick [0, 1, 2, 3, 4, 5, 6, 7, 8, 9, 10, 11, 12, 13, 14, 16] rfl ?_
    refine t_region (F := ⟨_, _, _, _, _, _⟩) [.is (.tmp 1) (VP.ptr c1), .is (.tmp 3) (VP.ptr c3), .is (.tmp 4) (VP.clo 39 [c3]), .is (.tmp 21) (VP.eq vl true true), .is (.tmp 22) (VP.int .i64 (((hashL t).length : Nat) : Int)), .own 101 (.val c1) (B_term t), .own 105 (.val vl) (R_int (hashL t)), .is (.tmp 24) (VP.bool (decide (((k : Nat) : Int) < (((hashL t).length : Nat) : Int)))), .pt 25 (.row (.val vl) (k * 1)), .is (.tmp 26) (VP.int .i64 x), .is (.tmp 6) (VP.int .i64 x), .is (.tmp 27) (VP.clo 39 [c3]), .is (.tmp 28) (VP.int .i64 x), .is (.tmp 29) (VP.int .u64 (IntKind.u64.wrap x)), .own 102 (.val c3) (HA.cells 49 [HA.of (VP.int .u64 (mixI (mixs seedI ((hashL t).take k)) (IntKind.u64.wrap x)))])] [(1, .is (.tmp 23) (VP.int .i64 ((k : Nat) : Int)))] [(0, .is (.tmp 31) (VP.int .i64 (((k + 1) : Nat) : Int))), (1, .is (.tmp 23) (VP.int .i64 (((k + 1) : Nat) : Int)))] [] [0, 1, 2, 3, 4, 6, 7, 8, 9, 10, 11, 12, 13, 14, 15] [5] [[], [0]] [[1], []] rfl rfl follow rfl ⟨
      .inl ⟨wants_plain rfl, does_addE (m := ((k : Nat) : Int)) (n := 1) (x := (((k + 1) : Nat) : Int)) (by omega) _ _ _ _ rfl rfl rfl rfl rfl (by omega) (ar_tmp (av_os 0 1 rfl rfl)) (ar_const (fun _ _ => rfl))⟩,
      .inl ⟨wants_plain rfl, does_move _ (.inl rfl) rfl rfl rfl rfl (ar_tmp (av_rs 0 0 rfl rfl))⟩,
      trivial⟩ ?_
    refine t_pick [14, 0, 1, 2, 3, 4, 5, 6, 7, 8, 9, 10, 11, 12, 13, 15, 16] rfl ?_
    refine t_weak (R' := HA.cells 49 [HA.of (VP.int .u64 (mixs seedI ((hashL t).take (k + 1))))]) (fun _ _ _ _ h => by rw [← mixs_succ hx]; exact h) rfl ?_
    refine nx_round (τ := {k : Nat // k ≤ (hashL t).length}) (I := fun ⟨k, _⟩ => [.is (.tmp 1) (VP.ptr c1), .is (.tmp 3) (VP.ptr c3), .is (.tmp 4) (VP.clo 39 [c3]), .is (.tmp 21) (VP.eq vl true true), .is (.tmp 22) (VP.int .i64 (((hashL t).length : Nat) : Int)), .is (.tmp 23) (VP.int .i64 ((k : Nat) : Int)), .own 102 (.val c3) (HA.cells 49 [HA.of (VP.int .u64 (mixs seedI ((hashL t).take k)))]), .own 101 (.val c1) (B_term t), .own 105 (.val vl) (R_int (hashL t))]) (μ := fun ⟨k, _⟩ => (hashL t).length - k) (s := ⟨k, hkk⟩) (⟨k + 1, by omega⟩) ?_ [1, 2, 3, 4, 5, 16, 0, 6, 7] ?_
    · exact (show (hashL t).length - (k + 1) < (hashL t).length - k by omega)
    · exact rfl
  · have hc1 := of_decide_eq_false hb1
    refine t_exit ?_
    refine ex_then ?_
    refine ex_then ?_
    refine ex_block ?_
    refine nx_then ?_
    refine t_pick [0, 1, 2, 6, 7, 8] rfl ?_
    refine t_seq ?_
    refine t_seq ?_
    refine t_pick [3, 0, 1, 2, 4, 5] rfl ?_
    refine t_weak (R' := HA.cells 49 [HA.of (VP.int .u64 (mixB (mixs seedI (hashL t)) ((bytesL t.num).take 0)))]) (fun _ _ _ _ h => by rw [List.take_of_length_le (show (hashL t).length ≤ k by omega)] at h; rw [mixB_0]; exact h) rfl ?_
    refine t_region (F := ⟨_, _, _, _, _, _⟩) [.own 102 (.val c3) (HA.cells 49 [HA.of (VP.int .u64 (mixB (mixs seedI (hashL t)) ((bytesL t.num).take 0)))]), .is (.tmp 1) (VP.ptr c1), .is (.tmp 3) (VP.ptr c3), .is (.tmp 4) (VP.clo 39 [c3]), .own 101 (.val c1) (B_term t), .own 105 (.val vl) (R_int (hashL t))] [] [(0, .pt 32 (.blk (.val c1) 3)), (1, .is (.tmp 33) (VP.str t.num)), (2, .own 107 (.tmp 34) (HA.slc ((bytesL t.num).length) ((bytesL t.num).flatMap cByte))), (3, .is (.tmp 35) (VP.int .i64 (((bytesL t.num).length : Nat) : Int))), (4, .is (.tmp 36) (VP.int .i64 0))] [] [0, 1, 2, 3, 4, 5] [] [[], [0], [0, 1], [0, 1, 2], []] [[1, 2, 3], [2, 3], [3], [], []] rfl rfl follow rfl ⟨
      .inl ⟨wants_plain rfl, does_field _ _ _ 3 DagH_f_api_Term_3 rfl rfl rfl rfl rfl rfl (pt_ptr (ar_tmp (av_fs 1 rfl)))⟩,
      .inl ⟨wants_plain rfl, does_loadOne _ DagH_one_string rfl rfl rfl rfl rfl (pt_pt (av_rs 0 0 rfl rfl)) (rds_box (off := 3) (av_fs 4 rfl) (hq_one rfl))⟩,
      .inl ⟨wants_plain rfl, does_bytes _ Try.underlying9 Try.underlying82 Try.underlying5 rfl rfl rfl rfl rfl (by omega) (ar_tmp (av_rs 1 1 rfl rfl))⟩,
      .inl ⟨wants_plain rfl, does_len _ _ (by kernel_rfl) rfl rfl rfl rfl rfl (sl_tmpSlc (av_rs 2 2 rfl rfl))⟩,
      .inl ⟨wants_plain rfl, does_move _ (.inl rfl) rfl rfl rfl rfl (ar_const (fun _ _ => rfl))⟩,
      trivial⟩ ?_
    refine t_pick [0, 2, 3, 4, 5, 8, 9, 10] rfl ?_
    refine nx_then ?_
    refine t_pick [5, 0, 1, 2, 3, 4, 6, 7] rfl ?_
    refine t_freeze (fz_slc _ _) rfl ?_
    refine t_block ?_
    refine t_pick [7, 0, 1, 2, 3, 4, 5, 6] rfl ?_
    refine t_slot (y := VP.int .i64 ((0 : Nat) : Int)) (fun _ _ _ h => h) ?_
    refine t_loop (τ := {m : Nat // m ≤ (bytesL t.num).length}) (fun ⟨m, _⟩ => [.is (.tmp 3) (VP.ptr c3), .is (.tmp 4) (VP.clo 39 [c3]), .is (.tmp 34) (VP.ro ((bytesL t.num).length) ((bytesL t.num).flatMap cByte)), .is (.tmp 35) (VP.int .i64 (((bytesL t.num).length : Nat) : Int)), .is (.tmp 36) (VP.int .i64 ((m : Nat) : Int)), .own 102 (.val c3) (HA.cells 49 [HA.of (VP.int .u64 (mixB (mixs seedI (hashL t)) ((bytesL t.num).take m)))])]) (fun ⟨m, _⟩ => (bytesL t.num).length - m) (⟨0, Nat.zero_le _⟩) [3, 4, 1, 7, 0, 2] rfl ?_
    rintro ⟨m, hm⟩
    refine t_seq ?_
    refine t_region (F := ⟨_, _, _, _, _, _⟩) [.is (.tmp 3) (VP.ptr c3), .is (.tmp 4) (VP.clo 39 [c3]), .is (.tmp 34) (VP.ro ((bytesL t.num).length) ((bytesL t.num).flatMap cByte)), .is (.tmp 35) (VP.int .i64 (((bytesL t.num).length : Nat) : Int)), .is (.tmp 36) (VP.int .i64 ((m : Nat) : Int)), .own 102 (.val c3) (HA.cells 49 [HA.of (VP.int .u64 (mixB (mixs seedI (hashL t)) ((bytesL t.num).take m)))])] [] [(0, .is (.tmp 37) (VP.bool (decide (((m : Nat) : Int) < (((bytesL t.num).length : Nat) : Int)))))] [] [0, 1, 2, 3, 4, 5] [] [[]] [[]] rfl rfl follow rfl ⟨
      .inl ⟨wants_plain rfl, does_cmp (m := ((m : Nat) : Int)) (n := (((bytesL t.num).length : Nat) : Int)) _ _ _ _ _ rfl rfl rfl rfl rfl rfl .i64 (ar_tmp (av_fs 4 rfl)) (ar_tmp (av_fs 3 rfl))⟩,
      trivial⟩ ?_
    refine nx_then ?_
    refine t_seq ?_
    refine t_split 6 rfl (fun hb2 => ?_) (fun hb2 => ?_)
    · have hc2 := of_decide_eq_true hb2
      obtain ⟨x, hx⟩ : ∃ x, (bytesL t.num)[m]? = some x := ⟨_, List.getElem?_eq_getElem (by omega)⟩
      have hxl := bytesL_lt hx
      refine t_skip ?_
      refine nx_then ?_
      refine t_seq ?_
      refine t_block ?_
      refine t_seq ?_
      refine t_region (F := ⟨_, _, _, _, _, _⟩) [.is (.tmp 3) (VP.ptr c3), .is (.tmp 4) (VP.clo 39 [c3]), .is (.tmp 34) (VP.ro ((bytesL t.num).length) ((bytesL t.num).flatMap cByte)), .is (.tmp 35) (VP.int .i64 (((bytesL t.num).length : Nat) : Int)), .is (.tmp 36) (VP.int .i64 ((m : Nat) : Int)), .own 102 (.val c3) (HA.cells 49 [HA.of (VP.int .u64 (mixB (mixs seedI (hashL t)) ((bytesL t.num).take m)))]), .is (.tmp 37) (VP.bool (decide (((m : Nat) : Int) < (((bytesL t.num).length : Nat) : Int))))] [] [(0, .pt 38 (.row (.tmp 34) (m * 1))), (1, .is (.tmp 39) (VP.int .u8 ((x : Nat) : Int))), (2, .is (.tmp 8) (VP.int .u8 ((x : Nat) : Int)))] [] [0, 1, 2, 3, 4, 5, 6] [] [[], [0], [0, 1]] [[1, 2], [2], []] rfl rfl follow rfl ⟨
        .inl ⟨wants_plain rfl, does_index (m := m) _ _ Try.underlying82 DagH_size_uint8 rfl rfl rfl rfl rfl _ (by omega) rfl (by omega) (sl_ro (av_fs 2 rfl) (flat_nil_iff cByte_len (by decide) _)) (ar_tmp (av_fs 4 rfl))⟩,
        .inl ⟨wants_plain rfl, does_loadOne _ DagH_one_uint8 rfl rfl rfl rfl rfl (pt_pt (av_rs 0 0 rfl rfl)) (rds_ro (av_fs 2 rfl) (hq_flatV1 cByte_len hx 0 (by omega) rfl))⟩,
        .inl ⟨wants_plain rfl, does_move _ (.inr rfl) rfl rfl rfl rfl (ar_tmp (av_rs 1 1 rfl rfl))⟩,
        trivial⟩ ?_
      refine nx_then ?_
      refine t_region (F := ⟨_, _, _, _, _, _⟩) [.is (.tmp 3) (VP.ptr c3), .is (.tmp 4) (VP.clo 39 [c3]), .is (.tmp 34) (VP.ro ((bytesL t.num).length) ((bytesL t.num).flatMap cByte)), .is (.tmp 35) (VP.int .i64 (((bytesL t.num).length : Nat) : Int)), .is (.tmp 36) (VP.int .i64 ((m : Nat) : Int)), .is (.tmp 37) (VP.bool (decide (((m : Nat) : Int) < (((bytesL t.num).length : Nat) : Int)))), .pt 38 (.row (.tmp 34) (m * 1)), .is (.tmp 39) (VP.int .u8 ((x : Nat) : Int)), .is (.tmp 8) (VP.int .u8 ((x : Nat) : Int))] [(3, .own 102 (.val c3) (HA.cells 49 [HA.of (VP.int .u64 (mixB (mixs seedI (hashL t)) ((bytesL t.num).take m)))]))] [(0, .is (.tmp 40) (VP.clo 39 [c3])), (1, .is (.tmp 41) (VP.int .u8 ((x : Nat) : Int))), (2, .is (.tmp 42) (VP.int .u64 ((x : Nat) : Int))), (3, .own 108 (.tmp 43) (HA.of (VP.tup []))), (3, .own 102 (.val c3) (HA.cells 49 [HA.of (VP.int .u64 (mixI (mixB (mixs seedI (hashL t)) ((bytesL t.num).take m)) ((x : Nat) : Int)))]))] [] [0, 1, 2, 3, 4, 6, 7, 8, 9] [5] [[], [], [1], [0, 1, 2]] [[3], [2, 3], [3], []] rfl rfl follow rfl ⟨
        .inl ⟨wants_plain rfl, does_move _ (.inl rfl) rfl rfl rfl rfl (ar_tmp (av_fs 1 rfl))⟩,
        .inl ⟨wants_plain rfl, does_move _ (.inl rfl) rfl rfl rfl rfl (ar_tmp (av_fs 8 rfl))⟩,
        .inl ⟨wants_plain rfl, does_conv' (n := ((x : Nat) : Int)) (m := ((x : Nat) : Int)) _ Try.underlying5 Try.underlying49 rfl rfl rfl rfl rfl (by rw [IntKind.wrap_u64]; omega) (ar_tmp (av_rs 1 1 rfl rfl))⟩,
        .inl ⟨wants_plain rfl, does_callG [] [102] [102] 108 [0, 1] (da_Hash1 (c := c3) (mixB (mixs seedI (hashL t)) ((bytesL t.num).take m)) ((x : Nat) : Int)) rfl DagH_hb_collator_dag_Hash_1 rfl rfl rfl rfl rfl (ar_tmp (av_rs 0 0 rfl rfl)) (ars_cons (pa_vp (ar_tmp (av_rs 2 2 rfl rfl))) (ars_cap (fun _ _ _ _ _ => ⟨rfl, hc3⟩) ars_nil)) trivial ⟨(av_os 0 3 rfl rfl), trivial⟩⟩,
        trivial⟩ ?_
      refine nx_block ?_
      refine nx_then ?_
      refine t_pick [0, 1, 2, 3, 4, 5, 6, 7, 8, 9, 10, 11, 13] rfl ?_
      refine t_region (F := ⟨_, _, _, _, _, _⟩) [.is (.tmp 3) (VP.ptr c3), .is (.tmp 4) (VP.clo 39 [c3]), .is (.tmp 34) (VP.ro ((bytesL t.num).length) ((bytesL t.num).flatMap cByte)), .is (.tmp 35) (VP.int .i64 (((bytesL t.num).length : Nat) : Int)), .is (.tmp 37) (VP.bool (decide (((m : Nat) : Int) < (((bytesL t.num).length : Nat) : Int)))), .pt 38 (.row (.tmp 34) (m * 1)), .is (.tmp 39) (VP.int .u8 ((x : Nat) : Int)), .is (.tmp 8) (VP.int .u8 ((x : Nat) : Int)), .is (.tmp 40) (VP.clo 39 [c3]), .is (.tmp 41) (VP.int .u8 ((x : Nat) : Int)), .is (.tmp 42) (VP.int .u64 ((x : Nat) : Int)), .own 102 (.val c3) (HA.cells 49 [HA.of (VP.int .u64 (mixI (mixB (mixs seedI (hashL t)) ((bytesL t.num).take m)) ((x : Nat) : Int)))])] [(1, .is (.tmp 36) (VP.int .i64 ((m : Nat) : Int)))] [(0, .is (.tmp 44) (VP.int .i64 (((m + 1) : Nat) : Int))), (1, .is (.tmp 36) (VP.int .i64 (((m + 1) : Nat) : Int)))] [] [0, 1, 2, 3, 5, 6, 7, 8, 9, 10, 11, 12] [4] [[], [0]] [[1], []] rfl rfl follow rfl ⟨
        .inl ⟨wants_plain rfl, does_addE (m := ((m : Nat) : Int)) (n := 1) (x := (((m + 1) : Nat) : Int)) (by omega) _ _ _ _ rfl rfl rfl rfl rfl (by omega) (ar_tmp (av_os 0 1 rfl rfl)) (ar_const (fun _ _ => rfl))⟩,
        .inl ⟨wants_plain rfl, does_move _ (.inl rfl) rfl rfl rfl rfl (ar_tmp (av_rs 0 0 rfl rfl))⟩,
        trivial⟩ ?_
      refine t_pick [11, 0, 1, 2, 3, 4, 5, 6, 7, 8, 9, 10, 12, 13] rfl ?_
      refine t_weak (R' := HA.cells 49 [HA.of (VP.int .u64 (mixB (mixs seedI (hashL t)) ((bytesL t.num).take (m + 1))))]) (fun _ _ _ _ h => by rw [← mixB_succ hx]; exact h) rfl ?_
      refine nx_round (τ := {m : Nat // m ≤ (bytesL t.num).length}) (I := fun ⟨m, _⟩ => [.is (.tmp 3) (VP.ptr c3), .is (.tmp 4) (VP.clo 39 [c3]), .is (.tmp 34) (VP.ro ((bytesL t.num).length) ((bytesL t.num).flatMap cByte)), .is (.tmp 35) (VP.int .i64 (((bytesL t.num).length : Nat) : Int)), .is (.tmp 36) (VP.int .i64 ((m : Nat) : Int)), .own 102 (.val c3) (HA.cells 49 [HA.of (VP.int .u64 (mixB (mixs seedI (hashL t)) ((bytesL t.num).take m)))])]) (μ := fun ⟨m, _⟩ => (bytesL t.num).length - m) (s := ⟨m, hm⟩) (⟨m + 1, by omega⟩) ?_ [1, 2, 3, 4, 13, 0] ?_
      · exact (show (bytesL t.num).length - (m + 1) < (bytesL t.num).length - m by omega)
      · exact rfl
    · have hc2 := of_decide_eq_false hb2
      refine t_exit ?_
      refine ex_then ?_
      refine ex_then ?_
      refine ex_block ?_
      refine nx_then ?_
      refine t_pick [0, 5] rfl ?_
      refine t_seq ?_
      refine t_pick [1, 0] rfl ?_
      refine t_weak (R' := HA.cells 49 [HA.of (VP.int .u64 (hashT t))]) (fun _ _ _ _ h => by rw [List.take_of_length_le (show (bytesL t.num).length ≤ m by omega)] at h; exact h) rfl ?_
      refine t_region (F := ⟨_, _, _, _, _, _⟩) [.own 102 (.val c3) (HA.cells 49 [HA.of (VP.int .u64 (hashT t))]), .is (.tmp 3) (VP.ptr c3)] [] [(0, .is (.tmp 45) (VP.int .u64 (hashT t))), (1, .is (.tmp 2) (VP.int .u64 (hashT t)))] [] [0, 1] [] [[], [0]] [[1], []] rfl rfl follow rfl ⟨
        .inl ⟨wants_plain rfl, does_loadOne _ DagH_one_uint64 rfl rfl rfl rfl rfl (pt_ptr (ar_tmp (av_fs 1 rfl))) (rds_box (off := 0) (av_fs 0 rfl) (hq_one rfl))⟩,
        .inl ⟨wants_plain rfl, does_move _ (.inr rfl) rfl rfl rfl rfl (ar_tmp (av_rs 0 0 rfl rfl))⟩,
        trivial⟩ ?_
      refine t_pick [0, 3] rfl ?_
      refine nx_then ?_
      refine t_ret ?_
      exact rt_post [HA.of (VP.int .u64 (hashT t))] [[]] [] [] rfl ⟨(rv_vp 1 rfl), trivial⟩ (by decide) rfl rfl

end O
end Go.Proofs.Ytapmngmpomhjmaa

/- A table of buckets grows. -/
namespace Go.Proofs.Ytapmngmpomhjmaa
open Go.RowKit
namespace O

def addT (t : List (List Int)) (hs : Int) (x : Int) : List (List Int) := t.set (hs % (t.length : Int)).toNat ((t[(hs % (t.length : Int)).toNat]?).getD [] ++ [x])
def growT (hs : List Int) (n : Nat) : Nat → List (List Int)
  | 0 => List.replicate n []
  | k + 1 => addT (growT hs n k) ((hs[k]?).getD 0) (k : Int)
def ArD.grow (d : ArD) : ArD := { d with table := growT d.hashes (2 * d.table.length) d.hashes.length }
theorem addT_len {t : List (List Int)} {hs x : Int} : (addT t hs x).length = t.length := by unfold addT; rw [List.length_set]
theorem growT_len {hs : List Int} {n : Nat} : ∀ k, (growT hs n k).length = n
  | 0 => by unfold growT; simp
  | k + 1 => by unfold growT; rw [addT_len]; exact growT_len k
theorem growT_succ {hs : List Int} {n k m : Nat} {x : Int} (hx : hs[k]? = some x) (hm : m = (x % ((growT hs n k).length : Int)).toNat) : (growT hs n k).set m (((growT hs n k)[m]?).getD [] ++ [((k : Nat) : Int)]) = growT hs n (k + 1) := by
  subst hm
  show _ = addT (growT hs n k) ((hs[k]?).getD 0) (k : Int)
  rw [hx]; rfl
theorem addT_get {t : List (List Int)} {hs x : Int} (m : Nat) : ((addT t hs x)[m]?).getD [] = if m = (hs % (t.length : Int)).toNat ∧ m < t.length then (t[m]?).getD [] ++ [x] else (t[m]?).getD [] := by
  unfold addT
  rw [List.getElem?_set]
  by_cases e : (hs % (t.length : Int)).toNat = m
  · rw [if_pos e]
    subst e
    by_cases h : (hs % (t.length : Int)).toNat < t.length
    · rw [if_pos h, if_pos ⟨rfl, h⟩]; rfl
    · rw [if_neg h, if_neg (fun h' => h h'.2), List.getElem?_eq_none (by omega)]
  · rw [if_neg e, if_neg (fun h' => e h'.1.symm)]
theorem growT_bk {hs : List Int} {n : Nat} (m : Nat) : ∀ k, (((growT hs n k)[m]?).getD []).length ≤ k
  | 0 => by
    unfold growT
    rw [List.getElem?_replicate]
    split <;> simp
  | k + 1 => by
    have := growT_bk (hs := hs) (n := n) m k
    show (((addT (growT hs n k) ((hs[k]?).getD 0) (k : Int))[m]?).getD []).length ≤ k + 1
    rw [addT_get]
    split
    · rw [List.length_append, List.length_cons, List.length_nil]; omega
    · omega
theorem mod_at {x : Int} {n : Nat} (hn : 1 ≤ n) : ∃ m : Nat, m = (x % (n : Int)).toNat ∧ x % (n : Int) = (m : Int) ∧ m < n := by
  have h1 := Int.emod_nonneg x (show (n : Int) ≠ 0 by omega)
  have h2 := Int.emod_lt_of_pos x (show (0 : Int) < (n : Int) by omega)
  exact ⟨_, rfl, by omega, by omega⟩
theorem DagJ_f_dag_Arena_5 : fieldAt Try.prog 64 5 5 = true := by kernel_rfl
theorem DagJ_one_dag_table : oneTy Try.prog 60 = true := by kernel_rfl
theorem DagJ_el_dag_table : Elem Try.prog 60 28 (.slice none 0 0) 1 24 := Elem.mk Try.underlying60 (by kernel_rfl) rfl (by decide)
theorem DagJ_size_dag_table : ∀ w, (sizeOf 60).run Try.prog w = .ok 1 w := run_sizeOne DagJ_one_dag_table
theorem DagJ_f_dag_Arena_4 : fieldAt Try.prog 64 4 4 = true := by kernel_rfl
theorem DagJ_one___uint64 : oneTy Try.prog 62 = true := by kernel_rfl
theorem DagJ_one_uint64 : oneTy Try.prog 49 = true := by kernel_rfl
theorem DagJ_size_uint64 : ∀ w, (sizeOf 49).run Try.prog w = .ok 1 w := run_sizeOne DagJ_one_uint64
theorem DagJ_hb__collator_dag_table__place : hasBody Try.prog 31 = true := by kernel_rfl
theorem DagJ_one___int : oneTy Try.prog 28 = true := by kernel_rfl
theorem DagJ_size___int : ∀ w, (sizeOf 28).run Try.prog w = .ok 1 w := run_sizeOne DagJ_one___int
theorem DagJ_el_int : Elem Try.prog 28 3 (.int .i64 0) 1 8 := Elem.mk Try.underlying28 (by kernel_rfl) rfl (by decide)
set_option maxRecDepth 100000 in
set_option maxHeartbeats 4000000 in
theorem da_grow {v : Value} {d : ArD} {j : Nat} (hT : d.table.length = 2 ^ j) (hj : j ≤ 30) (hh : d.hashes.length ≤ 1000000) (ht : d.table.length ≤ 4000000) : SpecO Try.prog 34 [.vp (VP.ptr v)] [] [(v, Arn d)] [(v, Arn d.grow)] (HA.of (VP.tup [])) := by
  have ht1 : 1 ≤ d.table.length := by rw [hT]; exact Nat.one_le_two_pow
  refine spec_tup (ps := []) ?_
  refine spec_of 48 Try.func34 rfl Try.ntmps34 rfl fun w0 S0 Z0 Bf => ?_
  refine t_seq ?_
  refine t_pick [1, 0] rfl ?_
  refine t_part 101 (part_cells (T' := 64) (Rs := [R_sort d.sorts, R_fun d.funs, R_term d.terms, R_int d.of_, R_u64 d.hashes, rowsInt d.table, HA.of (VP.int .i64 d.most)]) 0 rfl) rfl rfl fun us => ?_
  refine t_part 102 (part_cells (T' := 64) (Rs := [HA.of (VP.eq us true true), R_fun d.funs, R_term d.terms, R_int d.of_, R_u64 d.hashes, rowsInt d.table, HA.of (VP.int .i64 d.most)]) 1 rfl) rfl rfl fun uf => ?_
  refine t_part 103 (part_cells (T' := 64) (Rs := [HA.of (VP.eq us true true), HA.of (VP.eq uf true true), R_term d.terms, R_int d.of_, R_u64 d.hashes, rowsInt d.table, HA.of (VP.int .i64 d.most)]) 2 rfl) rfl rfl fun ut => ?_
  refine t_part 104 (part_cells (T' := 64) (Rs := [HA.of (VP.eq us true true), HA.of (VP.eq uf true true), HA.of (VP.eq ut true true), R_int d.of_, R_u64 d.hashes, rowsInt d.table, HA.of (VP.int .i64 d.most)]) 3 rfl) rfl rfl fun uo => ?_
  refine t_part 105 (part_cells (T' := 64) (Rs := [HA.of (VP.eq us true true), HA.of (VP.eq uf true true), HA.of (VP.eq ut true true), HA.of (VP.eq uo true true), R_u64 d.hashes, rowsInt d.table, HA.of (VP.int .i64 d.most)]) 4 rfl) rfl rfl fun uh => ?_
  refine t_part 106 (part_cells (T' := 64) (Rs := [HA.of (VP.eq us true true), HA.of (VP.eq uf true true), HA.of (VP.eq ut true true), HA.of (VP.eq uo true true), HA.of (VP.eq uh true true), rowsInt d.table, HA.of (VP.int .i64 d.most)]) 5 rfl) rfl rfl fun ub => ?_
  refine t_region (F := ⟨_, _, _, _, _, _⟩) [.own 106 (.val ub) (rowsInt d.table), .own 105 (.val uh) (R_u64 d.hashes), .own 104 (.val uo) (R_int d.of_), .own 103 (.val ut) (R_term d.terms), .own 102 (.val uf) (R_fun d.funs), .own 101 (.val us) (R_sort d.sorts), .is (.tmp 0) (VP.ptr v)] [(10, .own 0 (.val v) (ArO us uf ut uo uh ub d.most))] [(0, .is (.tmp 5) (VP.ptr v)), (1, .is (.tmp 6) (VP.ptr v)), (2, .is (.tmp 7) (VP.ptr v)), (3, .pt 8 (.blk (.val v) 5)), (4, .is (.tmp 9) (VP.eq ub true true)), (5, .is (.tmp 10) (VP.int .i64 ((d.table.length : Nat) : Int))), (6, .is (.tmp 11) (VP.int .i64 (2 * ((d.table.length : Nat) : Int)))), (8, .is (.tmp 13) (VP.ptr v)), (9, .pt 14 (.blk (.val v) 5)), (10, .own 0 (.val v) (HA.cells 64 [HA.of (VP.eq us true true), HA.of (VP.eq uf true true), HA.of (VP.eq ut true true), HA.of (VP.eq uo true true), HA.of (VP.eq uh true true), HA.row 28 1 (2 * d.table.length) ((List.replicate (2 * d.table.length) VP.nilS).map HA.of), HA.of (VP.int .i64 d.most)]))] [(7, 10, .own 107 (.tmp 12) (HA.row 28 1 (2 * d.table.length) ((List.replicate (2 * d.table.length) VP.nilS).map HA.of)))] [1, 2, 3, 4, 5, 6, 7] [0] [[], [], [1], [1, 2], [1, 2, 3], [1, 2, 3, 4], [1, 2, 3, 4, 5], [1, 2, 3, 4, 5, 6], [0, 1, 2, 3, 4, 5, 6, 7], [0, 1, 2, 3, 4, 5, 6, 7, 8], [0, 1, 2, 3, 4, 5, 6, 7, 8, 9]] [[8, 9, 10], [2, 3, 4, 5, 6, 7, 8, 9, 10], [3, 4, 5, 6, 7, 8, 9, 10], [4, 5, 6, 7, 8, 9, 10], [5, 6, 7, 8, 9, 10], [6, 7, 8, 9, 10], [7, 8, 9, 10], [8, 9, 10], [9, 10], [10], []] rfl rfl follow rfl ⟨
    .inl ⟨wants_plain rfl, does_move _ (.inl rfl) rfl rfl rfl rfl (ar_tmp (av_fs 6 rfl))⟩,
    .inl ⟨wants_plain rfl, does_move _ (.inl rfl) rfl rfl rfl rfl (ar_tmp (av_fs 6 rfl))⟩,
    .inl ⟨wants_plain rfl, does_nil _ rfl rfl rfl rfl rfl (ar_tmp (av_rs 1 1 rfl rfl))⟩,
    .inl ⟨wants_plain rfl, does_field _ _ _ 5 DagJ_f_dag_Arena_5 rfl rfl rfl rfl rfl rfl (pt_ptr (ar_tmp (av_rs 2 2 rfl rfl)))⟩,
    .inl ⟨wants_plain rfl, does_loadOne _ DagJ_one_dag_table rfl rfl rfl rfl rfl (pt_pt (av_rs 3 3 rfl rfl)) (rds_box (off := 5) (av_os 0 10 rfl rfl) (hq_one rfl))⟩,
    .inl ⟨wants_plain rfl, does_len _ _ (by kernel_rfl) rfl rfl rfl rfl rfl (sl_own (av_fs 0 rfl) (ar_tmp (av_rs 4 4 rfl rfl)))⟩,
    .inl ⟨wants_plain rfl, does_mulInt (m := 2) (n := ((d.table.length : Nat) : Int)) _ _ _ _ rfl rfl rfl rfl rfl (by omega) (ar_const (fun _ _ => rfl)) (ar_tmp (av_rs 5 5 rfl rfl))⟩,
    .inl ⟨wants_plain rfl, does_make (n := (2 * d.table.length)) (ps := List.replicate (2 * d.table.length) VP.nilS) DagJ_el_dag_table rfl _ _ rfl rfl rfl rfl rfl rfl (by simp) (zsn_of _) (by constructor <;> first | decide | omega) (ar_int_eq (by omega) (ar_tmp (av_rs 6 6 rfl rfl))) (ar_int_eq (by omega) (ar_tmp (av_rs 6 6 rfl rfl)))⟩,
    .inl ⟨wants_plain rfl, does_nil _ rfl rfl rfl rfl rfl (ar_tmp (av_rs 0 0 rfl rfl))⟩,
    .inl ⟨wants_plain rfl, does_field _ _ _ 5 DagJ_f_dag_Arena_5 rfl rfl rfl rfl rfl rfl (pt_ptr (ar_tmp (av_rs 7 8 rfl rfl)))⟩,
    .inl ⟨wants_plain rfl, does_store (off := 5) (Qs := [HA.row 28 1 (2 * d.table.length) ((List.replicate (2 * d.table.length) VP.nilS).map HA.of)]) _ _ DagJ_size_dag_table rfl rfl rfl rfl rfl rfl (pt_pt (av_rs 8 9 rfl rfl)) (av_os 0 10 rfl rfl) (cv_one rfl (mv_own (av_ms 0 7 10 rfl rfl rfl)))⟩,
    trivial⟩ ?_
  refine t_pick [0, 1, 2, 3, 4, 5, 6, 16] rfl ?_
  refine nx_then ?_
  refine t_pick [7, 0, 1, 2, 3, 4, 5, 6] rfl ?_
  refine t_weak (cells_weak (T := 64) (Rs := [HA.of (VP.eq us true true), HA.of (VP.eq uf true true), HA.of (VP.eq ut true true), HA.of (VP.eq uo true true), HA.of (VP.eq uh true true), HA.row 28 1 (2 * d.table.length) ((List.replicate (2 * d.table.length) VP.nilS).map HA.of), HA.of (VP.int .i64 d.most)]) (R' := rowsInt (growT d.hashes (2 * d.table.length) 0)) 5 rfl (nil_rows (g := rowInt) rfl)) rfl ?_
  refine t_pick [0, 2, 3, 4, 5, 6, 7] rfl ?_
  refine t_part 108 (part_cells (T' := 64) (Rs := [HA.of (VP.eq us true true), HA.of (VP.eq uf true true), HA.of (VP.eq ut true true), HA.of (VP.eq uo true true), HA.of (VP.eq uh true true), rowsInt (growT d.hashes (2 * d.table.length) 0), HA.of (VP.int .i64 d.most)]) 5 rfl) rfl rfl fun ub2 => ?_
  refine t_seq ?_
  refine t_region (F := ⟨_, _, _, _, _, _⟩) [.own 0 (.val v) (ArO us uf ut uo uh ub2 d.most), .own 108 (.val ub2) (rowsInt (growT d.hashes (2 * d.table.length) 0)), .own 105 (.val uh) (R_u64 d.hashes), .own 104 (.val uo) (R_int d.of_), .own 103 (.val ut) (R_term d.terms), .own 102 (.val uf) (R_fun d.funs), .own 101 (.val us) (R_sort d.sorts), .is (.tmp 0) (VP.ptr v)] [] [(0, .is (.tmp 15) (VP.ptr v)), (1, .is (.tmp 16) (VP.ptr v)), (2, .pt 17 (.blk (.val v) 4)), (3, .is (.tmp 18) (VP.eq uh true true)), (4, .is (.tmp 19) (VP.int .i64 ((d.hashes.length : Nat) : Int))), (5, .is (.tmp 20) (VP.int .i64 0))] [] [0, 1, 2, 3, 4, 5, 6, 7] [] [[], [0], [0, 1], [0, 1, 2], [0, 1, 2, 3], []] [[1, 2, 3, 4], [2, 3, 4], [3, 4], [4], [], []] rfl rfl follow rfl ⟨
    .inl ⟨wants_plain rfl, does_move _ (.inl rfl) rfl rfl rfl rfl (ar_tmp (av_fs 7 rfl))⟩,
    .inl ⟨wants_plain rfl, does_nil _ rfl rfl rfl rfl rfl (ar_tmp (av_rs 0 0 rfl rfl))⟩,
    .inl ⟨wants_plain rfl, does_field _ _ _ 4 DagJ_f_dag_Arena_4 rfl rfl rfl rfl rfl rfl (pt_ptr (ar_tmp (av_rs 1 1 rfl rfl)))⟩,
    .inl ⟨wants_plain rfl, does_loadOne _ DagJ_one___uint64 rfl rfl rfl rfl rfl (pt_pt (av_rs 2 2 rfl rfl)) (rds_box (off := 4) (av_fs 0 rfl) (hq_one rfl))⟩,
    .inl ⟨wants_plain rfl, does_len _ _ (by kernel_rfl) rfl rfl rfl rfl rfl (sl_own (av_fs 2 rfl) (ar_tmp (av_rs 3 3 rfl rfl)))⟩,
    .inl ⟨wants_plain rfl, does_move _ (.inl rfl) rfl rfl rfl rfl (ar_const (fun _ _ => rfl))⟩,
    trivial⟩ ?_
  refine t_pick [0, 1, 2, 3, 4, 5, 6, 7, 11, 12, 13] rfl ?_
  refine nx_then ?_
  refine t_block ?_
  refine t_pick [10, 0, 1, 2, 3, 4, 5, 6, 7, 8, 9] rfl ?_
  refine t_slot (y := VP.int .i64 ((0 : Nat) : Int)) (fun _ _ _ h => h) ?_
  refine t_loop (τ := {k : Nat // k ≤ d.hashes.length}) (fun ⟨k, _⟩ => [.is (.tmp 0) (VP.ptr v), .is (.tmp 18) (VP.eq uh true true), .is (.tmp 19) (VP.int .i64 ((d.hashes.length : Nat) : Int)), .is (.tmp 20) (VP.int .i64 ((k : Nat) : Int)), .own 0 (.val v) (ArO us uf ut uo uh ub2 d.most), .own 101 (.val us) (R_sort d.sorts), .own 102 (.val uf) (R_fun d.funs), .own 103 (.val ut) (R_term d.terms), .own 104 (.val uo) (R_int d.of_), .own 105 (.val uh) (R_u64 d.hashes), .own 108 (.val ub2) (rowsInt (growT d.hashes (2 * d.table.length) k))]) (fun ⟨k, _⟩ => d.hashes.length - k) (⟨0, Nat.zero_le _⟩) [8, 9, 10, 0, 1, 7, 6, 5, 4, 3, 2] rfl ?_
  rintro ⟨k, hk⟩
  refine t_seq ?_
  refine t_region (F := ⟨_, _, _, _, _, _⟩) [.is (.tmp 0) (VP.ptr v), .is (.tmp 18) (VP.eq uh true true), .is (.tmp 19) (VP.int .i64 ((d.hashes.length : Nat) : Int)), .is (.tmp 20) (VP.int .i64 ((k : Nat) : Int)), .own 0 (.val v) (ArO us uf ut uo uh ub2 d.most), .own 101 (.val us) (R_sort d.sorts), .own 102 (.val uf) (R_fun d.funs), .own 103 (.val ut) (R_term d.terms), .own 104 (.val uo) (R_int d.of_), .own 105 (.val uh) (R_u64 d.hashes), .own 108 (.val ub2) (rowsInt (growT d.hashes (2 * d.table.length) k))] [] [(0, .is (.tmp 21) (VP.bool (decide (((k : Nat) : Int) < ((d.hashes.length : Nat) : Int)))))] [] [0, 1, 2, 3, 4, 5, 6, 7, 8, 9, 10] [] [[]] [[]] rfl rfl follow rfl ⟨
    .inl ⟨wants_plain rfl, does_cmp (m := ((k : Nat) : Int)) (n := ((d.hashes.length : Nat) : Int)) _ _ _ _ _ rfl rfl rfl rfl rfl rfl .i64 (ar_tmp (av_fs 3 rfl)) (ar_tmp (av_fs 2 rfl))⟩,
    trivial⟩ ?_
  refine nx_then ?_
  refine t_seq ?_
  refine t_split 11 rfl (fun hb1 => ?_) (fun hb1 => ?_)
  · have hc1 := of_decide_eq_true hb1
    obtain ⟨x, hx⟩ : ∃ x, d.hashes[k]? = some x := ⟨_, List.getElem?_eq_getElem (by omega)⟩
    refine t_skip ?_
    refine nx_then ?_
    refine t_seq ?_
    refine t_block ?_
    refine t_seq ?_
    refine t_region (F := ⟨_, _, _, _, _, _⟩) [.is (.tmp 0) (VP.ptr v), .is (.tmp 18) (VP.eq uh true true), .is (.tmp 19) (VP.int .i64 ((d.hashes.length : Nat) : Int)), .is (.tmp 20) (VP.int .i64 ((k : Nat) : Int)), .own 0 (.val v) (ArO us uf ut uo uh ub2 d.most), .own 101 (.val us) (R_sort d.sorts), .own 102 (.val uf) (R_fun d.funs), .own 103 (.val ut) (R_term d.terms), .own 104 (.val uo) (R_int d.of_), .own 105 (.val uh) (R_u64 d.hashes), .own 108 (.val ub2) (rowsInt (growT d.hashes (2 * d.table.length) k)), .is (.tmp 21) (VP.bool (decide (((k : Nat) : Int) < ((d.hashes.length : Nat) : Int))))] [] [(0, .is (.tmp 22) (VP.int .i64 ((k : Nat) : Int))), (1, .pt 23 (.row (.val uh) (k * 1))), (2, .is (.tmp 24) (VP.int .u64 x)), (3, .is (.tmp 2) (VP.int .i64 ((k : Nat) : Int))), (4, .is (.tmp 3) (VP.int .u64 x))] [] [0, 1, 2, 3, 4, 5, 6, 7, 8, 9, 10, 11] [] [[], [], [1], [0, 1, 2], [0, 1, 2, 3]] [[3, 4], [2, 3, 4], [3, 4], [4], []] rfl rfl follow rfl ⟨
      .inl ⟨wants_plain rfl, does_move _ (.inl rfl) rfl rfl rfl rfl (ar_tmp (av_fs 3 rfl))⟩,
      .inl ⟨wants_plain rfl, does_index (m := k) _ _ Try.underlying62 DagJ_size_uint64 rfl rfl rfl rfl rfl _ (by omega) rfl (by omega) (sl_own (av_fs 9 rfl) (ar_tmp (av_fs 1 rfl))) (ar_tmp (av_fs 3 rfl))⟩,
      .inl ⟨wants_plain rfl, does_loadOne _ DagJ_one_uint64 rfl rfl rfl rfl rfl (pt_pt (av_rs 1 1 rfl rfl)) (rds_row (av_fs 9 rfl) (hq_flat1 cU64_len hx 0 (by omega) rfl))⟩,
      .inl ⟨wants_plain rfl, does_move _ (.inr rfl) rfl rfl rfl rfl (ar_tmp (av_rs 0 0 rfl rfl))⟩,
      .inl ⟨wants_plain rfl, does_move _ (.inr rfl) rfl rfl rfl rfl (ar_tmp (av_rs 2 2 rfl rfl))⟩,
      trivial⟩ ?_
    refine nx_then ?_
    refine t_seq ?_
    refine t_region (F := ⟨_, _, _, _, _, _⟩) [.is (.tmp 0) (VP.ptr v), .is (.tmp 18) (VP.eq uh true true), .is (.tmp 19) (VP.int .i64 ((d.hashes.length : Nat) : Int)), .is (.tmp 20) (VP.int .i64 ((k : Nat) : Int)), .own 0 (.val v) (ArO us uf ut uo uh ub2 d.most), .own 101 (.val us) (R_sort d.sorts), .own 102 (.val uf) (R_fun d.funs), .own 103 (.val ut) (R_term d.terms), .own 104 (.val uo) (R_int d.of_), .own 105 (.val uh) (R_u64 d.hashes), .own 108 (.val ub2) (rowsInt (growT d.hashes (2 * d.table.length) k)), .is (.tmp 21) (VP.bool (decide (((k : Nat) : Int) < ((d.hashes.length : Nat) : Int)))), .is (.tmp 22) (VP.int .i64 ((k : Nat) : Int)), .pt 23 (.row (.val uh) (k * 1)), .is (.tmp 24) (VP.int .u64 x), .is (.tmp 2) (VP.int .i64 ((k : Nat) : Int)), .is (.tmp 3) (VP.int .u64 x)] [] [(0, .is (.tmp 25) (VP.ptr v)), (1, .is (.tmp 26) (VP.ptr v)), (2, .pt 27 (.blk (.val v) 5)), (3, .is (.tmp 28) (VP.eq ub2 true true)), (4, .is (.tmp 29) (VP.int .u64 x)), (5, .is (.tmp 30) (VP.int .i64 (x % (((growT d.hashes (2 * d.table.length) k).length : Nat) : Int)))), (6, .is (.tmp 4) (VP.int .i64 (x % (((growT d.hashes (2 * d.table.length) k).length : Nat) : Int))))] [] [0, 1, 2, 3, 4, 5, 6, 7, 8, 9, 10, 11, 12, 13, 14, 15, 16] [] [[], [0], [0, 1], [0, 1, 2], [], [0, 1, 2, 3, 4], [0, 1, 2, 3, 4, 5]] [[1, 2, 3, 5, 6], [2, 3, 5, 6], [3, 5, 6], [5, 6], [5, 6], [6], []] rfl rfl follow rfl ⟨
      .inl ⟨wants_plain rfl, does_move _ (.inl rfl) rfl rfl rfl rfl (ar_tmp (av_fs 0 rfl))⟩,
      .inl ⟨wants_plain rfl, does_nil _ rfl rfl rfl rfl rfl (ar_tmp (av_rs 0 0 rfl rfl))⟩,
      .inl ⟨wants_plain rfl, does_field _ _ _ 5 DagJ_f_dag_Arena_5 rfl rfl rfl rfl rfl rfl (pt_ptr (ar_tmp (av_rs 1 1 rfl rfl)))⟩,
      .inl ⟨wants_plain rfl, does_loadOne _ DagJ_one_dag_table rfl rfl rfl rfl rfl (pt_pt (av_rs 2 2 rfl rfl)) (rds_box (off := 5) (av_fs 4 rfl) (hq_one rfl))⟩,
      .inl ⟨wants_plain rfl, does_move _ (.inl rfl) rfl rfl rfl rfl (ar_tmp (av_fs 16 rfl))⟩,
      .inl ⟨wants_plain rfl, does_call (da_place (n := (growT d.hashes (2 * d.table.length) k).length) (j := (j + 1)) (by rw [growT_len, hT, Nat.pow_succ, Nat.mul_comm]) (by omega) x) (fun _ _ _ _ h => h) rfl DagJ_hb__collator_dag_table__place rfl rfl rfl rfl ar_clo (ars_cons (pa_vp (ar_sln (sit_own (av_fs 10 rfl)) (ar_tmp (av_rs 3 3 rfl rfl)))) (ars_cons (pa_vp (ar_tmp (av_rs 4 4 rfl rfl))) ars_nil)) trivial⟩,
      .inl ⟨wants_plain rfl, does_move _ (.inr rfl) rfl rfl rfl rfl (ar_tmp (av_rs 5 5 rfl rfl))⟩,
      trivial⟩ ?_
    refine nx_then ?_
    obtain ⟨m, hme, hmz, hml⟩ := mod_at (x := x) (n := (growT d.hashes (2 * d.table.length) k).length) (by rw [growT_len]; omega)
    have hbk := growT_bk (hs := d.hashes) (n := (2 * d.table.length)) m k
    refine t_pick [23, 0, 1, 2, 3, 4, 5, 6, 7, 8, 9, 10, 11, 12, 13, 14, 15, 16, 17, 18, 19, 20, 21, 22] rfl ?_
    refine t_slot (y := VP.int .i64 ((m : Nat) : Int)) (fun _ _ _ h => by rw [hmz] at h; exact h) ?_
    refine t_pick [11, 0, 1, 2, 3, 4, 5, 6, 7, 8, 9, 10, 12, 13, 14, 15, 16, 17, 18, 19, 20, 21, 22, 23] rfl ?_
    refine t_part 109 (part_row (E := 28) (sz := 1) (n := (growT d.hashes (2 * d.table.length) k).length) (Rs := (growT d.hashes (2 * d.table.length) k).map rowInt) m (hole_hm (at_getD (z := []) hml))) rfl rfl fun uk => ?_
    refine t_region (F := ⟨_, _, _, _, _, _⟩) [.is (.tmp 4) (VP.int .i64 ((m : Nat) : Int)), .is (.tmp 0) (VP.ptr v), .is (.tmp 18) (VP.eq uh true true), .is (.tmp 19) (VP.int .i64 ((d.hashes.length : Nat) : Int)), .is (.tmp 20) (VP.int .i64 ((k : Nat) : Int)), .own 0 (.val v) (ArO us uf ut uo uh ub2 d.most), .own 101 (.val us) (R_sort d.sorts), .own 102 (.val uf) (R_fun d.funs), .own 103 (.val ut) (R_term d.terms), .own 104 (.val uo) (R_int d.of_), .own 105 (.val uh) (R_u64 d.hashes), .is (.tmp 21) (VP.bool (decide (((k : Nat) : Int) < ((d.hashes.length : Nat) : Int)))), .is (.tmp 22) (VP.int .i64 ((k : Nat) : Int)), .pt 23 (.row (.val uh) (k * 1)), .is (.tmp 24) (VP.int .u64 x), .is (.tmp 2) (VP.int .i64 ((k : Nat) : Int)), .is (.tmp 3) (VP.int .u64 x), .is (.tmp 25) (VP.ptr v), .is (.tmp 26) (VP.ptr v), .pt 27 (.blk (.val v) 5), .is (.tmp 28) (VP.eq ub2 true true), .is (.tmp 29) (VP.int .u64 x), .is (.tmp 30) (VP.int .i64 (x % (((growT d.hashes (2 * d.table.length) k).length : Nat) : Int)))] [(16, .own 108 (.val ub2) (HA.row 28 1 (growT d.hashes (2 * d.table.length) k).length (((growT d.hashes (2 * d.table.length) k).map rowInt).set m (HA.of (VP.eq uk true true))))), (14, .own 109 (.val uk) (R_int (((growT d.hashes (2 * d.table.length) k)[m]?).getD [])))] [(0, .is (.tmp 31) (VP.ptr v)), (1, .is (.tmp 32) (VP.ptr v)), (2, .pt 33 (.blk (.val v) 5)), (3, .is (.tmp 34) (VP.eq ub2 true true)), (4, .is (.tmp 35) (VP.int .i64 ((m : Nat) : Int))), (5, .is (.tmp 36) (VP.ptr v)), (6, .is (.tmp 37) (VP.ptr v)), (7, .pt 38 (.blk (.val v) 5)), (8, .is (.tmp 39) (VP.eq ub2 true true)), (9, .is (.tmp 40) (VP.int .i64 ((m : Nat) : Int))), (10, .pt 41 (.row (.val ub2) (m * 1))), (11, .is (.tmp 42) (VP.eq uk true true)), (12, .is (.tmp 43) (VP.int .i64 ((k : Nat) : Int))), (15, .pt 46 (.row (.val ub2) (m * 1))), (16, .own 108 (.val ub2) (rowsInt ((growT d.hashes (2 * d.table.length) k).set m ((((growT d.hashes (2 * d.table.length) k)[m]?).getD []) ++ [((k : Nat) : Int)]))))] [(13, 14, .own 110 (.tmp 44) (R_int ([((k : Nat) : Int)]))), (14, 16, .own 109 (.tmp 45) (R_int ((((growT d.hashes (2 * d.table.length) k)[m]?).getD []) ++ [((k : Nat) : Int)])))] [2, 3, 4, 5, 6, 7, 8, 9, 10, 11, 12, 13, 14, 15, 16, 17, 18, 19, 20, 21, 22, 23, 24] [0, 1] [[], [0], [0, 1], [0, 1, 2], [], [], [5], [5, 6], [5, 6, 7], [], [5, 6, 7, 8, 9], [5, 6, 7, 8, 9, 10], [], [12], [5, 6, 7, 8, 9, 10, 11, 12, 13], [0, 1, 2, 3, 4, 5, 6, 7, 8, 9, 10, 11, 12, 13, 14], [0, 1, 2, 3, 4, 5, 6, 7, 8, 9, 10, 11, 12, 13, 14, 15]] [[1, 2, 3, 15, 16], [2, 3, 15, 16], [3, 15, 16], [15, 16], [15, 16], [6, 7, 8, 10, 11, 14, 15, 16], [7, 8, 10, 11, 14, 15, 16], [8, 10, 11, 14, 15, 16], [10, 11, 14, 15, 16], [10, 11, 14, 15, 16], [11, 14, 15, 16], [14, 15, 16], [13, 14, 15, 16], [14, 15, 16], [15, 16], [16], []] rfl rfl follow rfl ⟨
      .inl ⟨wants_plain rfl, does_move _ (.inl rfl) rfl rfl rfl rfl (ar_tmp (av_fs 1 rfl))⟩,
      .inl ⟨wants_plain rfl, does_nil _ rfl rfl rfl rfl rfl (ar_tmp (av_rs 0 0 rfl rfl))⟩,
      .inl ⟨wants_plain rfl, does_field _ _ _ 5 DagJ_f_dag_Arena_5 rfl rfl rfl rfl rfl rfl (pt_ptr (ar_tmp (av_rs 1 1 rfl rfl)))⟩,
      .inl ⟨wants_plain rfl, does_loadOne _ DagJ_one_dag_table rfl rfl rfl rfl rfl (pt_pt (av_rs 2 2 rfl rfl)) (rds_box (off := 5) (av_fs 5 rfl) (hq_one rfl))⟩,
      .inl ⟨wants_plain rfl, does_move _ (.inl rfl) rfl rfl rfl rfl (ar_tmp (av_fs 0 rfl))⟩,
      .inl ⟨wants_plain rfl, does_move _ (.inl rfl) rfl rfl rfl rfl (ar_tmp (av_fs 1 rfl))⟩,
      .inl ⟨wants_plain rfl, does_nil _ rfl rfl rfl rfl rfl (ar_tmp (av_rs 5 5 rfl rfl))⟩,
      .inl ⟨wants_plain rfl, does_field _ _ _ 5 DagJ_f_dag_Arena_5 rfl rfl rfl rfl rfl rfl (pt_ptr (ar_tmp (av_rs 6 6 rfl rfl)))⟩,
      .inl ⟨wants_plain rfl, does_loadOne _ DagJ_one_dag_table rfl rfl rfl rfl rfl (pt_pt (av_rs 7 7 rfl rfl)) (rds_box (off := 5) (av_fs 5 rfl) (hq_one rfl))⟩,
      .inl ⟨wants_plain rfl, does_move _ (.inl rfl) rfl rfl rfl rfl (ar_tmp (av_fs 0 rfl))⟩,
      .inl ⟨wants_plain rfl, does_index (m := m) _ _ Try.underlying60 DagJ_size___int rfl rfl rfl rfl rfl _ (by omega) rfl (by omega) (sl_own (av_os 0 16 rfl rfl) (ar_tmp (av_rs 8 8 rfl rfl))) (ar_tmp (av_rs 9 9 rfl rfl))⟩,
      .inl ⟨wants_plain rfl, does_loadOne _ DagJ_one___int rfl rfl rfl rfl rfl (pt_pt (av_rs 10 10 rfl rfl)) (rds_row (av_os 0 16 rfl rfl) (hq_one (hole_get (by omega))))⟩,
      .inl ⟨wants_plain rfl, does_move _ (.inl rfl) rfl rfl rfl rfl (ar_tmp (av_fs 15 rfl))⟩,
      .inl ⟨wants_plain rfl, does_sliceLit (n := 1) DagJ_el_int rfl (List.replicate 1 (VP.int .i64 0)) (z1_of (fun _ _ => rfl) rfl 1) rfl rfl rfl rfl rfl rfl rfl (.cons 0 [HA.of (VP.int .i64 ((k : Nat) : Int))] none rfl rfl (cv_one rfl (mv_vp (ar_tmp (av_rs 12 12 rfl rfl)))) (.nil _))⟩,
      .inl ⟨wants_plain rfl, does_append (n := (((growT d.hashes (2 * d.table.length) k)[m]?).getD []).length) (m := ([((k : Nat) : Int)]).length) DagJ_el_int rfl _ _ rfl rfl rfl rfl rfl (by simp only [List.length_append, List.length_nil, List.length_cons, Nat.zero_add]) (flat_cat (((growT d.hashes (2 * d.table.length) k)[m]?).getD []) ([((k : Nat) : Int)])) rfl (by have := hbk; constructor <;> first | decide | omega | (simp only [List.length_cons, List.length_nil] at *; omega)) (flat_lenH cInt_len _) (flat_allH (fun _ => rfl) cInt_one _) (flat_allH (fun _ => rfl) cInt_nu _) (mv_ownv (av_os 1 14 rfl rfl) (ar_tmp (av_rs 11 11 rfl rfl))) (src_row (av_ms 0 13 14 rfl rfl rfl))⟩,
      .inl ⟨wants_plain rfl, does_index (m := m) _ _ Try.underlying60 DagJ_size___int rfl rfl rfl rfl rfl _ (by omega) rfl (by omega) (sl_own (av_os 0 16 rfl rfl) (ar_tmp (av_rs 3 3 rfl rfl))) (ar_tmp (av_rs 4 4 rfl rfl))⟩,
      .inl ⟨wants_plain rfl, does_storeRow (off := m * 1) (n := (growT d.hashes (2 * d.table.length) k).length) (Rs := ((growT d.hashes (2 * d.table.length) k).map rowInt).set m (HA.of (VP.eq uk true true))) (Qs := [rowInt ((((growT d.hashes (2 * d.table.length) k)[m]?).getD []) ++ [((k : Nat) : Int)])]) _ _ DagJ_size___int rfl rfl rfl rfl (by rw [List.length_set]) (hole_put (by omega)) (by simp only [List.length_set, List.length_map, List.length_cons, List.length_nil]; omega) rfl (pt_pt (av_rs 13 15 rfl rfl)) (av_os 0 16 rfl rfl) (cv_one rfl (mv_own (av_ms 1 14 16 rfl rfl rfl)))⟩,
      trivial⟩ ?_
    refine nx_block ?_
    refine nx_then ?_
    refine t_region (F := ⟨_, _, _, _, _, _⟩) [.is (.tmp 4) (VP.int .i64 ((m : Nat) : Int)), .is (.tmp 0) (VP.ptr v), .is (.tmp 18) (VP.eq uh true true), .is (.tmp 19) (VP.int .i64 ((d.hashes.length : Nat) : Int)), .own 0 (.val v) (ArO us uf ut uo uh ub2 d.most), .own 101 (.val us) (R_sort d.sorts), .own 102 (.val uf) (R_fun d.funs), .own 103 (.val ut) (R_term d.terms), .own 104 (.val uo) (R_int d.of_), .own 105 (.val uh) (R_u64 d.hashes), .is (.tmp 21) (VP.bool (decide (((k : Nat) : Int) < ((d.hashes.length : Nat) : Int)))), .is (.tmp 22) (VP.int .i64 ((k : Nat) : Int)), .pt 23 (.row (.val uh) (k * 1)), .is (.tmp 24) (VP.int .u64 x), .is (.tmp 2) (VP.int .i64 ((k : Nat) : Int)), .is (.tmp 3) (VP.int .u64 x), .is (.tmp 25) (VP.ptr v), .is (.tmp 26) (VP.ptr v), .pt 27 (.blk (.val v) 5), .is (.tmp 28) (VP.eq ub2 true true), .is (.tmp 29) (VP.int .u64 x), .is (.tmp 30) (VP.int .i64 (x % (((growT d.hashes (2 * d.table.length) k).length : Nat) : Int))), .is (.tmp 31) (VP.ptr v), .is (.tmp 32) (VP.ptr v), .pt 33 (.blk (.val v) 5), .is (.tmp 34) (VP.eq ub2 true true), .is (.tmp 35) (VP.int .i64 ((m : Nat) : Int)), .is (.tmp 36) (VP.ptr v), .is (.tmp 37) (VP.ptr v), .pt 38 (.blk (.val v) 5), .is (.tmp 39) (VP.eq ub2 true true), .is (.tmp 40) (VP.int .i64 ((m : Nat) : Int)), .pt 41 (.row (.val ub2) (m * 1)), .is (.tmp 42) (VP.eq uk true true), .is (.tmp 43) (VP.int .i64 ((k : Nat) : Int)), .pt 46 (.row (.val ub2) (m * 1)), .own 108 (.val ub2) (rowsInt ((growT d.hashes (2 * d.table.length) k).set m ((((growT d.hashes (2 * d.table.length) k)[m]?).getD []) ++ [((k : Nat) : Int)])))] [(1, .is (.tmp 20) (VP.int .i64 ((k : Nat) : Int)))] [(0, .is (.tmp 47) (VP.int .i64 (((k + 1) : Nat) : Int))), (1, .is (.tmp 20) (VP.int .i64 (((k + 1) : Nat) : Int)))] [] [0, 1, 2, 3, 5, 6, 7, 8, 9, 10, 11, 12, 13, 14, 15, 16, 17, 18, 19, 20, 21, 22, 23, 24, 25, 26, 27, 28, 29, 30, 31, 32, 33, 34, 35, 36, 37] [4] [[], [0]] [[1], []] rfl rfl follow rfl ⟨
      .inl ⟨wants_plain rfl, does_addE (m := ((k : Nat) : Int)) (n := 1) (x := (((k + 1) : Nat) : Int)) (by omega) _ _ _ _ rfl rfl rfl rfl rfl (by omega) (ar_tmp (av_os 0 1 rfl rfl)) (ar_const (fun _ _ => rfl))⟩,
      .inl ⟨wants_plain rfl, does_move _ (.inl rfl) rfl rfl rfl rfl (ar_tmp (av_rs 0 0 rfl rfl))⟩,
      trivial⟩ ?_
    refine t_pick [36, 0, 1, 2, 3, 4, 5, 6, 7, 8, 9, 10, 11, 12, 13, 14, 15, 16, 17, 18, 19, 20, 21, 22, 23, 24, 25, 26, 27, 28, 29, 30, 31, 32, 33, 34, 35, 37, 38] rfl ?_
    refine t_weak (R' := rowsInt (growT d.hashes (2 * d.table.length) (k + 1))) (fun _ _ _ _ h => by rw [← growT_succ hx hme]; exact h) rfl ?_
    refine nx_round (τ := {k : Nat // k ≤ d.hashes.length}) (I := fun ⟨k, _⟩ => [.is (.tmp 0) (VP.ptr v), .is (.tmp 18) (VP.eq uh true true), .is (.tmp 19) (VP.int .i64 ((d.hashes.length : Nat) : Int)), .is (.tmp 20) (VP.int .i64 ((k : Nat) : Int)), .own 0 (.val v) (ArO us uf ut uo uh ub2 d.most), .own 101 (.val us) (R_sort d.sorts), .own 102 (.val uf) (R_fun d.funs), .own 103 (.val ut) (R_term d.terms), .own 104 (.val uo) (R_int d.of_), .own 105 (.val uh) (R_u64 d.hashes), .own 108 (.val ub2) (rowsInt (growT d.hashes (2 * d.table.length) k))]) (μ := fun ⟨k, _⟩ => d.hashes.length - k) (s := ⟨k, hk⟩) (⟨k + 1, by omega⟩) ?_ [2, 3, 4, 38, 5, 6, 7, 8, 9, 10, 0] ?_
    · exact (show d.hashes.length - (k + 1) < d.hashes.length - k by omega)
    · exact rfl
  · have hc1 := of_decide_eq_false hb1
    refine t_exit ?_
    refine ex_then ?_
    refine ex_then ?_
    refine ex_block ?_
    refine t_pick [4, 5, 6, 7, 8, 9, 10] rfl ?_
    refine t_whole (whole_cells (T' := 64) (Rs := [HA.of (VP.eq us true true), HA.of (VP.eq uf true true), HA.of (VP.eq ut true true), HA.of (VP.eq uo true true), HA.of (VP.eq uh true true), HA.of (VP.eq ub2 true true), HA.of (VP.int .i64 d.most)]) (j := 0) (show 0 < 7 by decide)) rfl rfl ?_
    refine t_whole (whole_cells (T' := 64) (Rs := [R_sort d.sorts, HA.of (VP.eq uf true true), HA.of (VP.eq ut true true), HA.of (VP.eq uo true true), HA.of (VP.eq uh true true), HA.of (VP.eq ub2 true true), HA.of (VP.int .i64 d.most)]) (j := 1) (show 1 < 7 by decide)) rfl rfl ?_
    refine t_whole (whole_cells (T' := 64) (Rs := [R_sort d.sorts, R_fun d.funs, HA.of (VP.eq ut true true), HA.of (VP.eq uo true true), HA.of (VP.eq uh true true), HA.of (VP.eq ub2 true true), HA.of (VP.int .i64 d.most)]) (j := 2) (show 2 < 7 by decide)) rfl rfl ?_
    refine t_whole (whole_cells (T' := 64) (Rs := [R_sort d.sorts, R_fun d.funs, R_term d.terms, HA.of (VP.eq uo true true), HA.of (VP.eq uh true true), HA.of (VP.eq ub2 true true), HA.of (VP.int .i64 d.most)]) (j := 3) (show 3 < 7 by decide)) rfl rfl ?_
    refine t_whole (whole_cells (T' := 64) (Rs := [R_sort d.sorts, R_fun d.funs, R_term d.terms, R_int d.of_, HA.of (VP.eq uh true true), HA.of (VP.eq ub2 true true), HA.of (VP.int .i64 d.most)]) (j := 4) (show 4 < 7 by decide)) rfl rfl ?_
    refine t_whole (whole_cells (T' := 64) (Rs := [R_sort d.sorts, R_fun d.funs, R_term d.terms, R_int d.of_, R_u64 d.hashes, HA.of (VP.eq ub2 true true), HA.of (VP.int .i64 d.most)]) (j := 5) (show 5 < 7 by decide)) rfl rfl ?_
    refine t_weak (R' := Arn d.grow) (fun _ _ _ _ h => by rw [show k = d.hashes.length by omega] at h; exact h) rfl ?_
    exact rt_post [] [] [0] [0] rfl trivial (by decide) rfl rfl

end O
end Go.Proofs.Ytapmngmpomhjmaa

/- A term is added. -/
namespace Go.Proofs.Ytapmngmpomhjmaa
open Go.RowKit
namespace O

def ArD.bk (d : ArD) (t : TermD) : Nat := (hashT t % (d.table.length : Int)).toNat
def ArD.bucket (d : ArD) (t : TermD) : List Int := (d.table[d.bk t]?).getD []
def ArD.find (d : ArD) (t : TermD) : Option Int := (d.bucket t).find? fun x => sameT (d.term_ x) t
/-- a term is laid -/
def ArD.lay (d : ArD) (t : TermD) : ArD := { d with of_ := d.of_ ++ [d.give t], terms := d.terms ++ [t], hashes := d.hashes ++ [hashT t] }
def ArD.put (d : ArD) (t : TermD) : ArD :=
  bif decide (((d.terms ++ [t]).length : Int) > (d.table.length : Int)) then (d.lay t).grow else { d.lay t with table := d.table.set (d.bk t) (d.bucket t ++ [((d.terms.length : Nat) : Int)]) }
def ArD.full (d : ArD) : Bool := decide (((d.terms.length : Nat) : Int) ≥ d.most)
def ArD.term (d : ArD) (t : TermD) : ArD := bif d.fits t != 0 then d else match d.find t with | some _ => d | none => bif d.full then d else d.put t
def ArD.termR (d : ArD) (t : TermD) : Int := bif d.fits t != 0 then 0 else match d.find t with | some x => x | none => bif d.full then 0 else ((d.terms.length : Nat) : Int)
def ArD.termE (d : ArD) (t : TermD) : Int := bif d.fits t != 0 then d.fits t else match d.find t with | some _ => 0 | none => bif d.full then 4 else 0
/-- an arena as it should be -/
structure ArD.Ok (d : ArD) : Prop where
  of_ : d.of_.length = d.terms.length
  ha : d.hashes.length = d.terms.length
  tab : ∃ j, d.table.length = 2 ^ j ∧ 2 ^ j ≤ 2 * d.terms.length + 16
  ent : ∀ b ∈ d.table, b.length ≤ d.terms.length ∧ ∀ x ∈ b, 0 ≤ x ∧ x < d.terms.length
  kids : d.kidsOk
  few : d.terms.length ≤ 100000
  most : d.most ≤ 100000
theorem term_nil {a b : Int} {s : ByteArray} : ∀ Z v w, (VP.agg [VP.int .i64 a, VP.int .i64 b, VP.nilS, VP.str s]).p Z v w → (VP.agg (cTerm ⟨a, b, [], s⟩)).p Z v w := fun Z v w ⟨cs, h1, h2⟩ => by
  match cs, h2 with
  | [c0, c1, c2, c3], ⟨e0, e1, e2, e3, _⟩ => exact ⟨[c0, c1, c2, c3], h1, e0, e1, ⟨none, 0, e2, Nat.le_refl _, by simp [maxLen], .inl rfl⟩, e3, trivial⟩
theorem pow_few {j n : Nat} (h : 2 ^ j ≤ n) (hn : n ≤ 1000000) : j ≤ 19 := by
  have : ¬ 20 ≤ j := fun h' => by
    have h2 : 2 ^ 20 ≤ 2 ^ j := Nat.pow_le_pow_right (by decide) h'
    have h3 : (2 : Nat) ^ 20 = 1048576 := by decide
    omega
  omega
theorem find_hit {d : ArD} {t : TermD} {k : Nat} {x : Int} (h : ∀ j y, j < k → (d.bucket t)[j]? = some y → sameT (d.term_ y) t = false) (hx : (d.bucket t)[k]? = some x) (he : sameT (d.term_ x) t = true) : d.find t = some x := by
  unfold ArD.find
  rw [List.find?_eq_some_iff_getElem]
  obtain ⟨hk, rfl⟩ := List.getElem?_eq_some_iff.1 hx
  exact ⟨he, k, hk, rfl, fun j hj => by rw [h j _ hj (List.getElem?_eq_getElem (by omega))]; rfl⟩
theorem find_miss {d : ArD} {t : TermD} {k : Nat} (h : ∀ j y, j < k → (d.bucket t)[j]? = some y → sameT (d.term_ y) t = false) (hk : (d.bucket t).length ≤ k) : d.find t = none := by
  unfold ArD.find
  rw [List.find?_eq_none]
  intro x hx
  obtain ⟨j, hj, rfl⟩ := List.mem_iff_getElem.1 hx
  rw [h j _ (by omega) (List.getElem?_eq_getElem hj)]; exact Bool.false_ne_true
section
variable {d : ArD} {t : TermD}
theorem term_bad (h : (d.fits t != 0) = true) : d.term t = d ∧ d.termR t = 0 ∧ d.termE t = d.fits t := by unfold ArD.term ArD.termR ArD.termE; rw [h]; exact ⟨rfl, rfl, rfl⟩
theorem term_hit {x : Int} (h : (d.fits t != 0) = false) (hf : d.find t = some x) : d.term t = d ∧ d.termR t = x ∧ d.termE t = 0 := by unfold ArD.term ArD.termR ArD.termE; rw [h, hf]; exact ⟨rfl, rfl, rfl⟩
theorem term_full (h : (d.fits t != 0) = false) (hf : d.find t = none) (hm : d.full = true) : d.term t = d ∧ d.termR t = 0 ∧ d.termE t = 4 := by unfold ArD.term ArD.termR ArD.termE; rw [h, hf, hm]; exact ⟨rfl, rfl, rfl⟩
theorem term_put (h : (d.fits t != 0) = false) (hf : d.find t = none) (hm : d.full = false) : d.term t = d.put t ∧ d.termR t = ((d.terms.length : Nat) : Int) ∧ d.termE t = 0 := by unfold ArD.term ArD.termR ArD.termE; rw [h, hf, hm]; exact ⟨rfl, rfl, rfl⟩
theorem fits_0 (h : (d.fits t != 0) = false) : d.bareE t = 0 ∧ d.unthere t.kids = false ∧ decide (((t.kids.length : Nat) : Int) < d.least t) = false ∧ decide (((t.kids.length : Nat) : Int) > d.great t) = false ∧ d.bad t t.kids.length = false ∧ ((t.op == 19) && decide (((d.free t t.kids.length : Nat) : Int) > 1)) = false := by
  have h := bne_eq_false_iff_eq.1 h
  unfold ArD.fits at h
  rcases Bool.eq_false_or_eq_true (d.bareE t != 0) with h1 | h1
  · rw [h1] at h
    exact absurd h (bne_iff_ne.1 h1)
  rw [h1] at h
  rcases Bool.eq_false_or_eq_true (d.unthere t.kids) with h2 | h2
  · rw [h2] at h; cases h
  rw [h2] at h
  rcases Bool.eq_false_or_eq_true (decide (((t.kids.length : Nat) : Int) < d.least t)) with h3 | h3
  · rw [h3] at h; cases h
  rw [h3] at h
  rcases Bool.eq_false_or_eq_true (decide (((t.kids.length : Nat) : Int) > d.great t)) with h4 | h4
  · rw [h4] at h; cases h
  rw [h4] at h
  rcases Bool.eq_false_or_eq_true (d.bad t t.kids.length) with h5 | h5
  · rw [h5] at h; cases h
  rw [h5] at h
  rcases Bool.eq_false_or_eq_true ((t.op == 19) && decide (((d.free t t.kids.length : Nat) : Int) > 1)) with h6 | h6
  · rw [h6] at h; cases h
  exact ⟨bne_eq_false_iff_eq.1 h1, h2, h3, h4, h5, h6⟩
end
theorem DagK_agg_api_Term : aggTy Try.prog 30 4 = true := by kernel_rfl
theorem DagK_hb___collator_dag_Arena__fits : hasBody Try.prog 30 = true := by kernel_rfl
theorem DagK_hb_collator_dag_Hash : hasBody Try.prog 18 = true := by kernel_rfl
theorem DagK_f_dag_Arena_5 : fieldAt Try.prog 64 5 5 = true := by kernel_rfl
theorem DagK_one_dag_table : oneTy Try.prog 60 = true := by kernel_rfl
theorem DagK_hb__collator_dag_table__place : hasBody Try.prog 31 = true := by kernel_rfl
theorem DagK_one___int : oneTy Try.prog 28 = true := by kernel_rfl
theorem DagK_size___int : ∀ w, (sizeOf 28).run Try.prog w = .ok 1 w := run_sizeOne DagK_one___int
theorem DagK_one_int : oneTy Try.prog 3 = true := by kernel_rfl
theorem DagK_size_int : ∀ w, (sizeOf 3).run Try.prog w = .ok 1 w := run_sizeOne DagK_one_int
theorem DagK_f_dag_Arena_2 : fieldAt Try.prog 64 2 2 = true := by kernel_rfl
theorem DagK_one___api_Term : oneTy Try.prog 61 = true := by kernel_rfl
theorem DagK_size_api_Term : ∀ w, (sizeOf 30).run Try.prog w = .ok 4 w := run_sizeAgg DagK_agg_api_Term
theorem DagK_hb_collator_dag_same : hasBody Try.prog 32 = true := by kernel_rfl
theorem DagK_f_dag_Arena_6 : fieldAt Try.prog 64 6 6 = true := by kernel_rfl
theorem DagK_f_api_Term_2 : fieldAt Try.prog 30 2 2 = true := by kernel_rfl
theorem DagK_hb_slices_Clone___int_int_ : hasBody Try.prog 29 = true := by kernel_rfl
theorem DagK_f_dag_Arena_3 : fieldAt Try.prog 64 3 3 = true := by kernel_rfl
theorem DagK_hb___collator_dag_Arena__gives : hasBody Try.prog 33 = true := by kernel_rfl
theorem DagK_el_int : Elem Try.prog 28 3 (.int .i64 0) 1 8 := Elem.mk Try.underlying28 (by kernel_rfl) rfl (by decide)
theorem DagK_el_term : Elem Try.prog 61 30 (.agg #[.int .i64 0, .int .i64 0, .slice none 0 0, .string (ByteArray.mk #[])]) 4 56 := Elem.mk Try.underlying61 (by kernel_rfl) rfl (by decide)
theorem DagK_f_dag_Arena_4 : fieldAt Try.prog 64 4 4 = true := by kernel_rfl
theorem DagK_one___uint64 : oneTy Try.prog 62 = true := by kernel_rfl
theorem DagK_el_u64 : Elem Try.prog 62 49 (.int .u64 0) 1 8 := Elem.mk Try.underlying62 (by kernel_rfl) rfl (by decide)
theorem DagK_size___api_Term : ∀ w, (sizeOf 61).run Try.prog w = .ok 1 w := run_sizeOne DagK_one___api_Term
theorem DagK_size___uint64 : ∀ w, (sizeOf 62).run Try.prog w = .ok 1 w := run_sizeOne DagK_one___uint64
theorem DagK_hb___collator_dag_Arena__grow : hasBody Try.prog 34 = true := by kernel_rfl
set_option maxRecDepth 100000 in
set_option maxHeartbeats 4000000 in
theorem da_Term {v : Value} {d : ArD} (t : TermD) (hOk : d.Ok) (hl : t.kids.length ≤ 900000) (hz : t.num.size ≤ 1000000) : SpecO Try.prog 13 [.vp (VP.ptr v), .vp (VP.agg [VP.int .i64 t.op, VP.int .i64 t.fn, O_int t.kids, VP.str t.num])] [] [(v, Arn d)] [(v, Arn (d.term t))] (HA.of (VP.tup [VP.int .i64 (d.termR t), VP.int .i64 (d.termE t)])) := by
  obtain ⟨j, hT, hTb⟩ := hOk.tab
  have hof := hOk.of_
  have hah := hOk.ha
  have hkd := hOk.kids
  have hfw := hOk.few
  have hmo := hOk.most
  have hj := pow_few hTb (by omega)
  have hT1 : 1 ≤ d.table.length := by rw [hT]; exact Nat.one_le_two_pow
  refine spec_tup (ps := [VP.int .i64 (d.termR t), VP.int .i64 (d.termE t)]) ?_
  refine spec_of 132 Try.func13 rfl Try.ntmps13 rfl fun w0 S0 Z0 Bf => ?_
  refine t_seq ?_
  refine t_region (F := ⟨_, _, _, _, _, _⟩) [.is (.tmp 0) (VP.ptr v), .is (.tmp 1) (VP.agg [VP.int .i64 t.op, VP.int .i64 t.fn, O_int t.kids, VP.str t.num]), .own 0 (.val v) (Arn d)] [] [(0, .own 101 (.tmp 3) (B_term t)), (1, .is (.tmp 4) (VP.int .i64 0)), (2, .is (.tmp 5) (VP.int .i64 0))] [] [0, 1, 2] [] [[], [], [1]] [[], [2], []] rfl rfl follow rfl ⟨
    .inl ⟨wants_plain rfl, does_box (Rs := [HA.of (VP.int .i64 t.op), HA.of (VP.int .i64 t.fn), HA.of (O_int t.kids), HA.of (VP.str t.num)]) _ rfl rfl rfl rfl rfl rfl (cv_agg (ps := [VP.int .i64 t.op, VP.int .i64 t.fn, O_int t.kids, VP.str t.num]) (ar_tmp (av_fs 1 rfl)))⟩,
    .inl ⟨wants_plain rfl, does_move _ (.inr rfl) rfl rfl rfl rfl (ar_const (fun _ _ => rfl))⟩,
    .inl ⟨wants_plain rfl, does_move _ (.inr rfl) rfl rfl rfl rfl (ar_const (fun _ _ => rfl))⟩,
    trivial⟩ ?_
  refine t_pick [0, 2, 3, 4, 5] rfl ?_
  refine nx_then ?_
  refine t_pick [2, 0, 1, 3, 4] rfl ?_
  refine t_nameP rfl fun c3 => ?_
  refine t_seq ?_
  refine t_seq ?_
  refine t_region (F := ⟨_, _, _, _, _, _⟩) [.own 101 (.val c3) (B_term t), .is (.tmp 3) (VP.ptr c3), .is (.tmp 0) (VP.ptr v), .own 0 (.val v) (Arn d), .is (.tmp 4) (VP.int .i64 0), .is (.tmp 5) (VP.int .i64 0)] [] [(0, .is (.tmp 12) (VP.ptr v)), (1, .is (.tmp 13) (VP.agg [VP.int .i64 t.op, VP.int .i64 t.fn, O_int t.kids, VP.str t.num])), (2, .is (.tmp 14) (VP.int .i64 (d.fits t))), (3, .is (.tmp 6) (VP.int .i64 (d.fits t)))] [] [0, 1, 2, 3, 4, 5] [] [[], [], [0, 1], [0, 1, 2]] [[2, 3], [2, 3], [3], []] rfl rfl follow rfl ⟨
    .inl ⟨wants_plain rfl, does_move _ (.inl rfl) rfl rfl rfl rfl (ar_tmp (av_fs 2 rfl))⟩,
    .inl ⟨wants_plain rfl, does_loadAgg (ps := [VP.int .i64 t.op, VP.int .i64 t.fn, O_int t.kids, VP.str t.num]) _ DagK_agg_api_Term rfl rfl rfl rfl rfl (pt_ptr (ar_tmp (av_fs 1 rfl))) (rds_box (off := 0) (av_fs 0 rfl) (hq_many (n := 4) rfl))⟩,
    .inl ⟨wants_plain rfl, does_call (da_fits (v := v) (d := d) t hkd hof (by omega)) (fun _ _ _ _ h => h) rfl DagK_hb___collator_dag_Arena__fits rfl rfl rfl rfl ar_clo (ars_cons (pa_vp (ar_tmp (av_rs 0 0 rfl rfl))) (ars_cons (pa_vp (ar_tmp (av_rs 1 1 rfl rfl))) ars_nil)) ⟨(brw_own (av_fs 3 rfl) rfl), trivial⟩⟩,
    .inl ⟨wants_plain rfl, does_move _ (.inr rfl) rfl rfl rfl rfl (ar_tmp (av_rs 2 2 rfl rfl))⟩,
    trivial⟩ ?_
  refine t_pick [0, 1, 2, 3, 4, 5, 9] rfl ?_
  refine nx_then ?_
  refine t_seq ?_
  refine t_region (F := ⟨_, _, _, _, _, _⟩) [.own 101 (.val c3) (B_term t), .is (.tmp 3) (VP.ptr c3), .is (.tmp 0) (VP.ptr v), .own 0 (.val v) (Arn d), .is (.tmp 4) (VP.int .i64 0), .is (.tmp 5) (VP.int .i64 0), .is (.tmp 6) (VP.int .i64 (d.fits t))] [] [(0, .is (.tmp 15) (VP.int .i64 (d.fits t))), (1, .is (.tmp 16) (VP.bool ((d.fits t) != 0)))] [] [0, 1, 2, 3, 4, 5, 6] [] [[], [0]] [[1], []] rfl rfl follow rfl ⟨
    .inl ⟨wants_plain rfl, does_move _ (.inl rfl) rfl rfl rfl rfl (ar_tmp (av_fs 6 rfl))⟩,
    .inl ⟨wants_plain rfl, does_cmp (m := (d.fits t)) (n := 0) _ _ _ _ _ rfl rfl rfl rfl rfl rfl .i64 (ar_tmp (av_rs 0 0 rfl rfl)) (ar_const (fun _ _ => rfl))⟩,
    trivial⟩ ?_
  refine t_pick [0, 1, 2, 3, 4, 5, 6, 8] rfl ?_
  refine nx_then ?_
  refine t_split 7 rfl (fun hb1 => ?_) (fun hb1 => ?_)
  · have hc1 := (bne_iff_ne.1 hb1)
    refine t_seq ?_
    refine t_region (F := ⟨_, _, _, _, _, _⟩) [.own 101 (.val c3) (B_term t), .is (.tmp 3) (VP.ptr c3), .is (.tmp 0) (VP.ptr v), .own 0 (.val v) (Arn d), .is (.tmp 6) (VP.int .i64 (d.fits t)), .is (.tmp 16) (VP.bool ((d.fits t) != 0))] [(1, .is (.tmp 4) (VP.int .i64 0)), (2, .is (.tmp 5) (VP.int .i64 0))] [(0, .is (.tmp 17) (VP.int .i64 (d.fits t))), (1, .is (.tmp 4) (VP.int .i64 0)), (2, .is (.tmp 5) (VP.int .i64 (d.fits t)))] [] [0, 1, 2, 3, 6, 7] [4, 5] [[], [], [0, 1]] [[2], [2], []] rfl rfl follow rfl ⟨
      .inl ⟨wants_plain rfl, does_move _ (.inl rfl) rfl rfl rfl rfl (ar_tmp (av_fs 4 rfl))⟩,
      .inl ⟨wants_plain rfl, does_move _ (.inr rfl) rfl rfl rfl rfl (ar_const (fun _ _ => rfl))⟩,
      .inl ⟨wants_plain rfl, does_move _ (.inr rfl) rfl rfl rfl rfl (ar_tmp (av_rs 0 0 rfl rfl))⟩,
      trivial⟩ ?_
    refine t_pick [0, 1, 2, 3, 7, 8] rfl ?_
    refine nx_then ?_
    refine t_pick [3, 0, 1, 2, 4, 5] rfl ?_
    refine t_weak (R' := Arn (d.term t)) (fun _ _ _ _ h => by rw [(term_bad hb1).1]; exact h) rfl ?_
    refine t_ret ?_
    refine rt_then ?_
    exact rt_post [HA.of (VP.int .i64 (d.termR t)), HA.of (VP.int .i64 (d.termE t))] [[], []] [0] [0] rfl ⟨(rv_eq (congrArg HA.of (congrArg (VP.int .i64) (show 0 = (d.termR t) from (term_bad hb1).2.1.symm))) (rv_vp 4 rfl)), (rv_eq (congrArg HA.of (congrArg (VP.int .i64) (show (d.fits t) = (d.termE t) from (term_bad hb1).2.2.symm))) (rv_vp 5 rfl)), trivial⟩ (by decide) rfl rfl
  · have hc1 := (bne_eq_false_iff_eq.1 hb1)
    obtain ⟨hbe0, hun, hle, hgr, _, _⟩ := fits_0 hb1
    have hfn := bare_fn hbe0
    have hk0 := unthere_no hun
    have hk : ∀ k ∈ t.kids, 0 ≤ k ∧ k < d.of_.length := fun k h => by have := hk0 k h; omega
    have hcl2 := of_decide_eq_false hle
    have h10 : t.op = 10 → 2 ≤ t.kids.length := fun e => by rw [least_10 e] at hcl2; omega
    refine t_skip ?_
    refine nx_then ?_
    refine t_seq ?_
    refine t_region (F := ⟨_, _, _, _, _, _⟩) [.own 101 (.val c3) (B_term t), .is (.tmp 3) (VP.ptr c3), .is (.tmp 0) (VP.ptr v), .own 0 (.val v) (Arn d), .is (.tmp 4) (VP.int .i64 0), .is (.tmp 5) (VP.int .i64 0), .is (.tmp 6) (VP.int .i64 (d.fits t)), .is (.tmp 16) (VP.bool ((d.fits t) != 0))] [] [(0, .is (.tmp 18) (VP.agg [VP.int .i64 t.op, VP.int .i64 t.fn, O_int t.kids, VP.str t.num])), (1, .is (.tmp 19) (VP.int .u64 (hashT t))), (2, .is (.tmp 7) (VP.int .u64 (hashT t)))] [] [0, 1, 2, 3, 4, 5, 6, 7] [] [[], [0], [0, 1]] [[1, 2], [2], []] rfl rfl follow rfl ⟨
      .inl ⟨wants_plain rfl, does_loadAgg (ps := [VP.int .i64 t.op, VP.int .i64 t.fn, O_int t.kids, VP.str t.num]) _ DagK_agg_api_Term rfl rfl rfl rfl rfl (pt_ptr (ar_tmp (av_fs 1 rfl))) (rds_box (off := 0) (av_fs 0 rfl) (hq_many (n := 4) rfl))⟩,
      .inl ⟨wants_plain rfl, does_call (da_Hash t (by omega) (by omega)) (fun _ _ _ _ h => h) rfl DagK_hb_collator_dag_Hash rfl rfl rfl rfl ar_clo (ars_cons (pa_vp (ar_tmp (av_rs 0 0 rfl rfl))) ars_nil) trivial⟩,
      .inl ⟨wants_plain rfl, does_move _ (.inr rfl) rfl rfl rfl rfl (ar_tmp (av_rs 1 1 rfl rfl))⟩,
      trivial⟩ ?_
    refine t_pick [0, 1, 2, 3, 4, 5, 10] rfl ?_
    refine nx_then ?_
    refine t_seq ?_
    refine t_seq ?_
    refine t_pick [3, 0, 1, 2, 4, 5, 6] rfl ?_
    refine t_part 102 (part_cells (T' := 64) (Rs := [R_sort d.sorts, R_fun d.funs, R_term d.terms, R_int d.of_, R_u64 d.hashes, rowsInt d.table, HA.of (VP.int .i64 d.most)]) 0 rfl) rfl rfl fun us => ?_
    refine t_part 103 (part_cells (T' := 64) (Rs := [HA.of (VP.eq us true true), R_fun d.funs, R_term d.terms, R_int d.of_, R_u64 d.hashes, rowsInt d.table, HA.of (VP.int .i64 d.most)]) 1 rfl) rfl rfl fun uf => ?_
    refine t_part 104 (part_cells (T' := 64) (Rs := [HA.of (VP.eq us true true), HA.of (VP.eq uf true true), R_term d.terms, R_int d.of_, R_u64 d.hashes, rowsInt d.table, HA.of (VP.int .i64 d.most)]) 2 rfl) rfl rfl fun ut => ?_
    refine t_part 105 (part_cells (T' := 64) (Rs := [HA.of (VP.eq us true true), HA.of (VP.eq uf true true), HA.of (VP.eq ut true true), R_int d.of_, R_u64 d.hashes, rowsInt d.table, HA.of (VP.int .i64 d.most)]) 3 rfl) rfl rfl fun uo => ?_
    refine t_part 106 (part_cells (T' := 64) (Rs := [HA.of (VP.eq us true true), HA.of (VP.eq uf true true), HA.of (VP.eq ut true true), HA.of (VP.eq uo true true), R_u64 d.hashes, rowsInt d.table, HA.of (VP.int .i64 d.most)]) 4 rfl) rfl rfl fun uh => ?_
    refine t_part 107 (part_cells (T' := 64) (Rs := [HA.of (VP.eq us true true), HA.of (VP.eq uf true true), HA.of (VP.eq ut true true), HA.of (VP.eq uo true true), HA.of (VP.eq uh true true), rowsInt d.table, HA.of (VP.int .i64 d.most)]) 5 rfl) rfl rfl fun ub => ?_
    obtain ⟨m, hme, hmz, hml⟩ := mod_at (x := hashT t) (n := d.table.length) (by omega)
    have hbt : (d.table[m]?).getD [] = d.bucket t := by unfold ArD.bucket ArD.bk; rw [hme]
    have hma : d.table[m]? = some (d.bucket t) := by rw [← hbt]; exact at_getD hml
    have hbe := hOk.ent _ (List.mem_of_getElem? hma)
    refine t_pick [1, 0, 2, 3, 4, 5, 6, 7, 8, 9, 10, 11, 12] rfl ?_
    refine t_part 108 (part_row (E := 28) (sz := 1) (n := d.table.length) (Rs := d.table.map rowInt) m (hole_hm hma)) rfl rfl fun uk => ?_
    refine t_region (F := ⟨_, _, _, _, _, _⟩) [.own 107 (.val ub) (HA.row 28 1 d.table.length ((d.table.map rowInt).set m (HA.of (VP.eq uk true true)))), .own 108 (.val uk) (R_int (d.bucket t)), .own 0 (.val v) (ArO us uf ut uo uh ub d.most), .own 106 (.val uh) (R_u64 d.hashes), .own 105 (.val uo) (R_int d.of_), .own 104 (.val ut) (R_term d.terms), .own 103 (.val uf) (R_fun d.funs), .own 102 (.val us) (R_sort d.sorts), .own 101 (.val c3) (B_term t), .is (.tmp 3) (VP.ptr c3), .is (.tmp 0) (VP.ptr v), .is (.tmp 4) (VP.int .i64 0), .is (.tmp 5) (VP.int .i64 0), .is (.tmp 7) (VP.int .u64 (hashT t))] [] [(0, .is (.tmp 20) (VP.ptr v)), (1, .is (.tmp 21) (VP.ptr v)), (2, .pt 22 (.blk (.val v) 5)), (3, .is (.tmp 23) (VP.eq ub true true)), (4, .is (.tmp 24) (VP.ptr v)), (5, .is (.tmp 25) (VP.ptr v)), (6, .pt 26 (.blk (.val v) 5)), (7, .is (.tmp 27) (VP.eq ub true true)), (8, .is (.tmp 28) (VP.int .u64 (hashT t))), (9, .is (.tmp 29) (VP.int .i64 ((hashT t) % ((d.table.length : Nat) : Int)))), (10, .pt 30 (.row (.val ub) (m * 1))), (11, .is (.tmp 31) (VP.eq uk true true)), (12, .is (.tmp 32) (VP.int .i64 (((d.bucket t).length : Nat) : Int))), (13, .is (.tmp 33) (VP.int .i64 0))] [] [0, 1, 2, 3, 4, 5, 6, 7, 8, 9, 10, 11, 12, 13] [] [[], [0], [0, 1], [0, 1, 2], [], [4], [4, 5], [4, 5, 6], [], [4, 5, 6, 7, 8], [0, 1, 2, 3, 4, 5, 6, 7, 8, 9], [0, 1, 2, 3, 4, 5, 6, 7, 8, 9, 10], [0, 1, 2, 3, 4, 5, 6, 7, 8, 9, 10, 11], []] [[1, 2, 3, 10, 11, 12], [2, 3, 10, 11, 12], [3, 10, 11, 12], [10, 11, 12], [5, 6, 7, 9, 10, 11, 12], [6, 7, 9, 10, 11, 12], [7, 9, 10, 11, 12], [9, 10, 11, 12], [9, 10, 11, 12], [10, 11, 12], [11, 12], [12], [], []] rfl rfl follow rfl ⟨
      .inl ⟨wants_plain rfl, does_move _ (.inl rfl) rfl rfl rfl rfl (ar_tmp (av_fs 10 rfl))⟩,
      .inl ⟨wants_plain rfl, does_nil _ rfl rfl rfl rfl rfl (ar_tmp (av_rs 0 0 rfl rfl))⟩,
      .inl ⟨wants_plain rfl, does_field _ _ _ 5 DagK_f_dag_Arena_5 rfl rfl rfl rfl rfl rfl (pt_ptr (ar_tmp (av_rs 1 1 rfl rfl)))⟩,
      .inl ⟨wants_plain rfl, does_loadOne _ DagK_one_dag_table rfl rfl rfl rfl rfl (pt_pt (av_rs 2 2 rfl rfl)) (rds_box (off := 5) (av_fs 2 rfl) (hq_one rfl))⟩,
      .inl ⟨wants_plain rfl, does_move _ (.inl rfl) rfl rfl rfl rfl (ar_tmp (av_fs 10 rfl))⟩,
      .inl ⟨wants_plain rfl, does_nil _ rfl rfl rfl rfl rfl (ar_tmp (av_rs 4 4 rfl rfl))⟩,
      .inl ⟨wants_plain rfl, does_field _ _ _ 5 DagK_f_dag_Arena_5 rfl rfl rfl rfl rfl rfl (pt_ptr (ar_tmp (av_rs 5 5 rfl rfl)))⟩,
      .inl ⟨wants_plain rfl, does_loadOne _ DagK_one_dag_table rfl rfl rfl rfl rfl (pt_pt (av_rs 6 6 rfl rfl)) (rds_box (off := 5) (av_fs 2 rfl) (hq_one rfl))⟩,
      .inl ⟨wants_plain rfl, does_move _ (.inl rfl) rfl rfl rfl rfl (ar_tmp (av_fs 13 rfl))⟩,
      .inl ⟨wants_plain rfl, does_call (da_place (n := d.table.length) (j := j) hT (by omega) (hashT t)) (fun _ _ _ _ h => h) rfl DagK_hb__collator_dag_table__place rfl rfl rfl rfl ar_clo (ars_cons (pa_vp (ar_sln (sit_own (av_fs 0 rfl)) (ar_tmp (av_rs 7 7 rfl rfl)))) (ars_cons (pa_vp (ar_tmp (av_rs 8 8 rfl rfl))) ars_nil)) trivial⟩,
      .inl ⟨wants_plain rfl, does_index (m := m) _ _ Try.underlying60 DagK_size___int rfl rfl rfl rfl rfl _ (by omega) rfl (by omega) (sl_own (av_fs 0 rfl) (ar_tmp (av_rs 3 3 rfl rfl))) (ar_int_eq (by omega) (ar_tmp (av_rs 9 9 rfl rfl)))⟩,
      .inl ⟨wants_plain rfl, does_loadOne _ DagK_one___int rfl rfl rfl rfl rfl (pt_pt (av_rs 10 10 rfl rfl)) (rds_row (av_fs 0 rfl) (hq_one (hole_get (by omega))))⟩,
      .inl ⟨wants_plain rfl, does_len _ _ (by kernel_rfl) rfl rfl rfl rfl rfl (sl_own (av_fs 1 rfl) (ar_tmp (av_rs 11 11 rfl rfl)))⟩,
      .inl ⟨wants_plain rfl, does_move _ (.inl rfl) rfl rfl rfl rfl (ar_const (fun _ _ => rfl))⟩,
      trivial⟩ ?_
    refine t_pick [0, 1, 2, 3, 4, 5, 6, 7, 8, 9, 10, 11, 12, 13, 25, 26, 27] rfl ?_
    refine nx_then ?_
    refine t_block ?_
    refine t_pick [16, 0, 1, 2, 3, 4, 5, 6, 7, 8, 9, 10, 11, 12, 13, 14, 15] rfl ?_
    refine t_slot (y := VP.int .i64 ((0 : Nat) : Int)) (fun _ _ _ h => h) ?_
    refine t_loop (τ := {k : Nat // k ≤ (d.bucket t).length ∧ ∀ j y, j < k → (d.bucket t)[j]? = some y → sameT (d.term_ y) t = false}) (fun ⟨k, _⟩ => [.is (.tmp 0) (VP.ptr v), .is (.tmp 3) (VP.ptr c3), .is (.tmp 7) (VP.int .u64 (hashT t)), .is (.tmp 31) (VP.eq uk true true), .is (.tmp 32) (VP.int .i64 (((d.bucket t).length : Nat) : Int)), .is (.tmp 33) (VP.int .i64 ((k : Nat) : Int)), .own 0 (.val v) (ArO us uf ut uo uh ub d.most), .own 101 (.val c3) (B_term t), .own 102 (.val us) (R_sort d.sorts), .own 103 (.val uf) (R_fun d.funs), .own 104 (.val ut) (R_term d.terms), .own 105 (.val uo) (R_int d.of_), .own 106 (.val uh) (R_u64 d.hashes), .own 107 (.val ub) (HA.row 28 1 d.table.length ((d.table.map rowInt).set m (HA.of (VP.eq uk true true)))), .own 108 (.val uk) (R_int (d.bucket t))]) (fun ⟨k, _⟩ => (d.bucket t).length - k) (⟨0, Nat.zero_le _, fun j y hj => by omega⟩) [11, 10, 14, 15, 16, 0, 3, 9, 8, 7, 6, 5, 4, 1, 2] rfl ?_
    rintro ⟨k, hkl, hno⟩
    refine t_seq ?_
    refine t_region (F := ⟨_, _, _, _, _, _⟩) [.is (.tmp 0) (VP.ptr v), .is (.tmp 3) (VP.ptr c3), .is (.tmp 7) (VP.int .u64 (hashT t)), .is (.tmp 31) (VP.eq uk true true), .is (.tmp 32) (VP.int .i64 (((d.bucket t).length : Nat) : Int)), .is (.tmp 33) (VP.int .i64 ((k : Nat) : Int)), .own 0 (.val v) (ArO us uf ut uo uh ub d.most), .own 101 (.val c3) (B_term t), .own 102 (.val us) (R_sort d.sorts), .own 103 (.val uf) (R_fun d.funs), .own 104 (.val ut) (R_term d.terms), .own 105 (.val uo) (R_int d.of_), .own 106 (.val uh) (R_u64 d.hashes), .own 107 (.val ub) (HA.row 28 1 d.table.length ((d.table.map rowInt).set m (HA.of (VP.eq uk true true)))), .own 108 (.val uk) (R_int (d.bucket t))] [] [(0, .is (.tmp 34) (VP.bool (decide (((k : Nat) : Int) < (((d.bucket t).length : Nat) : Int)))))] [] [0, 1, 2, 3, 4, 5, 6, 7, 8, 9, 10, 11, 12, 13, 14] [] [[]] [[]] rfl rfl follow rfl ⟨
      .inl ⟨wants_plain rfl, does_cmp (m := ((k : Nat) : Int)) (n := (((d.bucket t).length : Nat) : Int)) _ _ _ _ _ rfl rfl rfl rfl rfl rfl .i64 (ar_tmp (av_fs 5 rfl)) (ar_tmp (av_fs 4 rfl))⟩,
      trivial⟩ ?_
    refine nx_then ?_
    refine t_seq ?_
    refine t_split 15 rfl (fun hb2 => ?_) (fun hb2 => ?_)
    · have hc2 := of_decide_eq_true hb2
      obtain ⟨x, hx⟩ : ∃ x, (d.bucket t)[k]? = some x := ⟨_, List.getElem?_eq_getElem (by omega)⟩
      have hxe := hbe.2 x (List.mem_of_getElem? hx)
      have hth : d.there x = true := decide_eq_true hxe
      refine t_skip ?_
      refine nx_then ?_
      refine t_seq ?_
      refine t_block ?_
      refine t_seq ?_
      refine t_region (F := ⟨_, _, _, _, _, _⟩) [.is (.tmp 0) (VP.ptr v), .is (.tmp 3) (VP.ptr c3), .is (.tmp 7) (VP.int .u64 (hashT t)), .is (.tmp 31) (VP.eq uk true true), .is (.tmp 32) (VP.int .i64 (((d.bucket t).length : Nat) : Int)), .is (.tmp 33) (VP.int .i64 ((k : Nat) : Int)), .own 0 (.val v) (ArO us uf ut uo uh ub d.most), .own 101 (.val c3) (B_term t), .own 102 (.val us) (R_sort d.sorts), .own 103 (.val uf) (R_fun d.funs), .own 104 (.val ut) (R_term d.terms), .own 105 (.val uo) (R_int d.of_), .own 106 (.val uh) (R_u64 d.hashes), .own 107 (.val ub) (HA.row 28 1 d.table.length ((d.table.map rowInt).set m (HA.of (VP.eq uk true true)))), .own 108 (.val uk) (R_int (d.bucket t)), .is (.tmp 34) (VP.bool (decide (((k : Nat) : Int) < (((d.bucket t).length : Nat) : Int))))] [] [(0, .pt 35 (.row (.val uk) (k * 1))), (1, .is (.tmp 36) (VP.int .i64 x)), (2, .is (.tmp 9) (VP.int .i64 x))] [] [0, 1, 2, 3, 4, 5, 6, 7, 8, 9, 10, 11, 12, 13, 14, 15] [] [[], [0], [0, 1]] [[1, 2], [2], []] rfl rfl follow rfl ⟨
        .inl ⟨wants_plain rfl, does_index (m := k) _ _ Try.underlying28 DagK_size_int rfl rfl rfl rfl rfl _ (by omega) rfl (by omega) (sl_own (av_fs 14 rfl) (ar_tmp (av_fs 3 rfl))) (ar_tmp (av_fs 5 rfl))⟩,
        .inl ⟨wants_plain rfl, does_loadOne _ DagK_one_int rfl rfl rfl rfl rfl (pt_pt (av_rs 0 0 rfl rfl)) (rds_row (av_fs 14 rfl) (hq_flat1 cInt_len hx 0 (by omega) rfl))⟩,
        .inl ⟨wants_plain rfl, does_move _ (.inr rfl) rfl rfl rfl rfl (ar_tmp (av_rs 1 1 rfl rfl))⟩,
        trivial⟩ ?_
      refine nx_then ?_
      refine t_seq ?_
      refine t_region (F := ⟨_, _, _, _, _, _⟩) [.is (.tmp 0) (VP.ptr v), .is (.tmp 3) (VP.ptr c3), .is (.tmp 7) (VP.int .u64 (hashT t)), .is (.tmp 31) (VP.eq uk true true), .is (.tmp 32) (VP.int .i64 (((d.bucket t).length : Nat) : Int)), .is (.tmp 33) (VP.int .i64 ((k : Nat) : Int)), .own 0 (.val v) (ArO us uf ut uo uh ub d.most), .own 101 (.val c3) (B_term t), .own 102 (.val us) (R_sort d.sorts), .own 103 (.val uf) (R_fun d.funs), .own 104 (.val ut) (R_term d.terms), .own 105 (.val uo) (R_int d.of_), .own 106 (.val uh) (R_u64 d.hashes), .own 107 (.val ub) (HA.row 28 1 d.table.length ((d.table.map rowInt).set m (HA.of (VP.eq uk true true)))), .own 108 (.val uk) (R_int (d.bucket t)), .is (.tmp 34) (VP.bool (decide (((k : Nat) : Int) < (((d.bucket t).length : Nat) : Int)))), .pt 35 (.row (.val uk) (k * 1)), .is (.tmp 36) (VP.int .i64 x), .is (.tmp 9) (VP.int .i64 x)] [] [(0, .is (.tmp 37) (VP.ptr v)), (1, .is (.tmp 38) (VP.ptr v)), (2, .pt 39 (.blk (.val v) 2)), (3, .is (.tmp 40) (VP.eq ut true true)), (4, .is (.tmp 41) (VP.int .i64 x)), (5, .pt 42 (.row (.val ut) (x.toNat * 4))), (6, .is (.tmp 43) (VP.agg [VP.int .i64 ((d.term_ x).op), VP.int .i64 ((d.term_ x).fn), O_int ((d.term_ x).kids), VP.str ((d.term_ x).num)])), (7, .is (.tmp 44) (VP.agg [VP.int .i64 t.op, VP.int .i64 t.fn, O_int t.kids, VP.str t.num])), (8, .is (.tmp 45) (VP.bool (sameT (d.term_ x) t)))] [] [0, 1, 2, 3, 4, 5, 6, 7, 8, 9, 10, 11, 12, 13, 14, 15, 16, 17, 18] [] [[], [0], [0, 1], [0, 1, 2], [], [0, 1, 2, 3, 4], [0, 1, 2, 3, 4, 5], [], [0, 1, 2, 3, 4, 5, 6, 7]] [[1, 2, 3, 5, 6, 8], [2, 3, 5, 6, 8], [3, 5, 6, 8], [5, 6, 8], [5, 6, 8], [6, 8], [8], [8], []] rfl rfl follow rfl ⟨
        .inl ⟨wants_plain rfl, does_move _ (.inl rfl) rfl rfl rfl rfl (ar_tmp (av_fs 0 rfl))⟩,
        .inl ⟨wants_plain rfl, does_nil _ rfl rfl rfl rfl rfl (ar_tmp (av_rs 0 0 rfl rfl))⟩,
        .inl ⟨wants_plain rfl, does_field _ _ _ 2 DagK_f_dag_Arena_2 rfl rfl rfl rfl rfl rfl (pt_ptr (ar_tmp (av_rs 1 1 rfl rfl)))⟩,
        .inl ⟨wants_plain rfl, does_loadOne _ DagK_one___api_Term rfl rfl rfl rfl rfl (pt_pt (av_rs 2 2 rfl rfl)) (rds_box (off := 2) (av_fs 6 rfl) (hq_one rfl))⟩,
        .inl ⟨wants_plain rfl, does_move _ (.inl rfl) rfl rfl rfl rfl (ar_tmp (av_fs 18 rfl))⟩,
        .inl ⟨wants_plain rfl, does_index (m := x.toNat) _ _ Try.underlying61 DagK_size_api_Term rfl rfl rfl rfl rfl _ (by omega) rfl (by omega) (sl_own (av_fs 10 rfl) (ar_tmp (av_rs 3 3 rfl rfl))) (ar_int_eq (by omega) (ar_tmp (av_rs 4 4 rfl rfl)))⟩,
        .inl ⟨wants_plain rfl, does_loadAgg (ps := [VP.int .i64 ((d.term_ x).op), VP.int .i64 ((d.term_ x).fn), O_int ((d.term_ x).kids), VP.str ((d.term_ x).num)]) _ DagK_agg_api_Term rfl rfl rfl rfl rfl (pt_pt (av_rs 5 5 rfl rfl)) (rds_row (av_fs 10 rfl) (hq_flat cTerm_len (term_at hth) (by omega) rfl))⟩,
        .inl ⟨wants_plain rfl, does_loadAgg (ps := [VP.int .i64 t.op, VP.int .i64 t.fn, O_int t.kids, VP.str t.num]) _ DagK_agg_api_Term rfl rfl rfl rfl rfl (pt_ptr (ar_tmp (av_fs 1 rfl))) (rds_box (off := 0) (av_fs 7 rfl) (hq_many (n := 4) rfl))⟩,
        .inl ⟨wants_plain rfl, does_call (dg_same (d.term_ x) t) (fun _ _ _ _ h => h) rfl DagK_hb_collator_dag_same rfl rfl rfl rfl ar_clo (ars_cons (pa_vp (ar_tmp (av_rs 6 6 rfl rfl))) (ars_cons (pa_vp (ar_tmp (av_rs 7 7 rfl rfl))) ars_nil)) trivial⟩,
        trivial⟩ ?_
      refine nx_then ?_
      refine t_split 27 rfl (fun hb3 => ?_) (fun hb3 => ?_)
      · refine t_seq ?_
        refine t_region (F := ⟨_, _, _, _, _, _⟩) [.is (.tmp 0) (VP.ptr v), .is (.tmp 3) (VP.ptr c3), .is (.tmp 7) (VP.int .u64 (hashT t)), .is (.tmp 31) (VP.eq uk true true), .is (.tmp 32) (VP.int .i64 (((d.bucket t).length : Nat) : Int)), .is (.tmp 33) (VP.int .i64 ((k : Nat) : Int)), .own 0 (.val v) (ArO us uf ut uo uh ub d.most), .own 101 (.val c3) (B_term t), .own 102 (.val us) (R_sort d.sorts), .own 103 (.val uf) (R_fun d.funs), .own 104 (.val ut) (R_term d.terms), .own 105 (.val uo) (R_int d.of_), .own 106 (.val uh) (R_u64 d.hashes), .own 107 (.val ub) (HA.row 28 1 d.table.length ((d.table.map rowInt).set m (HA.of (VP.eq uk true true)))), .own 108 (.val uk) (R_int (d.bucket t)), .is (.tmp 34) (VP.bool (decide (((k : Nat) : Int) < (((d.bucket t).length : Nat) : Int)))), .pt 35 (.row (.val uk) (k * 1)), .is (.tmp 36) (VP.int .i64 x), .is (.tmp 9) (VP.int .i64 x), .is (.tmp 37) (VP.ptr v), .is (.tmp 38) (VP.ptr v), .pt 39 (.blk (.val v) 2), .is (.tmp 40) (VP.eq ut true true), .is (.tmp 41) (VP.int .i64 x), .pt 42 (.row (.val ut) (x.toNat * 4)), .is (.tmp 43) (VP.agg [VP.int .i64 ((d.term_ x).op), VP.int .i64 ((d.term_ x).fn), O_int ((d.term_ x).kids), VP.str ((d.term_ x).num)]), .is (.tmp 44) (VP.agg [VP.int .i64 t.op, VP.int .i64 t.fn, O_int t.kids, VP.str t.num]), .is (.tmp 45) (VP.bool (sameT (d.term_ x) t))] [] [(0, .is (.tmp 46) (VP.int .i64 x)), (1, .is (.tmp 4) (VP.int .i64 x)), (2, .is (.tmp 5) (VP.int .i64 0))] [] [0, 1, 2, 3, 4, 5, 6, 7, 8, 9, 10, 11, 12, 13, 14, 15, 16, 17, 18, 19, 20, 21, 22, 23, 24, 25, 26, 27] [] [[], [0], [0, 1]] [[1, 2], [2], []] rfl rfl follow rfl ⟨
          .inl ⟨wants_plain rfl, does_move _ (.inl rfl) rfl rfl rfl rfl (ar_tmp (av_fs 18 rfl))⟩,
          .inl ⟨wants_plain rfl, does_move _ (.inr rfl) rfl rfl rfl rfl (ar_tmp (av_rs 0 0 rfl rfl))⟩,
          .inl ⟨wants_plain rfl, does_move _ (.inr rfl) rfl rfl rfl rfl (ar_const (fun _ _ => rfl))⟩,
          trivial⟩ ?_
        refine nx_then ?_
        refine t_pick [13, 14, 0, 1, 2, 3, 4, 5, 6, 7, 8, 9, 10, 11, 12, 15, 16, 17, 18, 19, 20, 21, 22, 23, 24, 25, 26, 27, 28, 29, 30] rfl ?_
        refine t_whole (whole_row (E := 28) (sz := 1) (n := d.table.length) (Rs := d.table.map rowInt) (j := m) (P := rowInt (d.bucket t)) (by rw [List.length_map]; omega)) rfl rfl ?_
        refine t_weak (R' := rowsInt d.table) (fun _ _ _ _ h => by rw [hole_back hma] at h; exact h) rfl ?_
        refine t_pick [7, 9, 0, 1, 2, 3, 4, 5, 6, 8, 10, 11, 12, 13, 14, 15, 16, 17, 18, 19, 20, 21, 22, 23, 24, 25, 26, 27, 28, 29] rfl ?_
        refine t_whole (whole_cells (T' := 64) (Rs := [HA.of (VP.eq us true true), HA.of (VP.eq uf true true), HA.of (VP.eq ut true true), HA.of (VP.eq uo true true), HA.of (VP.eq uh true true), HA.of (VP.eq ub true true), HA.of (VP.int .i64 d.most)]) (j := 0) (show 0 < 7 by decide)) rfl rfl ?_
        refine t_pick [0, 9, 1, 2, 3, 4, 5, 6, 7, 8, 10, 11, 12, 13, 14, 15, 16, 17, 18, 19, 20, 21, 22, 23, 24, 25, 26, 27, 28] rfl ?_
        refine t_whole (whole_cells (T' := 64) (Rs := [R_sort d.sorts, HA.of (VP.eq uf true true), HA.of (VP.eq ut true true), HA.of (VP.eq uo true true), HA.of (VP.eq uh true true), HA.of (VP.eq ub true true), HA.of (VP.int .i64 d.most)]) (j := 1) (show 1 < 7 by decide)) rfl rfl ?_
        refine t_pick [0, 9, 1, 2, 3, 4, 5, 6, 7, 8, 10, 11, 12, 13, 14, 15, 16, 17, 18, 19, 20, 21, 22, 23, 24, 25, 26, 27] rfl ?_
        refine t_whole (whole_cells (T' := 64) (Rs := [R_sort d.sorts, R_fun d.funs, HA.of (VP.eq ut true true), HA.of (VP.eq uo true true), HA.of (VP.eq uh true true), HA.of (VP.eq ub true true), HA.of (VP.int .i64 d.most)]) (j := 2) (show 2 < 7 by decide)) rfl rfl ?_
        refine t_pick [0, 9, 1, 2, 3, 4, 5, 6, 7, 8, 10, 11, 12, 13, 14, 15, 16, 17, 18, 19, 20, 21, 22, 23, 24, 25, 26] rfl ?_
        refine t_whole (whole_cells (T' := 64) (Rs := [R_sort d.sorts, R_fun d.funs, R_term d.terms, HA.of (VP.eq uo true true), HA.of (VP.eq uh true true), HA.of (VP.eq ub true true), HA.of (VP.int .i64 d.most)]) (j := 3) (show 3 < 7 by decide)) rfl rfl ?_
        refine t_pick [0, 9, 1, 2, 3, 4, 5, 6, 7, 8, 10, 11, 12, 13, 14, 15, 16, 17, 18, 19, 20, 21, 22, 23, 24, 25] rfl ?_
        refine t_whole (whole_cells (T' := 64) (Rs := [R_sort d.sorts, R_fun d.funs, R_term d.terms, R_int d.of_, HA.of (VP.eq uh true true), HA.of (VP.eq ub true true), HA.of (VP.int .i64 d.most)]) (j := 4) (show 4 < 7 by decide)) rfl rfl ?_
        refine t_whole (whole_cells (T' := 64) (Rs := [R_sort d.sorts, R_fun d.funs, R_term d.terms, R_int d.of_, R_u64 d.hashes, HA.of (VP.eq ub true true), HA.of (VP.int .i64 d.most)]) (j := 5) (show 5 < 7 by decide)) rfl rfl ?_
        refine t_weak (R' := Arn (d.term t)) (fun _ _ _ _ h => by rw [(term_hit hb1 (find_hit hno hx hb3)).1]; exact h) rfl ?_
        refine t_ret ?_
        refine rt_block ?_
        refine rt_then ?_
        refine rt_then ?_
        refine rt_block ?_
        refine rt_then ?_
        exact rt_post [HA.of (VP.int .i64 (d.termR t)), HA.of (VP.int .i64 (d.termE t))] [[], []] [0] [0] rfl ⟨(rv_eq (congrArg HA.of (congrArg (VP.int .i64) (show x = (d.termR t) from (term_hit hb1 (find_hit hno hx hb3)).2.1.symm))) (rv_vp 22 rfl)), (rv_eq (congrArg HA.of (congrArg (VP.int .i64) (show 0 = (d.termE t) from (term_hit hb1 (find_hit hno hx hb3)).2.2.symm))) (rv_vp 23 rfl)), trivial⟩ (by decide) rfl rfl
      · refine t_skip ?_
        refine nx_block ?_
        refine nx_then ?_
        refine t_region (F := ⟨_, _, _, _, _, _⟩) [.is (.tmp 0) (VP.ptr v), .is (.tmp 3) (VP.ptr c3), .is (.tmp 7) (VP.int .u64 (hashT t)), .is (.tmp 31) (VP.eq uk true true), .is (.tmp 32) (VP.int .i64 (((d.bucket t).length : Nat) : Int)), .own 0 (.val v) (ArO us uf ut uo uh ub d.most), .own 101 (.val c3) (B_term t), .own 102 (.val us) (R_sort d.sorts), .own 103 (.val uf) (R_fun d.funs), .own 104 (.val ut) (R_term d.terms), .own 105 (.val uo) (R_int d.of_), .own 106 (.val uh) (R_u64 d.hashes), .own 107 (.val ub) (HA.row 28 1 d.table.length ((d.table.map rowInt).set m (HA.of (VP.eq uk true true)))), .own 108 (.val uk) (R_int (d.bucket t)), .is (.tmp 34) (VP.bool (decide (((k : Nat) : Int) < (((d.bucket t).length : Nat) : Int)))), .pt 35 (.row (.val uk) (k * 1)), .is (.tmp 36) (VP.int .i64 x), .is (.tmp 9) (VP.int .i64 x), .is (.tmp 37) (VP.ptr v), .is (.tmp 38) (VP.ptr v), .pt 39 (.blk (.val v) 2), .is (.tmp 40) (VP.eq ut true true), .is (.tmp 41) (VP.int .i64 x), .pt 42 (.row (.val ut) (x.toNat * 4)), .is (.tmp 43) (VP.agg [VP.int .i64 ((d.term_ x).op), VP.int .i64 ((d.term_ x).fn), O_int ((d.term_ x).kids), VP.str ((d.term_ x).num)]), .is (.tmp 44) (VP.agg [VP.int .i64 t.op, VP.int .i64 t.fn, O_int t.kids, VP.str t.num]), .is (.tmp 45) (VP.bool (sameT (d.term_ x) t))] [(1, .is (.tmp 33) (VP.int .i64 ((k : Nat) : Int)))] [(0, .is (.tmp 47) (VP.int .i64 (((k + 1) : Nat) : Int))), (1, .is (.tmp 33) (VP.int .i64 (((k + 1) : Nat) : Int)))] [] [0, 1, 2, 3, 4, 6, 7, 8, 9, 10, 11, 12, 13, 14, 15, 16, 17, 18, 19, 20, 21, 22, 23, 24, 25, 26, 27] [5] [[], [0]] [[1], []] rfl rfl follow rfl ⟨
          .inl ⟨wants_plain rfl, does_addE (m := ((k : Nat) : Int)) (n := 1) (x := (((k + 1) : Nat) : Int)) (by omega) _ _ _ _ rfl rfl rfl rfl rfl (by omega) (ar_tmp (av_os 0 1 rfl rfl)) (ar_const (fun _ _ => rfl))⟩,
          .inl ⟨wants_plain rfl, does_move _ (.inl rfl) rfl rfl rfl rfl (ar_tmp (av_rs 0 0 rfl rfl))⟩,
          trivial⟩ ?_
        refine nx_round (τ := {k : Nat // k ≤ (d.bucket t).length ∧ ∀ j y, j < k → (d.bucket t)[j]? = some y → sameT (d.term_ y) t = false}) (I := fun ⟨k, _⟩ => [.is (.tmp 0) (VP.ptr v), .is (.tmp 3) (VP.ptr c3), .is (.tmp 7) (VP.int .u64 (hashT t)), .is (.tmp 31) (VP.eq uk true true), .is (.tmp 32) (VP.int .i64 (((d.bucket t).length : Nat) : Int)), .is (.tmp 33) (VP.int .i64 ((k : Nat) : Int)), .own 0 (.val v) (ArO us uf ut uo uh ub d.most), .own 101 (.val c3) (B_term t), .own 102 (.val us) (R_sort d.sorts), .own 103 (.val uf) (R_fun d.funs), .own 104 (.val ut) (R_term d.terms), .own 105 (.val uo) (R_int d.of_), .own 106 (.val uh) (R_u64 d.hashes), .own 107 (.val ub) (HA.row 28 1 d.table.length ((d.table.map rowInt).set m (HA.of (VP.eq uk true true)))), .own 108 (.val uk) (R_int (d.bucket t))]) (μ := fun ⟨k, _⟩ => (d.bucket t).length - k) (s := ⟨k, hkl, hno⟩) (⟨k + 1, by omega, ixf_step (g := fun y => sameT (d.term_ y) t) hno hx hb3⟩) ?_ [0, 1, 2, 3, 4, 28, 5, 6, 7, 8, 9, 10, 11, 12, 13] ?_
        · exact (show (d.bucket t).length - (k + 1) < (d.bucket t).length - k by omega)
        · exact rfl
    · have hc2 := of_decide_eq_false hb2
      refine t_exit ?_
      refine ex_then ?_
      refine ex_then ?_
      refine ex_block ?_
      refine nx_then ?_
      refine t_pick [0, 1, 2, 6, 7, 8, 9, 10, 11, 12, 13, 14] rfl ?_
      refine t_seq ?_
      have hfi := find_miss hno (by omega)
      refine t_region (F := ⟨_, _, _, _, _, _⟩) [.is (.tmp 0) (VP.ptr v), .is (.tmp 3) (VP.ptr c3), .is (.tmp 7) (VP.int .u64 (hashT t)), .own 0 (.val v) (ArO us uf ut uo uh ub d.most), .own 101 (.val c3) (B_term t), .own 102 (.val us) (R_sort d.sorts), .own 103 (.val uf) (R_fun d.funs), .own 104 (.val ut) (R_term d.terms), .own 105 (.val uo) (R_int d.of_), .own 106 (.val uh) (R_u64 d.hashes), .own 107 (.val ub) (HA.row 28 1 d.table.length ((d.table.map rowInt).set m (HA.of (VP.eq uk true true)))), .own 108 (.val uk) (R_int (d.bucket t))] [] [(0, .is (.tmp 48) (VP.ptr v)), (1, .is (.tmp 49) (VP.ptr v)), (2, .pt 50 (.blk (.val v) 2)), (3, .is (.tmp 51) (VP.eq ut true true)), (4, .is (.tmp 52) (VP.int .i64 ((d.terms.length : Nat) : Int))), (5, .is (.tmp 10) (VP.int .i64 ((d.terms.length : Nat) : Int)))] [] [0, 1, 2, 3, 4, 5, 6, 7, 8, 9, 10, 11] [] [[], [0], [0, 1], [0, 1, 2], [0, 1, 2, 3], [0, 1, 2, 3, 4]] [[1, 2, 3, 4, 5], [2, 3, 4, 5], [3, 4, 5], [4, 5], [5], []] rfl rfl follow rfl ⟨
        .inl ⟨wants_plain rfl, does_move _ (.inl rfl) rfl rfl rfl rfl (ar_tmp (av_fs 0 rfl))⟩,
        .inl ⟨wants_plain rfl, does_nil _ rfl rfl rfl rfl rfl (ar_tmp (av_rs 0 0 rfl rfl))⟩,
        .inl ⟨wants_plain rfl, does_field _ _ _ 2 DagK_f_dag_Arena_2 rfl rfl rfl rfl rfl rfl (pt_ptr (ar_tmp (av_rs 1 1 rfl rfl)))⟩,
        .inl ⟨wants_plain rfl, does_loadOne _ DagK_one___api_Term rfl rfl rfl rfl rfl (pt_pt (av_rs 2 2 rfl rfl)) (rds_box (off := 2) (av_fs 3 rfl) (hq_one rfl))⟩,
        .inl ⟨wants_plain rfl, does_len _ _ (by kernel_rfl) rfl rfl rfl rfl rfl (sl_own (av_fs 7 rfl) (ar_tmp (av_rs 3 3 rfl rfl)))⟩,
        .inl ⟨wants_plain rfl, does_move _ (.inr rfl) rfl rfl rfl rfl (ar_tmp (av_rs 4 4 rfl rfl))⟩,
        trivial⟩ ?_
      refine t_pick [0, 1, 2, 3, 4, 5, 6, 7, 8, 9, 10, 11, 17] rfl ?_
      refine nx_then ?_
      refine t_seq ?_
      refine t_seq ?_
      refine t_region (F := ⟨_, _, _, _, _, _⟩) [.is (.tmp 0) (VP.ptr v), .is (.tmp 3) (VP.ptr c3), .is (.tmp 7) (VP.int .u64 (hashT t)), .own 0 (.val v) (ArO us uf ut uo uh ub d.most), .own 101 (.val c3) (B_term t), .own 102 (.val us) (R_sort d.sorts), .own 103 (.val uf) (R_fun d.funs), .own 104 (.val ut) (R_term d.terms), .own 105 (.val uo) (R_int d.of_), .own 106 (.val uh) (R_u64 d.hashes), .own 107 (.val ub) (HA.row 28 1 d.table.length ((d.table.map rowInt).set m (HA.of (VP.eq uk true true)))), .own 108 (.val uk) (R_int (d.bucket t)), .is (.tmp 10) (VP.int .i64 ((d.terms.length : Nat) : Int))] [] [(0, .is (.tmp 53) (VP.int .i64 ((d.terms.length : Nat) : Int))), (1, .is (.tmp 54) (VP.ptr v)), (2, .is (.tmp 55) (VP.ptr v)), (3, .pt 56 (.blk (.val v) 6)), (4, .is (.tmp 57) (VP.int .i64 d.most)), (5, .is (.tmp 58) (VP.bool (decide (((d.terms.length : Nat) : Int) ≥ d.most))))] [] [0, 1, 2, 3, 4, 5, 6, 7, 8, 9, 10, 11, 12] [] [[], [], [1], [1, 2], [1, 2, 3], [0, 1, 2, 3, 4]] [[5], [2, 3, 4, 5], [3, 4, 5], [4, 5], [5], []] rfl rfl follow rfl ⟨
        .inl ⟨wants_plain rfl, does_move _ (.inl rfl) rfl rfl rfl rfl (ar_tmp (av_fs 12 rfl))⟩,
        .inl ⟨wants_plain rfl, does_move _ (.inl rfl) rfl rfl rfl rfl (ar_tmp (av_fs 0 rfl))⟩,
        .inl ⟨wants_plain rfl, does_nil _ rfl rfl rfl rfl rfl (ar_tmp (av_rs 1 1 rfl rfl))⟩,
        .inl ⟨wants_plain rfl, does_field _ _ _ 6 DagK_f_dag_Arena_6 rfl rfl rfl rfl rfl rfl (pt_ptr (ar_tmp (av_rs 2 2 rfl rfl)))⟩,
        .inl ⟨wants_plain rfl, does_loadOne _ DagK_one_int rfl rfl rfl rfl rfl (pt_pt (av_rs 3 3 rfl rfl)) (rds_box (off := 6) (av_fs 3 rfl) (hq_one rfl))⟩,
        .inl ⟨wants_plain rfl, does_cmp (m := ((d.terms.length : Nat) : Int)) (n := d.most) _ _ _ _ _ rfl rfl rfl rfl rfl rfl .i64 (ar_tmp (av_rs 0 0 rfl rfl)) (ar_tmp (av_rs 4 4 rfl rfl))⟩,
        trivial⟩ ?_
      refine t_pick [0, 1, 2, 3, 4, 5, 6, 7, 8, 9, 10, 11, 12, 18] rfl ?_
      refine nx_then ?_
      refine t_split 13 rfl (fun hb4 => ?_) (fun hb4 => ?_)
      · have hc4 := of_decide_eq_true hb4
        refine t_seq ?_
        refine t_region (F := ⟨_, _, _, _, _, _⟩) [.is (.tmp 0) (VP.ptr v), .is (.tmp 3) (VP.ptr c3), .is (.tmp 7) (VP.int .u64 (hashT t)), .own 0 (.val v) (ArO us uf ut uo uh ub d.most), .own 101 (.val c3) (B_term t), .own 102 (.val us) (R_sort d.sorts), .own 103 (.val uf) (R_fun d.funs), .own 104 (.val ut) (R_term d.terms), .own 105 (.val uo) (R_int d.of_), .own 106 (.val uh) (R_u64 d.hashes), .own 107 (.val ub) (HA.row 28 1 d.table.length ((d.table.map rowInt).set m (HA.of (VP.eq uk true true)))), .own 108 (.val uk) (R_int (d.bucket t)), .is (.tmp 10) (VP.int .i64 ((d.terms.length : Nat) : Int)), .is (.tmp 58) (VP.bool (decide (((d.terms.length : Nat) : Int) ≥ d.most)))] [] [(0, .is (.tmp 4) (VP.int .i64 0)), (1, .is (.tmp 5) (VP.int .i64 4))] [] [0, 1, 2, 3, 4, 5, 6, 7, 8, 9, 10, 11, 12, 13] [] [[], [0]] [[1], []] rfl rfl follow rfl ⟨
          .inl ⟨wants_plain rfl, does_move _ (.inr rfl) rfl rfl rfl rfl (ar_const (fun _ _ => rfl))⟩,
          .inl ⟨wants_plain rfl, does_move _ (.inr rfl) rfl rfl rfl rfl (ar_const (fun _ _ => rfl))⟩,
          trivial⟩ ?_
        refine t_pick [0, 1, 2, 3, 4, 5, 6, 7, 8, 9, 10, 11, 12, 14, 15] rfl ?_
        refine nx_then ?_
        refine t_pick [10, 11, 0, 1, 2, 3, 4, 5, 6, 7, 8, 9, 12, 13, 14] rfl ?_
        refine t_whole (whole_row (E := 28) (sz := 1) (n := d.table.length) (Rs := d.table.map rowInt) (j := m) (P := rowInt (d.bucket t)) (by rw [List.length_map]; omega)) rfl rfl ?_
        refine t_weak (R' := rowsInt d.table) (fun _ _ _ _ h => by rw [hole_back hma] at h; exact h) rfl ?_
        refine t_pick [4, 6, 0, 1, 2, 3, 5, 7, 8, 9, 10, 11, 12, 13] rfl ?_
        refine t_whole (whole_cells (T' := 64) (Rs := [HA.of (VP.eq us true true), HA.of (VP.eq uf true true), HA.of (VP.eq ut true true), HA.of (VP.eq uo true true), HA.of (VP.eq uh true true), HA.of (VP.eq ub true true), HA.of (VP.int .i64 d.most)]) (j := 0) (show 0 < 7 by decide)) rfl rfl ?_
        refine t_pick [0, 6, 1, 2, 3, 4, 5, 7, 8, 9, 10, 11, 12] rfl ?_
        refine t_whole (whole_cells (T' := 64) (Rs := [R_sort d.sorts, HA.of (VP.eq uf true true), HA.of (VP.eq ut true true), HA.of (VP.eq uo true true), HA.of (VP.eq uh true true), HA.of (VP.eq ub true true), HA.of (VP.int .i64 d.most)]) (j := 1) (show 1 < 7 by decide)) rfl rfl ?_
        refine t_pick [0, 6, 1, 2, 3, 4, 5, 7, 8, 9, 10, 11] rfl ?_
        refine t_whole (whole_cells (T' := 64) (Rs := [R_sort d.sorts, R_fun d.funs, HA.of (VP.eq ut true true), HA.of (VP.eq uo true true), HA.of (VP.eq uh true true), HA.of (VP.eq ub true true), HA.of (VP.int .i64 d.most)]) (j := 2) (show 2 < 7 by decide)) rfl rfl ?_
        refine t_pick [0, 6, 1, 2, 3, 4, 5, 7, 8, 9, 10] rfl ?_
        refine t_whole (whole_cells (T' := 64) (Rs := [R_sort d.sorts, R_fun d.funs, R_term d.terms, HA.of (VP.eq uo true true), HA.of (VP.eq uh true true), HA.of (VP.eq ub true true), HA.of (VP.int .i64 d.most)]) (j := 3) (show 3 < 7 by decide)) rfl rfl ?_
        refine t_pick [0, 6, 1, 2, 3, 4, 5, 7, 8, 9] rfl ?_
        refine t_whole (whole_cells (T' := 64) (Rs := [R_sort d.sorts, R_fun d.funs, R_term d.terms, R_int d.of_, HA.of (VP.eq uh true true), HA.of (VP.eq ub true true), HA.of (VP.int .i64 d.most)]) (j := 4) (show 4 < 7 by decide)) rfl rfl ?_
        refine t_whole (whole_cells (T' := 64) (Rs := [R_sort d.sorts, R_fun d.funs, R_term d.terms, R_int d.of_, R_u64 d.hashes, HA.of (VP.eq ub true true), HA.of (VP.int .i64 d.most)]) (j := 5) (show 5 < 7 by decide)) rfl rfl ?_
        refine t_weak (R' := Arn (d.term t)) (fun _ _ _ _ h => by rw [(term_full hb1 hfi hb4).1]; exact h) rfl ?_
        refine t_ret ?_
        refine rt_then ?_
        exact rt_post [HA.of (VP.int .i64 (d.termR t)), HA.of (VP.int .i64 (d.termE t))] [[], []] [0] [0] rfl ⟨(rv_eq (congrArg HA.of (congrArg (VP.int .i64) (show 0 = (d.termR t) from (term_full hb1 hfi hb4).2.1.symm))) (rv_vp 6 rfl)), (rv_eq (congrArg HA.of (congrArg (VP.int .i64) (show 4 = (d.termE t) from (term_full hb1 hfi hb4).2.2.symm))) (rv_vp 7 rfl)), trivial⟩ (by decide) rfl rfl
      · have hc4 := of_decide_eq_false hb4
        refine t_skip ?_
        refine nx_then ?_
        refine t_seq ?_
        refine t_region (F := ⟨_, _, _, _, _, _⟩) [.is (.tmp 0) (VP.ptr v), .is (.tmp 3) (VP.ptr c3), .is (.tmp 7) (VP.int .u64 (hashT t)), .own 0 (.val v) (ArO us uf ut uo uh ub d.most), .own 102 (.val us) (R_sort d.sorts), .own 103 (.val uf) (R_fun d.funs), .own 104 (.val ut) (R_term d.terms), .own 105 (.val uo) (R_int d.of_), .own 106 (.val uh) (R_u64 d.hashes), .own 107 (.val ub) (HA.row 28 1 d.table.length ((d.table.map rowInt).set m (HA.of (VP.eq uk true true)))), .own 108 (.val uk) (R_int (d.bucket t)), .is (.tmp 10) (VP.int .i64 ((d.terms.length : Nat) : Int)), .is (.tmp 58) (VP.bool (decide (((d.terms.length : Nat) : Int) ≥ d.most)))] [(4, .own 101 (.val c3) (B_term t))] [(0, .pt 59 (.blk (.val c3) 2)), (1, .is (.tmp 60) (O_int t.kids)), (2, .own 109 (.tmp 61) (HA.of (O_int t.kids))), (3, .pt 62 (.blk (.val c3) 2)), (4, .own 101 (.val c3) (B_term t))] [] [0, 1, 2, 3, 5, 6, 7, 8, 9, 10, 11, 12, 13] [4] [[], [0], [0, 1], [0, 1, 2], [0, 1, 2, 3]] [[1, 2, 3, 4], [2, 3, 4], [3, 4], [4], []] rfl rfl follow rfl ⟨
          .inl ⟨wants_plain rfl, does_field _ _ _ 2 DagK_f_api_Term_2 rfl rfl rfl rfl rfl rfl (pt_ptr (ar_tmp (av_fs 1 rfl)))⟩,
          .inl ⟨wants_plain rfl, does_loadOne _ DagK_one___int rfl rfl rfl rfl rfl (pt_pt (av_rs 0 0 rfl rfl)) (rds_box (off := 2) (av_os 0 4 rfl rfl) (hq_one rfl))⟩,
          .inl ⟨wants_plain rfl, does_callG [] [] [] 109 [0] (dg_CloneInt t.kids (by omega)) rfl DagK_hb_slices_Clone___int_int_ rfl rfl rfl rfl rfl ar_clo (ars_cons (pa_slcRo (ar_tmp (av_rs 1 1 rfl rfl)) (flat_nil_iff cInt_len (by decide) _)) ars_nil) trivial trivial⟩,
          .inl ⟨wants_plain rfl, does_field _ _ _ 2 DagK_f_api_Term_2 rfl rfl rfl rfl rfl rfl (pt_ptr (ar_tmp (av_fs 1 rfl)))⟩,
          .inl ⟨wants_plain rfl, does_store (off := 2) (Qs := [HA.of (O_int t.kids)]) _ _ DagK_size___int rfl rfl rfl rfl rfl rfl (pt_pt (av_rs 3 3 rfl rfl)) (av_os 0 4 rfl rfl) (cv_one rfl (mv_vp (ar_of (av_rs 2 2 rfl rfl))))⟩,
          trivial⟩ ?_
        refine t_pick [0, 1, 2, 3, 4, 5, 6, 7, 8, 9, 10, 11, 15, 17] rfl ?_
        refine nx_then ?_
        refine t_pick [0, 1, 2, 3, 4, 5, 6, 7, 8, 9, 10, 11, 13] rfl ?_
        refine t_seq ?_
        refine t_region (F := ⟨_, _, _, _, _, _⟩) [.is (.tmp 0) (VP.ptr v), .is (.tmp 3) (VP.ptr c3), .is (.tmp 7) (VP.int .u64 (hashT t)), .own 102 (.val us) (R_sort d.sorts), .own 103 (.val uf) (R_fun d.funs), .own 104 (.val ut) (R_term d.terms), .own 106 (.val uh) (R_u64 d.hashes), .own 107 (.val ub) (HA.row 28 1 d.table.length ((d.table.map rowInt).set m (HA.of (VP.eq uk true true)))), .own 108 (.val uk) (R_int (d.bucket t)), .is (.tmp 10) (VP.int .i64 ((d.terms.length : Nat) : Int)), .own 101 (.val c3) (B_term t)] [(12, .own 0 (.val v) (ArO us uf ut uo uh ub d.most)), (9, .own 105 (.val uo) (R_int d.of_))] [(0, .is (.tmp 63) (VP.ptr v)), (1, .is (.tmp 64) (VP.ptr v)), (2, .is (.tmp 65) (VP.ptr v)), (3, .pt 66 (.blk (.val v) 3)), (4, .is (.tmp 67) (VP.eq uo true true)), (5, .is (.tmp 68) (VP.ptr v)), (6, .is (.tmp 69) (VP.agg [VP.int .i64 t.op, VP.int .i64 t.fn, O_int t.kids, VP.str t.num])), (7, .is (.tmp 70) (VP.int .i64 (d.give t))), (10, .is (.tmp 73) (VP.ptr v)), (11, .pt 74 (.blk (.val v) 3)), (12, .own 0 (.val v) (HA.cells 64 [HA.of (VP.eq us true true), HA.of (VP.eq uf true true), HA.of (VP.eq ut true true), R_int (d.of_ ++ [d.give t]), HA.of (VP.eq uh true true), HA.of (VP.eq ub true true), HA.of (VP.int .i64 d.most)]))] [(8, 9, .own 110 (.tmp 71) (R_int ([d.give t]))), (9, 12, .own 105 (.tmp 72) (R_int (d.of_ ++ [d.give t])))] [0, 1, 2, 4, 5, 6, 8, 9, 10, 11, 12] [3, 7] [[], [], [1], [1, 2], [1, 2, 3], [], [], [5, 6], [5, 6, 7], [1, 2, 3, 4, 5, 6, 7, 8], [0, 1, 2, 3, 4, 5, 6, 7, 8, 9], [0, 1, 2, 3, 4, 5, 6, 7, 8, 9, 10], [0, 1, 2, 3, 4, 5, 6, 7, 8, 9, 10, 11]] [[10, 11, 12], [2, 3, 4, 9, 10, 11, 12], [3, 4, 9, 10, 11, 12], [4, 9, 10, 11, 12], [9, 10, 11, 12], [7, 8, 9, 10, 11, 12], [7, 8, 9, 10, 11, 12], [8, 9, 10, 11, 12], [9, 10, 11, 12], [10, 11, 12], [11, 12], [12], []] rfl rfl follow rfl ⟨
          .inl ⟨wants_plain rfl, does_move _ (.inl rfl) rfl rfl rfl rfl (ar_tmp (av_fs 0 rfl))⟩,
          .inl ⟨wants_plain rfl, does_move _ (.inl rfl) rfl rfl rfl rfl (ar_tmp (av_fs 0 rfl))⟩,
          .inl ⟨wants_plain rfl, does_nil _ rfl rfl rfl rfl rfl (ar_tmp (av_rs 1 1 rfl rfl))⟩,
          .inl ⟨wants_plain rfl, does_field _ _ _ 3 DagK_f_dag_Arena_3 rfl rfl rfl rfl rfl rfl (pt_ptr (ar_tmp (av_rs 2 2 rfl rfl)))⟩,
          .inl ⟨wants_plain rfl, does_loadOne _ DagK_one___int rfl rfl rfl rfl rfl (pt_pt (av_rs 3 3 rfl rfl)) (rds_box (off := 3) (av_os 0 12 rfl rfl) (hq_one rfl))⟩,
          .inl ⟨wants_plain rfl, does_move _ (.inl rfl) rfl rfl rfl rfl (ar_tmp (av_fs 0 rfl))⟩,
          .inl ⟨wants_plain rfl, does_loadAgg (ps := [VP.int .i64 t.op, VP.int .i64 t.fn, O_int t.kids, VP.str t.num]) _ DagK_agg_api_Term rfl rfl rfl rfl rfl (pt_ptr (ar_tmp (av_fs 1 rfl))) (rds_box (off := 0) (av_fs 10 rfl) (hq_many (n := 4) rfl))⟩,
          .inl ⟨wants_plain rfl, does_call (da_gives (v := v) (us := us) (uf := uf) (ut := ut) (uo := uo) (uh := uh) (ub := ub) (d := d) t hfn hk h10) (fun _ _ _ _ h => h) rfl DagK_hb___collator_dag_Arena__gives rfl rfl rfl rfl ar_clo (ars_cons (pa_vp (ar_tmp (av_rs 5 5 rfl rfl))) (ars_cons (pa_vp (ar_tmp (av_rs 6 6 rfl rfl))) ars_nil)) ⟨(brw_own (av_os 0 12 rfl rfl) rfl), (brw_own (av_fs 4 rfl) rfl), (brw_own (av_os 1 9 rfl rfl) rfl), trivial⟩⟩,
          .inl ⟨wants_plain rfl, does_sliceLit (n := 1) DagK_el_int rfl (List.replicate 1 (VP.int .i64 0)) (z1_of (fun _ _ => rfl) rfl 1) rfl rfl rfl rfl rfl rfl rfl (.cons 0 [HA.of (VP.int .i64 (d.give t))] none rfl rfl (cv_one rfl (mv_vp (ar_tmp (av_rs 7 7 rfl rfl)))) (.nil _))⟩,
          .inl ⟨wants_plain rfl, does_append (n := d.of_.length) (m := ([d.give t]).length) DagK_el_int rfl _ _ rfl rfl rfl rfl rfl (by simp only [List.length_append, List.length_nil, List.length_cons, Nat.zero_add]) (flat_cat d.of_ ([d.give t])) rfl (by constructor <;> first | decide | omega | (simp only [List.length_append, List.length_cons, List.length_nil] at *; omega)) (flat_lenH cInt_len _) (flat_allH (fun _ => rfl) cInt_one _) (flat_allH (fun _ => rfl) cInt_nu _) (mv_ownv (av_os 1 9 rfl rfl) (ar_tmp (av_rs 4 4 rfl rfl))) (src_row (av_ms 0 8 9 rfl rfl rfl))⟩,
          .inl ⟨wants_plain rfl, does_nil _ rfl rfl rfl rfl rfl (ar_tmp (av_rs 0 0 rfl rfl))⟩,
          .inl ⟨wants_plain rfl, does_field _ _ _ 3 DagK_f_dag_Arena_3 rfl rfl rfl rfl rfl rfl (pt_ptr (ar_tmp (av_rs 8 10 rfl rfl)))⟩,
          .inl ⟨wants_plain rfl, does_store (off := 3) (Qs := [R_int (d.of_ ++ [d.give t])]) _ _ DagK_size___int rfl rfl rfl rfl rfl rfl (pt_pt (av_rs 9 11 rfl rfl)) (av_os 0 12 rfl rfl) (cv_one rfl (mv_own (av_ms 1 9 12 rfl rfl rfl)))⟩,
          trivial⟩ ?_
        refine t_pick [0, 1, 2, 3, 4, 5, 6, 7, 8, 9, 10, 21] rfl ?_
        refine nx_then ?_
        refine t_seq ?_
        refine t_region (F := ⟨_, _, _, _, _, _⟩) [.is (.tmp 0) (VP.ptr v), .is (.tmp 3) (VP.ptr c3), .is (.tmp 7) (VP.int .u64 (hashT t)), .own 102 (.val us) (R_sort d.sorts), .own 103 (.val uf) (R_fun d.funs), .own 107 (.val ub) (HA.row 28 1 d.table.length ((d.table.map rowInt).set m (HA.of (VP.eq uk true true)))), .own 108 (.val uk) (R_int (d.bucket t)), .is (.tmp 10) (VP.int .i64 ((d.terms.length : Nat) : Int)), .own 101 (.val c3) (B_term t)] [(8, .own 104 (.val ut) (R_term d.terms)), (15, .own 106 (.val uh) (R_u64 d.hashes)), (18, .own 0 (.val v) (HA.cells 64 [HA.of (VP.eq us true true), HA.of (VP.eq uf true true), HA.of (VP.eq ut true true), R_int (d.of_ ++ [d.give t]), HA.of (VP.eq uh true true), HA.of (VP.eq ub true true), HA.of (VP.int .i64 d.most)]))] [(0, .is (.tmp 75) (VP.ptr v)), (1, .is (.tmp 76) (VP.ptr v)), (2, .is (.tmp 77) (VP.ptr v)), (3, .is (.tmp 78) (VP.ptr v)), (4, .pt 79 (.blk (.val v) 2)), (5, .is (.tmp 80) (VP.eq ut true true)), (6, .is (.tmp 81) (VP.agg [VP.int .i64 t.op, VP.int .i64 t.fn, O_int t.kids, VP.str t.num])), (9, .is (.tmp 84) (VP.ptr v)), (10, .is (.tmp 85) (VP.ptr v)), (11, .pt 86 (.blk (.val v) 4)), (12, .is (.tmp 87) (VP.eq uh true true)), (13, .is (.tmp 88) (VP.int .u64 (hashT t))), (16, .is (.tmp 91) (VP.ptr v)), (17, .pt 92 (.blk (.val v) 2)), (19, .is (.tmp 93) (VP.ptr v)), (20, .pt 94 (.blk (.val v) 4)), (21, .own 0 (.val v) (HA.cells 64 [HA.of (VP.eq us true true), HA.of (VP.eq uf true true), R_term (d.terms ++ [t]), R_int (d.of_ ++ [d.give t]), R_u64 (d.hashes ++ [hashT t]), HA.of (VP.eq ub true true), HA.of (VP.int .i64 d.most)]))] [(7, 8, .own 111 (.tmp 82) (R_term ([t]))), (8, 18, .own 104 (.tmp 83) (R_term (d.terms ++ [t]))), (14, 15, .own 112 (.tmp 89) (R_u64 ([hashT t]))), (15, 21, .own 106 (.tmp 90) (R_u64 (d.hashes ++ [hashT t]))), (18, 21, .own 0 (.val v) (HA.cells 64 [HA.of (VP.eq us true true), HA.of (VP.eq uf true true), R_term (d.terms ++ [t]), R_int (d.of_ ++ [d.give t]), HA.of (VP.eq uh true true), HA.of (VP.eq ub true true), HA.of (VP.int .i64 d.most)]))] [0, 1, 2, 3, 4, 7, 8, 9, 10] [5, 6, 11] [[], [], [], [2], [2, 3], [2, 3, 4], [], [6], [2, 3, 4, 5, 6, 7], [], [9], [9, 10], [9, 10, 11], [], [13], [2, 3, 4, 5, 6, 7, 8, 9, 10, 11, 12, 13, 14], [0, 2, 3, 4, 5, 6, 7, 8, 9, 10, 11, 12, 13, 14, 15], [0, 2, 3, 4, 5, 6, 7, 8, 9, 10, 11, 12, 13, 14, 15, 16], [0, 2, 3, 4, 5, 6, 7, 8, 9, 10, 11, 12, 13, 14, 15, 16, 17], [0, 1, 2, 3, 4, 5, 6, 7, 8, 9, 10, 11, 12, 13, 14, 15, 16, 17, 18], [0, 1, 2, 3, 4, 5, 6, 7, 8, 9, 10, 11, 12, 13, 14, 15, 16, 17, 18, 19], [0, 1, 2, 3, 4, 5, 6, 7, 8, 9, 10, 11, 12, 13, 14, 15, 16, 17, 18, 19, 20]] [[16, 17, 18, 19, 20, 21], [19, 20, 21], [3, 4, 5, 8, 15, 16, 17, 18, 19, 20, 21], [4, 5, 8, 15, 16, 17, 18, 19, 20, 21], [5, 8, 15, 16, 17, 18, 19, 20, 21], [8, 15, 16, 17, 18, 19, 20, 21], [7, 8, 15, 16, 17, 18, 19, 20, 21], [8, 15, 16, 17, 18, 19, 20, 21], [15, 16, 17, 18, 19, 20, 21], [10, 11, 12, 15, 16, 17, 18, 19, 20, 21], [11, 12, 15, 16, 17, 18, 19, 20, 21], [12, 15, 16, 17, 18, 19, 20, 21], [15, 16, 17, 18, 19, 20, 21], [14, 15, 16, 17, 18, 19, 20, 21], [15, 16, 17, 18, 19, 20, 21], [16, 17, 18, 19, 20, 21], [17, 18, 19, 20, 21], [18, 19, 20, 21], [19, 20, 21], [20, 21], [21], []] rfl rfl follow rfl ⟨
          .inl ⟨wants_plain rfl, does_move _ (.inl rfl) rfl rfl rfl rfl (ar_tmp (av_fs 0 rfl))⟩,
          .inl ⟨wants_plain rfl, does_move _ (.inl rfl) rfl rfl rfl rfl (ar_tmp (av_fs 0 rfl))⟩,
          .inl ⟨wants_plain rfl, does_move _ (.inl rfl) rfl rfl rfl rfl (ar_tmp (av_fs 0 rfl))⟩,
          .inl ⟨wants_plain rfl, does_nil _ rfl rfl rfl rfl rfl (ar_tmp (av_rs 2 2 rfl rfl))⟩,
          .inl ⟨wants_plain rfl, does_field _ _ _ 2 DagK_f_dag_Arena_2 rfl rfl rfl rfl rfl rfl (pt_ptr (ar_tmp (av_rs 3 3 rfl rfl)))⟩,
          .inl ⟨wants_plain rfl, does_loadOne _ DagK_one___api_Term rfl rfl rfl rfl rfl (pt_pt (av_rs 4 4 rfl rfl)) (rds_box (off := 2) (av_os 2 18 rfl rfl) (hq_one rfl))⟩,
          .inl ⟨wants_plain rfl, does_loadAgg (ps := [VP.int .i64 t.op, VP.int .i64 t.fn, O_int t.kids, VP.str t.num]) _ DagK_agg_api_Term rfl rfl rfl rfl rfl (pt_ptr (ar_tmp (av_fs 1 rfl))) (rds_box (off := 0) (av_fs 8 rfl) (hq_many (n := 4) rfl))⟩,
          .inl ⟨wants_plain rfl, does_sliceLit (n := 1) DagK_el_term rfl [VP.int .i64 0, VP.int .i64 0, VP.nilS, VP.str (ByteArray.mk #[])] (fun _ _ => by rw [show zerosOf (.agg #[.int .i64 0, .int .i64 0, .slice none 0 0, .string (ByteArray.mk #[])]) (1 * 4) = [.int .i64 0, .int .i64 0, .slice none 0 0, .string (ByteArray.mk #[])] by kernel_rfl]; exact ⟨rfl, rfl, rfl, rfl, trivial⟩) rfl rfl rfl rfl rfl rfl rfl (.cons 0 [HA.of (VP.int .i64 t.op), HA.of (VP.int .i64 t.fn), HA.of (O_int t.kids), HA.of (VP.str t.num)] none rfl rfl (cv_agg (ps := [VP.int .i64 t.op, VP.int .i64 t.fn, O_int t.kids, VP.str t.num]) (ar_tmp (av_rs 6 6 rfl rfl))) (.nil _))⟩,
          .inl ⟨wants_plain rfl, does_append (n := d.terms.length) (m := ([t]).length) DagK_el_term rfl _ _ rfl rfl rfl rfl rfl (by simp only [List.length_append, List.length_nil, List.length_cons, Nat.zero_add]) (flat_cat d.terms ([t])) rfl (by constructor <;> first | decide | omega | (simp only [List.length_append, List.length_cons, List.length_nil] at *; omega)) (flat_lenH cTerm_len _) (flat_allH (fun _ => rfl) cTerm_one _) (flat_allH (fun _ => rfl) cTerm_nu _) (mv_ownv (av_os 0 8 rfl rfl) (ar_tmp (av_rs 5 5 rfl rfl))) (src_row (av_ms 0 7 8 rfl rfl rfl))⟩,
          .inl ⟨wants_plain rfl, does_move _ (.inl rfl) rfl rfl rfl rfl (ar_tmp (av_fs 0 rfl))⟩,
          .inl ⟨wants_plain rfl, does_nil _ rfl rfl rfl rfl rfl (ar_tmp (av_rs 7 9 rfl rfl))⟩,
          .inl ⟨wants_plain rfl, does_field _ _ _ 4 DagK_f_dag_Arena_4 rfl rfl rfl rfl rfl rfl (pt_ptr (ar_tmp (av_rs 8 10 rfl rfl)))⟩,
          .inl ⟨wants_plain rfl, does_loadOne _ DagK_one___uint64 rfl rfl rfl rfl rfl (pt_pt (av_rs 9 11 rfl rfl)) (rds_box (off := 4) (av_os 2 18 rfl rfl) (hq_one rfl))⟩,
          .inl ⟨wants_plain rfl, does_move _ (.inl rfl) rfl rfl rfl rfl (ar_tmp (av_fs 2 rfl))⟩,
          .inl ⟨wants_plain rfl, does_sliceLit (n := 1) DagK_el_u64 rfl (List.replicate 1 (VP.int .u64 0)) (z1_of (fun _ _ => rfl) rfl 1) rfl rfl rfl rfl rfl rfl rfl (.cons 0 [HA.of (VP.int .u64 (hashT t))] none rfl rfl (cv_one rfl (mv_vp (ar_tmp (av_rs 11 13 rfl rfl)))) (.nil _))⟩,
          .inl ⟨wants_plain rfl, does_append (n := d.hashes.length) (m := ([hashT t]).length) DagK_el_u64 rfl _ _ rfl rfl rfl rfl rfl (by simp only [List.length_append, List.length_nil, List.length_cons, Nat.zero_add]) (flat_cat d.hashes ([hashT t])) rfl (by constructor <;> first | decide | omega | (simp only [List.length_append, List.length_cons, List.length_nil] at *; omega)) (flat_lenH cU64_len _) (flat_allH (fun _ => rfl) cU64_one _) (flat_allH (fun _ => rfl) cU64_nu _) (mv_ownv (av_os 1 15 rfl rfl) (ar_tmp (av_rs 10 12 rfl rfl))) (src_row (av_ms 2 14 15 rfl rfl rfl))⟩,
          .inl ⟨wants_plain rfl, does_nil _ rfl rfl rfl rfl rfl (ar_tmp (av_rs 0 0 rfl rfl))⟩,
          .inl ⟨wants_plain rfl, does_field _ _ _ 2 DagK_f_dag_Arena_2 rfl rfl rfl rfl rfl rfl (pt_ptr (ar_tmp (av_rs 12 16 rfl rfl)))⟩,
          .inl ⟨wants_plain rfl, does_store (off := 2) (Qs := [R_term (d.terms ++ [t])]) _ _ DagK_size___api_Term rfl rfl rfl rfl rfl rfl (pt_pt (av_rs 13 17 rfl rfl)) (av_os 2 18 rfl rfl) (cv_one rfl (mv_own (av_ms 1 8 18 rfl rfl rfl)))⟩,
          .inl ⟨wants_plain rfl, does_nil _ rfl rfl rfl rfl rfl (ar_tmp (av_rs 1 1 rfl rfl))⟩,
          .inl ⟨wants_plain rfl, does_field _ _ _ 4 DagK_f_dag_Arena_4 rfl rfl rfl rfl rfl rfl (pt_ptr (ar_tmp (av_rs 14 19 rfl rfl)))⟩,
          .inl ⟨wants_plain rfl, does_store (off := 4) (Qs := [R_u64 (d.hashes ++ [hashT t])]) _ _ DagK_size___uint64 rfl rfl rfl rfl rfl rfl (pt_pt (av_rs 15 20 rfl rfl)) (av_ms 4 18 21 rfl rfl rfl) (cv_one rfl (mv_own (av_ms 3 15 21 rfl rfl rfl)))⟩,
          trivial⟩ ?_
        refine t_pick [0, 2, 3, 4, 5, 6, 7, 8, 25] rfl ?_
        refine nx_then ?_
        refine t_seq ?_
        refine t_seq ?_
        refine t_pick [8, 0, 1, 2, 3, 4, 5, 6, 7] rfl ?_
        refine t_part 113 (part_cells (T' := 64) (Rs := [HA.of (VP.eq us true true), HA.of (VP.eq uf true true), R_term (d.terms ++ [t]), R_int (d.of_ ++ [d.give t]), R_u64 (d.hashes ++ [hashT t]), HA.of (VP.eq ub true true), HA.of (VP.int .i64 d.most)]) 2 rfl) rfl rfl fun ut2 => ?_
        refine t_part 114 (part_cells (T' := 64) (Rs := [HA.of (VP.eq us true true), HA.of (VP.eq uf true true), HA.of (VP.eq ut2 true true), R_int (d.of_ ++ [d.give t]), R_u64 (d.hashes ++ [hashT t]), HA.of (VP.eq ub true true), HA.of (VP.int .i64 d.most)]) 3 rfl) rfl rfl fun uo2 => ?_
        refine t_part 115 (part_cells (T' := 64) (Rs := [HA.of (VP.eq us true true), HA.of (VP.eq uf true true), HA.of (VP.eq ut2 true true), HA.of (VP.eq uo2 true true), R_u64 (d.hashes ++ [hashT t]), HA.of (VP.eq ub true true), HA.of (VP.int .i64 d.most)]) 4 rfl) rfl rfl fun uh2 => ?_
        refine t_region (F := ⟨_, _, _, _, _, _⟩) [.own 0 (.val v) (ArO us uf ut2 uo2 uh2 ub d.most), .own 115 (.val uh2) (R_u64 (d.hashes ++ [hashT t])), .own 114 (.val uo2) (R_int (d.of_ ++ [d.give t])), .own 113 (.val ut2) (R_term (d.terms ++ [t])), .is (.tmp 0) (VP.ptr v), .is (.tmp 7) (VP.int .u64 (hashT t)), .own 102 (.val us) (R_sort d.sorts), .own 103 (.val uf) (R_fun d.funs), .own 107 (.val ub) (HA.row 28 1 d.table.length ((d.table.map rowInt).set m (HA.of (VP.eq uk true true)))), .own 108 (.val uk) (R_int (d.bucket t)), .is (.tmp 10) (VP.int .i64 ((d.terms.length : Nat) : Int)), .own 101 (.val c3) (B_term t)] [] [(0, .is (.tmp 95) (VP.ptr v)), (1, .is (.tmp 96) (VP.ptr v)), (2, .pt 97 (.blk (.val v) 2)), (3, .is (.tmp 98) (VP.eq ut2 true true)), (4, .is (.tmp 99) (VP.int .i64 (((d.terms ++ [t]).length : Nat) : Int))), (5, .is (.tmp 100) (VP.ptr v)), (6, .is (.tmp 101) (VP.ptr v)), (7, .pt 102 (.blk (.val v) 5)), (8, .is (.tmp 103) (VP.eq ub true true)), (9, .is (.tmp 104) (VP.int .i64 ((d.table.length : Nat) : Int))), (10, .is (.tmp 105) (VP.bool (decide ((((d.terms ++ [t]).length : Nat) : Int) > ((d.table.length : Nat) : Int)))))] [] [0, 1, 2, 3, 4, 5, 6, 7, 8, 9, 10, 11] [] [[], [0], [0, 1], [0, 1, 2], [0, 1, 2, 3], [], [5], [5, 6], [5, 6, 7], [5, 6, 7, 8], [0, 1, 2, 3, 4, 5, 6, 7, 8, 9]] [[1, 2, 3, 4, 10], [2, 3, 4, 10], [3, 4, 10], [4, 10], [10], [6, 7, 8, 9, 10], [7, 8, 9, 10], [8, 9, 10], [9, 10], [10], []] rfl rfl follow rfl ⟨
          .inl ⟨wants_plain rfl, does_move _ (.inl rfl) rfl rfl rfl rfl (ar_tmp (av_fs 4 rfl))⟩,
          .inl ⟨wants_plain rfl, does_nil _ rfl rfl rfl rfl rfl (ar_tmp (av_rs 0 0 rfl rfl))⟩,
          .inl ⟨wants_plain rfl, does_field _ _ _ 2 DagK_f_dag_Arena_2 rfl rfl rfl rfl rfl rfl (pt_ptr (ar_tmp (av_rs 1 1 rfl rfl)))⟩,
          .inl ⟨wants_plain rfl, does_loadOne _ DagK_one___api_Term rfl rfl rfl rfl rfl (pt_pt (av_rs 2 2 rfl rfl)) (rds_box (off := 2) (av_fs 0 rfl) (hq_one rfl))⟩,
          .inl ⟨wants_plain rfl, does_len _ _ (by kernel_rfl) rfl rfl rfl rfl rfl (sl_own (av_fs 3 rfl) (ar_tmp (av_rs 3 3 rfl rfl)))⟩,
          .inl ⟨wants_plain rfl, does_move _ (.inl rfl) rfl rfl rfl rfl (ar_tmp (av_fs 4 rfl))⟩,
          .inl ⟨wants_plain rfl, does_nil _ rfl rfl rfl rfl rfl (ar_tmp (av_rs 5 5 rfl rfl))⟩,
          .inl ⟨wants_plain rfl, does_field _ _ _ 5 DagK_f_dag_Arena_5 rfl rfl rfl rfl rfl rfl (pt_ptr (ar_tmp (av_rs 6 6 rfl rfl)))⟩,
          .inl ⟨wants_plain rfl, does_loadOne _ DagK_one_dag_table rfl rfl rfl rfl rfl (pt_pt (av_rs 7 7 rfl rfl)) (rds_box (off := 5) (av_fs 0 rfl) (hq_one rfl))⟩,
          .inl ⟨wants_plain rfl, does_len _ _ (by kernel_rfl) rfl rfl rfl rfl rfl (sl_own (av_fs 8 rfl) (ar_tmp (av_rs 8 8 rfl rfl)))⟩,
          .inl ⟨wants_plain rfl, does_cmp (m := (((d.terms ++ [t]).length : Nat) : Int)) (n := ((d.table.length : Nat) : Int)) _ _ _ _ _ rfl rfl rfl rfl rfl rfl .i64 (ar_tmp (av_rs 4 4 rfl rfl)) (ar_tmp (av_rs 9 9 rfl rfl))⟩,
          trivial⟩ ?_
        refine t_pick [0, 1, 2, 3, 4, 5, 6, 7, 8, 9, 10, 11, 22] rfl ?_
        refine nx_then ?_
        refine t_split 12 rfl (fun hb5 => ?_) (fun hb5 => ?_)
        · have hc5 := of_decide_eq_true hb5
          refine t_seq ?_
          refine t_pick [8, 9, 0, 1, 2, 3, 4, 5, 6, 7, 10, 11, 12] rfl ?_
          refine t_whole (whole_row (E := 28) (sz := 1) (n := d.table.length) (Rs := d.table.map rowInt) (j := m) (P := rowInt (d.bucket t)) (by rw [List.length_map]; omega)) rfl rfl ?_
          refine t_weak (R' := rowsInt d.table) (fun _ _ _ _ h => by rw [hole_back hma] at h; exact h) rfl ?_
          refine t_pick [1, 7, 0, 2, 3, 4, 5, 6, 8, 9, 10, 11] rfl ?_
          refine t_whole (whole_cells (T' := 64) (Rs := [HA.of (VP.eq us true true), HA.of (VP.eq uf true true), HA.of (VP.eq ut2 true true), HA.of (VP.eq uo2 true true), HA.of (VP.eq uh2 true true), HA.of (VP.eq ub true true), HA.of (VP.int .i64 d.most)]) (j := 0) (show 0 < 7 by decide)) rfl rfl ?_
          refine t_pick [0, 7, 1, 2, 3, 4, 5, 6, 8, 9, 10] rfl ?_
          refine t_whole (whole_cells (T' := 64) (Rs := [R_sort d.sorts, HA.of (VP.eq uf true true), HA.of (VP.eq ut2 true true), HA.of (VP.eq uo2 true true), HA.of (VP.eq uh2 true true), HA.of (VP.eq ub true true), HA.of (VP.int .i64 d.most)]) (j := 1) (show 1 < 7 by decide)) rfl rfl ?_
          refine t_pick [0, 4, 1, 2, 3, 5, 6, 7, 8, 9] rfl ?_
          refine t_whole (whole_cells (T' := 64) (Rs := [R_sort d.sorts, R_fun d.funs, HA.of (VP.eq ut2 true true), HA.of (VP.eq uo2 true true), HA.of (VP.eq uh2 true true), HA.of (VP.eq ub true true), HA.of (VP.int .i64 d.most)]) (j := 2) (show 2 < 7 by decide)) rfl rfl ?_
          refine t_pick [0, 3, 1, 2, 4, 5, 6, 7, 8] rfl ?_
          refine t_whole (whole_cells (T' := 64) (Rs := [R_sort d.sorts, R_fun d.funs, R_term (d.terms ++ [t]), HA.of (VP.eq uo2 true true), HA.of (VP.eq uh2 true true), HA.of (VP.eq ub true true), HA.of (VP.int .i64 d.most)]) (j := 3) (show 3 < 7 by decide)) rfl rfl ?_
          refine t_pick [0, 2, 1, 3, 4, 5, 6, 7] rfl ?_
          refine t_whole (whole_cells (T' := 64) (Rs := [R_sort d.sorts, R_fun d.funs, R_term (d.terms ++ [t]), R_int (d.of_ ++ [d.give t]), HA.of (VP.eq uh2 true true), HA.of (VP.eq ub true true), HA.of (VP.int .i64 d.most)]) (j := 4) (show 4 < 7 by decide)) rfl rfl ?_
          refine t_whole (whole_cells (T' := 64) (Rs := [R_sort d.sorts, R_fun d.funs, R_term (d.terms ++ [t]), R_int (d.of_ ++ [d.give t]), R_u64 (d.hashes ++ [hashT t]), HA.of (VP.eq ub true true), HA.of (VP.int .i64 d.most)]) (j := 5) (show 5 < 7 by decide)) rfl rfl ?_
          have hh1 : ({ d with of_ := d.of_ ++ [d.give t], terms := d.terms ++ [t], hashes := d.hashes ++ [hashT t] } : ArD).hashes.length ≤ 1000000 := by show (d.hashes ++ [hashT t]).length ≤ 1000000; rw [List.length_append]; simp only [List.length_cons, List.length_nil]; omega
          have ht1 : ({ d with of_ := d.of_ ++ [d.give t], terms := d.terms ++ [t], hashes := d.hashes ++ [hashT t] } : ArD).table.length ≤ 4000000 := by show d.table.length ≤ 4000000; omega
          refine t_region (F := ⟨_, _, _, _, _, _⟩) [.is (.tmp 0) (VP.ptr v), .is (.tmp 7) (VP.int .u64 (hashT t)), .is (.tmp 10) (VP.int .i64 ((d.terms.length : Nat) : Int)), .own 101 (.val c3) (B_term t), .is (.tmp 105) (VP.bool (decide ((((d.terms ++ [t]).length : Nat) : Int) > ((d.table.length : Nat) : Int))))] [(1, .own 0 (.val v) (Arn ({ d with of_ := d.of_ ++ [d.give t], terms := d.terms ++ [t], hashes := d.hashes ++ [hashT t] } : ArD)))] [(0, .is (.tmp 106) (VP.ptr v)), (1, .own 116 (.tmp 107) (HA.of (VP.tup []))), (1, .own 0 (.val v) (Arn (({ d with of_ := d.of_ ++ [d.give t], terms := d.terms ++ [t], hashes := d.hashes ++ [hashT t] } : ArD).grow)))] [] [1, 2, 3, 4, 5] [0] [[], [0]] [[1], []] rfl rfl follow rfl ⟨
            .inl ⟨wants_plain rfl, does_move _ (.inl rfl) rfl rfl rfl rfl (ar_tmp (av_fs 0 rfl))⟩,
            .inl ⟨wants_plain rfl, does_callG [] [0] [0] 116 [0, 1] (da_grow (v := v) (d := ({ d with of_ := d.of_ ++ [d.give t], terms := d.terms ++ [t], hashes := d.hashes ++ [hashT t] } : ArD)) (j := j) hT (by omega) hh1 ht1) rfl DagK_hb___collator_dag_Arena__grow rfl rfl rfl rfl rfl ar_clo (ars_cons (pa_vp (ar_tmp (av_rs 0 0 rfl rfl))) ars_nil) trivial ⟨(av_os 0 1 rfl rfl), trivial⟩⟩,
            trivial⟩ ?_
          refine t_pick [0, 1, 2, 3, 6, 7] rfl ?_
          refine nx_then ?_
          refine t_pick [0, 1, 2, 3, 5] rfl ?_
          refine t_seq ?_
          refine t_region (F := ⟨_, _, _, _, _, _⟩) [.is (.tmp 0) (VP.ptr v), .is (.tmp 7) (VP.int .u64 (hashT t)), .is (.tmp 10) (VP.int .i64 ((d.terms.length : Nat) : Int)), .own 101 (.val c3) (B_term t), .own 0 (.val v) (Arn (({ d with of_ := d.of_ ++ [d.give t], terms := d.terms ++ [t], hashes := d.hashes ++ [hashT t] } : ArD).grow))] [] [(0, .is (.tmp 108) (VP.int .i64 ((d.terms.length : Nat) : Int))), (1, .is (.tmp 4) (VP.int .i64 ((d.terms.length : Nat) : Int))), (2, .is (.tmp 5) (VP.int .i64 0))] [] [0, 1, 2, 3, 4] [] [[], [0], [0, 1]] [[1, 2], [2], []] rfl rfl follow rfl ⟨
            .inl ⟨wants_plain rfl, does_move _ (.inl rfl) rfl rfl rfl rfl (ar_tmp (av_fs 2 rfl))⟩,
            .inl ⟨wants_plain rfl, does_move _ (.inr rfl) rfl rfl rfl rfl (ar_tmp (av_rs 0 0 rfl rfl))⟩,
            .inl ⟨wants_plain rfl, does_move _ (.inr rfl) rfl rfl rfl rfl (ar_const (fun _ _ => rfl))⟩,
            trivial⟩ ?_
          refine t_pick [0, 1, 2, 3, 4, 6, 7] rfl ?_
          refine nx_then ?_
          refine t_pick [4, 0, 1, 2, 3, 5, 6] rfl ?_
          refine t_weak (R' := Arn (d.put t)) (fun _ _ _ _ h => by unfold ArD.put; rw [show decide (((d.terms ++ [t]).length : Int) > (d.table.length : Int)) = true from hb5]; exact h) rfl ?_
          refine t_weak (R' := Arn (d.term t)) (fun _ _ _ _ h => by rw [(term_put hb1 hfi hb4).1]; exact h) rfl ?_
          refine t_ret ?_
          refine rt_then ?_
          exact rt_post [HA.of (VP.int .i64 (d.termR t)), HA.of (VP.int .i64 (d.termE t))] [[], []] [0] [0] rfl ⟨(rv_eq (congrArg HA.of (congrArg (VP.int .i64) (show ((d.terms.length : Nat) : Int) = (d.termR t) from (term_put hb1 hfi hb4).2.1.symm))) (rv_vp 5 rfl)), (rv_eq (congrArg HA.of (congrArg (VP.int .i64) (show 0 = (d.termE t) from (term_put hb1 hfi hb4).2.2.symm))) (rv_vp 6 rfl)), trivial⟩ (by decide) rfl rfl
        · have hc5 := of_decide_eq_false hb5
          refine t_skip ?_
          refine nx_then ?_
          refine t_seq ?_
          refine t_region (F := ⟨_, _, _, _, _, _⟩) [.own 0 (.val v) (ArO us uf ut2 uo2 uh2 ub d.most), .own 115 (.val uh2) (R_u64 (d.hashes ++ [hashT t])), .own 114 (.val uo2) (R_int (d.of_ ++ [d.give t])), .own 113 (.val ut2) (R_term (d.terms ++ [t])), .is (.tmp 0) (VP.ptr v), .is (.tmp 7) (VP.int .u64 (hashT t)), .own 102 (.val us) (R_sort d.sorts), .own 103 (.val uf) (R_fun d.funs), .own 107 (.val ub) (HA.row 28 1 d.table.length ((d.table.map rowInt).set m (HA.of (VP.eq uk true true)))), .own 108 (.val uk) (R_int (d.bucket t)), .is (.tmp 10) (VP.int .i64 ((d.terms.length : Nat) : Int)), .own 101 (.val c3) (B_term t), .is (.tmp 105) (VP.bool (decide ((((d.terms ++ [t]).length : Nat) : Int) > ((d.table.length : Nat) : Int))))] [] [(0, .is (.tmp 109) (VP.ptr v)), (1, .is (.tmp 110) (VP.ptr v)), (2, .pt 111 (.blk (.val v) 5)), (3, .is (.tmp 112) (VP.eq ub true true)), (4, .is (.tmp 113) (VP.int .u64 (hashT t))), (5, .is (.tmp 114) (VP.int .i64 ((hashT t) % ((d.table.length : Nat) : Int)))), (6, .is (.tmp 11) (VP.int .i64 ((hashT t) % ((d.table.length : Nat) : Int))))] [] [0, 1, 2, 3, 4, 5, 6, 7, 8, 9, 10, 11, 12] [] [[], [0], [0, 1], [0, 1, 2], [], [0, 1, 2, 3, 4], [0, 1, 2, 3, 4, 5]] [[1, 2, 3, 5, 6], [2, 3, 5, 6], [3, 5, 6], [5, 6], [5, 6], [6], []] rfl rfl follow rfl ⟨
            .inl ⟨wants_plain rfl, does_move _ (.inl rfl) rfl rfl rfl rfl (ar_tmp (av_fs 4 rfl))⟩,
            .inl ⟨wants_plain rfl, does_nil _ rfl rfl rfl rfl rfl (ar_tmp (av_rs 0 0 rfl rfl))⟩,
            .inl ⟨wants_plain rfl, does_field _ _ _ 5 DagK_f_dag_Arena_5 rfl rfl rfl rfl rfl rfl (pt_ptr (ar_tmp (av_rs 1 1 rfl rfl)))⟩,
            .inl ⟨wants_plain rfl, does_loadOne _ DagK_one_dag_table rfl rfl rfl rfl rfl (pt_pt (av_rs 2 2 rfl rfl)) (rds_box (off := 5) (av_fs 0 rfl) (hq_one rfl))⟩,
            .inl ⟨wants_plain rfl, does_move _ (.inl rfl) rfl rfl rfl rfl (ar_tmp (av_fs 5 rfl))⟩,
            .inl ⟨wants_plain rfl, does_call (da_place (n := d.table.length) (j := j) hT (by omega) (hashT t)) (fun _ _ _ _ h => h) rfl DagK_hb__collator_dag_table__place rfl rfl rfl rfl ar_clo (ars_cons (pa_vp (ar_sln (sit_own (av_fs 8 rfl)) (ar_tmp (av_rs 3 3 rfl rfl)))) (ars_cons (pa_vp (ar_tmp (av_rs 4 4 rfl rfl))) ars_nil)) trivial⟩,
            .inl ⟨wants_plain rfl, does_move _ (.inr rfl) rfl rfl rfl rfl (ar_tmp (av_rs 5 5 rfl rfl))⟩,
            trivial⟩ ?_
          refine t_pick [0, 1, 2, 3, 4, 6, 7, 8, 9, 10, 11, 19] rfl ?_
          refine nx_then ?_
          refine t_seq ?_
          refine t_region (F := ⟨_, _, _, _, _, _⟩) [.own 0 (.val v) (ArO us uf ut2 uo2 uh2 ub d.most), .own 115 (.val uh2) (R_u64 (d.hashes ++ [hashT t])), .own 114 (.val uo2) (R_int (d.of_ ++ [d.give t])), .own 113 (.val ut2) (R_term (d.terms ++ [t])), .is (.tmp 0) (VP.ptr v), .own 102 (.val us) (R_sort d.sorts), .own 103 (.val uf) (R_fun d.funs), .is (.tmp 10) (VP.int .i64 ((d.terms.length : Nat) : Int)), .own 101 (.val c3) (B_term t), .is (.tmp 11) (VP.int .i64 ((hashT t) % ((d.table.length : Nat) : Int)))] [(16, .own 107 (.val ub) (HA.row 28 1 d.table.length ((d.table.map rowInt).set m (HA.of (VP.eq uk true true))))), (14, .own 108 (.val uk) (R_int (d.bucket t)))] [(0, .is (.tmp 115) (VP.ptr v)), (1, .is (.tmp 116) (VP.ptr v)), (2, .pt 117 (.blk (.val v) 5)), (3, .is (.tmp 118) (VP.eq ub true true)), (4, .is (.tmp 119) (VP.int .i64 ((hashT t) % ((d.table.length : Nat) : Int)))), (5, .is (.tmp 120) (VP.ptr v)), (6, .is (.tmp 121) (VP.ptr v)), (7, .pt 122 (.blk (.val v) 5)), (8, .is (.tmp 123) (VP.eq ub true true)), (9, .is (.tmp 124) (VP.int .i64 ((hashT t) % ((d.table.length : Nat) : Int)))), (10, .pt 125 (.row (.val ub) (m * 1))), (11, .is (.tmp 126) (VP.eq uk true true)), (12, .is (.tmp 127) (VP.int .i64 ((d.terms.length : Nat) : Int))), (15, .pt 130 (.row (.val ub) (m * 1))), (16, .own 107 (.val ub) (rowsInt (d.table.set m ((d.bucket t) ++ [((d.terms.length : Nat) : Int)]))))] [(13, 14, .own 117 (.tmp 128) (R_int ([((d.terms.length : Nat) : Int)]))), (14, 16, .own 108 (.tmp 129) (R_int ((d.bucket t) ++ [((d.terms.length : Nat) : Int)])))] [0, 1, 2, 3, 4, 5, 6, 9, 10, 11] [7, 8] [[], [0], [0, 1], [0, 1, 2], [], [], [5], [5, 6], [5, 6, 7], [], [5, 6, 7, 8, 9], [5, 6, 7, 8, 9, 10], [], [12], [5, 6, 7, 8, 9, 10, 11, 12, 13], [0, 1, 2, 3, 4, 5, 6, 7, 8, 9, 10, 11, 12, 13, 14], [0, 1, 2, 3, 4, 5, 6, 7, 8, 9, 10, 11, 12, 13, 14, 15]] [[1, 2, 3, 15, 16], [2, 3, 15, 16], [3, 15, 16], [15, 16], [15, 16], [6, 7, 8, 10, 11, 14, 15, 16], [7, 8, 10, 11, 14, 15, 16], [8, 10, 11, 14, 15, 16], [10, 11, 14, 15, 16], [10, 11, 14, 15, 16], [11, 14, 15, 16], [14, 15, 16], [13, 14, 15, 16], [14, 15, 16], [15, 16], [16], []] rfl rfl follow rfl ⟨
            .inl ⟨wants_plain rfl, does_move _ (.inl rfl) rfl rfl rfl rfl (ar_tmp (av_fs 4 rfl))⟩,
            .inl ⟨wants_plain rfl, does_nil _ rfl rfl rfl rfl rfl (ar_tmp (av_rs 0 0 rfl rfl))⟩,
            .inl ⟨wants_plain rfl, does_field _ _ _ 5 DagK_f_dag_Arena_5 rfl rfl rfl rfl rfl rfl (pt_ptr (ar_tmp (av_rs 1 1 rfl rfl)))⟩,
            .inl ⟨wants_plain rfl, does_loadOne _ DagK_one_dag_table rfl rfl rfl rfl rfl (pt_pt (av_rs 2 2 rfl rfl)) (rds_box (off := 5) (av_fs 0 rfl) (hq_one rfl))⟩,
            .inl ⟨wants_plain rfl, does_move _ (.inl rfl) rfl rfl rfl rfl (ar_tmp (av_fs 9 rfl))⟩,
            .inl ⟨wants_plain rfl, does_move _ (.inl rfl) rfl rfl rfl rfl (ar_tmp (av_fs 4 rfl))⟩,
            .inl ⟨wants_plain rfl, does_nil _ rfl rfl rfl rfl rfl (ar_tmp (av_rs 5 5 rfl rfl))⟩,
            .inl ⟨wants_plain rfl, does_field _ _ _ 5 DagK_f_dag_Arena_5 rfl rfl rfl rfl rfl rfl (pt_ptr (ar_tmp (av_rs 6 6 rfl rfl)))⟩,
            .inl ⟨wants_plain rfl, does_loadOne _ DagK_one_dag_table rfl rfl rfl rfl rfl (pt_pt (av_rs 7 7 rfl rfl)) (rds_box (off := 5) (av_fs 0 rfl) (hq_one rfl))⟩,
            .inl ⟨wants_plain rfl, does_move _ (.inl rfl) rfl rfl rfl rfl (ar_tmp (av_fs 9 rfl))⟩,
            .inl ⟨wants_plain rfl, does_index (m := m) _ _ Try.underlying60 DagK_size___int rfl rfl rfl rfl rfl _ (by omega) rfl (by omega) (sl_own (av_os 0 16 rfl rfl) (ar_tmp (av_rs 8 8 rfl rfl))) (ar_int_eq (by omega) (ar_tmp (av_rs 9 9 rfl rfl)))⟩,
            .inl ⟨wants_plain rfl, does_loadOne _ DagK_one___int rfl rfl rfl rfl rfl (pt_pt (av_rs 10 10 rfl rfl)) (rds_row (av_os 0 16 rfl rfl) (hq_one (hole_get (by omega))))⟩,
            .inl ⟨wants_plain rfl, does_move _ (.inl rfl) rfl rfl rfl rfl (ar_tmp (av_fs 7 rfl))⟩,
            .inl ⟨wants_plain rfl, does_sliceLit (n := 1) DagK_el_int rfl (List.replicate 1 (VP.int .i64 0)) (z1_of (fun _ _ => rfl) rfl 1) rfl rfl rfl rfl rfl rfl rfl (.cons 0 [HA.of (VP.int .i64 ((d.terms.length : Nat) : Int))] none rfl rfl (cv_one rfl (mv_vp (ar_tmp (av_rs 12 12 rfl rfl)))) (.nil _))⟩,
            .inl ⟨wants_plain rfl, does_append (n := (d.bucket t).length) (m := ([((d.terms.length : Nat) : Int)]).length) DagK_el_int rfl _ _ rfl rfl rfl rfl rfl (by simp only [List.length_append, List.length_nil, List.length_cons, Nat.zero_add]) (flat_cat (d.bucket t) ([((d.terms.length : Nat) : Int)])) rfl (by constructor <;> first | decide | omega | (simp only [List.length_append, List.length_cons, List.length_nil] at *; omega)) (flat_lenH cInt_len _) (flat_allH (fun _ => rfl) cInt_one _) (flat_allH (fun _ => rfl) cInt_nu _) (mv_ownv (av_os 1 14 rfl rfl) (ar_tmp (av_rs 11 11 rfl rfl))) (src_row (av_ms 0 13 14 rfl rfl rfl))⟩,
            .inl ⟨wants_plain rfl, does_index (m := m) _ _ Try.underlying60 DagK_size___int rfl rfl rfl rfl rfl _ (by omega) rfl (by omega) (sl_own (av_os 0 16 rfl rfl) (ar_tmp (av_rs 3 3 rfl rfl))) (ar_int_eq (by omega) (ar_tmp (av_rs 4 4 rfl rfl)))⟩,
            .inl ⟨wants_plain rfl, does_storeRow (off := m * 1) (n := d.table.length) (Rs := (d.table.map rowInt).set m (HA.of (VP.eq uk true true))) (Qs := [rowInt ((d.bucket t) ++ [((d.terms.length : Nat) : Int)])]) _ _ DagK_size___int rfl rfl rfl rfl (by rw [List.length_set]) (hole_put (by omega)) (by simp only [List.length_set, List.length_map, List.length_cons, List.length_nil]; omega) rfl (pt_pt (av_rs 13 15 rfl rfl)) (av_os 0 16 rfl rfl) (cv_one rfl (mv_own (av_ms 1 14 16 rfl rfl rfl)))⟩,
            trivial⟩ ?_
          refine t_pick [0, 1, 2, 3, 5, 6, 7, 8, 24] rfl ?_
          refine nx_then ?_
          refine t_seq ?_
          refine t_region (F := ⟨_, _, _, _, _, _⟩) [.own 0 (.val v) (ArO us uf ut2 uo2 uh2 ub d.most), .own 115 (.val uh2) (R_u64 (d.hashes ++ [hashT t])), .own 114 (.val uo2) (R_int (d.of_ ++ [d.give t])), .own 113 (.val ut2) (R_term (d.terms ++ [t])), .own 102 (.val us) (R_sort d.sorts), .own 103 (.val uf) (R_fun d.funs), .is (.tmp 10) (VP.int .i64 ((d.terms.length : Nat) : Int)), .own 101 (.val c3) (B_term t), .own 107 (.val ub) (rowsInt (d.table.set m ((d.bucket t) ++ [((d.terms.length : Nat) : Int)])))] [] [(0, .is (.tmp 131) (VP.int .i64 ((d.terms.length : Nat) : Int))), (1, .is (.tmp 4) (VP.int .i64 ((d.terms.length : Nat) : Int))), (2, .is (.tmp 5) (VP.int .i64 0))] [] [0, 1, 2, 3, 4, 5, 6, 7, 8] [] [[], [0], [0, 1]] [[1, 2], [2], []] rfl rfl follow rfl ⟨
            .inl ⟨wants_plain rfl, does_move _ (.inl rfl) rfl rfl rfl rfl (ar_tmp (av_fs 6 rfl))⟩,
            .inl ⟨wants_plain rfl, does_move _ (.inr rfl) rfl rfl rfl rfl (ar_tmp (av_rs 0 0 rfl rfl))⟩,
            .inl ⟨wants_plain rfl, does_move _ (.inr rfl) rfl rfl rfl rfl (ar_const (fun _ _ => rfl))⟩,
            trivial⟩ ?_
          refine t_pick [0, 1, 2, 3, 4, 5, 7, 8, 10, 11] rfl ?_
          refine nx_then ?_
          refine t_pick [0, 4, 1, 2, 3, 5, 6, 7, 8, 9] rfl ?_
          refine t_whole (whole_cells (T' := 64) (Rs := [HA.of (VP.eq us true true), HA.of (VP.eq uf true true), HA.of (VP.eq ut2 true true), HA.of (VP.eq uo2 true true), HA.of (VP.eq uh2 true true), HA.of (VP.eq ub true true), HA.of (VP.int .i64 d.most)]) (j := 0) (show 0 < 7 by decide)) rfl rfl ?_
          refine t_pick [0, 4, 1, 2, 3, 5, 6, 7, 8] rfl ?_
          refine t_whole (whole_cells (T' := 64) (Rs := [R_sort d.sorts, HA.of (VP.eq uf true true), HA.of (VP.eq ut2 true true), HA.of (VP.eq uo2 true true), HA.of (VP.eq uh2 true true), HA.of (VP.eq ub true true), HA.of (VP.int .i64 d.most)]) (j := 1) (show 1 < 7 by decide)) rfl rfl ?_
          refine t_pick [0, 3, 1, 2, 4, 5, 6, 7] rfl ?_
          refine t_whole (whole_cells (T' := 64) (Rs := [R_sort d.sorts, R_fun d.funs, HA.of (VP.eq ut2 true true), HA.of (VP.eq uo2 true true), HA.of (VP.eq uh2 true true), HA.of (VP.eq ub true true), HA.of (VP.int .i64 d.most)]) (j := 2) (show 2 < 7 by decide)) rfl rfl ?_
          refine t_pick [0, 2, 1, 3, 4, 5, 6] rfl ?_
          refine t_whole (whole_cells (T' := 64) (Rs := [R_sort d.sorts, R_fun d.funs, R_term (d.terms ++ [t]), HA.of (VP.eq uo2 true true), HA.of (VP.eq uh2 true true), HA.of (VP.eq ub true true), HA.of (VP.int .i64 d.most)]) (j := 3) (show 3 < 7 by decide)) rfl rfl ?_
          refine t_whole (whole_cells (T' := 64) (Rs := [R_sort d.sorts, R_fun d.funs, R_term (d.terms ++ [t]), R_int (d.of_ ++ [d.give t]), HA.of (VP.eq uh2 true true), HA.of (VP.eq ub true true), HA.of (VP.int .i64 d.most)]) (j := 4) (show 4 < 7 by decide)) rfl rfl ?_
          refine t_pick [0, 2, 1, 3, 4] rfl ?_
          refine t_whole (whole_cells (T' := 64) (Rs := [R_sort d.sorts, R_fun d.funs, R_term (d.terms ++ [t]), R_int (d.of_ ++ [d.give t]), R_u64 (d.hashes ++ [hashT t]), HA.of (VP.eq ub true true), HA.of (VP.int .i64 d.most)]) (j := 5) (show 5 < 7 by decide)) rfl rfl ?_
          refine t_weak (R' := Arn (d.put t)) (fun _ _ _ _ h => by unfold ArD.put; rw [show decide (((d.terms ++ [t]).length : Int) > (d.table.length : Int)) = false from hb5]; rw [hme] at h; exact h) rfl ?_
          refine t_weak (R' := Arn (d.term t)) (fun _ _ _ _ h => by rw [(term_put hb1 hfi hb4).1]; exact h) rfl ?_
          refine t_ret ?_
          exact rt_post [HA.of (VP.int .i64 (d.termR t)), HA.of (VP.int .i64 (d.termE t))] [[], []] [0] [0] rfl ⟨(rv_eq (congrArg HA.of (congrArg (VP.int .i64) (show ((d.terms.length : Nat) : Int) = (d.termR t) from (term_put hb1 hfi hb4).2.1.symm))) (rv_vp 2 rfl)), (rv_eq (congrArg HA.of (congrArg (VP.int .i64) (show 0 = (d.termE t) from (term_put hb1 hfi hb4).2.2.symm))) (rv_vp 3 rfl)), trivial⟩ (by decide) rfl rfl

end O
end Go.Proofs.Ytapmngmpomhjmaa

/- New arenas; their buckets; what keeps an arena as it should be. -/
namespace Go.Proofs.Ytapmngmpomhjmaa
open Go.RowKit
namespace O

def cRi (b : List Int) : List VP := [VP.ro b.length (b.flatMap cInt)]
theorem cRi_len (b : List Int) : (cRi b).length = 1 := rfl
theorem cRi_one (b : List Int) : (cRi b).all (·.one) = true := rfl
theorem cRi_nu (b : List Int) : (cRi b).all (·.nu) = true := rfl
abbrev R_ri (l : List (List Int)) : HA := HA.row 28 1 l.length ((l.flatMap cRi).map HA.of)
def boolS : SortD := ⟨ByteArray.mk #[66, 111, 111, 108], []⟩
def intS : SortD := ⟨ByteArray.mk #[73, 110, 116], []⟩
def newA (n : Int) : ArD := ⟨[boolS, intS], [], [], [], [], List.replicate 16 [], if 0 > (if 1048576 < n then 1048576 else n) then 0 else (if 1048576 < n then 1048576 else n)⟩
theorem ro_0 : ∀ Z v w S, (HA.of VP.nilS).p Z v w S → (HA.of (VP.ro 0 [])).p Z v w S := fun _ _ _ _ h => ⟨⟨none, 0, h.1, Nat.le_refl _, by simp [maxLen], .inl rfl⟩, h.2⟩
theorem new_sorts : ∀ Z v w S, (HA.row 57 2 2 [HA.of (VP.str (ByteArray.mk #[66, 111, 111, 108])), HA.of VP.nilS, HA.of (VP.str (ByteArray.mk #[73, 110, 116])), HA.of VP.nilS]).p Z v w S → (HA.row 57 2 [boolS, intS].length (([boolS, intS].flatMap cSort).map HA.of)).p Z v w S :=
  row_weak rfl fun j R R' h1 h2 => by
    match j with
    | 0 => simp at h1; have h2 : some (HA.of (VP.str (ByteArray.mk #[66, 111, 111, 108]))) = some R' := h2; injection h2 with h2; subst h1 h2; exact fun _ _ _ _ h => h
    | 1 => simp at h1; have h2 : some (HA.of (VP.ro 0 [])) = some R' := h2; injection h2 with h2; subst h1 h2; exact ro_0
    | 2 => simp at h1; have h2 : some (HA.of (VP.str (ByteArray.mk #[73, 110, 116]))) = some R' := h2; injection h2 with h2; subst h1 h2; exact fun _ _ _ _ h => h
    | 3 => simp at h1; have h2 : some (HA.of (VP.ro 0 [])) = some R' := h2; injection h2 with h2; subst h1 h2; exact ro_0
    | j + 4 => simp at h1
/-! what keeps an arena as it should be -/
theorem newA_ok (n : Int) (hn : n ≤ 100000) : (newA n).Ok where
  of_ := rfl
  ha := rfl
  tab := ⟨4, rfl, Nat.le_refl _⟩
  ent := fun b hb => by
    have : b = [] := (List.mem_replicate.1 hb).2
    subst this; exact ⟨Nat.le_refl _, fun x hx => by cases hx⟩
  kids := fun i t h => by simp [newA] at h
  few := by simp [newA]
  most := by show (if 0 > (if 1048576 < n then (1048576 : Int) else n) then (0 : Int) else (if 1048576 < n then 1048576 else n)) ≤ 100000; split <;> (try split) <;> omega
theorem growT_ent {hs : List Int} {n : Nat} : ∀ (k : Nat) (b : List Int), b ∈ growT hs n k → ∀ x ∈ b, 0 ≤ x ∧ x < (k : Int)
  | 0, b, hb, x, hx => by
    unfold growT at hb
    rw [(List.mem_replicate.1 hb).2] at hx; cases hx
  | k + 1, b, hb, x, hx => by
    have ih := growT_ent (hs := hs) (n := n) k
    have hb : b ∈ addT (growT hs n k) ((hs[k]?).getD 0) (k : Int) := hb
    unfold addT at hb
    rcases List.mem_or_eq_of_mem_set hb with hb | rfl
    · have := ih b hb x hx; omega
    · rw [List.mem_append, List.mem_singleton] at hx
      rcases hx with hx | rfl
      · rcases Nat.lt_or_ge (((hs[k]?).getD 0) % ((growT hs n k).length : Int)).toNat (growT hs n k).length with h | h
        · rw [List.getElem?_eq_getElem h] at hx
          have := ih _ (List.getElem_mem h) x hx; omega
        · rw [List.getElem?_eq_none h] at hx; cases hx
      · omega
theorem growT_len_of {hs : List Int} {n k : Nat} {b : List Int} (h : b ∈ growT hs n k) : b.length ≤ k := by
  obtain ⟨m, hm, rfl⟩ := List.mem_iff_getElem.1 h
  have := growT_bk (hs := hs) (n := n) m k
  rw [List.getElem?_eq_getElem hm] at this; exact this
section
variable {d : ArD} {t : TermD}
theorem lay_kids (h : d.Ok) (hk : ∀ k ∈ t.kids, 0 ≤ k ∧ k < d.terms.length) : (d.lay t).kidsOk := fun i u hu k hm => by
  have hu : (d.terms ++ [t])[i]? = some u := hu
  rw [List.getElem?_append] at hu
  split at hu
  · exact h.kids i u hu k hm
  · have h0 := (List.getElem?_eq_some_iff.1 hu).1
    have e : i - d.terms.length = 0 := by simpa using h0
    rw [e] at hu
    simp at hu
    subst hu
    have := hk k hm
    omega
theorem put_ok (h : d.Ok) (hk : ∀ k ∈ t.kids, 0 ≤ k ∧ k < d.terms.length) (hm : d.full = false) : (d.put t).Ok := by
  have hlen : (d.terms ++ [t]).length = d.terms.length + 1 := by simp
  have hmm := of_decide_eq_false hm
  have hmo := h.most
  obtain ⟨j, hT, hTb⟩ := h.tab
  have hT1 : 1 ≤ d.table.length := by rw [hT]; exact Nat.one_le_two_pow
  unfold ArD.put
  rcases Bool.eq_false_or_eq_true (decide (((d.terms ++ [t]).length : Int) > (d.table.length : Int))) with hg | hg
  · rw [hg]
    have hg := of_decide_eq_true hg
    exact {
      of_ := by show (d.of_ ++ [d.give t]).length = (d.terms ++ [t]).length; rw [hlen, List.length_append, h.of_]; rfl
      ha := by show (d.hashes ++ [hashT t]).length = (d.terms ++ [t]).length; rw [hlen, List.length_append, h.ha]; rfl
      tab := ⟨j + 1, by show (growT _ (2 * d.table.length) _).length = _; rw [growT_len, hT, Nat.pow_succ, Nat.mul_comm], by show 2 ^ (j + 1) ≤ 2 * (d.terms ++ [t]).length + 16; rw [Nat.pow_succ, ← hT]; omega⟩
      ent := fun b hb => by
        have hb : b ∈ growT (d.hashes ++ [hashT t]) (2 * d.table.length) (d.hashes ++ [hashT t]).length := hb
        have e : (d.hashes ++ [hashT t]).length = (d.terms ++ [t]).length := by rw [hlen, List.length_append, h.ha]; rfl
        rw [e] at hb
        exact ⟨growT_len_of hb, growT_ent _ b hb⟩
      kids := lay_kids h hk
      few := by show (d.terms ++ [t]).length ≤ 100000; omega
      most := h.most }
  · rw [hg]
    exact {
      of_ := by show (d.of_ ++ [d.give t]).length = (d.terms ++ [t]).length; rw [hlen, List.length_append, h.of_]; rfl
      ha := by show (d.hashes ++ [hashT t]).length = (d.terms ++ [t]).length; rw [hlen, List.length_append, h.ha]; rfl
      tab := ⟨j, by show (d.table.set _ _).length = _; rw [List.length_set, hT], by show 2 ^ j ≤ 2 * (d.terms ++ [t]).length + 16; omega⟩
      ent := fun b hb => by
        show b.length ≤ (d.terms ++ [t]).length ∧ ∀ x ∈ b, 0 ≤ x ∧ x < (((d.terms ++ [t]).length : Nat) : Int)
        rcases List.mem_or_eq_of_mem_set hb with hb | rfl
        · have h1 := h.ent b hb
          refine ⟨by omega, fun x hx => ?_⟩
          have := h1.2 x hx; omega
        · have h1 : (d.bucket t).length ≤ d.terms.length ∧ ∀ x ∈ d.bucket t, 0 ≤ x ∧ x < d.terms.length := by
            unfold ArD.bucket
            rcases Nat.lt_or_ge (d.bk t) d.table.length with h' | h'
            · rw [List.getElem?_eq_getElem h']; exact h.ent _ (List.getElem_mem h')
            · rw [List.getElem?_eq_none h']; exact ⟨Nat.zero_le _, fun x hx => by cases hx⟩
          refine ⟨by rw [List.length_append, List.length_cons, List.length_nil]; omega, fun x hx => ?_⟩
          rw [List.mem_append, List.mem_singleton] at hx
          rcases hx with hx | rfl
          · have := h1.2 x hx; omega
          · omega
      kids := lay_kids h hk
      few := by show (d.terms ++ [t]).length ≤ 100000; omega
      most := h.most }
/-- what a term does to an arena -/
theorem term_cases (d : ArD) (t : TermD) : (d.term t = d ∧ (d.termE t ≠ 0 ∨ ∃ x, d.find t = some x ∧ d.termR t = x ∧ d.termE t = 0 ∧ (d.fits t != 0) = false)) ∨ (d.term t = d.put t ∧ d.termE t = 0 ∧ d.termR t = d.terms.length ∧ (d.fits t != 0) = false ∧ d.full = false ∧ d.find t = none) := by
  rcases Bool.eq_false_or_eq_true (d.fits t != 0) with h | h
  · obtain ⟨h1, h2, h3⟩ := term_bad h
    exact .inl ⟨h1, .inl (by rw [h3]; exact bne_iff_ne.1 h)⟩
  · rcases hf : d.find t with _ | x
    · rcases Bool.eq_false_or_eq_true d.full with hm | hm
      · obtain ⟨h1, h2, h3⟩ := term_full h hf hm
        exact .inl ⟨h1, .inl (by rw [h3]; decide)⟩
      · obtain ⟨h1, h2, h3⟩ := term_put h hf hm
        exact .inr ⟨h1, h3, h2, h, hm, rfl⟩
    · obtain ⟨h1, h2, h3⟩ := term_hit h hf
      exact .inl ⟨h1, .inr ⟨x, rfl, h2, h3, h⟩⟩
theorem term_ok (h : d.Ok) (t : TermD) : (d.term t).Ok := by
  rcases term_cases d t with ⟨e, _⟩ | ⟨e, _, _, hf, hm, _⟩
  · rw [e]; exact h
  · rw [e]; exact put_ok h (unthere_no (fits_0 hf).2.1) hm
theorem sort_ok (h : d.Ok) (n : ByteArray) (q : List Int) : (d.sort n q).Ok := by
  unfold ArD.sort
  split
  · exact h
  · split
    · exact ⟨h.of_, h.ha, h.tab, h.ent, h.kids, h.few, h.most⟩
    · exact h
theorem fun_ok (h : d.Ok) (f : FunD) : (d.fun_ f).Ok := by
  unfold ArD.fun_
  split
  · exact h
  · exact ⟨h.of_, h.ha, h.tab, h.ent, h.kids, h.few, h.most⟩
end
theorem DagL_zero_api_Sort : zeroOf Try.prog 57 [(.string (ByteArray.mk #[])), (.slice none 0 0)] := by unfold zeroOf; kernel_rfl
theorem DagL_pl_api_Sort : placesOf Try.prog 57 #[(0, 1), (1, 1)] := ⟨_, Try.underlying57, fun w => by kernel_rfl⟩
theorem DagL_el_sort : Elem Try.prog 53 57 (.agg #[.string (ByteArray.mk #[]), .slice none 0 0]) 2 40 := Elem.mk Try.underlying53 (by kernel_rfl) rfl (by decide)
theorem DagL_el_dag_table : Elem Try.prog 60 28 (.slice none 0 0) 1 24 := Elem.mk Try.underlying60 (by kernel_rfl) rfl (by decide)
theorem DagL_zero_dag_Arena : zeroOf Try.prog 64 [(.slice none 0 0), (.slice none 0 0), (.slice none 0 0), (.slice none 0 0), (.slice none 0 0), (.slice none 0 0), (.int .i64 0)] := by unfold zeroOf; kernel_rfl
theorem DagL_pl_dag_Arena : placesOf Try.prog 64 #[(0, 1), (1, 1), (2, 1), (3, 1), (4, 1), (5, 1), (6, 1)] := ⟨_, Try.underlying64, fun w => by kernel_rfl⟩
theorem DagL_f_dag_Arena_5 : fieldAt Try.prog 64 5 5 = true := by kernel_rfl
theorem DagL_one_dag_table : oneTy Try.prog 60 = true := by kernel_rfl
theorem DagL_one___int : oneTy Try.prog 28 = true := by kernel_rfl
theorem DagL_size___int : ∀ w, (sizeOf 28).run Try.prog w = .ok 1 w := run_sizeOne DagL_one___int
theorem DagL_hb_slices_Clone___int_int_ : hasBody Try.prog 29 = true := by kernel_rfl
theorem DagL_el_ri : Elem Try.prog 47 28 (.slice none 0 0) 1 24 := Elem.mk Try.underlying47 (by kernel_rfl) rfl (by decide)
set_option maxRecDepth 100000 in
set_option maxHeartbeats 4000000 in
theorem da_New (n : Int) : SpecO Try.prog 9 [.vp (VP.int .i64 n)] [] [] [] (Arn (newA n)) := by
  refine spec_of 12 Try.func9 rfl Try.ntmps9 rfl fun w0 S0 Z0 Bf => ?_
  refine t_seq ?_
  refine t_region (F := ⟨_, _, _, _, _, _⟩) [.is (.tmp 0) (VP.int .i64 n)] [] [(0, .is (.tmp 2) (VP.nilP))] [] [0] [] [[]] [[]] rfl rfl follow rfl ⟨
    .inl ⟨wants_plain rfl, does_move _ (.inr rfl) rfl rfl rfl rfl (ar_const (fun _ _ => rfl))⟩,
    trivial⟩ ?_
  refine nx_then ?_
  refine t_seq ?_
  refine t_region (F := ⟨_, _, _, _, _, _⟩) [.is (.tmp 0) (VP.int .i64 n)] [(9, .is (.tmp 2) (VP.nilP))] [(0, .is (.tmp 3) (VP.agg [VP.str (ByteArray.mk #[66, 111, 111, 108]), VP.nilS])), (1, .is (.tmp 4) (VP.agg [VP.str (ByteArray.mk #[73, 110, 116]), VP.nilS])), (4, .is (.tmp 7) (VP.int .i64 n)), (5, .is (.tmp 8) (VP.int .i64 (if 1048576 < n then 1048576 else n))), (6, .is (.tmp 9) (VP.int .i64 (if 0 > (if 1048576 < n then 1048576 else n) then 0 else (if 1048576 < n then 1048576 else n)))), (8, .own 104 (.tmp 11) (HA.cells 64 [HA.row 57 2 2 [HA.of (VP.str (ByteArray.mk #[66, 111, 111, 108])), HA.of (VP.nilS), HA.of (VP.str (ByteArray.mk #[73, 110, 116])), HA.of (VP.nilS)], HA.of (VP.nilS), HA.of (VP.nilS), HA.of (VP.nilS), HA.of (VP.nilS), HA.row 28 1 16 ((List.replicate 16 VP.nilS).map HA.of), HA.of (VP.int .i64 (if 0 > (if 1048576 < n then 1048576 else n) then 0 else (if 1048576 < n then 1048576 else n)))])), (9, .eq 2 (.tmp 11))] [(2, 7, .own 101 (.tmp 5) (HA.row 57 2 2 [HA.of (VP.str (ByteArray.mk #[66, 111, 111, 108])), HA.of (VP.nilS), HA.of (VP.str (ByteArray.mk #[73, 110, 116])), HA.of (VP.nilS)])), (3, 7, .own 102 (.tmp 6) (HA.row 28 1 16 ((List.replicate 16 VP.nilS).map HA.of))), (7, 8, .own 103 (.tmp 10) (HA.agg [HA.row 57 2 2 [HA.of (VP.str (ByteArray.mk #[66, 111, 111, 108])), HA.of (VP.nilS), HA.of (VP.str (ByteArray.mk #[73, 110, 116])), HA.of (VP.nilS)], HA.of (VP.nilS), HA.of (VP.nilS), HA.of (VP.nilS), HA.of (VP.nilS), HA.row 28 1 16 ((List.replicate 16 VP.nilS).map HA.of), HA.of (VP.int .i64 (if 0 > (if 1048576 < n then 1048576 else n) then 0 else (if 1048576 < n then 1048576 else n)))]))] [0] [1] [[], [], [0, 1], [], [], [4], [4, 5], [0, 1, 2, 3, 4, 5, 6], [0, 1, 2, 3, 4, 5, 6, 7], [0, 1, 2, 3, 4, 5, 6, 7, 8]] [[2, 7, 8, 9], [2, 7, 8, 9], [7, 8, 9], [7, 8, 9], [5, 6, 7, 8, 9], [6, 7, 8, 9], [7, 8, 9], [8, 9], [9], []] rfl rfl follow rfl ⟨
    .inl ⟨wants_plain rfl, does_build [VP.str (ByteArray.mk #[]), VP.nilS] DagL_zero_api_Sort DagL_pl_api_Sort rfl rfl rfl rfl rfl (fun _ _ => ⟨rfl, rfl, trivial⟩) (.cons 0 [HA.of (VP.str (ByteArray.mk #[66, 111, 111, 108]))] none rfl rfl (cv_one rfl (mv_vp (ar_const (fun _ _ => rfl)))) (.nil _))⟩,
    .inl ⟨wants_plain rfl, does_build [VP.str (ByteArray.mk #[]), VP.nilS] DagL_zero_api_Sort DagL_pl_api_Sort rfl rfl rfl rfl rfl (fun _ _ => ⟨rfl, rfl, trivial⟩) (.cons 0 [HA.of (VP.str (ByteArray.mk #[73, 110, 116]))] none rfl rfl (cv_one rfl (mv_vp (ar_const (fun _ _ => rfl)))) (.nil _))⟩,
    .inl ⟨wants_plain rfl, does_sliceLit (n := 2) DagL_el_sort rfl [VP.str (ByteArray.mk #[]), VP.nilS, VP.str (ByteArray.mk #[]), VP.nilS] (fun _ _ => by rw [show zerosOf (.agg #[.string (ByteArray.mk #[]), .slice none 0 0]) (2 * 2) = [.string (ByteArray.mk #[]), .slice none 0 0, .string (ByteArray.mk #[]), .slice none 0 0] by kernel_rfl]; exact ⟨rfl, rfl, rfl, rfl, trivial⟩) rfl rfl rfl rfl rfl rfl rfl (.cons 0 [HA.of (VP.str (ByteArray.mk #[66, 111, 111, 108])), HA.of (VP.nilS)] none rfl rfl (cv_agg (ps := [VP.str (ByteArray.mk #[66, 111, 111, 108]), VP.nilS]) (ar_tmp (av_rs 0 0 rfl rfl))) (.cons 2 [HA.of (VP.str (ByteArray.mk #[73, 110, 116])), HA.of (VP.nilS)] none rfl rfl (cv_agg (ps := [VP.str (ByteArray.mk #[73, 110, 116]), VP.nilS]) (ar_tmp (av_rs 1 1 rfl rfl))) (.nil _)))⟩,
    .inl ⟨wants_plain rfl, does_make (n := 16) (ps := List.replicate 16 VP.nilS) DagL_el_dag_table rfl _ _ rfl rfl rfl rfl rfl rfl (by simp) (zsn_of _) (by constructor <;> first | decide | omega) (ar_int_eq rfl (ar_const (fun _ _ => rfl))) (ar_int_eq rfl (ar_const (fun _ _ => rfl)))⟩,
    .inl ⟨wants_plain rfl, does_move _ (.inl rfl) rfl rfl rfl rfl (ar_tmp (av_fs 0 rfl))⟩,
    .inl ⟨wants_plain rfl, does_min (m := n) (n := 1048576) _ _ rfl rfl rfl rfl rfl (ar_tmp (av_rs 2 4 rfl rfl)) (ar_const (fun _ _ => rfl))⟩,
    .inl ⟨wants_plain rfl, does_max (m := (if 1048576 < n then 1048576 else n)) (n := 0) _ _ rfl rfl rfl rfl rfl (ar_tmp (av_rs 3 5 rfl rfl)) (ar_const (fun _ _ => rfl))⟩,
    .inl ⟨wants_plain rfl, does_buildO [VP.nilS, VP.nilS, VP.nilS, VP.nilS, VP.nilS, VP.nilS, VP.int .i64 0] DagL_zero_dag_Arena DagL_pl_dag_Arena rfl rfl rfl rfl rfl (fun _ _ => ⟨rfl, rfl, rfl, rfl, rfl, rfl, rfl, trivial⟩) rfl (.cons 0 [HA.row 57 2 2 [HA.of (VP.str (ByteArray.mk #[66, 111, 111, 108])), HA.of (VP.nilS), HA.of (VP.str (ByteArray.mk #[73, 110, 116])), HA.of (VP.nilS)]] (some 101) rfl rfl (cv_one rfl (mv_own (av_ms 0 2 7 rfl rfl rfl))) (.cons 5 [HA.row 28 1 16 ((List.replicate 16 VP.nilS).map HA.of)] (some 102) rfl rfl (cv_one rfl (mv_own (av_ms 1 3 7 rfl rfl rfl))) (.cons 6 [HA.of (VP.int .i64 (if 0 > (if 1048576 < n then 1048576 else n) then 0 else (if 1048576 < n then 1048576 else n)))] none rfl rfl (cv_one rfl (mv_vp (ar_tmp (av_rs 4 6 rfl rfl)))) (.nil _))))⟩,
    .inl ⟨wants_plain rfl, does_box (Rs := [HA.row 57 2 2 [HA.of (VP.str (ByteArray.mk #[66, 111, 111, 108])), HA.of (VP.nilS), HA.of (VP.str (ByteArray.mk #[73, 110, 116])), HA.of (VP.nilS)], HA.of (VP.nilS), HA.of (VP.nilS), HA.of (VP.nilS), HA.of (VP.nilS), HA.row 28 1 16 ((List.replicate 16 VP.nilS).map HA.of), HA.of (VP.int .i64 (if 0 > (if 1048576 < n then 1048576 else n) then 0 else (if 1048576 < n then 1048576 else n)))]) _ rfl rfl rfl rfl rfl rfl (cv_oagg (mv_own (av_ms 2 7 8 rfl rfl rfl)))⟩,
    .inl ⟨wants_plain rfl, does_eqTmp (k := 11) _ rfl (.inr rfl) rfl rfl rfl rfl rfl⟩,
    trivial⟩ ?_
  refine t_pick [6, 7] rfl ?_
  refine nx_then ?_
  refine t_nameP rfl fun v1 => ?_
  refine t_pick [2, 1, 0] rfl ?_
  refine t_eq ?_
  refine t_pick [0, 2] rfl ?_
  refine t_pick [1, 0] rfl ?_
  refine t_weak (cells_weak (T := 64) (Rs := [HA.row 57 2 2 [HA.of (VP.str (ByteArray.mk #[66, 111, 111, 108])), HA.of (VP.nilS), HA.of (VP.str (ByteArray.mk #[73, 110, 116])), HA.of (VP.nilS)], HA.of (VP.nilS), HA.of (VP.nilS), HA.of (VP.nilS), HA.of (VP.nilS), HA.row 28 1 16 ((List.replicate 16 VP.nilS).map HA.of), HA.of (VP.int .i64 (if 0 > (if 1048576 < n then 1048576 else n) then 0 else (if 1048576 < n then 1048576 else n)))]) (R' := R_sort ([boolS, intS])) 0 rfl new_sorts) rfl ?_
  refine t_weak (cells_weak (T := 64) (Rs := [R_sort ([boolS, intS]), HA.of (VP.nilS), HA.of (VP.nilS), HA.of (VP.nilS), HA.of (VP.nilS), HA.row 28 1 16 ((List.replicate 16 VP.nilS).map HA.of), HA.of (VP.int .i64 (if 0 > (if 1048576 < n then 1048576 else n) then 0 else (if 1048576 < n then 1048576 else n)))]) (R' := R_fun ([] : List FunD)) 1 rfl nil_row) rfl ?_
  refine t_weak (cells_weak (T := 64) (Rs := [R_sort ([boolS, intS]), R_fun ([] : List FunD), HA.of (VP.nilS), HA.of (VP.nilS), HA.of (VP.nilS), HA.row 28 1 16 ((List.replicate 16 VP.nilS).map HA.of), HA.of (VP.int .i64 (if 0 > (if 1048576 < n then 1048576 else n) then 0 else (if 1048576 < n then 1048576 else n)))]) (R' := R_term ([] : List TermD)) 2 rfl nil_row) rfl ?_
  refine t_weak (cells_weak (T := 64) (Rs := [R_sort ([boolS, intS]), R_fun ([] : List FunD), R_term ([] : List TermD), HA.of (VP.nilS), HA.of (VP.nilS), HA.row 28 1 16 ((List.replicate 16 VP.nilS).map HA.of), HA.of (VP.int .i64 (if 0 > (if 1048576 < n then 1048576 else n) then 0 else (if 1048576 < n then 1048576 else n)))]) (R' := R_int ([] : List Int)) 3 rfl nil_row) rfl ?_
  refine t_weak (cells_weak (T := 64) (Rs := [R_sort ([boolS, intS]), R_fun ([] : List FunD), R_term ([] : List TermD), R_int ([] : List Int), HA.of (VP.nilS), HA.row 28 1 16 ((List.replicate 16 VP.nilS).map HA.of), HA.of (VP.int .i64 (if 0 > (if 1048576 < n then 1048576 else n) then 0 else (if 1048576 < n then 1048576 else n)))]) (R' := R_u64 ([] : List Int)) 4 rfl nil_row) rfl ?_
  refine t_weak (cells_weak (T := 64) (Rs := [R_sort ([boolS, intS]), R_fun ([] : List FunD), R_term ([] : List TermD), R_int ([] : List Int), R_u64 ([] : List Int), HA.row 28 1 16 ((List.replicate 16 VP.nilS).map HA.of), HA.of (VP.int .i64 (if 0 > (if 1048576 < n then 1048576 else n) then 0 else (if 1048576 < n then 1048576 else n)))]) (R' := rowsInt (List.replicate 16 ([] : List Int))) 5 rfl (nil_rows (g := rowInt) rfl)) rfl ?_
  refine t_ret ?_
  exact rt_post [Arn (newA n)] [[104]] [] [] rfl ⟨(rv_ptr 0 1 rfl rfl), trivial⟩ (by decide) rfl rfl

set_option maxRecDepth 100000 in
set_option maxHeartbeats 4000000 in
theorem da_Buckets {v : Value} {d : ArD} (ht : d.table.length ≤ 4000000) (hb : ∀ b ∈ d.table, b.length ≤ 1000000) : SpecO Try.prog 16 [.vp (VP.ptr v)] [(v, Arn d)] [] [] (R_ri d.table) := by
  refine spec_of 21 Try.func16 rfl Try.ntmps16 rfl fun w0 S0 Z0 Bf => ?_
  refine t_pick [1, 0] rfl ?_
  refine b_part (part_cells (T' := 64) (Rs := [R_sort d.sorts, R_fun d.funs, R_term d.terms, R_int d.of_, R_u64 d.hashes, rowsInt d.table, HA.of (VP.int .i64 d.most)]) 0 rfl) fun us => ?_
  refine b_part (part_cells (T' := 64) (Rs := [HA.of (VP.eq us true true), R_fun d.funs, R_term d.terms, R_int d.of_, R_u64 d.hashes, rowsInt d.table, HA.of (VP.int .i64 d.most)]) 1 rfl) fun uf => ?_
  refine b_part (part_cells (T' := 64) (Rs := [HA.of (VP.eq us true true), HA.of (VP.eq uf true true), R_term d.terms, R_int d.of_, R_u64 d.hashes, rowsInt d.table, HA.of (VP.int .i64 d.most)]) 2 rfl) fun ut => ?_
  refine b_part (part_cells (T' := 64) (Rs := [HA.of (VP.eq us true true), HA.of (VP.eq uf true true), HA.of (VP.eq ut true true), R_int d.of_, R_u64 d.hashes, rowsInt d.table, HA.of (VP.int .i64 d.most)]) 3 rfl) fun uo => ?_
  refine b_part (part_cells (T' := 64) (Rs := [HA.of (VP.eq us true true), HA.of (VP.eq uf true true), HA.of (VP.eq ut true true), HA.of (VP.eq uo true true), R_u64 d.hashes, rowsInt d.table, HA.of (VP.int .i64 d.most)]) 4 rfl) fun uh => ?_
  refine b_part (part_cells (T' := 64) (Rs := [HA.of (VP.eq us true true), HA.of (VP.eq uf true true), HA.of (VP.eq ut true true), HA.of (VP.eq uo true true), HA.of (VP.eq uh true true), rowsInt d.table, HA.of (VP.int .i64 d.most)]) 5 rfl) fun ub => ?_
  refine t_seq ?_
  refine t_region (F := ⟨_, _, _, _, _, _⟩) [.bor (.val v) (ArO us uf ut uo uh ub d.most), .bor (.val ub) (rowsInt d.table), .bor (.val uh) (R_u64 d.hashes), .bor (.val uo) (R_int d.of_), .bor (.val ut) (R_term d.terms), .bor (.val uf) (R_fun d.funs), .bor (.val us) (R_sort d.sorts), .is (.tmp 0) (VP.ptr v)] [] [(0, .is (.tmp 2) (VP.nilS))] [] [0, 1, 2, 3, 4, 5, 6, 7] [] [[]] [[]] rfl rfl follow rfl ⟨
    .inl ⟨wants_plain rfl, does_move _ (.inr rfl) rfl rfl rfl rfl (ar_const (fun _ _ => rfl))⟩,
    trivial⟩ ?_
  refine nx_then ?_
  refine t_seq ?_
  refine t_seq ?_
  refine t_region (F := ⟨_, _, _, _, _, _⟩) [.bor (.val v) (ArO us uf ut uo uh ub d.most), .bor (.val ub) (rowsInt d.table), .bor (.val uh) (R_u64 d.hashes), .bor (.val uo) (R_int d.of_), .bor (.val ut) (R_term d.terms), .bor (.val uf) (R_fun d.funs), .bor (.val us) (R_sort d.sorts), .is (.tmp 0) (VP.ptr v), .is (.tmp 2) (VP.nilS)] [] [(0, .is (.tmp 5) (VP.ptr v)), (1, .is (.tmp 6) (VP.ptr v)), (2, .pt 7 (.blk (.val v) 5)), (3, .is (.tmp 8) (VP.eq ub true true)), (4, .is (.tmp 9) (VP.int .i64 ((d.table.length : Nat) : Int))), (5, .is (.tmp 10) (VP.int .i64 0))] [] [0, 1, 2, 3, 4, 5, 6, 7, 8] [] [[], [0], [0, 1], [0, 1, 2], [0, 1, 2, 3], []] [[1, 2, 3, 4], [2, 3, 4], [3, 4], [4], [], []] rfl rfl follow rfl ⟨
    .inl ⟨wants_plain rfl, does_move _ (.inl rfl) rfl rfl rfl rfl (ar_tmp (av_fs 7 rfl))⟩,
    .inl ⟨wants_plain rfl, does_nil _ rfl rfl rfl rfl rfl (ar_tmp (av_rs 0 0 rfl rfl))⟩,
    .inl ⟨wants_plain rfl, does_field _ _ _ 5 DagL_f_dag_Arena_5 rfl rfl rfl rfl rfl rfl (pt_ptr (ar_tmp (av_rs 1 1 rfl rfl)))⟩,
    .inl ⟨wants_plain rfl, does_loadOne _ DagL_one_dag_table rfl rfl rfl rfl rfl (pt_pt (av_rs 2 2 rfl rfl)) (rds_bbox (off := 5) (av_fs 0 rfl) (hq_one rfl))⟩,
    .inl ⟨wants_plain rfl, does_len _ _ (by kernel_rfl) rfl rfl rfl rfl rfl (sl_bor (av_fs 1 rfl) (ar_tmp (av_rs 3 3 rfl rfl)))⟩,
    .inl ⟨wants_plain rfl, does_move _ (.inl rfl) rfl rfl rfl rfl (ar_const (fun _ _ => rfl))⟩,
    trivial⟩ ?_
  refine t_pick [0, 1, 2, 3, 4, 5, 6, 8, 12, 13, 14] rfl ?_
  refine nx_then ?_
  refine t_block ?_
  refine t_pick [7, 0, 1, 2, 3, 4, 5, 6, 8, 9, 10] rfl ?_
  refine t_nilRow (id := 7777) (E := 28) (sz := 1) rfl ?_
  refine t_pick [10, 0, 1, 2, 3, 4, 5, 6, 7, 8, 9] rfl ?_
  refine t_slot (y := VP.int .i64 ((0 : Nat) : Int)) (fun _ _ _ h => h) ?_
  refine t_loop (τ := {k : Nat // k ≤ d.table.length}) (fun ⟨k, _⟩ => [.is (.tmp 8) (VP.eq ub true true), .is (.tmp 9) (VP.int .i64 ((d.table.length : Nat) : Int)), .is (.tmp 10) (VP.int .i64 ((k : Nat) : Int)), .own 7777 (.tmp 2) (R_ri (d.table.take k)), .bor (.val ub) (rowsInt d.table)]) (fun ⟨k, _⟩ => d.table.length - k) (⟨0, Nat.zero_le _⟩) [9, 10, 0, 1, 3] rfl ?_
  rintro ⟨k, hk⟩
  refine t_seq ?_
  refine t_pick [3, 0, 1, 2, 4] rfl ?_
  refine t_name rfl fun v1 => ?_
  refine t_region (F := ⟨_, _, _, _, _, _⟩) [.own 7777 (.val v1) (R_ri (d.table.take k)), .is (.tmp 2) (VP.eq v1 true true), .is (.tmp 8) (VP.eq ub true true), .is (.tmp 9) (VP.int .i64 ((d.table.length : Nat) : Int)), .is (.tmp 10) (VP.int .i64 ((k : Nat) : Int)), .bor (.val ub) (rowsInt d.table)] [] [(0, .is (.tmp 11) (VP.bool (decide (((k : Nat) : Int) < ((d.table.length : Nat) : Int)))))] [] [0, 1, 2, 3, 4, 5] [] [[]] [[]] rfl rfl follow rfl ⟨
    .inl ⟨wants_plain rfl, does_cmp (m := ((k : Nat) : Int)) (n := ((d.table.length : Nat) : Int)) _ _ _ _ _ rfl rfl rfl rfl rfl rfl .i64 (ar_tmp (av_fs 4 rfl)) (ar_tmp (av_fs 3 rfl))⟩,
    trivial⟩ ?_
  refine nx_then ?_
  refine t_seq ?_
  refine t_split 6 rfl (fun hb2 => ?_) (fun hb2 => ?_)
  · have hc2 := of_decide_eq_true hb2
    obtain ⟨x, hx⟩ : ∃ x, d.table[k]? = some x := ⟨_, List.getElem?_eq_getElem (by omega)⟩
    have hxl := hb x (List.mem_of_getElem? hx)
    refine t_skip ?_
    refine nx_then ?_
    refine t_seq ?_
    refine t_block ?_
    refine t_seq ?_
    refine t_pick [5, 5, 0, 1, 2, 3, 4, 6] rfl ?_
    refine b_part (part_row (E := 28) (sz := 1) (n := d.table.length) (Rs := d.table.map rowInt) k (hole_hm hx)) fun ux => ?_
    refine t_region (F := ⟨_, _, _, _, _, _⟩) [.bor (.val ub) (HA.row 28 1 d.table.length ((d.table.map rowInt).set k (HA.of (VP.eq ux true true)))), .bor (.val ux) (R_int x), .bor (.val ub) (rowsInt d.table), .own 7777 (.val v1) (R_ri (d.table.take k)), .is (.tmp 2) (VP.eq v1 true true), .is (.tmp 8) (VP.eq ub true true), .is (.tmp 9) (VP.int .i64 ((d.table.length : Nat) : Int)), .is (.tmp 10) (VP.int .i64 ((k : Nat) : Int)), .is (.tmp 11) (VP.bool (decide (((k : Nat) : Int) < ((d.table.length : Nat) : Int))))] [] [(0, .pt 12 (.row (.val ub) (k * 1))), (1, .is (.tmp 13) (VP.eq ux true true)), (2, .is (.tmp 4) (VP.eq ux true true))] [] [0, 1, 2, 3, 4, 5, 6, 7, 8] [] [[], [0], [0, 1]] [[1, 2], [2], []] rfl rfl follow rfl ⟨
      .inl ⟨wants_plain rfl, does_index (m := k) _ _ Try.underlying60 DagL_size___int rfl rfl rfl rfl rfl _ (by omega) rfl (by omega) (sl_bor (av_fs 0 rfl) (ar_tmp (av_fs 5 rfl))) (ar_tmp (av_fs 7 rfl))⟩,
      .inl ⟨wants_plain rfl, does_loadOne _ DagL_one___int rfl rfl rfl rfl rfl (pt_pt (av_rs 0 0 rfl rfl)) (rds_brow (av_fs 0 rfl) (hq_one (hole_get (by omega))))⟩,
      .inl ⟨wants_plain rfl, does_move _ (.inr rfl) rfl rfl rfl rfl (ar_tmp (av_rs 1 1 rfl rfl))⟩,
      trivial⟩ ?_
    refine nx_then ?_
    refine t_region (F := ⟨_, _, _, _, _, _⟩) [.bor (.val ub) (HA.row 28 1 d.table.length ((d.table.map rowInt).set k (HA.of (VP.eq ux true true)))), .bor (.val ux) (R_int x), .bor (.val ub) (rowsInt d.table), .is (.tmp 8) (VP.eq ub true true), .is (.tmp 9) (VP.int .i64 ((d.table.length : Nat) : Int)), .is (.tmp 10) (VP.int .i64 ((k : Nat) : Int)), .is (.tmp 11) (VP.bool (decide (((k : Nat) : Int) < ((d.table.length : Nat) : Int)))), .pt 12 (.row (.val ub) (k * 1)), .is (.tmp 13) (VP.eq ux true true), .is (.tmp 4) (VP.eq ux true true)] [(4, .own 7777 (.val v1) (R_ri (d.table.take k))), (5, .is (.tmp 2) (VP.eq v1 true true))] [(0, .is (.tmp 14) (VP.eq v1 true true)), (1, .is (.tmp 15) (VP.eq ux true true)), (2, .own 102 (.tmp 16) (HA.of (O_int x))), (4, .own 7777 (.tmp 18) (R_ri ((d.table.take k) ++ [x]))), (5, .eq 2 (.tmp 18))] [(3, 4, .own 103 (.tmp 17) (R_ri ([x])))] [0, 1, 2, 5, 6, 7, 8, 9, 10, 11] [3, 4] [[], [], [1], [1, 2], [0, 1, 2, 3], [0, 1, 2, 3, 4]] [[4, 5], [2, 3, 4, 5], [3, 4, 5], [4, 5], [5], []] rfl rfl follow rfl ⟨
      .inl ⟨wants_plain rfl, does_move _ (.inl rfl) rfl rfl rfl rfl (ar_tmp (av_os 1 5 rfl rfl))⟩,
      .inl ⟨wants_plain rfl, does_move _ (.inl rfl) rfl rfl rfl rfl (ar_tmp (av_fs 9 rfl))⟩,
      .inl ⟨wants_plain rfl, does_callG [] [] [] 102 [0] (dg_CloneInt x (by omega)) rfl DagL_hb_slices_Clone___int_int_ rfl rfl rfl rfl rfl ar_clo (ars_cons (pa_slc (pa_bor (av_fs 1 rfl) (ar_tmp (av_rs 1 1 rfl rfl))) (flat_nil_iff cInt_len (by decide) _)) ars_nil) trivial trivial⟩,
      .inl ⟨wants_plain rfl, does_sliceLit (n := 1) DagL_el_ri rfl (List.replicate 1 (VP.nilS)) (z1_of (fun _ _ => rfl) rfl 1) rfl rfl rfl rfl rfl rfl rfl (.cons 0 [HA.of (O_int x)] none rfl rfl (cv_one rfl (mv_vp (ar_of (av_rs 2 2 rfl rfl)))) (.nil _))⟩,
      .inl ⟨wants_plain rfl, does_append (n := (d.table.take k).length) (m := ([x]).length) DagL_el_ri rfl _ _ rfl rfl rfl rfl rfl (by simp only [List.length_append, List.length_nil, List.length_cons, Nat.zero_add]) (flat_cat (d.table.take k) ([x])) rfl (by have := List.length_take_le k d.table; constructor <;> first | decide | omega | (simp only [List.length_append, List.length_take, List.length_cons, List.length_nil] at *; omega)) (flat_lenH cRi_len _) (flat_allH (fun _ => rfl) cRi_one _) (flat_allH (fun _ => rfl) cRi_nu _) (mv_ownv (av_os 0 4 rfl rfl) (ar_tmp (av_rs 0 0 rfl rfl))) (src_row (av_ms 0 3 4 rfl rfl rfl))⟩,
      .inl ⟨wants_plain rfl, does_eqTmp (k := 18) _ rfl (.inr rfl) rfl rfl rfl rfl rfl⟩,
      trivial⟩ ?_
    refine nx_block ?_
    refine nx_then ?_
    refine t_pick [12, 0, 1, 2, 3, 4, 5, 6, 7, 8, 9, 10, 11, 13, 14] rfl ?_
    refine t_freeze (fz_of _) rfl ?_
    refine t_pick [13, 0, 1, 2, 3, 4, 5, 6, 7, 8, 9, 10, 11, 12, 14] rfl ?_
    refine t_name rfl fun v3 => ?_
    refine t_pick [15, 1, 0, 2, 3, 4, 5, 6, 7, 8, 9, 10, 11, 12, 13, 14] rfl ?_
    refine t_eq ?_
    refine t_region (F := ⟨_, _, _, _, _, _⟩) [.is (.tmp 2) (VP.eq v3 true true), .is (.tmp 18) (VP.eq v3 true true), .own 7777 (.val v3) (R_ri ((d.table.take k) ++ [x])), .is (.tmp 16) (O_int x), .bor (.val ub) (HA.row 28 1 d.table.length ((d.table.map rowInt).set k (HA.of (VP.eq ux true true)))), .bor (.val ux) (R_int x), .bor (.val ub) (rowsInt d.table), .is (.tmp 8) (VP.eq ub true true), .is (.tmp 9) (VP.int .i64 ((d.table.length : Nat) : Int)), .is (.tmp 11) (VP.bool (decide (((k : Nat) : Int) < ((d.table.length : Nat) : Int)))), .pt 12 (.row (.val ub) (k * 1)), .is (.tmp 13) (VP.eq ux true true), .is (.tmp 4) (VP.eq ux true true), .is (.tmp 14) (VP.eq v1 true true), .is (.tmp 15) (VP.eq ux true true)] [(1, .is (.tmp 10) (VP.int .i64 ((k : Nat) : Int)))] [(0, .is (.tmp 19) (VP.int .i64 (((k + 1) : Nat) : Int))), (1, .is (.tmp 10) (VP.int .i64 (((k + 1) : Nat) : Int)))] [] [0, 1, 2, 3, 4, 5, 6, 7, 8, 10, 11, 12, 13, 14, 15] [9] [[], [0]] [[1], []] rfl rfl follow rfl ⟨
      .inl ⟨wants_plain rfl, does_addE (m := ((k : Nat) : Int)) (n := 1) (x := (((k + 1) : Nat) : Int)) (by omega) _ _ _ _ rfl rfl rfl rfl rfl (by omega) (ar_tmp (av_os 0 1 rfl rfl)) (ar_const (fun _ _ => rfl))⟩,
      .inl ⟨wants_plain rfl, does_move _ (.inl rfl) rfl rfl rfl rfl (ar_tmp (av_rs 0 0 rfl rfl))⟩,
      trivial⟩ ?_
    refine t_pick [2, 0, 1, 3, 4, 5, 6, 7, 8, 9, 10, 11, 12, 13, 14, 15, 16] rfl ?_
    refine t_untmp rfl ?_
    refine t_weak (R' := R_ri (d.table.take (k + 1))) (fun _ _ _ _ h => by rw [← take_snoc hx]; exact h) rfl ?_
    refine nx_round (τ := {k : Nat // k ≤ d.table.length}) (I := fun ⟨k, _⟩ => [.is (.tmp 8) (VP.eq ub true true), .is (.tmp 9) (VP.int .i64 ((d.table.length : Nat) : Int)), .is (.tmp 10) (VP.int .i64 ((k : Nat) : Int)), .own 7777 (.tmp 2) (R_ri (d.table.take k)), .bor (.val ub) (rowsInt d.table)]) (μ := fun ⟨k, _⟩ => d.table.length - k) (s := ⟨k, hk⟩) (⟨k + 1, by omega⟩) ?_ [6, 7, 15, 0, 5] ?_
    · exact (show d.table.length - (k + 1) < d.table.length - k by omega)
    · exact rfl
  · have hc2 := of_decide_eq_false hb2
    refine t_exit ?_
    refine ex_then ?_
    refine ex_then ?_
    refine ex_block ?_
    refine nx_then ?_
    refine t_pick [0, 1, 5] rfl ?_
    refine t_seq ?_
    refine t_region (F := ⟨_, _, _, _, _, _⟩) [.own 7777 (.val v1) (R_ri (d.table.take k)), .bor (.val ub) (rowsInt d.table)] [(1, .is (.tmp 2) (VP.eq v1 true true))] [(0, .is (.tmp 20) (VP.eq v1 true true)), (1, .is (.tmp 2) (VP.eq v1 true true))] [] [0, 2] [1] [[], [0]] [[1], []] rfl rfl follow rfl ⟨
      .inl ⟨wants_plain rfl, does_move _ (.inl rfl) rfl rfl rfl rfl (ar_tmp (av_os 0 1 rfl rfl))⟩,
      .inl ⟨wants_plain rfl, does_move _ (.inr rfl) rfl rfl rfl rfl (ar_tmp (av_rs 0 0 rfl rfl))⟩,
      trivial⟩ ?_
    refine t_pick [0, 1, 3] rfl ?_
    refine nx_then ?_
    refine t_weak (R' := R_ri d.table) (fun _ _ _ _ h => by rw [List.take_of_length_le (show d.table.length ≤ k by omega)] at h; exact h) rfl ?_
    refine t_ret ?_
    exact rt_post [R_ri d.table] [[7777]] [] [] rfl ⟨(rv_ownv 0 2 rfl rfl), trivial⟩ (by decide) rfl rfl

end O
end Go.Proofs.Ytapmngmpomhjmaa
