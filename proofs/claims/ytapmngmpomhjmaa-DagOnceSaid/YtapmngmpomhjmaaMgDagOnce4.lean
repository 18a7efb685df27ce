/- Part of the proof that a law returns true for all that comes in, and that what came in reads as it did. No condition. -/
import Derived.Test.YtapmngmpomhjmaaMgDagOnce3
/- The sorts that kids must have. -/
namespace Go.Proofs.Ytapmngmpomhjmaa
open Go.RowKit
namespace O
theorem DagF_f_api_Term_0 : fieldAt Try.prog 30 0 0 = true := by kernel_rfl
theorem DagF_one_int : oneTy Try.prog 3 = true := by kernel_rfl
theorem DagF_f_dag_Arena_1 : fieldAt Try.prog 64 1 1 = true := by kernel_rfl
theorem DagF_one___api_Fun : oneTy Try.prog 55 = true := by kernel_rfl
theorem DagF_f_api_Term_1 : fieldAt Try.prog 30 1 1 = true := by kernel_rfl
theorem DagF_agg_api_Fun : aggTy Try.prog 38 3 = true := by kernel_rfl
theorem DagF_size_api_Fun : ∀ w, (sizeOf 38).run Try.prog w = .ok 3 w := run_sizeAgg DagF_agg_api_Fun
theorem DagF_f_api_Fun_1 : fieldAt Try.prog 38 1 1 = true := by kernel_rfl
theorem DagF_one___int : oneTy Try.prog 28 = true := by kernel_rfl
abbrev DagF_p48_2 : Tab2 := [[], [0], [0, 1], [0, 1, 2], [], [4], [0, 1, 2, 3, 4, 5], [0, 1, 2, 3, 4, 5, 6], [0, 1, 2, 3, 4, 5, 6, 7], [0, 1, 2, 3, 4, 5, 6, 7, 8]]
abbrev DagF_s48_2 : Tab2 := [[1, 2, 3, 6, 7, 8, 9], [2, 3, 6, 7, 8, 9], [3, 6, 7, 8, 9], [6, 7, 8, 9], [5, 6, 7, 8, 9], [6, 7, 8, 9], [7, 8, 9], [8, 9], [9], []]
theorem DagF_f_api_Term_2 : fieldAt Try.prog 30 2 2 = true := by kernel_rfl
theorem DagF_el_int : Elem Try.prog 28 3 (.int .i64 0) 1 8 := Elem.mk Try.underlying28 (by kernel_rfl) rfl (by decide)
abbrev DagF_p48_3 : Tab2 := [[], [0], [0, 1], [0, 1, 2], [0, 1, 2, 3]]
abbrev DagF_s48_3 : Tab2 := [[1, 2, 3, 4], [2, 3, 4], [3, 4], [4], []]
abbrev DagF_p48_7 : Tab2 := [[], [0], [0, 1], [0, 1, 2], [0, 1, 2, 3], [0, 1, 2, 3, 4], [0, 1, 2, 3, 4, 5], [0, 1, 2, 3, 4, 5, 6]]
abbrev DagF_s48_7 : Tab2 := [[1, 2, 3, 4, 5, 6, 7], [2, 3, 4, 5, 6, 7], [3, 4, 5, 6, 7], [4, 5, 6, 7], [5, 6, 7], [6, 7], [7], []]
theorem DagF_f_dag_Arena_3 : fieldAt Try.prog 64 3 3 = true := by kernel_rfl
theorem DagF_size_int : ∀ w, (sizeOf 3).run Try.prog w = .ok 1 w := run_sizeOne DagF_one_int
abbrev DagF_p48_8 : Tab2 := [[], [], [], [2], [2, 3], [2, 3, 4], [], [6], [6, 7], [6, 7, 8], [2, 3, 4, 5, 6, 7, 8, 9], [2, 3, 4, 5, 6, 7, 8, 9, 10], [0, 1, 2, 3, 4, 5, 6, 7, 8, 9, 10, 11], [0, 1, 2, 3, 4, 5, 6, 7, 8, 9, 10, 11, 12]]
abbrev DagF_s48_8 : Tab2 := [[12, 13], [12, 13], [3, 4, 5, 10, 11, 12, 13], [4, 5, 10, 11, 12, 13], [5, 10, 11, 12, 13], [10, 11, 12, 13], [7, 8, 9, 10, 11, 12, 13], [8, 9, 10, 11, 12, 13], [9, 10, 11, 12, 13], [10, 11, 12, 13], [11, 12, 13], [12, 13], [13], []]
abbrev DagF_p48_9 : Tab2 := [[], [0], [0, 1], [0, 1, 2], [0, 1, 2, 3], [0, 1, 2, 3, 4], [0, 1, 2, 3, 4, 5], [0, 1, 2, 3, 4, 5, 6], [0, 1, 2, 3, 4, 5, 6, 7]]
abbrev DagF_s48_9 : Tab2 := [[1, 2, 3, 4, 5, 6, 7, 8], [2, 3, 4, 5, 6, 7, 8], [3, 4, 5, 6, 7, 8], [4, 5, 6, 7, 8], [5, 6, 7, 8], [6, 7, 8], [7, 8], [8], []]
abbrev DagF_p48_10 : Tab2 := [[], [], [], [2], [2, 3], [2, 3, 4], [], [6], [6, 7], [6, 7, 8], [2, 3, 4, 5, 6, 7, 8, 9], [2, 3, 4, 5, 6, 7, 8, 9, 10], [0, 1, 2, 3, 4, 5, 6, 7, 8, 9, 10, 11], [0, 1, 2, 3, 4, 5, 6, 7, 8, 9, 10, 11, 12]]
abbrev DagF_s48_10 : Tab2 := [[12, 13], [12, 13], [3, 4, 5, 10, 11, 12, 13], [4, 5, 10, 11, 12, 13], [5, 10, 11, 12, 13], [10, 11, 12, 13], [7, 8, 9, 10, 11, 12, 13], [8, 9, 10, 11, 12, 13], [9, 10, 11, 12, 13], [10, 11, 12, 13], [11, 12, 13], [12, 13], [13], []]
set_option maxRecDepth 100000 in
set_option maxHeartbeats 4000000 in
theorem da_wants {v : Value} {d : ArD} (t : TermD) (hfn : t.op = 3 → 0 ≤ t.fn ∧ t.fn < d.funs.length) (hk : ∀ k ∈ t.kids, 0 ≤ k ∧ k < d.of_.length) (h10 : t.op = 10 → 2 ≤ t.kids.length) (hl : t.kids.length ≤ 1000000) : SpecO Try.prog 48 [.vp (VP.ptr v), .vp (VP.agg [VP.int .i64 t.op, VP.int .i64 t.fn, O_int t.kids, VP.str t.num])] [(v, Arn d)] [] [] (HA.of (O_int (d.wants t))) := by
  refine spec_of 80 Try.func48 rfl Try.ntmps48 rfl fun w0 S0 Z0 Bf => ?_
  refine t_pick [2, 0, 1] rfl ?_
  refine b_part (part_cells (T' := 64) (Rs := [R_sort d.sorts, R_fun d.funs, R_term d.terms, R_int d.of_, R_u64 d.hashes, rowsInt d.table, HA.of (VP.int .i64 d.most)]) 0 rfl) fun us => ?_
  refine b_part (part_cells (T' := 64) (Rs := [HA.of (VP.eq us true true), R_fun d.funs, R_term d.terms, R_int d.of_, R_u64 d.hashes, rowsInt d.table, HA.of (VP.int .i64 d.most)]) 1 rfl) fun uf => ?_
  refine b_part (part_cells (T' := 64) (Rs := [HA.of (VP.eq us true true), HA.of (VP.eq uf true true), R_term d.terms, R_int d.of_, R_u64 d.hashes, rowsInt d.table, HA.of (VP.int .i64 d.most)]) 2 rfl) fun ut => ?_
  refine b_part (part_cells (T' := 64) (Rs := [HA.of (VP.eq us true true), HA.of (VP.eq uf true true), HA.of (VP.eq ut true true), R_int d.of_, R_u64 d.hashes, rowsInt d.table, HA.of (VP.int .i64 d.most)]) 3 rfl) fun uo => ?_
  refine b_part (part_cells (T' := 64) (Rs := [HA.of (VP.eq us true true), HA.of (VP.eq uf true true), HA.of (VP.eq ut true true), HA.of (VP.eq uo true true), R_u64 d.hashes, rowsInt d.table, HA.of (VP.int .i64 d.most)]) 4 rfl) fun uh => ?_
  refine b_part (part_cells (T' := 64) (Rs := [HA.of (VP.eq us true true), HA.of (VP.eq uf true true), HA.of (VP.eq ut true true), HA.of (VP.eq uo true true), HA.of (VP.eq uh true true), rowsInt d.table, HA.of (VP.int .i64 d.most)]) 5 rfl) fun ub => ?_
  refine t_seq ?_
  refine t_rg [.bor (.val v) (ArO us uf ut uo uh ub d.most), .bor (.val ub) (rowsInt d.table), .bor (.val uh) (R_u64 d.hashes), .bor (.val uo) (R_int d.of_), .bor (.val ut) (R_term d.terms), .bor (.val uf) (R_fun d.funs), .bor (.val us) (R_sort d.sorts), .is (.tmp 0) (VP.ptr v), .is (.tmp 1) (VP.agg [VP.int .i64 t.op, VP.int .i64 t.fn, O_int t.kids, VP.str t.num])] [] [(0, .own 101 (.tmp 3) (B_term t)), (1, .is (.tmp 4) (VP.nilS))] [] [0, 1, 2, 3, 4, 5, 6, 7, 8] [] [[], []] [[], []] rfl rfl follow rfl ⟨
    wp rfl (does_box (Rs := [HA.of (VP.int .i64 t.op), HA.of (VP.int .i64 t.fn), HA.of (O_int t.kids), HA.of (VP.str t.num)]) _ rfl rfl rfl rfl rfl rfl (cv_agg (ps := [VP.int .i64 t.op, VP.int .i64 t.fn, O_int t.kids, VP.str t.num]) (ar_tmp (av_fs 8 rfl)))),
    wp rfl (does_move _ (.inr rfl) rfl rfl rfl rfl (ar_const (fun _ _ => rfl))),
    trivial⟩ ?_
  refine t_pick [0, 1, 2, 3, 4, 5, 6, 7, 9, 10] rfl ?_
  refine nx_then ?_
  refine t_pick [8, 0, 1, 2, 3, 4, 5, 6, 7, 9] rfl ?_
  refine t_nameP rfl fun c3 => ?_
  refine t_seq ?_
  refine t_seq ?_
  refine t_rg [.own 101 (.val c3) (B_term t), .is (.tmp 3) (VP.ptr c3), .bor (.val v) (ArO us uf ut uo uh ub d.most), .bor (.val ub) (rowsInt d.table), .bor (.val uh) (R_u64 d.hashes), .bor (.val uo) (R_int d.of_), .bor (.val ut) (R_term d.terms), .bor (.val uf) (R_fun d.funs), .bor (.val us) (R_sort d.sorts), .is (.tmp 0) (VP.ptr v), .is (.tmp 4) (VP.nilS)] [] [(0, .pt 7 (.blk (.val c3) 0)), (1, .is (.tmp 8) (VP.int .i64 t.op)), (2, .is (.tmp 9) (VP.bool (t.op == 3)))] [] [0, 1, 2, 3, 4, 5, 6, 7, 8, 9, 10] [] [[], [0], [0, 1]] [[1, 2], [2], []] rfl rfl follow rfl ⟨
    wp rfl (does_field _ _ _ 0 DagF_f_api_Term_0 rfl rfl rfl rfl rfl rfl (pt_ptr (ar_tmp (av_fs 1 rfl)))),
    wp rfl (does_loadOne _ DagF_one_int rfl rfl rfl rfl rfl (pt_pt (av_rs 0 0 rfl rfl)) (rds_box (off := 0) (av_fs 0 rfl) (hq_one rfl))),
    wp rfl (does_cmp (m := t.op) (n := 3) _ _ _ _ _ rfl rfl rfl rfl rfl rfl .i64 (ar_tmp (av_rs 1 1 rfl rfl)) (ar_const (fun _ _ => rfl))),
    trivial⟩ ?_
  refine t_pick [0, 1, 2, 3, 4, 5, 6, 7, 8, 9, 10, 13] rfl ?_
  refine nx_then ?_
  refine t_split 11 rfl (fun hb1 => ?_) (fun hb1 => ?_)
  · have hc1 := eq_of_beq hb1
    have hf3 := hfn (eq_of_beq hb1)
    refine t_seq ?_
    refine t_rg [.own 101 (.val c3) (B_term t), .is (.tmp 3) (VP.ptr c3), .bor (.val v) (ArO us uf ut uo uh ub d.most), .bor (.val ub) (rowsInt d.table), .bor (.val uh) (R_u64 d.hashes), .bor (.val uo) (R_int d.of_), .bor (.val ut) (R_term d.terms), .bor (.val uf) (R_fun d.funs), .bor (.val us) (R_sort d.sorts), .is (.tmp 0) (VP.ptr v), .is (.tmp 9) (VP.bool (t.op == 3))] [(9, .is (.tmp 4) (VP.nilS))] [(0, .is (.tmp 10) (VP.ptr v)), (1, .is (.tmp 11) (VP.ptr v)), (2, .pt 12 (.blk (.val v) 1)), (3, .is (.tmp 13) (VP.eq uf true true)), (4, .pt 14 (.blk (.val c3) 1)), (5, .is (.tmp 15) (VP.int .i64 t.fn)), (6, .pt 16 (.row (.val uf) (t.fn.toNat * 3))), (7, .pt 17 (.row (.val uf) ((t.fn.toNat * 3) + 1))), (8, .is (.tmp 18) (O_int ((d.fn_ t.fn).args))), (9, .is (.tmp 4) (O_int ((d.fn_ t.fn).args)))] [] [0, 1, 2, 3, 4, 5, 6, 7, 8, 9, 11] [10] DagF_p48_2 DagF_s48_2 rfl rfl follow rfl ⟨
      wp rfl (does_move _ (.inl rfl) rfl rfl rfl rfl (ar_tmp (av_fs 9 rfl))),
      wp rfl (does_nil _ rfl rfl rfl rfl rfl (ar_tmp (av_rs 0 0 rfl rfl))),
      wp rfl (does_field _ _ _ 1 DagF_f_dag_Arena_1 rfl rfl rfl rfl rfl rfl (pt_ptr (ar_tmp (av_rs 1 1 rfl rfl)))),
      wp rfl (does_loadOne _ DagF_one___api_Fun rfl rfl rfl rfl rfl (pt_pt (av_rs 2 2 rfl rfl)) (rds_bbox (off := 1) (av_fs 2 rfl) (hq_one rfl))),
      wp rfl (does_field _ _ _ 1 DagF_f_api_Term_1 rfl rfl rfl rfl rfl rfl (pt_ptr (ar_tmp (av_fs 1 rfl)))),
      wp rfl (does_loadOne _ DagF_one_int rfl rfl rfl rfl rfl (pt_pt (av_rs 4 4 rfl rfl)) (rds_box (off := 1) (av_fs 0 rfl) (hq_one rfl))),
      wp rfl (does_index (m := t.fn.toNat) _ _ Try.underlying55 DagF_size_api_Fun rfl rfl rfl rfl rfl _ (by omega) rfl (by omega) (sl_bor (av_fs 7 rfl) (ar_tmp (av_rs 3 3 rfl rfl))) (ar_int_eq (by omega) (ar_tmp (av_rs 5 5 rfl rfl)))),
      wp rfl (does_field _ _ _ 1 DagF_f_api_Fun_1 rfl rfl rfl rfl rfl rfl (pt_pt (av_rs 6 6 rfl rfl))),
      wp rfl (does_loadOne _ DagF_one___int rfl rfl rfl rfl rfl (pt_pt (av_rs 7 7 rfl rfl)) (rds_brow (av_fs 7 rfl) (hq_flat1 cFun_len (at_getD (by omega)) 1 (by omega) rfl))),
      wp rfl (does_move _ (.inr rfl) rfl rfl rfl rfl (ar_tmp (av_rs 8 8 rfl rfl))),
      trivial⟩ ?_
    refine t_pick [0, 1, 2, 3, 4, 5, 6, 7, 8, 9, 20] rfl ?_
    refine nx_then ?_
    refine t_pick [10, 0, 1, 2, 3, 4, 5, 6, 7, 8, 9] rfl ?_
    refine t_slot (y := O_int (d.wants t)) (fun _ _ _ h => by unfold ArD.wants; rw [hb1]; exact h) ?_
    refine t_ret ?_
    refine rt_then ?_
    exact rt_post [HA.of (O_int (d.wants t))] [[]] [] [] rfl ⟨(rv_vp 0 rfl), trivial⟩ (by decide) rfl rfl
  · have hc1 := ne_of_beq_false hb1
    refine t_skip ?_
    refine nx_then ?_
    refine t_seq ?_
    refine t_rg [.own 101 (.val c3) (B_term t), .is (.tmp 3) (VP.ptr c3), .bor (.val v) (ArO us uf ut uo uh ub d.most), .bor (.val ub) (rowsInt d.table), .bor (.val uh) (R_u64 d.hashes), .bor (.val uo) (R_int d.of_), .bor (.val ut) (R_term d.terms), .bor (.val uf) (R_fun d.funs), .bor (.val us) (R_sort d.sorts), .is (.tmp 0) (VP.ptr v), .is (.tmp 4) (VP.nilS), .is (.tmp 9) (VP.bool (t.op == 3))] [] [(0, .pt 19 (.blk (.val c3) 2)), (1, .is (.tmp 20) (O_int t.kids)), (2, .is (.tmp 21) (VP.int .i64 ((t.kids.length : Nat) : Int))), (3, .own 102 (.tmp 22) (R_int (List.replicate t.kids.length (0 : Int)))), (4, .eq 5 (.tmp 22))] [] [0, 1, 2, 3, 4, 5, 6, 7, 8, 9, 10, 11] [] DagF_p48_3 DagF_s48_3 rfl rfl follow rfl ⟨
      wp rfl (does_field _ _ _ 2 DagF_f_api_Term_2 rfl rfl rfl rfl rfl rfl (pt_ptr (ar_tmp (av_fs 1 rfl)))),
      wp rfl (does_loadOne _ DagF_one___int rfl rfl rfl rfl rfl (pt_pt (av_rs 0 0 rfl rfl)) (rds_box (off := 2) (av_fs 0 rfl) (hq_one rfl))),
      wp rfl (does_len _ _ (by kernel_rfl) rfl rfl rfl rfl rfl (sl_ro (av_rs 1 1 rfl rfl) (flat_nil_iff cInt_len (by decide) _))),
      wp rfl (does_make (n := t.kids.length) (ps := ((List.replicate t.kids.length (0 : Int))).flatMap cInt) DagF_el_int rfl _ _ rfl rfl rfl rfl rfl (by simp) (by rw [flat_len cInt_len]; simp) (mk_zeros (f := cInt) (x := VP.int .i64 (0 : Int)) (z := (.int .i64 0)) (a := (0 : Int)) (fun _ _ => rfl) rfl rfl _) (by constructor <;> first | decide | omega) (ar_tmp (av_rs 2 2 rfl rfl)) (ar_tmp (av_rs 2 2 rfl rfl))),
      wp rfl (does_eqTmp (k := 22) _ rfl (.inr rfl) rfl rfl rfl rfl rfl),
      trivial⟩ ?_
    refine t_pick [0, 1, 2, 3, 4, 5, 6, 7, 8, 9, 10, 15, 16] rfl ?_
    refine nx_then ?_
    refine t_pick [11, 0, 1, 2, 3, 4, 5, 6, 7, 8, 9, 10, 12] rfl ?_
    refine t_name rfl fun v2 => ?_
    refine t_pick [13, 1, 0, 2, 3, 4, 5, 6, 7, 8, 9, 10, 11, 12] rfl ?_
    refine t_eq ?_
    refine t_pick [0, 2, 3, 4, 5, 6, 7, 8, 9, 10, 11, 12, 13] rfl ?_
    refine t_seq ?_
    refine t_seq ?_
    refine t_rg [.is (.tmp 5) (VP.eq v2 true true), .own 102 (.val v2) (R_int (List.replicate t.kids.length (0 : Int))), .own 101 (.val c3) (B_term t), .is (.tmp 3) (VP.ptr c3), .bor (.val v) (ArO us uf ut uo uh ub d.most), .bor (.val ub) (rowsInt d.table), .bor (.val uh) (R_u64 d.hashes), .bor (.val uo) (R_int d.of_), .bor (.val ut) (R_term d.terms), .bor (.val uf) (R_fun d.funs), .bor (.val us) (R_sort d.sorts), .is (.tmp 0) (VP.ptr v), .is (.tmp 4) (VP.nilS)] [] [(0, .is (.tmp 23) (VP.eq v2 true true)), (1, .is (.tmp 24) (VP.int .i64 (((List.replicate t.kids.length (0 : Int)).length : Nat) : Int))), (2, .is (.tmp 25) (VP.int .i64 0))] [] [0, 1, 2, 3, 4, 5, 6, 7, 8, 9, 10, 11, 12] [] [[], [0], []] [[1], [], []] rfl rfl follow rfl ⟨
      wp rfl (does_move _ (.inl rfl) rfl rfl rfl rfl (ar_tmp (av_fs 0 rfl))),
      wp rfl (does_len _ _ (by kernel_rfl) rfl rfl rfl rfl rfl (sl_own (av_fs 1 rfl) (ar_tmp (av_rs 0 0 rfl rfl)))),
      wp rfl (does_move _ (.inl rfl) rfl rfl rfl rfl (ar_const (fun _ _ => rfl))),
      trivial⟩ ?_
    refine t_pick [0, 1, 2, 3, 4, 5, 6, 7, 8, 9, 10, 11, 12, 14, 15] rfl ?_
    refine nx_then ?_
    refine t_block ?_
    refine t_pick [1, 0, 2, 3, 4, 5, 6, 7, 8, 9, 10, 11, 12, 13, 14] rfl ?_
    refine t_untmp rfl ?_
    refine t_weak (R' := R_int (d.wantK t 0)) (fun _ _ _ _ h => by rw [← wantK_0]; exact h) rfl ?_
    refine t_pick [12, 0, 1, 2, 3, 4, 5, 6, 7, 8, 9, 10, 11, 13] rfl ?_
    refine t_slot (y := VP.int .i64 ((t.kids.length : Nat) : Int)) (fun _ _ _ h => by rw [List.length_replicate] at h; exact h) ?_
    refine t_pick [13, 0, 1, 2, 3, 4, 5, 6, 7, 8, 9, 10, 11, 12] rfl ?_
    refine t_slot (y := VP.int .i64 ((0 : Nat) : Int)) (fun _ _ _ h => h) ?_
    refine t_loop (τ := {i : Nat // i ≤ t.kids.length}) (fun ⟨i, _⟩ => [.is (.tmp 0) (VP.ptr v), .is (.tmp 3) (VP.ptr c3), .is (.tmp 24) (VP.int .i64 ((t.kids.length : Nat) : Int)), .is (.tmp 25) (VP.int .i64 ((i : Nat) : Int)), .own 102 (.tmp 5) (R_int (d.wantK t i)), .own 101 (.val c3) (B_term t), .bor (.val v) (ArO us uf ut uo uh ub d.most), .bor (.val us) (R_sort d.sorts), .bor (.val uf) (R_fun d.funs), .bor (.val ut) (R_term d.terms), .bor (.val uo) (R_int d.of_), .bor (.val uh) (R_u64 d.hashes), .bor (.val ub) (rowsInt d.table)]) (fun ⟨i, _⟩ => t.kids.length - i) (⟨0, Nat.zero_le _⟩) [12, 4, 1, 0, 2, 3, 5, 11, 10, 9, 8, 7, 6] rfl ?_
    rintro ⟨i, hi⟩
    refine t_seq ?_
    refine t_pick [4, 0, 1, 2, 3, 5, 6, 7, 8, 9, 10, 11, 12] rfl ?_
    refine t_name rfl fun v3 => ?_
    refine t_rg [.own 102 (.val v3) (R_int (d.wantK t i)), .is (.tmp 5) (VP.eq v3 true true), .is (.tmp 0) (VP.ptr v), .is (.tmp 3) (VP.ptr c3), .is (.tmp 24) (VP.int .i64 ((t.kids.length : Nat) : Int)), .is (.tmp 25) (VP.int .i64 ((i : Nat) : Int)), .own 101 (.val c3) (B_term t), .bor (.val v) (ArO us uf ut uo uh ub d.most), .bor (.val us) (R_sort d.sorts), .bor (.val uf) (R_fun d.funs), .bor (.val ut) (R_term d.terms), .bor (.val uo) (R_int d.of_), .bor (.val uh) (R_u64 d.hashes), .bor (.val ub) (rowsInt d.table)] [] [(0, .is (.tmp 26) (VP.bool (decide (((i : Nat) : Int) < ((t.kids.length : Nat) : Int)))))] [] [0, 1, 2, 3, 4, 5, 6, 7, 8, 9, 10, 11, 12, 13] [] [[]] [[]] rfl rfl follow rfl ⟨
      wp rfl (does_cmp (m := ((i : Nat) : Int)) (n := ((t.kids.length : Nat) : Int)) _ _ _ _ _ rfl rfl rfl rfl rfl rfl .i64 (ar_tmp (av_fs 5 rfl)) (ar_tmp (av_fs 4 rfl))),
      trivial⟩ ?_
    refine nx_then ?_
    refine t_seq ?_
    refine t_split 14 rfl (fun hb4 => ?_) (fun hb4 => ?_)
    · have hc4 := of_decide_eq_true hb4
      have hk0 := hk _ (kid_mem (t := t) (i := 0) (by omega))
      have hwl := wantK_len (d := d) (t := t) (k := i)
      refine t_skip ?_
      refine nx_then ?_
      refine t_seq ?_
      refine t_block ?_
      refine t_seq ?_
      refine t_rg [.own 102 (.val v3) (R_int (d.wantK t i)), .is (.tmp 5) (VP.eq v3 true true), .is (.tmp 0) (VP.ptr v), .is (.tmp 3) (VP.ptr c3), .is (.tmp 24) (VP.int .i64 ((t.kids.length : Nat) : Int)), .is (.tmp 25) (VP.int .i64 ((i : Nat) : Int)), .own 101 (.val c3) (B_term t), .bor (.val v) (ArO us uf ut uo uh ub d.most), .bor (.val us) (R_sort d.sorts), .bor (.val uf) (R_fun d.funs), .bor (.val ut) (R_term d.terms), .bor (.val uo) (R_int d.of_), .bor (.val uh) (R_u64 d.hashes), .bor (.val ub) (rowsInt d.table), .is (.tmp 26) (VP.bool (decide (((i : Nat) : Int) < ((t.kids.length : Nat) : Int))))] [] [(0, .is (.tmp 27) (VP.int .i64 ((i : Nat) : Int))), (1, .is (.tmp 6) (VP.int .i64 ((i : Nat) : Int)))] [] [0, 1, 2, 3, 4, 5, 6, 7, 8, 9, 10, 11, 12, 13, 14] [] [[], [0]] [[1], []] rfl rfl follow rfl ⟨
        wp rfl (does_move _ (.inl rfl) rfl rfl rfl rfl (ar_tmp (av_fs 5 rfl))),
        wp rfl (does_move _ (.inr rfl) rfl rfl rfl rfl (ar_tmp (av_rs 0 0 rfl rfl))),
        trivial⟩ ?_
      refine nx_then ?_
      refine t_block ?_
      refine t_seq ?_
      rcases Bool.eq_false_or_eq_true (t.op == 10) with hb5 | hb5
      · have hc5 := eq_of_beq hb5
        have h2 := h10 (eq_of_beq hb5)
        have hk1 := hk _ (kid_mem (t := t) (i := 1) (by omega))
        refine t_rg [.own 102 (.val v3) (R_int (d.wantK t i)), .is (.tmp 5) (VP.eq v3 true true), .is (.tmp 0) (VP.ptr v), .is (.tmp 3) (VP.ptr c3), .is (.tmp 24) (VP.int .i64 ((t.kids.length : Nat) : Int)), .is (.tmp 25) (VP.int .i64 ((i : Nat) : Int)), .own 101 (.val c3) (B_term t), .bor (.val v) (ArO us uf ut uo uh ub d.most), .bor (.val us) (R_sort d.sorts), .bor (.val uf) (R_fun d.funs), .bor (.val ut) (R_term d.terms), .bor (.val uo) (R_int d.of_), .bor (.val uh) (R_u64 d.hashes), .bor (.val ub) (rowsInt d.table), .is (.tmp 26) (VP.bool (decide (((i : Nat) : Int) < ((t.kids.length : Nat) : Int)))), .is (.tmp 27) (VP.int .i64 ((i : Nat) : Int)), .is (.tmp 6) (VP.int .i64 ((i : Nat) : Int))] [] [(0, .pt 29 (.blk (.val c3) 0)), (1, .is (.tmp 30) (VP.int .i64 t.op)), (2, .is (.tmp 31) (VP.bool (t.op == 10))), (3, .is (.tmp 32) (VP.bool (t.op == 10))), (4, .is (.tmp 33) (VP.int .i64 ((i : Nat) : Int))), (5, .is (.tmp 34) (VP.bool (decide (((i : Nat) : Int) > 0)))), (6, .is (.tmp 35) (VP.bool (decide (((i : Nat) : Int) > 0)))), (7, .is (.tmp 28) (VP.bool (decide (((i : Nat) : Int) > 0))))] [] [0, 1, 2, 3, 4, 5, 6, 7, 8, 9, 10, 11, 12, 13, 14, 15, 16] [] DagF_p48_7 DagF_s48_7 rfl rfl follow rfl ⟨
          wp rfl (does_field _ _ _ 0 DagF_f_api_Term_0 rfl rfl rfl rfl rfl rfl (pt_ptr (ar_tmp (av_fs 3 rfl)))),
          wp rfl (does_loadOne _ DagF_one_int rfl rfl rfl rfl rfl (pt_pt (av_rs 0 0 rfl rfl)) (rds_box (off := 0) (av_fs 6 rfl) (hq_one rfl))),
          wp rfl (does_cmp (m := t.op) (n := 10) _ _ _ _ _ rfl rfl rfl rfl rfl rfl .i64 (ar_tmp (av_rs 1 1 rfl rfl)) (ar_const (fun _ _ => rfl))),
          wp rfl (does_move _ (.inl rfl) rfl rfl rfl rfl (ar_tmp (av_rs 2 2 rfl rfl))),
          .inl ⟨wants_guard true rfl rfl rfl (av_bool hb5 (av_rs 3 3 rfl rfl)), does_move _ (.inl rfl) rfl rfl rfl rfl (ar_tmp (av_fs 16 rfl))⟩,
          .inl ⟨wants_guard true rfl rfl rfl (av_bool hb5 (av_rs 3 3 rfl rfl)), does_cmp (m := ((i : Nat) : Int)) (n := 0) _ _ _ _ _ rfl rfl rfl rfl rfl rfl .i64 (ar_tmp (av_rs 4 4 rfl rfl)) (ar_const (fun _ _ => rfl))⟩,
          wp rfl (does_pick true _ _ _ rfl rfl rfl rfl rfl (ar_tmp (av_bool hb5 (av_rs 3 3 rfl rfl))) (ar_tmp (av_rs 5 5 rfl rfl))),
          wp rfl (does_move _ (.inr rfl) rfl rfl rfl rfl (ar_tmp (av_rs 6 6 rfl rfl))),
          trivial⟩ ?_
        refine nx_then ?_
        refine t_split 24 rfl (fun hb6 => ?_) (fun hb6 => ?_)
        · have hc6 := of_decide_eq_true hb6
          refine t_rg [.is (.tmp 5) (VP.eq v3 true true), .is (.tmp 0) (VP.ptr v), .is (.tmp 3) (VP.ptr c3), .is (.tmp 24) (VP.int .i64 ((t.kids.length : Nat) : Int)), .is (.tmp 25) (VP.int .i64 ((i : Nat) : Int)), .own 101 (.val c3) (B_term t), .bor (.val v) (ArO us uf ut uo uh ub d.most), .bor (.val us) (R_sort d.sorts), .bor (.val uf) (R_fun d.funs), .bor (.val ut) (R_term d.terms), .bor (.val uo) (R_int d.of_), .bor (.val uh) (R_u64 d.hashes), .bor (.val ub) (rowsInt d.table), .is (.tmp 26) (VP.bool (decide (((i : Nat) : Int) < ((t.kids.length : Nat) : Int)))), .is (.tmp 27) (VP.int .i64 ((i : Nat) : Int)), .is (.tmp 6) (VP.int .i64 ((i : Nat) : Int)), .pt 29 (.blk (.val c3) 0), .is (.tmp 30) (VP.int .i64 t.op), .is (.tmp 31) (VP.bool (t.op == 10)), .is (.tmp 32) (VP.bool (t.op == 10)), .is (.tmp 33) (VP.int .i64 ((i : Nat) : Int)), .is (.tmp 34) (VP.bool (decide (((i : Nat) : Int) > 0))), .is (.tmp 35) (VP.bool (decide (((i : Nat) : Int) > 0))), .is (.tmp 28) (VP.bool (decide (((i : Nat) : Int) > 0)))] [(13, .own 102 (.val v3) (R_int (d.wantK t i)))] [(0, .is (.tmp 36) (VP.eq v3 true true)), (1, .is (.tmp 37) (VP.int .i64 ((i : Nat) : Int))), (2, .is (.tmp 38) (VP.ptr v)), (3, .is (.tmp 39) (VP.ptr v)), (4, .pt 40 (.blk (.val v) 3)), (5, .is (.tmp 41) (VP.eq uo true true)), (6, .pt 42 (.blk (.val c3) 2)), (7, .is (.tmp 43) (O_int t.kids)), (8, .pt 44 (.row (.tmp 43) (1 * 1))), (9, .is (.tmp 45) (VP.int .i64 (kid t 1))), (10, .pt 46 (.row (.val uo) (((kid t 1).toNat) * 1))), (11, .is (.tmp 47) (VP.int .i64 (d.ofk (kid t 1)))), (12, .pt 48 (.row (.val v3) (i * 1))), (13, .own 102 (.val v3) (R_int ((d.wantK t i).set i (d.ofk (kid t 1)))))] [] [1, 2, 3, 4, 5, 6, 7, 8, 9, 10, 11, 12, 13, 14, 15, 16, 17, 18, 19, 20, 21, 22, 23, 24] [0] DagF_p48_8 DagF_s48_8 rfl rfl follow rfl ⟨
            wp rfl (does_move _ (.inl rfl) rfl rfl rfl rfl (ar_tmp (av_fs 0 rfl))),
            wp rfl (does_move _ (.inl rfl) rfl rfl rfl rfl (ar_tmp (av_fs 15 rfl))),
            wp rfl (does_move _ (.inl rfl) rfl rfl rfl rfl (ar_tmp (av_fs 1 rfl))),
            wp rfl (does_nil _ rfl rfl rfl rfl rfl (ar_tmp (av_rs 2 2 rfl rfl))),
            wp rfl (does_field _ _ _ 3 DagF_f_dag_Arena_3 rfl rfl rfl rfl rfl rfl (pt_ptr (ar_tmp (av_rs 3 3 rfl rfl)))),
            wp rfl (does_loadOne _ DagF_one___int rfl rfl rfl rfl rfl (pt_pt (av_rs 4 4 rfl rfl)) (rds_bbox (off := 3) (av_fs 6 rfl) (hq_one rfl))),
            wp rfl (does_field _ _ _ 2 DagF_f_api_Term_2 rfl rfl rfl rfl rfl rfl (pt_ptr (ar_tmp (av_fs 2 rfl)))),
            wp rfl (does_loadOne _ DagF_one___int rfl rfl rfl rfl rfl (pt_pt (av_rs 6 6 rfl rfl)) (rds_box (off := 2) (av_fs 5 rfl) (hq_one rfl))),
            wp rfl (does_index (m := 1) _ _ Try.underlying28 DagF_size_int rfl rfl rfl rfl rfl _ (by omega) rfl (by omega) (sl_ro (av_rs 7 7 rfl rfl) (flat_nil_iff cInt_len (by decide) _)) (ar_int_eq (by omega) (ar_const (fun _ _ => rfl)))),
            wp rfl (does_loadOne _ DagF_one_int rfl rfl rfl rfl rfl (pt_pt (av_rs 8 8 rfl rfl)) (rds_ro (av_rs 7 7 rfl rfl) (hq_flatV1 cInt_len (at_getD (by omega)) 0 (by omega) rfl))),
            wp rfl (does_index (m := (kid t 1).toNat) _ _ Try.underlying28 DagF_size_int rfl rfl rfl rfl rfl _ (by omega) rfl (by omega) (sl_bor (av_fs 10 rfl) (ar_tmp (av_rs 5 5 rfl rfl))) (ar_int_eq (by omega) (ar_tmp (av_rs 9 9 rfl rfl)))),
            wp rfl (does_loadOne _ DagF_one_int rfl rfl rfl rfl rfl (pt_pt (av_rs 10 10 rfl rfl)) (rds_brow (av_fs 10 rfl) (hq_flat1 cInt_len (at_getD (by omega)) 0 (by omega) rfl))),
            wp rfl (does_index (m := i) _ _ Try.underlying28 DagF_size_int rfl rfl rfl rfl rfl _ (by omega) rfl (by omega) (sl_own (av_os 0 13 rfl rfl) (ar_tmp (av_rs 0 0 rfl rfl))) (ar_tmp (av_rs 1 1 rfl rfl))),
            wp rfl (does_storeRow (off := i * 1) (n := (d.wantK t i).length) (Rs := ((d.wantK t i).flatMap cInt).map HA.of) (Qs := (cInt (d.ofk (kid t 1))).map HA.of) _ _ DagF_size_int rfl rfl rfl rfl (by rw [List.length_set]) (flat_put cInt_len (by omega)) (by rw [flat_lenH cInt_len, List.length_map, cInt_len]; omega) rfl (pt_pt (av_rs 12 12 rfl rfl)) (av_os 0 13 rfl rfl) (cv_one rfl (mv_vp (ar_tmp (av_rs 11 11 rfl rfl))))),
            trivial⟩ ?_
          refine nx_block ?_
          refine nx_block ?_
          refine nx_then ?_
          refine t_rg [.is (.tmp 5) (VP.eq v3 true true), .is (.tmp 0) (VP.ptr v), .is (.tmp 3) (VP.ptr c3), .is (.tmp 24) (VP.int .i64 ((t.kids.length : Nat) : Int)), .own 101 (.val c3) (B_term t), .bor (.val v) (ArO us uf ut uo uh ub d.most), .bor (.val us) (R_sort d.sorts), .bor (.val uf) (R_fun d.funs), .bor (.val ut) (R_term d.terms), .bor (.val uo) (R_int d.of_), .bor (.val uh) (R_u64 d.hashes), .bor (.val ub) (rowsInt d.table), .is (.tmp 26) (VP.bool (decide (((i : Nat) : Int) < ((t.kids.length : Nat) : Int)))), .is (.tmp 27) (VP.int .i64 ((i : Nat) : Int)), .is (.tmp 6) (VP.int .i64 ((i : Nat) : Int)), .pt 29 (.blk (.val c3) 0), .is (.tmp 30) (VP.int .i64 t.op), .is (.tmp 31) (VP.bool (t.op == 10)), .is (.tmp 32) (VP.bool (t.op == 10)), .is (.tmp 33) (VP.int .i64 ((i : Nat) : Int)), .is (.tmp 34) (VP.bool (decide (((i : Nat) : Int) > 0))), .is (.tmp 35) (VP.bool (decide (((i : Nat) : Int) > 0))), .is (.tmp 28) (VP.bool (decide (((i : Nat) : Int) > 0))), .is (.tmp 36) (VP.eq v3 true true), .is (.tmp 37) (VP.int .i64 ((i : Nat) : Int)), .is (.tmp 38) (VP.ptr v), .is (.tmp 39) (VP.ptr v), .pt 40 (.blk (.val v) 3), .is (.tmp 41) (VP.eq uo true true), .pt 42 (.blk (.val c3) 2), .is (.tmp 43) (O_int t.kids), .pt 44 (.row (.tmp 43) (1 * 1)), .is (.tmp 45) (VP.int .i64 (kid t 1)), .pt 46 (.row (.val uo) (((kid t 1).toNat) * 1)), .is (.tmp 47) (VP.int .i64 (d.ofk (kid t 1))), .pt 48 (.row (.val v3) (i * 1)), .own 102 (.val v3) (R_int ((d.wantK t i).set i (d.ofk (kid t 1))))] [(1, .is (.tmp 25) (VP.int .i64 ((i : Nat) : Int)))] [(0, .is (.tmp 78) (VP.int .i64 (((i + 1) : Nat) : Int))), (1, .is (.tmp 25) (VP.int .i64 (((i + 1) : Nat) : Int)))] [] [0, 1, 2, 3, 5, 6, 7, 8, 9, 10, 11, 12, 13, 14, 15, 16, 17, 18, 19, 20, 21, 22, 23, 24, 25, 26, 27, 28, 29, 30, 31, 32, 33, 34, 35, 36, 37] [4] [[], [0]] [[1], []] rfl rfl follow rfl ⟨
            wp rfl (does_addE (m := ((i : Nat) : Int)) (n := 1) (x := (((i + 1) : Nat) : Int)) (by omega) _ _ _ _ rfl rfl rfl rfl rfl (by omega) (ar_tmp (av_os 0 1 rfl rfl)) (ar_const (fun _ _ => rfl))),
            wp rfl (does_move _ (.inl rfl) rfl rfl rfl rfl (ar_tmp (av_rs 0 0 rfl rfl))),
            trivial⟩ ?_
          refine t_pick [36, 0, 1, 2, 3, 4, 5, 6, 7, 8, 9, 10, 11, 12, 13, 14, 15, 16, 17, 18, 19, 20, 21, 22, 23, 24, 25, 26, 27, 28, 29, 30, 31, 32, 33, 34, 35, 37, 38] rfl ?_
          refine t_untmp rfl ?_
          refine t_weak (R' := R_int (d.wantK t (i + 1))) (fun _ _ _ _ h => by rw [← wantK_set, (show d.want t i = (d.ofk (kid t 1)) by unfold ArD.want; (try rw [hb1]); (try rw [hb5]); (try rw [hb6]); (try rfl))]; exact h) rfl ?_
          refine nx_round (τ := {i : Nat // i ≤ t.kids.length}) (I := fun ⟨i, _⟩ => [.is (.tmp 0) (VP.ptr v), .is (.tmp 3) (VP.ptr c3), .is (.tmp 24) (VP.int .i64 ((t.kids.length : Nat) : Int)), .is (.tmp 25) (VP.int .i64 ((i : Nat) : Int)), .own 102 (.tmp 5) (R_int (d.wantK t i)), .own 101 (.val c3) (B_term t), .bor (.val v) (ArO us uf ut uo uh ub d.most), .bor (.val us) (R_sort d.sorts), .bor (.val uf) (R_fun d.funs), .bor (.val ut) (R_term d.terms), .bor (.val uo) (R_int d.of_), .bor (.val uh) (R_u64 d.hashes), .bor (.val ub) (rowsInt d.table)]) (μ := fun ⟨i, _⟩ => t.kids.length - i) (s := ⟨i, hi⟩) (⟨i + 1, by omega⟩) ?_ [1, 2, 3, 37, 0, 4, 5, 6, 7, 8, 9, 10, 11] ?_
          · exact (show t.kids.length - (i + 1) < t.kids.length - i by omega)
          · exact rfl
        · have hc6 := of_decide_eq_false hb6
          refine t_seq ?_
          rcases Bool.eq_false_or_eq_true (t.op == 11) with hb7 | hb7
          · have hc7 := eq_of_beq hb7
            refine t_rg [.own 102 (.val v3) (R_int (d.wantK t i)), .is (.tmp 5) (VP.eq v3 true true), .is (.tmp 0) (VP.ptr v), .is (.tmp 3) (VP.ptr c3), .is (.tmp 24) (VP.int .i64 ((t.kids.length : Nat) : Int)), .is (.tmp 25) (VP.int .i64 ((i : Nat) : Int)), .own 101 (.val c3) (B_term t), .bor (.val v) (ArO us uf ut uo uh ub d.most), .bor (.val us) (R_sort d.sorts), .bor (.val uf) (R_fun d.funs), .bor (.val ut) (R_term d.terms), .bor (.val uo) (R_int d.of_), .bor (.val uh) (R_u64 d.hashes), .bor (.val ub) (rowsInt d.table), .is (.tmp 26) (VP.bool (decide (((i : Nat) : Int) < ((t.kids.length : Nat) : Int)))), .is (.tmp 27) (VP.int .i64 ((i : Nat) : Int)), .is (.tmp 6) (VP.int .i64 ((i : Nat) : Int)), .pt 29 (.blk (.val c3) 0), .is (.tmp 30) (VP.int .i64 t.op), .is (.tmp 31) (VP.bool (t.op == 10)), .is (.tmp 32) (VP.bool (t.op == 10)), .is (.tmp 33) (VP.int .i64 ((i : Nat) : Int)), .is (.tmp 34) (VP.bool (decide (((i : Nat) : Int) > 0))), .is (.tmp 35) (VP.bool (decide (((i : Nat) : Int) > 0))), .is (.tmp 28) (VP.bool (decide (((i : Nat) : Int) > 0)))] [] [(0, .pt 50 (.blk (.val c3) 0)), (1, .is (.tmp 51) (VP.int .i64 t.op)), (2, .is (.tmp 52) (VP.bool (t.op == 11))), (3, .is (.tmp 53) (VP.bool (t.op == 11))), (4, .is (.tmp 54) (VP.undef)), (5, .is (.tmp 55) (VP.undef)), (6, .is (.tmp 56) (VP.undef)), (7, .is (.tmp 57) (VP.bool true)), (8, .is (.tmp 49) (VP.bool true))] [] [0, 1, 2, 3, 4, 5, 6, 7, 8, 9, 10, 11, 12, 13, 14, 15, 16, 17, 18, 19, 20, 21, 22, 23, 24] [] DagF_p48_9 DagF_s48_9 rfl rfl follow rfl ⟨
              wp rfl (does_field _ _ _ 0 DagF_f_api_Term_0 rfl rfl rfl rfl rfl rfl (pt_ptr (ar_tmp (av_fs 3 rfl)))),
              wp rfl (does_loadOne _ DagF_one_int rfl rfl rfl rfl rfl (pt_pt (av_rs 0 0 rfl rfl)) (rds_box (off := 0) (av_fs 6 rfl) (hq_one rfl))),
              wp rfl (does_cmp (m := t.op) (n := 11) _ _ _ _ _ rfl rfl rfl rfl rfl rfl .i64 (ar_tmp (av_rs 1 1 rfl rfl)) (ar_const (fun _ _ => rfl))),
              wp rfl (does_move _ (.inl rfl) rfl rfl rfl rfl (ar_tmp (av_rs 2 2 rfl rfl))),
              .inr (skips_guardU true rfl rfl rfl (av_bool hb7 (av_rs 3 3 rfl rfl)) rfl rfl rfl rfl),
              .inr (skips_guardU true rfl rfl rfl (av_bool hb7 (av_rs 3 3 rfl rfl)) rfl rfl rfl rfl),
              .inr (skips_guardU true rfl rfl rfl (av_bool hb7 (av_rs 3 3 rfl rfl)) rfl rfl rfl rfl),
              wp rfl (does_pick true _ _ _ rfl rfl rfl rfl rfl (ar_tmp (av_bool hb7 (av_rs 3 3 rfl rfl))) (ar_const (fun _ _ => rfl))),
              wp rfl (does_move _ (.inr rfl) rfl rfl rfl rfl (ar_tmp (av_rs 7 7 rfl rfl))),
              trivial⟩ ?_
            refine nx_then ?_
            refine t_cond_t 33 rfl ?_
            refine t_rg [.is (.tmp 5) (VP.eq v3 true true), .is (.tmp 0) (VP.ptr v), .is (.tmp 3) (VP.ptr c3), .is (.tmp 24) (VP.int .i64 ((t.kids.length : Nat) : Int)), .is (.tmp 25) (VP.int .i64 ((i : Nat) : Int)), .own 101 (.val c3) (B_term t), .bor (.val v) (ArO us uf ut uo uh ub d.most), .bor (.val us) (R_sort d.sorts), .bor (.val uf) (R_fun d.funs), .bor (.val ut) (R_term d.terms), .bor (.val uo) (R_int d.of_), .bor (.val uh) (R_u64 d.hashes), .bor (.val ub) (rowsInt d.table), .is (.tmp 26) (VP.bool (decide (((i : Nat) : Int) < ((t.kids.length : Nat) : Int)))), .is (.tmp 27) (VP.int .i64 ((i : Nat) : Int)), .is (.tmp 6) (VP.int .i64 ((i : Nat) : Int)), .pt 29 (.blk (.val c3) 0), .is (.tmp 30) (VP.int .i64 t.op), .is (.tmp 31) (VP.bool (t.op == 10)), .is (.tmp 32) (VP.bool (t.op == 10)), .is (.tmp 33) (VP.int .i64 ((i : Nat) : Int)), .is (.tmp 34) (VP.bool (decide (((i : Nat) : Int) > 0))), .is (.tmp 35) (VP.bool (decide (((i : Nat) : Int) > 0))), .is (.tmp 28) (VP.bool (decide (((i : Nat) : Int) > 0))), .pt 50 (.blk (.val c3) 0), .is (.tmp 51) (VP.int .i64 t.op), .is (.tmp 52) (VP.bool (t.op == 11)), .is (.tmp 53) (VP.bool (t.op == 11)), .is (.tmp 54) (VP.undef), .is (.tmp 55) (VP.undef), .is (.tmp 56) (VP.undef), .is (.tmp 57) (VP.bool true), .is (.tmp 49) (VP.bool true)] [(13, .own 102 (.val v3) (R_int (d.wantK t i)))] [(0, .is (.tmp 58) (VP.eq v3 true true)), (1, .is (.tmp 59) (VP.int .i64 ((i : Nat) : Int))), (2, .is (.tmp 60) (VP.ptr v)), (3, .is (.tmp 61) (VP.ptr v)), (4, .pt 62 (.blk (.val v) 3)), (5, .is (.tmp 63) (VP.eq uo true true)), (6, .pt 64 (.blk (.val c3) 2)), (7, .is (.tmp 65) (O_int t.kids)), (8, .pt 66 (.row (.tmp 65) (0 * 1))), (9, .is (.tmp 67) (VP.int .i64 (kid t 0))), (10, .pt 68 (.row (.val uo) (((kid t 0).toNat) * 1))), (11, .is (.tmp 69) (VP.int .i64 (d.ofk (kid t 0)))), (12, .pt 70 (.row (.val v3) (i * 1))), (13, .own 102 (.val v3) (R_int ((d.wantK t i).set i (d.ofk (kid t 0)))))] [] [1, 2, 3, 4, 5, 6, 7, 8, 9, 10, 11, 12, 13, 14, 15, 16, 17, 18, 19, 20, 21, 22, 23, 24, 25, 26, 27, 28, 29, 30, 31, 32, 33] [0] DagF_p48_10 DagF_s48_10 rfl rfl follow rfl ⟨
              wp rfl (does_move _ (.inl rfl) rfl rfl rfl rfl (ar_tmp (av_fs 0 rfl))),
              wp rfl (does_move _ (.inl rfl) rfl rfl rfl rfl (ar_tmp (av_fs 15 rfl))),
              wp rfl (does_move _ (.inl rfl) rfl rfl rfl rfl (ar_tmp (av_fs 1 rfl))),
              wp rfl (does_nil _ rfl rfl rfl rfl rfl (ar_tmp (av_rs 2 2 rfl rfl))),
              wp rfl (does_field _ _ _ 3 DagF_f_dag_Arena_3 rfl rfl rfl rfl rfl rfl (pt_ptr (ar_tmp (av_rs 3 3 rfl rfl)))),
              wp rfl (does_loadOne _ DagF_one___int rfl rfl rfl rfl rfl (pt_pt (av_rs 4 4 rfl rfl)) (rds_bbox (off := 3) (av_fs 6 rfl) (hq_one rfl))),
              wp rfl (does_field _ _ _ 2 DagF_f_api_Term_2 rfl rfl rfl rfl rfl rfl (pt_ptr (ar_tmp (av_fs 2 rfl)))),
              wp rfl (does_loadOne _ DagF_one___int rfl rfl rfl rfl rfl (pt_pt (av_rs 6 6 rfl rfl)) (rds_box (off := 2) (av_fs 5 rfl) (hq_one rfl))),
              wp rfl (does_index (m := 0) _ _ Try.underlying28 DagF_size_int rfl rfl rfl rfl rfl _ (by omega) rfl (by omega) (sl_ro (av_rs 7 7 rfl rfl) (flat_nil_iff cInt_len (by decide) _)) (ar_int_eq (by omega) (ar_const (fun _ _ => rfl)))),
              wp rfl (does_loadOne _ DagF_one_int rfl rfl rfl rfl rfl (pt_pt (av_rs 8 8 rfl rfl)) (rds_ro (av_rs 7 7 rfl rfl) (hq_flatV1 cInt_len (at_getD (by omega)) 0 (by omega) rfl))),
              wp rfl (does_index (m := (kid t 0).toNat) _ _ Try.underlying28 DagF_size_int rfl rfl rfl rfl rfl _ (by omega) rfl (by omega) (sl_bor (av_fs 10 rfl) (ar_tmp (av_rs 5 5 rfl rfl))) (ar_int_eq (by omega) (ar_tmp (av_rs 9 9 rfl rfl)))),
              wp rfl (does_loadOne _ DagF_one_int rfl rfl rfl rfl rfl (pt_pt (av_rs 10 10 rfl rfl)) (rds_brow (av_fs 10 rfl) (hq_flat1 cInt_len (at_getD (by omega)) 0 (by omega) rfl))),
              wp rfl (does_index (m := i) _ _ Try.underlying28 DagF_size_int rfl rfl rfl rfl rfl _ (by omega) rfl (by omega) (sl_own (av_os 0 13 rfl rfl) (ar_tmp (av_rs 0 0 rfl rfl))) (ar_tmp (av_rs 1 1 rfl rfl))),
              wp rfl (does_storeRow (off := i * 1) (n := (d.wantK t i).length) (Rs := ((d.wantK t i).flatMap cInt).map HA.of) (Qs := (cInt (d.ofk (kid t 0))).map HA.of) _ _ DagF_size_int rfl rfl rfl rfl (by rw [List.length_set]) (flat_put cInt_len (by omega)) (by rw [flat_lenH cInt_len, List.length_map, cInt_len]; omega) rfl (pt_pt (av_rs 12 12 rfl rfl)) (av_os 0 13 rfl rfl) (cv_one rfl (mv_vp (ar_tmp (av_rs 11 11 rfl rfl))))),
              trivial⟩ ?_
            refine nx_block ?_
            refine nx_block ?_
            refine nx_then ?_
            refine t_rg [.is (.tmp 5) (VP.eq v3 true true), .is (.tmp 0) (VP.ptr v), .is (.tmp 3) (VP.ptr c3), .is (.tmp 24) (VP.int .i64 ((t.kids.length : Nat) : Int)), .own 101 (.val c3) (B_term t), .bor (.val v) (ArO us uf ut uo uh ub d.most), .bor (.val us) (R_sort d.sorts), .bor (.val uf) (R_fun d.funs), .bor (.val ut) (R_term d.terms), .bor (.val uo) (R_int d.of_), .bor (.val uh) (R_u64 d.hashes), .bor (.val ub) (rowsInt d.table), .is (.tmp 26) (VP.bool (decide (((i : Nat) : Int) < ((t.kids.length : Nat) : Int)))), .is (.tmp 27) (VP.int .i64 ((i : Nat) : Int)), .is (.tmp 6) (VP.int .i64 ((i : Nat) : Int)), .pt 29 (.blk (.val c3) 0), .is (.tmp 30) (VP.int .i64 t.op), .is (.tmp 31) (VP.bool (t.op == 10)), .is (.tmp 32) (VP.bool (t.op == 10)), .is (.tmp 33) (VP.int .i64 ((i : Nat) : Int)), .is (.tmp 34) (VP.bool (decide (((i : Nat) : Int) > 0))), .is (.tmp 35) (VP.bool (decide (((i : Nat) : Int) > 0))), .is (.tmp 28) (VP.bool (decide (((i : Nat) : Int) > 0))), .pt 50 (.blk (.val c3) 0), .is (.tmp 51) (VP.int .i64 t.op), .is (.tmp 52) (VP.bool (t.op == 11)), .is (.tmp 53) (VP.bool (t.op == 11)), .is (.tmp 54) (VP.undef), .is (.tmp 55) (VP.undef), .is (.tmp 56) (VP.undef), .is (.tmp 57) (VP.bool true), .is (.tmp 49) (VP.bool true), .is (.tmp 58) (VP.eq v3 true true), .is (.tmp 59) (VP.int .i64 ((i : Nat) : Int)), .is (.tmp 60) (VP.ptr v), .is (.tmp 61) (VP.ptr v), .pt 62 (.blk (.val v) 3), .is (.tmp 63) (VP.eq uo true true), .pt 64 (.blk (.val c3) 2), .is (.tmp 65) (O_int t.kids), .pt 66 (.row (.tmp 65) (0 * 1)), .is (.tmp 67) (VP.int .i64 (kid t 0)), .pt 68 (.row (.val uo) (((kid t 0).toNat) * 1)), .is (.tmp 69) (VP.int .i64 (d.ofk (kid t 0))), .pt 70 (.row (.val v3) (i * 1)), .own 102 (.val v3) (R_int ((d.wantK t i).set i (d.ofk (kid t 0))))] [(1, .is (.tmp 25) (VP.int .i64 ((i : Nat) : Int)))] [(0, .is (.tmp 78) (VP.int .i64 (((i + 1) : Nat) : Int))), (1, .is (.tmp 25) (VP.int .i64 (((i + 1) : Nat) : Int)))] [] [0, 1, 2, 3, 5, 6, 7, 8, 9, 10, 11, 12, 13, 14, 15, 16, 17, 18, 19, 20, 21, 22, 23, 24, 25, 26, 27, 28, 29, 30, 31, 32, 33, 34, 35, 36, 37, 38, 39, 40, 41, 42, 43, 44, 45, 46] [4] [[], [0]] [[1], []] rfl rfl follow rfl ⟨
              wp rfl (does_addE (m := ((i : Nat) : Int)) (n := 1) (x := (((i + 1) : Nat) : Int)) (by omega) _ _ _ _ rfl rfl rfl rfl rfl (by omega) (ar_tmp (av_os 0 1 rfl rfl)) (ar_const (fun _ _ => rfl))),
              wp rfl (does_move _ (.inl rfl) rfl rfl rfl rfl (ar_tmp (av_rs 0 0 rfl rfl))),
              trivial⟩ ?_
            refine t_pick [45, 0, 1, 2, 3, 4, 5, 6, 7, 8, 9, 10, 11, 12, 13, 14, 15, 16, 17, 18, 19, 20, 21, 22, 23, 24, 25, 26, 27, 28, 29, 30, 31, 32, 33, 34, 35, 36, 37, 38, 39, 40, 41, 42, 43, 44, 46, 47] rfl ?_
            refine t_untmp rfl ?_
            refine t_weak (R' := R_int (d.wantK t (i + 1))) (fun _ _ _ _ h => by rw [← wantK_set, (show d.want t i = (d.ofk (kid t 0)) by unfold ArD.want; (try rw [hb1]); (try rw [hb5]); (try rw [hb6]); (try rw [hb7]); (try rfl))]; exact h) rfl ?_
            refine nx_round (τ := {i : Nat // i ≤ t.kids.length}) (I := fun ⟨i, _⟩ => [.is (.tmp 0) (VP.ptr v), .is (.tmp 3) (VP.ptr c3), .is (.tmp 24) (VP.int .i64 ((t.kids.length : Nat) : Int)), .is (.tmp 25) (VP.int .i64 ((i : Nat) : Int)), .own 102 (.tmp 5) (R_int (d.wantK t i)), .own 101 (.val c3) (B_term t), .bor (.val v) (ArO us uf ut uo uh ub d.most), .bor (.val us) (R_sort d.sorts), .bor (.val uf) (R_fun d.funs), .bor (.val ut) (R_term d.terms), .bor (.val uo) (R_int d.of_), .bor (.val uh) (R_u64 d.hashes), .bor (.val ub) (rowsInt d.table)]) (μ := fun ⟨i, _⟩ => t.kids.length - i) (s := ⟨i, hi⟩) (⟨i + 1, by omega⟩) ?_ [1, 2, 3, 46, 0, 4, 5, 6, 7, 8, 9, 10, 11] ?_
            · exact (show t.kids.length - (i + 1) < t.kids.length - i by omega)
            · exact rfl
          · have hc7 := ne_of_beq_false hb7
            refine t_rg [.own 102 (.val v3) (R_int (d.wantK t i)), .is (.tmp 5) (VP.eq v3 true true), .is (.tmp 0) (VP.ptr v), .is (.tmp 3) (VP.ptr c3), .is (.tmp 24) (VP.int .i64 ((t.kids.length : Nat) : Int)), .is (.tmp 25) (VP.int .i64 ((i : Nat) : Int)), .own 101 (.val c3) (B_term t), .bor (.val v) (ArO us uf ut uo uh ub d.most), .bor (.val us) (R_sort d.sorts), .bor (.val uf) (R_fun d.funs), .bor (.val ut) (R_term d.terms), .bor (.val uo) (R_int d.of_), .bor (.val uh) (R_u64 d.hashes), .bor (.val ub) (rowsInt d.table), .is (.tmp 26) (VP.bool (decide (((i : Nat) : Int) < ((t.kids.length : Nat) : Int)))), .is (.tmp 27) (VP.int .i64 ((i : Nat) : Int)), .is (.tmp 6) (VP.int .i64 ((i : Nat) : Int)), .pt 29 (.blk (.val c3) 0), .is (.tmp 30) (VP.int .i64 t.op), .is (.tmp 31) (VP.bool (t.op == 10)), .is (.tmp 32) (VP.bool (t.op == 10)), .is (.tmp 33) (VP.int .i64 ((i : Nat) : Int)), .is (.tmp 34) (VP.bool (decide (((i : Nat) : Int) > 0))), .is (.tmp 35) (VP.bool (decide (((i : Nat) : Int) > 0))), .is (.tmp 28) (VP.bool (decide (((i : Nat) : Int) > 0)))] [] [(0, .pt 50 (.blk (.val c3) 0)), (1, .is (.tmp 51) (VP.int .i64 t.op)), (2, .is (.tmp 52) (VP.bool (t.op == 11))), (3, .is (.tmp 53) (VP.bool (t.op == 11))), (4, .pt 54 (.blk (.val c3) 0)), (5, .is (.tmp 55) (VP.int .i64 t.op)), (6, .is (.tmp 56) (VP.bool (t.op == 12))), (7, .is (.tmp 57) (VP.bool (t.op == 12))), (8, .is (.tmp 49) (VP.bool (t.op == 12)))] [] [0, 1, 2, 3, 4, 5, 6, 7, 8, 9, 10, 11, 12, 13, 14, 15, 16, 17, 18, 19, 20, 21, 22, 23, 24] [] DagF_p48_9 DagF_s48_9 rfl rfl follow rfl ⟨
              wp rfl (does_field _ _ _ 0 DagF_f_api_Term_0 rfl rfl rfl rfl rfl rfl (pt_ptr (ar_tmp (av_fs 3 rfl)))),
              wp rfl (does_loadOne _ DagF_one_int rfl rfl rfl rfl rfl (pt_pt (av_rs 0 0 rfl rfl)) (rds_box (off := 0) (av_fs 6 rfl) (hq_one rfl))),
              wp rfl (does_cmp (m := t.op) (n := 11) _ _ _ _ _ rfl rfl rfl rfl rfl rfl .i64 (ar_tmp (av_rs 1 1 rfl rfl)) (ar_const (fun _ _ => rfl))),
              wp rfl (does_move _ (.inl rfl) rfl rfl rfl rfl (ar_tmp (av_rs 2 2 rfl rfl))),
              .inl ⟨wants_guard false rfl rfl rfl (av_bool hb7 (av_rs 3 3 rfl rfl)), does_field _ _ _ 0 DagF_f_api_Term_0 rfl rfl rfl rfl rfl rfl (pt_ptr (ar_tmp (av_fs 3 rfl)))⟩,
              .inl ⟨wants_guard false rfl rfl rfl (av_bool hb7 (av_rs 3 3 rfl rfl)), does_loadOne _ DagF_one_int rfl rfl rfl rfl rfl (pt_pt (av_rs 4 4 rfl rfl)) (rds_box (off := 0) (av_fs 6 rfl) (hq_one rfl))⟩,
              .inl ⟨wants_guard false rfl rfl rfl (av_bool hb7 (av_rs 3 3 rfl rfl)), does_cmp (m := t.op) (n := 12) _ _ _ _ _ rfl rfl rfl rfl rfl rfl .i64 (ar_tmp (av_rs 5 5 rfl rfl)) (ar_const (fun _ _ => rfl))⟩,
              wp rfl (does_pick false _ _ _ rfl rfl rfl rfl rfl (ar_tmp (av_bool hb7 (av_rs 3 3 rfl rfl))) (ar_tmp (av_rs 6 6 rfl rfl))),
              wp rfl (does_move _ (.inr rfl) rfl rfl rfl rfl (ar_tmp (av_rs 7 7 rfl rfl))),
              trivial⟩ ?_
            refine nx_then ?_
            refine t_split 33 rfl (fun hb8 => ?_) (fun hb8 => ?_)
            · have hc8 := eq_of_beq hb8
              refine t_rg [.is (.tmp 5) (VP.eq v3 true true), .is (.tmp 0) (VP.ptr v), .is (.tmp 3) (VP.ptr c3), .is (.tmp 24) (VP.int .i64 ((t.kids.length : Nat) : Int)), .is (.tmp 25) (VP.int .i64 ((i : Nat) : Int)), .own 101 (.val c3) (B_term t), .bor (.val v) (ArO us uf ut uo uh ub d.most), .bor (.val us) (R_sort d.sorts), .bor (.val uf) (R_fun d.funs), .bor (.val ut) (R_term d.terms), .bor (.val uo) (R_int d.of_), .bor (.val uh) (R_u64 d.hashes), .bor (.val ub) (rowsInt d.table), .is (.tmp 26) (VP.bool (decide (((i : Nat) : Int) < ((t.kids.length : Nat) : Int)))), .is (.tmp 27) (VP.int .i64 ((i : Nat) : Int)), .is (.tmp 6) (VP.int .i64 ((i : Nat) : Int)), .pt 29 (.blk (.val c3) 0), .is (.tmp 30) (VP.int .i64 t.op), .is (.tmp 31) (VP.bool (t.op == 10)), .is (.tmp 32) (VP.bool (t.op == 10)), .is (.tmp 33) (VP.int .i64 ((i : Nat) : Int)), .is (.tmp 34) (VP.bool (decide (((i : Nat) : Int) > 0))), .is (.tmp 35) (VP.bool (decide (((i : Nat) : Int) > 0))), .is (.tmp 28) (VP.bool (decide (((i : Nat) : Int) > 0))), .pt 50 (.blk (.val c3) 0), .is (.tmp 51) (VP.int .i64 t.op), .is (.tmp 52) (VP.bool (t.op == 11)), .is (.tmp 53) (VP.bool (t.op == 11)), .pt 54 (.blk (.val c3) 0), .is (.tmp 55) (VP.int .i64 t.op), .is (.tmp 56) (VP.bool (t.op == 12)), .is (.tmp 57) (VP.bool (t.op == 12)), .is (.tmp 49) (VP.bool (t.op == 12))] [(13, .own 102 (.val v3) (R_int (d.wantK t i)))] [(0, .is (.tmp 58) (VP.eq v3 true true)), (1, .is (.tmp 59) (VP.int .i64 ((i : Nat) : Int))), (2, .is (.tmp 60) (VP.ptr v)), (3, .is (.tmp 61) (VP.ptr v)), (4, .pt 62 (.blk (.val v) 3)), (5, .is (.tmp 63) (VP.eq uo true true)), (6, .pt 64 (.blk (.val c3) 2)), (7, .is (.tmp 65) (O_int t.kids)), (8, .pt 66 (.row (.tmp 65) (0 * 1))), (9, .is (.tmp 67) (VP.int .i64 (kid t 0))), (10, .pt 68 (.row (.val uo) (((kid t 0).toNat) * 1))), (11, .is (.tmp 69) (VP.int .i64 (d.ofk (kid t 0)))), (12, .pt 70 (.row (.val v3) (i * 1))), (13, .own 102 (.val v3) (R_int ((d.wantK t i).set i (d.ofk (kid t 0)))))] [] [1, 2, 3, 4, 5, 6, 7, 8, 9, 10, 11, 12, 13, 14, 15, 16, 17, 18, 19, 20, 21, 22, 23, 24, 25, 26, 27, 28, 29, 30, 31, 32, 33] [0] DagF_p48_10 DagF_s48_10 rfl rfl follow rfl ⟨
                wp rfl (does_move _ (.inl rfl) rfl rfl rfl rfl (ar_tmp (av_fs 0 rfl))),
                wp rfl (does_move _ (.inl rfl) rfl rfl rfl rfl (ar_tmp (av_fs 15 rfl))),
                wp rfl (does_move _ (.inl rfl) rfl rfl rfl rfl (ar_tmp (av_fs 1 rfl))),
                wp rfl (does_nil _ rfl rfl rfl rfl rfl (ar_tmp (av_rs 2 2 rfl rfl))),
                wp rfl (does_field _ _ _ 3 DagF_f_dag_Arena_3 rfl rfl rfl rfl rfl rfl (pt_ptr (ar_tmp (av_rs 3 3 rfl rfl)))),
                wp rfl (does_loadOne _ DagF_one___int rfl rfl rfl rfl rfl (pt_pt (av_rs 4 4 rfl rfl)) (rds_bbox (off := 3) (av_fs 6 rfl) (hq_one rfl))),
                wp rfl (does_field _ _ _ 2 DagF_f_api_Term_2 rfl rfl rfl rfl rfl rfl (pt_ptr (ar_tmp (av_fs 2 rfl)))),
                wp rfl (does_loadOne _ DagF_one___int rfl rfl rfl rfl rfl (pt_pt (av_rs 6 6 rfl rfl)) (rds_box (off := 2) (av_fs 5 rfl) (hq_one rfl))),
                wp rfl (does_index (m := 0) _ _ Try.underlying28 DagF_size_int rfl rfl rfl rfl rfl _ (by omega) rfl (by omega) (sl_ro (av_rs 7 7 rfl rfl) (flat_nil_iff cInt_len (by decide) _)) (ar_int_eq (by omega) (ar_const (fun _ _ => rfl)))),
                wp rfl (does_loadOne _ DagF_one_int rfl rfl rfl rfl rfl (pt_pt (av_rs 8 8 rfl rfl)) (rds_ro (av_rs 7 7 rfl rfl) (hq_flatV1 cInt_len (at_getD (by omega)) 0 (by omega) rfl))),
                wp rfl (does_index (m := (kid t 0).toNat) _ _ Try.underlying28 DagF_size_int rfl rfl rfl rfl rfl _ (by omega) rfl (by omega) (sl_bor (av_fs 10 rfl) (ar_tmp (av_rs 5 5 rfl rfl))) (ar_int_eq (by omega) (ar_tmp (av_rs 9 9 rfl rfl)))),
                wp rfl (does_loadOne _ DagF_one_int rfl rfl rfl rfl rfl (pt_pt (av_rs 10 10 rfl rfl)) (rds_brow (av_fs 10 rfl) (hq_flat1 cInt_len (at_getD (by omega)) 0 (by omega) rfl))),
                wp rfl (does_index (m := i) _ _ Try.underlying28 DagF_size_int rfl rfl rfl rfl rfl _ (by omega) rfl (by omega) (sl_own (av_os 0 13 rfl rfl) (ar_tmp (av_rs 0 0 rfl rfl))) (ar_tmp (av_rs 1 1 rfl rfl))),
                wp rfl (does_storeRow (off := i * 1) (n := (d.wantK t i).length) (Rs := ((d.wantK t i).flatMap cInt).map HA.of) (Qs := (cInt (d.ofk (kid t 0))).map HA.of) _ _ DagF_size_int rfl rfl rfl rfl (by rw [List.length_set]) (flat_put cInt_len (by omega)) (by rw [flat_lenH cInt_len, List.length_map, cInt_len]; omega) rfl (pt_pt (av_rs 12 12 rfl rfl)) (av_os 0 13 rfl rfl) (cv_one rfl (mv_vp (ar_tmp (av_rs 11 11 rfl rfl))))),
                trivial⟩ ?_
              refine nx_block ?_
              refine nx_block ?_
              refine nx_then ?_
              refine t_rg [.is (.tmp 5) (VP.eq v3 true true), .is (.tmp 0) (VP.ptr v), .is (.tmp 3) (VP.ptr c3), .is (.tmp 24) (VP.int .i64 ((t.kids.length : Nat) : Int)), .own 101 (.val c3) (B_term t), .bor (.val v) (ArO us uf ut uo uh ub d.most), .bor (.val us) (R_sort d.sorts), .bor (.val uf) (R_fun d.funs), .bor (.val ut) (R_term d.terms), .bor (.val uo) (R_int d.of_), .bor (.val uh) (R_u64 d.hashes), .bor (.val ub) (rowsInt d.table), .is (.tmp 26) (VP.bool (decide (((i : Nat) : Int) < ((t.kids.length : Nat) : Int)))), .is (.tmp 27) (VP.int .i64 ((i : Nat) : Int)), .is (.tmp 6) (VP.int .i64 ((i : Nat) : Int)), .pt 29 (.blk (.val c3) 0), .is (.tmp 30) (VP.int .i64 t.op), .is (.tmp 31) (VP.bool (t.op == 10)), .is (.tmp 32) (VP.bool (t.op == 10)), .is (.tmp 33) (VP.int .i64 ((i : Nat) : Int)), .is (.tmp 34) (VP.bool (decide (((i : Nat) : Int) > 0))), .is (.tmp 35) (VP.bool (decide (((i : Nat) : Int) > 0))), .is (.tmp 28) (VP.bool (decide (((i : Nat) : Int) > 0))), .pt 50 (.blk (.val c3) 0), .is (.tmp 51) (VP.int .i64 t.op), .is (.tmp 52) (VP.bool (t.op == 11)), .is (.tmp 53) (VP.bool (t.op == 11)), .pt 54 (.blk (.val c3) 0), .is (.tmp 55) (VP.int .i64 t.op), .is (.tmp 56) (VP.bool (t.op == 12)), .is (.tmp 57) (VP.bool (t.op == 12)), .is (.tmp 49) (VP.bool (t.op == 12)), .is (.tmp 58) (VP.eq v3 true true), .is (.tmp 59) (VP.int .i64 ((i : Nat) : Int)), .is (.tmp 60) (VP.ptr v), .is (.tmp 61) (VP.ptr v), .pt 62 (.blk (.val v) 3), .is (.tmp 63) (VP.eq uo true true), .pt 64 (.blk (.val c3) 2), .is (.tmp 65) (O_int t.kids), .pt 66 (.row (.tmp 65) (0 * 1)), .is (.tmp 67) (VP.int .i64 (kid t 0)), .pt 68 (.row (.val uo) (((kid t 0).toNat) * 1)), .is (.tmp 69) (VP.int .i64 (d.ofk (kid t 0))), .pt 70 (.row (.val v3) (i * 1)), .own 102 (.val v3) (R_int ((d.wantK t i).set i (d.ofk (kid t 0))))] [(1, .is (.tmp 25) (VP.int .i64 ((i : Nat) : Int)))] [(0, .is (.tmp 78) (VP.int .i64 (((i + 1) : Nat) : Int))), (1, .is (.tmp 25) (VP.int .i64 (((i + 1) : Nat) : Int)))] [] [0, 1, 2, 3, 5, 6, 7, 8, 9, 10, 11, 12, 13, 14, 15, 16, 17, 18, 19, 20, 21, 22, 23, 24, 25, 26, 27, 28, 29, 30, 31, 32, 33, 34, 35, 36, 37, 38, 39, 40, 41, 42, 43, 44, 45, 46] [4] [[], [0]] [[1], []] rfl rfl follow rfl ⟨
                wp rfl (does_addE (m := ((i : Nat) : Int)) (n := 1) (x := (((i + 1) : Nat) : Int)) (by omega) _ _ _ _ rfl rfl rfl rfl rfl (by omega) (ar_tmp (av_os 0 1 rfl rfl)) (ar_const (fun _ _ => rfl))),
                wp rfl (does_move _ (.inl rfl) rfl rfl rfl rfl (ar_tmp (av_rs 0 0 rfl rfl))),
                trivial⟩ ?_
              refine t_pick [45, 0, 1, 2, 3, 4, 5, 6, 7, 8, 9, 10, 11, 12, 13, 14, 15, 16, 17, 18, 19, 20, 21, 22, 23, 24, 25, 26, 27, 28, 29, 30, 31, 32, 33, 34, 35, 36, 37, 38, 39, 40, 41, 42, 43, 44, 46, 47] rfl ?_
              refine t_untmp rfl ?_
              refine t_weak (R' := R_int (d.wantK t (i + 1))) (fun _ _ _ _ h => by rw [← wantK_set, (show d.want t i = (d.ofk (kid t 0)) by unfold ArD.want; (try rw [hb1]); (try rw [hb5]); (try rw [hb6]); (try rw [hb7]); (try rw [hb8]); (try rfl))]; exact h) rfl ?_
              refine nx_round (τ := {i : Nat // i ≤ t.kids.length}) (I := fun ⟨i, _⟩ => [.is (.tmp 0) (VP.ptr v), .is (.tmp 3) (VP.ptr c3), .is (.tmp 24) (VP.int .i64 ((t.kids.length : Nat) : Int)), .is (.tmp 25) (VP.int .i64 ((i : Nat) : Int)), .own 102 (.tmp 5) (R_int (d.wantK t i)), .own 101 (.val c3) (B_term t), .bor (.val v) (ArO us uf ut uo uh ub d.most), .bor (.val us) (R_sort d.sorts), .bor (.val uf) (R_fun d.funs), .bor (.val ut) (R_term d.terms), .bor (.val uo) (R_int d.of_), .bor (.val uh) (R_u64 d.hashes), .bor (.val ub) (rowsInt d.table)]) (μ := fun ⟨i, _⟩ => t.kids.length - i) (s := ⟨i, hi⟩) (⟨i + 1, by omega⟩) ?_ [1, 2, 3, 46, 0, 4, 5, 6, 7, 8, 9, 10, 11] ?_
              · exact (show t.kids.length - (i + 1) < t.kids.length - i by omega)
              · exact rfl
            · have hc8 := ne_of_beq_false hb8
              refine t_seq ?_
              refine t_rg [.own 102 (.val v3) (R_int (d.wantK t i)), .is (.tmp 5) (VP.eq v3 true true), .is (.tmp 0) (VP.ptr v), .is (.tmp 3) (VP.ptr c3), .is (.tmp 24) (VP.int .i64 ((t.kids.length : Nat) : Int)), .is (.tmp 25) (VP.int .i64 ((i : Nat) : Int)), .own 101 (.val c3) (B_term t), .bor (.val v) (ArO us uf ut uo uh ub d.most), .bor (.val us) (R_sort d.sorts), .bor (.val uf) (R_fun d.funs), .bor (.val ut) (R_term d.terms), .bor (.val uo) (R_int d.of_), .bor (.val uh) (R_u64 d.hashes), .bor (.val ub) (rowsInt d.table), .is (.tmp 26) (VP.bool (decide (((i : Nat) : Int) < ((t.kids.length : Nat) : Int)))), .is (.tmp 27) (VP.int .i64 ((i : Nat) : Int)), .is (.tmp 6) (VP.int .i64 ((i : Nat) : Int)), .pt 29 (.blk (.val c3) 0), .is (.tmp 30) (VP.int .i64 t.op), .is (.tmp 31) (VP.bool (t.op == 10)), .is (.tmp 32) (VP.bool (t.op == 10)), .is (.tmp 33) (VP.int .i64 ((i : Nat) : Int)), .is (.tmp 34) (VP.bool (decide (((i : Nat) : Int) > 0))), .is (.tmp 35) (VP.bool (decide (((i : Nat) : Int) > 0))), .is (.tmp 28) (VP.bool (decide (((i : Nat) : Int) > 0))), .pt 50 (.blk (.val c3) 0), .is (.tmp 51) (VP.int .i64 t.op), .is (.tmp 52) (VP.bool (t.op == 11)), .is (.tmp 53) (VP.bool (t.op == 11)), .pt 54 (.blk (.val c3) 0), .is (.tmp 55) (VP.int .i64 t.op), .is (.tmp 56) (VP.bool (t.op == 12)), .is (.tmp 57) (VP.bool (t.op == 12)), .is (.tmp 49) (VP.bool (t.op == 12))] [] [(0, .pt 72 (.blk (.val c3) 0)), (1, .is (.tmp 73) (VP.int .i64 t.op)), (2, .is (.tmp 74) (VP.bool (decide (t.op ≥ 13)))), (3, .is (.tmp 71) (VP.bool (decide (t.op ≥ 13))))] [] [0, 1, 2, 3, 4, 5, 6, 7, 8, 9, 10, 11, 12, 13, 14, 15, 16, 17, 18, 19, 20, 21, 22, 23, 24, 25, 26, 27, 28, 29, 30, 31, 32, 33] [] [[], [0], [0, 1], [0, 1, 2]] [[1, 2, 3], [2, 3], [3], []] rfl rfl follow rfl ⟨
                wp rfl (does_field _ _ _ 0 DagF_f_api_Term_0 rfl rfl rfl rfl rfl rfl (pt_ptr (ar_tmp (av_fs 3 rfl)))),
                wp rfl (does_loadOne _ DagF_one_int rfl rfl rfl rfl rfl (pt_pt (av_rs 0 0 rfl rfl)) (rds_box (off := 0) (av_fs 6 rfl) (hq_one rfl))),
                wp rfl (does_cmp (m := t.op) (n := 13) _ _ _ _ _ rfl rfl rfl rfl rfl rfl .i64 (ar_tmp (av_rs 1 1 rfl rfl)) (ar_const (fun _ _ => rfl))),
                wp rfl (does_move _ (.inr rfl) rfl rfl rfl rfl (ar_tmp (av_rs 2 2 rfl rfl))),
                trivial⟩ ?_
              refine nx_then ?_
              refine t_split 37 rfl (fun hb9 => ?_) (fun hb9 => ?_)
              · have hc9 := of_decide_eq_true hb9
                refine t_rg [.is (.tmp 5) (VP.eq v3 true true), .is (.tmp 0) (VP.ptr v), .is (.tmp 3) (VP.ptr c3), .is (.tmp 24) (VP.int .i64 ((t.kids.length : Nat) : Int)), .is (.tmp 25) (VP.int .i64 ((i : Nat) : Int)), .own 101 (.val c3) (B_term t), .bor (.val v) (ArO us uf ut uo uh ub d.most), .bor (.val us) (R_sort d.sorts), .bor (.val uf) (R_fun d.funs), .bor (.val ut) (R_term d.terms), .bor (.val uo) (R_int d.of_), .bor (.val uh) (R_u64 d.hashes), .bor (.val ub) (rowsInt d.table), .is (.tmp 26) (VP.bool (decide (((i : Nat) : Int) < ((t.kids.length : Nat) : Int)))), .is (.tmp 27) (VP.int .i64 ((i : Nat) : Int)), .is (.tmp 6) (VP.int .i64 ((i : Nat) : Int)), .pt 29 (.blk (.val c3) 0), .is (.tmp 30) (VP.int .i64 t.op), .is (.tmp 31) (VP.bool (t.op == 10)), .is (.tmp 32) (VP.bool (t.op == 10)), .is (.tmp 33) (VP.int .i64 ((i : Nat) : Int)), .is (.tmp 34) (VP.bool (decide (((i : Nat) : Int) > 0))), .is (.tmp 35) (VP.bool (decide (((i : Nat) : Int) > 0))), .is (.tmp 28) (VP.bool (decide (((i : Nat) : Int) > 0))), .pt 50 (.blk (.val c3) 0), .is (.tmp 51) (VP.int .i64 t.op), .is (.tmp 52) (VP.bool (t.op == 11)), .is (.tmp 53) (VP.bool (t.op == 11)), .pt 54 (.blk (.val c3) 0), .is (.tmp 55) (VP.int .i64 t.op), .is (.tmp 56) (VP.bool (t.op == 12)), .is (.tmp 57) (VP.bool (t.op == 12)), .is (.tmp 49) (VP.bool (t.op == 12)), .pt 72 (.blk (.val c3) 0), .is (.tmp 73) (VP.int .i64 t.op), .is (.tmp 74) (VP.bool (decide (t.op ≥ 13))), .is (.tmp 71) (VP.bool (decide (t.op ≥ 13)))] [(3, .own 102 (.val v3) (R_int (d.wantK t i)))] [(0, .is (.tmp 75) (VP.eq v3 true true)), (1, .is (.tmp 76) (VP.int .i64 ((i : Nat) : Int))), (2, .pt 77 (.row (.val v3) (i * 1))), (3, .own 102 (.val v3) (R_int ((d.wantK t i).set i 1)))] [] [1, 2, 3, 4, 5, 6, 7, 8, 9, 10, 11, 12, 13, 14, 15, 16, 17, 18, 19, 20, 21, 22, 23, 24, 25, 26, 27, 28, 29, 30, 31, 32, 33, 34, 35, 36, 37] [0] [[], [], [0, 1], [0, 1, 2]] [[2, 3], [2, 3], [3], []] rfl rfl follow rfl ⟨
                  wp rfl (does_move _ (.inl rfl) rfl rfl rfl rfl (ar_tmp (av_fs 0 rfl))),
                  wp rfl (does_move _ (.inl rfl) rfl rfl rfl rfl (ar_tmp (av_fs 15 rfl))),
                  wp rfl (does_index (m := i) _ _ Try.underlying28 DagF_size_int rfl rfl rfl rfl rfl _ (by omega) rfl (by omega) (sl_own (av_os 0 3 rfl rfl) (ar_tmp (av_rs 0 0 rfl rfl))) (ar_tmp (av_rs 1 1 rfl rfl))),
                  wp rfl (does_storeRow (off := i * 1) (n := (d.wantK t i).length) (Rs := ((d.wantK t i).flatMap cInt).map HA.of) (Qs := (cInt 1).map HA.of) _ _ DagF_size_int rfl rfl rfl rfl (by rw [List.length_set]) (flat_put cInt_len (by omega)) (by rw [flat_lenH cInt_len, List.length_map, cInt_len]; omega) rfl (pt_pt (av_rs 2 2 rfl rfl)) (av_os 0 3 rfl rfl) (cv_one rfl (mv_vp (ar_const (fun _ _ => rfl))))),
                  trivial⟩ ?_
                refine nx_block ?_
                refine nx_block ?_
                refine nx_then ?_
                refine t_rg [.is (.tmp 5) (VP.eq v3 true true), .is (.tmp 0) (VP.ptr v), .is (.tmp 3) (VP.ptr c3), .is (.tmp 24) (VP.int .i64 ((t.kids.length : Nat) : Int)), .own 101 (.val c3) (B_term t), .bor (.val v) (ArO us uf ut uo uh ub d.most), .bor (.val us) (R_sort d.sorts), .bor (.val uf) (R_fun d.funs), .bor (.val ut) (R_term d.terms), .bor (.val uo) (R_int d.of_), .bor (.val uh) (R_u64 d.hashes), .bor (.val ub) (rowsInt d.table), .is (.tmp 26) (VP.bool (decide (((i : Nat) : Int) < ((t.kids.length : Nat) : Int)))), .is (.tmp 27) (VP.int .i64 ((i : Nat) : Int)), .is (.tmp 6) (VP.int .i64 ((i : Nat) : Int)), .pt 29 (.blk (.val c3) 0), .is (.tmp 30) (VP.int .i64 t.op), .is (.tmp 31) (VP.bool (t.op == 10)), .is (.tmp 32) (VP.bool (t.op == 10)), .is (.tmp 33) (VP.int .i64 ((i : Nat) : Int)), .is (.tmp 34) (VP.bool (decide (((i : Nat) : Int) > 0))), .is (.tmp 35) (VP.bool (decide (((i : Nat) : Int) > 0))), .is (.tmp 28) (VP.bool (decide (((i : Nat) : Int) > 0))), .pt 50 (.blk (.val c3) 0), .is (.tmp 51) (VP.int .i64 t.op), .is (.tmp 52) (VP.bool (t.op == 11)), .is (.tmp 53) (VP.bool (t.op == 11)), .pt 54 (.blk (.val c3) 0), .is (.tmp 55) (VP.int .i64 t.op), .is (.tmp 56) (VP.bool (t.op == 12)), .is (.tmp 57) (VP.bool (t.op == 12)), .is (.tmp 49) (VP.bool (t.op == 12)), .pt 72 (.blk (.val c3) 0), .is (.tmp 73) (VP.int .i64 t.op), .is (.tmp 74) (VP.bool (decide (t.op ≥ 13))), .is (.tmp 71) (VP.bool (decide (t.op ≥ 13))), .is (.tmp 75) (VP.eq v3 true true), .is (.tmp 76) (VP.int .i64 ((i : Nat) : Int)), .pt 77 (.row (.val v3) (i * 1)), .own 102 (.val v3) (R_int ((d.wantK t i).set i 1))] [(1, .is (.tmp 25) (VP.int .i64 ((i : Nat) : Int)))] [(0, .is (.tmp 78) (VP.int .i64 (((i + 1) : Nat) : Int))), (1, .is (.tmp 25) (VP.int .i64 (((i + 1) : Nat) : Int)))] [] [0, 1, 2, 3, 5, 6, 7, 8, 9, 10, 11, 12, 13, 14, 15, 16, 17, 18, 19, 20, 21, 22, 23, 24, 25, 26, 27, 28, 29, 30, 31, 32, 33, 34, 35, 36, 37, 38, 39, 40] [4] [[], [0]] [[1], []] rfl rfl follow rfl ⟨
                  wp rfl (does_addE (m := ((i : Nat) : Int)) (n := 1) (x := (((i + 1) : Nat) : Int)) (by omega) _ _ _ _ rfl rfl rfl rfl rfl (by omega) (ar_tmp (av_os 0 1 rfl rfl)) (ar_const (fun _ _ => rfl))),
                  wp rfl (does_move _ (.inl rfl) rfl rfl rfl rfl (ar_tmp (av_rs 0 0 rfl rfl))),
                  trivial⟩ ?_
                refine t_pick [39, 0, 1, 2, 3, 4, 5, 6, 7, 8, 9, 10, 11, 12, 13, 14, 15, 16, 17, 18, 19, 20, 21, 22, 23, 24, 25, 26, 27, 28, 29, 30, 31, 32, 33, 34, 35, 36, 37, 38, 40, 41] rfl ?_
                refine t_untmp rfl ?_
                refine t_weak (R' := R_int (d.wantK t (i + 1))) (fun _ _ _ _ h => by rw [← wantK_set, (show d.want t i = 1 by unfold ArD.want; (try rw [hb1]); (try rw [hb5]); (try rw [hb6]); (try rw [hb7]); (try rw [hb8]); (try rw [hb9]); (try rfl))]; exact h) rfl ?_
                refine nx_round (τ := {i : Nat // i ≤ t.kids.length}) (I := fun ⟨i, _⟩ => [.is (.tmp 0) (VP.ptr v), .is (.tmp 3) (VP.ptr c3), .is (.tmp 24) (VP.int .i64 ((t.kids.length : Nat) : Int)), .is (.tmp 25) (VP.int .i64 ((i : Nat) : Int)), .own 102 (.tmp 5) (R_int (d.wantK t i)), .own 101 (.val c3) (B_term t), .bor (.val v) (ArO us uf ut uo uh ub d.most), .bor (.val us) (R_sort d.sorts), .bor (.val uf) (R_fun d.funs), .bor (.val ut) (R_term d.terms), .bor (.val uo) (R_int d.of_), .bor (.val uh) (R_u64 d.hashes), .bor (.val ub) (rowsInt d.table)]) (μ := fun ⟨i, _⟩ => t.kids.length - i) (s := ⟨i, hi⟩) (⟨i + 1, by omega⟩) ?_ [1, 2, 3, 40, 0, 4, 5, 6, 7, 8, 9, 10, 11] ?_
                · exact (show t.kids.length - (i + 1) < t.kids.length - i by omega)
                · exact rfl
              · have hc9 := of_decide_eq_false hb9
                refine t_skip ?_
                refine nx_block ?_
                refine nx_block ?_
                refine nx_then ?_
                refine t_rg [.own 102 (.val v3) (R_int (d.wantK t i)), .is (.tmp 5) (VP.eq v3 true true), .is (.tmp 0) (VP.ptr v), .is (.tmp 3) (VP.ptr c3), .is (.tmp 24) (VP.int .i64 ((t.kids.length : Nat) : Int)), .own 101 (.val c3) (B_term t), .bor (.val v) (ArO us uf ut uo uh ub d.most), .bor (.val us) (R_sort d.sorts), .bor (.val uf) (R_fun d.funs), .bor (.val ut) (R_term d.terms), .bor (.val uo) (R_int d.of_), .bor (.val uh) (R_u64 d.hashes), .bor (.val ub) (rowsInt d.table), .is (.tmp 26) (VP.bool (decide (((i : Nat) : Int) < ((t.kids.length : Nat) : Int)))), .is (.tmp 27) (VP.int .i64 ((i : Nat) : Int)), .is (.tmp 6) (VP.int .i64 ((i : Nat) : Int)), .pt 29 (.blk (.val c3) 0), .is (.tmp 30) (VP.int .i64 t.op), .is (.tmp 31) (VP.bool (t.op == 10)), .is (.tmp 32) (VP.bool (t.op == 10)), .is (.tmp 33) (VP.int .i64 ((i : Nat) : Int)), .is (.tmp 34) (VP.bool (decide (((i : Nat) : Int) > 0))), .is (.tmp 35) (VP.bool (decide (((i : Nat) : Int) > 0))), .is (.tmp 28) (VP.bool (decide (((i : Nat) : Int) > 0))), .pt 50 (.blk (.val c3) 0), .is (.tmp 51) (VP.int .i64 t.op), .is (.tmp 52) (VP.bool (t.op == 11)), .is (.tmp 53) (VP.bool (t.op == 11)), .pt 54 (.blk (.val c3) 0), .is (.tmp 55) (VP.int .i64 t.op), .is (.tmp 56) (VP.bool (t.op == 12)), .is (.tmp 57) (VP.bool (t.op == 12)), .is (.tmp 49) (VP.bool (t.op == 12)), .pt 72 (.blk (.val c3) 0), .is (.tmp 73) (VP.int .i64 t.op), .is (.tmp 74) (VP.bool (decide (t.op ≥ 13))), .is (.tmp 71) (VP.bool (decide (t.op ≥ 13)))] [(1, .is (.tmp 25) (VP.int .i64 ((i : Nat) : Int)))] [(0, .is (.tmp 78) (VP.int .i64 (((i + 1) : Nat) : Int))), (1, .is (.tmp 25) (VP.int .i64 (((i + 1) : Nat) : Int)))] [] [0, 1, 2, 3, 4, 6, 7, 8, 9, 10, 11, 12, 13, 14, 15, 16, 17, 18, 19, 20, 21, 22, 23, 24, 25, 26, 27, 28, 29, 30, 31, 32, 33, 34, 35, 36, 37] [5] [[], [0]] [[1], []] rfl rfl follow rfl ⟨
                  wp rfl (does_addE (m := ((i : Nat) : Int)) (n := 1) (x := (((i + 1) : Nat) : Int)) (by omega) _ _ _ _ rfl rfl rfl rfl rfl (by omega) (ar_tmp (av_os 0 1 rfl rfl)) (ar_const (fun _ _ => rfl))),
                  wp rfl (does_move _ (.inl rfl) rfl rfl rfl rfl (ar_tmp (av_rs 0 0 rfl rfl))),
                  trivial⟩ ?_
                refine t_untmp rfl ?_
                refine t_weak (R' := R_int (d.wantK t (i + 1))) (fun _ _ _ _ h => by rw [← wantK_same (show d.want t i = 0 by unfold ArD.want; (try rw [hb1]); (try rw [hb5]); (try rw [hb6]); (try rw [hb7]); (try rw [hb8]); (try rw [hb9]); (try rfl))]; exact h) rfl ?_
                refine nx_round (τ := {i : Nat // i ≤ t.kids.length}) (I := fun ⟨i, _⟩ => [.is (.tmp 0) (VP.ptr v), .is (.tmp 3) (VP.ptr c3), .is (.tmp 24) (VP.int .i64 ((t.kids.length : Nat) : Int)), .is (.tmp 25) (VP.int .i64 ((i : Nat) : Int)), .own 102 (.tmp 5) (R_int (d.wantK t i)), .own 101 (.val c3) (B_term t), .bor (.val v) (ArO us uf ut uo uh ub d.most), .bor (.val us) (R_sort d.sorts), .bor (.val uf) (R_fun d.funs), .bor (.val ut) (R_term d.terms), .bor (.val uo) (R_int d.of_), .bor (.val uh) (R_u64 d.hashes), .bor (.val ub) (rowsInt d.table)]) (μ := fun ⟨i, _⟩ => t.kids.length - i) (s := ⟨i, hi⟩) (⟨i + 1, by omega⟩) ?_ [1, 2, 3, 37, 0, 4, 5, 6, 7, 8, 9, 10, 11] ?_
                · exact (show t.kids.length - (i + 1) < t.kids.length - i by omega)
                · exact rfl
      · have hc5 := ne_of_beq_false hb5
        refine t_rg [.own 102 (.val v3) (R_int (d.wantK t i)), .is (.tmp 5) (VP.eq v3 true true), .is (.tmp 0) (VP.ptr v), .is (.tmp 3) (VP.ptr c3), .is (.tmp 24) (VP.int .i64 ((t.kids.length : Nat) : Int)), .is (.tmp 25) (VP.int .i64 ((i : Nat) : Int)), .own 101 (.val c3) (B_term t), .bor (.val v) (ArO us uf ut uo uh ub d.most), .bor (.val us) (R_sort d.sorts), .bor (.val uf) (R_fun d.funs), .bor (.val ut) (R_term d.terms), .bor (.val uo) (R_int d.of_), .bor (.val uh) (R_u64 d.hashes), .bor (.val ub) (rowsInt d.table), .is (.tmp 26) (VP.bool (decide (((i : Nat) : Int) < ((t.kids.length : Nat) : Int)))), .is (.tmp 27) (VP.int .i64 ((i : Nat) : Int)), .is (.tmp 6) (VP.int .i64 ((i : Nat) : Int))] [] [(0, .pt 29 (.blk (.val c3) 0)), (1, .is (.tmp 30) (VP.int .i64 t.op)), (2, .is (.tmp 31) (VP.bool (t.op == 10))), (3, .is (.tmp 32) (VP.bool (t.op == 10))), (4, .is (.tmp 33) (VP.undef)), (5, .is (.tmp 34) (VP.undef)), (6, .is (.tmp 35) (VP.bool false)), (7, .is (.tmp 28) (VP.bool false))] [] [0, 1, 2, 3, 4, 5, 6, 7, 8, 9, 10, 11, 12, 13, 14, 15, 16] [] DagF_p48_7 DagF_s48_7 rfl rfl follow rfl ⟨
          wp rfl (does_field _ _ _ 0 DagF_f_api_Term_0 rfl rfl rfl rfl rfl rfl (pt_ptr (ar_tmp (av_fs 3 rfl)))),
          wp rfl (does_loadOne _ DagF_one_int rfl rfl rfl rfl rfl (pt_pt (av_rs 0 0 rfl rfl)) (rds_box (off := 0) (av_fs 6 rfl) (hq_one rfl))),
          wp rfl (does_cmp (m := t.op) (n := 10) _ _ _ _ _ rfl rfl rfl rfl rfl rfl .i64 (ar_tmp (av_rs 1 1 rfl rfl)) (ar_const (fun _ _ => rfl))),
          wp rfl (does_move _ (.inl rfl) rfl rfl rfl rfl (ar_tmp (av_rs 2 2 rfl rfl))),
          .inr (skips_guardU false rfl rfl rfl (av_bool hb5 (av_rs 3 3 rfl rfl)) rfl rfl rfl rfl),
          .inr (skips_guardU false rfl rfl rfl (av_bool hb5 (av_rs 3 3 rfl rfl)) rfl rfl rfl rfl),
          wp rfl (does_pick false _ _ _ rfl rfl rfl rfl rfl (ar_tmp (av_bool hb5 (av_rs 3 3 rfl rfl))) (ar_const (fun _ _ => rfl))),
          wp rfl (does_move _ (.inr rfl) rfl rfl rfl rfl (ar_tmp (av_rs 6 6 rfl rfl))),
          trivial⟩ ?_
        refine nx_then ?_
        refine t_cond_f 24 rfl ?_
        refine t_seq ?_
        rcases Bool.eq_false_or_eq_true (t.op == 11) with hb10 | hb10
        · have hc10 := eq_of_beq hb10
          refine t_rg [.own 102 (.val v3) (R_int (d.wantK t i)), .is (.tmp 5) (VP.eq v3 true true), .is (.tmp 0) (VP.ptr v), .is (.tmp 3) (VP.ptr c3), .is (.tmp 24) (VP.int .i64 ((t.kids.length : Nat) : Int)), .is (.tmp 25) (VP.int .i64 ((i : Nat) : Int)), .own 101 (.val c3) (B_term t), .bor (.val v) (ArO us uf ut uo uh ub d.most), .bor (.val us) (R_sort d.sorts), .bor (.val uf) (R_fun d.funs), .bor (.val ut) (R_term d.terms), .bor (.val uo) (R_int d.of_), .bor (.val uh) (R_u64 d.hashes), .bor (.val ub) (rowsInt d.table), .is (.tmp 26) (VP.bool (decide (((i : Nat) : Int) < ((t.kids.length : Nat) : Int)))), .is (.tmp 27) (VP.int .i64 ((i : Nat) : Int)), .is (.tmp 6) (VP.int .i64 ((i : Nat) : Int)), .pt 29 (.blk (.val c3) 0), .is (.tmp 30) (VP.int .i64 t.op), .is (.tmp 31) (VP.bool (t.op == 10)), .is (.tmp 32) (VP.bool (t.op == 10)), .is (.tmp 33) (VP.undef), .is (.tmp 34) (VP.undef), .is (.tmp 35) (VP.bool false), .is (.tmp 28) (VP.bool false)] [] [(0, .pt 50 (.blk (.val c3) 0)), (1, .is (.tmp 51) (VP.int .i64 t.op)), (2, .is (.tmp 52) (VP.bool (t.op == 11))), (3, .is (.tmp 53) (VP.bool (t.op == 11))), (4, .is (.tmp 54) (VP.undef)), (5, .is (.tmp 55) (VP.undef)), (6, .is (.tmp 56) (VP.undef)), (7, .is (.tmp 57) (VP.bool true)), (8, .is (.tmp 49) (VP.bool true))] [] [0, 1, 2, 3, 4, 5, 6, 7, 8, 9, 10, 11, 12, 13, 14, 15, 16, 17, 18, 19, 20, 21, 22, 23, 24] [] DagF_p48_9 DagF_s48_9 rfl rfl follow rfl ⟨
            wp rfl (does_field _ _ _ 0 DagF_f_api_Term_0 rfl rfl rfl rfl rfl rfl (pt_ptr (ar_tmp (av_fs 3 rfl)))),
            wp rfl (does_loadOne _ DagF_one_int rfl rfl rfl rfl rfl (pt_pt (av_rs 0 0 rfl rfl)) (rds_box (off := 0) (av_fs 6 rfl) (hq_one rfl))),
            wp rfl (does_cmp (m := t.op) (n := 11) _ _ _ _ _ rfl rfl rfl rfl rfl rfl .i64 (ar_tmp (av_rs 1 1 rfl rfl)) (ar_const (fun _ _ => rfl))),
            wp rfl (does_move _ (.inl rfl) rfl rfl rfl rfl (ar_tmp (av_rs 2 2 rfl rfl))),
            .inr (skips_guardU true rfl rfl rfl (av_bool hb10 (av_rs 3 3 rfl rfl)) rfl rfl rfl rfl),
            .inr (skips_guardU true rfl rfl rfl (av_bool hb10 (av_rs 3 3 rfl rfl)) rfl rfl rfl rfl),
            .inr (skips_guardU true rfl rfl rfl (av_bool hb10 (av_rs 3 3 rfl rfl)) rfl rfl rfl rfl),
            wp rfl (does_pick true _ _ _ rfl rfl rfl rfl rfl (ar_tmp (av_bool hb10 (av_rs 3 3 rfl rfl))) (ar_const (fun _ _ => rfl))),
            wp rfl (does_move _ (.inr rfl) rfl rfl rfl rfl (ar_tmp (av_rs 7 7 rfl rfl))),
            trivial⟩ ?_
          refine nx_then ?_
          refine t_cond_t 33 rfl ?_
          refine t_rg [.is (.tmp 5) (VP.eq v3 true true), .is (.tmp 0) (VP.ptr v), .is (.tmp 3) (VP.ptr c3), .is (.tmp 24) (VP.int .i64 ((t.kids.length : Nat) : Int)), .is (.tmp 25) (VP.int .i64 ((i : Nat) : Int)), .own 101 (.val c3) (B_term t), .bor (.val v) (ArO us uf ut uo uh ub d.most), .bor (.val us) (R_sort d.sorts), .bor (.val uf) (R_fun d.funs), .bor (.val ut) (R_term d.terms), .bor (.val uo) (R_int d.of_), .bor (.val uh) (R_u64 d.hashes), .bor (.val ub) (rowsInt d.table), .is (.tmp 26) (VP.bool (decide (((i : Nat) : Int) < ((t.kids.length : Nat) : Int)))), .is (.tmp 27) (VP.int .i64 ((i : Nat) : Int)), .is (.tmp 6) (VP.int .i64 ((i : Nat) : Int)), .pt 29 (.blk (.val c3) 0), .is (.tmp 30) (VP.int .i64 t.op), .is (.tmp 31) (VP.bool (t.op == 10)), .is (.tmp 32) (VP.bool (t.op == 10)), .is (.tmp 33) (VP.undef), .is (.tmp 34) (VP.undef), .is (.tmp 35) (VP.bool false), .is (.tmp 28) (VP.bool false), .pt 50 (.blk (.val c3) 0), .is (.tmp 51) (VP.int .i64 t.op), .is (.tmp 52) (VP.bool (t.op == 11)), .is (.tmp 53) (VP.bool (t.op == 11)), .is (.tmp 54) (VP.undef), .is (.tmp 55) (VP.undef), .is (.tmp 56) (VP.undef), .is (.tmp 57) (VP.bool true), .is (.tmp 49) (VP.bool true)] [(13, .own 102 (.val v3) (R_int (d.wantK t i)))] [(0, .is (.tmp 58) (VP.eq v3 true true)), (1, .is (.tmp 59) (VP.int .i64 ((i : Nat) : Int))), (2, .is (.tmp 60) (VP.ptr v)), (3, .is (.tmp 61) (VP.ptr v)), (4, .pt 62 (.blk (.val v) 3)), (5, .is (.tmp 63) (VP.eq uo true true)), (6, .pt 64 (.blk (.val c3) 2)), (7, .is (.tmp 65) (O_int t.kids)), (8, .pt 66 (.row (.tmp 65) (0 * 1))), (9, .is (.tmp 67) (VP.int .i64 (kid t 0))), (10, .pt 68 (.row (.val uo) (((kid t 0).toNat) * 1))), (11, .is (.tmp 69) (VP.int .i64 (d.ofk (kid t 0)))), (12, .pt 70 (.row (.val v3) (i * 1))), (13, .own 102 (.val v3) (R_int ((d.wantK t i).set i (d.ofk (kid t 0)))))] [] [1, 2, 3, 4, 5, 6, 7, 8, 9, 10, 11, 12, 13, 14, 15, 16, 17, 18, 19, 20, 21, 22, 23, 24, 25, 26, 27, 28, 29, 30, 31, 32, 33] [0] DagF_p48_10 DagF_s48_10 rfl rfl follow rfl ⟨
            wp rfl (does_move _ (.inl rfl) rfl rfl rfl rfl (ar_tmp (av_fs 0 rfl))),
            wp rfl (does_move _ (.inl rfl) rfl rfl rfl rfl (ar_tmp (av_fs 15 rfl))),
            wp rfl (does_move _ (.inl rfl) rfl rfl rfl rfl (ar_tmp (av_fs 1 rfl))),
            wp rfl (does_nil _ rfl rfl rfl rfl rfl (ar_tmp (av_rs 2 2 rfl rfl))),
            wp rfl (does_field _ _ _ 3 DagF_f_dag_Arena_3 rfl rfl rfl rfl rfl rfl (pt_ptr (ar_tmp (av_rs 3 3 rfl rfl)))),
            wp rfl (does_loadOne _ DagF_one___int rfl rfl rfl rfl rfl (pt_pt (av_rs 4 4 rfl rfl)) (rds_bbox (off := 3) (av_fs 6 rfl) (hq_one rfl))),
            wp rfl (does_field _ _ _ 2 DagF_f_api_Term_2 rfl rfl rfl rfl rfl rfl (pt_ptr (ar_tmp (av_fs 2 rfl)))),
            wp rfl (does_loadOne _ DagF_one___int rfl rfl rfl rfl rfl (pt_pt (av_rs 6 6 rfl rfl)) (rds_box (off := 2) (av_fs 5 rfl) (hq_one rfl))),
            wp rfl (does_index (m := 0) _ _ Try.underlying28 DagF_size_int rfl rfl rfl rfl rfl _ (by omega) rfl (by omega) (sl_ro (av_rs 7 7 rfl rfl) (flat_nil_iff cInt_len (by decide) _)) (ar_int_eq (by omega) (ar_const (fun _ _ => rfl)))),
            wp rfl (does_loadOne _ DagF_one_int rfl rfl rfl rfl rfl (pt_pt (av_rs 8 8 rfl rfl)) (rds_ro (av_rs 7 7 rfl rfl) (hq_flatV1 cInt_len (at_getD (by omega)) 0 (by omega) rfl))),
            wp rfl (does_index (m := (kid t 0).toNat) _ _ Try.underlying28 DagF_size_int rfl rfl rfl rfl rfl _ (by omega) rfl (by omega) (sl_bor (av_fs 10 rfl) (ar_tmp (av_rs 5 5 rfl rfl))) (ar_int_eq (by omega) (ar_tmp (av_rs 9 9 rfl rfl)))),
            wp rfl (does_loadOne _ DagF_one_int rfl rfl rfl rfl rfl (pt_pt (av_rs 10 10 rfl rfl)) (rds_brow (av_fs 10 rfl) (hq_flat1 cInt_len (at_getD (by omega)) 0 (by omega) rfl))),
            wp rfl (does_index (m := i) _ _ Try.underlying28 DagF_size_int rfl rfl rfl rfl rfl _ (by omega) rfl (by omega) (sl_own (av_os 0 13 rfl rfl) (ar_tmp (av_rs 0 0 rfl rfl))) (ar_tmp (av_rs 1 1 rfl rfl))),
            wp rfl (does_storeRow (off := i * 1) (n := (d.wantK t i).length) (Rs := ((d.wantK t i).flatMap cInt).map HA.of) (Qs := (cInt (d.ofk (kid t 0))).map HA.of) _ _ DagF_size_int rfl rfl rfl rfl (by rw [List.length_set]) (flat_put cInt_len (by omega)) (by rw [flat_lenH cInt_len, List.length_map, cInt_len]; omega) rfl (pt_pt (av_rs 12 12 rfl rfl)) (av_os 0 13 rfl rfl) (cv_one rfl (mv_vp (ar_tmp (av_rs 11 11 rfl rfl))))),
            trivial⟩ ?_
          refine nx_block ?_
          refine nx_block ?_
          refine nx_then ?_
          refine t_rg [.is (.tmp 5) (VP.eq v3 true true), .is (.tmp 0) (VP.ptr v), .is (.tmp 3) (VP.ptr c3), .is (.tmp 24) (VP.int .i64 ((t.kids.length : Nat) : Int)), .own 101 (.val c3) (B_term t), .bor (.val v) (ArO us uf ut uo uh ub d.most), .bor (.val us) (R_sort d.sorts), .bor (.val uf) (R_fun d.funs), .bor (.val ut) (R_term d.terms), .bor (.val uo) (R_int d.of_), .bor (.val uh) (R_u64 d.hashes), .bor (.val ub) (rowsInt d.table), .is (.tmp 26) (VP.bool (decide (((i : Nat) : Int) < ((t.kids.length : Nat) : Int)))), .is (.tmp 27) (VP.int .i64 ((i : Nat) : Int)), .is (.tmp 6) (VP.int .i64 ((i : Nat) : Int)), .pt 29 (.blk (.val c3) 0), .is (.tmp 30) (VP.int .i64 t.op), .is (.tmp 31) (VP.bool (t.op == 10)), .is (.tmp 32) (VP.bool (t.op == 10)), .is (.tmp 33) (VP.undef), .is (.tmp 34) (VP.undef), .is (.tmp 35) (VP.bool false), .is (.tmp 28) (VP.bool false), .pt 50 (.blk (.val c3) 0), .is (.tmp 51) (VP.int .i64 t.op), .is (.tmp 52) (VP.bool (t.op == 11)), .is (.tmp 53) (VP.bool (t.op == 11)), .is (.tmp 54) (VP.undef), .is (.tmp 55) (VP.undef), .is (.tmp 56) (VP.undef), .is (.tmp 57) (VP.bool true), .is (.tmp 49) (VP.bool true), .is (.tmp 58) (VP.eq v3 true true), .is (.tmp 59) (VP.int .i64 ((i : Nat) : Int)), .is (.tmp 60) (VP.ptr v), .is (.tmp 61) (VP.ptr v), .pt 62 (.blk (.val v) 3), .is (.tmp 63) (VP.eq uo true true), .pt 64 (.blk (.val c3) 2), .is (.tmp 65) (O_int t.kids), .pt 66 (.row (.tmp 65) (0 * 1)), .is (.tmp 67) (VP.int .i64 (kid t 0)), .pt 68 (.row (.val uo) (((kid t 0).toNat) * 1)), .is (.tmp 69) (VP.int .i64 (d.ofk (kid t 0))), .pt 70 (.row (.val v3) (i * 1)), .own 102 (.val v3) (R_int ((d.wantK t i).set i (d.ofk (kid t 0))))] [(1, .is (.tmp 25) (VP.int .i64 ((i : Nat) : Int)))] [(0, .is (.tmp 78) (VP.int .i64 (((i + 1) : Nat) : Int))), (1, .is (.tmp 25) (VP.int .i64 (((i + 1) : Nat) : Int)))] [] [0, 1, 2, 3, 5, 6, 7, 8, 9, 10, 11, 12, 13, 14, 15, 16, 17, 18, 19, 20, 21, 22, 23, 24, 25, 26, 27, 28, 29, 30, 31, 32, 33, 34, 35, 36, 37, 38, 39, 40, 41, 42, 43, 44, 45, 46] [4] [[], [0]] [[1], []] rfl rfl follow rfl ⟨
            wp rfl (does_addE (m := ((i : Nat) : Int)) (n := 1) (x := (((i + 1) : Nat) : Int)) (by omega) _ _ _ _ rfl rfl rfl rfl rfl (by omega) (ar_tmp (av_os 0 1 rfl rfl)) (ar_const (fun _ _ => rfl))),
            wp rfl (does_move _ (.inl rfl) rfl rfl rfl rfl (ar_tmp (av_rs 0 0 rfl rfl))),
            trivial⟩ ?_
          refine t_pick [45, 0, 1, 2, 3, 4, 5, 6, 7, 8, 9, 10, 11, 12, 13, 14, 15, 16, 17, 18, 19, 20, 21, 22, 23, 24, 25, 26, 27, 28, 29, 30, 31, 32, 33, 34, 35, 36, 37, 38, 39, 40, 41, 42, 43, 44, 46, 47] rfl ?_
          refine t_untmp rfl ?_
          refine t_weak (R' := R_int (d.wantK t (i + 1))) (fun _ _ _ _ h => by rw [← wantK_set, (show d.want t i = (d.ofk (kid t 0)) by unfold ArD.want; (try rw [hb1]); (try rw [hb5]); (try rw [hb10]); (try rfl))]; exact h) rfl ?_
          refine nx_round (τ := {i : Nat // i ≤ t.kids.length}) (I := fun ⟨i, _⟩ => [.is (.tmp 0) (VP.ptr v), .is (.tmp 3) (VP.ptr c3), .is (.tmp 24) (VP.int .i64 ((t.kids.length : Nat) : Int)), .is (.tmp 25) (VP.int .i64 ((i : Nat) : Int)), .own 102 (.tmp 5) (R_int (d.wantK t i)), .own 101 (.val c3) (B_term t), .bor (.val v) (ArO us uf ut uo uh ub d.most), .bor (.val us) (R_sort d.sorts), .bor (.val uf) (R_fun d.funs), .bor (.val ut) (R_term d.terms), .bor (.val uo) (R_int d.of_), .bor (.val uh) (R_u64 d.hashes), .bor (.val ub) (rowsInt d.table)]) (μ := fun ⟨i, _⟩ => t.kids.length - i) (s := ⟨i, hi⟩) (⟨i + 1, by omega⟩) ?_ [1, 2, 3, 46, 0, 4, 5, 6, 7, 8, 9, 10, 11] ?_
          · exact (show t.kids.length - (i + 1) < t.kids.length - i by omega)
          · exact rfl
        · have hc10 := ne_of_beq_false hb10
          refine t_rg [.own 102 (.val v3) (R_int (d.wantK t i)), .is (.tmp 5) (VP.eq v3 true true), .is (.tmp 0) (VP.ptr v), .is (.tmp 3) (VP.ptr c3), .is (.tmp 24) (VP.int .i64 ((t.kids.length : Nat) : Int)), .is (.tmp 25) (VP.int .i64 ((i : Nat) : Int)), .own 101 (.val c3) (B_term t), .bor (.val v) (ArO us uf ut uo uh ub d.most), .bor (.val us) (R_sort d.sorts), .bor (.val uf) (R_fun d.funs), .bor (.val ut) (R_term d.terms), .bor (.val uo) (R_int d.of_), .bor (.val uh) (R_u64 d.hashes), .bor (.val ub) (rowsInt d.table), .is (.tmp 26) (VP.bool (decide (((i : Nat) : Int) < ((t.kids.length : Nat) : Int)))), .is (.tmp 27) (VP.int .i64 ((i : Nat) : Int)), .is (.tmp 6) (VP.int .i64 ((i : Nat) : Int)), .pt 29 (.blk (.val c3) 0), .is (.tmp 30) (VP.int .i64 t.op), .is (.tmp 31) (VP.bool (t.op == 10)), .is (.tmp 32) (VP.bool (t.op == 10)), .is (.tmp 33) (VP.undef), .is (.tmp 34) (VP.undef), .is (.tmp 35) (VP.bool false), .is (.tmp 28) (VP.bool false)] [] [(0, .pt 50 (.blk (.val c3) 0)), (1, .is (.tmp 51) (VP.int .i64 t.op)), (2, .is (.tmp 52) (VP.bool (t.op == 11))), (3, .is (.tmp 53) (VP.bool (t.op == 11))), (4, .pt 54 (.blk (.val c3) 0)), (5, .is (.tmp 55) (VP.int .i64 t.op)), (6, .is (.tmp 56) (VP.bool (t.op == 12))), (7, .is (.tmp 57) (VP.bool (t.op == 12))), (8, .is (.tmp 49) (VP.bool (t.op == 12)))] [] [0, 1, 2, 3, 4, 5, 6, 7, 8, 9, 10, 11, 12, 13, 14, 15, 16, 17, 18, 19, 20, 21, 22, 23, 24] [] DagF_p48_9 DagF_s48_9 rfl rfl follow rfl ⟨
            wp rfl (does_field _ _ _ 0 DagF_f_api_Term_0 rfl rfl rfl rfl rfl rfl (pt_ptr (ar_tmp (av_fs 3 rfl)))),
            wp rfl (does_loadOne _ DagF_one_int rfl rfl rfl rfl rfl (pt_pt (av_rs 0 0 rfl rfl)) (rds_box (off := 0) (av_fs 6 rfl) (hq_one rfl))),
            wp rfl (does_cmp (m := t.op) (n := 11) _ _ _ _ _ rfl rfl rfl rfl rfl rfl .i64 (ar_tmp (av_rs 1 1 rfl rfl)) (ar_const (fun _ _ => rfl))),
            wp rfl (does_move _ (.inl rfl) rfl rfl rfl rfl (ar_tmp (av_rs 2 2 rfl rfl))),
            .inl ⟨wants_guard false rfl rfl rfl (av_bool hb10 (av_rs 3 3 rfl rfl)), does_field _ _ _ 0 DagF_f_api_Term_0 rfl rfl rfl rfl rfl rfl (pt_ptr (ar_tmp (av_fs 3 rfl)))⟩,
            .inl ⟨wants_guard false rfl rfl rfl (av_bool hb10 (av_rs 3 3 rfl rfl)), does_loadOne _ DagF_one_int rfl rfl rfl rfl rfl (pt_pt (av_rs 4 4 rfl rfl)) (rds_box (off := 0) (av_fs 6 rfl) (hq_one rfl))⟩,
            .inl ⟨wants_guard false rfl rfl rfl (av_bool hb10 (av_rs 3 3 rfl rfl)), does_cmp (m := t.op) (n := 12) _ _ _ _ _ rfl rfl rfl rfl rfl rfl .i64 (ar_tmp (av_rs 5 5 rfl rfl)) (ar_const (fun _ _ => rfl))⟩,
            wp rfl (does_pick false _ _ _ rfl rfl rfl rfl rfl (ar_tmp (av_bool hb10 (av_rs 3 3 rfl rfl))) (ar_tmp (av_rs 6 6 rfl rfl))),
            wp rfl (does_move _ (.inr rfl) rfl rfl rfl rfl (ar_tmp (av_rs 7 7 rfl rfl))),
            trivial⟩ ?_
          refine nx_then ?_
          refine t_split 33 rfl (fun hb11 => ?_) (fun hb11 => ?_)
          · have hc11 := eq_of_beq hb11
            refine t_rg [.is (.tmp 5) (VP.eq v3 true true), .is (.tmp 0) (VP.ptr v), .is (.tmp 3) (VP.ptr c3), .is (.tmp 24) (VP.int .i64 ((t.kids.length : Nat) : Int)), .is (.tmp 25) (VP.int .i64 ((i : Nat) : Int)), .own 101 (.val c3) (B_term t), .bor (.val v) (ArO us uf ut uo uh ub d.most), .bor (.val us) (R_sort d.sorts), .bor (.val uf) (R_fun d.funs), .bor (.val ut) (R_term d.terms), .bor (.val uo) (R_int d.of_), .bor (.val uh) (R_u64 d.hashes), .bor (.val ub) (rowsInt d.table), .is (.tmp 26) (VP.bool (decide (((i : Nat) : Int) < ((t.kids.length : Nat) : Int)))), .is (.tmp 27) (VP.int .i64 ((i : Nat) : Int)), .is (.tmp 6) (VP.int .i64 ((i : Nat) : Int)), .pt 29 (.blk (.val c3) 0), .is (.tmp 30) (VP.int .i64 t.op), .is (.tmp 31) (VP.bool (t.op == 10)), .is (.tmp 32) (VP.bool (t.op == 10)), .is (.tmp 33) (VP.undef), .is (.tmp 34) (VP.undef), .is (.tmp 35) (VP.bool false), .is (.tmp 28) (VP.bool false), .pt 50 (.blk (.val c3) 0), .is (.tmp 51) (VP.int .i64 t.op), .is (.tmp 52) (VP.bool (t.op == 11)), .is (.tmp 53) (VP.bool (t.op == 11)), .pt 54 (.blk (.val c3) 0), .is (.tmp 55) (VP.int .i64 t.op), .is (.tmp 56) (VP.bool (t.op == 12)), .is (.tmp 57) (VP.bool (t.op == 12)), .is (.tmp 49) (VP.bool (t.op == 12))] [(13, .own 102 (.val v3) (R_int (d.wantK t i)))] [(0, .is (.tmp 58) (VP.eq v3 true true)), (1, .is (.tmp 59) (VP.int .i64 ((i : Nat) : Int))), (2, .is (.tmp 60) (VP.ptr v)), (3, .is (.tmp 61) (VP.ptr v)), (4, .pt 62 (.blk (.val v) 3)), (5, .is (.tmp 63) (VP.eq uo true true)), (6, .pt 64 (.blk (.val c3) 2)), (7, .is (.tmp 65) (O_int t.kids)), (8, .pt 66 (.row (.tmp 65) (0 * 1))), (9, .is (.tmp 67) (VP.int .i64 (kid t 0))), (10, .pt 68 (.row (.val uo) (((kid t 0).toNat) * 1))), (11, .is (.tmp 69) (VP.int .i64 (d.ofk (kid t 0)))), (12, .pt 70 (.row (.val v3) (i * 1))), (13, .own 102 (.val v3) (R_int ((d.wantK t i).set i (d.ofk (kid t 0)))))] [] [1, 2, 3, 4, 5, 6, 7, 8, 9, 10, 11, 12, 13, 14, 15, 16, 17, 18, 19, 20, 21, 22, 23, 24, 25, 26, 27, 28, 29, 30, 31, 32, 33] [0] DagF_p48_10 DagF_s48_10 rfl rfl follow rfl ⟨
              wp rfl (does_move _ (.inl rfl) rfl rfl rfl rfl (ar_tmp (av_fs 0 rfl))),
              wp rfl (does_move _ (.inl rfl) rfl rfl rfl rfl (ar_tmp (av_fs 15 rfl))),
              wp rfl (does_move _ (.inl rfl) rfl rfl rfl rfl (ar_tmp (av_fs 1 rfl))),
              wp rfl (does_nil _ rfl rfl rfl rfl rfl (ar_tmp (av_rs 2 2 rfl rfl))),
              wp rfl (does_field _ _ _ 3 DagF_f_dag_Arena_3 rfl rfl rfl rfl rfl rfl (pt_ptr (ar_tmp (av_rs 3 3 rfl rfl)))),
              wp rfl (does_loadOne _ DagF_one___int rfl rfl rfl rfl rfl (pt_pt (av_rs 4 4 rfl rfl)) (rds_bbox (off := 3) (av_fs 6 rfl) (hq_one rfl))),
              wp rfl (does_field _ _ _ 2 DagF_f_api_Term_2 rfl rfl rfl rfl rfl rfl (pt_ptr (ar_tmp (av_fs 2 rfl)))),
              wp rfl (does_loadOne _ DagF_one___int rfl rfl rfl rfl rfl (pt_pt (av_rs 6 6 rfl rfl)) (rds_box (off := 2) (av_fs 5 rfl) (hq_one rfl))),
              wp rfl (does_index (m := 0) _ _ Try.underlying28 DagF_size_int rfl rfl rfl rfl rfl _ (by omega) rfl (by omega) (sl_ro (av_rs 7 7 rfl rfl) (flat_nil_iff cInt_len (by decide) _)) (ar_int_eq (by omega) (ar_const (fun _ _ => rfl)))),
              wp rfl (does_loadOne _ DagF_one_int rfl rfl rfl rfl rfl (pt_pt (av_rs 8 8 rfl rfl)) (rds_ro (av_rs 7 7 rfl rfl) (hq_flatV1 cInt_len (at_getD (by omega)) 0 (by omega) rfl))),
              wp rfl (does_index (m := (kid t 0).toNat) _ _ Try.underlying28 DagF_size_int rfl rfl rfl rfl rfl _ (by omega) rfl (by omega) (sl_bor (av_fs 10 rfl) (ar_tmp (av_rs 5 5 rfl rfl))) (ar_int_eq (by omega) (ar_tmp (av_rs 9 9 rfl rfl)))),
              wp rfl (does_loadOne _ DagF_one_int rfl rfl rfl rfl rfl (pt_pt (av_rs 10 10 rfl rfl)) (rds_brow (av_fs 10 rfl) (hq_flat1 cInt_len (at_getD (by omega)) 0 (by omega) rfl))),
              wp rfl (does_index (m := i) _ _ Try.underlying28 DagF_size_int rfl rfl rfl rfl rfl _ (by omega) rfl (by omega) (sl_own (av_os 0 13 rfl rfl) (ar_tmp (av_rs 0 0 rfl rfl))) (ar_tmp (av_rs 1 1 rfl rfl))),
              wp rfl (does_storeRow (off := i * 1) (n := (d.wantK t i).length) (Rs := ((d.wantK t i).flatMap cInt).map HA.of) (Qs := (cInt (d.ofk (kid t 0))).map HA.of) _ _ DagF_size_int rfl rfl rfl rfl (by rw [List.length_set]) (flat_put cInt_len (by omega)) (by rw [flat_lenH cInt_len, List.length_map, cInt_len]; omega) rfl (pt_pt (av_rs 12 12 rfl rfl)) (av_os 0 13 rfl rfl) (cv_one rfl (mv_vp (ar_tmp (av_rs 11 11 rfl rfl))))),
              trivial⟩ ?_
            refine nx_block ?_
            refine nx_block ?_
            refine nx_then ?_
            refine t_rg [.is (.tmp 5) (VP.eq v3 true true), .is (.tmp 0) (VP.ptr v), .is (.tmp 3) (VP.ptr c3), .is (.tmp 24) (VP.int .i64 ((t.kids.length : Nat) : Int)), .own 101 (.val c3) (B_term t), .bor (.val v) (ArO us uf ut uo uh ub d.most), .bor (.val us) (R_sort d.sorts), .bor (.val uf) (R_fun d.funs), .bor (.val ut) (R_term d.terms), .bor (.val uo) (R_int d.of_), .bor (.val uh) (R_u64 d.hashes), .bor (.val ub) (rowsInt d.table), .is (.tmp 26) (VP.bool (decide (((i : Nat) : Int) < ((t.kids.length : Nat) : Int)))), .is (.tmp 27) (VP.int .i64 ((i : Nat) : Int)), .is (.tmp 6) (VP.int .i64 ((i : Nat) : Int)), .pt 29 (.blk (.val c3) 0), .is (.tmp 30) (VP.int .i64 t.op), .is (.tmp 31) (VP.bool (t.op == 10)), .is (.tmp 32) (VP.bool (t.op == 10)), .is (.tmp 33) (VP.undef), .is (.tmp 34) (VP.undef), .is (.tmp 35) (VP.bool false), .is (.tmp 28) (VP.bool false), .pt 50 (.blk (.val c3) 0), .is (.tmp 51) (VP.int .i64 t.op), .is (.tmp 52) (VP.bool (t.op == 11)), .is (.tmp 53) (VP.bool (t.op == 11)), .pt 54 (.blk (.val c3) 0), .is (.tmp 55) (VP.int .i64 t.op), .is (.tmp 56) (VP.bool (t.op == 12)), .is (.tmp 57) (VP.bool (t.op == 12)), .is (.tmp 49) (VP.bool (t.op == 12)), .is (.tmp 58) (VP.eq v3 true true), .is (.tmp 59) (VP.int .i64 ((i : Nat) : Int)), .is (.tmp 60) (VP.ptr v), .is (.tmp 61) (VP.ptr v), .pt 62 (.blk (.val v) 3), .is (.tmp 63) (VP.eq uo true true), .pt 64 (.blk (.val c3) 2), .is (.tmp 65) (O_int t.kids), .pt 66 (.row (.tmp 65) (0 * 1)), .is (.tmp 67) (VP.int .i64 (kid t 0)), .pt 68 (.row (.val uo) (((kid t 0).toNat) * 1)), .is (.tmp 69) (VP.int .i64 (d.ofk (kid t 0))), .pt 70 (.row (.val v3) (i * 1)), .own 102 (.val v3) (R_int ((d.wantK t i).set i (d.ofk (kid t 0))))] [(1, .is (.tmp 25) (VP.int .i64 ((i : Nat) : Int)))] [(0, .is (.tmp 78) (VP.int .i64 (((i + 1) : Nat) : Int))), (1, .is (.tmp 25) (VP.int .i64 (((i + 1) : Nat) : Int)))] [] [0, 1, 2, 3, 5, 6, 7, 8, 9, 10, 11, 12, 13, 14, 15, 16, 17, 18, 19, 20, 21, 22, 23, 24, 25, 26, 27, 28, 29, 30, 31, 32, 33, 34, 35, 36, 37, 38, 39, 40, 41, 42, 43, 44, 45, 46] [4] [[], [0]] [[1], []] rfl rfl follow rfl ⟨
              wp rfl (does_addE (m := ((i : Nat) : Int)) (n := 1) (x := (((i + 1) : Nat) : Int)) (by omega) _ _ _ _ rfl rfl rfl rfl rfl (by omega) (ar_tmp (av_os 0 1 rfl rfl)) (ar_const (fun _ _ => rfl))),
              wp rfl (does_move _ (.inl rfl) rfl rfl rfl rfl (ar_tmp (av_rs 0 0 rfl rfl))),
              trivial⟩ ?_
            refine t_pick [45, 0, 1, 2, 3, 4, 5, 6, 7, 8, 9, 10, 11, 12, 13, 14, 15, 16, 17, 18, 19, 20, 21, 22, 23, 24, 25, 26, 27, 28, 29, 30, 31, 32, 33, 34, 35, 36, 37, 38, 39, 40, 41, 42, 43, 44, 46, 47] rfl ?_
            refine t_untmp rfl ?_
            refine t_weak (R' := R_int (d.wantK t (i + 1))) (fun _ _ _ _ h => by rw [← wantK_set, (show d.want t i = (d.ofk (kid t 0)) by unfold ArD.want; (try rw [hb1]); (try rw [hb5]); (try rw [hb10]); (try rw [hb11]); (try rfl))]; exact h) rfl ?_
            refine nx_round (τ := {i : Nat // i ≤ t.kids.length}) (I := fun ⟨i, _⟩ => [.is (.tmp 0) (VP.ptr v), .is (.tmp 3) (VP.ptr c3), .is (.tmp 24) (VP.int .i64 ((t.kids.length : Nat) : Int)), .is (.tmp 25) (VP.int .i64 ((i : Nat) : Int)), .own 102 (.tmp 5) (R_int (d.wantK t i)), .own 101 (.val c3) (B_term t), .bor (.val v) (ArO us uf ut uo uh ub d.most), .bor (.val us) (R_sort d.sorts), .bor (.val uf) (R_fun d.funs), .bor (.val ut) (R_term d.terms), .bor (.val uo) (R_int d.of_), .bor (.val uh) (R_u64 d.hashes), .bor (.val ub) (rowsInt d.table)]) (μ := fun ⟨i, _⟩ => t.kids.length - i) (s := ⟨i, hi⟩) (⟨i + 1, by omega⟩) ?_ [1, 2, 3, 46, 0, 4, 5, 6, 7, 8, 9, 10, 11] ?_
            · exact (show t.kids.length - (i + 1) < t.kids.length - i by omega)
            · exact rfl
          · have hc11 := ne_of_beq_false hb11
            refine t_seq ?_
            refine t_rg [.own 102 (.val v3) (R_int (d.wantK t i)), .is (.tmp 5) (VP.eq v3 true true), .is (.tmp 0) (VP.ptr v), .is (.tmp 3) (VP.ptr c3), .is (.tmp 24) (VP.int .i64 ((t.kids.length : Nat) : Int)), .is (.tmp 25) (VP.int .i64 ((i : Nat) : Int)), .own 101 (.val c3) (B_term t), .bor (.val v) (ArO us uf ut uo uh ub d.most), .bor (.val us) (R_sort d.sorts), .bor (.val uf) (R_fun d.funs), .bor (.val ut) (R_term d.terms), .bor (.val uo) (R_int d.of_), .bor (.val uh) (R_u64 d.hashes), .bor (.val ub) (rowsInt d.table), .is (.tmp 26) (VP.bool (decide (((i : Nat) : Int) < ((t.kids.length : Nat) : Int)))), .is (.tmp 27) (VP.int .i64 ((i : Nat) : Int)), .is (.tmp 6) (VP.int .i64 ((i : Nat) : Int)), .pt 29 (.blk (.val c3) 0), .is (.tmp 30) (VP.int .i64 t.op), .is (.tmp 31) (VP.bool (t.op == 10)), .is (.tmp 32) (VP.bool (t.op == 10)), .is (.tmp 33) (VP.undef), .is (.tmp 34) (VP.undef), .is (.tmp 35) (VP.bool false), .is (.tmp 28) (VP.bool false), .pt 50 (.blk (.val c3) 0), .is (.tmp 51) (VP.int .i64 t.op), .is (.tmp 52) (VP.bool (t.op == 11)), .is (.tmp 53) (VP.bool (t.op == 11)), .pt 54 (.blk (.val c3) 0), .is (.tmp 55) (VP.int .i64 t.op), .is (.tmp 56) (VP.bool (t.op == 12)), .is (.tmp 57) (VP.bool (t.op == 12)), .is (.tmp 49) (VP.bool (t.op == 12))] [] [(0, .pt 72 (.blk (.val c3) 0)), (1, .is (.tmp 73) (VP.int .i64 t.op)), (2, .is (.tmp 74) (VP.bool (decide (t.op ≥ 13)))), (3, .is (.tmp 71) (VP.bool (decide (t.op ≥ 13))))] [] [0, 1, 2, 3, 4, 5, 6, 7, 8, 9, 10, 11, 12, 13, 14, 15, 16, 17, 18, 19, 20, 21, 22, 23, 24, 25, 26, 27, 28, 29, 30, 31, 32, 33] [] [[], [0], [0, 1], [0, 1, 2]] [[1, 2, 3], [2, 3], [3], []] rfl rfl follow rfl ⟨
              wp rfl (does_field _ _ _ 0 DagF_f_api_Term_0 rfl rfl rfl rfl rfl rfl (pt_ptr (ar_tmp (av_fs 3 rfl)))),
              wp rfl (does_loadOne _ DagF_one_int rfl rfl rfl rfl rfl (pt_pt (av_rs 0 0 rfl rfl)) (rds_box (off := 0) (av_fs 6 rfl) (hq_one rfl))),
              wp rfl (does_cmp (m := t.op) (n := 13) _ _ _ _ _ rfl rfl rfl rfl rfl rfl .i64 (ar_tmp (av_rs 1 1 rfl rfl)) (ar_const (fun _ _ => rfl))),
              wp rfl (does_move _ (.inr rfl) rfl rfl rfl rfl (ar_tmp (av_rs 2 2 rfl rfl))),
              trivial⟩ ?_
            refine nx_then ?_
            refine t_split 37 rfl (fun hb12 => ?_) (fun hb12 => ?_)
            · have hc12 := of_decide_eq_true hb12
              refine t_rg [.is (.tmp 5) (VP.eq v3 true true), .is (.tmp 0) (VP.ptr v), .is (.tmp 3) (VP.ptr c3), .is (.tmp 24) (VP.int .i64 ((t.kids.length : Nat) : Int)), .is (.tmp 25) (VP.int .i64 ((i : Nat) : Int)), .own 101 (.val c3) (B_term t), .bor (.val v) (ArO us uf ut uo uh ub d.most), .bor (.val us) (R_sort d.sorts), .bor (.val uf) (R_fun d.funs), .bor (.val ut) (R_term d.terms), .bor (.val uo) (R_int d.of_), .bor (.val uh) (R_u64 d.hashes), .bor (.val ub) (rowsInt d.table), .is (.tmp 26) (VP.bool (decide (((i : Nat) : Int) < ((t.kids.length : Nat) : Int)))), .is (.tmp 27) (VP.int .i64 ((i : Nat) : Int)), .is (.tmp 6) (VP.int .i64 ((i : Nat) : Int)), .pt 29 (.blk (.val c3) 0), .is (.tmp 30) (VP.int .i64 t.op), .is (.tmp 31) (VP.bool (t.op == 10)), .is (.tmp 32) (VP.bool (t.op == 10)), .is (.tmp 33) (VP.undef), .is (.tmp 34) (VP.undef), .is (.tmp 35) (VP.bool false), .is (.tmp 28) (VP.bool false), .pt 50 (.blk (.val c3) 0), .is (.tmp 51) (VP.int .i64 t.op), .is (.tmp 52) (VP.bool (t.op == 11)), .is (.tmp 53) (VP.bool (t.op == 11)), .pt 54 (.blk (.val c3) 0), .is (.tmp 55) (VP.int .i64 t.op), .is (.tmp 56) (VP.bool (t.op == 12)), .is (.tmp 57) (VP.bool (t.op == 12)), .is (.tmp 49) (VP.bool (t.op == 12)), .pt 72 (.blk (.val c3) 0), .is (.tmp 73) (VP.int .i64 t.op), .is (.tmp 74) (VP.bool (decide (t.op ≥ 13))), .is (.tmp 71) (VP.bool (decide (t.op ≥ 13)))] [(3, .own 102 (.val v3) (R_int (d.wantK t i)))] [(0, .is (.tmp 75) (VP.eq v3 true true)), (1, .is (.tmp 76) (VP.int .i64 ((i : Nat) : Int))), (2, .pt 77 (.row (.val v3) (i * 1))), (3, .own 102 (.val v3) (R_int ((d.wantK t i).set i 1)))] [] [1, 2, 3, 4, 5, 6, 7, 8, 9, 10, 11, 12, 13, 14, 15, 16, 17, 18, 19, 20, 21, 22, 23, 24, 25, 26, 27, 28, 29, 30, 31, 32, 33, 34, 35, 36, 37] [0] [[], [], [0, 1], [0, 1, 2]] [[2, 3], [2, 3], [3], []] rfl rfl follow rfl ⟨
                wp rfl (does_move _ (.inl rfl) rfl rfl rfl rfl (ar_tmp (av_fs 0 rfl))),
                wp rfl (does_move _ (.inl rfl) rfl rfl rfl rfl (ar_tmp (av_fs 15 rfl))),
                wp rfl (does_index (m := i) _ _ Try.underlying28 DagF_size_int rfl rfl rfl rfl rfl _ (by omega) rfl (by omega) (sl_own (av_os 0 3 rfl rfl) (ar_tmp (av_rs 0 0 rfl rfl))) (ar_tmp (av_rs 1 1 rfl rfl))),
                wp rfl (does_storeRow (off := i * 1) (n := (d.wantK t i).length) (Rs := ((d.wantK t i).flatMap cInt).map HA.of) (Qs := (cInt 1).map HA.of) _ _ DagF_size_int rfl rfl rfl rfl (by rw [List.length_set]) (flat_put cInt_len (by omega)) (by rw [flat_lenH cInt_len, List.length_map, cInt_len]; omega) rfl (pt_pt (av_rs 2 2 rfl rfl)) (av_os 0 3 rfl rfl) (cv_one rfl (mv_vp (ar_const (fun _ _ => rfl))))),
                trivial⟩ ?_
              refine nx_block ?_
              refine nx_block ?_
              refine nx_then ?_
              refine t_rg [.is (.tmp 5) (VP.eq v3 true true), .is (.tmp 0) (VP.ptr v), .is (.tmp 3) (VP.ptr c3), .is (.tmp 24) (VP.int .i64 ((t.kids.length : Nat) : Int)), .own 101 (.val c3) (B_term t), .bor (.val v) (ArO us uf ut uo uh ub d.most), .bor (.val us) (R_sort d.sorts), .bor (.val uf) (R_fun d.funs), .bor (.val ut) (R_term d.terms), .bor (.val uo) (R_int d.of_), .bor (.val uh) (R_u64 d.hashes), .bor (.val ub) (rowsInt d.table), .is (.tmp 26) (VP.bool (decide (((i : Nat) : Int) < ((t.kids.length : Nat) : Int)))), .is (.tmp 27) (VP.int .i64 ((i : Nat) : Int)), .is (.tmp 6) (VP.int .i64 ((i : Nat) : Int)), .pt 29 (.blk (.val c3) 0), .is (.tmp 30) (VP.int .i64 t.op), .is (.tmp 31) (VP.bool (t.op == 10)), .is (.tmp 32) (VP.bool (t.op == 10)), .is (.tmp 33) (VP.undef), .is (.tmp 34) (VP.undef), .is (.tmp 35) (VP.bool false), .is (.tmp 28) (VP.bool false), .pt 50 (.blk (.val c3) 0), .is (.tmp 51) (VP.int .i64 t.op), .is (.tmp 52) (VP.bool (t.op == 11)), .is (.tmp 53) (VP.bool (t.op == 11)), .pt 54 (.blk (.val c3) 0), .is (.tmp 55) (VP.int .i64 t.op), .is (.tmp 56) (VP.bool (t.op == 12)), .is (.tmp 57) (VP.bool (t.op == 12)), .is (.tmp 49) (VP.bool (t.op == 12)), .pt 72 (.blk (.val c3) 0), .is (.tmp 73) (VP.int .i64 t.op), .is (.tmp 74) (VP.bool (decide (t.op ≥ 13))), .is (.tmp 71) (VP.bool (decide (t.op ≥ 13))), .is (.tmp 75) (VP.eq v3 true true), .is (.tmp 76) (VP.int .i64 ((i : Nat) : Int)), .pt 77 (.row (.val v3) (i * 1)), .own 102 (.val v3) (R_int ((d.wantK t i).set i 1))] [(1, .is (.tmp 25) (VP.int .i64 ((i : Nat) : Int)))] [(0, .is (.tmp 78) (VP.int .i64 (((i + 1) : Nat) : Int))), (1, .is (.tmp 25) (VP.int .i64 (((i + 1) : Nat) : Int)))] [] [0, 1, 2, 3, 5, 6, 7, 8, 9, 10, 11, 12, 13, 14, 15, 16, 17, 18, 19, 20, 21, 22, 23, 24, 25, 26, 27, 28, 29, 30, 31, 32, 33, 34, 35, 36, 37, 38, 39, 40] [4] [[], [0]] [[1], []] rfl rfl follow rfl ⟨
                wp rfl (does_addE (m := ((i : Nat) : Int)) (n := 1) (x := (((i + 1) : Nat) : Int)) (by omega) _ _ _ _ rfl rfl rfl rfl rfl (by omega) (ar_tmp (av_os 0 1 rfl rfl)) (ar_const (fun _ _ => rfl))),
                wp rfl (does_move _ (.inl rfl) rfl rfl rfl rfl (ar_tmp (av_rs 0 0 rfl rfl))),
                trivial⟩ ?_
              refine t_pick [39, 0, 1, 2, 3, 4, 5, 6, 7, 8, 9, 10, 11, 12, 13, 14, 15, 16, 17, 18, 19, 20, 21, 22, 23, 24, 25, 26, 27, 28, 29, 30, 31, 32, 33, 34, 35, 36, 37, 38, 40, 41] rfl ?_
              refine t_untmp rfl ?_
              refine t_weak (R' := R_int (d.wantK t (i + 1))) (fun _ _ _ _ h => by rw [← wantK_set, (show d.want t i = 1 by unfold ArD.want; (try rw [hb1]); (try rw [hb5]); (try rw [hb10]); (try rw [hb11]); (try rw [hb12]); (try rfl))]; exact h) rfl ?_
              refine nx_round (τ := {i : Nat // i ≤ t.kids.length}) (I := fun ⟨i, _⟩ => [.is (.tmp 0) (VP.ptr v), .is (.tmp 3) (VP.ptr c3), .is (.tmp 24) (VP.int .i64 ((t.kids.length : Nat) : Int)), .is (.tmp 25) (VP.int .i64 ((i : Nat) : Int)), .own 102 (.tmp 5) (R_int (d.wantK t i)), .own 101 (.val c3) (B_term t), .bor (.val v) (ArO us uf ut uo uh ub d.most), .bor (.val us) (R_sort d.sorts), .bor (.val uf) (R_fun d.funs), .bor (.val ut) (R_term d.terms), .bor (.val uo) (R_int d.of_), .bor (.val uh) (R_u64 d.hashes), .bor (.val ub) (rowsInt d.table)]) (μ := fun ⟨i, _⟩ => t.kids.length - i) (s := ⟨i, hi⟩) (⟨i + 1, by omega⟩) ?_ [1, 2, 3, 40, 0, 4, 5, 6, 7, 8, 9, 10, 11] ?_
              · exact (show t.kids.length - (i + 1) < t.kids.length - i by omega)
              · exact rfl
            · have hc12 := of_decide_eq_false hb12
              refine t_skip ?_
              refine nx_block ?_
              refine nx_block ?_
              refine nx_then ?_
              refine t_rg [.own 102 (.val v3) (R_int (d.wantK t i)), .is (.tmp 5) (VP.eq v3 true true), .is (.tmp 0) (VP.ptr v), .is (.tmp 3) (VP.ptr c3), .is (.tmp 24) (VP.int .i64 ((t.kids.length : Nat) : Int)), .own 101 (.val c3) (B_term t), .bor (.val v) (ArO us uf ut uo uh ub d.most), .bor (.val us) (R_sort d.sorts), .bor (.val uf) (R_fun d.funs), .bor (.val ut) (R_term d.terms), .bor (.val uo) (R_int d.of_), .bor (.val uh) (R_u64 d.hashes), .bor (.val ub) (rowsInt d.table), .is (.tmp 26) (VP.bool (decide (((i : Nat) : Int) < ((t.kids.length : Nat) : Int)))), .is (.tmp 27) (VP.int .i64 ((i : Nat) : Int)), .is (.tmp 6) (VP.int .i64 ((i : Nat) : Int)), .pt 29 (.blk (.val c3) 0), .is (.tmp 30) (VP.int .i64 t.op), .is (.tmp 31) (VP.bool (t.op == 10)), .is (.tmp 32) (VP.bool (t.op == 10)), .is (.tmp 33) (VP.undef), .is (.tmp 34) (VP.undef), .is (.tmp 35) (VP.bool false), .is (.tmp 28) (VP.bool false), .pt 50 (.blk (.val c3) 0), .is (.tmp 51) (VP.int .i64 t.op), .is (.tmp 52) (VP.bool (t.op == 11)), .is (.tmp 53) (VP.bool (t.op == 11)), .pt 54 (.blk (.val c3) 0), .is (.tmp 55) (VP.int .i64 t.op), .is (.tmp 56) (VP.bool (t.op == 12)), .is (.tmp 57) (VP.bool (t.op == 12)), .is (.tmp 49) (VP.bool (t.op == 12)), .pt 72 (.blk (.val c3) 0), .is (.tmp 73) (VP.int .i64 t.op), .is (.tmp 74) (VP.bool (decide (t.op ≥ 13))), .is (.tmp 71) (VP.bool (decide (t.op ≥ 13)))] [(1, .is (.tmp 25) (VP.int .i64 ((i : Nat) : Int)))] [(0, .is (.tmp 78) (VP.int .i64 (((i + 1) : Nat) : Int))), (1, .is (.tmp 25) (VP.int .i64 (((i + 1) : Nat) : Int)))] [] [0, 1, 2, 3, 4, 6, 7, 8, 9, 10, 11, 12, 13, 14, 15, 16, 17, 18, 19, 20, 21, 22, 23, 24, 25, 26, 27, 28, 29, 30, 31, 32, 33, 34, 35, 36, 37] [5] [[], [0]] [[1], []] rfl rfl follow rfl ⟨
                wp rfl (does_addE (m := ((i : Nat) : Int)) (n := 1) (x := (((i + 1) : Nat) : Int)) (by omega) _ _ _ _ rfl rfl rfl rfl rfl (by omega) (ar_tmp (av_os 0 1 rfl rfl)) (ar_const (fun _ _ => rfl))),
                wp rfl (does_move _ (.inl rfl) rfl rfl rfl rfl (ar_tmp (av_rs 0 0 rfl rfl))),
                trivial⟩ ?_
              refine t_untmp rfl ?_
              refine t_weak (R' := R_int (d.wantK t (i + 1))) (fun _ _ _ _ h => by rw [← wantK_same (show d.want t i = 0 by unfold ArD.want; (try rw [hb1]); (try rw [hb5]); (try rw [hb10]); (try rw [hb11]); (try rw [hb12]); (try rfl))]; exact h) rfl ?_
              refine nx_round (τ := {i : Nat // i ≤ t.kids.length}) (I := fun ⟨i, _⟩ => [.is (.tmp 0) (VP.ptr v), .is (.tmp 3) (VP.ptr c3), .is (.tmp 24) (VP.int .i64 ((t.kids.length : Nat) : Int)), .is (.tmp 25) (VP.int .i64 ((i : Nat) : Int)), .own 102 (.tmp 5) (R_int (d.wantK t i)), .own 101 (.val c3) (B_term t), .bor (.val v) (ArO us uf ut uo uh ub d.most), .bor (.val us) (R_sort d.sorts), .bor (.val uf) (R_fun d.funs), .bor (.val ut) (R_term d.terms), .bor (.val uo) (R_int d.of_), .bor (.val uh) (R_u64 d.hashes), .bor (.val ub) (rowsInt d.table)]) (μ := fun ⟨i, _⟩ => t.kids.length - i) (s := ⟨i, hi⟩) (⟨i + 1, by omega⟩) ?_ [1, 2, 3, 37, 0, 4, 5, 6, 7, 8, 9, 10, 11] ?_
              · exact (show t.kids.length - (i + 1) < t.kids.length - i by omega)
              · exact rfl
    · have hc4 := of_decide_eq_false hb4
      refine t_exit ?_
      refine ex_then ?_
      refine ex_then ?_
      refine ex_block ?_
      refine nx_then ?_
      refine t_pick [0, 1, 6, 7, 8, 9, 10, 11, 12, 13] rfl ?_
      refine t_seq ?_
      refine t_rg [.own 102 (.val v3) (R_int (d.wantK t i)), .is (.tmp 5) (VP.eq v3 true true), .own 101 (.val c3) (B_term t), .bor (.val v) (ArO us uf ut uo uh ub d.most), .bor (.val us) (R_sort d.sorts), .bor (.val uf) (R_fun d.funs), .bor (.val ut) (R_term d.terms), .bor (.val uo) (R_int d.of_), .bor (.val uh) (R_u64 d.hashes), .bor (.val ub) (rowsInt d.table)] [] [(0, .is (.tmp 79) (VP.eq v3 true true)), (1, .is (.tmp 4) (VP.eq v3 true true))] [] [0, 1, 2, 3, 4, 5, 6, 7, 8, 9] [] [[], [0]] [[1], []] rfl rfl follow rfl ⟨
        wp rfl (does_move _ (.inl rfl) rfl rfl rfl rfl (ar_tmp (av_fs 1 rfl))),
        wp rfl (does_move _ (.inr rfl) rfl rfl rfl rfl (ar_tmp (av_rs 0 0 rfl rfl))),
        trivial⟩ ?_
      refine t_pick [0, 2, 3, 4, 5, 6, 7, 8, 9, 11] rfl ?_
      refine nx_then ?_
      refine t_pick [0, 9, 1, 2, 3, 4, 5, 6, 7, 8] rfl ?_
      refine t_freeze (fz_row ((d.wantK t i).flatMap cInt)) rfl ?_
      refine t_pick [1, 0, 2, 3, 4, 5, 6, 7, 8, 9] rfl ?_
      refine t_is ?_
      refine t_pick [0, 3, 4, 5, 6, 7, 8, 9, 10] rfl ?_
      refine t_slot (y := O_int (d.wants t)) (fun _ _ _ h => by unfold ArD.wants; rw [hb1]; rw [show i = t.kids.length by omega] at h; exact h) ?_
      refine t_ret ?_
      exact rt_post [HA.of (O_int (d.wants t))] [[]] [] [] rfl ⟨(rv_vp 0 rfl), trivial⟩ (by decide) rfl rfl

end O
end Go.Proofs.Ytapmngmpomhjmaa

/- Hashes. -/
namespace Go.Proofs.Ytapmngmpomhjmaa
open Go.RowKit
namespace O

abbrev slcI (l : List Int) : HA := HA.slc l.length (l.flatMap cInt)
abbrev slcs (t : List (List Int)) : HA := HA.row 28 1 t.length (t.map slcI)
theorem slcs_two {A B : HA} {a b : List Int} (hA : ∀ Z v w S, A.p Z v w S → (slcI a).p Z v w S) (hB : ∀ Z v w S, B.p Z v w S → (slcI b).p Z v w S) : ∀ Z v w S, (HA.row 28 1 2 [A, B]).p Z v w S → (slcs [a, b]).p Z v w S :=
  row_weak rfl fun j R R' h1 h2 => by
    match j with
    | 0 => simp at h1 h2; subst h1 h2; exact hA
    | 1 => simp at h1 h2; subst h1 h2; exact hB
    | j + 2 => simp at h1
theorem slcI_row (l : List Int) : ∀ Z v w S, (rowInt l).p Z v w S → (slcI l).p Z v w S := fun Z v w S h => slc_row h (flat_nil_iff cInt_len (by decide) _)
theorem slcI_ro (l : List Int) : ∀ Z v w S, (HA.of (VP.ro l.length (l.flatMap cInt))).p Z v w S → (slcI l).p Z v w S := fun Z v w S h => by
  have e : S = fun _ => False := funext fun b => propext ⟨fun hb => h.2 b hb, fun hb => hb.elim⟩
  rw [e]; exact slc_ro h.1 (flat_nil_iff cInt_len (by decide) _)
theorem flat_snocL {ls : List (List Int)} {k : Nat} {x : List Int} (h : ls[k]? = some x) : (ls.take k).flatten ++ x = (ls.take (k + 1)).flatten := by rw [List.take_add_one, h]; simp
theorem flat_le {ls : List (List Int)} {k : Nat} : ((ls.take k).flatten).length ≤ ls.flatten.length := by
  have : ls.flatten = (ls.take k).flatten ++ (ls.drop k).flatten := by rw [← List.flatten_append, List.take_append_drop]
  rw [this, List.length_append]; omega
/-- a hash goes on -/
def mixI (h n : Int) : Int := IntKind.u64.wrap (xor64 h n * 1099511628211)
def mixs (h : Int) (l : List Int) : Int := l.foldl (fun h n => mixI h (IntKind.u64.wrap n)) h
def hashL (t : TermD) : List Int := [t.op, t.fn, (t.kids.length : Int)] ++ t.kids
def mixB (h : Int) (l : List Nat) : Int := l.foldl (fun h (n : Nat) => mixI h ((n : Nat) : Int)) h
def seedI : Int := 14695981039346656037
def hashT (t : TermD) : Int := mixB (mixs seedI (hashL t)) (bytesL t.num)
theorem mixB_0 {h : Int} {l : List Nat} : mixB h (l.take 0) = h := by rw [List.take_zero]; rfl
theorem mixs_succ {h : Int} {l : List Int} {k : Nat} {x : Int} (hx : l[k]? = some x) : mixI (mixs h (l.take k)) (IntKind.u64.wrap x) = mixs h (l.take (k + 1)) := by
  unfold mixs; rw [List.take_add_one, hx, List.foldl_append]; rfl
theorem mixB_succ {h : Int} {l : List Nat} {k : Nat} {x : Nat} (hx : l[k]? = some x) : mixI (mixB h (l.take k)) (x : Int) = mixB h (l.take (k + 1)) := by
  unfold mixB; rw [List.take_add_one, hx, List.foldl_append]; rfl
theorem bytesL_lt {s : ByteArray} {x k : Nat} (h : (bytesL s)[k]? = some x) : x < 256 := by
  unfold bytesL at h
  rw [List.getElem?_map, Option.map_eq_some_iff] at h
  obtain ⟨b, _, rfl⟩ := h
  exact b.toNat_lt
abbrev DagG_p31_1 : Tab2 := [[], [], [1], [1, 2], [1, 2, 3], [0, 1, 2, 3, 4], [0, 1, 2, 3, 4, 5], [0, 1, 2, 3, 4, 5, 6]]
abbrev DagG_s31_1 : Tab2 := [[5, 6, 7], [2, 3, 4, 5, 6, 7], [3, 4, 5, 6, 7], [4, 5, 6, 7], [5, 6, 7], [6, 7], [7], []]
abbrev DagG_p51_3 : Tab2 := [[], [], [1], [], [3], [1, 2, 3, 4], [0, 1, 2, 3, 4, 5], [0, 1, 2, 3, 4, 5, 6]]
abbrev DagG_s51_3 : Tab2 := [[6, 7], [2, 5, 6, 7], [5, 6, 7], [4, 5, 6, 7], [5, 6, 7], [6, 7], [7], []]
theorem DagG_one_int : oneTy Try.prog 3 = true := by kernel_rfl
theorem DagG_size_int : ∀ w, (sizeOf 3).run Try.prog w = .ok 1 w := run_sizeOne DagG_one_int
theorem DagG_el_int : Elem Try.prog 28 3 (.int .i64 0) 1 8 := Elem.mk Try.underlying28 (by kernel_rfl) rfl (by decide)
abbrev DagG_p51_5 : Tab2 := [[], [], [1], [0, 1, 2], [], [0, 1, 2, 3, 4], [], [6], [0, 1, 2, 3, 4, 5, 6, 7], [0, 1, 2, 3, 4, 5, 6, 7, 8]]
abbrev DagG_s51_5 : Tab2 := [[3, 5, 8, 9], [2, 3, 5, 8, 9], [3, 5, 8, 9], [5, 8, 9], [5, 8, 9], [8, 9], [7, 8, 9], [8, 9], [9], []]
theorem DagG_one___int : oneTy Try.prog 28 = true := by kernel_rfl
theorem DagG_size___int : ∀ w, (sizeOf 28).run Try.prog w = .ok 1 w := run_sizeOne DagG_one___int
abbrev DagG_p40_5 : Tab2 := [[], [], [1], [0, 1, 2], [0, 1, 2, 3]]
abbrev DagG_s40_5 : Tab2 := [[3, 4], [2, 3, 4], [3, 4], [4], []]
theorem DagG_hb_slices_Grow___int_int_ : hasBody Try.prog 51 = true := by kernel_rfl
set_option maxRecDepth 100000 in
set_option maxHeartbeats 4000000 in
theorem da_place {n j : Nat} (hn : n = 2 ^ j) (hj : j ≤ 32) (h : Int) : SpecO Try.prog 31 [.vp (VP.sln n), .vp (VP.int .u64 h)] [] [] [] (HA.of (VP.int .i64 (h % ((n : Nat) : Int)))) := by
  have hnp : n ≤ 4294967296 := by rw [hn]; exact Nat.le_trans (Nat.pow_le_pow_right (by decide) hj) (by decide)
  have hn1 : 1 ≤ n := by rw [hn]; exact Nat.one_le_two_pow
  have he : ((n : Nat) : Int) - 1 = 2 ^ j - 1 := by rw [hn]; simp
  have he2 : h % 2 ^ j = h % ((n : Nat) : Int) := by rw [hn]; simp
  have hm1 := Int.emod_nonneg h (show ((n : Nat) : Int) ≠ 0 by omega)
  have hm2 := Int.emod_lt_of_pos h (show (0 : Int) < ((n : Nat) : Int) by omega)
  refine spec_of 12 Try.func31 rfl Try.ntmps31 rfl fun w0 S0 Z0 Bf => ?_
  refine t_seq ?_
  refine t_rg [.is (.tmp 0) (VP.sln n), .is (.tmp 1) (VP.int .u64 h)] [] [(0, .is (.tmp 4) (VP.int .i64 0))] [] [0, 1] [] [[]] [[]] rfl rfl follow rfl ⟨
    wp rfl (does_move _ (.inr rfl) rfl rfl rfl rfl (ar_const (fun _ _ => rfl))),
    trivial⟩ ?_
  refine nx_then ?_
  refine t_seq ?_
  refine t_rg [.is (.tmp 0) (VP.sln n), .is (.tmp 1) (VP.int .u64 h)] [(7, .is (.tmp 4) (VP.int .i64 0))] [(0, .is (.tmp 5) (VP.int .u64 h)), (1, .is (.tmp 6) (VP.sln n)), (2, .is (.tmp 7) (VP.int .i64 ((n : Nat) : Int))), (3, .is (.tmp 8) (VP.int .i64 (((n : Nat) : Int) - 1))), (4, .is (.tmp 9) (VP.int .u64 (((n : Nat) : Int) - 1))), (5, .is (.tmp 10) (VP.int .u64 (h % ((n : Nat) : Int)))), (6, .is (.tmp 11) (VP.int .i64 (h % ((n : Nat) : Int)))), (7, .is (.tmp 4) (VP.int .i64 (h % ((n : Nat) : Int))))] [] [0, 1] [2] DagG_p31_1 DagG_s31_1 rfl rfl follow rfl ⟨
    wp rfl (does_move _ (.inl rfl) rfl rfl rfl rfl (ar_tmp (av_fs 1 rfl))),
    wp rfl (does_move _ (.inl rfl) rfl rfl rfl rfl (ar_tmp (av_fs 0 rfl))),
    wp rfl (does_len _ _ (by kernel_rfl) rfl rfl rfl rfl rfl (sl_sln (av_rs 1 1 rfl rfl))),
    wp rfl (does_subE (m := ((n : Nat) : Int)) (n := 1) (x := (((n : Nat) : Int) - 1)) (by omega) _ _ _ _ rfl rfl rfl rfl rfl (by omega) (ar_tmp (av_rs 2 2 rfl rfl)) (ar_const (fun _ _ => rfl))),
    wp rfl (does_conv (n := (((n : Nat) : Int) - 1)) _ Try.underlying3 Try.underlying49 rfl rfl rfl rfl rfl (by rw [IntKind.wrap_u64]; first | omega | (simp only [List.length_cons, List.length_nil]; omega)) (ar_tmp (av_rs 3 3 rfl rfl))),
    wp rfl (does_bin (m := h) (n := (((n : Nat) : Int) - 1)) (r := (h % ((n : Nat) : Int))) _ _ _ _ _ rfl rfl rfl rfl rfl rfl (br_and (j := j) hj (.inr rfl) he he2) (ar_tmp (av_rs 0 0 rfl rfl)) (ar_tmp (av_rs 4 4 rfl rfl))),
    wp rfl (does_conv (n := (h % ((n : Nat) : Int))) _ Try.underlying49 Try.underlying3 rfl rfl rfl rfl rfl (by rw [IntKind.wrap_i64]; first | omega | (simp only [List.length_cons, List.length_nil]; omega)) (ar_tmp (av_rs 5 5 rfl rfl))),
    wp rfl (does_move _ (.inr rfl) rfl rfl rfl rfl (ar_tmp (av_rs 6 6 rfl rfl))),
    trivial⟩ ?_
  refine t_pick [9] rfl ?_
  refine nx_then ?_
  refine t_ret ?_
  exact rt_post [HA.of (VP.int .i64 (h % ((n : Nat) : Int)))] [[]] [] [] rfl ⟨(rv_vp 0 rfl), trivial⟩ (by decide) rfl rfl

set_option maxRecDepth 100000 in
set_option maxHeartbeats 4000000 in
theorem da_Grow (n : Nat) (hn : n ≤ 1000000) : SpecO Try.prog 51 [.vp (VP.nilS), .vp (VP.int .i64 ((n : Nat) : Int))] [] [] [] (R_int ([] : List Int)) := by
  refine spec_of 27 Try.func51 rfl Try.ntmps51 rfl fun w0 S0 Z0 Bf => ?_
  refine t_seq ?_
  refine t_rg [.is (.tmp 0) (VP.nilS), .is (.tmp 1) (VP.int .i64 ((n : Nat) : Int))] [] [(0, .is (.tmp 4) (VP.nilS))] [] [0, 1] [] [[]] [[]] rfl rfl follow rfl ⟨
    wp rfl (does_move _ (.inr rfl) rfl rfl rfl rfl (ar_const (fun _ _ => rfl))),
    trivial⟩ ?_
  refine nx_then ?_
  refine t_seq ?_
  refine t_seq ?_
  refine t_rg [.is (.tmp 0) (VP.nilS), .is (.tmp 1) (VP.int .i64 ((n : Nat) : Int)), .is (.tmp 4) (VP.nilS)] [] [(0, .is (.tmp 5) (VP.int .i64 ((n : Nat) : Int))), (1, .is (.tmp 6) (VP.bool (decide (((n : Nat) : Int) < 0))))] [] [0, 1, 2] [] [[], [0]] [[1], []] rfl rfl follow rfl ⟨
    wp rfl (does_move _ (.inl rfl) rfl rfl rfl rfl (ar_tmp (av_fs 1 rfl))),
    wp rfl (does_cmp (m := ((n : Nat) : Int)) (n := 0) _ _ _ _ _ rfl rfl rfl rfl rfl rfl .i64 (ar_tmp (av_rs 0 0 rfl rfl)) (ar_const (fun _ _ => rfl))),
    trivial⟩ ?_
  refine t_pick [0, 1, 2, 4] rfl ?_
  refine nx_then ?_
  refine t_cond_fe 3 rfl (decide_eq_false (by omega)) ?_
  refine t_skip ?_
  refine nx_then ?_
  refine t_seq ?_
  refine t_seq ?_
  refine t_rg [.is (.tmp 0) (VP.nilS), .is (.tmp 4) (VP.nilS), .is (.tmp 6) (VP.bool (decide (((n : Nat) : Int) < 0)))] [(7, .is (.tmp 1) (VP.int .i64 ((n : Nat) : Int)))] [(0, .is (.tmp 8) (VP.int .i64 ((n : Nat) : Int))), (1, .is (.tmp 9) (VP.nilS)), (2, .is (.tmp 10) (VP.int .i64 ((0 : Nat) : Int))), (3, .is (.tmp 11) (VP.nilS)), (4, .is (.tmp 12) (VP.int .i64 ((0 : Nat) : Int))), (5, .is (.tmp 13) (VP.int .i64 0)), (6, .is (.tmp 14) (VP.int .i64 ((n : Nat) : Int))), (7, .is (.tmp 1) (VP.int .i64 ((n : Nat) : Int)))] [] [0, 2, 3] [1] DagG_p51_3 DagG_s51_3 rfl rfl follow rfl ⟨
    wp rfl (does_move _ (.inl rfl) rfl rfl rfl rfl (ar_tmp (av_os 0 7 rfl rfl))),
    wp rfl (does_move _ (.inl rfl) rfl rfl rfl rfl (ar_tmp (av_fs 0 rfl))),
    wp rfl (does_capNil _ Try.underlying28 rfl rfl rfl rfl rfl (ar_tmp (av_rs 1 1 rfl rfl))),
    wp rfl (does_move _ (.inl rfl) rfl rfl rfl rfl (ar_tmp (av_fs 0 rfl))),
    wp rfl (does_len _ _ (by kernel_rfl) rfl rfl rfl rfl rfl (sl_nil (r := .val (.slice none 0 0)) (ar_tmp (av_rs 3 3 rfl rfl)))),
    wp rfl (does_subE (m := ((0 : Nat) : Int)) (n := ((0 : Nat) : Int)) (x := 0) (by omega) _ _ _ _ rfl rfl rfl rfl rfl (by omega) (ar_tmp (av_rs 2 2 rfl rfl)) (ar_tmp (av_rs 4 4 rfl rfl))),
    wp rfl (does_subE (m := ((n : Nat) : Int)) (n := 0) (x := ((n : Nat) : Int)) (by omega) _ _ _ _ rfl rfl rfl rfl rfl (by omega) (ar_tmp (av_rs 0 0 rfl rfl)) (ar_tmp (av_rs 5 5 rfl rfl))),
    wp rfl (does_move _ (.inr rfl) rfl rfl rfl rfl (ar_tmp (av_rs 6 6 rfl rfl))),
    trivial⟩ ?_
  refine t_pick [0, 1, 10] rfl ?_
  refine nx_then ?_
  refine t_seq ?_
  refine t_rg [.is (.tmp 0) (VP.nilS), .is (.tmp 4) (VP.nilS), .is (.tmp 1) (VP.int .i64 ((n : Nat) : Int))] [] [(0, .is (.tmp 15) (VP.int .i64 ((n : Nat) : Int))), (1, .is (.tmp 16) (VP.bool (decide (((n : Nat) : Int) > 0))))] [] [0, 1, 2] [] [[], [0]] [[1], []] rfl rfl follow rfl ⟨
    wp rfl (does_move _ (.inl rfl) rfl rfl rfl rfl (ar_tmp (av_fs 2 rfl))),
    wp rfl (does_cmp (m := ((n : Nat) : Int)) (n := 0) _ _ _ _ _ rfl rfl rfl rfl rfl rfl .i64 (ar_tmp (av_rs 0 0 rfl rfl)) (ar_const (fun _ _ => rfl))),
    trivial⟩ ?_
  refine t_pick [0, 1, 2, 4] rfl ?_
  refine nx_then ?_
  refine t_split 3 rfl (fun hb1 => ?_) (fun hb1 => ?_)
  · have hc1 := of_decide_eq_true hb1
    refine t_rg [.is (.tmp 4) (VP.nilS), .is (.tmp 1) (VP.int .i64 ((n : Nat) : Int)), .is (.tmp 16) (VP.bool (decide (((n : Nat) : Int) > 0)))] [(9, .is (.tmp 0) (VP.nilS))] [(0, .is (.tmp 17) (VP.nilS)), (1, .is (.tmp 18) (VP.nilS)), (2, .is (.tmp 19) (VP.int .i64 ((0 : Nat) : Int))), (3, .is (.tmp 20) (VP.nilS)), (4, .is (.tmp 21) (VP.int .i64 ((n : Nat) : Int))), (6, .is (.tmp 23) (VP.nilS)), (7, .is (.tmp 24) (VP.int .i64 ((0 : Nat) : Int))), (8, .own 101 (.tmp 25) (R_int ((List.replicate n (0 : Int)).take 0))), (9, .eq 0 (.tmp 25))] [(5, 8, .own 101 (.tmp 22) (R_int (List.replicate n (0 : Int))))] [1, 2, 3] [0] DagG_p51_5 DagG_s51_5 rfl rfl follow rfl ⟨
      wp rfl (does_move _ (.inl rfl) rfl rfl rfl rfl (ar_tmp (av_os 0 9 rfl rfl))),
      wp rfl (does_move _ (.inl rfl) rfl rfl rfl rfl (ar_tmp (av_os 0 9 rfl rfl))),
      wp rfl (does_capNil _ Try.underlying28 rfl rfl rfl rfl rfl (ar_tmp (av_rs 1 1 rfl rfl))),
      wp rfl (does_cutNil _ Try.underlying28 DagG_size_int rfl rfl rfl rfl rfl ⟨_, (ar_tmp (av_rs 2 2 rfl rfl))⟩ (ar_tmp (av_rs 0 0 rfl rfl))),
      wp rfl (does_move _ (.inl rfl) rfl rfl rfl rfl (ar_tmp (av_fs 1 rfl))),
      wp rfl (does_appendZeros (n := n) (ps := ((List.replicate n (0 : Int))).flatMap cInt) DagG_el_int rfl _ _ Try.underlying3 rfl rfl rfl rfl rfl (by simp) (by rw [flat_len cInt_len]; simp) (mk_zeros (f := cInt) (x := VP.int .i64 (0 : Int)) (z := (.int .i64 0)) (a := (0 : Int)) (fun _ _ => rfl) rfl rfl _) (by omega) (by constructor <;> first | decide | omega) (ar_tmp (av_rs 3 3 rfl rfl)) (ar_tmp (av_rs 4 4 rfl rfl))),
      wp rfl (does_move _ (.inl rfl) rfl rfl rfl rfl (ar_tmp (av_os 0 9 rfl rfl))),
      wp rfl (does_len _ _ (by kernel_rfl) rfl rfl rfl rfl rfl (sl_nil (r := .val (.slice none 0 0)) (ar_tmp (av_rs 5 6 rfl rfl)))),
      wp rfl (does_cutOwn (h := 0) _ Try.underlying28 DagG_size_int rfl rfl rfl rfl rfl rfl (by omega) (flat_takeH cInt_len _ _) ⟨_, (ar_tmp (av_rs 6 7 rfl rfl))⟩ (mv_own (av_ms 0 5 8 rfl rfl rfl))),
      wp rfl (does_eqTmp (k := 25) _ rfl (.inr rfl) rfl rfl rfl rfl rfl),
      trivial⟩ ?_
    refine t_pick [0, 10, 11] rfl ?_
    refine nx_then ?_
    refine t_pick [1, 0, 2] rfl ?_
    refine t_name rfl fun v2 => ?_
    refine t_pick [3, 1, 0, 2] rfl ?_
    refine t_eq ?_
    refine t_pick [0, 2, 3] rfl ?_
    refine t_seq ?_
    refine t_rg [.is (.tmp 0) (VP.eq v2 true true), .own 101 (.val v2) (R_int ((List.replicate n (0 : Int)).take 0))] [(1, .is (.tmp 4) (VP.nilS))] [(0, .is (.tmp 26) (VP.eq v2 true true)), (1, .is (.tmp 4) (VP.eq v2 true true))] [] [0, 1] [2] [[], [0]] [[1], []] rfl rfl follow rfl ⟨
      wp rfl (does_move _ (.inl rfl) rfl rfl rfl rfl (ar_tmp (av_fs 0 rfl))),
      wp rfl (does_move _ (.inr rfl) rfl rfl rfl rfl (ar_tmp (av_rs 0 0 rfl rfl))),
      trivial⟩ ?_
    refine t_pick [1, 3] rfl ?_
    refine nx_then ?_
    refine t_ret ?_
    exact rt_post [R_int ([] : List Int)] [[101]] [] [] rfl ⟨(rv_eq (congrArg (fun (l : List Int) => HA.row 3 1 l.length ((l.flatMap cInt).map HA.of)) rfl) (rv_ownv 0 1 rfl rfl)), trivial⟩ (by decide) rfl rfl
  · have hc1 := of_decide_eq_false hb1
    refine t_skip ?_
    refine nx_then ?_
    refine t_seq ?_
    refine t_rg [.is (.tmp 0) (VP.nilS), .is (.tmp 1) (VP.int .i64 ((n : Nat) : Int)), .is (.tmp 16) (VP.bool (decide (((n : Nat) : Int) > 0)))] [(1, .is (.tmp 4) (VP.nilS))] [(0, .is (.tmp 26) (VP.nilS)), (1, .is (.tmp 4) (VP.nilS))] [] [0, 2, 3] [1] [[], [0]] [[1], []] rfl rfl follow rfl ⟨
      wp rfl (does_move _ (.inl rfl) rfl rfl rfl rfl (ar_tmp (av_fs 0 rfl))),
      wp rfl (does_move _ (.inr rfl) rfl rfl rfl rfl (ar_tmp (av_rs 0 0 rfl rfl))),
      trivial⟩ ?_
    refine t_pick [4] rfl ?_
    refine nx_then ?_
    refine t_ret ?_
    exact rt_post [R_int ([] : List Int)] [[]] [] [] rfl ⟨(rv_nilE 0 rfl (by first | omega | rfl | simp)), trivial⟩ (by decide) rfl rfl

set_option maxRecDepth 100000 in
set_option maxHeartbeats 4000000 in
theorem da_Concat (ls : List (List Int)) (hl : ls.length ≤ 1000000) (hs : ls.flatten.length ≤ 1000000) : SpecO Try.prog 40 [.bo (slcs ls)] [] [] [] (R_int ls.flatten) := by
  refine spec_of 36 Try.func40 rfl Try.ntmps40 rfl fun w0 S0 Z0 Bf => ?_
  refine b_name fun v0 => ?_
  refine t_seq ?_
  refine t_rg [.bor (.val v0) (slcs ls), .is (.tmp 0) (VP.eq v0 true true)] [] [(0, .is (.tmp 2) (VP.nilS))] [] [0, 1] [] [[]] [[]] rfl rfl follow rfl ⟨
    wp rfl (does_move _ (.inr rfl) rfl rfl rfl rfl (ar_const (fun _ _ => rfl))),
    trivial⟩ ?_
  refine nx_then ?_
  refine t_seq ?_
  refine t_rg [.bor (.val v0) (slcs ls), .is (.tmp 0) (VP.eq v0 true true), .is (.tmp 2) (VP.nilS)] [] [(0, .is (.tmp 3) (VP.int .i64 0))] [] [0, 1, 2] [] [[]] [[]] rfl rfl follow rfl ⟨
    wp rfl (does_move _ (.inr rfl) rfl rfl rfl rfl (ar_const (fun _ _ => rfl))),
    trivial⟩ ?_
  refine nx_then ?_
  refine t_seq ?_
  refine t_seq ?_
  refine t_rg [.bor (.val v0) (slcs ls), .is (.tmp 0) (VP.eq v0 true true), .is (.tmp 2) (VP.nilS), .is (.tmp 3) (VP.int .i64 0)] [] [(0, .is (.tmp 9) (VP.eq v0 true true)), (1, .is (.tmp 10) (VP.int .i64 ((ls.length : Nat) : Int))), (2, .is (.tmp 11) (VP.int .i64 0))] [] [0, 1, 2, 3] [] [[], [0], []] [[1], [], []] rfl rfl follow rfl ⟨
    wp rfl (does_move _ (.inl rfl) rfl rfl rfl rfl (ar_tmp (av_fs 1 rfl))),
    wp rfl (does_len _ _ (by kernel_rfl) rfl rfl rfl rfl rfl (sl_bor (av_fs 0 rfl) (ar_tmp (av_rs 0 0 rfl rfl)))),
    wp rfl (does_move _ (.inl rfl) rfl rfl rfl rfl (ar_const (fun _ _ => rfl))),
    trivial⟩ ?_
  refine nx_then ?_
  refine t_block ?_
  refine t_pick [3, 0, 1, 2, 4, 5, 6] rfl ?_
  refine t_slot (y := VP.int .i64 ((((ls.take 0).flatten).length : Nat) : Int)) (fun _ _ _ h => h) ?_
  refine t_pick [6, 0, 1, 2, 3, 4, 5] rfl ?_
  refine t_slot (y := VP.int .i64 ((0 : Nat) : Int)) (fun _ _ _ h => h) ?_
  refine t_loop (τ := {k : Nat // k ≤ ls.length}) (fun ⟨k, _⟩ => [.is (.tmp 0) (VP.eq v0 true true), .is (.tmp 3) (VP.int .i64 ((((ls.take k).flatten).length : Nat) : Int)), .is (.tmp 9) (VP.eq v0 true true), .is (.tmp 10) (VP.int .i64 ((ls.length : Nat) : Int)), .is (.tmp 11) (VP.int .i64 ((k : Nat) : Int)), .bor (.val v0) (slcs ls)]) (fun ⟨k, _⟩ => ls.length - k) (⟨0, Nat.zero_le _⟩) [3, 1, 5, 6, 0, 2] rfl ?_
  rintro ⟨k, hk⟩
  have hfk := flat_le (ls := ls) (k := k)
  refine t_seq ?_
  refine t_rg [.is (.tmp 0) (VP.eq v0 true true), .is (.tmp 3) (VP.int .i64 ((((ls.take k).flatten).length : Nat) : Int)), .is (.tmp 9) (VP.eq v0 true true), .is (.tmp 10) (VP.int .i64 ((ls.length : Nat) : Int)), .is (.tmp 11) (VP.int .i64 ((k : Nat) : Int)), .bor (.val v0) (slcs ls)] [] [(0, .is (.tmp 12) (VP.bool (decide (((k : Nat) : Int) < ((ls.length : Nat) : Int)))))] [] [0, 1, 2, 3, 4, 5] [] [[]] [[]] rfl rfl follow rfl ⟨
    wp rfl (does_cmp (m := ((k : Nat) : Int)) (n := ((ls.length : Nat) : Int)) _ _ _ _ _ rfl rfl rfl rfl rfl rfl .i64 (ar_tmp (av_fs 4 rfl)) (ar_tmp (av_fs 3 rfl))),
    trivial⟩ ?_
  refine nx_then ?_
  refine t_seq ?_
  refine t_split 6 rfl (fun hb1 => ?_) (fun hb1 => ?_)
  · have hc1 := of_decide_eq_true hb1
    obtain ⟨x, hx⟩ : ∃ x, ls[k]? = some x := ⟨_, List.getElem?_eq_getElem (by omega)⟩
    have hst : ((ls.take (k + 1)).flatten).length = ((ls.take k).flatten).length + x.length := by rw [← flat_snocL hx, List.length_append]
    have hfl := flat_le (ls := ls) (k := k + 1)
    refine t_skip ?_
    refine nx_then ?_
    refine t_seq ?_
    refine t_block ?_
    refine t_seq ?_
    refine t_pick [5, 5, 0, 1, 2, 3, 4, 6] rfl ?_
    refine b_part (part_row (E := 28) (sz := 1) (n := ls.length) (Rs := ls.map slcI) k (hole_hm hx)) fun ux => ?_
    refine t_rg [.bor (.val v0) (HA.row 28 1 ls.length ((ls.map slcI).set k (HA.of (VP.eq ux true true)))), .bor (.val ux) (S_int x), .bor (.val v0) (slcs ls), .is (.tmp 0) (VP.eq v0 true true), .is (.tmp 3) (VP.int .i64 ((((ls.take k).flatten).length : Nat) : Int)), .is (.tmp 9) (VP.eq v0 true true), .is (.tmp 10) (VP.int .i64 ((ls.length : Nat) : Int)), .is (.tmp 11) (VP.int .i64 ((k : Nat) : Int)), .is (.tmp 12) (VP.bool (decide (((k : Nat) : Int) < ((ls.length : Nat) : Int))))] [] [(0, .pt 13 (.row (.val v0) (k * 1))), (1, .is (.tmp 14) (VP.eq ux true true)), (2, .is (.tmp 5) (VP.eq ux true true))] [] [0, 1, 2, 3, 4, 5, 6, 7, 8] [] [[], [0], [0, 1]] [[1, 2], [2], []] rfl rfl follow rfl ⟨
      wp rfl (does_index (m := k) _ _ Try.underlying47 DagG_size___int rfl rfl rfl rfl rfl _ (by omega) rfl (by omega) (sl_bor (av_fs 0 rfl) (ar_tmp (av_fs 5 rfl))) (ar_tmp (av_fs 7 rfl))),
      wp rfl (does_loadOne _ DagG_one___int rfl rfl rfl rfl rfl (pt_pt (av_rs 0 0 rfl rfl)) (rds_brow (av_fs 0 rfl) (hq_one (hole_get (by omega))))),
      wp rfl (does_move _ (.inr rfl) rfl rfl rfl rfl (ar_tmp (av_rs 1 1 rfl rfl))),
      trivial⟩ ?_
    refine nx_then ?_
    refine t_seq ?_
    refine t_rg [.bor (.val v0) (HA.row 28 1 ls.length ((ls.map slcI).set k (HA.of (VP.eq ux true true)))), .bor (.val ux) (S_int x), .bor (.val v0) (slcs ls), .is (.tmp 0) (VP.eq v0 true true), .is (.tmp 9) (VP.eq v0 true true), .is (.tmp 10) (VP.int .i64 ((ls.length : Nat) : Int)), .is (.tmp 11) (VP.int .i64 ((k : Nat) : Int)), .is (.tmp 12) (VP.bool (decide (((k : Nat) : Int) < ((ls.length : Nat) : Int)))), .pt 13 (.row (.val v0) (k * 1)), .is (.tmp 14) (VP.eq ux true true), .is (.tmp 5) (VP.eq ux true true)] [(4, .is (.tmp 3) (VP.int .i64 ((((ls.take k).flatten).length : Nat) : Int)))] [(0, .is (.tmp 15) (VP.int .i64 ((((ls.take k).flatten).length : Nat) : Int))), (1, .is (.tmp 16) (VP.eq ux true true)), (2, .is (.tmp 17) (VP.int .i64 ((x.length : Nat) : Int))), (3, .is (.tmp 18) (VP.int .i64 ((((ls.take (k + 1)).flatten).length : Nat) : Int))), (4, .is (.tmp 3) (VP.int .i64 ((((ls.take (k + 1)).flatten).length : Nat) : Int)))] [] [0, 1, 2, 3, 5, 6, 7, 8, 9, 10, 11] [4] DagG_p40_5 DagG_s40_5 rfl rfl follow rfl ⟨
      wp rfl (does_move _ (.inl rfl) rfl rfl rfl rfl (ar_tmp (av_os 0 4 rfl rfl))),
      wp rfl (does_move _ (.inl rfl) rfl rfl rfl rfl (ar_tmp (av_fs 10 rfl))),
      wp rfl (does_len _ _ (by kernel_rfl) rfl rfl rfl rfl rfl (sl_slc (av_fs 1 rfl) (ar_tmp (av_rs 1 1 rfl rfl)))),
      wp rfl (does_addE (m := ((((ls.take k).flatten).length : Nat) : Int)) (n := ((x.length : Nat) : Int)) (x := ((((ls.take (k + 1)).flatten).length : Nat) : Int)) (by omega) _ _ _ _ rfl rfl rfl rfl rfl (by omega) (ar_tmp (av_rs 0 0 rfl rfl)) (ar_tmp (av_rs 2 2 rfl rfl))),
      wp rfl (does_move _ (.inr rfl) rfl rfl rfl rfl (ar_tmp (av_rs 3 3 rfl rfl))),
      trivial⟩ ?_
    refine nx_then ?_
    refine t_seq ?_
    refine t_rg [.bor (.val v0) (HA.row 28 1 ls.length ((ls.map slcI).set k (HA.of (VP.eq ux true true)))), .bor (.val ux) (S_int x), .bor (.val v0) (slcs ls), .is (.tmp 0) (VP.eq v0 true true), .is (.tmp 9) (VP.eq v0 true true), .is (.tmp 10) (VP.int .i64 ((ls.length : Nat) : Int)), .is (.tmp 11) (VP.int .i64 ((k : Nat) : Int)), .is (.tmp 12) (VP.bool (decide (((k : Nat) : Int) < ((ls.length : Nat) : Int)))), .pt 13 (.row (.val v0) (k * 1)), .is (.tmp 14) (VP.eq ux true true), .is (.tmp 5) (VP.eq ux true true), .is (.tmp 15) (VP.int .i64 ((((ls.take k).flatten).length : Nat) : Int)), .is (.tmp 16) (VP.eq ux true true), .is (.tmp 17) (VP.int .i64 ((x.length : Nat) : Int)), .is (.tmp 18) (VP.int .i64 ((((ls.take (k + 1)).flatten).length : Nat) : Int)), .is (.tmp 3) (VP.int .i64 ((((ls.take (k + 1)).flatten).length : Nat) : Int))] [] [(0, .is (.tmp 19) (VP.int .i64 ((((ls.take (k + 1)).flatten).length : Nat) : Int))), (1, .is (.tmp 20) (VP.bool (decide (((((ls.take (k + 1)).flatten).length : Nat) : Int) < 0))))] [] [0, 1, 2, 3, 4, 5, 6, 7, 8, 9, 10, 11, 12, 13, 14, 15] [] [[], [0]] [[1], []] rfl rfl follow rfl ⟨
      wp rfl (does_move _ (.inl rfl) rfl rfl rfl rfl (ar_tmp (av_fs 15 rfl))),
      wp rfl (does_cmp (m := ((((ls.take (k + 1)).flatten).length : Nat) : Int)) (n := 0) _ _ _ _ _ rfl rfl rfl rfl rfl rfl .i64 (ar_tmp (av_rs 0 0 rfl rfl)) (ar_const (fun _ _ => rfl))),
      trivial⟩ ?_
    refine nx_then ?_
    refine t_cond_fe 17 rfl (decide_eq_false (by omega)) ?_
    refine t_skip ?_
    refine nx_block ?_
    refine nx_then ?_
    refine t_rg [.bor (.val v0) (HA.row 28 1 ls.length ((ls.map slcI).set k (HA.of (VP.eq ux true true)))), .bor (.val ux) (S_int x), .bor (.val v0) (slcs ls), .is (.tmp 0) (VP.eq v0 true true), .is (.tmp 9) (VP.eq v0 true true), .is (.tmp 10) (VP.int .i64 ((ls.length : Nat) : Int)), .is (.tmp 12) (VP.bool (decide (((k : Nat) : Int) < ((ls.length : Nat) : Int)))), .pt 13 (.row (.val v0) (k * 1)), .is (.tmp 14) (VP.eq ux true true), .is (.tmp 5) (VP.eq ux true true), .is (.tmp 15) (VP.int .i64 ((((ls.take k).flatten).length : Nat) : Int)), .is (.tmp 16) (VP.eq ux true true), .is (.tmp 17) (VP.int .i64 ((x.length : Nat) : Int)), .is (.tmp 18) (VP.int .i64 ((((ls.take (k + 1)).flatten).length : Nat) : Int)), .is (.tmp 3) (VP.int .i64 ((((ls.take (k + 1)).flatten).length : Nat) : Int)), .is (.tmp 19) (VP.int .i64 ((((ls.take (k + 1)).flatten).length : Nat) : Int)), .is (.tmp 20) (VP.bool (decide (((((ls.take (k + 1)).flatten).length : Nat) : Int) < 0)))] [(1, .is (.tmp 11) (VP.int .i64 ((k : Nat) : Int)))] [(0, .is (.tmp 22) (VP.int .i64 (((k + 1) : Nat) : Int))), (1, .is (.tmp 11) (VP.int .i64 (((k + 1) : Nat) : Int)))] [] [0, 1, 2, 3, 4, 5, 7, 8, 9, 10, 11, 12, 13, 14, 15, 16, 17] [6] [[], [0]] [[1], []] rfl rfl follow rfl ⟨
      wp rfl (does_addE (m := ((k : Nat) : Int)) (n := 1) (x := (((k + 1) : Nat) : Int)) (by omega) _ _ _ _ rfl rfl rfl rfl rfl (by omega) (ar_tmp (av_os 0 1 rfl rfl)) (ar_const (fun _ _ => rfl))),
      wp rfl (does_move _ (.inl rfl) rfl rfl rfl rfl (ar_tmp (av_rs 0 0 rfl rfl))),
      trivial⟩ ?_
    refine nx_round (τ := {k : Nat // k ≤ ls.length}) (I := fun ⟨k, _⟩ => [.is (.tmp 0) (VP.eq v0 true true), .is (.tmp 3) (VP.int .i64 ((((ls.take k).flatten).length : Nat) : Int)), .is (.tmp 9) (VP.eq v0 true true), .is (.tmp 10) (VP.int .i64 ((ls.length : Nat) : Int)), .is (.tmp 11) (VP.int .i64 ((k : Nat) : Int)), .bor (.val v0) (slcs ls)]) (μ := fun ⟨k, _⟩ => ls.length - k) (s := ⟨k, hk⟩) (⟨k + 1, by omega⟩) ?_ [3, 14, 4, 5, 18, 2] ?_
    · exact (show ls.length - (k + 1) < ls.length - k by omega)
    · exact rfl
  · have hc1 := of_decide_eq_false hb1
    refine t_exit ?_
    refine ex_then ?_
    refine ex_then ?_
    refine ex_block ?_
    refine nx_then ?_
    refine t_pick [0, 1, 5] rfl ?_
    refine t_seq ?_
    refine t_rg [.is (.tmp 0) (VP.eq v0 true true), .is (.tmp 3) (VP.int .i64 ((((ls.take k).flatten).length : Nat) : Int)), .bor (.val v0) (slcs ls)] [] [(0, .is (.tmp 23) (VP.int .i64 ((((ls.take k).flatten).length : Nat) : Int))), (1, .own 102 (.tmp 24) (R_int ([] : List Int))), (2, .eq 6 (.tmp 24))] [] [0, 1, 2] [] [[], [0], [0, 1]] [[1, 2], [2], []] rfl rfl follow rfl ⟨
      wp rfl (does_move _ (.inl rfl) rfl rfl rfl rfl (ar_tmp (av_fs 1 rfl))),
      wp rfl (does_callG [] [] [] 102 [0] (da_Grow (((ls.take k).flatten).length) (by omega)) rfl DagG_hb_slices_Grow___int_int_ rfl rfl rfl rfl rfl ar_clo (ars_cons (pa_vp (ar_const (fun _ _ => rfl))) (ars_cons (pa_vp (ar_tmp (av_rs 0 0 rfl rfl))) ars_nil)) trivial trivial),
      wp rfl (does_eqTmp (k := 24) _ rfl (.inr rfl) rfl rfl rfl rfl rfl),
      trivial⟩ ?_
    refine t_pick [0, 2, 4, 5] rfl ?_
    refine nx_then ?_
    refine t_pick [2, 0, 1, 3] rfl ?_
    refine t_name rfl fun w6 => ?_
    refine t_pick [4, 1, 0, 2, 3] rfl ?_
    refine t_eq ?_
    refine t_pick [0, 2, 3, 4] rfl ?_
    refine t_seq ?_
    refine t_seq ?_
    refine t_rg [.is (.tmp 6) (VP.eq w6 true true), .own 102 (.val w6) (R_int ([] : List Int)), .is (.tmp 0) (VP.eq v0 true true), .bor (.val v0) (slcs ls)] [] [(0, .is (.tmp 25) (VP.eq v0 true true)), (1, .is (.tmp 26) (VP.int .i64 ((ls.length : Nat) : Int))), (2, .is (.tmp 27) (VP.int .i64 0))] [] [0, 1, 2, 3] [] [[], [0], []] [[1], [], []] rfl rfl follow rfl ⟨
      wp rfl (does_move _ (.inl rfl) rfl rfl rfl rfl (ar_tmp (av_fs 2 rfl))),
      wp rfl (does_len _ _ (by kernel_rfl) rfl rfl rfl rfl rfl (sl_bor (av_fs 3 rfl) (ar_tmp (av_rs 0 0 rfl rfl)))),
      wp rfl (does_move _ (.inl rfl) rfl rfl rfl rfl (ar_const (fun _ _ => rfl))),
      trivial⟩ ?_
    refine t_pick [0, 1, 3, 4, 5, 6] rfl ?_
    refine nx_then ?_
    refine t_block ?_
    refine t_pick [1, 0, 2, 3, 4, 5] rfl ?_
    refine t_untmp rfl ?_
    refine t_pick [4, 0, 1, 2, 3] rfl ?_
    refine t_slot (y := VP.int .i64 ((0 : Nat) : Int)) (fun _ _ _ h => h) ?_
    refine t_loop (τ := {k : Nat // k ≤ ls.length}) (fun ⟨k, _⟩ => [.is (.tmp 25) (VP.eq v0 true true), .is (.tmp 26) (VP.int .i64 ((ls.length : Nat) : Int)), .is (.tmp 27) (VP.int .i64 ((k : Nat) : Int)), .bor (.val v0) (slcs ls), .own 102 (.tmp 6) (R_int ((ls.take k).flatten))]) (fun ⟨k, _⟩ => ls.length - k) (⟨0, Nat.zero_le _⟩) [3, 4, 0, 2, 1] rfl ?_
    rintro ⟨k, hk⟩
    have hfk := flat_le (ls := ls) (k := k)
    refine t_seq ?_
    refine t_pick [4, 0, 1, 2, 3] rfl ?_
    refine t_name rfl fun v2 => ?_
    refine t_rg [.own 102 (.val v2) (R_int ((ls.take k).flatten)), .is (.tmp 6) (VP.eq v2 true true), .is (.tmp 25) (VP.eq v0 true true), .is (.tmp 26) (VP.int .i64 ((ls.length : Nat) : Int)), .is (.tmp 27) (VP.int .i64 ((k : Nat) : Int)), .bor (.val v0) (slcs ls)] [] [(0, .is (.tmp 28) (VP.bool (decide (((k : Nat) : Int) < ((ls.length : Nat) : Int)))))] [] [0, 1, 2, 3, 4, 5] [] [[]] [[]] rfl rfl follow rfl ⟨
      wp rfl (does_cmp (m := ((k : Nat) : Int)) (n := ((ls.length : Nat) : Int)) _ _ _ _ _ rfl rfl rfl rfl rfl rfl .i64 (ar_tmp (av_fs 4 rfl)) (ar_tmp (av_fs 3 rfl))),
      trivial⟩ ?_
    refine nx_then ?_
    refine t_seq ?_
    refine t_split 6 rfl (fun hb3 => ?_) (fun hb3 => ?_)
    · have hc3 := of_decide_eq_true hb3
      obtain ⟨x, hx⟩ : ∃ x, ls[k]? = some x := ⟨_, List.getElem?_eq_getElem (by omega)⟩
      have hst : ((ls.take (k + 1)).flatten).length = ((ls.take k).flatten).length + x.length := by rw [← flat_snocL hx, List.length_append]
      have hfl := flat_le (ls := ls) (k := k + 1)
      refine t_skip ?_
      refine nx_then ?_
      refine t_seq ?_
      refine t_block ?_
      refine t_seq ?_
      refine t_pick [5, 5, 0, 1, 2, 3, 4, 6] rfl ?_
      refine b_part (part_row (E := 28) (sz := 1) (n := ls.length) (Rs := ls.map slcI) k (hole_hm hx)) fun ux => ?_
      refine t_rg [.bor (.val v0) (HA.row 28 1 ls.length ((ls.map slcI).set k (HA.of (VP.eq ux true true)))), .bor (.val ux) (S_int x), .bor (.val v0) (slcs ls), .own 102 (.val v2) (R_int ((ls.take k).flatten)), .is (.tmp 6) (VP.eq v2 true true), .is (.tmp 25) (VP.eq v0 true true), .is (.tmp 26) (VP.int .i64 ((ls.length : Nat) : Int)), .is (.tmp 27) (VP.int .i64 ((k : Nat) : Int)), .is (.tmp 28) (VP.bool (decide (((k : Nat) : Int) < ((ls.length : Nat) : Int))))] [] [(0, .pt 29 (.row (.val v0) (k * 1))), (1, .is (.tmp 30) (VP.eq ux true true)), (2, .is (.tmp 8) (VP.eq ux true true))] [] [0, 1, 2, 3, 4, 5, 6, 7, 8] [] [[], [0], [0, 1]] [[1, 2], [2], []] rfl rfl follow rfl ⟨
        wp rfl (does_index (m := k) _ _ Try.underlying47 DagG_size___int rfl rfl rfl rfl rfl _ (by omega) rfl (by omega) (sl_bor (av_fs 0 rfl) (ar_tmp (av_fs 5 rfl))) (ar_tmp (av_fs 7 rfl))),
        wp rfl (does_loadOne _ DagG_one___int rfl rfl rfl rfl rfl (pt_pt (av_rs 0 0 rfl rfl)) (rds_brow (av_fs 0 rfl) (hq_one (hole_get (by omega))))),
        wp rfl (does_move _ (.inr rfl) rfl rfl rfl rfl (ar_tmp (av_rs 1 1 rfl rfl))),
        trivial⟩ ?_
      refine nx_then ?_
      refine t_rg [.bor (.val v0) (HA.row 28 1 ls.length ((ls.map slcI).set k (HA.of (VP.eq ux true true)))), .bor (.val ux) (S_int x), .bor (.val v0) (slcs ls), .is (.tmp 25) (VP.eq v0 true true), .is (.tmp 26) (VP.int .i64 ((ls.length : Nat) : Int)), .is (.tmp 27) (VP.int .i64 ((k : Nat) : Int)), .is (.tmp 28) (VP.bool (decide (((k : Nat) : Int) < ((ls.length : Nat) : Int)))), .pt 29 (.row (.val v0) (k * 1)), .is (.tmp 30) (VP.eq ux true true), .is (.tmp 8) (VP.eq ux true true)] [(2, .own 102 (.val v2) (R_int ((ls.take k).flatten))), (3, .is (.tmp 6) (VP.eq v2 true true))] [(0, .is (.tmp 31) (VP.eq v2 true true)), (1, .is (.tmp 32) (VP.eq ux true true)), (2, .own 102 (.tmp 33) (R_int (((ls.take k).flatten) ++ x))), (3, .eq 6 (.tmp 33))] [] [0, 1, 2, 5, 6, 7, 8, 9, 10, 11] [3, 4] [[], [], [0, 1], [0, 1, 2]] [[2, 3], [2, 3], [3], []] rfl rfl follow rfl ⟨
        wp rfl (does_move _ (.inl rfl) rfl rfl rfl rfl (ar_tmp (av_os 1 3 rfl rfl))),
        wp rfl (does_move _ (.inl rfl) rfl rfl rfl rfl (ar_tmp (av_fs 9 rfl))),
        wp rfl (does_append (n := ((ls.take k).flatten).length) (m := x.length) DagG_el_int rfl _ _ rfl rfl rfl rfl rfl (by simp only [List.length_append, List.length_nil, List.length_cons, Nat.zero_add]) (flat_cat ((ls.take k).flatten) x) rfl (by constructor <;> first | decide | omega | (simp only [List.length_append, List.length_cons, List.length_nil] at *; omega)) (flat_lenH cInt_len _) (flat_allH (fun _ => rfl) cInt_one _) (flat_allH (fun _ => rfl) cInt_nu _) (mv_ownv (av_os 0 2 rfl rfl) (ar_tmp (av_rs 0 0 rfl rfl))) (src_slc (av_fs 1 rfl) (ar_tmp (av_rs 1 1 rfl rfl)))),
        wp rfl (does_eqTmp (k := 33) _ rfl (.inr rfl) rfl rfl rfl rfl rfl),
        trivial⟩ ?_
      refine nx_block ?_
      refine nx_then ?_
      refine t_pick [12, 0, 1, 2, 3, 4, 5, 6, 7, 8, 9, 10, 11, 13] rfl ?_
      refine t_name rfl fun v4 => ?_
      refine t_pick [14, 1, 0, 2, 3, 4, 5, 6, 7, 8, 9, 10, 11, 12, 13] rfl ?_
      refine t_eq ?_
      refine t_rg [.is (.tmp 6) (VP.eq v4 true true), .is (.tmp 33) (VP.eq v4 true true), .own 102 (.val v4) (R_int (((ls.take k).flatten) ++ x)), .bor (.val v0) (HA.row 28 1 ls.length ((ls.map slcI).set k (HA.of (VP.eq ux true true)))), .bor (.val ux) (S_int x), .bor (.val v0) (slcs ls), .is (.tmp 25) (VP.eq v0 true true), .is (.tmp 26) (VP.int .i64 ((ls.length : Nat) : Int)), .is (.tmp 28) (VP.bool (decide (((k : Nat) : Int) < ((ls.length : Nat) : Int)))), .pt 29 (.row (.val v0) (k * 1)), .is (.tmp 30) (VP.eq ux true true), .is (.tmp 8) (VP.eq ux true true), .is (.tmp 31) (VP.eq v2 true true), .is (.tmp 32) (VP.eq ux true true)] [(1, .is (.tmp 27) (VP.int .i64 ((k : Nat) : Int)))] [(0, .is (.tmp 34) (VP.int .i64 (((k + 1) : Nat) : Int))), (1, .is (.tmp 27) (VP.int .i64 (((k + 1) : Nat) : Int)))] [] [0, 1, 2, 3, 4, 5, 6, 7, 9, 10, 11, 12, 13, 14] [8] [[], [0]] [[1], []] rfl rfl follow rfl ⟨
        wp rfl (does_addE (m := ((k : Nat) : Int)) (n := 1) (x := (((k + 1) : Nat) : Int)) (by omega) _ _ _ _ rfl rfl rfl rfl rfl (by omega) (ar_tmp (av_os 0 1 rfl rfl)) (ar_const (fun _ _ => rfl))),
        wp rfl (does_move _ (.inl rfl) rfl rfl rfl rfl (ar_tmp (av_rs 0 0 rfl rfl))),
        trivial⟩ ?_
      refine t_pick [2, 0, 1, 3, 4, 5, 6, 7, 8, 9, 10, 11, 12, 13, 14, 15] rfl ?_
      refine t_untmp rfl ?_
      refine t_weak (R' := R_int ((ls.take (k + 1)).flatten)) (fun _ _ _ _ h => by rw [← flat_snocL hx]; exact h) rfl ?_
      refine nx_round (τ := {k : Nat // k ≤ ls.length}) (I := fun ⟨k, _⟩ => [.is (.tmp 25) (VP.eq v0 true true), .is (.tmp 26) (VP.int .i64 ((ls.length : Nat) : Int)), .is (.tmp 27) (VP.int .i64 ((k : Nat) : Int)), .bor (.val v0) (slcs ls), .own 102 (.tmp 6) (R_int ((ls.take k).flatten))]) (μ := fun ⟨k, _⟩ => ls.length - k) (s := ⟨k, hk⟩) (⟨k + 1, by omega⟩) ?_ [5, 6, 14, 4, 0] ?_
      · exact (show ls.length - (k + 1) < ls.length - k by omega)
      · exact rfl
    · have hc3 := of_decide_eq_false hb3
      refine t_exit ?_
      refine ex_then ?_
      refine ex_then ?_
      refine ex_block ?_
      refine nx_then ?_
      refine t_pick [0, 1, 5] rfl ?_
      refine t_seq ?_
      refine t_rg [.own 102 (.val v2) (R_int ((ls.take k).flatten)), .is (.tmp 6) (VP.eq v2 true true), .bor (.val v0) (slcs ls)] [] [(0, .is (.tmp 35) (VP.eq v2 true true)), (1, .is (.tmp 2) (VP.eq v2 true true))] [] [0, 1, 2] [] [[], [0]] [[1], []] rfl rfl follow rfl ⟨
        wp rfl (does_move _ (.inl rfl) rfl rfl rfl rfl (ar_tmp (av_fs 1 rfl))),
        wp rfl (does_move _ (.inr rfl) rfl rfl rfl rfl (ar_tmp (av_rs 0 0 rfl rfl))),
        trivial⟩ ?_
      refine t_pick [0, 2, 4] rfl ?_
      refine nx_then ?_
      refine t_weak (R' := R_int ls.flatten) (fun _ _ _ _ h => by rw [List.take_of_length_le (show ls.length ≤ k by omega)] at h; exact h) rfl ?_
      refine t_ret ?_
      exact rt_post [R_int ls.flatten] [[102]] [] [] rfl ⟨(rv_ownv 0 2 rfl rfl), trivial⟩ (by decide) rfl rfl

end O
end Go.Proofs.Ytapmngmpomhjmaa

/- Whether a term may be. -/
namespace Go.Proofs.Ytapmngmpomhjmaa
open Go.RowKit
namespace O

def ArD.unthere (d : ArD) (q : List Int) : Bool := q.any fun s => !(d.there s)
def ArD.bad (d : ArD) (t : TermD) (k : Nat) : Bool := (List.range k).any fun i => d.ofk (kid t i) != ((d.wants t)[i]?).getD 0
def ArD.free (d : ArD) (t : TermD) (k : Nat) : Nat := ((List.range k).filter fun i => !(d.con (kid t i))).length
def ArD.fits (d : ArD) (t : TermD) : Int :=
  bif d.bareE t != 0 then d.bareE t else bif d.unthere t.kids then 2 else bif decide (((t.kids.length : Nat) : Int) < d.least t) || decide (((t.kids.length : Nat) : Int) > d.great t) then 15
  else bif d.bad t t.kids.length then 14 else bif (t.op == 19) && decide (((d.free t t.kids.length : Nat) : Int) > 1) then 16 else 0
section
variable {d : ArD} {t : TermD} {k : Nat}
theorem bad_yes {n : Nat} {w : Int} (h : k < n) (hw : (d.wants t)[k]? = some w) (hb : (d.ofk (kid t k) != w) = true) : d.bad t n = true := by
  unfold ArD.bad
  exact List.any_eq_true.2 ⟨k, List.mem_range.2 h, by rw [hw]; exact hb⟩
theorem bad_succ {w : Int} (h : d.bad t k = false) (hw : (d.wants t)[k]? = some w) (hb : (d.ofk (kid t k) != w) = false) : d.bad t (k + 1) = false := by
  unfold ArD.bad at h ⊢
  rw [List.range_succ, List.any_append, h, Bool.false_or, List.any_cons, List.any_nil, Bool.or_false, hw]; exact hb
theorem free_t (h : (!(d.con (kid t k))) = true) : d.free t k + 1 = d.free t (k + 1) := by
  unfold ArD.free
  rw [List.range_succ, List.filter_append, List.length_append, List.filter_cons, h]; rfl
theorem free_f (h : (!(d.con (kid t k))) = false) : d.free t k = d.free t (k + 1) := by
  unfold ArD.free
  rw [List.range_succ, List.filter_append, List.length_append, List.filter_cons, h]; rfl
theorem free_le : d.free t k ≤ k := by
  unfold ArD.free
  exact Nat.le_trans (List.length_filter_le _ _) (by simp)
theorem bare_fn (h : d.bareE t = 0) : t.op = 3 → 0 ≤ t.fn ∧ t.fn < d.funs.length := fun e => by
  unfold ArD.bareE at h
  rw [e] at h
  rcases Bool.eq_false_or_eq_true (decide ((3 : Int) < 1) || decide ((3 : Int) > 19) || (((3 : Int) != 3) && (t.fn != 0))) with h1 | h1
  · rw [h1] at h; cases h
  rw [h1] at h
  rcases Bool.eq_false_or_eq_true ((((3 : Int) == 4) && !(decB t.num)) || (((3 : Int) != 4) && !(t.num.toList == (ByteArray.mk #[]).toList))) with h2 | h2
  · rw [h2] at h; cases h
  rw [h2] at h
  rcases Bool.eq_false_or_eq_true (((3 : Int) == 3) && (decide (t.fn < 0) || decide (t.fn ≥ ((d.funs.length : Nat) : Int)))) with h3 | h3
  · rw [h3] at h; cases h
  simp only [beq_self_eq_true, Bool.true_and, Bool.or_eq_false_iff, decide_eq_false_iff_not] at h3
  omega
theorem unthere_no (h : d.unthere t.kids = false) : ∀ k ∈ t.kids, 0 ≤ k ∧ k < d.terms.length := fun k hk => by
  have := List.any_eq_false.1 h k hk
  simp only [ArD.there, Bool.not_eq_true, Bool.not_eq_false', decide_eq_true_eq] at this
  exact this
theorem least_10 (h : t.op = 10) : d.least t = 3 := by unfold ArD.least; rw [h]; rfl
theorem wants_len (h1 : decide (((t.kids.length : Nat) : Int) < d.least t) = false) (h2 : decide (((t.kids.length : Nat) : Int) > d.great t) = false) : (d.wants t).length = t.kids.length := by
  unfold ArD.wants
  rcases Bool.eq_false_or_eq_true (t.op == 3) with h | h
  · rw [h]
    have e := eq_of_beq h
    unfold ArD.least at h1
    unfold ArD.great at h2
    rw [e] at h1 h2
    have h1 := of_decide_eq_false h1
    have h2 := of_decide_eq_false h2
    simp only [show ((3 : Int) == 1) = false from rfl, show ((3 : Int) == 2) = false from rfl, show ((3 : Int) == 4) = false from rfl, Bool.or_false, cond_false, show ((3 : Int) == 3) = true from rfl, cond_true] at h1 h2 ⊢
    omega
  · rw [h]; exact wantK_len
end
theorem DagI_one__dag_Arena : oneTy Try.prog 25 = true := by kernel_rfl
theorem DagI_hb___collator_dag_Arena__there : hasBody Try.prog 46 = true := by kernel_rfl
abbrev DagI_p45_1 : Tab2 := [[], [], [0, 1], [0, 1, 2], [0, 1, 2, 3]]
abbrev DagI_s45_1 : Tab2 := [[2, 3, 4], [2, 3, 4], [3, 4], [4], []]
theorem DagI_agg_api_Term : aggTy Try.prog 30 4 = true := by kernel_rfl
theorem DagI_hb___collator_dag_Arena__bare : hasBody Try.prog 44 = true := by kernel_rfl
theorem DagI_f_api_Term_2 : fieldAt Try.prog 30 2 2 = true := by kernel_rfl
theorem DagI_one___int : oneTy Try.prog 28 = true := by kernel_rfl
theorem DagI_hb_slices_ContainsFunc___int_int_ : hasBody Try.prog 24 = true := by kernel_rfl
theorem DagI_hb___collator_dag_Arena__counts : hasBody Try.prog 47 = true := by kernel_rfl
abbrev DagI_p30_6 : Tab2 := [[], [], [0, 1], [0, 1, 2], [0, 1, 2, 3], [0, 1, 2, 3], [0, 1, 2, 3, 4], [0, 1, 2, 3, 4, 5, 6]]
abbrev DagI_s30_6 : Tab2 := [[2, 3, 4, 5, 6, 7], [2, 3, 4, 5, 6, 7], [3, 4, 5, 6, 7], [4, 5, 6, 7], [6, 7], [7], [7], []]
abbrev DagI_p30_7 : Tab2 := [[], [0], [0, 1], [], [0, 1, 2, 3], [0, 1, 2, 3, 4], [0, 1, 2, 3, 4, 5], [0, 1, 2, 3, 4, 5, 6], [0, 1, 2, 3, 4, 5, 6, 7], [0, 1, 2, 3, 4, 5], [0, 1, 2, 3, 4, 5, 6, 7, 8, 9], [0, 1, 2, 3, 4, 5, 6, 7, 8, 9, 10]]
abbrev DagI_s30_7 : Tab2 := [[1, 2, 4, 5, 6, 7, 8, 9, 10, 11], [2, 4, 5, 6, 7, 8, 9, 10, 11], [4, 5, 6, 7, 8, 9, 10, 11], [4, 5, 6, 7, 8, 9, 10, 11], [5, 6, 7, 8, 9, 10, 11], [6, 7, 8, 9, 10, 11], [7, 8, 10, 11], [8, 10, 11], [10, 11], [10, 11], [11], []]
theorem DagI_hb___collator_dag_Arena__wants : hasBody Try.prog 48 = true := by kernel_rfl
theorem DagI_one_int : oneTy Try.prog 3 = true := by kernel_rfl
theorem DagI_size_int : ∀ w, (sizeOf 3).run Try.prog w = .ok 1 w := run_sizeOne DagI_one_int
abbrev DagI_p30_12 : Tab2 := [[], [], [1], [0, 1, 2], [0, 1, 2, 3]]
abbrev DagI_s30_12 : Tab2 := [[3, 4], [2, 3, 4], [3, 4], [4], []]
theorem DagI_f_dag_Arena_3 : fieldAt Try.prog 64 3 3 = true := by kernel_rfl
abbrev DagI_p30_13 : Tab2 := [[], [0], [0, 1], [0, 1, 2], [], [4], [], [4, 5, 6], [4, 5, 6, 7], [0, 1, 2, 3, 4, 5, 6, 7, 8], [0, 1, 2, 3, 4, 5, 6, 7, 8, 9], [], [0, 1, 2, 3, 4, 5, 6, 7, 8, 9, 10, 11]]
abbrev DagI_s30_13 : Tab2 := [[1, 2, 3, 9, 10, 12], [2, 3, 9, 10, 12], [3, 9, 10, 12], [9, 10, 12], [5, 7, 8, 9, 10, 12], [7, 8, 9, 10, 12], [7, 8, 9, 10, 12], [8, 9, 10, 12], [9, 10, 12], [10, 12], [12], [12], []]
theorem DagI_hb___collator_dag_Arena__Constant : hasBody Try.prog 49 = true := by kernel_rfl
abbrev DagI_p30_15 : Tab2 := [[], [], [1], [], [1, 2, 3], [1, 2, 3, 4], [0, 1, 2, 3, 4, 5], [0, 1, 2, 3, 4, 5, 6]]
abbrev DagI_s30_15 : Tab2 := [[6, 7], [2, 4, 5, 6, 7], [4, 5, 6, 7], [4, 5, 6, 7], [5, 6, 7], [6, 7], [7], []]
theorem DagI_f_api_Term_0 : fieldAt Try.prog 30 0 0 = true := by kernel_rfl
abbrev DagI_p30_18 : Tab2 := [[], [0], [0, 1], [0, 1, 2], [0, 1, 2, 3], [0, 1, 2, 3, 4], [0, 1, 2, 3, 4, 5]]
abbrev DagI_s30_18 : Tab2 := [[1, 2, 3, 4, 5, 6], [2, 3, 4, 5, 6], [3, 4, 5, 6], [4, 5, 6], [5, 6], [6], []]
set_option maxRecDepth 100000 in
set_option maxHeartbeats 4000000 in
theorem da_fits1 {c v : Value} {d : ArD} (s : Int) : SpecO Try.prog 45 [.vp (VP.int .i64 s), .vp (VP.ptr c)] [(c, HA.cells 25 [HA.of (VP.ptr v)]), (v, Arn d)] [] [] (HA.of (VP.bool (!(d.there s)))) := by
  refine spec_of 8 Try.func45 rfl Try.ntmps45 rfl fun w0 S0 Z0 Bf => ?_
  refine t_seq ?_
  refine t_rg [.is (.tmp 0) (VP.int .i64 s), .is (.tmp 1) (VP.ptr c), .bor (.val c) (HA.cells 25 [HA.of (VP.ptr v)]), .bor (.val v) (Arn d)] [] [(0, .is (.tmp 3) (VP.bool false))] [] [0, 1, 2, 3] [] [[]] [[]] rfl rfl follow rfl ⟨
    wp rfl (does_move _ (.inr rfl) rfl rfl rfl rfl (ar_const (fun _ _ => rfl))),
    trivial⟩ ?_
  refine nx_then ?_
  refine t_seq ?_
  refine t_rg [.is (.tmp 0) (VP.int .i64 s), .is (.tmp 1) (VP.ptr c), .bor (.val c) (HA.cells 25 [HA.of (VP.ptr v)]), .bor (.val v) (Arn d)] [(4, .is (.tmp 3) (VP.bool false))] [(0, .is (.tmp 4) (VP.ptr v)), (1, .is (.tmp 5) (VP.int .i64 s)), (2, .is (.tmp 6) (VP.bool (d.there s))), (3, .is (.tmp 7) (VP.bool (!(d.there s)))), (4, .is (.tmp 3) (VP.bool (!(d.there s))))] [] [0, 1, 2, 3] [4] DagI_p45_1 DagI_s45_1 rfl rfl follow rfl ⟨
    wp rfl (does_loadOne _ DagI_one__dag_Arena rfl rfl rfl rfl rfl (pt_ptr (ar_tmp (av_fs 1 rfl))) (rds_bbox (off := 0) (av_fs 2 rfl) (hq_one rfl))),
    wp rfl (does_move _ (.inl rfl) rfl rfl rfl rfl (ar_tmp (av_fs 0 rfl))),
    wp rfl (does_call (da_there (v := v) (d := d) s) (fun _ _ _ _ h => h) rfl DagI_hb___collator_dag_Arena__there rfl rfl rfl rfl ar_clo (ars_cons (pa_vp (ar_tmp (av_rs 0 0 rfl rfl))) (ars_cons (pa_vp (ar_tmp (av_rs 1 1 rfl rfl))) ars_nil)) ⟨(brw_bor (av_fs 3 rfl)), trivial⟩),
    wp rfl (does_not (d.there s) _ _ rfl rfl rfl rfl rfl (ar_tmp (av_rs 2 2 rfl rfl))),
    wp rfl (does_move _ (.inr rfl) rfl rfl rfl rfl (ar_tmp (av_rs 3 3 rfl rfl))),
    trivial⟩ ?_
  refine t_pick [2, 3, 8] rfl ?_
  refine nx_then ?_
  refine t_ret ?_
  exact rt_post [HA.of (VP.bool (!(d.there s)))] [[]] [] [] rfl ⟨(rv_vp 2 rfl), trivial⟩ (by decide) rfl rfl

theorem DagI_hb_fits1 : hasBody Try.prog 45 = true := by kernel_rfl
theorem da_anyThere {c v : Value} {d : ArD} (hc : ∃ g o, c = .pointer (some ⟨g, o, none⟩)) (q : List Int) : SpecO Try.prog 24 [.bo (HA.slc q.length (q.flatMap cInt)), .vp (VP.clo 45 [c])] [(c, HA.cells 25 [HA.of (VP.ptr v)]), (v, Arn d)] [] [] (HA.of (VP.bool (d.unthere q))) :=
  spec_unlook Go.undef (dg_AnyInt q 45 [] [c] [] [VP.ptr c] DagI_hb_fits1 rfl (fun Z w => trivial) rfl (fun _ _ => ⟨⟨rfl, hc⟩, trivial⟩) [(c, HA.cells 25 [HA.of (VP.ptr v)]), (v, Arn d)] (fun s => !(d.there s)) fun x _ => spec_look _ (da_fits1 (c := c) (v := v) (d := d) x))
set_option maxRecDepth 100000 in
set_option maxHeartbeats 4000000 in
theorem da_fits {v : Value} {d : ArD} (t : TermD) (hkd : d.kidsOk) (ho : d.of_.length = d.terms.length) (hl : t.kids.length ≤ 1000000) : SpecO Try.prog 30 [.vp (VP.ptr v), .vp (VP.agg [VP.int .i64 t.op, VP.int .i64 t.fn, O_int t.kids, VP.str t.num])] [(v, Arn d)] [] [] (HA.of (VP.int .i64 (d.fits t))) := by
  refine spec_of 79 Try.func30 rfl Try.ntmps30 rfl fun w0 S0 Z0 Bf => ?_
  refine t_pick [2, 2, 0, 1] rfl ?_
  refine b_part (part_cells (T' := 64) (Rs := [R_sort d.sorts, R_fun d.funs, R_term d.terms, R_int d.of_, R_u64 d.hashes, rowsInt d.table, HA.of (VP.int .i64 d.most)]) 0 rfl) fun us => ?_
  refine b_part (part_cells (T' := 64) (Rs := [HA.of (VP.eq us true true), R_fun d.funs, R_term d.terms, R_int d.of_, R_u64 d.hashes, rowsInt d.table, HA.of (VP.int .i64 d.most)]) 1 rfl) fun uf => ?_
  refine b_part (part_cells (T' := 64) (Rs := [HA.of (VP.eq us true true), HA.of (VP.eq uf true true), R_term d.terms, R_int d.of_, R_u64 d.hashes, rowsInt d.table, HA.of (VP.int .i64 d.most)]) 2 rfl) fun ut => ?_
  refine b_part (part_cells (T' := 64) (Rs := [HA.of (VP.eq us true true), HA.of (VP.eq uf true true), HA.of (VP.eq ut true true), R_int d.of_, R_u64 d.hashes, rowsInt d.table, HA.of (VP.int .i64 d.most)]) 3 rfl) fun uo => ?_
  refine b_part (part_cells (T' := 64) (Rs := [HA.of (VP.eq us true true), HA.of (VP.eq uf true true), HA.of (VP.eq ut true true), HA.of (VP.eq uo true true), R_u64 d.hashes, rowsInt d.table, HA.of (VP.int .i64 d.most)]) 4 rfl) fun uh => ?_
  refine b_part (part_cells (T' := 64) (Rs := [HA.of (VP.eq us true true), HA.of (VP.eq uf true true), HA.of (VP.eq ut true true), HA.of (VP.eq uo true true), HA.of (VP.eq uh true true), rowsInt d.table, HA.of (VP.int .i64 d.most)]) 5 rfl) fun ub => ?_
  refine t_seq ?_
  refine t_rg [.bor (.val v) (ArO us uf ut uo uh ub d.most), .bor (.val ub) (rowsInt d.table), .bor (.val uh) (R_u64 d.hashes), .bor (.val uo) (R_int d.of_), .bor (.val ut) (R_term d.terms), .bor (.val uf) (R_fun d.funs), .bor (.val us) (R_sort d.sorts), .bor (.val v) (Arn d), .is (.tmp 0) (VP.ptr v), .is (.tmp 1) (VP.agg [VP.int .i64 t.op, VP.int .i64 t.fn, O_int t.kids, VP.str t.num])] [] [(0, .own 101 (.tmp 2) (HA.cells 25 [HA.of (VP.ptr v)])), (1, .own 102 (.tmp 3) (B_term t)), (2, .is (.tmp 4) (VP.int .i64 0))] [] [0, 1, 2, 3, 4, 5, 6, 7, 8, 9] [] [[], [], []] [[], [], []] rfl rfl follow rfl ⟨
    wp rfl (does_box (Rs := [HA.of (VP.ptr v)]) _ rfl rfl rfl rfl rfl rfl (cv_one rfl (mv_vp (ar_tmp (av_fs 8 rfl))))),
    wp rfl (does_box (Rs := [HA.of (VP.int .i64 t.op), HA.of (VP.int .i64 t.fn), HA.of (O_int t.kids), HA.of (VP.str t.num)]) _ rfl rfl rfl rfl rfl rfl (cv_agg (ps := [VP.int .i64 t.op, VP.int .i64 t.fn, O_int t.kids, VP.str t.num]) (ar_tmp (av_fs 9 rfl)))),
    wp rfl (does_move _ (.inr rfl) rfl rfl rfl rfl (ar_const (fun _ _ => rfl))),
    trivial⟩ ?_
  refine t_pick [0, 1, 2, 3, 4, 5, 6, 7, 10, 11, 12] rfl ?_
  refine nx_then ?_
  refine t_pick [8, 0, 1, 2, 3, 4, 5, 6, 7, 9, 10] rfl ?_
  refine t_nameP rfl fun c2 => ?_
  refine t_pick [10, 0, 1, 2, 3, 4, 5, 6, 7, 8, 9, 11] rfl ?_
  refine t_nameP rfl fun c3 => ?_
  refine t_pick [2, 0, 1, 3, 4, 5, 6, 7, 8, 9, 10, 11, 12] rfl ?_
  refine t_knowP fun hc2 => ?_
  refine t_seq ?_
  refine t_seq ?_
  refine t_rg [.own 101 (.val c2) (HA.cells 25 [HA.of (VP.ptr v)]), .own 102 (.val c3) (B_term t), .is (.tmp 3) (VP.ptr c3), .is (.tmp 2) (VP.ptr c2), .bor (.val v) (ArO us uf ut uo uh ub d.most), .bor (.val ub) (rowsInt d.table), .bor (.val uh) (R_u64 d.hashes), .bor (.val uo) (R_int d.of_), .bor (.val ut) (R_term d.terms), .bor (.val uf) (R_fun d.funs), .bor (.val us) (R_sort d.sorts), .bor (.val v) (Arn d), .is (.tmp 4) (VP.int .i64 0)] [] [(0, .is (.tmp 11) (VP.ptr v)), (1, .is (.tmp 12) (VP.agg [VP.int .i64 t.op, VP.int .i64 t.fn, O_int t.kids, VP.str t.num])), (2, .is (.tmp 13) (VP.int .i64 (d.bareE t))), (3, .is (.tmp 5) (VP.int .i64 (d.bareE t)))] [] [0, 1, 2, 3, 4, 5, 6, 7, 8, 9, 10, 11, 12] [] [[], [], [0, 1], [0, 1, 2]] [[2, 3], [2, 3], [3], []] rfl rfl follow rfl ⟨
    wp rfl (does_loadOne _ DagI_one__dag_Arena rfl rfl rfl rfl rfl (pt_ptr (ar_tmp (av_fs 3 rfl))) (rds_box (off := 0) (av_fs 0 rfl) (hq_one rfl))),
    wp rfl (does_loadAgg (ps := [VP.int .i64 t.op, VP.int .i64 t.fn, O_int t.kids, VP.str t.num]) _ DagI_agg_api_Term rfl rfl rfl rfl rfl (pt_ptr (ar_tmp (av_fs 2 rfl))) (rds_box (off := 0) (av_fs 1 rfl) (hq_many (n := 4) rfl))),
    wp rfl (does_call (da_bare (v := v) (d := d) t) (fun _ _ _ _ h => h) rfl DagI_hb___collator_dag_Arena__bare rfl rfl rfl rfl ar_clo (ars_cons (pa_vp (ar_tmp (av_rs 0 0 rfl rfl))) (ars_cons (pa_vp (ar_tmp (av_rs 1 1 rfl rfl))) ars_nil)) ⟨(brw_bor (av_fs 11 rfl)), trivial⟩),
    wp rfl (does_move _ (.inr rfl) rfl rfl rfl rfl (ar_tmp (av_rs 2 2 rfl rfl))),
    trivial⟩ ?_
  refine t_pick [0, 1, 2, 3, 4, 5, 6, 7, 8, 9, 10, 11, 12, 16] rfl ?_
  refine nx_then ?_
  refine t_seq ?_
  refine t_rg [.own 101 (.val c2) (HA.cells 25 [HA.of (VP.ptr v)]), .own 102 (.val c3) (B_term t), .is (.tmp 3) (VP.ptr c3), .is (.tmp 2) (VP.ptr c2), .bor (.val v) (ArO us uf ut uo uh ub d.most), .bor (.val ub) (rowsInt d.table), .bor (.val uh) (R_u64 d.hashes), .bor (.val uo) (R_int d.of_), .bor (.val ut) (R_term d.terms), .bor (.val uf) (R_fun d.funs), .bor (.val us) (R_sort d.sorts), .bor (.val v) (Arn d), .is (.tmp 4) (VP.int .i64 0), .is (.tmp 5) (VP.int .i64 (d.bareE t))] [] [(0, .is (.tmp 14) (VP.int .i64 (d.bareE t))), (1, .is (.tmp 15) (VP.bool ((d.bareE t) != 0)))] [] [0, 1, 2, 3, 4, 5, 6, 7, 8, 9, 10, 11, 12, 13] [] [[], [0]] [[1], []] rfl rfl follow rfl ⟨
    wp rfl (does_move _ (.inl rfl) rfl rfl rfl rfl (ar_tmp (av_fs 13 rfl))),
    wp rfl (does_cmp (m := (d.bareE t)) (n := 0) _ _ _ _ _ rfl rfl rfl rfl rfl rfl .i64 (ar_tmp (av_rs 0 0 rfl rfl)) (ar_const (fun _ _ => rfl))),
    trivial⟩ ?_
  refine t_pick [0, 1, 2, 3, 4, 5, 6, 7, 8, 9, 10, 11, 12, 13, 15] rfl ?_
  refine nx_then ?_
  refine t_split 14 rfl (fun hb1 => ?_) (fun hb1 => ?_)
  · have hc1 := (bne_iff_ne.1 hb1)
    refine t_seq ?_
    refine t_rg [.own 101 (.val c2) (HA.cells 25 [HA.of (VP.ptr v)]), .own 102 (.val c3) (B_term t), .is (.tmp 3) (VP.ptr c3), .is (.tmp 2) (VP.ptr c2), .bor (.val v) (ArO us uf ut uo uh ub d.most), .bor (.val ub) (rowsInt d.table), .bor (.val uh) (R_u64 d.hashes), .bor (.val uo) (R_int d.of_), .bor (.val ut) (R_term d.terms), .bor (.val uf) (R_fun d.funs), .bor (.val us) (R_sort d.sorts), .bor (.val v) (Arn d), .is (.tmp 5) (VP.int .i64 (d.bareE t)), .is (.tmp 15) (VP.bool ((d.bareE t) != 0))] [(1, .is (.tmp 4) (VP.int .i64 0))] [(0, .is (.tmp 16) (VP.int .i64 (d.bareE t))), (1, .is (.tmp 4) (VP.int .i64 (d.bareE t)))] [] [0, 1, 2, 3, 4, 5, 6, 7, 8, 9, 10, 11, 13, 14] [12] [[], [0]] [[1], []] rfl rfl follow rfl ⟨
      wp rfl (does_move _ (.inl rfl) rfl rfl rfl rfl (ar_tmp (av_fs 12 rfl))),
      wp rfl (does_move _ (.inr rfl) rfl rfl rfl rfl (ar_tmp (av_rs 0 0 rfl rfl))),
      trivial⟩ ?_
    refine t_pick [0, 1, 2, 3, 4, 5, 6, 7, 8, 9, 10, 11, 15] rfl ?_
    refine nx_then ?_
    refine t_ret ?_
    refine rt_then ?_
    exact rt_post [HA.of (VP.int .i64 (d.fits t))] [[]] [] [] rfl ⟨(rv_eq (congrArg HA.of (congrArg (VP.int .i64) (show (d.bareE t) = d.fits t from Eq.symm (by unfold ArD.fits; (try rw [hb1]); (try rfl))))) (rv_vp 12 rfl)), trivial⟩ (by decide) rfl rfl
  · have hc1 := (bne_eq_false_iff_eq.1 hb1)
    have hfn := bare_fn (bne_eq_false_iff_eq.1 hb1)
    refine t_skip ?_
    refine nx_then ?_
    refine t_seq ?_
    refine t_seq ?_
    refine t_rg [.own 101 (.val c2) (HA.cells 25 [HA.of (VP.ptr v)]), .own 102 (.val c3) (B_term t), .is (.tmp 3) (VP.ptr c3), .is (.tmp 2) (VP.ptr c2), .bor (.val v) (ArO us uf ut uo uh ub d.most), .bor (.val ub) (rowsInt d.table), .bor (.val uh) (R_u64 d.hashes), .bor (.val uo) (R_int d.of_), .bor (.val ut) (R_term d.terms), .bor (.val uf) (R_fun d.funs), .bor (.val us) (R_sort d.sorts), .bor (.val v) (Arn d), .is (.tmp 4) (VP.int .i64 0), .is (.tmp 5) (VP.int .i64 (d.bareE t)), .is (.tmp 15) (VP.bool ((d.bareE t) != 0))] [] [(0, .pt 17 (.blk (.val c3) 2)), (1, .is (.tmp 18) (O_int t.kids)), (2, .is (.tmp 19) (VP.clo 45 [c2])), (3, .is (.tmp 20) (VP.bool (d.unthere t.kids)))] [] [0, 1, 2, 3, 4, 5, 6, 7, 8, 9, 10, 11, 12, 13, 14] [] [[], [0], [], [0, 1, 2]] [[1, 3], [3], [3], []] rfl rfl follow rfl ⟨
      wp rfl (does_field _ _ _ 2 DagI_f_api_Term_2 rfl rfl rfl rfl rfl rfl (pt_ptr (ar_tmp (av_fs 2 rfl)))),
      wp rfl (does_loadOne _ DagI_one___int rfl rfl rfl rfl rfl (pt_pt (av_rs 0 0 rfl rfl)) (rds_box (off := 2) (av_fs 1 rfl) (hq_one rfl))),
      wp rfl (does_makeFunc rfl rfl rfl rfl rfl ⟨(cap_ptr (ar_tmp (av_fs 3 rfl))), trivial⟩),
      wp rfl (does_call (da_anyThere (c := c2) (v := v) (d := d) hc2 t.kids) (fun _ _ _ _ h => h) rfl DagI_hb_slices_ContainsFunc___int_int_ rfl rfl rfl rfl ar_clo (ars_cons (pa_slcRo (ar_tmp (av_rs 1 1 rfl rfl)) (flat_nil_iff cInt_len (by decide) _)) (ars_cons (pa_vp (ar_tmp (av_rs 2 2 rfl rfl))) ars_nil)) ⟨(brw_own (av_fs 0 rfl) rfl), (brw_bor (av_fs 11 rfl)), trivial⟩),
      trivial⟩ ?_
    refine t_pick [0, 1, 2, 3, 4, 5, 6, 7, 8, 9, 10, 11, 12, 18] rfl ?_
    refine nx_then ?_
    refine t_split 13 rfl (fun hb2 => ?_) (fun hb2 => ?_)
    · refine t_seq ?_
      refine t_rg [.own 101 (.val c2) (HA.cells 25 [HA.of (VP.ptr v)]), .own 102 (.val c3) (B_term t), .is (.tmp 3) (VP.ptr c3), .is (.tmp 2) (VP.ptr c2), .bor (.val v) (ArO us uf ut uo uh ub d.most), .bor (.val ub) (rowsInt d.table), .bor (.val uh) (R_u64 d.hashes), .bor (.val uo) (R_int d.of_), .bor (.val ut) (R_term d.terms), .bor (.val uf) (R_fun d.funs), .bor (.val us) (R_sort d.sorts), .bor (.val v) (Arn d), .is (.tmp 20) (VP.bool (d.unthere t.kids))] [(0, .is (.tmp 4) (VP.int .i64 0))] [(0, .is (.tmp 4) (VP.int .i64 2))] [] [0, 1, 2, 3, 4, 5, 6, 7, 8, 9, 10, 11, 13] [12] [[]] [[]] rfl rfl follow rfl ⟨
        wp rfl (does_move _ (.inr rfl) rfl rfl rfl rfl (ar_const (fun _ _ => rfl))),
        trivial⟩ ?_
      refine t_pick [0, 1, 2, 3, 4, 5, 6, 7, 8, 9, 10, 11, 13] rfl ?_
      refine nx_then ?_
      refine t_ret ?_
      refine rt_then ?_
      exact rt_post [HA.of (VP.int .i64 (d.fits t))] [[]] [] [] rfl ⟨(rv_eq (congrArg HA.of (congrArg (VP.int .i64) (show 2 = d.fits t from Eq.symm (by unfold ArD.fits; (try rw [hb1]); (try rw [hb2]); (try rfl))))) (rv_vp 12 rfl)), trivial⟩ (by decide) rfl rfl
    · have hk0 := unthere_no hb2
      have hk : ∀ k ∈ t.kids, 0 ≤ k ∧ k < d.of_.length := fun k h => by have := hk0 k h; omega
      refine t_skip ?_
      refine nx_then ?_
      refine t_seq ?_
      refine t_seq ?_
      refine t_rg [.own 101 (.val c2) (HA.cells 25 [HA.of (VP.ptr v)]), .own 102 (.val c3) (B_term t), .is (.tmp 3) (VP.ptr c3), .is (.tmp 2) (VP.ptr c2), .bor (.val v) (ArO us uf ut uo uh ub d.most), .bor (.val ub) (rowsInt d.table), .bor (.val uh) (R_u64 d.hashes), .bor (.val uo) (R_int d.of_), .bor (.val ut) (R_term d.terms), .bor (.val uf) (R_fun d.funs), .bor (.val us) (R_sort d.sorts), .bor (.val v) (Arn d), .is (.tmp 4) (VP.int .i64 0), .is (.tmp 20) (VP.bool (d.unthere t.kids))] [] [(0, .is (.tmp 22) (VP.ptr v)), (1, .is (.tmp 23) (VP.agg [VP.int .i64 t.op, VP.int .i64 t.fn, O_int t.kids, VP.str t.num])), (2, .is (.tmp 24) (VP.tup [VP.int .i64 (d.least t), VP.int .i64 (d.great t)])), (3, .is (.tmp 21) (VP.tup [VP.int .i64 (d.least t), VP.int .i64 (d.great t)])), (4, .is (.tmp 25) (VP.int .i64 (d.least t))), (5, .is (.tmp 26) (VP.int .i64 (d.great t))), (6, .is (.tmp 6) (VP.int .i64 (d.least t))), (7, .is (.tmp 7) (VP.int .i64 (d.great t)))] [] [0, 1, 2, 3, 4, 5, 6, 7, 8, 9, 10, 11, 12, 13] [] DagI_p30_6 DagI_s30_6 rfl rfl follow rfl ⟨
        wp rfl (does_loadOne _ DagI_one__dag_Arena rfl rfl rfl rfl rfl (pt_ptr (ar_tmp (av_fs 3 rfl))) (rds_box (off := 0) (av_fs 0 rfl) (hq_one rfl))),
        wp rfl (does_loadAgg (ps := [VP.int .i64 t.op, VP.int .i64 t.fn, O_int t.kids, VP.str t.num]) _ DagI_agg_api_Term rfl rfl rfl rfl rfl (pt_ptr (ar_tmp (av_fs 2 rfl))) (rds_box (off := 0) (av_fs 1 rfl) (hq_many (n := 4) rfl))),
        wp rfl (does_call (da_counts (v := v) (d := d) t hfn) (zf_tup (zfs_cons (fun _ _ _ _ h => h) (zfs_cons (fun _ _ _ _ h => h) zfs_nil))) rfl DagI_hb___collator_dag_Arena__counts rfl rfl rfl rfl ar_clo (ars_cons (pa_vp (ar_tmp (av_rs 0 0 rfl rfl))) (ars_cons (pa_vp (ar_tmp (av_rs 1 1 rfl rfl))) ars_nil)) ⟨(brw_bor (av_fs 11 rfl)), trivial⟩),
        wp rfl (does_move _ (.inl rfl) rfl rfl rfl rfl (ar_tmp (av_rs 2 2 rfl rfl))),
        wp rfl (does_extract (ps := [VP.int .i64 (d.least t), VP.int .i64 (d.great t)]) _ 0 rfl rfl rfl rfl rfl (ar_tmp (av_rs 3 3 rfl rfl)) rfl),
        wp rfl (does_extract (ps := [VP.int .i64 (d.least t), VP.int .i64 (d.great t)]) _ 1 rfl rfl rfl rfl rfl (ar_tmp (av_rs 3 3 rfl rfl)) rfl),
        wp rfl (does_move _ (.inr rfl) rfl rfl rfl rfl (ar_tmp (av_rs 4 4 rfl rfl))),
        wp rfl (does_move _ (.inr rfl) rfl rfl rfl rfl (ar_tmp (av_rs 5 5 rfl rfl))),
        trivial⟩ ?_
      refine t_pick [0, 1, 2, 3, 4, 5, 6, 7, 8, 9, 10, 11, 12, 20, 21] rfl ?_
      refine nx_then ?_
      refine t_seq ?_
      rcases Bool.eq_false_or_eq_true (decide (((t.kids.length : Nat) : Int) < (d.least t))) with hb3 | hb3
      · have hc3 := of_decide_eq_true hb3
        refine t_rg [.own 101 (.val c2) (HA.cells 25 [HA.of (VP.ptr v)]), .own 102 (.val c3) (B_term t), .is (.tmp 3) (VP.ptr c3), .is (.tmp 2) (VP.ptr c2), .bor (.val v) (ArO us uf ut uo uh ub d.most), .bor (.val ub) (rowsInt d.table), .bor (.val uh) (R_u64 d.hashes), .bor (.val uo) (R_int d.of_), .bor (.val ut) (R_term d.terms), .bor (.val uf) (R_fun d.funs), .bor (.val us) (R_sort d.sorts), .bor (.val v) (Arn d), .is (.tmp 4) (VP.int .i64 0), .is (.tmp 6) (VP.int .i64 (d.least t)), .is (.tmp 7) (VP.int .i64 (d.great t))] [] [(0, .pt 27 (.blk (.val c3) 2)), (1, .is (.tmp 28) (O_int t.kids)), (2, .is (.tmp 29) (VP.int .i64 ((t.kids.length : Nat) : Int))), (3, .is (.tmp 30) (VP.int .i64 (d.least t))), (4, .is (.tmp 31) (VP.bool (decide (((t.kids.length : Nat) : Int) < (d.least t))))), (5, .is (.tmp 32) (VP.bool (decide (((t.kids.length : Nat) : Int) < (d.least t))))), (6, .is (.tmp 33) (VP.undef)), (7, .is (.tmp 34) (VP.undef)), (8, .is (.tmp 35) (VP.undef)), (9, .is (.tmp 36) (VP.undef)), (10, .is (.tmp 37) (VP.undef)), (11, .is (.tmp 38) (VP.bool true))] [] [0, 1, 2, 3, 4, 5, 6, 7, 8, 9, 10, 11, 12, 13, 14] [] DagI_p30_7 DagI_s30_7 rfl rfl follow rfl ⟨
          wp rfl (does_field _ _ _ 2 DagI_f_api_Term_2 rfl rfl rfl rfl rfl rfl (pt_ptr (ar_tmp (av_fs 2 rfl)))),
          wp rfl (does_loadOne _ DagI_one___int rfl rfl rfl rfl rfl (pt_pt (av_rs 0 0 rfl rfl)) (rds_box (off := 2) (av_fs 1 rfl) (hq_one rfl))),
          wp rfl (does_len _ _ (by kernel_rfl) rfl rfl rfl rfl rfl (sl_ro (av_rs 1 1 rfl rfl) (flat_nil_iff cInt_len (by decide) _))),
          wp rfl (does_move _ (.inl rfl) rfl rfl rfl rfl (ar_tmp (av_fs 13 rfl))),
          wp rfl (does_cmp (m := ((t.kids.length : Nat) : Int)) (n := (d.least t)) _ _ _ _ _ rfl rfl rfl rfl rfl rfl .i64 (ar_tmp (av_rs 2 2 rfl rfl)) (ar_tmp (av_rs 3 3 rfl rfl))),
          wp rfl (does_move _ (.inl rfl) rfl rfl rfl rfl (ar_tmp (av_rs 4 4 rfl rfl))),
          .inr (skips_guardU true rfl rfl rfl (av_bool hb3 (av_rs 5 5 rfl rfl)) rfl rfl rfl rfl),
          .inr (skips_guardU true rfl rfl rfl (av_bool hb3 (av_rs 5 5 rfl rfl)) rfl rfl rfl rfl),
          .inr (skips_guardU true rfl rfl rfl (av_bool hb3 (av_rs 5 5 rfl rfl)) rfl rfl rfl rfl),
          .inr (skips_guardU true rfl rfl rfl (av_bool hb3 (av_rs 5 5 rfl rfl)) rfl rfl rfl rfl),
          .inr (skips_guardU true rfl rfl rfl (av_bool hb3 (av_rs 5 5 rfl rfl)) rfl rfl rfl rfl),
          wp rfl (does_pick true _ _ _ rfl rfl rfl rfl rfl (ar_tmp (av_bool hb3 (av_rs 5 5 rfl rfl))) (ar_const (fun _ _ => rfl))),
          trivial⟩ ?_
        refine t_pick [0, 1, 2, 3, 4, 5, 6, 7, 8, 9, 10, 11, 12, 26] rfl ?_
        refine nx_then ?_
        refine t_cond_t 13 rfl ?_
        refine t_seq ?_
        refine t_rg [.own 101 (.val c2) (HA.cells 25 [HA.of (VP.ptr v)]), .own 102 (.val c3) (B_term t), .is (.tmp 3) (VP.ptr c3), .is (.tmp 2) (VP.ptr c2), .bor (.val v) (ArO us uf ut uo uh ub d.most), .bor (.val ub) (rowsInt d.table), .bor (.val uh) (R_u64 d.hashes), .bor (.val uo) (R_int d.of_), .bor (.val ut) (R_term d.terms), .bor (.val uf) (R_fun d.funs), .bor (.val us) (R_sort d.sorts), .bor (.val v) (Arn d), .is (.tmp 38) (VP.bool true)] [(0, .is (.tmp 4) (VP.int .i64 0))] [(0, .is (.tmp 4) (VP.int .i64 15))] [] [0, 1, 2, 3, 4, 5, 6, 7, 8, 9, 10, 11, 13] [12] [[]] [[]] rfl rfl follow rfl ⟨
          wp rfl (does_move _ (.inr rfl) rfl rfl rfl rfl (ar_const (fun _ _ => rfl))),
          trivial⟩ ?_
        refine t_pick [0, 1, 2, 3, 4, 5, 6, 7, 8, 9, 10, 11, 13] rfl ?_
        refine nx_then ?_
        refine t_ret ?_
        refine rt_then ?_
        exact rt_post [HA.of (VP.int .i64 (d.fits t))] [[]] [] [] rfl ⟨(rv_eq (congrArg HA.of (congrArg (VP.int .i64) (show 15 = d.fits t from Eq.symm (by unfold ArD.fits; (try rw [hb1]); (try rw [hb2]); (try rw [hb3]); (try rfl))))) (rv_vp 12 rfl)), trivial⟩ (by decide) rfl rfl
      · have hc3 := of_decide_eq_false hb3
        refine t_rg [.own 101 (.val c2) (HA.cells 25 [HA.of (VP.ptr v)]), .own 102 (.val c3) (B_term t), .is (.tmp 3) (VP.ptr c3), .is (.tmp 2) (VP.ptr c2), .bor (.val v) (ArO us uf ut uo uh ub d.most), .bor (.val ub) (rowsInt d.table), .bor (.val uh) (R_u64 d.hashes), .bor (.val uo) (R_int d.of_), .bor (.val ut) (R_term d.terms), .bor (.val uf) (R_fun d.funs), .bor (.val us) (R_sort d.sorts), .bor (.val v) (Arn d), .is (.tmp 4) (VP.int .i64 0), .is (.tmp 6) (VP.int .i64 (d.least t)), .is (.tmp 7) (VP.int .i64 (d.great t))] [] [(0, .pt 27 (.blk (.val c3) 2)), (1, .is (.tmp 28) (O_int t.kids)), (2, .is (.tmp 29) (VP.int .i64 ((t.kids.length : Nat) : Int))), (3, .is (.tmp 30) (VP.int .i64 (d.least t))), (4, .is (.tmp 31) (VP.bool (decide (((t.kids.length : Nat) : Int) < (d.least t))))), (5, .is (.tmp 32) (VP.bool (decide (((t.kids.length : Nat) : Int) < (d.least t))))), (6, .pt 33 (.blk (.val c3) 2)), (7, .is (.tmp 34) (O_int t.kids)), (8, .is (.tmp 35) (VP.int .i64 ((t.kids.length : Nat) : Int))), (9, .is (.tmp 36) (VP.int .i64 (d.great t))), (10, .is (.tmp 37) (VP.bool (decide (((t.kids.length : Nat) : Int) > (d.great t))))), (11, .is (.tmp 38) (VP.bool (decide (((t.kids.length : Nat) : Int) > (d.great t)))))] [] [0, 1, 2, 3, 4, 5, 6, 7, 8, 9, 10, 11, 12, 13, 14] [] DagI_p30_7 DagI_s30_7 rfl rfl follow rfl ⟨
          wp rfl (does_field _ _ _ 2 DagI_f_api_Term_2 rfl rfl rfl rfl rfl rfl (pt_ptr (ar_tmp (av_fs 2 rfl)))),
          wp rfl (does_loadOne _ DagI_one___int rfl rfl rfl rfl rfl (pt_pt (av_rs 0 0 rfl rfl)) (rds_box (off := 2) (av_fs 1 rfl) (hq_one rfl))),
          wp rfl (does_len _ _ (by kernel_rfl) rfl rfl rfl rfl rfl (sl_ro (av_rs 1 1 rfl rfl) (flat_nil_iff cInt_len (by decide) _))),
          wp rfl (does_move _ (.inl rfl) rfl rfl rfl rfl (ar_tmp (av_fs 13 rfl))),
          wp rfl (does_cmp (m := ((t.kids.length : Nat) : Int)) (n := (d.least t)) _ _ _ _ _ rfl rfl rfl rfl rfl rfl .i64 (ar_tmp (av_rs 2 2 rfl rfl)) (ar_tmp (av_rs 3 3 rfl rfl))),
          wp rfl (does_move _ (.inl rfl) rfl rfl rfl rfl (ar_tmp (av_rs 4 4 rfl rfl))),
          .inl ⟨wants_guard false rfl rfl rfl (av_bool hb3 (av_rs 5 5 rfl rfl)), does_field _ _ _ 2 DagI_f_api_Term_2 rfl rfl rfl rfl rfl rfl (pt_ptr (ar_tmp (av_fs 2 rfl)))⟩,
          .inl ⟨wants_guard false rfl rfl rfl (av_bool hb3 (av_rs 5 5 rfl rfl)), does_loadOne _ DagI_one___int rfl rfl rfl rfl rfl (pt_pt (av_rs 6 6 rfl rfl)) (rds_box (off := 2) (av_fs 1 rfl) (hq_one rfl))⟩,
          .inl ⟨wants_guard false rfl rfl rfl (av_bool hb3 (av_rs 5 5 rfl rfl)), does_len _ _ (by kernel_rfl) rfl rfl rfl rfl rfl (sl_ro (av_rs 7 7 rfl rfl) (flat_nil_iff cInt_len (by decide) _))⟩,
          .inl ⟨wants_guard false rfl rfl rfl (av_bool hb3 (av_rs 5 5 rfl rfl)), does_move _ (.inl rfl) rfl rfl rfl rfl (ar_tmp (av_fs 14 rfl))⟩,
          .inl ⟨wants_guard false rfl rfl rfl (av_bool hb3 (av_rs 5 5 rfl rfl)), does_cmp (m := ((t.kids.length : Nat) : Int)) (n := (d.great t)) _ _ _ _ _ rfl rfl rfl rfl rfl rfl .i64 (ar_tmp (av_rs 8 8 rfl rfl)) (ar_tmp (av_rs 9 9 rfl rfl))⟩,
          wp rfl (does_pick false _ _ _ rfl rfl rfl rfl rfl (ar_tmp (av_bool hb3 (av_rs 5 5 rfl rfl))) (ar_tmp (av_rs 10 10 rfl rfl))),
          trivial⟩ ?_
        refine t_pick [0, 1, 2, 3, 4, 5, 6, 7, 8, 9, 10, 11, 12, 26] rfl ?_
        refine nx_then ?_
        refine t_split 13 rfl (fun hb4 => ?_) (fun hb4 => ?_)
        · have hc4 := of_decide_eq_true hb4
          refine t_seq ?_
          refine t_rg [.own 101 (.val c2) (HA.cells 25 [HA.of (VP.ptr v)]), .own 102 (.val c3) (B_term t), .is (.tmp 3) (VP.ptr c3), .is (.tmp 2) (VP.ptr c2), .bor (.val v) (ArO us uf ut uo uh ub d.most), .bor (.val ub) (rowsInt d.table), .bor (.val uh) (R_u64 d.hashes), .bor (.val uo) (R_int d.of_), .bor (.val ut) (R_term d.terms), .bor (.val uf) (R_fun d.funs), .bor (.val us) (R_sort d.sorts), .bor (.val v) (Arn d), .is (.tmp 38) (VP.bool (decide (((t.kids.length : Nat) : Int) > (d.great t))))] [(0, .is (.tmp 4) (VP.int .i64 0))] [(0, .is (.tmp 4) (VP.int .i64 15))] [] [0, 1, 2, 3, 4, 5, 6, 7, 8, 9, 10, 11, 13] [12] [[]] [[]] rfl rfl follow rfl ⟨
            wp rfl (does_move _ (.inr rfl) rfl rfl rfl rfl (ar_const (fun _ _ => rfl))),
            trivial⟩ ?_
          refine t_pick [0, 1, 2, 3, 4, 5, 6, 7, 8, 9, 10, 11, 13] rfl ?_
          refine nx_then ?_
          refine t_ret ?_
          refine rt_then ?_
          exact rt_post [HA.of (VP.int .i64 (d.fits t))] [[]] [] [] rfl ⟨(rv_eq (congrArg HA.of (congrArg (VP.int .i64) (show 15 = d.fits t from Eq.symm (by unfold ArD.fits; (try rw [hb1]); (try rw [hb2]); (try rw [hb3]); (try rw [hb4]); (try rfl))))) (rv_vp 12 rfl)), trivial⟩ (by decide) rfl rfl
        · have hc4 := of_decide_eq_false hb4
          have hcl : (decide (((t.kids.length : Nat) : Int) < (d.least t))) = false := by assumption
          have hwl := wants_len hcl hb4
          have hcl2 := of_decide_eq_false hcl
          have h10 : t.op = 10 → 2 ≤ t.kids.length := fun e => by rw [least_10 e] at hcl2; omega
          refine t_skip ?_
          refine nx_then ?_
          refine t_seq ?_
          refine t_rg [.own 101 (.val c2) (HA.cells 25 [HA.of (VP.ptr v)]), .own 102 (.val c3) (B_term t), .is (.tmp 3) (VP.ptr c3), .is (.tmp 2) (VP.ptr c2), .bor (.val v) (ArO us uf ut uo uh ub d.most), .bor (.val ub) (rowsInt d.table), .bor (.val uh) (R_u64 d.hashes), .bor (.val uo) (R_int d.of_), .bor (.val ut) (R_term d.terms), .bor (.val uf) (R_fun d.funs), .bor (.val us) (R_sort d.sorts), .bor (.val v) (Arn d), .is (.tmp 4) (VP.int .i64 0), .is (.tmp 38) (VP.bool (decide (((t.kids.length : Nat) : Int) > (d.great t))))] [] [(0, .is (.tmp 8) (VP.int .i64 0))] [] [0, 1, 2, 3, 4, 5, 6, 7, 8, 9, 10, 11, 12, 13] [] [[]] [[]] rfl rfl follow rfl ⟨
            wp rfl (does_move _ (.inr rfl) rfl rfl rfl rfl (ar_const (fun _ _ => rfl))),
            trivial⟩ ?_
          refine t_pick [0, 1, 2, 3, 4, 5, 6, 7, 8, 9, 10, 11, 12, 14] rfl ?_
          refine nx_then ?_
          refine t_seq ?_
          refine t_seq ?_
          refine t_rg [.own 101 (.val c2) (HA.cells 25 [HA.of (VP.ptr v)]), .own 102 (.val c3) (B_term t), .is (.tmp 3) (VP.ptr c3), .is (.tmp 2) (VP.ptr c2), .bor (.val v) (ArO us uf ut uo uh ub d.most), .bor (.val ub) (rowsInt d.table), .bor (.val uh) (R_u64 d.hashes), .bor (.val uo) (R_int d.of_), .bor (.val ut) (R_term d.terms), .bor (.val uf) (R_fun d.funs), .bor (.val us) (R_sort d.sorts), .bor (.val v) (Arn d), .is (.tmp 4) (VP.int .i64 0), .is (.tmp 8) (VP.int .i64 0)] [] [(0, .is (.tmp 39) (VP.ptr v)), (1, .is (.tmp 40) (VP.agg [VP.int .i64 t.op, VP.int .i64 t.fn, O_int t.kids, VP.str t.num])), (2, .own 103 (.tmp 41) (HA.of (O_int (d.wants t)))), (3, .is (.tmp 42) (VP.int .i64 (((d.wants t).length : Nat) : Int))), (4, .is (.tmp 43) (VP.int .i64 0))] [] [0, 1, 2, 3, 4, 5, 6, 7, 8, 9, 10, 11, 12, 13] [] [[], [], [0, 1], [0, 1, 2], []] [[2, 3], [2, 3], [3], [], []] rfl rfl follow rfl ⟨
            wp rfl (does_loadOne _ DagI_one__dag_Arena rfl rfl rfl rfl rfl (pt_ptr (ar_tmp (av_fs 3 rfl))) (rds_box (off := 0) (av_fs 0 rfl) (hq_one rfl))),
            wp rfl (does_loadAgg (ps := [VP.int .i64 t.op, VP.int .i64 t.fn, O_int t.kids, VP.str t.num]) _ DagI_agg_api_Term rfl rfl rfl rfl rfl (pt_ptr (ar_tmp (av_fs 2 rfl))) (rds_box (off := 0) (av_fs 1 rfl) (hq_many (n := 4) rfl))),
            wp rfl (does_callG [] [] [] 103 [0] (da_wants (v := v) (d := d) t hfn hk h10 (by omega)) rfl DagI_hb___collator_dag_Arena__wants rfl rfl rfl rfl rfl ar_clo (ars_cons (pa_vp (ar_tmp (av_rs 0 0 rfl rfl))) (ars_cons (pa_vp (ar_tmp (av_rs 1 1 rfl rfl))) ars_nil)) ⟨(brw_bor (av_fs 11 rfl)), trivial⟩ trivial),
            wp rfl (does_len _ _ (by kernel_rfl) rfl rfl rfl rfl rfl (sl_roOf (av_rs 2 2 rfl rfl) (flat_nil_iff cInt_len (by decide) _))),
            wp rfl (does_move _ (.inl rfl) rfl rfl rfl rfl (ar_const (fun _ _ => rfl))),
            trivial⟩ ?_
          refine t_pick [0, 1, 2, 3, 4, 5, 6, 7, 8, 9, 10, 11, 12, 13, 16, 17, 18] rfl ?_
          refine nx_then ?_
          refine t_pick [14, 0, 1, 2, 3, 4, 5, 6, 7, 8, 9, 10, 11, 12, 13, 15, 16] rfl ?_
          refine t_freeze (fz_of _) rfl ?_
          refine t_block ?_
          refine t_pick [14, 0, 1, 2, 3, 4, 5, 6, 7, 8, 9, 10, 11, 12, 13, 15, 16] rfl ?_
          refine t_slot (y := VP.int .i64 (((d.free t 0) : Nat) : Int)) (fun _ _ _ h => by rw [show d.free t 0 = 0 from rfl]; exact h) ?_
          refine t_pick [16, 0, 1, 2, 3, 4, 5, 6, 7, 8, 9, 10, 11, 12, 13, 14, 15] rfl ?_
          refine t_slot (y := VP.int .i64 ((0 : Nat) : Int)) (fun _ _ _ h => h) ?_
          refine t_loop (τ := {k : Nat // k ≤ t.kids.length ∧ d.bad t k = false}) (fun ⟨k, _⟩ => [.is (.tmp 2) (VP.ptr c2), .is (.tmp 3) (VP.ptr c3), .is (.tmp 8) (VP.int .i64 (((d.free t k) : Nat) : Int)), .is (.tmp 41) (O_int (d.wants t)), .is (.tmp 42) (VP.int .i64 (((d.wants t).length : Nat) : Int)), .is (.tmp 43) (VP.int .i64 ((k : Nat) : Int)), .own 101 (.val c2) (HA.cells 25 [HA.of (VP.ptr v)]), .own 102 (.val c3) (B_term t), .bor (.val v) (ArO us uf ut uo uh ub d.most), .bor (.val us) (R_sort d.sorts), .bor (.val uf) (R_fun d.funs), .bor (.val ut) (R_term d.terms), .bor (.val uo) (R_int d.of_), .bor (.val uh) (R_u64 d.hashes), .bor (.val ub) (rowsInt d.table), .bor (.val v) (Arn d)]) (fun ⟨k, _⟩ => t.kids.length - k) (⟨0, Nat.zero_le _, rfl⟩) [6, 5, 1, 2, 16, 0, 3, 4, 7, 13, 12, 11, 10, 9, 8, 14] rfl ?_
          rintro ⟨k, hkl, hbd⟩
          have hfl := free_le (d := d) (t := t) (k := k)
          refine t_seq ?_
          refine t_rg [.is (.tmp 2) (VP.ptr c2), .is (.tmp 3) (VP.ptr c3), .is (.tmp 8) (VP.int .i64 (((d.free t k) : Nat) : Int)), .is (.tmp 41) (O_int (d.wants t)), .is (.tmp 42) (VP.int .i64 (((d.wants t).length : Nat) : Int)), .is (.tmp 43) (VP.int .i64 ((k : Nat) : Int)), .own 101 (.val c2) (HA.cells 25 [HA.of (VP.ptr v)]), .own 102 (.val c3) (B_term t), .bor (.val v) (ArO us uf ut uo uh ub d.most), .bor (.val us) (R_sort d.sorts), .bor (.val uf) (R_fun d.funs), .bor (.val ut) (R_term d.terms), .bor (.val uo) (R_int d.of_), .bor (.val uh) (R_u64 d.hashes), .bor (.val ub) (rowsInt d.table), .bor (.val v) (Arn d)] [] [(0, .is (.tmp 44) (VP.bool (decide (((k : Nat) : Int) < (((d.wants t).length : Nat) : Int)))))] [] [0, 1, 2, 3, 4, 5, 6, 7, 8, 9, 10, 11, 12, 13, 14, 15] [] [[]] [[]] rfl rfl follow rfl ⟨
            wp rfl (does_cmp (m := ((k : Nat) : Int)) (n := (((d.wants t).length : Nat) : Int)) _ _ _ _ _ rfl rfl rfl rfl rfl rfl .i64 (ar_tmp (av_fs 5 rfl)) (ar_tmp (av_fs 4 rfl))),
            trivial⟩ ?_
          refine nx_then ?_
          refine t_seq ?_
          refine t_split 16 rfl (fun hb5 => ?_) (fun hb5 => ?_)
          · have hc5 := of_decide_eq_true hb5
            have hkn : k < t.kids.length := by omega
            have hkk := hk _ (kid_mem (t := t) (i := k) (by omega))
            obtain ⟨w, hw⟩ : ∃ w, (d.wants t)[k]? = some w := ⟨_, List.getElem?_eq_getElem (by omega)⟩
            refine t_skip ?_
            refine nx_then ?_
            refine t_seq ?_
            refine t_block ?_
            refine t_seq ?_
            refine t_rg [.is (.tmp 2) (VP.ptr c2), .is (.tmp 3) (VP.ptr c3), .is (.tmp 8) (VP.int .i64 (((d.free t k) : Nat) : Int)), .is (.tmp 41) (O_int (d.wants t)), .is (.tmp 42) (VP.int .i64 (((d.wants t).length : Nat) : Int)), .is (.tmp 43) (VP.int .i64 ((k : Nat) : Int)), .own 101 (.val c2) (HA.cells 25 [HA.of (VP.ptr v)]), .own 102 (.val c3) (B_term t), .bor (.val v) (ArO us uf ut uo uh ub d.most), .bor (.val us) (R_sort d.sorts), .bor (.val uf) (R_fun d.funs), .bor (.val ut) (R_term d.terms), .bor (.val uo) (R_int d.of_), .bor (.val uh) (R_u64 d.hashes), .bor (.val ub) (rowsInt d.table), .bor (.val v) (Arn d), .is (.tmp 44) (VP.bool (decide (((k : Nat) : Int) < (((d.wants t).length : Nat) : Int))))] [] [(0, .is (.tmp 45) (VP.int .i64 ((k : Nat) : Int))), (1, .pt 46 (.row (.tmp 41) (k * 1))), (2, .is (.tmp 47) (VP.int .i64 w)), (3, .is (.tmp 9) (VP.int .i64 ((k : Nat) : Int))), (4, .is (.tmp 10) (VP.int .i64 w))] [] [0, 1, 2, 3, 4, 5, 6, 7, 8, 9, 10, 11, 12, 13, 14, 15, 16] [] DagI_p30_12 DagI_s30_12 rfl rfl follow rfl ⟨
              wp rfl (does_move _ (.inl rfl) rfl rfl rfl rfl (ar_tmp (av_fs 5 rfl))),
              wp rfl (does_index (m := k) _ _ Try.underlying28 DagI_size_int rfl rfl rfl rfl rfl _ (by omega) rfl (by omega) (sl_ro (av_fs 3 rfl) (flat_nil_iff cInt_len (by decide) _)) (ar_tmp (av_fs 5 rfl))),
              wp rfl (does_loadOne _ DagI_one_int rfl rfl rfl rfl rfl (pt_pt (av_rs 1 1 rfl rfl)) (rds_ro (av_fs 3 rfl) (hq_flatV1 cInt_len hw 0 (by omega) rfl))),
              wp rfl (does_move _ (.inr rfl) rfl rfl rfl rfl (ar_tmp (av_rs 0 0 rfl rfl))),
              wp rfl (does_move _ (.inr rfl) rfl rfl rfl rfl (ar_tmp (av_rs 2 2 rfl rfl))),
              trivial⟩ ?_
            refine nx_then ?_
            refine t_seq ?_
            refine t_seq ?_
            refine t_rg [.is (.tmp 2) (VP.ptr c2), .is (.tmp 3) (VP.ptr c3), .is (.tmp 8) (VP.int .i64 (((d.free t k) : Nat) : Int)), .is (.tmp 41) (O_int (d.wants t)), .is (.tmp 42) (VP.int .i64 (((d.wants t).length : Nat) : Int)), .is (.tmp 43) (VP.int .i64 ((k : Nat) : Int)), .own 101 (.val c2) (HA.cells 25 [HA.of (VP.ptr v)]), .own 102 (.val c3) (B_term t), .bor (.val v) (ArO us uf ut uo uh ub d.most), .bor (.val us) (R_sort d.sorts), .bor (.val uf) (R_fun d.funs), .bor (.val ut) (R_term d.terms), .bor (.val uo) (R_int d.of_), .bor (.val uh) (R_u64 d.hashes), .bor (.val ub) (rowsInt d.table), .bor (.val v) (Arn d), .is (.tmp 44) (VP.bool (decide (((k : Nat) : Int) < (((d.wants t).length : Nat) : Int)))), .is (.tmp 45) (VP.int .i64 ((k : Nat) : Int)), .pt 46 (.row (.tmp 41) (k * 1)), .is (.tmp 47) (VP.int .i64 w), .is (.tmp 9) (VP.int .i64 ((k : Nat) : Int)), .is (.tmp 10) (VP.int .i64 w)] [] [(0, .is (.tmp 48) (VP.ptr v)), (1, .is (.tmp 49) (VP.ptr v)), (2, .pt 50 (.blk (.val v) 3)), (3, .is (.tmp 51) (VP.eq uo true true)), (4, .pt 52 (.blk (.val c3) 2)), (5, .is (.tmp 53) (O_int t.kids)), (6, .is (.tmp 54) (VP.int .i64 ((k : Nat) : Int))), (7, .pt 55 (.row (.tmp 53) (k * 1))), (8, .is (.tmp 56) (VP.int .i64 (kid t k))), (9, .pt 57 (.row (.val uo) (((kid t k).toNat) * 1))), (10, .is (.tmp 58) (VP.int .i64 (d.ofk (kid t k)))), (11, .is (.tmp 59) (VP.int .i64 w)), (12, .is (.tmp 60) (VP.bool ((d.ofk (kid t k)) != w)))] [] [0, 1, 2, 3, 4, 5, 6, 7, 8, 9, 10, 11, 12, 13, 14, 15, 16, 17, 18, 19, 20, 21] [] DagI_p30_13 DagI_s30_13 rfl rfl follow rfl ⟨
              wp rfl (does_loadOne _ DagI_one__dag_Arena rfl rfl rfl rfl rfl (pt_ptr (ar_tmp (av_fs 0 rfl))) (rds_box (off := 0) (av_fs 6 rfl) (hq_one rfl))),
              wp rfl (does_nil _ rfl rfl rfl rfl rfl (ar_tmp (av_rs 0 0 rfl rfl))),
              wp rfl (does_field _ _ _ 3 DagI_f_dag_Arena_3 rfl rfl rfl rfl rfl rfl (pt_ptr (ar_tmp (av_rs 1 1 rfl rfl)))),
              wp rfl (does_loadOne _ DagI_one___int rfl rfl rfl rfl rfl (pt_pt (av_rs 2 2 rfl rfl)) (rds_bbox (off := 3) (av_fs 8 rfl) (hq_one rfl))),
              wp rfl (does_field _ _ _ 2 DagI_f_api_Term_2 rfl rfl rfl rfl rfl rfl (pt_ptr (ar_tmp (av_fs 1 rfl)))),
              wp rfl (does_loadOne _ DagI_one___int rfl rfl rfl rfl rfl (pt_pt (av_rs 4 4 rfl rfl)) (rds_box (off := 2) (av_fs 7 rfl) (hq_one rfl))),
              wp rfl (does_move _ (.inl rfl) rfl rfl rfl rfl (ar_tmp (av_fs 20 rfl))),
              wp rfl (does_index (m := k) _ _ Try.underlying28 DagI_size_int rfl rfl rfl rfl rfl _ (by omega) rfl (by omega) (sl_ro (av_rs 5 5 rfl rfl) (flat_nil_iff cInt_len (by decide) _)) (ar_tmp (av_rs 6 6 rfl rfl))),
              wp rfl (does_loadOne _ DagI_one_int rfl rfl rfl rfl rfl (pt_pt (av_rs 7 7 rfl rfl)) (rds_ro (av_rs 5 5 rfl rfl) (hq_flatV1 cInt_len (at_getD (by omega)) 0 (by omega) rfl))),
              wp rfl (does_index (m := (kid t k).toNat) _ _ Try.underlying28 DagI_size_int rfl rfl rfl rfl rfl _ (by omega) rfl (by omega) (sl_bor (av_fs 12 rfl) (ar_tmp (av_rs 3 3 rfl rfl))) (ar_int_eq (by omega) (ar_tmp (av_rs 8 8 rfl rfl)))),
              wp rfl (does_loadOne _ DagI_one_int rfl rfl rfl rfl rfl (pt_pt (av_rs 9 9 rfl rfl)) (rds_brow (av_fs 12 rfl) (hq_flat1 cInt_len (at_getD (by omega)) 0 (by omega) rfl))),
              wp rfl (does_move _ (.inl rfl) rfl rfl rfl rfl (ar_tmp (av_fs 21 rfl))),
              wp rfl (does_cmp (m := (d.ofk (kid t k))) (n := w) _ _ _ _ _ rfl rfl rfl rfl rfl rfl .i64 (ar_tmp (av_rs 10 10 rfl rfl)) (ar_tmp (av_rs 11 11 rfl rfl))),
              trivial⟩ ?_
            refine nx_then ?_
            refine t_split 34 rfl (fun hb6 => ?_) (fun hb6 => ?_)
            · have hc6 := (bne_iff_ne.1 hb6)
              refine t_seq ?_
              refine t_rg [.is (.tmp 2) (VP.ptr c2), .is (.tmp 3) (VP.ptr c3), .is (.tmp 8) (VP.int .i64 (((d.free t k) : Nat) : Int)), .is (.tmp 41) (O_int (d.wants t)), .is (.tmp 42) (VP.int .i64 (((d.wants t).length : Nat) : Int)), .is (.tmp 43) (VP.int .i64 ((k : Nat) : Int)), .own 101 (.val c2) (HA.cells 25 [HA.of (VP.ptr v)]), .own 102 (.val c3) (B_term t), .bor (.val v) (ArO us uf ut uo uh ub d.most), .bor (.val us) (R_sort d.sorts), .bor (.val uf) (R_fun d.funs), .bor (.val ut) (R_term d.terms), .bor (.val uo) (R_int d.of_), .bor (.val uh) (R_u64 d.hashes), .bor (.val ub) (rowsInt d.table), .bor (.val v) (Arn d), .is (.tmp 44) (VP.bool (decide (((k : Nat) : Int) < (((d.wants t).length : Nat) : Int)))), .is (.tmp 45) (VP.int .i64 ((k : Nat) : Int)), .pt 46 (.row (.tmp 41) (k * 1)), .is (.tmp 47) (VP.int .i64 w), .is (.tmp 9) (VP.int .i64 ((k : Nat) : Int)), .is (.tmp 10) (VP.int .i64 w), .is (.tmp 48) (VP.ptr v), .is (.tmp 49) (VP.ptr v), .pt 50 (.blk (.val v) 3), .is (.tmp 51) (VP.eq uo true true), .pt 52 (.blk (.val c3) 2), .is (.tmp 53) (O_int t.kids), .is (.tmp 54) (VP.int .i64 ((k : Nat) : Int)), .pt 55 (.row (.tmp 53) (k * 1)), .is (.tmp 56) (VP.int .i64 (kid t k)), .pt 57 (.row (.val uo) (((kid t k).toNat) * 1)), .is (.tmp 58) (VP.int .i64 (d.ofk (kid t k))), .is (.tmp 59) (VP.int .i64 w), .is (.tmp 60) (VP.bool ((d.ofk (kid t k)) != w))] [] [(0, .is (.tmp 4) (VP.int .i64 14))] [] [0, 1, 2, 3, 4, 5, 6, 7, 8, 9, 10, 11, 12, 13, 14, 15, 16, 17, 18, 19, 20, 21, 22, 23, 24, 25, 26, 27, 28, 29, 30, 31, 32, 33, 34] [] [[]] [[]] rfl rfl follow rfl ⟨
                wp rfl (does_move _ (.inr rfl) rfl rfl rfl rfl (ar_const (fun _ _ => rfl))),
                trivial⟩ ?_
              refine nx_then ?_
              refine t_ret ?_
              refine rt_then ?_
              refine rt_block ?_
              refine rt_then ?_
              refine rt_then ?_
              refine rt_block ?_
              refine rt_then ?_
              exact rt_post [HA.of (VP.int .i64 (d.fits t))] [[]] [] [] rfl ⟨(rv_eq (congrArg HA.of (congrArg (VP.int .i64) (show 14 = d.fits t from Eq.symm (by unfold ArD.fits; (try rw [hb1]); (try rw [hb2]); (try rw [hb3]); (try rw [hb4]); (try rw [bad_yes (n := t.kids.length) hkn hw hb6]); (try rfl))))) (rv_vp 35 rfl)), trivial⟩ (by decide) rfl rfl
            · have hc6 := (bne_eq_false_iff_eq.1 hb6)
              refine t_skip ?_
              refine nx_then ?_
              refine t_seq ?_
              refine t_rg [.is (.tmp 2) (VP.ptr c2), .is (.tmp 3) (VP.ptr c3), .is (.tmp 8) (VP.int .i64 (((d.free t k) : Nat) : Int)), .is (.tmp 41) (O_int (d.wants t)), .is (.tmp 42) (VP.int .i64 (((d.wants t).length : Nat) : Int)), .is (.tmp 43) (VP.int .i64 ((k : Nat) : Int)), .own 101 (.val c2) (HA.cells 25 [HA.of (VP.ptr v)]), .own 102 (.val c3) (B_term t), .bor (.val v) (ArO us uf ut uo uh ub d.most), .bor (.val us) (R_sort d.sorts), .bor (.val uf) (R_fun d.funs), .bor (.val ut) (R_term d.terms), .bor (.val uo) (R_int d.of_), .bor (.val uh) (R_u64 d.hashes), .bor (.val ub) (rowsInt d.table), .bor (.val v) (Arn d), .is (.tmp 44) (VP.bool (decide (((k : Nat) : Int) < (((d.wants t).length : Nat) : Int)))), .is (.tmp 45) (VP.int .i64 ((k : Nat) : Int)), .pt 46 (.row (.tmp 41) (k * 1)), .is (.tmp 47) (VP.int .i64 w), .is (.tmp 9) (VP.int .i64 ((k : Nat) : Int)), .is (.tmp 10) (VP.int .i64 w), .is (.tmp 48) (VP.ptr v), .is (.tmp 49) (VP.ptr v), .pt 50 (.blk (.val v) 3), .is (.tmp 51) (VP.eq uo true true), .pt 52 (.blk (.val c3) 2), .is (.tmp 53) (O_int t.kids), .is (.tmp 54) (VP.int .i64 ((k : Nat) : Int)), .pt 55 (.row (.tmp 53) (k * 1)), .is (.tmp 56) (VP.int .i64 (kid t k)), .pt 57 (.row (.val uo) (((kid t k).toNat) * 1)), .is (.tmp 58) (VP.int .i64 (d.ofk (kid t k))), .is (.tmp 59) (VP.int .i64 w), .is (.tmp 60) (VP.bool ((d.ofk (kid t k)) != w))] [] [(0, .is (.tmp 61) (VP.ptr v)), (1, .pt 62 (.blk (.val c3) 2)), (2, .is (.tmp 63) (O_int t.kids)), (3, .is (.tmp 64) (VP.int .i64 ((k : Nat) : Int))), (4, .pt 65 (.row (.tmp 63) (k * 1))), (5, .is (.tmp 66) (VP.int .i64 (kid t k))), (6, .is (.tmp 67) (VP.bool (d.con (kid t k)))), (7, .is (.tmp 68) (VP.bool (!(d.con (kid t k)))))] [] [0, 1, 2, 3, 4, 5, 6, 7, 8, 9, 10, 11, 12, 13, 14, 15, 16, 17, 18, 19, 20, 21, 22, 23, 24, 25, 26, 27, 28, 29, 30, 31, 32, 33, 34] [] DagI_p30_15 DagI_s30_15 rfl rfl follow rfl ⟨
                wp rfl (does_loadOne _ DagI_one__dag_Arena rfl rfl rfl rfl rfl (pt_ptr (ar_tmp (av_fs 0 rfl))) (rds_box (off := 0) (av_fs 6 rfl) (hq_one rfl))),
                wp rfl (does_field _ _ _ 2 DagI_f_api_Term_2 rfl rfl rfl rfl rfl rfl (pt_ptr (ar_tmp (av_fs 1 rfl)))),
                wp rfl (does_loadOne _ DagI_one___int rfl rfl rfl rfl rfl (pt_pt (av_rs 1 1 rfl rfl)) (rds_box (off := 2) (av_fs 7 rfl) (hq_one rfl))),
                wp rfl (does_move _ (.inl rfl) rfl rfl rfl rfl (ar_tmp (av_fs 20 rfl))),
                wp rfl (does_index (m := k) _ _ Try.underlying28 DagI_size_int rfl rfl rfl rfl rfl _ (by omega) rfl (by omega) (sl_ro (av_rs 2 2 rfl rfl) (flat_nil_iff cInt_len (by decide) _)) (ar_tmp (av_rs 3 3 rfl rfl))),
                wp rfl (does_loadOne _ DagI_one_int rfl rfl rfl rfl rfl (pt_pt (av_rs 4 4 rfl rfl)) (rds_ro (av_rs 2 2 rfl rfl) (hq_flatV1 cInt_len (at_getD (by omega)) 0 (by omega) rfl))),
                wp rfl (does_call (da_Constant (v := v) (d := d) hkd (kid t k)) (fun _ _ _ _ h => h) rfl DagI_hb___collator_dag_Arena__Constant rfl rfl rfl rfl ar_clo (ars_cons (pa_vp (ar_tmp (av_rs 0 0 rfl rfl))) (ars_cons (pa_vp (ar_tmp (av_rs 5 5 rfl rfl))) ars_nil)) ⟨(brw_bor (av_fs 15 rfl)), trivial⟩),
                wp rfl (does_not (d.con (kid t k)) _ _ rfl rfl rfl rfl rfl (ar_tmp (av_rs 6 6 rfl rfl))),
                trivial⟩ ?_
              refine nx_then ?_
              refine t_split 42 rfl (fun hb7 => ?_) (fun hb7 => ?_)
              · refine t_rg [.is (.tmp 2) (VP.ptr c2), .is (.tmp 3) (VP.ptr c3), .is (.tmp 41) (O_int (d.wants t)), .is (.tmp 42) (VP.int .i64 (((d.wants t).length : Nat) : Int)), .is (.tmp 43) (VP.int .i64 ((k : Nat) : Int)), .own 101 (.val c2) (HA.cells 25 [HA.of (VP.ptr v)]), .own 102 (.val c3) (B_term t), .bor (.val v) (ArO us uf ut uo uh ub d.most), .bor (.val us) (R_sort d.sorts), .bor (.val uf) (R_fun d.funs), .bor (.val ut) (R_term d.terms), .bor (.val uo) (R_int d.of_), .bor (.val uh) (R_u64 d.hashes), .bor (.val ub) (rowsInt d.table), .bor (.val v) (Arn d), .is (.tmp 44) (VP.bool (decide (((k : Nat) : Int) < (((d.wants t).length : Nat) : Int)))), .is (.tmp 45) (VP.int .i64 ((k : Nat) : Int)), .pt 46 (.row (.tmp 41) (k * 1)), .is (.tmp 47) (VP.int .i64 w), .is (.tmp 9) (VP.int .i64 ((k : Nat) : Int)), .is (.tmp 10) (VP.int .i64 w), .is (.tmp 48) (VP.ptr v), .is (.tmp 49) (VP.ptr v), .pt 50 (.blk (.val v) 3), .is (.tmp 51) (VP.eq uo true true), .pt 52 (.blk (.val c3) 2), .is (.tmp 53) (O_int t.kids), .is (.tmp 54) (VP.int .i64 ((k : Nat) : Int)), .pt 55 (.row (.tmp 53) (k * 1)), .is (.tmp 56) (VP.int .i64 (kid t k)), .pt 57 (.row (.val uo) (((kid t k).toNat) * 1)), .is (.tmp 58) (VP.int .i64 (d.ofk (kid t k))), .is (.tmp 59) (VP.int .i64 w), .is (.tmp 60) (VP.bool ((d.ofk (kid t k)) != w)), .is (.tmp 61) (VP.ptr v), .pt 62 (.blk (.val c3) 2), .is (.tmp 63) (O_int t.kids), .is (.tmp 64) (VP.int .i64 ((k : Nat) : Int)), .pt 65 (.row (.tmp 63) (k * 1)), .is (.tmp 66) (VP.int .i64 (kid t k)), .is (.tmp 67) (VP.bool (d.con (kid t k))), .is (.tmp 68) (VP.bool (!(d.con (kid t k))))] [(2, .is (.tmp 8) (VP.int .i64 (((d.free t k) : Nat) : Int)))] [(0, .is (.tmp 69) (VP.int .i64 (((d.free t k) : Nat) : Int))), (1, .is (.tmp 70) (VP.int .i64 ((((d.free t k) + 1) : Nat) : Int))), (2, .is (.tmp 8) (VP.int .i64 ((((d.free t k) + 1) : Nat) : Int)))] [] [0, 1, 3, 4, 5, 6, 7, 8, 9, 10, 11, 12, 13, 14, 15, 16, 17, 18, 19, 20, 21, 22, 23, 24, 25, 26, 27, 28, 29, 30, 31, 32, 33, 34, 35, 36, 37, 38, 39, 40, 41, 42] [2] [[], [0], [0, 1]] [[1, 2], [2], []] rfl rfl follow rfl ⟨
                  wp rfl (does_move _ (.inl rfl) rfl rfl rfl rfl (ar_tmp (av_os 0 2 rfl rfl))),
                  wp rfl (does_addE (m := (((d.free t k) : Nat) : Int)) (n := 1) (x := ((((d.free t k) + 1) : Nat) : Int)) (by omega) _ _ _ _ rfl rfl rfl rfl rfl (by omega) (ar_tmp (av_rs 0 0 rfl rfl)) (ar_const (fun _ _ => rfl))),
                  wp rfl (does_move _ (.inr rfl) rfl rfl rfl rfl (ar_tmp (av_rs 1 1 rfl rfl))),
                  trivial⟩ ?_
                refine nx_block ?_
                refine nx_then ?_
                refine t_rg [.is (.tmp 2) (VP.ptr c2), .is (.tmp 3) (VP.ptr c3), .is (.tmp 41) (O_int (d.wants t)), .is (.tmp 42) (VP.int .i64 (((d.wants t).length : Nat) : Int)), .own 101 (.val c2) (HA.cells 25 [HA.of (VP.ptr v)]), .own 102 (.val c3) (B_term t), .bor (.val v) (ArO us uf ut uo uh ub d.most), .bor (.val us) (R_sort d.sorts), .bor (.val uf) (R_fun d.funs), .bor (.val ut) (R_term d.terms), .bor (.val uo) (R_int d.of_), .bor (.val uh) (R_u64 d.hashes), .bor (.val ub) (rowsInt d.table), .bor (.val v) (Arn d), .is (.tmp 44) (VP.bool (decide (((k : Nat) : Int) < (((d.wants t).length : Nat) : Int)))), .is (.tmp 45) (VP.int .i64 ((k : Nat) : Int)), .pt 46 (.row (.tmp 41) (k * 1)), .is (.tmp 47) (VP.int .i64 w), .is (.tmp 9) (VP.int .i64 ((k : Nat) : Int)), .is (.tmp 10) (VP.int .i64 w), .is (.tmp 48) (VP.ptr v), .is (.tmp 49) (VP.ptr v), .pt 50 (.blk (.val v) 3), .is (.tmp 51) (VP.eq uo true true), .pt 52 (.blk (.val c3) 2), .is (.tmp 53) (O_int t.kids), .is (.tmp 54) (VP.int .i64 ((k : Nat) : Int)), .pt 55 (.row (.tmp 53) (k * 1)), .is (.tmp 56) (VP.int .i64 (kid t k)), .pt 57 (.row (.val uo) (((kid t k).toNat) * 1)), .is (.tmp 58) (VP.int .i64 (d.ofk (kid t k))), .is (.tmp 59) (VP.int .i64 w), .is (.tmp 60) (VP.bool ((d.ofk (kid t k)) != w)), .is (.tmp 61) (VP.ptr v), .pt 62 (.blk (.val c3) 2), .is (.tmp 63) (O_int t.kids), .is (.tmp 64) (VP.int .i64 ((k : Nat) : Int)), .pt 65 (.row (.tmp 63) (k * 1)), .is (.tmp 66) (VP.int .i64 (kid t k)), .is (.tmp 67) (VP.bool (d.con (kid t k))), .is (.tmp 68) (VP.bool (!(d.con (kid t k)))), .is (.tmp 69) (VP.int .i64 (((d.free t k) : Nat) : Int)), .is (.tmp 70) (VP.int .i64 ((((d.free t k) + 1) : Nat) : Int)), .is (.tmp 8) (VP.int .i64 ((((d.free t k) + 1) : Nat) : Int))] [(1, .is (.tmp 43) (VP.int .i64 ((k : Nat) : Int)))] [(0, .is (.tmp 71) (VP.int .i64 (((k + 1) : Nat) : Int))), (1, .is (.tmp 43) (VP.int .i64 (((k + 1) : Nat) : Int)))] [] [0, 1, 2, 3, 5, 6, 7, 8, 9, 10, 11, 12, 13, 14, 15, 16, 17, 18, 19, 20, 21, 22, 23, 24, 25, 26, 27, 28, 29, 30, 31, 32, 33, 34, 35, 36, 37, 38, 39, 40, 41, 42, 43, 44] [4] [[], [0]] [[1], []] rfl rfl follow rfl ⟨
                  wp rfl (does_addE (m := ((k : Nat) : Int)) (n := 1) (x := (((k + 1) : Nat) : Int)) (by omega) _ _ _ _ rfl rfl rfl rfl rfl (by omega) (ar_tmp (av_os 0 1 rfl rfl)) (ar_const (fun _ _ => rfl))),
                  wp rfl (does_move _ (.inl rfl) rfl rfl rfl rfl (ar_tmp (av_rs 0 0 rfl rfl))),
                  trivial⟩ ?_
                refine t_pick [43, 0, 1, 2, 3, 4, 5, 6, 7, 8, 9, 10, 11, 12, 13, 14, 15, 16, 17, 18, 19, 20, 21, 22, 23, 24, 25, 26, 27, 28, 29, 30, 31, 32, 33, 34, 35, 36, 37, 38, 39, 40, 41, 42, 44, 45] rfl ?_
                refine t_slot (y := VP.int .i64 (((d.free t (k + 1)) : Nat) : Int)) (fun _ _ _ h => by rw [← free_t hb7]; exact h) ?_
                refine nx_round (τ := {k : Nat // k ≤ t.kids.length ∧ d.bad t k = false}) (I := fun ⟨k, _⟩ => [.is (.tmp 2) (VP.ptr c2), .is (.tmp 3) (VP.ptr c3), .is (.tmp 8) (VP.int .i64 (((d.free t k) : Nat) : Int)), .is (.tmp 41) (O_int (d.wants t)), .is (.tmp 42) (VP.int .i64 (((d.wants t).length : Nat) : Int)), .is (.tmp 43) (VP.int .i64 ((k : Nat) : Int)), .own 101 (.val c2) (HA.cells 25 [HA.of (VP.ptr v)]), .own 102 (.val c3) (B_term t), .bor (.val v) (ArO us uf ut uo uh ub d.most), .bor (.val us) (R_sort d.sorts), .bor (.val uf) (R_fun d.funs), .bor (.val ut) (R_term d.terms), .bor (.val uo) (R_int d.of_), .bor (.val uh) (R_u64 d.hashes), .bor (.val ub) (rowsInt d.table), .bor (.val v) (Arn d)]) (μ := fun ⟨k, _⟩ => t.kids.length - k) (s := ⟨k, hkl, hbd⟩) (⟨k + 1, by omega, bad_succ hbd hw hb6⟩) ?_ [1, 2, 0, 3, 4, 45, 5, 6, 7, 8, 9, 10, 11, 12, 13, 14] ?_
                · exact (show t.kids.length - (k + 1) < t.kids.length - k by omega)
                · exact rfl
              · refine t_skip ?_
                refine nx_block ?_
                refine nx_then ?_
                refine t_rg [.is (.tmp 2) (VP.ptr c2), .is (.tmp 3) (VP.ptr c3), .is (.tmp 8) (VP.int .i64 (((d.free t k) : Nat) : Int)), .is (.tmp 41) (O_int (d.wants t)), .is (.tmp 42) (VP.int .i64 (((d.wants t).length : Nat) : Int)), .own 101 (.val c2) (HA.cells 25 [HA.of (VP.ptr v)]), .own 102 (.val c3) (B_term t), .bor (.val v) (ArO us uf ut uo uh ub d.most), .bor (.val us) (R_sort d.sorts), .bor (.val uf) (R_fun d.funs), .bor (.val ut) (R_term d.terms), .bor (.val uo) (R_int d.of_), .bor (.val uh) (R_u64 d.hashes), .bor (.val ub) (rowsInt d.table), .bor (.val v) (Arn d), .is (.tmp 44) (VP.bool (decide (((k : Nat) : Int) < (((d.wants t).length : Nat) : Int)))), .is (.tmp 45) (VP.int .i64 ((k : Nat) : Int)), .pt 46 (.row (.tmp 41) (k * 1)), .is (.tmp 47) (VP.int .i64 w), .is (.tmp 9) (VP.int .i64 ((k : Nat) : Int)), .is (.tmp 10) (VP.int .i64 w), .is (.tmp 48) (VP.ptr v), .is (.tmp 49) (VP.ptr v), .pt 50 (.blk (.val v) 3), .is (.tmp 51) (VP.eq uo true true), .pt 52 (.blk (.val c3) 2), .is (.tmp 53) (O_int t.kids), .is (.tmp 54) (VP.int .i64 ((k : Nat) : Int)), .pt 55 (.row (.tmp 53) (k * 1)), .is (.tmp 56) (VP.int .i64 (kid t k)), .pt 57 (.row (.val uo) (((kid t k).toNat) * 1)), .is (.tmp 58) (VP.int .i64 (d.ofk (kid t k))), .is (.tmp 59) (VP.int .i64 w), .is (.tmp 60) (VP.bool ((d.ofk (kid t k)) != w)), .is (.tmp 61) (VP.ptr v), .pt 62 (.blk (.val c3) 2), .is (.tmp 63) (O_int t.kids), .is (.tmp 64) (VP.int .i64 ((k : Nat) : Int)), .pt 65 (.row (.tmp 63) (k * 1)), .is (.tmp 66) (VP.int .i64 (kid t k)), .is (.tmp 67) (VP.bool (d.con (kid t k))), .is (.tmp 68) (VP.bool (!(d.con (kid t k))))] [(1, .is (.tmp 43) (VP.int .i64 ((k : Nat) : Int)))] [(0, .is (.tmp 71) (VP.int .i64 (((k + 1) : Nat) : Int))), (1, .is (.tmp 43) (VP.int .i64 (((k + 1) : Nat) : Int)))] [] [0, 1, 2, 3, 4, 6, 7, 8, 9, 10, 11, 12, 13, 14, 15, 16, 17, 18, 19, 20, 21, 22, 23, 24, 25, 26, 27, 28, 29, 30, 31, 32, 33, 34, 35, 36, 37, 38, 39, 40, 41, 42] [5] [[], [0]] [[1], []] rfl rfl follow rfl ⟨
                  wp rfl (does_addE (m := ((k : Nat) : Int)) (n := 1) (x := (((k + 1) : Nat) : Int)) (by omega) _ _ _ _ rfl rfl rfl rfl rfl (by omega) (ar_tmp (av_os 0 1 rfl rfl)) (ar_const (fun _ _ => rfl))),
                  wp rfl (does_move _ (.inl rfl) rfl rfl rfl rfl (ar_tmp (av_rs 0 0 rfl rfl))),
                  trivial⟩ ?_
                refine t_pick [2, 0, 1, 3, 4, 5, 6, 7, 8, 9, 10, 11, 12, 13, 14, 15, 16, 17, 18, 19, 20, 21, 22, 23, 24, 25, 26, 27, 28, 29, 30, 31, 32, 33, 34, 35, 36, 37, 38, 39, 40, 41, 42, 43] rfl ?_
                refine t_slot (y := VP.int .i64 (((d.free t (k + 1)) : Nat) : Int)) (fun _ _ _ h => by rw [← free_f hb7]; exact h) ?_
                refine nx_round (τ := {k : Nat // k ≤ t.kids.length ∧ d.bad t k = false}) (I := fun ⟨k, _⟩ => [.is (.tmp 2) (VP.ptr c2), .is (.tmp 3) (VP.ptr c3), .is (.tmp 8) (VP.int .i64 (((d.free t k) : Nat) : Int)), .is (.tmp 41) (O_int (d.wants t)), .is (.tmp 42) (VP.int .i64 (((d.wants t).length : Nat) : Int)), .is (.tmp 43) (VP.int .i64 ((k : Nat) : Int)), .own 101 (.val c2) (HA.cells 25 [HA.of (VP.ptr v)]), .own 102 (.val c3) (B_term t), .bor (.val v) (ArO us uf ut uo uh ub d.most), .bor (.val us) (R_sort d.sorts), .bor (.val uf) (R_fun d.funs), .bor (.val ut) (R_term d.terms), .bor (.val uo) (R_int d.of_), .bor (.val uh) (R_u64 d.hashes), .bor (.val ub) (rowsInt d.table), .bor (.val v) (Arn d)]) (μ := fun ⟨k, _⟩ => t.kids.length - k) (s := ⟨k, hkl, hbd⟩) (⟨k + 1, by omega, bad_succ hbd hw hb6⟩) ?_ [1, 2, 0, 3, 4, 43, 5, 6, 7, 8, 9, 10, 11, 12, 13, 14] ?_
                · exact (show t.kids.length - (k + 1) < t.kids.length - k by omega)
                · exact rfl
          · have hc5 := of_decide_eq_false hb5
            refine t_exit ?_
            refine ex_then ?_
            refine ex_then ?_
            refine ex_block ?_
            refine nx_then ?_
            refine t_pick [1, 2, 6, 7, 8, 9, 10, 11, 12, 13, 14, 15] rfl ?_
            refine t_seq ?_
            refine t_seq ?_
            have hke : k = t.kids.length := by omega
            have hbn : d.bad t t.kids.length = false := by rw [← hke]; exact hbd
            refine t_pick [1, 0, 2, 3, 4, 5, 6, 7, 8, 9, 10, 11] rfl ?_
            refine t_slot (y := VP.int .i64 ((d.free t t.kids.length : Nat) : Int)) (fun _ _ _ h => by rw [hke] at h; exact h) ?_
            rcases Bool.eq_false_or_eq_true (t.op == 19) with hb8 | hb8
            · have hc8 := eq_of_beq hb8
              refine t_rg [.is (.tmp 8) (VP.int .i64 ((d.free t t.kids.length : Nat) : Int)), .is (.tmp 3) (VP.ptr c3), .own 101 (.val c2) (HA.cells 25 [HA.of (VP.ptr v)]), .own 102 (.val c3) (B_term t), .bor (.val v) (ArO us uf ut uo uh ub d.most), .bor (.val us) (R_sort d.sorts), .bor (.val uf) (R_fun d.funs), .bor (.val ut) (R_term d.terms), .bor (.val uo) (R_int d.of_), .bor (.val uh) (R_u64 d.hashes), .bor (.val ub) (rowsInt d.table), .bor (.val v) (Arn d)] [] [(0, .pt 72 (.blk (.val c3) 0)), (1, .is (.tmp 73) (VP.int .i64 t.op)), (2, .is (.tmp 74) (VP.bool (t.op == 19))), (3, .is (.tmp 75) (VP.bool (t.op == 19))), (4, .is (.tmp 76) (VP.int .i64 ((d.free t t.kids.length : Nat) : Int))), (5, .is (.tmp 77) (VP.bool (decide (((d.free t t.kids.length : Nat) : Int) > 1)))), (6, .is (.tmp 78) (VP.bool (decide (((d.free t t.kids.length : Nat) : Int) > 1))))] [] [0, 1, 2, 3, 4, 5, 6, 7, 8, 9, 10, 11] [] DagI_p30_18 DagI_s30_18 rfl rfl follow rfl ⟨
                wp rfl (does_field _ _ _ 0 DagI_f_api_Term_0 rfl rfl rfl rfl rfl rfl (pt_ptr (ar_tmp (av_fs 1 rfl)))),
                wp rfl (does_loadOne _ DagI_one_int rfl rfl rfl rfl rfl (pt_pt (av_rs 0 0 rfl rfl)) (rds_box (off := 0) (av_fs 3 rfl) (hq_one rfl))),
                wp rfl (does_cmp (m := t.op) (n := 19) _ _ _ _ _ rfl rfl rfl rfl rfl rfl .i64 (ar_tmp (av_rs 1 1 rfl rfl)) (ar_const (fun _ _ => rfl))),
                wp rfl (does_move _ (.inl rfl) rfl rfl rfl rfl (ar_tmp (av_rs 2 2 rfl rfl))),
                .inl ⟨wants_guard true rfl rfl rfl (av_bool hb8 (av_rs 3 3 rfl rfl)), does_move _ (.inl rfl) rfl rfl rfl rfl (ar_tmp (av_fs 0 rfl))⟩,
                .inl ⟨wants_guard true rfl rfl rfl (av_bool hb8 (av_rs 3 3 rfl rfl)), does_cmp (m := ((d.free t t.kids.length : Nat) : Int)) (n := 1) _ _ _ _ _ rfl rfl rfl rfl rfl rfl .i64 (ar_tmp (av_rs 4 4 rfl rfl)) (ar_const (fun _ _ => rfl))⟩,
                wp rfl (does_pick true _ _ _ rfl rfl rfl rfl rfl (ar_tmp (av_bool hb8 (av_rs 3 3 rfl rfl))) (ar_tmp (av_rs 5 5 rfl rfl))),
                trivial⟩ ?_
              refine t_pick [2, 3, 4, 5, 6, 7, 8, 9, 10, 11, 18] rfl ?_
              refine nx_then ?_
              refine t_split 10 rfl (fun hb9 => ?_) (fun hb9 => ?_)
              · have hc9 := of_decide_eq_true hb9
                refine t_seq ?_
                refine t_rg [.own 101 (.val c2) (HA.cells 25 [HA.of (VP.ptr v)]), .own 102 (.val c3) (B_term t), .bor (.val v) (ArO us uf ut uo uh ub d.most), .bor (.val us) (R_sort d.sorts), .bor (.val uf) (R_fun d.funs), .bor (.val ut) (R_term d.terms), .bor (.val uo) (R_int d.of_), .bor (.val uh) (R_u64 d.hashes), .bor (.val ub) (rowsInt d.table), .bor (.val v) (Arn d), .is (.tmp 78) (VP.bool (decide (((d.free t t.kids.length : Nat) : Int) > 1)))] [] [(0, .is (.tmp 4) (VP.int .i64 16))] [] [0, 1, 2, 3, 4, 5, 6, 7, 8, 9, 10] [] [[]] [[]] rfl rfl follow rfl ⟨
                  wp rfl (does_move _ (.inr rfl) rfl rfl rfl rfl (ar_const (fun _ _ => rfl))),
                  trivial⟩ ?_
                refine t_pick [0, 1, 2, 3, 4, 5, 6, 7, 8, 9, 11] rfl ?_
                refine nx_then ?_
                refine t_ret ?_
                refine rt_then ?_
                exact rt_post [HA.of (VP.int .i64 (d.fits t))] [[]] [] [] rfl ⟨(rv_eq (congrArg HA.of (congrArg (VP.int .i64) (show 16 = d.fits t from Eq.symm (by unfold ArD.fits; (try rw [hb1]); (try rw [hb2]); (try rw [hb3]); (try rw [hb4]); (try rw [hbn]); (try rw [hb8]); (try rw [hb9]); (try rfl))))) (rv_vp 10 rfl)), trivial⟩ (by decide) rfl rfl
              · have hc9 := of_decide_eq_false hb9
                refine t_skip ?_
                refine nx_then ?_
                refine t_seq ?_
                refine t_rg [.own 101 (.val c2) (HA.cells 25 [HA.of (VP.ptr v)]), .own 102 (.val c3) (B_term t), .bor (.val v) (ArO us uf ut uo uh ub d.most), .bor (.val us) (R_sort d.sorts), .bor (.val uf) (R_fun d.funs), .bor (.val ut) (R_term d.terms), .bor (.val uo) (R_int d.of_), .bor (.val uh) (R_u64 d.hashes), .bor (.val ub) (rowsInt d.table), .bor (.val v) (Arn d), .is (.tmp 78) (VP.bool (decide (((d.free t t.kids.length : Nat) : Int) > 1)))] [] [(0, .is (.tmp 4) (VP.int .i64 0))] [] [0, 1, 2, 3, 4, 5, 6, 7, 8, 9, 10] [] [[]] [[]] rfl rfl follow rfl ⟨
                  wp rfl (does_move _ (.inr rfl) rfl rfl rfl rfl (ar_const (fun _ _ => rfl))),
                  trivial⟩ ?_
                refine t_pick [0, 1, 2, 3, 4, 5, 6, 7, 8, 9, 11] rfl ?_
                refine nx_then ?_
                refine t_ret ?_
                exact rt_post [HA.of (VP.int .i64 (d.fits t))] [[]] [] [] rfl ⟨(rv_eq (congrArg HA.of (congrArg (VP.int .i64) (show 0 = d.fits t from Eq.symm (by unfold ArD.fits; (try rw [hb1]); (try rw [hb2]); (try rw [hb3]); (try rw [hb4]); (try rw [hbn]); (try rw [hb8]); (try rw [hb9]); (try rfl))))) (rv_vp 10 rfl)), trivial⟩ (by decide) rfl rfl
            · have hc8 := ne_of_beq_false hb8
              refine t_rg [.is (.tmp 8) (VP.int .i64 ((d.free t t.kids.length : Nat) : Int)), .is (.tmp 3) (VP.ptr c3), .own 101 (.val c2) (HA.cells 25 [HA.of (VP.ptr v)]), .own 102 (.val c3) (B_term t), .bor (.val v) (ArO us uf ut uo uh ub d.most), .bor (.val us) (R_sort d.sorts), .bor (.val uf) (R_fun d.funs), .bor (.val ut) (R_term d.terms), .bor (.val uo) (R_int d.of_), .bor (.val uh) (R_u64 d.hashes), .bor (.val ub) (rowsInt d.table), .bor (.val v) (Arn d)] [] [(0, .pt 72 (.blk (.val c3) 0)), (1, .is (.tmp 73) (VP.int .i64 t.op)), (2, .is (.tmp 74) (VP.bool (t.op == 19))), (3, .is (.tmp 75) (VP.bool (t.op == 19))), (4, .is (.tmp 76) (VP.undef)), (5, .is (.tmp 77) (VP.undef)), (6, .is (.tmp 78) (VP.bool false))] [] [0, 1, 2, 3, 4, 5, 6, 7, 8, 9, 10, 11] [] DagI_p30_18 DagI_s30_18 rfl rfl follow rfl ⟨
                wp rfl (does_field _ _ _ 0 DagI_f_api_Term_0 rfl rfl rfl rfl rfl rfl (pt_ptr (ar_tmp (av_fs 1 rfl)))),
                wp rfl (does_loadOne _ DagI_one_int rfl rfl rfl rfl rfl (pt_pt (av_rs 0 0 rfl rfl)) (rds_box (off := 0) (av_fs 3 rfl) (hq_one rfl))),
                wp rfl (does_cmp (m := t.op) (n := 19) _ _ _ _ _ rfl rfl rfl rfl rfl rfl .i64 (ar_tmp (av_rs 1 1 rfl rfl)) (ar_const (fun _ _ => rfl))),
                wp rfl (does_move _ (.inl rfl) rfl rfl rfl rfl (ar_tmp (av_rs 2 2 rfl rfl))),
                .inr (skips_guardU false rfl rfl rfl (av_bool hb8 (av_rs 3 3 rfl rfl)) rfl rfl rfl rfl),
                .inr (skips_guardU false rfl rfl rfl (av_bool hb8 (av_rs 3 3 rfl rfl)) rfl rfl rfl rfl),
                wp rfl (does_pick false _ _ _ rfl rfl rfl rfl rfl (ar_tmp (av_bool hb8 (av_rs 3 3 rfl rfl))) (ar_const (fun _ _ => rfl))),
                trivial⟩ ?_
              refine t_pick [2, 3, 4, 5, 6, 7, 8, 9, 10, 11, 18] rfl ?_
              refine nx_then ?_
              refine t_cond_f 10 rfl ?_
              refine t_skip ?_
              refine nx_then ?_
              refine t_seq ?_
              refine t_rg [.own 101 (.val c2) (HA.cells 25 [HA.of (VP.ptr v)]), .own 102 (.val c3) (B_term t), .bor (.val v) (ArO us uf ut uo uh ub d.most), .bor (.val us) (R_sort d.sorts), .bor (.val uf) (R_fun d.funs), .bor (.val ut) (R_term d.terms), .bor (.val uo) (R_int d.of_), .bor (.val uh) (R_u64 d.hashes), .bor (.val ub) (rowsInt d.table), .bor (.val v) (Arn d), .is (.tmp 78) (VP.bool false)] [] [(0, .is (.tmp 4) (VP.int .i64 0))] [] [0, 1, 2, 3, 4, 5, 6, 7, 8, 9, 10] [] [[]] [[]] rfl rfl follow rfl ⟨
                wp rfl (does_move _ (.inr rfl) rfl rfl rfl rfl (ar_const (fun _ _ => rfl))),
                trivial⟩ ?_
              refine t_pick [0, 1, 2, 3, 4, 5, 6, 7, 8, 9, 11] rfl ?_
              refine nx_then ?_
              refine t_ret ?_
              exact rt_post [HA.of (VP.int .i64 (d.fits t))] [[]] [] [] rfl ⟨(rv_eq (congrArg HA.of (congrArg (VP.int .i64) (show 0 = d.fits t from Eq.symm (by unfold ArD.fits; (try rw [hb1]); (try rw [hb2]); (try rw [hb3]); (try rw [hb4]); (try rw [hbn]); (try rw [hb8]); (try rfl))))) (rv_vp 10 rfl)), trivial⟩ (by decide) rfl rfl

end O
end Go.Proofs.Ytapmngmpomhjmaa

/- Hashes. -/
namespace Go.Proofs.Ytapmngmpomhjmaa
open Go.RowKit
namespace O
theorem DagH_one_uint64 : oneTy Try.prog 49 = true := by kernel_rfl
theorem DagH_size_uint64 : ∀ w, (sizeOf 49).run Try.prog w = .ok 1 w := run_sizeOne DagH_one_uint64
abbrev DagH_p39_0 : Tab2 := [[], [], [0, 1], [0, 1, 2], [0, 1, 2, 3]]
abbrev DagH_s39_0 : Tab2 := [[2, 3, 4], [2, 3, 4], [3, 4], [4], []]
theorem DagH_zero_uint64 : zeroOf Try.prog 49 [(.int .u64 0)] := by unfold zeroOf; kernel_rfl
theorem DagH_f_api_Term_0 : fieldAt Try.prog 30 0 0 = true := by kernel_rfl
theorem DagH_one_int : oneTy Try.prog 3 = true := by kernel_rfl
theorem DagH_f_api_Term_1 : fieldAt Try.prog 30 1 1 = true := by kernel_rfl
theorem DagH_f_api_Term_2 : fieldAt Try.prog 30 2 2 = true := by kernel_rfl
theorem DagH_one___int : oneTy Try.prog 28 = true := by kernel_rfl
theorem DagH_el_int : Elem Try.prog 28 3 (.int .i64 0) 1 8 := Elem.mk Try.underlying28 (by kernel_rfl) rfl (by decide)
theorem DagH_el_____int : Elem Try.prog 47 28 (.slice none 0 0) 1 24 := Elem.mk Try.underlying47 (by kernel_rfl) rfl (by decide)
theorem DagH_hb_slices_Concat___int_int_ : hasBody Try.prog 40 = true := by kernel_rfl
abbrev DagH_p18_3 : Tab2 := [[], [0], [], [2], [], [4], [4, 5], [0, 1, 2, 3, 4, 5, 6], [], [8], [0, 1, 2, 3, 4, 5, 6, 7, 8, 9], [0, 1, 2, 3, 4, 5, 6, 7, 8, 9, 10], [0, 1, 2, 3, 4, 5, 6, 7, 8, 9, 10, 11], []]
abbrev DagH_s18_3 : Tab2 := [[1, 7, 10, 11, 12], [7, 10, 11, 12], [3, 7, 10, 11, 12], [7, 10, 11, 12], [5, 6, 7, 10, 11, 12], [6, 7, 10, 11, 12], [7, 10, 11, 12], [10, 11, 12], [9, 10, 11, 12], [10, 11, 12], [11, 12], [12], [], []]
theorem DagH_size_int : ∀ w, (sizeOf 3).run Try.prog w = .ok 1 w := run_sizeOne DagH_one_int
theorem DagH_hb_collator_dag_Hash_1 : hasBody Try.prog 39 = true := by kernel_rfl
theorem DagH_f_api_Term_3 : fieldAt Try.prog 30 3 3 = true := by kernel_rfl
theorem DagH_one_string : oneTy Try.prog 9 = true := by kernel_rfl
theorem DagH_one_uint8 : oneTy Try.prog 5 = true := by kernel_rfl
theorem DagH_size_uint8 : ∀ w, (sizeOf 5).run Try.prog w = .ok 1 w := run_sizeOne DagH_one_uint8
set_option maxRecDepth 100000 in
set_option maxHeartbeats 4000000 in
theorem da_Hash1 {c : Value} (h n : Int) : SpecO Try.prog 39 [.vp (VP.int .u64 n), .vp (VP.ptr c)] [] [(c, HA.cells 49 [HA.of (VP.int .u64 h)])] [(c, HA.cells 49 [HA.of (VP.int .u64 (mixI h n))])] (HA.of (VP.tup [])) := by
  refine spec_tup (ps := []) ?_
  refine spec_of 7 Try.func39 rfl Try.ntmps39 rfl fun w0 S0 Z0 Bf => ?_
  refine t_rg [.is (.tmp 0) (VP.int .u64 n), .is (.tmp 1) (VP.ptr c)] [(4, .own 0 (.val c) (HA.cells 49 [HA.of (VP.int .u64 h)]))] [(0, .is (.tmp 3) (VP.int .u64 h)), (1, .is (.tmp 4) (VP.int .u64 n)), (2, .is (.tmp 5) (VP.int .u64 (xor64 h n))), (3, .is (.tmp 6) (VP.int .u64 (mixI h n))), (4, .own 0 (.val c) (HA.cells 49 [HA.of (VP.int .u64 (mixI h n))]))] [] [0, 1] [2] DagH_p39_0 DagH_s39_0 rfl rfl follow rfl ⟨
    wp rfl (does_loadOne _ DagH_one_uint64 rfl rfl rfl rfl rfl (pt_ptr (ar_tmp (av_fs 1 rfl))) (rds_box (off := 0) (av_os 0 4 rfl rfl) (hq_one rfl))),
    wp rfl (does_move _ (.inl rfl) rfl rfl rfl rfl (ar_tmp (av_fs 0 rfl))),
    wp rfl (does_bin (m := h) (n := n) (r := (xor64 h n)) _ _ _ _ _ rfl rfl rfl rfl rfl rfl br_xor (ar_tmp (av_rs 0 0 rfl rfl)) (ar_tmp (av_rs 1 1 rfl rfl))),
    wp rfl (does_bin (m := (xor64 h n)) (n := 1099511628211) (r := (mixI h n)) _ _ _ _ _ rfl rfl rfl rfl rfl rfl (br_mul rfl) (ar_tmp (av_rs 2 2 rfl rfl)) (ar_const (fun _ _ => rfl))),
    wp rfl (does_store (off := 0) (Qs := [HA.of (VP.int .u64 (mixI h n))]) _ _ DagH_size_uint64 rfl rfl rfl rfl rfl rfl (pt_ptr (ar_tmp (av_fs 1 rfl))) (av_os 0 4 rfl rfl) (cv_one rfl (mv_vp (ar_tmp (av_rs 3 3 rfl rfl))))),
    trivial⟩ ?_
  refine t_pick [6] rfl ?_
  exact rt_post [] [] [0] [0] rfl trivial (by decide) rfl rfl

set_option maxRecDepth 100000 in
set_option maxHeartbeats 4000000 in
theorem da_Hash (t : TermD) (hk : t.kids.length ≤ 900000) (hn : t.num.size ≤ 1000000) : SpecO Try.prog 18 [.vp (VP.agg [VP.int .i64 t.op, VP.int .i64 t.fn, O_int t.kids, VP.str t.num])] [] [] [] (HA.of (VP.int .u64 (hashT t))) := by
  have hll : (hashL t).length = t.kids.length + 3 := by simp only [hashL, List.length_append, List.length_cons, List.length_nil]; omega
  have hbl : (bytesL t.num).length = t.num.size := bytesL_len _
  refine spec_of 46 Try.func18 rfl Try.ntmps18 rfl fun w0 S0 Z0 Bf => ?_
  refine t_seq ?_
  refine t_rg [.is (.tmp 0) (VP.agg [VP.int .i64 t.op, VP.int .i64 t.fn, O_int t.kids, VP.str t.num])] [] [(0, .own 101 (.tmp 1) (B_term t)), (1, .is (.tmp 2) (VP.int .u64 0))] [] [0] [] [[], []] [[], []] rfl rfl follow rfl ⟨
    wp rfl (does_box (Rs := [HA.of (VP.int .i64 t.op), HA.of (VP.int .i64 t.fn), HA.of (O_int t.kids), HA.of (VP.str t.num)]) _ rfl rfl rfl rfl rfl rfl (cv_agg (ps := [VP.int .i64 t.op, VP.int .i64 t.fn, O_int t.kids, VP.str t.num]) (ar_tmp (av_fs 0 rfl)))),
    wp rfl (does_move _ (.inr rfl) rfl rfl rfl rfl (ar_const (fun _ _ => rfl))),
    trivial⟩ ?_
  refine t_pick [1, 2] rfl ?_
  refine nx_then ?_
  refine t_nameP rfl fun c1 => ?_
  refine t_seq ?_
  refine t_rg [.own 101 (.val c1) (B_term t), .is (.tmp 1) (VP.ptr c1), .is (.tmp 2) (VP.int .u64 0)] [] [(1, .own 102 (.tmp 3) (HA.cells 49 [HA.of (VP.int .u64 14695981039346656037)]))] [(0, 1, .own 102 (.tmp 3) (HA.cells 49 [HA.of (VP.int .u64 0)]))] [0, 1, 2] [] [[], [0]] [[1], []] rfl rfl follow rfl ⟨
    wp rfl (does_alloc (ps := [VP.int .u64 0]) DagH_zero_uint64 rfl rfl rfl rfl rfl rfl (fun _ _ => ⟨rfl, trivial⟩)),
    wp rfl (does_store (off := 0) (Qs := [HA.of (VP.int .u64 14695981039346656037)]) _ _ DagH_size_uint64 rfl rfl rfl rfl rfl rfl (pt_box (av_ms 0 0 1 rfl rfl rfl)) (av_ms 0 0 1 rfl rfl rfl) (cv_one rfl (mv_vp (ar_const (fun _ _ => rfl))))),
    trivial⟩ ?_
  refine nx_then ?_
  refine t_pick [3, 0, 1, 2] rfl ?_
  refine t_nameP rfl fun c3 => ?_
  refine t_knowP fun hc3 => ?_
  refine t_seq ?_
  refine t_rg [.own 102 (.val c3) (HA.cells 49 [HA.of (VP.int .u64 14695981039346656037)]), .is (.tmp 3) (VP.ptr c3), .own 101 (.val c1) (B_term t), .is (.tmp 1) (VP.ptr c1), .is (.tmp 2) (VP.int .u64 0)] [] [(0, .is (.tmp 9) (VP.clo 39 [c3])), (1, .is (.tmp 4) (VP.clo 39 [c3]))] [] [0, 1, 2, 3, 4] [] [[], [0]] [[1], []] rfl rfl follow rfl ⟨
    wp rfl (does_makeFunc rfl rfl rfl rfl rfl ⟨(cap_ptr (ar_tmp (av_fs 1 rfl))), trivial⟩),
    wp rfl (does_move _ (.inr rfl) rfl rfl rfl rfl (ar_tmp (av_rs 0 0 rfl rfl))),
    trivial⟩ ?_
  refine t_pick [0, 1, 2, 3, 4, 6] rfl ?_
  refine nx_then ?_
  refine t_seq ?_
  refine t_seq ?_
  refine t_rg [.own 102 (.val c3) (HA.cells 49 [HA.of (VP.int .u64 14695981039346656037)]), .is (.tmp 3) (VP.ptr c3), .own 101 (.val c1) (B_term t), .is (.tmp 1) (VP.ptr c1), .is (.tmp 2) (VP.int .u64 0), .is (.tmp 4) (VP.clo 39 [c3])] [] [(0, .pt 10 (.blk (.val c1) 0)), (1, .is (.tmp 11) (VP.int .i64 t.op)), (2, .pt 12 (.blk (.val c1) 1)), (3, .is (.tmp 13) (VP.int .i64 t.fn)), (4, .pt 14 (.blk (.val c1) 2)), (5, .is (.tmp 15) (O_int t.kids)), (6, .is (.tmp 16) (VP.int .i64 ((t.kids.length : Nat) : Int))), (8, .pt 18 (.blk (.val c1) 2)), (9, .is (.tmp 19) (O_int t.kids)), (10, .own 104 (.tmp 20) (HA.row 28 1 2 [R_int ([t.op, t.fn, ((t.kids.length : Nat) : Int)]), HA.of (O_int t.kids)])), (11, .own 105 (.tmp 21) (R_int ([[t.op, t.fn, ((t.kids.length : Nat) : Int)], t.kids].flatten))), (12, .is (.tmp 22) (VP.int .i64 ((([[t.op, t.fn, ((t.kids.length : Nat) : Int)], t.kids].flatten).length : Nat) : Int))), (13, .is (.tmp 23) (VP.int .i64 0))] [(7, 10, .own 103 (.tmp 17) (R_int ([t.op, t.fn, ((t.kids.length : Nat) : Int)])))] [0, 1, 2, 3, 4, 5] [] DagH_p18_3 DagH_s18_3 rfl rfl follow rfl ⟨
    wp rfl (does_field _ _ _ 0 DagH_f_api_Term_0 rfl rfl rfl rfl rfl rfl (pt_ptr (ar_tmp (av_fs 3 rfl)))),
    wp rfl (does_loadOne _ DagH_one_int rfl rfl rfl rfl rfl (pt_pt (av_rs 0 0 rfl rfl)) (rds_box (off := 0) (av_fs 2 rfl) (hq_one rfl))),
    wp rfl (does_field _ _ _ 1 DagH_f_api_Term_1 rfl rfl rfl rfl rfl rfl (pt_ptr (ar_tmp (av_fs 3 rfl)))),
    wp rfl (does_loadOne _ DagH_one_int rfl rfl rfl rfl rfl (pt_pt (av_rs 2 2 rfl rfl)) (rds_box (off := 1) (av_fs 2 rfl) (hq_one rfl))),
    wp rfl (does_field _ _ _ 2 DagH_f_api_Term_2 rfl rfl rfl rfl rfl rfl (pt_ptr (ar_tmp (av_fs 3 rfl)))),
    wp rfl (does_loadOne _ DagH_one___int rfl rfl rfl rfl rfl (pt_pt (av_rs 4 4 rfl rfl)) (rds_box (off := 2) (av_fs 2 rfl) (hq_one rfl))),
    wp rfl (does_len _ _ (by kernel_rfl) rfl rfl rfl rfl rfl (sl_ro (av_rs 5 5 rfl rfl) (flat_nil_iff cInt_len (by decide) _))),
    wp rfl (does_sliceLit (n := 3) DagH_el_int rfl (List.replicate 3 (VP.int .i64 0)) (z1_of (fun _ _ => rfl) rfl 3) rfl rfl rfl rfl rfl rfl rfl (.cons 0 [HA.of (VP.int .i64 t.op)] none rfl rfl (cv_one rfl (mv_vp (ar_tmp (av_rs 1 1 rfl rfl)))) (.cons 1 [HA.of (VP.int .i64 t.fn)] none rfl rfl (cv_one rfl (mv_vp (ar_tmp (av_rs 3 3 rfl rfl)))) (.cons 2 [HA.of (VP.int .i64 ((t.kids.length : Nat) : Int))] none rfl rfl (cv_one rfl (mv_vp (ar_tmp (av_rs 6 6 rfl rfl)))) (.nil _))))),
    wp rfl (does_field _ _ _ 2 DagH_f_api_Term_2 rfl rfl rfl rfl rfl rfl (pt_ptr (ar_tmp (av_fs 3 rfl)))),
    wp rfl (does_loadOne _ DagH_one___int rfl rfl rfl rfl rfl (pt_pt (av_rs 7 8 rfl rfl)) (rds_box (off := 2) (av_fs 2 rfl) (hq_one rfl))),
    wp rfl (does_sliceLit (n := 2) DagH_el_____int rfl (List.replicate 2 VP.nilS) (zsn_of 2) rfl rfl rfl rfl rfl rfl rfl (.cons 0 [R_int ([t.op, t.fn, ((t.kids.length : Nat) : Int)])] (some 103) rfl rfl (cv_one rfl (mv_own (av_ms 0 7 10 rfl rfl rfl))) (.cons 1 [HA.of (O_int t.kids)] none rfl rfl (cv_one rfl (mv_vp (ar_tmp (av_rs 8 9 rfl rfl)))) (.nil _)))),
    wp rfl (does_callG [] [] [] 105 [0] (da_Concat [[t.op, t.fn, ((t.kids.length : Nat) : Int)], t.kids] (by simp) (by simp only [List.flatten_cons, List.flatten_nil, List.append_nil, List.length_append, List.length_cons, List.length_nil]; omega)) rfl DagH_hb_slices_Concat___int_int_ rfl rfl rfl rfl rfl ar_clo (ars_cons (pa_weak (pa_tmp (av_rs 9 10 rfl rfl) rfl) (slcs_two (slcI_row ([t.op, t.fn, ((t.kids.length : Nat) : Int)])) (slcI_ro t.kids))) ars_nil) trivial trivial),
    wp rfl (does_len _ _ (by kernel_rfl) rfl rfl rfl rfl rfl (sl_tmp (av_rs 10 11 rfl rfl))),
    wp rfl (does_move _ (.inl rfl) rfl rfl rfl rfl (ar_const (fun _ _ => rfl))),
    trivial⟩ ?_
  refine t_pick [0, 1, 2, 3, 4, 5, 15, 16, 17, 18] rfl ?_
  refine nx_then ?_
  refine t_pick [0, 1, 2, 3, 4, 5, 7, 8, 9] rfl ?_
  refine t_pick [6, 0, 1, 2, 3, 4, 5, 7, 8] rfl ?_
  refine t_name rfl fun vl => ?_
  refine t_weak (R' := R_int (hashL t)) (fun _ _ _ _ h => by rw [show ([[t.op, t.fn, ((t.kids.length : Nat) : Int)], t.kids].flatten) = hashL t by simp [hashL]] at h; exact h) rfl ?_
  refine t_block ?_
  refine t_pick [2, 0, 1, 3, 4, 5, 6, 7, 8, 9] rfl ?_
  refine t_weak (R' := HA.cells 49 [HA.of (VP.int .u64 (mixs seedI ((hashL t).take 0)))]) (fun _ _ _ _ h => h) rfl ?_
  refine t_pick [8, 0, 1, 2, 3, 4, 5, 6, 7, 9] rfl ?_
  refine t_slot (y := VP.int .i64 (((hashL t).length : Nat) : Int)) (fun _ _ _ h => by rw [show [[t.op, t.fn, ((t.kids.length : Nat) : Int)], t.kids].flatten = hashL t by simp [hashL]] at h; exact h) ?_
  refine t_pick [9, 0, 1, 2, 3, 4, 5, 6, 7, 8] rfl ?_
  refine t_slot (y := VP.int .i64 ((0 : Nat) : Int)) (fun _ _ _ h => h) ?_
  refine t_loop (τ := {k : Nat // k ≤ (hashL t).length}) (fun ⟨k, _⟩ => [.is (.tmp 1) (VP.ptr c1), .is (.tmp 3) (VP.ptr c3), .is (.tmp 4) (VP.clo 39 [c3]), .is (.tmp 21) (VP.eq vl true true), .is (.tmp 22) (VP.int .i64 (((hashL t).length : Nat) : Int)), .is (.tmp 23) (VP.int .i64 ((k : Nat) : Int)), .own 102 (.val c3) (HA.cells 49 [HA.of (VP.int .u64 (mixs seedI ((hashL t).take k)))]), .own 101 (.val c1) (B_term t), .own 105 (.val vl) (R_int (hashL t))]) (fun ⟨k, _⟩ => (hashL t).length - k) (⟨0, Nat.zero_le _⟩) [7, 5, 9, 4, 1, 0, 2, 6, 3] rfl ?_
  rintro ⟨k, hkk⟩
  refine t_seq ?_
  refine t_rg [.is (.tmp 1) (VP.ptr c1), .is (.tmp 3) (VP.ptr c3), .is (.tmp 4) (VP.clo 39 [c3]), .is (.tmp 21) (VP.eq vl true true), .is (.tmp 22) (VP.int .i64 (((hashL t).length : Nat) : Int)), .is (.tmp 23) (VP.int .i64 ((k : Nat) : Int)), .own 102 (.val c3) (HA.cells 49 [HA.of (VP.int .u64 (mixs seedI ((hashL t).take k)))]), .own 101 (.val c1) (B_term t), .own 105 (.val vl) (R_int (hashL t))] [] [(0, .is (.tmp 24) (VP.bool (decide (((k : Nat) : Int) < (((hashL t).length : Nat) : Int)))))] [] [0, 1, 2, 3, 4, 5, 6, 7, 8] [] [[]] [[]] rfl rfl follow rfl ⟨
    wp rfl (does_cmp (m := ((k : Nat) : Int)) (n := (((hashL t).length : Nat) : Int)) _ _ _ _ _ rfl rfl rfl rfl rfl rfl .i64 (ar_tmp (av_fs 5 rfl)) (ar_tmp (av_fs 4 rfl))),
    trivial⟩ ?_
  refine nx_then ?_
  refine t_seq ?_
  refine t_split 9 rfl (fun hb1 => ?_) (fun hb1 => ?_)
  · have hc1 := of_decide_eq_true hb1
    obtain ⟨x, hx⟩ : ∃ x, (hashL t)[k]? = some x := ⟨_, List.getElem?_eq_getElem (by omega)⟩
    refine t_skip ?_
    refine nx_then ?_
    refine t_seq ?_
    refine t_block ?_
    refine t_seq ?_
    refine t_rg [.is (.tmp 1) (VP.ptr c1), .is (.tmp 3) (VP.ptr c3), .is (.tmp 4) (VP.clo 39 [c3]), .is (.tmp 21) (VP.eq vl true true), .is (.tmp 22) (VP.int .i64 (((hashL t).length : Nat) : Int)), .is (.tmp 23) (VP.int .i64 ((k : Nat) : Int)), .own 102 (.val c3) (HA.cells 49 [HA.of (VP.int .u64 (mixs seedI ((hashL t).take k)))]), .own 101 (.val c1) (B_term t), .own 105 (.val vl) (R_int (hashL t)), .is (.tmp 24) (VP.bool (decide (((k : Nat) : Int) < (((hashL t).length : Nat) : Int))))] [] [(0, .pt 25 (.row (.val vl) (k * 1))), (1, .is (.tmp 26) (VP.int .i64 x)), (2, .is (.tmp 6) (VP.int .i64 x))] [] [0, 1, 2, 3, 4, 5, 6, 7, 8, 9] [] [[], [0], [0, 1]] [[1, 2], [2], []] rfl rfl follow rfl ⟨
      wp rfl (does_index (m := k) _ _ Try.underlying28 DagH_size_int rfl rfl rfl rfl rfl _ (by omega) rfl (by omega) (sl_own (av_fs 8 rfl) (ar_tmp (av_fs 3 rfl))) (ar_tmp (av_fs 5 rfl))),
      wp rfl (does_loadOne _ DagH_one_int rfl rfl rfl rfl rfl (pt_pt (av_rs 0 0 rfl rfl)) (rds_row (av_fs 8 rfl) (hq_flat1 cInt_len hx 0 (by omega) rfl))),
      wp rfl (does_move _ (.inr rfl) rfl rfl rfl rfl (ar_tmp (av_rs 1 1 rfl rfl))),
      trivial⟩ ?_
    refine nx_then ?_
    refine t_rg [.is (.tmp 1) (VP.ptr c1), .is (.tmp 3) (VP.ptr c3), .is (.tmp 4) (VP.clo 39 [c3]), .is (.tmp 21) (VP.eq vl true true), .is (.tmp 22) (VP.int .i64 (((hashL t).length : Nat) : Int)), .is (.tmp 23) (VP.int .i64 ((k : Nat) : Int)), .own 101 (.val c1) (B_term t), .own 105 (.val vl) (R_int (hashL t)), .is (.tmp 24) (VP.bool (decide (((k : Nat) : Int) < (((hashL t).length : Nat) : Int)))), .pt 25 (.row (.val vl) (k * 1)), .is (.tmp 26) (VP.int .i64 x), .is (.tmp 6) (VP.int .i64 x)] [(3, .own 102 (.val c3) (HA.cells 49 [HA.of (VP.int .u64 (mixs seedI ((hashL t).take k)))]))] [(0, .is (.tmp 27) (VP.clo 39 [c3])), (1, .is (.tmp 28) (VP.int .i64 x)), (2, .is (.tmp 29) (VP.int .u64 (IntKind.u64.wrap x))), (3, .own 106 (.tmp 30) (HA.of (VP.tup []))), (3, .own 102 (.val c3) (HA.cells 49 [HA.of (VP.int .u64 (mixI (mixs seedI ((hashL t).take k)) (IntKind.u64.wrap x)))]))] [] [0, 1, 2, 3, 4, 5, 7, 8, 9, 10, 11, 12] [6] [[], [], [1], [0, 1, 2]] [[3], [2, 3], [3], []] rfl rfl follow rfl ⟨
      wp rfl (does_move _ (.inl rfl) rfl rfl rfl rfl (ar_tmp (av_fs 2 rfl))),
      wp rfl (does_move _ (.inl rfl) rfl rfl rfl rfl (ar_tmp (av_fs 11 rfl))),
      wp rfl (does_conv' (n := x) (m := (IntKind.u64.wrap x)) _ Try.underlying3 Try.underlying49 rfl rfl rfl rfl rfl rfl (ar_tmp (av_rs 1 1 rfl rfl))),
      wp rfl (does_callG [] [102] [102] 106 [0, 1] (da_Hash1 (c := c3) (mixs seedI ((hashL t).take k)) (IntKind.u64.wrap x)) rfl DagH_hb_collator_dag_Hash_1 rfl rfl rfl rfl rfl (ar_tmp (av_rs 0 0 rfl rfl)) (ars_cons (pa_vp (ar_tmp (av_rs 2 2 rfl rfl))) (ars_cap (fun _ _ _ _ _ => ⟨rfl, hc3⟩) ars_nil)) trivial ⟨(av_os 0 3 rfl rfl), trivial⟩),
      trivial⟩ ?_
    refine nx_block ?_
    refine nx_then ?_
    refine t_pick [0, 1, 2, 3, 4, 5, 6, 7, 8, 9, 10, 11, 12, 13, 14, 16] rfl ?_
    refine t_rg [.is (.tmp 1) (VP.ptr c1), .is (.tmp 3) (VP.ptr c3), .is (.tmp 4) (VP.clo 39 [c3]), .is (.tmp 21) (VP.eq vl true true), .is (.tmp 22) (VP.int .i64 (((hashL t).length : Nat) : Int)), .own 101 (.val c1) (B_term t), .own 105 (.val vl) (R_int (hashL t)), .is (.tmp 24) (VP.bool (decide (((k : Nat) : Int) < (((hashL t).length : Nat) : Int)))), .pt 25 (.row (.val vl) (k * 1)), .is (.tmp 26) (VP.int .i64 x), .is (.tmp 6) (VP.int .i64 x), .is (.tmp 27) (VP.clo 39 [c3]), .is (.tmp 28) (VP.int .i64 x), .is (.tmp 29) (VP.int .u64 (IntKind.u64.wrap x)), .own 102 (.val c3) (HA.cells 49 [HA.of (VP.int .u64 (mixI (mixs seedI ((hashL t).take k)) (IntKind.u64.wrap x)))])] [(1, .is (.tmp 23) (VP.int .i64 ((k : Nat) : Int)))] [(0, .is (.tmp 31) (VP.int .i64 (((k + 1) : Nat) : Int))), (1, .is (.tmp 23) (VP.int .i64 (((k + 1) : Nat) : Int)))] [] [0, 1, 2, 3, 4, 6, 7, 8, 9, 10, 11, 12, 13, 14, 15] [5] [[], [0]] [[1], []] rfl rfl follow rfl ⟨
      wp rfl (does_addE (m := ((k : Nat) : Int)) (n := 1) (x := (((k + 1) : Nat) : Int)) (by omega) _ _ _ _ rfl rfl rfl rfl rfl (by omega) (ar_tmp (av_os 0 1 rfl rfl)) (ar_const (fun _ _ => rfl))),
      wp rfl (does_move _ (.inl rfl) rfl rfl rfl rfl (ar_tmp (av_rs 0 0 rfl rfl))),
      trivial⟩ ?_
    refine t_pick [14, 0, 1, 2, 3, 4, 5, 6, 7, 8, 9, 10, 11, 12, 13, 15, 16] rfl ?_
    refine t_weak (R' := HA.cells 49 [HA.of (VP.int .u64 (mixs seedI ((hashL t).take (k + 1))))]) (fun _ _ _ _ h => by rw [← mixs_succ hx]; exact h) rfl ?_
    refine nx_round (τ := {k : Nat // k ≤ (hashL t).length}) (I := fun ⟨k, _⟩ => [.is (.tmp 1) (VP.ptr c1), .is (.tmp 3) (VP.ptr c3), .is (.tmp 4) (VP.clo 39 [c3]), .is (.tmp 21) (VP.eq vl true true), .is (.tmp 22) (VP.int .i64 (((hashL t).length : Nat) : Int)), .is (.tmp 23) (VP.int .i64 ((k : Nat) : Int)), .own 102 (.val c3) (HA.cells 49 [HA.of (VP.int .u64 (mixs seedI ((hashL t).take k)))]), .own 101 (.val c1) (B_term t), .own 105 (.val vl) (R_int (hashL t))]) (μ := fun ⟨k, _⟩ => (hashL t).length - k) (s := ⟨k, hkk⟩) (⟨k + 1, by omega⟩) ?_ [1, 2, 3, 4, 5, 16, 0, 6, 7] ?_
    · exact (show (hashL t).length - (k + 1) < (hashL t).length - k by omega)
    · exact rfl
  · have hc1 := of_decide_eq_false hb1
    refine t_exit ?_
    refine ex_then ?_
    refine ex_then ?_
    refine ex_block ?_
    refine nx_then ?_
    refine t_pick [0, 1, 2, 6, 7, 8] rfl ?_
    refine t_seq ?_
    refine t_seq ?_
    refine t_pick [3, 0, 1, 2, 4, 5] rfl ?_
    refine t_weak (R' := HA.cells 49 [HA.of (VP.int .u64 (mixB (mixs seedI (hashL t)) ((bytesL t.num).take 0)))]) (fun _ _ _ _ h => by rw [List.take_of_length_le (show (hashL t).length ≤ k by omega)] at h; rw [mixB_0]; exact h) rfl ?_
    refine t_rg [.own 102 (.val c3) (HA.cells 49 [HA.of (VP.int .u64 (mixB (mixs seedI (hashL t)) ((bytesL t.num).take 0)))]), .is (.tmp 1) (VP.ptr c1), .is (.tmp 3) (VP.ptr c3), .is (.tmp 4) (VP.clo 39 [c3]), .own 101 (.val c1) (B_term t), .own 105 (.val vl) (R_int (hashL t))] [] [(0, .pt 32 (.blk (.val c1) 3)), (1, .is (.tmp 33) (VP.str t.num)), (2, .own 107 (.tmp 34) (HA.slc ((bytesL t.num).length) ((bytesL t.num).flatMap cByte))), (3, .is (.tmp 35) (VP.int .i64 (((bytesL t.num).length : Nat) : Int))), (4, .is (.tmp 36) (VP.int .i64 0))] [] [0, 1, 2, 3, 4, 5] [] [[], [0], [0, 1], [0, 1, 2], []] [[1, 2, 3], [2, 3], [3], [], []] rfl rfl follow rfl ⟨
      wp rfl (does_field _ _ _ 3 DagH_f_api_Term_3 rfl rfl rfl rfl rfl rfl (pt_ptr (ar_tmp (av_fs 1 rfl)))),
      wp rfl (does_loadOne _ DagH_one_string rfl rfl rfl rfl rfl (pt_pt (av_rs 0 0 rfl rfl)) (rds_box (off := 3) (av_fs 4 rfl) (hq_one rfl))),
      wp rfl (does_bytes _ Try.underlying9 Try.underlying82 Try.underlying5 rfl rfl rfl rfl rfl (by omega) (ar_tmp (av_rs 1 1 rfl rfl))),
      wp rfl (does_len _ _ (by kernel_rfl) rfl rfl rfl rfl rfl (sl_tmpSlc (av_rs 2 2 rfl rfl))),
      wp rfl (does_move _ (.inl rfl) rfl rfl rfl rfl (ar_const (fun _ _ => rfl))),
      trivial⟩ ?_
    refine t_pick [0, 2, 3, 4, 5, 8, 9, 10] rfl ?_
    refine nx_then ?_
    refine t_pick [5, 0, 1, 2, 3, 4, 6, 7] rfl ?_
    refine t_freeze (fz_slc _ _) rfl ?_
    refine t_block ?_
    refine t_pick [7, 0, 1, 2, 3, 4, 5, 6] rfl ?_
    refine t_slot (y := VP.int .i64 ((0 : Nat) : Int)) (fun _ _ _ h => h) ?_
    refine t_loop (τ := {m : Nat // m ≤ (bytesL t.num).length}) (fun ⟨m, _⟩ => [.is (.tmp 3) (VP.ptr c3), .is (.tmp 4) (VP.clo 39 [c3]), .is (.tmp 34) (VP.ro ((bytesL t.num).length) ((bytesL t.num).flatMap cByte)), .is (.tmp 35) (VP.int .i64 (((bytesL t.num).length : Nat) : Int)), .is (.tmp 36) (VP.int .i64 ((m : Nat) : Int)), .own 102 (.val c3) (HA.cells 49 [HA.of (VP.int .u64 (mixB (mixs seedI (hashL t)) ((bytesL t.num).take m)))])]) (fun ⟨m, _⟩ => (bytesL t.num).length - m) (⟨0, Nat.zero_le _⟩) [3, 4, 1, 7, 0, 2] rfl ?_
    rintro ⟨m, hm⟩
    refine t_seq ?_
    refine t_rg [.is (.tmp 3) (VP.ptr c3), .is (.tmp 4) (VP.clo 39 [c3]), .is (.tmp 34) (VP.ro ((bytesL t.num).length) ((bytesL t.num).flatMap cByte)), .is (.tmp 35) (VP.int .i64 (((bytesL t.num).length : Nat) : Int)), .is (.tmp 36) (VP.int .i64 ((m : Nat) : Int)), .own 102 (.val c3) (HA.cells 49 [HA.of (VP.int .u64 (mixB (mixs seedI (hashL t)) ((bytesL t.num).take m)))])] [] [(0, .is (.tmp 37) (VP.bool (decide (((m : Nat) : Int) < (((bytesL t.num).length : Nat) : Int)))))] [] [0, 1, 2, 3, 4, 5] [] [[]] [[]] rfl rfl follow rfl ⟨
      wp rfl (does_cmp (m := ((m : Nat) : Int)) (n := (((bytesL t.num).length : Nat) : Int)) _ _ _ _ _ rfl rfl rfl rfl rfl rfl .i64 (ar_tmp (av_fs 4 rfl)) (ar_tmp (av_fs 3 rfl))),
      trivial⟩ ?_
    refine nx_then ?_
    refine t_seq ?_
    refine t_split 6 rfl (fun hb2 => ?_) (fun hb2 => ?_)
    · have hc2 := of_decide_eq_true hb2
      obtain ⟨x, hx⟩ : ∃ x, (bytesL t.num)[m]? = some x := ⟨_, List.getElem?_eq_getElem (by omega)⟩
      have hxl := bytesL_lt hx
      refine t_skip ?_
      refine nx_then ?_
      refine t_seq ?_
      refine t_block ?_
      refine t_seq ?_
      refine t_rg [.is (.tmp 3) (VP.ptr c3), .is (.tmp 4) (VP.clo 39 [c3]), .is (.tmp 34) (VP.ro ((bytesL t.num).length) ((bytesL t.num).flatMap cByte)), .is (.tmp 35) (VP.int .i64 (((bytesL t.num).length : Nat) : Int)), .is (.tmp 36) (VP.int .i64 ((m : Nat) : Int)), .own 102 (.val c3) (HA.cells 49 [HA.of (VP.int .u64 (mixB (mixs seedI (hashL t)) ((bytesL t.num).take m)))]), .is (.tmp 37) (VP.bool (decide (((m : Nat) : Int) < (((bytesL t.num).length : Nat) : Int))))] [] [(0, .pt 38 (.row (.tmp 34) (m * 1))), (1, .is (.tmp 39) (VP.int .u8 ((x : Nat) : Int))), (2, .is (.tmp 8) (VP.int .u8 ((x : Nat) : Int)))] [] [0, 1, 2, 3, 4, 5, 6] [] [[], [0], [0, 1]] [[1, 2], [2], []] rfl rfl follow rfl ⟨
        wp rfl (does_index (m := m) _ _ Try.underlying82 DagH_size_uint8 rfl rfl rfl rfl rfl _ (by omega) rfl (by omega) (sl_ro (av_fs 2 rfl) (flat_nil_iff cByte_len (by decide) _)) (ar_tmp (av_fs 4 rfl))),
        wp rfl (does_loadOne _ DagH_one_uint8 rfl rfl rfl rfl rfl (pt_pt (av_rs 0 0 rfl rfl)) (rds_ro (av_fs 2 rfl) (hq_flatV1 cByte_len hx 0 (by omega) rfl))),
        wp rfl (does_move _ (.inr rfl) rfl rfl rfl rfl (ar_tmp (av_rs 1 1 rfl rfl))),
        trivial⟩ ?_
      refine nx_then ?_
      refine t_rg [.is (.tmp 3) (VP.ptr c3), .is (.tmp 4) (VP.clo 39 [c3]), .is (.tmp 34) (VP.ro ((bytesL t.num).length) ((bytesL t.num).flatMap cByte)), .is (.tmp 35) (VP.int .i64 (((bytesL t.num).length : Nat) : Int)), .is (.tmp 36) (VP.int .i64 ((m : Nat) : Int)), .is (.tmp 37) (VP.bool (decide (((m : Nat) : Int) < (((bytesL t.num).length : Nat) : Int)))), .pt 38 (.row (.tmp 34) (m * 1)), .is (.tmp 39) (VP.int .u8 ((x : Nat) : Int)), .is (.tmp 8) (VP.int .u8 ((x : Nat) : Int))] [(3, .own 102 (.val c3) (HA.cells 49 [HA.of (VP.int .u64 (mixB (mixs seedI (hashL t)) ((bytesL t.num).take m)))]))] [(0, .is (.tmp 40) (VP.clo 39 [c3])), (1, .is (.tmp 41) (VP.int .u8 ((x : Nat) : Int))), (2, .is (.tmp 42) (VP.int .u64 ((x : Nat) : Int))), (3, .own 108 (.tmp 43) (HA.of (VP.tup []))), (3, .own 102 (.val c3) (HA.cells 49 [HA.of (VP.int .u64 (mixI (mixB (mixs seedI (hashL t)) ((bytesL t.num).take m)) ((x : Nat) : Int)))]))] [] [0, 1, 2, 3, 4, 6, 7, 8, 9] [5] [[], [], [1], [0, 1, 2]] [[3], [2, 3], [3], []] rfl rfl follow rfl ⟨
        wp rfl (does_move _ (.inl rfl) rfl rfl rfl rfl (ar_tmp (av_fs 1 rfl))),
        wp rfl (does_move _ (.inl rfl) rfl rfl rfl rfl (ar_tmp (av_fs 8 rfl))),
        wp rfl (does_conv' (n := ((x : Nat) : Int)) (m := ((x : Nat) : Int)) _ Try.underlying5 Try.underlying49 rfl rfl rfl rfl rfl (by rw [IntKind.wrap_u64]; omega) (ar_tmp (av_rs 1 1 rfl rfl))),
        wp rfl (does_callG [] [102] [102] 108 [0, 1] (da_Hash1 (c := c3) (mixB (mixs seedI (hashL t)) ((bytesL t.num).take m)) ((x : Nat) : Int)) rfl DagH_hb_collator_dag_Hash_1 rfl rfl rfl rfl rfl (ar_tmp (av_rs 0 0 rfl rfl)) (ars_cons (pa_vp (ar_tmp (av_rs 2 2 rfl rfl))) (ars_cap (fun _ _ _ _ _ => ⟨rfl, hc3⟩) ars_nil)) trivial ⟨(av_os 0 3 rfl rfl), trivial⟩),
        trivial⟩ ?_
      refine nx_block ?_
      refine nx_then ?_
      refine t_pick [0, 1, 2, 3, 4, 5, 6, 7, 8, 9, 10, 11, 13] rfl ?_
      refine t_rg [.is (.tmp 3) (VP.ptr c3), .is (.tmp 4) (VP.clo 39 [c3]), .is (.tmp 34) (VP.ro ((bytesL t.num).length) ((bytesL t.num).flatMap cByte)), .is (.tmp 35) (VP.int .i64 (((bytesL t.num).length : Nat) : Int)), .is (.tmp 37) (VP.bool (decide (((m : Nat) : Int) < (((bytesL t.num).length : Nat) : Int)))), .pt 38 (.row (.tmp 34) (m * 1)), .is (.tmp 39) (VP.int .u8 ((x : Nat) : Int)), .is (.tmp 8) (VP.int .u8 ((x : Nat) : Int)), .is (.tmp 40) (VP.clo 39 [c3]), .is (.tmp 41) (VP.int .u8 ((x : Nat) : Int)), .is (.tmp 42) (VP.int .u64 ((x : Nat) : Int)), .own 102 (.val c3) (HA.cells 49 [HA.of (VP.int .u64 (mixI (mixB (mixs seedI (hashL t)) ((bytesL t.num).take m)) ((x : Nat) : Int)))])] [(1, .is (.tmp 36) (VP.int .i64 ((m : Nat) : Int)))] [(0, .is (.tmp 44) (VP.int .i64 (((m + 1) : Nat) : Int))), (1, .is (.tmp 36) (VP.int .i64 (((m + 1) : Nat) : Int)))] [] [0, 1, 2, 3, 5, 6, 7, 8, 9, 10, 11, 12] [4] [[], [0]] [[1], []] rfl rfl follow rfl ⟨
        wp rfl (does_addE (m := ((m : Nat) : Int)) (n := 1) (x := (((m + 1) : Nat) : Int)) (by omega) _ _ _ _ rfl rfl rfl rfl rfl (by omega) (ar_tmp (av_os 0 1 rfl rfl)) (ar_const (fun _ _ => rfl))),
        wp rfl (does_move _ (.inl rfl) rfl rfl rfl rfl (ar_tmp (av_rs 0 0 rfl rfl))),
        trivial⟩ ?_
      refine t_pick [11, 0, 1, 2, 3, 4, 5, 6, 7, 8, 9, 10, 12, 13] rfl ?_
      refine t_weak (R' := HA.cells 49 [HA.of (VP.int .u64 (mixB (mixs seedI (hashL t)) ((bytesL t.num).take (m + 1))))]) (fun _ _ _ _ h => by rw [← mixB_succ hx]; exact h) rfl ?_
      refine nx_round (τ := {m : Nat // m ≤ (bytesL t.num).length}) (I := fun ⟨m, _⟩ => [.is (.tmp 3) (VP.ptr c3), .is (.tmp 4) (VP.clo 39 [c3]), .is (.tmp 34) (VP.ro ((bytesL t.num).length) ((bytesL t.num).flatMap cByte)), .is (.tmp 35) (VP.int .i64 (((bytesL t.num).length : Nat) : Int)), .is (.tmp 36) (VP.int .i64 ((m : Nat) : Int)), .own 102 (.val c3) (HA.cells 49 [HA.of (VP.int .u64 (mixB (mixs seedI (hashL t)) ((bytesL t.num).take m)))])]) (μ := fun ⟨m, _⟩ => (bytesL t.num).length - m) (s := ⟨m, hm⟩) (⟨m + 1, by omega⟩) ?_ [1, 2, 3, 4, 13, 0] ?_
      · exact (show (bytesL t.num).length - (m + 1) < (bytesL t.num).length - m by omega)
      · exact rfl
    · have hc2 := of_decide_eq_false hb2
      refine t_exit ?_
      refine ex_then ?_
      refine ex_then ?_
      refine ex_block ?_
      refine nx_then ?_
      refine t_pick [0, 5] rfl ?_
      refine t_seq ?_
      refine t_pick [1, 0] rfl ?_
      refine t_weak (R' := HA.cells 49 [HA.of (VP.int .u64 (hashT t))]) (fun _ _ _ _ h => by rw [List.take_of_length_le (show (bytesL t.num).length ≤ m by omega)] at h; exact h) rfl ?_
      refine t_rg [.own 102 (.val c3) (HA.cells 49 [HA.of (VP.int .u64 (hashT t))]), .is (.tmp 3) (VP.ptr c3)] [] [(0, .is (.tmp 45) (VP.int .u64 (hashT t))), (1, .is (.tmp 2) (VP.int .u64 (hashT t)))] [] [0, 1] [] [[], [0]] [[1], []] rfl rfl follow rfl ⟨
        wp rfl (does_loadOne _ DagH_one_uint64 rfl rfl rfl rfl rfl (pt_ptr (ar_tmp (av_fs 1 rfl))) (rds_box (off := 0) (av_fs 0 rfl) (hq_one rfl))),
        wp rfl (does_move _ (.inr rfl) rfl rfl rfl rfl (ar_tmp (av_rs 0 0 rfl rfl))),
        trivial⟩ ?_
      refine t_pick [0, 3] rfl ?_
      refine nx_then ?_
      refine t_ret ?_
      exact rt_post [HA.of (VP.int .u64 (hashT t))] [[]] [] [] rfl ⟨(rv_vp 1 rfl), trivial⟩ (by decide) rfl rfl

end O
end Go.Proofs.Ytapmngmpomhjmaa
