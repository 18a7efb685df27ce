/- Part of the proof that a law returns true for all that comes in, and that what came in reads as it did. No condition. -/
import Derived.SizedLaws
import Derived.Laws.Strings
import Derived.Test.YtapmngmpomhjmaaMgDagOnce4
/- A table of buckets grows. -/
namespace Go.Proofs.Ytapmngmpomhjmaa
open Go.RowKit
namespace O

def addT (t : List (List Int)) (hs : Int) (x : Int) : List (List Int) := t.set (hs % (t.length : Int)).toNat ((t[(hs % (t.length : Int)).toNat]?).getD [] ++ [x])
def growT (hs : List Int) (n : Nat) : Nat → List (List Int)
  | 0 => List.replicate n []
  | k + 1 => addT (growT hs n k) ((hs[k]?).getD 0) (k : Int)
def ArD.grow (d : ArD) : ArD := { d with table := growT d.hashes (2 * d.table.length) d.hashes.length }
theorem addT_len {t : List (List Int)} {hs x : Int} : (addT t hs x).length = t.length := by unfold addT; rw [List.length_set]
theorem growT_len {hs : List Int} {n : Nat} : ∀ k, (growT hs n k).length = n
  | 0 => by unfold growT; simp
  | k + 1 => by unfold growT; rw [addT_len]; exact growT_len k
theorem growT_succ {hs : List Int} {n k m : Nat} {x : Int} (hx : hs[k]? = some x) (hm : m = (x % ((growT hs n k).length : Int)).toNat) : (growT hs n k).set m (((growT hs n k)[m]?).getD [] ++ [((k : Nat) : Int)]) = growT hs n (k + 1) := by
  subst hm
  show _ = addT (growT hs n k) ((hs[k]?).getD 0) (k : Int)
  rw [hx]; rfl
theorem addT_get {t : List (List Int)} {hs x : Int} (m : Nat) : ((addT t hs x)[m]?).getD [] = if m = (hs % (t.length : Int)).toNat ∧ m < t.length then (t[m]?).getD [] ++ [x] else (t[m]?).getD [] := by
  unfold addT
  rw [List.getElem?_set]
  by_cases e : (hs % (t.length : Int)).toNat = m
  · rw [if_pos e]
    subst e
    by_cases h : (hs % (t.length : Int)).toNat < t.length
    · rw [if_pos h, if_pos ⟨rfl, h⟩]; rfl
    · rw [if_neg h, if_neg (fun h' => h h'.2), List.getElem?_eq_none (by omega)]
  · rw [if_neg e, if_neg (fun h' => e h'.1.symm)]
theorem growT_bk {hs : List Int} {n : Nat} (m : Nat) : ∀ k, (((growT hs n k)[m]?).getD []).length ≤ k
  | 0 => by
    unfold growT
    rw [List.getElem?_replicate]
    split <;> simp
  | k + 1 => by
    have := growT_bk (hs := hs) (n := n) m k
    show (((addT (growT hs n k) ((hs[k]?).getD 0) (k : Int))[m]?).getD []).length ≤ k + 1
    rw [addT_get]
    split
    · rw [List.length_append, List.length_cons, List.length_nil]; omega
    · omega
theorem mod_at {x : Int} {n : Nat} (hn : 1 ≤ n) : ∃ m : Nat, m = (x % (n : Int)).toNat ∧ x % (n : Int) = (m : Int) ∧ m < n := by
  have h1 := Int.emod_nonneg x (show (n : Int) ≠ 0 by omega)
  have h2 := Int.emod_lt_of_pos x (show (0 : Int) < (n : Int) by omega)
  exact ⟨_, rfl, by omega, by omega⟩
theorem DagJ_f_dag_Arena_5 : fieldAt Try.prog 64 5 5 = true := by kernel_rfl
theorem DagJ_one_dag_table : oneTy Try.prog 60 = true := by kernel_rfl
theorem DagJ_el_dag_table : Elem Try.prog 60 28 (.slice none 0 0) 1 24 := Elem.mk Try.underlying60 (by kernel_rfl) rfl (by decide)
theorem DagJ_size_dag_table : ∀ w, (sizeOf 60).run Try.prog w = .ok 1 w := run_sizeOne DagJ_one_dag_table
abbrev DagJ_p34_0 : Tab2 := [[], [], [1], [1, 2], [1, 2, 3], [1, 2, 3, 4], [1, 2, 3, 4, 5], [1, 2, 3, 4, 5, 6], [0, 1, 2, 3, 4, 5, 6, 7], [0, 1, 2, 3, 4, 5, 6, 7, 8], [0, 1, 2, 3, 4, 5, 6, 7, 8, 9]]
abbrev DagJ_s34_0 : Tab2 := [[8, 9, 10], [2, 3, 4, 5, 6, 7, 8, 9, 10], [3, 4, 5, 6, 7, 8, 9, 10], [4, 5, 6, 7, 8, 9, 10], [5, 6, 7, 8, 9, 10], [6, 7, 8, 9, 10], [7, 8, 9, 10], [8, 9, 10], [9, 10], [10], []]
theorem DagJ_f_dag_Arena_4 : fieldAt Try.prog 64 4 4 = true := by kernel_rfl
theorem DagJ_one___uint64 : oneTy Try.prog 62 = true := by kernel_rfl
abbrev DagJ_p34_1 : Tab2 := [[], [0], [0, 1], [0, 1, 2], [0, 1, 2, 3], []]
abbrev DagJ_s34_1 : Tab2 := [[1, 2, 3, 4], [2, 3, 4], [3, 4], [4], [], []]
theorem DagJ_one_uint64 : oneTy Try.prog 49 = true := by kernel_rfl
theorem DagJ_size_uint64 : ∀ w, (sizeOf 49).run Try.prog w = .ok 1 w := run_sizeOne DagJ_one_uint64
abbrev DagJ_p34_3 : Tab2 := [[], [], [1], [0, 1, 2], [0, 1, 2, 3]]
abbrev DagJ_s34_3 : Tab2 := [[3, 4], [2, 3, 4], [3, 4], [4], []]
theorem DagJ_hb__collator_dag_table__place : hasBody Try.prog 31 = true := by kernel_rfl
abbrev DagJ_p34_4 : Tab2 := [[], [0], [0, 1], [0, 1, 2], [], [0, 1, 2, 3, 4], [0, 1, 2, 3, 4, 5]]
abbrev DagJ_s34_4 : Tab2 := [[1, 2, 3, 5, 6], [2, 3, 5, 6], [3, 5, 6], [5, 6], [5, 6], [6], []]
theorem DagJ_one___int : oneTy Try.prog 28 = true := by kernel_rfl
theorem DagJ_size___int : ∀ w, (sizeOf 28).run Try.prog w = .ok 1 w := run_sizeOne DagJ_one___int
theorem DagJ_el_int : Elem Try.prog 28 3 (.int .i64 0) 1 8 := Elem.mk Try.underlying28 (by kernel_rfl) rfl (by decide)
abbrev DagJ_p34_5 : Tab2 := [[], [0], [0, 1], [0, 1, 2], [], [], [5], [5, 6], [5, 6, 7], [], [5, 6, 7, 8, 9], [5, 6, 7, 8, 9, 10], [], [12], [5, 6, 7, 8, 9, 10, 11, 12, 13], [0, 1, 2, 3, 4, 5, 6, 7, 8, 9, 10, 11, 12, 13, 14], [0, 1, 2, 3, 4, 5, 6, 7, 8, 9, 10, 11, 12, 13, 14, 15]]
abbrev DagJ_s34_5 : Tab2 := [[1, 2, 3, 15, 16], [2, 3, 15, 16], [3, 15, 16], [15, 16], [15, 16], [6, 7, 8, 10, 11, 14, 15, 16], [7, 8, 10, 11, 14, 15, 16], [8, 10, 11, 14, 15, 16], [10, 11, 14, 15, 16], [10, 11, 14, 15, 16], [11, 14, 15, 16], [14, 15, 16], [13, 14, 15, 16], [14, 15, 16], [15, 16], [16], []]
set_option maxRecDepth 100000 in
set_option maxHeartbeats 4000000 in
theorem da_grow {v : Value} {d : ArD} {j : Nat} (hT : d.table.length = 2 ^ j) (hj : j ≤ 30) (hh : d.hashes.length ≤ 1000000) (ht : d.table.length ≤ 4000000) : SpecO Try.prog 34 [.vp (VP.ptr v)] [] [(v, Arn d)] [(v, Arn d.grow)] (HA.of (VP.tup [])) := by
  have ht1 : 1 ≤ d.table.length := by rw [hT]; exact Nat.one_le_two_pow
  refine spec_tup (ps := []) ?_
  refine spec_of 48 Try.func34 rfl Try.ntmps34 rfl fun w0 S0 Z0 Bf => ?_
  refine t_seq ?_
  refine t_pick [1, 0] rfl ?_
  refine t_part 101 (part_cells (T' := 64) (Rs := [R_sort d.sorts, R_fun d.funs, R_term d.terms, R_int d.of_, R_u64 d.hashes, rowsInt d.table, HA.of (VP.int .i64 d.most)]) 0 rfl) rfl rfl fun us => ?_
  refine t_part 102 (part_cells (T' := 64) (Rs := [HA.of (VP.eq us true true), R_fun d.funs, R_term d.terms, R_int d.of_, R_u64 d.hashes, rowsInt d.table, HA.of (VP.int .i64 d.most)]) 1 rfl) rfl rfl fun uf => ?_
  refine t_part 103 (part_cells (T' := 64) (Rs := [HA.of (VP.eq us true true), HA.of (VP.eq uf true true), R_term d.terms, R_int d.of_, R_u64 d.hashes, rowsInt d.table, HA.of (VP.int .i64 d.most)]) 2 rfl) rfl rfl fun ut => ?_
  refine t_part 104 (part_cells (T' := 64) (Rs := [HA.of (VP.eq us true true), HA.of (VP.eq uf true true), HA.of (VP.eq ut true true), R_int d.of_, R_u64 d.hashes, rowsInt d.table, HA.of (VP.int .i64 d.most)]) 3 rfl) rfl rfl fun uo => ?_
  refine t_part 105 (part_cells (T' := 64) (Rs := [HA.of (VP.eq us true true), HA.of (VP.eq uf true true), HA.of (VP.eq ut true true), HA.of (VP.eq uo true true), R_u64 d.hashes, rowsInt d.table, HA.of (VP.int .i64 d.most)]) 4 rfl) rfl rfl fun uh => ?_
  refine t_part 106 (part_cells (T' := 64) (Rs := [HA.of (VP.eq us true true), HA.of (VP.eq uf true true), HA.of (VP.eq ut true true), HA.of (VP.eq uo true true), HA.of (VP.eq uh true true), rowsInt d.table, HA.of (VP.int .i64 d.most)]) 5 rfl) rfl rfl fun ub => ?_
  refine t_rg [.own 106 (.val ub) (rowsInt d.table), .own 105 (.val uh) (R_u64 d.hashes), .own 104 (.val uo) (R_int d.of_), .own 103 (.val ut) (R_term d.terms), .own 102 (.val uf) (R_fun d.funs), .own 101 (.val us) (R_sort d.sorts), .is (.tmp 0) (VP.ptr v)] [(10, .own 0 (.val v) (ArO us uf ut uo uh ub d.most))] [(0, .is (.tmp 5) (VP.ptr v)), (1, .is (.tmp 6) (VP.ptr v)), (2, .is (.tmp 7) (VP.ptr v)), (3, .pt 8 (.blk (.val v) 5)), (4, .is (.tmp 9) (VP.eq ub true true)), (5, .is (.tmp 10) (VP.int .i64 ((d.table.length : Nat) : Int))), (6, .is (.tmp 11) (VP.int .i64 (2 * ((d.table.length : Nat) : Int)))), (8, .is (.tmp 13) (VP.ptr v)), (9, .pt 14 (.blk (.val v) 5)), (10, .own 0 (.val v) (HA.cells 64 [HA.of (VP.eq us true true), HA.of (VP.eq uf true true), HA.of (VP.eq ut true true), HA.of (VP.eq uo true true), HA.of (VP.eq uh true true), HA.row 28 1 (2 * d.table.length) ((List.replicate (2 * d.table.length) VP.nilS).map HA.of), HA.of (VP.int .i64 d.most)]))] [(7, 10, .own 107 (.tmp 12) (HA.row 28 1 (2 * d.table.length) ((List.replicate (2 * d.table.length) VP.nilS).map HA.of)))] [1, 2, 3, 4, 5, 6, 7] [0] DagJ_p34_0 DagJ_s34_0 rfl rfl follow rfl ⟨
    wp rfl (does_move _ (.inl rfl) rfl rfl rfl rfl (ar_tmp (av_fs 6 rfl))),
    wp rfl (does_move _ (.inl rfl) rfl rfl rfl rfl (ar_tmp (av_fs 6 rfl))),
    wp rfl (does_nil _ rfl rfl rfl rfl rfl (ar_tmp (av_rs 1 1 rfl rfl))),
    wp rfl (does_field _ _ _ 5 DagJ_f_dag_Arena_5 rfl rfl rfl rfl rfl rfl (pt_ptr (ar_tmp (av_rs 2 2 rfl rfl)))),
    wp rfl (does_loadOne _ DagJ_one_dag_table rfl rfl rfl rfl rfl (pt_pt (av_rs 3 3 rfl rfl)) (rds_box (off := 5) (av_os 0 10 rfl rfl) (hq_one rfl))),
    wp rfl (does_len _ _ (by kernel_rfl) rfl rfl rfl rfl rfl (sl_own (av_fs 0 rfl) (ar_tmp (av_rs 4 4 rfl rfl)))),
    wp rfl (does_mulInt (m := 2) (n := ((d.table.length : Nat) : Int)) _ _ _ _ rfl rfl rfl rfl rfl (by omega) (ar_const (fun _ _ => rfl)) (ar_tmp (av_rs 5 5 rfl rfl))),
    wp rfl (does_make (n := (2 * d.table.length)) (ps := List.replicate (2 * d.table.length) VP.nilS) DagJ_el_dag_table rfl _ _ rfl rfl rfl rfl rfl rfl (by simp) (zsn_of _) (by constructor <;> first | decide | omega) (ar_int_eq (by omega) (ar_tmp (av_rs 6 6 rfl rfl))) (ar_int_eq (by omega) (ar_tmp (av_rs 6 6 rfl rfl)))),
    wp rfl (does_nil _ rfl rfl rfl rfl rfl (ar_tmp (av_rs 0 0 rfl rfl))),
    wp rfl (does_field _ _ _ 5 DagJ_f_dag_Arena_5 rfl rfl rfl rfl rfl rfl (pt_ptr (ar_tmp (av_rs 7 8 rfl rfl)))),
    wp rfl (does_store (off := 5) (Qs := [HA.row 28 1 (2 * d.table.length) ((List.replicate (2 * d.table.length) VP.nilS).map HA.of)]) _ _ DagJ_size_dag_table rfl rfl rfl rfl rfl rfl (pt_pt (av_rs 8 9 rfl rfl)) (av_os 0 10 rfl rfl) (cv_one rfl (mv_own (av_ms 0 7 10 rfl rfl rfl)))),
    trivial⟩ ?_
  refine t_pick [0, 1, 2, 3, 4, 5, 6, 16] rfl ?_
  refine nx_then ?_
  refine t_pick [7, 0, 1, 2, 3, 4, 5, 6] rfl ?_
  refine t_weak (cells_weak (T := 64) (Rs := [HA.of (VP.eq us true true), HA.of (VP.eq uf true true), HA.of (VP.eq ut true true), HA.of (VP.eq uo true true), HA.of (VP.eq uh true true), HA.row 28 1 (2 * d.table.length) ((List.replicate (2 * d.table.length) VP.nilS).map HA.of), HA.of (VP.int .i64 d.most)]) (R' := rowsInt (growT d.hashes (2 * d.table.length) 0)) 5 rfl (nil_rows (g := rowInt) rfl)) rfl ?_
  refine t_pick [0, 2, 3, 4, 5, 6, 7] rfl ?_
  refine t_part 108 (part_cells (T' := 64) (Rs := [HA.of (VP.eq us true true), HA.of (VP.eq uf true true), HA.of (VP.eq ut true true), HA.of (VP.eq uo true true), HA.of (VP.eq uh true true), rowsInt (growT d.hashes (2 * d.table.length) 0), HA.of (VP.int .i64 d.most)]) 5 rfl) rfl rfl fun ub2 => ?_
  refine t_seq ?_
  refine t_rg [.own 0 (.val v) (ArO us uf ut uo uh ub2 d.most), .own 108 (.val ub2) (rowsInt (growT d.hashes (2 * d.table.length) 0)), .own 105 (.val uh) (R_u64 d.hashes), .own 104 (.val uo) (R_int d.of_), .own 103 (.val ut) (R_term d.terms), .own 102 (.val uf) (R_fun d.funs), .own 101 (.val us) (R_sort d.sorts), .is (.tmp 0) (VP.ptr v)] [] [(0, .is (.tmp 15) (VP.ptr v)), (1, .is (.tmp 16) (VP.ptr v)), (2, .pt 17 (.blk (.val v) 4)), (3, .is (.tmp 18) (VP.eq uh true true)), (4, .is (.tmp 19) (VP.int .i64 ((d.hashes.length : Nat) : Int))), (5, .is (.tmp 20) (VP.int .i64 0))] [] [0, 1, 2, 3, 4, 5, 6, 7] [] DagJ_p34_1 DagJ_s34_1 rfl rfl follow rfl ⟨
    wp rfl (does_move _ (.inl rfl) rfl rfl rfl rfl (ar_tmp (av_fs 7 rfl))),
    wp rfl (does_nil _ rfl rfl rfl rfl rfl (ar_tmp (av_rs 0 0 rfl rfl))),
    wp rfl (does_field _ _ _ 4 DagJ_f_dag_Arena_4 rfl rfl rfl rfl rfl rfl (pt_ptr (ar_tmp (av_rs 1 1 rfl rfl)))),
    wp rfl (does_loadOne _ DagJ_one___uint64 rfl rfl rfl rfl rfl (pt_pt (av_rs 2 2 rfl rfl)) (rds_box (off := 4) (av_fs 0 rfl) (hq_one rfl))),
    wp rfl (does_len _ _ (by kernel_rfl) rfl rfl rfl rfl rfl (sl_own (av_fs 2 rfl) (ar_tmp (av_rs 3 3 rfl rfl)))),
    wp rfl (does_move _ (.inl rfl) rfl rfl rfl rfl (ar_const (fun _ _ => rfl))),
    trivial⟩ ?_
  refine t_pick [0, 1, 2, 3, 4, 5, 6, 7, 11, 12, 13] rfl ?_
  refine nx_then ?_
  refine t_block ?_
  refine t_pick [10, 0, 1, 2, 3, 4, 5, 6, 7, 8, 9] rfl ?_
  refine t_slot (y := VP.int .i64 ((0 : Nat) : Int)) (fun _ _ _ h => h) ?_
  refine t_loop (τ := {k : Nat // k ≤ d.hashes.length}) (fun ⟨k, _⟩ => [.is (.tmp 0) (VP.ptr v), .is (.tmp 18) (VP.eq uh true true), .is (.tmp 19) (VP.int .i64 ((d.hashes.length : Nat) : Int)), .is (.tmp 20) (VP.int .i64 ((k : Nat) : Int)), .own 0 (.val v) (ArO us uf ut uo uh ub2 d.most), .own 101 (.val us) (R_sort d.sorts), .own 102 (.val uf) (R_fun d.funs), .own 103 (.val ut) (R_term d.terms), .own 104 (.val uo) (R_int d.of_), .own 105 (.val uh) (R_u64 d.hashes), .own 108 (.val ub2) (rowsInt (growT d.hashes (2 * d.table.length) k))]) (fun ⟨k, _⟩ => d.hashes.length - k) (⟨0, Nat.zero_le _⟩) [8, 9, 10, 0, 1, 7, 6, 5, 4, 3, 2] rfl ?_
  rintro ⟨k, hk⟩
  refine t_seq ?_
  refine t_rg [.is (.tmp 0) (VP.ptr v), .is (.tmp 18) (VP.eq uh true true), .is (.tmp 19) (VP.int .i64 ((d.hashes.length : Nat) : Int)), .is (.tmp 20) (VP.int .i64 ((k : Nat) : Int)), .own 0 (.val v) (ArO us uf ut uo uh ub2 d.most), .own 101 (.val us) (R_sort d.sorts), .own 102 (.val uf) (R_fun d.funs), .own 103 (.val ut) (R_term d.terms), .own 104 (.val uo) (R_int d.of_), .own 105 (.val uh) (R_u64 d.hashes), .own 108 (.val ub2) (rowsInt (growT d.hashes (2 * d.table.length) k))] [] [(0, .is (.tmp 21) (VP.bool (decide (((k : Nat) : Int) < ((d.hashes.length : Nat) : Int)))))] [] [0, 1, 2, 3, 4, 5, 6, 7, 8, 9, 10] [] [[]] [[]] rfl rfl follow rfl ⟨
    wp rfl (does_cmp (m := ((k : Nat) : Int)) (n := ((d.hashes.length : Nat) : Int)) _ _ _ _ _ rfl rfl rfl rfl rfl rfl .i64 (ar_tmp (av_fs 3 rfl)) (ar_tmp (av_fs 2 rfl))),
    trivial⟩ ?_
  refine nx_then ?_
  refine t_seq ?_
  refine t_split 11 rfl (fun hb1 => ?_) (fun hb1 => ?_)
  · have hc1 := of_decide_eq_true hb1
    obtain ⟨x, hx⟩ : ∃ x, d.hashes[k]? = some x := ⟨_, List.getElem?_eq_getElem (by omega)⟩
    refine t_skip ?_
    refine nx_then ?_
    refine t_seq ?_
    refine t_block ?_
    refine t_seq ?_
    refine t_rg [.is (.tmp 0) (VP.ptr v), .is (.tmp 18) (VP.eq uh true true), .is (.tmp 19) (VP.int .i64 ((d.hashes.length : Nat) : Int)), .is (.tmp 20) (VP.int .i64 ((k : Nat) : Int)), .own 0 (.val v) (ArO us uf ut uo uh ub2 d.most), .own 101 (.val us) (R_sort d.sorts), .own 102 (.val uf) (R_fun d.funs), .own 103 (.val ut) (R_term d.terms), .own 104 (.val uo) (R_int d.of_), .own 105 (.val uh) (R_u64 d.hashes), .own 108 (.val ub2) (rowsInt (growT d.hashes (2 * d.table.length) k)), .is (.tmp 21) (VP.bool (decide (((k : Nat) : Int) < ((d.hashes.length : Nat) : Int))))] [] [(0, .is (.tmp 22) (VP.int .i64 ((k : Nat) : Int))), (1, .pt 23 (.row (.val uh) (k * 1))), (2, .is (.tmp 24) (VP.int .u64 x)), (3, .is (.tmp 2) (VP.int .i64 ((k : Nat) : Int))), (4, .is (.tmp 3) (VP.int .u64 x))] [] [0, 1, 2, 3, 4, 5, 6, 7, 8, 9, 10, 11] [] DagJ_p34_3 DagJ_s34_3 rfl rfl follow rfl ⟨
      wp rfl (does_move _ (.inl rfl) rfl rfl rfl rfl (ar_tmp (av_fs 3 rfl))),
      wp rfl (does_index (m := k) _ _ Try.underlying62 DagJ_size_uint64 rfl rfl rfl rfl rfl _ (by omega) rfl (by omega) (sl_own (av_fs 9 rfl) (ar_tmp (av_fs 1 rfl))) (ar_tmp (av_fs 3 rfl))),
      wp rfl (does_loadOne _ DagJ_one_uint64 rfl rfl rfl rfl rfl (pt_pt (av_rs 1 1 rfl rfl)) (rds_row (av_fs 9 rfl) (hq_flat1 cU64_len hx 0 (by omega) rfl))),
      wp rfl (does_move _ (.inr rfl) rfl rfl rfl rfl (ar_tmp (av_rs 0 0 rfl rfl))),
      wp rfl (does_move _ (.inr rfl) rfl rfl rfl rfl (ar_tmp (av_rs 2 2 rfl rfl))),
      trivial⟩ ?_
    refine nx_then ?_
    refine t_seq ?_
    refine t_rg [.is (.tmp 0) (VP.ptr v), .is (.tmp 18) (VP.eq uh true true), .is (.tmp 19) (VP.int .i64 ((d.hashes.length : Nat) : Int)), .is (.tmp 20) (VP.int .i64 ((k : Nat) : Int)), .own 0 (.val v) (ArO us uf ut uo uh ub2 d.most), .own 101 (.val us) (R_sort d.sorts), .own 102 (.val uf) (R_fun d.funs), .own 103 (.val ut) (R_term d.terms), .own 104 (.val uo) (R_int d.of_), .own 105 (.val uh) (R_u64 d.hashes), .own 108 (.val ub2) (rowsInt (growT d.hashes (2 * d.table.length) k)), .is (.tmp 21) (VP.bool (decide (((k : Nat) : Int) < ((d.hashes.length : Nat) : Int)))), .is (.tmp 22) (VP.int .i64 ((k : Nat) : Int)), .pt 23 (.row (.val uh) (k * 1)), .is (.tmp 24) (VP.int .u64 x), .is (.tmp 2) (VP.int .i64 ((k : Nat) : Int)), .is (.tmp 3) (VP.int .u64 x)] [] [(0, .is (.tmp 25) (VP.ptr v)), (1, .is (.tmp 26) (VP.ptr v)), (2, .pt 27 (.blk (.val v) 5)), (3, .is (.tmp 28) (VP.eq ub2 true true)), (4, .is (.tmp 29) (VP.int .u64 x)), (5, .is (.tmp 30) (VP.int .i64 (x % (((growT d.hashes (2 * d.table.length) k).length : Nat) : Int)))), (6, .is (.tmp 4) (VP.int .i64 (x % (((growT d.hashes (2 * d.table.length) k).length : Nat) : Int))))] [] [0, 1, 2, 3, 4, 5, 6, 7, 8, 9, 10, 11, 12, 13, 14, 15, 16] [] DagJ_p34_4 DagJ_s34_4 rfl rfl follow rfl ⟨
      wp rfl (does_move _ (.inl rfl) rfl rfl rfl rfl (ar_tmp (av_fs 0 rfl))),
      wp rfl (does_nil _ rfl rfl rfl rfl rfl (ar_tmp (av_rs 0 0 rfl rfl))),
      wp rfl (does_field _ _ _ 5 DagJ_f_dag_Arena_5 rfl rfl rfl rfl rfl rfl (pt_ptr (ar_tmp (av_rs 1 1 rfl rfl)))),
      wp rfl (does_loadOne _ DagJ_one_dag_table rfl rfl rfl rfl rfl (pt_pt (av_rs 2 2 rfl rfl)) (rds_box (off := 5) (av_fs 4 rfl) (hq_one rfl))),
      wp rfl (does_move _ (.inl rfl) rfl rfl rfl rfl (ar_tmp (av_fs 16 rfl))),
      wp rfl (does_call (da_place (n := (growT d.hashes (2 * d.table.length) k).length) (j := (j + 1)) (by rw [growT_len, hT, Nat.pow_succ, Nat.mul_comm]) (by omega) x) (fun _ _ _ _ h => h) rfl DagJ_hb__collator_dag_table__place rfl rfl rfl rfl ar_clo (ars_cons (pa_vp (ar_sln (sit_own (av_fs 10 rfl)) (ar_tmp (av_rs 3 3 rfl rfl)))) (ars_cons (pa_vp (ar_tmp (av_rs 4 4 rfl rfl))) ars_nil)) trivial),
      wp rfl (does_move _ (.inr rfl) rfl rfl rfl rfl (ar_tmp (av_rs 5 5 rfl rfl))),
      trivial⟩ ?_
    refine nx_then ?_
    obtain ⟨m, hme, hmz, hml⟩ := mod_at (x := x) (n := (growT d.hashes (2 * d.table.length) k).length) (by rw [growT_len]; omega)
    have hbk := growT_bk (hs := d.hashes) (n := (2 * d.table.length)) m k
    refine t_pick [23, 0, 1, 2, 3, 4, 5, 6, 7, 8, 9, 10, 11, 12, 13, 14, 15, 16, 17, 18, 19, 20, 21, 22] rfl ?_
    refine t_slot (y := VP.int .i64 ((m : Nat) : Int)) (fun _ _ _ h => by rw [hmz] at h; exact h) ?_
    refine t_pick [11, 0, 1, 2, 3, 4, 5, 6, 7, 8, 9, 10, 12, 13, 14, 15, 16, 17, 18, 19, 20, 21, 22, 23] rfl ?_
    refine t_part 109 (part_row (E := 28) (sz := 1) (n := (growT d.hashes (2 * d.table.length) k).length) (Rs := (growT d.hashes (2 * d.table.length) k).map rowInt) m (hole_hm (at_getD (z := []) hml))) rfl rfl fun uk => ?_
    refine t_rg [.is (.tmp 4) (VP.int .i64 ((m : Nat) : Int)), .is (.tmp 0) (VP.ptr v), .is (.tmp 18) (VP.eq uh true true), .is (.tmp 19) (VP.int .i64 ((d.hashes.length : Nat) : Int)), .is (.tmp 20) (VP.int .i64 ((k : Nat) : Int)), .own 0 (.val v) (ArO us uf ut uo uh ub2 d.most), .own 101 (.val us) (R_sort d.sorts), .own 102 (.val uf) (R_fun d.funs), .own 103 (.val ut) (R_term d.terms), .own 104 (.val uo) (R_int d.of_), .own 105 (.val uh) (R_u64 d.hashes), .is (.tmp 21) (VP.bool (decide (((k : Nat) : Int) < ((d.hashes.length : Nat) : Int)))), .is (.tmp 22) (VP.int .i64 ((k : Nat) : Int)), .pt 23 (.row (.val uh) (k * 1)), .is (.tmp 24) (VP.int .u64 x), .is (.tmp 2) (VP.int .i64 ((k : Nat) : Int)), .is (.tmp 3) (VP.int .u64 x), .is (.tmp 25) (VP.ptr v), .is (.tmp 26) (VP.ptr v), .pt 27 (.blk (.val v) 5), .is (.tmp 28) (VP.eq ub2 true true), .is (.tmp 29) (VP.int .u64 x), .is (.tmp 30) (VP.int .i64 (x % (((growT d.hashes (2 * d.table.length) k).length : Nat) : Int)))] [(16, .own 108 (.val ub2) (HA.row 28 1 (growT d.hashes (2 * d.table.length) k).length (((growT d.hashes (2 * d.table.length) k).map rowInt).set m (HA.of (VP.eq uk true true))))), (14, .own 109 (.val uk) (R_int (((growT d.hashes (2 * d.table.length) k)[m]?).getD [])))] [(0, .is (.tmp 31) (VP.ptr v)), (1, .is (.tmp 32) (VP.ptr v)), (2, .pt 33 (.blk (.val v) 5)), (3, .is (.tmp 34) (VP.eq ub2 true true)), (4, .is (.tmp 35) (VP.int .i64 ((m : Nat) : Int))), (5, .is (.tmp 36) (VP.ptr v)), (6, .is (.tmp 37) (VP.ptr v)), (7, .pt 38 (.blk (.val v) 5)), (8, .is (.tmp 39) (VP.eq ub2 true true)), (9, .is (.tmp 40) (VP.int .i64 ((m : Nat) : Int))), (10, .pt 41 (.row (.val ub2) (m * 1))), (11, .is (.tmp 42) (VP.eq uk true true)), (12, .is (.tmp 43) (VP.int .i64 ((k : Nat) : Int))), (15, .pt 46 (.row (.val ub2) (m * 1))), (16, .own 108 (.val ub2) (rowsInt ((growT d.hashes (2 * d.table.length) k).set m ((((growT d.hashes (2 * d.table.length) k)[m]?).getD []) ++ [((k : Nat) : Int)]))))] [(13, 14, .own 110 (.tmp 44) (R_int ([((k : Nat) : Int)]))), (14, 16, .own 109 (.tmp 45) (R_int ((((growT d.hashes (2 * d.table.length) k)[m]?).getD []) ++ [((k : Nat) : Int)])))] [2, 3, 4, 5, 6, 7, 8, 9, 10, 11, 12, 13, 14, 15, 16, 17, 18, 19, 20, 21, 22, 23, 24] [0, 1] DagJ_p34_5 DagJ_s34_5 rfl rfl follow rfl ⟨
      wp rfl (does_move _ (.inl rfl) rfl rfl rfl rfl (ar_tmp (av_fs 1 rfl))),
      wp rfl (does_nil _ rfl rfl rfl rfl rfl (ar_tmp (av_rs 0 0 rfl rfl))),
      wp rfl (does_field _ _ _ 5 DagJ_f_dag_Arena_5 rfl rfl rfl rfl rfl rfl (pt_ptr (ar_tmp (av_rs 1 1 rfl rfl)))),
      wp rfl (does_loadOne _ DagJ_one_dag_table rfl rfl rfl rfl rfl (pt_pt (av_rs 2 2 rfl rfl)) (rds_box (off := 5) (av_fs 5 rfl) (hq_one rfl))),
      wp rfl (does_move _ (.inl rfl) rfl rfl rfl rfl (ar_tmp (av_fs 0 rfl))),
      wp rfl (does_move _ (.inl rfl) rfl rfl rfl rfl (ar_tmp (av_fs 1 rfl))),
      wp rfl (does_nil _ rfl rfl rfl rfl rfl (ar_tmp (av_rs 5 5 rfl rfl))),
      wp rfl (does_field _ _ _ 5 DagJ_f_dag_Arena_5 rfl rfl rfl rfl rfl rfl (pt_ptr (ar_tmp (av_rs 6 6 rfl rfl)))),
      wp rfl (does_loadOne _ DagJ_one_dag_table rfl rfl rfl rfl rfl (pt_pt (av_rs 7 7 rfl rfl)) (rds_box (off := 5) (av_fs 5 rfl) (hq_one rfl))),
      wp rfl (does_move _ (.inl rfl) rfl rfl rfl rfl (ar_tmp (av_fs 0 rfl))),
      wp rfl (does_index (m := m) _ _ Try.underlying60 DagJ_size___int rfl rfl rfl rfl rfl _ (by omega) rfl (by omega) (sl_own (av_os 0 16 rfl rfl) (ar_tmp (av_rs 8 8 rfl rfl))) (ar_tmp (av_rs 9 9 rfl rfl))),
      wp rfl (does_loadOne _ DagJ_one___int rfl rfl rfl rfl rfl (pt_pt (av_rs 10 10 rfl rfl)) (rds_row (av_os 0 16 rfl rfl) (hq_one (hole_get (by omega))))),
      wp rfl (does_move _ (.inl rfl) rfl rfl rfl rfl (ar_tmp (av_fs 15 rfl))),
      wp rfl (does_sliceLit (n := 1) DagJ_el_int rfl (List.replicate 1 (VP.int .i64 0)) (z1_of (fun _ _ => rfl) rfl 1) rfl rfl rfl rfl rfl rfl rfl (.cons 0 [HA.of (VP.int .i64 ((k : Nat) : Int))] none rfl rfl (cv_one rfl (mv_vp (ar_tmp (av_rs 12 12 rfl rfl)))) (.nil _))),
      wp rfl (does_append (n := (((growT d.hashes (2 * d.table.length) k)[m]?).getD []).length) (m := ([((k : Nat) : Int)]).length) DagJ_el_int rfl _ _ rfl rfl rfl rfl rfl (by simp only [List.length_append, List.length_nil, List.length_cons, Nat.zero_add]) (flat_cat (((growT d.hashes (2 * d.table.length) k)[m]?).getD []) ([((k : Nat) : Int)])) rfl (by have := hbk; constructor <;> first | decide | omega | (simp only [List.length_cons, List.length_nil] at *; omega)) (flat_lenH cInt_len _) (flat_allH (fun _ => rfl) cInt_one _) (flat_allH (fun _ => rfl) cInt_nu _) (mv_ownv (av_os 1 14 rfl rfl) (ar_tmp (av_rs 11 11 rfl rfl))) (src_row (av_ms 0 13 14 rfl rfl rfl))),
      wp rfl (does_index (m := m) _ _ Try.underlying60 DagJ_size___int rfl rfl rfl rfl rfl _ (by omega) rfl (by omega) (sl_own (av_os 0 16 rfl rfl) (ar_tmp (av_rs 3 3 rfl rfl))) (ar_tmp (av_rs 4 4 rfl rfl))),
      wp rfl (does_storeRow (off := m * 1) (n := (growT d.hashes (2 * d.table.length) k).length) (Rs := ((growT d.hashes (2 * d.table.length) k).map rowInt).set m (HA.of (VP.eq uk true true))) (Qs := [rowInt ((((growT d.hashes (2 * d.table.length) k)[m]?).getD []) ++ [((k : Nat) : Int)])]) _ _ DagJ_size___int rfl rfl rfl rfl (by rw [List.length_set]) (hole_put (by omega)) (by simp only [List.length_set, List.length_map, List.length_cons, List.length_nil]; omega) rfl (pt_pt (av_rs 13 15 rfl rfl)) (av_os 0 16 rfl rfl) (cv_one rfl (mv_own (av_ms 1 14 16 rfl rfl rfl)))),
      trivial⟩ ?_
    refine nx_block ?_
    refine nx_then ?_
    refine t_rg [.is (.tmp 4) (VP.int .i64 ((m : Nat) : Int)), .is (.tmp 0) (VP.ptr v), .is (.tmp 18) (VP.eq uh true true), .is (.tmp 19) (VP.int .i64 ((d.hashes.length : Nat) : Int)), .own 0 (.val v) (ArO us uf ut uo uh ub2 d.most), .own 101 (.val us) (R_sort d.sorts), .own 102 (.val uf) (R_fun d.funs), .own 103 (.val ut) (R_term d.terms), .own 104 (.val uo) (R_int d.of_), .own 105 (.val uh) (R_u64 d.hashes), .is (.tmp 21) (VP.bool (decide (((k : Nat) : Int) < ((d.hashes.length : Nat) : Int)))), .is (.tmp 22) (VP.int .i64 ((k : Nat) : Int)), .pt 23 (.row (.val uh) (k * 1)), .is (.tmp 24) (VP.int .u64 x), .is (.tmp 2) (VP.int .i64 ((k : Nat) : Int)), .is (.tmp 3) (VP.int .u64 x), .is (.tmp 25) (VP.ptr v), .is (.tmp 26) (VP.ptr v), .pt 27 (.blk (.val v) 5), .is (.tmp 28) (VP.eq ub2 true true), .is (.tmp 29) (VP.int .u64 x), .is (.tmp 30) (VP.int .i64 (x % (((growT d.hashes (2 * d.table.length) k).length : Nat) : Int))), .is (.tmp 31) (VP.ptr v), .is (.tmp 32) (VP.ptr v), .pt 33 (.blk (.val v) 5), .is (.tmp 34) (VP.eq ub2 true true), .is (.tmp 35) (VP.int .i64 ((m : Nat) : Int)), .is (.tmp 36) (VP.ptr v), .is (.tmp 37) (VP.ptr v), .pt 38 (.blk (.val v) 5), .is (.tmp 39) (VP.eq ub2 true true), .is (.tmp 40) (VP.int .i64 ((m : Nat) : Int)), .pt 41 (.row (.val ub2) (m * 1)), .is (.tmp 42) (VP.eq uk true true), .is (.tmp 43) (VP.int .i64 ((k : Nat) : Int)), .pt 46 (.row (.val ub2) (m * 1)), .own 108 (.val ub2) (rowsInt ((growT d.hashes (2 * d.table.length) k).set m ((((growT d.hashes (2 * d.table.length) k)[m]?).getD []) ++ [((k : Nat) : Int)])))] [(1, .is (.tmp 20) (VP.int .i64 ((k : Nat) : Int)))] [(0, .is (.tmp 47) (VP.int .i64 (((k + 1) : Nat) : Int))), (1, .is (.tmp 20) (VP.int .i64 (((k + 1) : Nat) : Int)))] [] [0, 1, 2, 3, 5, 6, 7, 8, 9, 10, 11, 12, 13, 14, 15, 16, 17, 18, 19, 20, 21, 22, 23, 24, 25, 26, 27, 28, 29, 30, 31, 32, 33, 34, 35, 36, 37] [4] [[], [0]] [[1], []] rfl rfl follow rfl ⟨
      wp rfl (does_addE (m := ((k : Nat) : Int)) (n := 1) (x := (((k + 1) : Nat) : Int)) (by omega) _ _ _ _ rfl rfl rfl rfl rfl (by omega) (ar_tmp (av_os 0 1 rfl rfl)) (ar_const (fun _ _ => rfl))),
      wp rfl (does_move _ (.inl rfl) rfl rfl rfl rfl (ar_tmp (av_rs 0 0 rfl rfl))),
      trivial⟩ ?_
    refine t_pick [36, 0, 1, 2, 3, 4, 5, 6, 7, 8, 9, 10, 11, 12, 13, 14, 15, 16, 17, 18, 19, 20, 21, 22, 23, 24, 25, 26, 27, 28, 29, 30, 31, 32, 33, 34, 35, 37, 38] rfl ?_
    refine t_weak (R' := rowsInt (growT d.hashes (2 * d.table.length) (k + 1))) (fun _ _ _ _ h => by rw [← growT_succ hx hme]; exact h) rfl ?_
    refine nx_round (τ := {k : Nat // k ≤ d.hashes.length}) (I := fun ⟨k, _⟩ => [.is (.tmp 0) (VP.ptr v), .is (.tmp 18) (VP.eq uh true true), .is (.tmp 19) (VP.int .i64 ((d.hashes.length : Nat) : Int)), .is (.tmp 20) (VP.int .i64 ((k : Nat) : Int)), .own 0 (.val v) (ArO us uf ut uo uh ub2 d.most), .own 101 (.val us) (R_sort d.sorts), .own 102 (.val uf) (R_fun d.funs), .own 103 (.val ut) (R_term d.terms), .own 104 (.val uo) (R_int d.of_), .own 105 (.val uh) (R_u64 d.hashes), .own 108 (.val ub2) (rowsInt (growT d.hashes (2 * d.table.length) k))]) (μ := fun ⟨k, _⟩ => d.hashes.length - k) (s := ⟨k, hk⟩) (⟨k + 1, by omega⟩) ?_ [2, 3, 4, 38, 5, 6, 7, 8, 9, 10, 0] ?_
    · exact (show d.hashes.length - (k + 1) < d.hashes.length - k by omega)
    · exact rfl
  · have hc1 := of_decide_eq_false hb1
    refine t_exit ?_
    refine ex_then ?_
    refine ex_then ?_
    refine ex_block ?_
    refine t_pick [4, 5, 6, 7, 8, 9, 10] rfl ?_
    refine t_whole (whole_cells (T' := 64) (Rs := [HA.of (VP.eq us true true), HA.of (VP.eq uf true true), HA.of (VP.eq ut true true), HA.of (VP.eq uo true true), HA.of (VP.eq uh true true), HA.of (VP.eq ub2 true true), HA.of (VP.int .i64 d.most)]) (j := 0) (show 0 < 7 by decide)) rfl rfl ?_
    refine t_whole (whole_cells (T' := 64) (Rs := [R_sort d.sorts, HA.of (VP.eq uf true true), HA.of (VP.eq ut true true), HA.of (VP.eq uo true true), HA.of (VP.eq uh true true), HA.of (VP.eq ub2 true true), HA.of (VP.int .i64 d.most)]) (j := 1) (show 1 < 7 by decide)) rfl rfl ?_
    refine t_whole (whole_cells (T' := 64) (Rs := [R_sort d.sorts, R_fun d.funs, HA.of (VP.eq ut true true), HA.of (VP.eq uo true true), HA.of (VP.eq uh true true), HA.of (VP.eq ub2 true true), HA.of (VP.int .i64 d.most)]) (j := 2) (show 2 < 7 by decide)) rfl rfl ?_
    refine t_whole (whole_cells (T' := 64) (Rs := [R_sort d.sorts, R_fun d.funs, R_term d.terms, HA.of (VP.eq uo true true), HA.of (VP.eq uh true true), HA.of (VP.eq ub2 true true), HA.of (VP.int .i64 d.most)]) (j := 3) (show 3 < 7 by decide)) rfl rfl ?_
    refine t_whole (whole_cells (T' := 64) (Rs := [R_sort d.sorts, R_fun d.funs, R_term d.terms, R_int d.of_, HA.of (VP.eq uh true true), HA.of (VP.eq ub2 true true), HA.of (VP.int .i64 d.most)]) (j := 4) (show 4 < 7 by decide)) rfl rfl ?_
    refine t_whole (whole_cells (T' := 64) (Rs := [R_sort d.sorts, R_fun d.funs, R_term d.terms, R_int d.of_, R_u64 d.hashes, HA.of (VP.eq ub2 true true), HA.of (VP.int .i64 d.most)]) (j := 5) (show 5 < 7 by decide)) rfl rfl ?_
    refine t_weak (R' := Arn d.grow) (fun _ _ _ _ h => by rw [show k = d.hashes.length by omega] at h; exact h) rfl ?_
    exact rt_post [] [] [0] [0] rfl trivial (by decide) rfl rfl

end O
end Go.Proofs.Ytapmngmpomhjmaa

/- A term is added. -/
namespace Go.Proofs.Ytapmngmpomhjmaa
open Go.RowKit
namespace O

def ArD.bk (d : ArD) (t : TermD) : Nat := (hashT t % (d.table.length : Int)).toNat
def ArD.bucket (d : ArD) (t : TermD) : List Int := (d.table[d.bk t]?).getD []
def ArD.find (d : ArD) (t : TermD) : Option Int := (d.bucket t).find? fun x => sameT (d.term_ x) t
/-- a term is laid -/
def ArD.lay (d : ArD) (t : TermD) : ArD := { d with of_ := d.of_ ++ [d.give t], terms := d.terms ++ [t], hashes := d.hashes ++ [hashT t] }
def ArD.put (d : ArD) (t : TermD) : ArD :=
  bif decide (((d.terms ++ [t]).length : Int) > (d.table.length : Int)) then (d.lay t).grow else { d.lay t with table := d.table.set (d.bk t) (d.bucket t ++ [((d.terms.length : Nat) : Int)]) }
def ArD.full (d : ArD) : Bool := decide (((d.terms.length : Nat) : Int) ≥ d.most)
def ArD.term (d : ArD) (t : TermD) : ArD := bif d.fits t != 0 then d else match d.find t with | some _ => d | none => bif d.full then d else d.put t
def ArD.termR (d : ArD) (t : TermD) : Int := bif d.fits t != 0 then 0 else match d.find t with | some x => x | none => bif d.full then 0 else ((d.terms.length : Nat) : Int)
def ArD.termE (d : ArD) (t : TermD) : Int := bif d.fits t != 0 then d.fits t else match d.find t with | some _ => 0 | none => bif d.full then 4 else 0
/-- an arena as it should be -/
structure ArD.Ok (d : ArD) : Prop where
  of_ : d.of_.length = d.terms.length
  ha : d.hashes.length = d.terms.length
  tab : ∃ j, d.table.length = 2 ^ j ∧ 2 ^ j ≤ 2 * d.terms.length + 16
  ent : ∀ b ∈ d.table, b.length ≤ d.terms.length ∧ ∀ x ∈ b, 0 ≤ x ∧ x < d.terms.length
  kids : d.kidsOk
  few : d.terms.length ≤ 100000
  most : d.most ≤ 100000
theorem term_nil {a b : Int} {s : ByteArray} : ∀ Z v w, (VP.agg [VP.int .i64 a, VP.int .i64 b, VP.nilS, VP.str s]).p Z v w → (VP.agg (cTerm ⟨a, b, [], s⟩)).p Z v w := fun Z v w ⟨cs, h1, h2⟩ => by
  match cs, h2 with
  | [c0, c1, c2, c3], ⟨e0, e1, e2, e3, _⟩ => exact ⟨[c0, c1, c2, c3], h1, e0, e1, ⟨none, 0, e2, Nat.le_refl _, by simp [maxLen], .inl rfl⟩, e3, trivial⟩
theorem pow_few {j n : Nat} (h : 2 ^ j ≤ n) (hn : n ≤ 1000000) : j ≤ 19 := by
  have : ¬ 20 ≤ j := fun h' => by
    have h2 : 2 ^ 20 ≤ 2 ^ j := Nat.pow_le_pow_right (by decide) h'
    have h3 : (2 : Nat) ^ 20 = 1048576 := by decide
    omega
  omega
theorem find_hit {d : ArD} {t : TermD} {k : Nat} {x : Int} (h : ∀ j y, j < k → (d.bucket t)[j]? = some y → sameT (d.term_ y) t = false) (hx : (d.bucket t)[k]? = some x) (he : sameT (d.term_ x) t = true) : d.find t = some x := by
  unfold ArD.find
  rw [List.find?_eq_some_iff_getElem]
  obtain ⟨hk, rfl⟩ := List.getElem?_eq_some_iff.1 hx
  exact ⟨he, k, hk, rfl, fun j hj => by rw [h j _ hj (List.getElem?_eq_getElem (by omega))]; rfl⟩
theorem find_miss {d : ArD} {t : TermD} {k : Nat} (h : ∀ j y, j < k → (d.bucket t)[j]? = some y → sameT (d.term_ y) t = false) (hk : (d.bucket t).length ≤ k) : d.find t = none := by
  unfold ArD.find
  rw [List.find?_eq_none]
  intro x hx
  obtain ⟨j, hj, rfl⟩ := List.mem_iff_getElem.1 hx
  rw [h j _ (by omega) (List.getElem?_eq_getElem hj)]; exact Bool.false_ne_true
section
variable {d : ArD} {t : TermD}
theorem term_bad (h : (d.fits t != 0) = true) : d.term t = d ∧ d.termR t = 0 ∧ d.termE t = d.fits t := by unfold ArD.term ArD.termR ArD.termE; rw [h]; exact ⟨rfl, rfl, rfl⟩
theorem term_hit {x : Int} (h : (d.fits t != 0) = false) (hf : d.find t = some x) : d.term t = d ∧ d.termR t = x ∧ d.termE t = 0 := by unfold ArD.term ArD.termR ArD.termE; rw [h, hf]; exact ⟨rfl, rfl, rfl⟩
theorem term_full (h : (d.fits t != 0) = false) (hf : d.find t = none) (hm : d.full = true) : d.term t = d ∧ d.termR t = 0 ∧ d.termE t = 4 := by unfold ArD.term ArD.termR ArD.termE; rw [h, hf, hm]; exact ⟨rfl, rfl, rfl⟩
theorem term_put (h : (d.fits t != 0) = false) (hf : d.find t = none) (hm : d.full = false) : d.term t = d.put t ∧ d.termR t = ((d.terms.length : Nat) : Int) ∧ d.termE t = 0 := by unfold ArD.term ArD.termR ArD.termE; rw [h, hf, hm]; exact ⟨rfl, rfl, rfl⟩
theorem fits_0 (h : (d.fits t != 0) = false) : d.bareE t = 0 ∧ d.unthere t.kids = false ∧ decide (((t.kids.length : Nat) : Int) < d.least t) = false ∧ decide (((t.kids.length : Nat) : Int) > d.great t) = false ∧ d.bad t t.kids.length = false ∧ ((t.op == 19) && decide (((d.free t t.kids.length : Nat) : Int) > 1)) = false := by
  have h := bne_eq_false_iff_eq.1 h
  unfold ArD.fits at h
  rcases Bool.eq_false_or_eq_true (d.bareE t != 0) with h1 | h1
  · rw [h1] at h
    exact absurd h (bne_iff_ne.1 h1)
  rw [h1] at h
  rcases Bool.eq_false_or_eq_true (d.unthere t.kids) with h2 | h2
  · rw [h2] at h; cases h
  rw [h2] at h
  rcases Bool.eq_false_or_eq_true (decide (((t.kids.length : Nat) : Int) < d.least t)) with h3 | h3
  · rw [h3] at h; cases h
  rw [h3] at h
  rcases Bool.eq_false_or_eq_true (decide (((t.kids.length : Nat) : Int) > d.great t)) with h4 | h4
  · rw [h4] at h; cases h
  rw [h4] at h
  rcases Bool.eq_false_or_eq_true (d.bad t t.kids.length) with h5 | h5
  · rw [h5] at h; cases h
  rw [h5] at h
  rcases Bool.eq_false_or_eq_true ((t.op == 19) && decide (((d.free t t.kids.length : Nat) : Int) > 1)) with h6 | h6
  · rw [h6] at h; cases h
  exact ⟨bne_eq_false_iff_eq.1 h1, h2, h3, h4, h5, h6⟩
end
theorem DagK_agg_api_Term : aggTy Try.prog 30 4 = true := by kernel_rfl
theorem DagK_hb___collator_dag_Arena__fits : hasBody Try.prog 30 = true := by kernel_rfl
theorem DagK_hb_collator_dag_Hash : hasBody Try.prog 18 = true := by kernel_rfl
theorem DagK_f_dag_Arena_5 : fieldAt Try.prog 64 5 5 = true := by kernel_rfl
theorem DagK_one_dag_table : oneTy Try.prog 60 = true := by kernel_rfl
theorem DagK_hb__collator_dag_table__place : hasBody Try.prog 31 = true := by kernel_rfl
theorem DagK_one___int : oneTy Try.prog 28 = true := by kernel_rfl
theorem DagK_size___int : ∀ w, (sizeOf 28).run Try.prog w = .ok 1 w := run_sizeOne DagK_one___int
abbrev DagK_p13_5 : Tab2 := [[], [0], [0, 1], [0, 1, 2], [], [4], [4, 5], [4, 5, 6], [], [4, 5, 6, 7, 8], [0, 1, 2, 3, 4, 5, 6, 7, 8, 9], [0, 1, 2, 3, 4, 5, 6, 7, 8, 9, 10], [0, 1, 2, 3, 4, 5, 6, 7, 8, 9, 10, 11], []]
abbrev DagK_s13_5 : Tab2 := [[1, 2, 3, 10, 11, 12], [2, 3, 10, 11, 12], [3, 10, 11, 12], [10, 11, 12], [5, 6, 7, 9, 10, 11, 12], [6, 7, 9, 10, 11, 12], [7, 9, 10, 11, 12], [9, 10, 11, 12], [9, 10, 11, 12], [10, 11, 12], [11, 12], [12], [], []]
theorem DagK_one_int : oneTy Try.prog 3 = true := by kernel_rfl
theorem DagK_size_int : ∀ w, (sizeOf 3).run Try.prog w = .ok 1 w := run_sizeOne DagK_one_int
theorem DagK_f_dag_Arena_2 : fieldAt Try.prog 64 2 2 = true := by kernel_rfl
theorem DagK_one___api_Term : oneTy Try.prog 61 = true := by kernel_rfl
theorem DagK_size_api_Term : ∀ w, (sizeOf 30).run Try.prog w = .ok 4 w := run_sizeAgg DagK_agg_api_Term
theorem DagK_hb_collator_dag_same : hasBody Try.prog 32 = true := by kernel_rfl
abbrev DagK_p13_8 : Tab2 := [[], [0], [0, 1], [0, 1, 2], [], [0, 1, 2, 3, 4], [0, 1, 2, 3, 4, 5], [], [0, 1, 2, 3, 4, 5, 6, 7]]
abbrev DagK_s13_8 : Tab2 := [[1, 2, 3, 5, 6, 8], [2, 3, 5, 6, 8], [3, 5, 6, 8], [5, 6, 8], [5, 6, 8], [6, 8], [8], [8], []]
abbrev DagK_p13_11 : Tab2 := [[], [0], [0, 1], [0, 1, 2], [0, 1, 2, 3], [0, 1, 2, 3, 4]]
abbrev DagK_s13_11 : Tab2 := [[1, 2, 3, 4, 5], [2, 3, 4, 5], [3, 4, 5], [4, 5], [5], []]
theorem DagK_f_dag_Arena_6 : fieldAt Try.prog 64 6 6 = true := by kernel_rfl
abbrev DagK_p13_12 : Tab2 := [[], [], [1], [1, 2], [1, 2, 3], [0, 1, 2, 3, 4]]
abbrev DagK_s13_12 : Tab2 := [[5], [2, 3, 4, 5], [3, 4, 5], [4, 5], [5], []]
theorem DagK_f_api_Term_2 : fieldAt Try.prog 30 2 2 = true := by kernel_rfl
theorem DagK_hb_slices_Clone___int_int_ : hasBody Try.prog 29 = true := by kernel_rfl
abbrev DagK_p13_14 : Tab2 := [[], [0], [0, 1], [0, 1, 2], [0, 1, 2, 3]]
abbrev DagK_s13_14 : Tab2 := [[1, 2, 3, 4], [2, 3, 4], [3, 4], [4], []]
theorem DagK_f_dag_Arena_3 : fieldAt Try.prog 64 3 3 = true := by kernel_rfl
theorem DagK_hb___collator_dag_Arena__gives : hasBody Try.prog 33 = true := by kernel_rfl
theorem DagK_el_int : Elem Try.prog 28 3 (.int .i64 0) 1 8 := Elem.mk Try.underlying28 (by kernel_rfl) rfl (by decide)
abbrev DagK_p13_15 : Tab2 := [[], [], [1], [1, 2], [1, 2, 3], [], [], [5, 6], [5, 6, 7], [1, 2, 3, 4, 5, 6, 7, 8], [0, 1, 2, 3, 4, 5, 6, 7, 8, 9], [0, 1, 2, 3, 4, 5, 6, 7, 8, 9, 10], [0, 1, 2, 3, 4, 5, 6, 7, 8, 9, 10, 11]]
abbrev DagK_s13_15 : Tab2 := [[10, 11, 12], [2, 3, 4, 9, 10, 11, 12], [3, 4, 9, 10, 11, 12], [4, 9, 10, 11, 12], [9, 10, 11, 12], [7, 8, 9, 10, 11, 12], [7, 8, 9, 10, 11, 12], [8, 9, 10, 11, 12], [9, 10, 11, 12], [10, 11, 12], [11, 12], [12], []]
theorem DagK_el_term : Elem Try.prog 61 30 (.agg #[.int .i64 0, .int .i64 0, .slice none 0 0, .string (ByteArray.mk #[])]) 4 56 := Elem.mk Try.underlying61 (by kernel_rfl) rfl (by decide)
theorem DagK_f_dag_Arena_4 : fieldAt Try.prog 64 4 4 = true := by kernel_rfl
theorem DagK_one___uint64 : oneTy Try.prog 62 = true := by kernel_rfl
theorem DagK_el_u64 : Elem Try.prog 62 49 (.int .u64 0) 1 8 := Elem.mk Try.underlying62 (by kernel_rfl) rfl (by decide)
theorem DagK_size___api_Term : ∀ w, (sizeOf 61).run Try.prog w = .ok 1 w := run_sizeOne DagK_one___api_Term
theorem DagK_size___uint64 : ∀ w, (sizeOf 62).run Try.prog w = .ok 1 w := run_sizeOne DagK_one___uint64
abbrev DagK_p13_16 : Tab2 := [[], [], [], [2], [2, 3], [2, 3, 4], [], [6], [2, 3, 4, 5, 6, 7], [], [9], [9, 10], [9, 10, 11], [], [13], [2, 3, 4, 5, 6, 7, 8, 9, 10, 11, 12, 13, 14], [0, 2, 3, 4, 5, 6, 7, 8, 9, 10, 11, 12, 13, 14, 15], [0, 2, 3, 4, 5, 6, 7, 8, 9, 10, 11, 12, 13, 14, 15, 16], [0, 2, 3, 4, 5, 6, 7, 8, 9, 10, 11, 12, 13, 14, 15, 16, 17], [0, 1, 2, 3, 4, 5, 6, 7, 8, 9, 10, 11, 12, 13, 14, 15, 16, 17, 18], [0, 1, 2, 3, 4, 5, 6, 7, 8, 9, 10, 11, 12, 13, 14, 15, 16, 17, 18, 19], [0, 1, 2, 3, 4, 5, 6, 7, 8, 9, 10, 11, 12, 13, 14, 15, 16, 17, 18, 19, 20]]
abbrev DagK_s13_16 : Tab2 := [[16, 17, 18, 19, 20, 21], [19, 20, 21], [3, 4, 5, 8, 15, 16, 17, 18, 19, 20, 21], [4, 5, 8, 15, 16, 17, 18, 19, 20, 21], [5, 8, 15, 16, 17, 18, 19, 20, 21], [8, 15, 16, 17, 18, 19, 20, 21], [7, 8, 15, 16, 17, 18, 19, 20, 21], [8, 15, 16, 17, 18, 19, 20, 21], [15, 16, 17, 18, 19, 20, 21], [10, 11, 12, 15, 16, 17, 18, 19, 20, 21], [11, 12, 15, 16, 17, 18, 19, 20, 21], [12, 15, 16, 17, 18, 19, 20, 21], [15, 16, 17, 18, 19, 20, 21], [14, 15, 16, 17, 18, 19, 20, 21], [15, 16, 17, 18, 19, 20, 21], [16, 17, 18, 19, 20, 21], [17, 18, 19, 20, 21], [18, 19, 20, 21], [19, 20, 21], [20, 21], [21], []]
abbrev DagK_p13_17 : Tab2 := [[], [0], [0, 1], [0, 1, 2], [0, 1, 2, 3], [], [5], [5, 6], [5, 6, 7], [5, 6, 7, 8], [0, 1, 2, 3, 4, 5, 6, 7, 8, 9]]
abbrev DagK_s13_17 : Tab2 := [[1, 2, 3, 4, 10], [2, 3, 4, 10], [3, 4, 10], [4, 10], [10], [6, 7, 8, 9, 10], [7, 8, 9, 10], [8, 9, 10], [9, 10], [10], []]
theorem DagK_hb___collator_dag_Arena__grow : hasBody Try.prog 34 = true := by kernel_rfl
abbrev DagK_p13_20 : Tab2 := [[], [0], [0, 1], [0, 1, 2], [], [0, 1, 2, 3, 4], [0, 1, 2, 3, 4, 5]]
abbrev DagK_s13_20 : Tab2 := [[1, 2, 3, 5, 6], [2, 3, 5, 6], [3, 5, 6], [5, 6], [5, 6], [6], []]
abbrev DagK_p13_21 : Tab2 := [[], [0], [0, 1], [0, 1, 2], [], [], [5], [5, 6], [5, 6, 7], [], [5, 6, 7, 8, 9], [5, 6, 7, 8, 9, 10], [], [12], [5, 6, 7, 8, 9, 10, 11, 12, 13], [0, 1, 2, 3, 4, 5, 6, 7, 8, 9, 10, 11, 12, 13, 14], [0, 1, 2, 3, 4, 5, 6, 7, 8, 9, 10, 11, 12, 13, 14, 15]]
abbrev DagK_s13_21 : Tab2 := [[1, 2, 3, 15, 16], [2, 3, 15, 16], [3, 15, 16], [15, 16], [15, 16], [6, 7, 8, 10, 11, 14, 15, 16], [7, 8, 10, 11, 14, 15, 16], [8, 10, 11, 14, 15, 16], [10, 11, 14, 15, 16], [10, 11, 14, 15, 16], [11, 14, 15, 16], [14, 15, 16], [13, 14, 15, 16], [14, 15, 16], [15, 16], [16], []]
set_option maxRecDepth 100000 in
set_option maxHeartbeats 4000000 in
theorem da_Term {v : Value} {d : ArD} (t : TermD) (hOk : d.Ok) (hl : t.kids.length ≤ 900000) (hz : t.num.size ≤ 1000000) : SpecO Try.prog 13 [.vp (VP.ptr v), .vp (VP.agg [VP.int .i64 t.op, VP.int .i64 t.fn, O_int t.kids, VP.str t.num])] [] [(v, Arn d)] [(v, Arn (d.term t))] (HA.of (VP.tup [VP.int .i64 (d.termR t), VP.int .i64 (d.termE t)])) := by
  obtain ⟨j, hT, hTb⟩ := hOk.tab
  have hof := hOk.of_
  have hah := hOk.ha
  have hkd := hOk.kids
  have hfw := hOk.few
  have hmo := hOk.most
  have hj := pow_few hTb (by omega)
  have hT1 : 1 ≤ d.table.length := by rw [hT]; exact Nat.one_le_two_pow
  refine spec_tup (ps := [VP.int .i64 (d.termR t), VP.int .i64 (d.termE t)]) ?_
  refine spec_of 132 Try.func13 rfl Try.ntmps13 rfl fun w0 S0 Z0 Bf => ?_
  refine t_seq ?_
  refine t_rg [.is (.tmp 0) (VP.ptr v), .is (.tmp 1) (VP.agg [VP.int .i64 t.op, VP.int .i64 t.fn, O_int t.kids, VP.str t.num]), .own 0 (.val v) (Arn d)] [] [(0, .own 101 (.tmp 3) (B_term t)), (1, .is (.tmp 4) (VP.int .i64 0)), (2, .is (.tmp 5) (VP.int .i64 0))] [] [0, 1, 2] [] [[], [], [1]] [[], [2], []] rfl rfl follow rfl ⟨
    wp rfl (does_box (Rs := [HA.of (VP.int .i64 t.op), HA.of (VP.int .i64 t.fn), HA.of (O_int t.kids), HA.of (VP.str t.num)]) _ rfl rfl rfl rfl rfl rfl (cv_agg (ps := [VP.int .i64 t.op, VP.int .i64 t.fn, O_int t.kids, VP.str t.num]) (ar_tmp (av_fs 1 rfl)))),
    wp rfl (does_move _ (.inr rfl) rfl rfl rfl rfl (ar_const (fun _ _ => rfl))),
    wp rfl (does_move _ (.inr rfl) rfl rfl rfl rfl (ar_const (fun _ _ => rfl))),
    trivial⟩ ?_
  refine t_pick [0, 2, 3, 4, 5] rfl ?_
  refine nx_then ?_
  refine t_pick [2, 0, 1, 3, 4] rfl ?_
  refine t_nameP rfl fun c3 => ?_
  refine t_seq ?_
  refine t_seq ?_
  refine t_rg [.own 101 (.val c3) (B_term t), .is (.tmp 3) (VP.ptr c3), .is (.tmp 0) (VP.ptr v), .own 0 (.val v) (Arn d), .is (.tmp 4) (VP.int .i64 0), .is (.tmp 5) (VP.int .i64 0)] [] [(0, .is (.tmp 12) (VP.ptr v)), (1, .is (.tmp 13) (VP.agg [VP.int .i64 t.op, VP.int .i64 t.fn, O_int t.kids, VP.str t.num])), (2, .is (.tmp 14) (VP.int .i64 (d.fits t))), (3, .is (.tmp 6) (VP.int .i64 (d.fits t)))] [] [0, 1, 2, 3, 4, 5] [] [[], [], [0, 1], [0, 1, 2]] [[2, 3], [2, 3], [3], []] rfl rfl follow rfl ⟨
    wp rfl (does_move _ (.inl rfl) rfl rfl rfl rfl (ar_tmp (av_fs 2 rfl))),
    wp rfl (does_loadAgg (ps := [VP.int .i64 t.op, VP.int .i64 t.fn, O_int t.kids, VP.str t.num]) _ DagK_agg_api_Term rfl rfl rfl rfl rfl (pt_ptr (ar_tmp (av_fs 1 rfl))) (rds_box (off := 0) (av_fs 0 rfl) (hq_many (n := 4) rfl))),
    wp rfl (does_call (da_fits (v := v) (d := d) t hkd hof (by omega)) (fun _ _ _ _ h => h) rfl DagK_hb___collator_dag_Arena__fits rfl rfl rfl rfl ar_clo (ars_cons (pa_vp (ar_tmp (av_rs 0 0 rfl rfl))) (ars_cons (pa_vp (ar_tmp (av_rs 1 1 rfl rfl))) ars_nil)) ⟨(brw_own (av_fs 3 rfl) rfl), trivial⟩),
    wp rfl (does_move _ (.inr rfl) rfl rfl rfl rfl (ar_tmp (av_rs 2 2 rfl rfl))),
    trivial⟩ ?_
  refine t_pick [0, 1, 2, 3, 4, 5, 9] rfl ?_
  refine nx_then ?_
  refine t_seq ?_
  refine t_rg [.own 101 (.val c3) (B_term t), .is (.tmp 3) (VP.ptr c3), .is (.tmp 0) (VP.ptr v), .own 0 (.val v) (Arn d), .is (.tmp 4) (VP.int .i64 0), .is (.tmp 5) (VP.int .i64 0), .is (.tmp 6) (VP.int .i64 (d.fits t))] [] [(0, .is (.tmp 15) (VP.int .i64 (d.fits t))), (1, .is (.tmp 16) (VP.bool ((d.fits t) != 0)))] [] [0, 1, 2, 3, 4, 5, 6] [] [[], [0]] [[1], []] rfl rfl follow rfl ⟨
    wp rfl (does_move _ (.inl rfl) rfl rfl rfl rfl (ar_tmp (av_fs 6 rfl))),
    wp rfl (does_cmp (m := (d.fits t)) (n := 0) _ _ _ _ _ rfl rfl rfl rfl rfl rfl .i64 (ar_tmp (av_rs 0 0 rfl rfl)) (ar_const (fun _ _ => rfl))),
    trivial⟩ ?_
  refine t_pick [0, 1, 2, 3, 4, 5, 6, 8] rfl ?_
  refine nx_then ?_
  refine t_split 7 rfl (fun hb1 => ?_) (fun hb1 => ?_)
  · have hc1 := (bne_iff_ne.1 hb1)
    refine t_seq ?_
    refine t_rg [.own 101 (.val c3) (B_term t), .is (.tmp 3) (VP.ptr c3), .is (.tmp 0) (VP.ptr v), .own 0 (.val v) (Arn d), .is (.tmp 6) (VP.int .i64 (d.fits t)), .is (.tmp 16) (VP.bool ((d.fits t) != 0))] [(1, .is (.tmp 4) (VP.int .i64 0)), (2, .is (.tmp 5) (VP.int .i64 0))] [(0, .is (.tmp 17) (VP.int .i64 (d.fits t))), (1, .is (.tmp 4) (VP.int .i64 0)), (2, .is (.tmp 5) (VP.int .i64 (d.fits t)))] [] [0, 1, 2, 3, 6, 7] [4, 5] [[], [], [0, 1]] [[2], [2], []] rfl rfl follow rfl ⟨
      wp rfl (does_move _ (.inl rfl) rfl rfl rfl rfl (ar_tmp (av_fs 4 rfl))),
      wp rfl (does_move _ (.inr rfl) rfl rfl rfl rfl (ar_const (fun _ _ => rfl))),
      wp rfl (does_move _ (.inr rfl) rfl rfl rfl rfl (ar_tmp (av_rs 0 0 rfl rfl))),
      trivial⟩ ?_
    refine t_pick [0, 1, 2, 3, 7, 8] rfl ?_
    refine nx_then ?_
    refine t_pick [3, 0, 1, 2, 4, 5] rfl ?_
    refine t_weak (R' := Arn (d.term t)) (fun _ _ _ _ h => by rw [(term_bad hb1).1]; exact h) rfl ?_
    refine t_ret ?_
    refine rt_then ?_
    exact rt_post [HA.of (VP.int .i64 (d.termR t)), HA.of (VP.int .i64 (d.termE t))] [[], []] [0] [0] rfl ⟨(rv_eq (congrArg HA.of (congrArg (VP.int .i64) (show 0 = (d.termR t) from (term_bad hb1).2.1.symm))) (rv_vp 4 rfl)), (rv_eq (congrArg HA.of (congrArg (VP.int .i64) (show (d.fits t) = (d.termE t) from (term_bad hb1).2.2.symm))) (rv_vp 5 rfl)), trivial⟩ (by decide) rfl rfl
  · have hc1 := (bne_eq_false_iff_eq.1 hb1)
    obtain ⟨hbe0, hun, hle, hgr, _, _⟩ := fits_0 hb1
    have hfn := bare_fn hbe0
    have hk0 := unthere_no hun
    have hk : ∀ k ∈ t.kids, 0 ≤ k ∧ k < d.of_.length := fun k h => by have := hk0 k h; omega
    have hcl2 := of_decide_eq_false hle
    have h10 : t.op = 10 → 2 ≤ t.kids.length := fun e => by rw [least_10 e] at hcl2; omega
    refine t_skip ?_
    refine nx_then ?_
    refine t_seq ?_
    refine t_rg [.own 101 (.val c3) (B_term t), .is (.tmp 3) (VP.ptr c3), .is (.tmp 0) (VP.ptr v), .own 0 (.val v) (Arn d), .is (.tmp 4) (VP.int .i64 0), .is (.tmp 5) (VP.int .i64 0), .is (.tmp 6) (VP.int .i64 (d.fits t)), .is (.tmp 16) (VP.bool ((d.fits t) != 0))] [] [(0, .is (.tmp 18) (VP.agg [VP.int .i64 t.op, VP.int .i64 t.fn, O_int t.kids, VP.str t.num])), (1, .is (.tmp 19) (VP.int .u64 (hashT t))), (2, .is (.tmp 7) (VP.int .u64 (hashT t)))] [] [0, 1, 2, 3, 4, 5, 6, 7] [] [[], [0], [0, 1]] [[1, 2], [2], []] rfl rfl follow rfl ⟨
      wp rfl (does_loadAgg (ps := [VP.int .i64 t.op, VP.int .i64 t.fn, O_int t.kids, VP.str t.num]) _ DagK_agg_api_Term rfl rfl rfl rfl rfl (pt_ptr (ar_tmp (av_fs 1 rfl))) (rds_box (off := 0) (av_fs 0 rfl) (hq_many (n := 4) rfl))),
      wp rfl (does_call (da_Hash t (by omega) (by omega)) (fun _ _ _ _ h => h) rfl DagK_hb_collator_dag_Hash rfl rfl rfl rfl ar_clo (ars_cons (pa_vp (ar_tmp (av_rs 0 0 rfl rfl))) ars_nil) trivial),
      wp rfl (does_move _ (.inr rfl) rfl rfl rfl rfl (ar_tmp (av_rs 1 1 rfl rfl))),
      trivial⟩ ?_
    refine t_pick [0, 1, 2, 3, 4, 5, 10] rfl ?_
    refine nx_then ?_
    refine t_seq ?_
    refine t_seq ?_
    refine t_pick [3, 0, 1, 2, 4, 5, 6] rfl ?_
    refine t_part 102 (part_cells (T' := 64) (Rs := [R_sort d.sorts, R_fun d.funs, R_term d.terms, R_int d.of_, R_u64 d.hashes, rowsInt d.table, HA.of (VP.int .i64 d.most)]) 0 rfl) rfl rfl fun us => ?_
    refine t_part 103 (part_cells (T' := 64) (Rs := [HA.of (VP.eq us true true), R_fun d.funs, R_term d.terms, R_int d.of_, R_u64 d.hashes, rowsInt d.table, HA.of (VP.int .i64 d.most)]) 1 rfl) rfl rfl fun uf => ?_
    refine t_part 104 (part_cells (T' := 64) (Rs := [HA.of (VP.eq us true true), HA.of (VP.eq uf true true), R_term d.terms, R_int d.of_, R_u64 d.hashes, rowsInt d.table, HA.of (VP.int .i64 d.most)]) 2 rfl) rfl rfl fun ut => ?_
    refine t_part 105 (part_cells (T' := 64) (Rs := [HA.of (VP.eq us true true), HA.of (VP.eq uf true true), HA.of (VP.eq ut true true), R_int d.of_, R_u64 d.hashes, rowsInt d.table, HA.of (VP.int .i64 d.most)]) 3 rfl) rfl rfl fun uo => ?_
    refine t_part 106 (part_cells (T' := 64) (Rs := [HA.of (VP.eq us true true), HA.of (VP.eq uf true true), HA.of (VP.eq ut true true), HA.of (VP.eq uo true true), R_u64 d.hashes, rowsInt d.table, HA.of (VP.int .i64 d.most)]) 4 rfl) rfl rfl fun uh => ?_
    refine t_part 107 (part_cells (T' := 64) (Rs := [HA.of (VP.eq us true true), HA.of (VP.eq uf true true), HA.of (VP.eq ut true true), HA.of (VP.eq uo true true), HA.of (VP.eq uh true true), rowsInt d.table, HA.of (VP.int .i64 d.most)]) 5 rfl) rfl rfl fun ub => ?_
    obtain ⟨m, hme, hmz, hml⟩ := mod_at (x := hashT t) (n := d.table.length) (by omega)
    have hbt : (d.table[m]?).getD [] = d.bucket t := by unfold ArD.bucket ArD.bk; rw [hme]
    have hma : d.table[m]? = some (d.bucket t) := by rw [← hbt]; exact at_getD hml
    have hbe := hOk.ent _ (List.mem_of_getElem? hma)
    refine t_pick [1, 0, 2, 3, 4, 5, 6, 7, 8, 9, 10, 11, 12] rfl ?_
    refine t_part 108 (part_row (E := 28) (sz := 1) (n := d.table.length) (Rs := d.table.map rowInt) m (hole_hm hma)) rfl rfl fun uk => ?_
    refine t_rg [.own 107 (.val ub) (HA.row 28 1 d.table.length ((d.table.map rowInt).set m (HA.of (VP.eq uk true true)))), .own 108 (.val uk) (R_int (d.bucket t)), .own 0 (.val v) (ArO us uf ut uo uh ub d.most), .own 106 (.val uh) (R_u64 d.hashes), .own 105 (.val uo) (R_int d.of_), .own 104 (.val ut) (R_term d.terms), .own 103 (.val uf) (R_fun d.funs), .own 102 (.val us) (R_sort d.sorts), .own 101 (.val c3) (B_term t), .is (.tmp 3) (VP.ptr c3), .is (.tmp 0) (VP.ptr v), .is (.tmp 4) (VP.int .i64 0), .is (.tmp 5) (VP.int .i64 0), .is (.tmp 7) (VP.int .u64 (hashT t))] [] [(0, .is (.tmp 20) (VP.ptr v)), (1, .is (.tmp 21) (VP.ptr v)), (2, .pt 22 (.blk (.val v) 5)), (3, .is (.tmp 23) (VP.eq ub true true)), (4, .is (.tmp 24) (VP.ptr v)), (5, .is (.tmp 25) (VP.ptr v)), (6, .pt 26 (.blk (.val v) 5)), (7, .is (.tmp 27) (VP.eq ub true true)), (8, .is (.tmp 28) (VP.int .u64 (hashT t))), (9, .is (.tmp 29) (VP.int .i64 ((hashT t) % ((d.table.length : Nat) : Int)))), (10, .pt 30 (.row (.val ub) (m * 1))), (11, .is (.tmp 31) (VP.eq uk true true)), (12, .is (.tmp 32) (VP.int .i64 (((d.bucket t).length : Nat) : Int))), (13, .is (.tmp 33) (VP.int .i64 0))] [] [0, 1, 2, 3, 4, 5, 6, 7, 8, 9, 10, 11, 12, 13] [] DagK_p13_5 DagK_s13_5 rfl rfl follow rfl ⟨
      wp rfl (does_move _ (.inl rfl) rfl rfl rfl rfl (ar_tmp (av_fs 10 rfl))),
      wp rfl (does_nil _ rfl rfl rfl rfl rfl (ar_tmp (av_rs 0 0 rfl rfl))),
      wp rfl (does_field _ _ _ 5 DagK_f_dag_Arena_5 rfl rfl rfl rfl rfl rfl (pt_ptr (ar_tmp (av_rs 1 1 rfl rfl)))),
      wp rfl (does_loadOne _ DagK_one_dag_table rfl rfl rfl rfl rfl (pt_pt (av_rs 2 2 rfl rfl)) (rds_box (off := 5) (av_fs 2 rfl) (hq_one rfl))),
      wp rfl (does_move _ (.inl rfl) rfl rfl rfl rfl (ar_tmp (av_fs 10 rfl))),
      wp rfl (does_nil _ rfl rfl rfl rfl rfl (ar_tmp (av_rs 4 4 rfl rfl))),
      wp rfl (does_field _ _ _ 5 DagK_f_dag_Arena_5 rfl rfl rfl rfl rfl rfl (pt_ptr (ar_tmp (av_rs 5 5 rfl rfl)))),
      wp rfl (does_loadOne _ DagK_one_dag_table rfl rfl rfl rfl rfl (pt_pt (av_rs 6 6 rfl rfl)) (rds_box (off := 5) (av_fs 2 rfl) (hq_one rfl))),
      wp rfl (does_move _ (.inl rfl) rfl rfl rfl rfl (ar_tmp (av_fs 13 rfl))),
      wp rfl (does_call (da_place (n := d.table.length) (j := j) hT (by omega) (hashT t)) (fun _ _ _ _ h => h) rfl DagK_hb__collator_dag_table__place rfl rfl rfl rfl ar_clo (ars_cons (pa_vp (ar_sln (sit_own (av_fs 0 rfl)) (ar_tmp (av_rs 7 7 rfl rfl)))) (ars_cons (pa_vp (ar_tmp (av_rs 8 8 rfl rfl))) ars_nil)) trivial),
      wp rfl (does_index (m := m) _ _ Try.underlying60 DagK_size___int rfl rfl rfl rfl rfl _ (by omega) rfl (by omega) (sl_own (av_fs 0 rfl) (ar_tmp (av_rs 3 3 rfl rfl))) (ar_int_eq (by omega) (ar_tmp (av_rs 9 9 rfl rfl)))),
      wp rfl (does_loadOne _ DagK_one___int rfl rfl rfl rfl rfl (pt_pt (av_rs 10 10 rfl rfl)) (rds_row (av_fs 0 rfl) (hq_one (hole_get (by omega))))),
      wp rfl (does_len _ _ (by kernel_rfl) rfl rfl rfl rfl rfl (sl_own (av_fs 1 rfl) (ar_tmp (av_rs 11 11 rfl rfl)))),
      wp rfl (does_move _ (.inl rfl) rfl rfl rfl rfl (ar_const (fun _ _ => rfl))),
      trivial⟩ ?_
    refine t_pick [0, 1, 2, 3, 4, 5, 6, 7, 8, 9, 10, 11, 12, 13, 25, 26, 27] rfl ?_
    refine nx_then ?_
    refine t_block ?_
    refine t_pick [16, 0, 1, 2, 3, 4, 5, 6, 7, 8, 9, 10, 11, 12, 13, 14, 15] rfl ?_
    refine t_slot (y := VP.int .i64 ((0 : Nat) : Int)) (fun _ _ _ h => h) ?_
    refine t_loop (τ := {k : Nat // k ≤ (d.bucket t).length ∧ ∀ j y, j < k → (d.bucket t)[j]? = some y → sameT (d.term_ y) t = false}) (fun ⟨k, _⟩ => [.is (.tmp 0) (VP.ptr v), .is (.tmp 3) (VP.ptr c3), .is (.tmp 7) (VP.int .u64 (hashT t)), .is (.tmp 31) (VP.eq uk true true), .is (.tmp 32) (VP.int .i64 (((d.bucket t).length : Nat) : Int)), .is (.tmp 33) (VP.int .i64 ((k : Nat) : Int)), .own 0 (.val v) (ArO us uf ut uo uh ub d.most), .own 101 (.val c3) (B_term t), .own 102 (.val us) (R_sort d.sorts), .own 103 (.val uf) (R_fun d.funs), .own 104 (.val ut) (R_term d.terms), .own 105 (.val uo) (R_int d.of_), .own 106 (.val uh) (R_u64 d.hashes), .own 107 (.val ub) (HA.row 28 1 d.table.length ((d.table.map rowInt).set m (HA.of (VP.eq uk true true)))), .own 108 (.val uk) (R_int (d.bucket t))]) (fun ⟨k, _⟩ => (d.bucket t).length - k) (⟨0, Nat.zero_le _, fun j y hj => by omega⟩) [11, 10, 14, 15, 16, 0, 3, 9, 8, 7, 6, 5, 4, 1, 2] rfl ?_
    rintro ⟨k, hkl, hno⟩
    refine t_seq ?_
    refine t_rg [.is (.tmp 0) (VP.ptr v), .is (.tmp 3) (VP.ptr c3), .is (.tmp 7) (VP.int .u64 (hashT t)), .is (.tmp 31) (VP.eq uk true true), .is (.tmp 32) (VP.int .i64 (((d.bucket t).length : Nat) : Int)), .is (.tmp 33) (VP.int .i64 ((k : Nat) : Int)), .own 0 (.val v) (ArO us uf ut uo uh ub d.most), .own 101 (.val c3) (B_term t), .own 102 (.val us) (R_sort d.sorts), .own 103 (.val uf) (R_fun d.funs), .own 104 (.val ut) (R_term d.terms), .own 105 (.val uo) (R_int d.of_), .own 106 (.val uh) (R_u64 d.hashes), .own 107 (.val ub) (HA.row 28 1 d.table.length ((d.table.map rowInt).set m (HA.of (VP.eq uk true true)))), .own 108 (.val uk) (R_int (d.bucket t))] [] [(0, .is (.tmp 34) (VP.bool (decide (((k : Nat) : Int) < (((d.bucket t).length : Nat) : Int)))))] [] [0, 1, 2, 3, 4, 5, 6, 7, 8, 9, 10, 11, 12, 13, 14] [] [[]] [[]] rfl rfl follow rfl ⟨
      wp rfl (does_cmp (m := ((k : Nat) : Int)) (n := (((d.bucket t).length : Nat) : Int)) _ _ _ _ _ rfl rfl rfl rfl rfl rfl .i64 (ar_tmp (av_fs 5 rfl)) (ar_tmp (av_fs 4 rfl))),
      trivial⟩ ?_
    refine nx_then ?_
    refine t_seq ?_
    refine t_split 15 rfl (fun hb2 => ?_) (fun hb2 => ?_)
    · have hc2 := of_decide_eq_true hb2
      obtain ⟨x, hx⟩ : ∃ x, (d.bucket t)[k]? = some x := ⟨_, List.getElem?_eq_getElem (by omega)⟩
      have hxe := hbe.2 x (List.mem_of_getElem? hx)
      have hth : d.there x = true := decide_eq_true hxe
      refine t_skip ?_
      refine nx_then ?_
      refine t_seq ?_
      refine t_block ?_
      refine t_seq ?_
      refine t_rg [.is (.tmp 0) (VP.ptr v), .is (.tmp 3) (VP.ptr c3), .is (.tmp 7) (VP.int .u64 (hashT t)), .is (.tmp 31) (VP.eq uk true true), .is (.tmp 32) (VP.int .i64 (((d.bucket t).length : Nat) : Int)), .is (.tmp 33) (VP.int .i64 ((k : Nat) : Int)), .own 0 (.val v) (ArO us uf ut uo uh ub d.most), .own 101 (.val c3) (B_term t), .own 102 (.val us) (R_sort d.sorts), .own 103 (.val uf) (R_fun d.funs), .own 104 (.val ut) (R_term d.terms), .own 105 (.val uo) (R_int d.of_), .own 106 (.val uh) (R_u64 d.hashes), .own 107 (.val ub) (HA.row 28 1 d.table.length ((d.table.map rowInt).set m (HA.of (VP.eq uk true true)))), .own 108 (.val uk) (R_int (d.bucket t)), .is (.tmp 34) (VP.bool (decide (((k : Nat) : Int) < (((d.bucket t).length : Nat) : Int))))] [] [(0, .pt 35 (.row (.val uk) (k * 1))), (1, .is (.tmp 36) (VP.int .i64 x)), (2, .is (.tmp 9) (VP.int .i64 x))] [] [0, 1, 2, 3, 4, 5, 6, 7, 8, 9, 10, 11, 12, 13, 14, 15] [] [[], [0], [0, 1]] [[1, 2], [2], []] rfl rfl follow rfl ⟨
        wp rfl (does_index (m := k) _ _ Try.underlying28 DagK_size_int rfl rfl rfl rfl rfl _ (by omega) rfl (by omega) (sl_own (av_fs 14 rfl) (ar_tmp (av_fs 3 rfl))) (ar_tmp (av_fs 5 rfl))),
        wp rfl (does_loadOne _ DagK_one_int rfl rfl rfl rfl rfl (pt_pt (av_rs 0 0 rfl rfl)) (rds_row (av_fs 14 rfl) (hq_flat1 cInt_len hx 0 (by omega) rfl))),
        wp rfl (does_move _ (.inr rfl) rfl rfl rfl rfl (ar_tmp (av_rs 1 1 rfl rfl))),
        trivial⟩ ?_
      refine nx_then ?_
      refine t_seq ?_
      refine t_rg [.is (.tmp 0) (VP.ptr v), .is (.tmp 3) (VP.ptr c3), .is (.tmp 7) (VP.int .u64 (hashT t)), .is (.tmp 31) (VP.eq uk true true), .is (.tmp 32) (VP.int .i64 (((d.bucket t).length : Nat) : Int)), .is (.tmp 33) (VP.int .i64 ((k : Nat) : Int)), .own 0 (.val v) (ArO us uf ut uo uh ub d.most), .own 101 (.val c3) (B_term t), .own 102 (.val us) (R_sort d.sorts), .own 103 (.val uf) (R_fun d.funs), .own 104 (.val ut) (R_term d.terms), .own 105 (.val uo) (R_int d.of_), .own 106 (.val uh) (R_u64 d.hashes), .own 107 (.val ub) (HA.row 28 1 d.table.length ((d.table.map rowInt).set m (HA.of (VP.eq uk true true)))), .own 108 (.val uk) (R_int (d.bucket t)), .is (.tmp 34) (VP.bool (decide (((k : Nat) : Int) < (((d.bucket t).length : Nat) : Int)))), .pt 35 (.row (.val uk) (k * 1)), .is (.tmp 36) (VP.int .i64 x), .is (.tmp 9) (VP.int .i64 x)] [] [(0, .is (.tmp 37) (VP.ptr v)), (1, .is (.tmp 38) (VP.ptr v)), (2, .pt 39 (.blk (.val v) 2)), (3, .is (.tmp 40) (VP.eq ut true true)), (4, .is (.tmp 41) (VP.int .i64 x)), (5, .pt 42 (.row (.val ut) (x.toNat * 4))), (6, .is (.tmp 43) (VP.agg [VP.int .i64 ((d.term_ x).op), VP.int .i64 ((d.term_ x).fn), O_int ((d.term_ x).kids), VP.str ((d.term_ x).num)])), (7, .is (.tmp 44) (VP.agg [VP.int .i64 t.op, VP.int .i64 t.fn, O_int t.kids, VP.str t.num])), (8, .is (.tmp 45) (VP.bool (sameT (d.term_ x) t)))] [] [0, 1, 2, 3, 4, 5, 6, 7, 8, 9, 10, 11, 12, 13, 14, 15, 16, 17, 18] [] DagK_p13_8 DagK_s13_8 rfl rfl follow rfl ⟨
        wp rfl (does_move _ (.inl rfl) rfl rfl rfl rfl (ar_tmp (av_fs 0 rfl))),
        wp rfl (does_nil _ rfl rfl rfl rfl rfl (ar_tmp (av_rs 0 0 rfl rfl))),
        wp rfl (does_field _ _ _ 2 DagK_f_dag_Arena_2 rfl rfl rfl rfl rfl rfl (pt_ptr (ar_tmp (av_rs 1 1 rfl rfl)))),
        wp rfl (does_loadOne _ DagK_one___api_Term rfl rfl rfl rfl rfl (pt_pt (av_rs 2 2 rfl rfl)) (rds_box (off := 2) (av_fs 6 rfl) (hq_one rfl))),
        wp rfl (does_move _ (.inl rfl) rfl rfl rfl rfl (ar_tmp (av_fs 18 rfl))),
        wp rfl (does_index (m := x.toNat) _ _ Try.underlying61 DagK_size_api_Term rfl rfl rfl rfl rfl _ (by omega) rfl (by omega) (sl_own (av_fs 10 rfl) (ar_tmp (av_rs 3 3 rfl rfl))) (ar_int_eq (by omega) (ar_tmp (av_rs 4 4 rfl rfl)))),
        wp rfl (does_loadAgg (ps := [VP.int .i64 ((d.term_ x).op), VP.int .i64 ((d.term_ x).fn), O_int ((d.term_ x).kids), VP.str ((d.term_ x).num)]) _ DagK_agg_api_Term rfl rfl rfl rfl rfl (pt_pt (av_rs 5 5 rfl rfl)) (rds_row (av_fs 10 rfl) (hq_flat cTerm_len (term_at hth) (by omega) rfl))),
        wp rfl (does_loadAgg (ps := [VP.int .i64 t.op, VP.int .i64 t.fn, O_int t.kids, VP.str t.num]) _ DagK_agg_api_Term rfl rfl rfl rfl rfl (pt_ptr (ar_tmp (av_fs 1 rfl))) (rds_box (off := 0) (av_fs 7 rfl) (hq_many (n := 4) rfl))),
        wp rfl (does_call (dg_same (d.term_ x) t) (fun _ _ _ _ h => h) rfl DagK_hb_collator_dag_same rfl rfl rfl rfl ar_clo (ars_cons (pa_vp (ar_tmp (av_rs 6 6 rfl rfl))) (ars_cons (pa_vp (ar_tmp (av_rs 7 7 rfl rfl))) ars_nil)) trivial),
        trivial⟩ ?_
      refine nx_then ?_
      refine t_split 27 rfl (fun hb3 => ?_) (fun hb3 => ?_)
      · refine t_seq ?_
        refine t_rg [.is (.tmp 0) (VP.ptr v), .is (.tmp 3) (VP.ptr c3), .is (.tmp 7) (VP.int .u64 (hashT t)), .is (.tmp 31) (VP.eq uk true true), .is (.tmp 32) (VP.int .i64 (((d.bucket t).length : Nat) : Int)), .is (.tmp 33) (VP.int .i64 ((k : Nat) : Int)), .own 0 (.val v) (ArO us uf ut uo uh ub d.most), .own 101 (.val c3) (B_term t), .own 102 (.val us) (R_sort d.sorts), .own 103 (.val uf) (R_fun d.funs), .own 104 (.val ut) (R_term d.terms), .own 105 (.val uo) (R_int d.of_), .own 106 (.val uh) (R_u64 d.hashes), .own 107 (.val ub) (HA.row 28 1 d.table.length ((d.table.map rowInt).set m (HA.of (VP.eq uk true true)))), .own 108 (.val uk) (R_int (d.bucket t)), .is (.tmp 34) (VP.bool (decide (((k : Nat) : Int) < (((d.bucket t).length : Nat) : Int)))), .pt 35 (.row (.val uk) (k * 1)), .is (.tmp 36) (VP.int .i64 x), .is (.tmp 9) (VP.int .i64 x), .is (.tmp 37) (VP.ptr v), .is (.tmp 38) (VP.ptr v), .pt 39 (.blk (.val v) 2), .is (.tmp 40) (VP.eq ut true true), .is (.tmp 41) (VP.int .i64 x), .pt 42 (.row (.val ut) (x.toNat * 4)), .is (.tmp 43) (VP.agg [VP.int .i64 ((d.term_ x).op), VP.int .i64 ((d.term_ x).fn), O_int ((d.term_ x).kids), VP.str ((d.term_ x).num)]), .is (.tmp 44) (VP.agg [VP.int .i64 t.op, VP.int .i64 t.fn, O_int t.kids, VP.str t.num]), .is (.tmp 45) (VP.bool (sameT (d.term_ x) t))] [] [(0, .is (.tmp 46) (VP.int .i64 x)), (1, .is (.tmp 4) (VP.int .i64 x)), (2, .is (.tmp 5) (VP.int .i64 0))] [] [0, 1, 2, 3, 4, 5, 6, 7, 8, 9, 10, 11, 12, 13, 14, 15, 16, 17, 18, 19, 20, 21, 22, 23, 24, 25, 26, 27] [] [[], [0], [0, 1]] [[1, 2], [2], []] rfl rfl follow rfl ⟨
          wp rfl (does_move _ (.inl rfl) rfl rfl rfl rfl (ar_tmp (av_fs 18 rfl))),
          wp rfl (does_move _ (.inr rfl) rfl rfl rfl rfl (ar_tmp (av_rs 0 0 rfl rfl))),
          wp rfl (does_move _ (.inr rfl) rfl rfl rfl rfl (ar_const (fun _ _ => rfl))),
          trivial⟩ ?_
        refine nx_then ?_
        refine t_pick [13, 14, 0, 1, 2, 3, 4, 5, 6, 7, 8, 9, 10, 11, 12, 15, 16, 17, 18, 19, 20, 21, 22, 23, 24, 25, 26, 27, 28, 29, 30] rfl ?_
        refine t_whole (whole_row (E := 28) (sz := 1) (n := d.table.length) (Rs := d.table.map rowInt) (j := m) (P := rowInt (d.bucket t)) (by rw [List.length_map]; omega)) rfl rfl ?_
        refine t_weak (R' := rowsInt d.table) (fun _ _ _ _ h => by rw [hole_back hma] at h; exact h) rfl ?_
        refine t_pick [7, 9, 0, 1, 2, 3, 4, 5, 6, 8, 10, 11, 12, 13, 14, 15, 16, 17, 18, 19, 20, 21, 22, 23, 24, 25, 26, 27, 28, 29] rfl ?_
        refine t_whole (whole_cells (T' := 64) (Rs := [HA.of (VP.eq us true true), HA.of (VP.eq uf true true), HA.of (VP.eq ut true true), HA.of (VP.eq uo true true), HA.of (VP.eq uh true true), HA.of (VP.eq ub true true), HA.of (VP.int .i64 d.most)]) (j := 0) (show 0 < 7 by decide)) rfl rfl ?_
        refine t_pick [0, 9, 1, 2, 3, 4, 5, 6, 7, 8, 10, 11, 12, 13, 14, 15, 16, 17, 18, 19, 20, 21, 22, 23, 24, 25, 26, 27, 28] rfl ?_
        refine t_whole (whole_cells (T' := 64) (Rs := [R_sort d.sorts, HA.of (VP.eq uf true true), HA.of (VP.eq ut true true), HA.of (VP.eq uo true true), HA.of (VP.eq uh true true), HA.of (VP.eq ub true true), HA.of (VP.int .i64 d.most)]) (j := 1) (show 1 < 7 by decide)) rfl rfl ?_
        refine t_pick [0, 9, 1, 2, 3, 4, 5, 6, 7, 8, 10, 11, 12, 13, 14, 15, 16, 17, 18, 19, 20, 21, 22, 23, 24, 25, 26, 27] rfl ?_
        refine t_whole (whole_cells (T' := 64) (Rs := [R_sort d.sorts, R_fun d.funs, HA.of (VP.eq ut true true), HA.of (VP.eq uo true true), HA.of (VP.eq uh true true), HA.of (VP.eq ub true true), HA.of (VP.int .i64 d.most)]) (j := 2) (show 2 < 7 by decide)) rfl rfl ?_
        refine t_pick [0, 9, 1, 2, 3, 4, 5, 6, 7, 8, 10, 11, 12, 13, 14, 15, 16, 17, 18, 19, 20, 21, 22, 23, 24, 25, 26] rfl ?_
        refine t_whole (whole_cells (T' := 64) (Rs := [R_sort d.sorts, R_fun d.funs, R_term d.terms, HA.of (VP.eq uo true true), HA.of (VP.eq uh true true), HA.of (VP.eq ub true true), HA.of (VP.int .i64 d.most)]) (j := 3) (show 3 < 7 by decide)) rfl rfl ?_
        refine t_pick [0, 9, 1, 2, 3, 4, 5, 6, 7, 8, 10, 11, 12, 13, 14, 15, 16, 17, 18, 19, 20, 21, 22, 23, 24, 25] rfl ?_
        refine t_whole (whole_cells (T' := 64) (Rs := [R_sort d.sorts, R_fun d.funs, R_term d.terms, R_int d.of_, HA.of (VP.eq uh true true), HA.of (VP.eq ub true true), HA.of (VP.int .i64 d.most)]) (j := 4) (show 4 < 7 by decide)) rfl rfl ?_
        refine t_whole (whole_cells (T' := 64) (Rs := [R_sort d.sorts, R_fun d.funs, R_term d.terms, R_int d.of_, R_u64 d.hashes, HA.of (VP.eq ub true true), HA.of (VP.int .i64 d.most)]) (j := 5) (show 5 < 7 by decide)) rfl rfl ?_
        refine t_weak (R' := Arn (d.term t)) (fun _ _ _ _ h => by rw [(term_hit hb1 (find_hit hno hx hb3)).1]; exact h) rfl ?_
        refine t_ret ?_
        refine rt_block ?_
        refine rt_then ?_
        refine rt_then ?_
        refine rt_block ?_
        refine rt_then ?_
        exact rt_post [HA.of (VP.int .i64 (d.termR t)), HA.of (VP.int .i64 (d.termE t))] [[], []] [0] [0] rfl ⟨(rv_eq (congrArg HA.of (congrArg (VP.int .i64) (show x = (d.termR t) from (term_hit hb1 (find_hit hno hx hb3)).2.1.symm))) (rv_vp 22 rfl)), (rv_eq (congrArg HA.of (congrArg (VP.int .i64) (show 0 = (d.termE t) from (term_hit hb1 (find_hit hno hx hb3)).2.2.symm))) (rv_vp 23 rfl)), trivial⟩ (by decide) rfl rfl
      · refine t_skip ?_
        refine nx_block ?_
        refine nx_then ?_
        refine t_rg [.is (.tmp 0) (VP.ptr v), .is (.tmp 3) (VP.ptr c3), .is (.tmp 7) (VP.int .u64 (hashT t)), .is (.tmp 31) (VP.eq uk true true), .is (.tmp 32) (VP.int .i64 (((d.bucket t).length : Nat) : Int)), .own 0 (.val v) (ArO us uf ut uo uh ub d.most), .own 101 (.val c3) (B_term t), .own 102 (.val us) (R_sort d.sorts), .own 103 (.val uf) (R_fun d.funs), .own 104 (.val ut) (R_term d.terms), .own 105 (.val uo) (R_int d.of_), .own 106 (.val uh) (R_u64 d.hashes), .own 107 (.val ub) (HA.row 28 1 d.table.length ((d.table.map rowInt).set m (HA.of (VP.eq uk true true)))), .own 108 (.val uk) (R_int (d.bucket t)), .is (.tmp 34) (VP.bool (decide (((k : Nat) : Int) < (((d.bucket t).length : Nat) : Int)))), .pt 35 (.row (.val uk) (k * 1)), .is (.tmp 36) (VP.int .i64 x), .is (.tmp 9) (VP.int .i64 x), .is (.tmp 37) (VP.ptr v), .is (.tmp 38) (VP.ptr v), .pt 39 (.blk (.val v) 2), .is (.tmp 40) (VP.eq ut true true), .is (.tmp 41) (VP.int .i64 x), .pt 42 (.row (.val ut) (x.toNat * 4)), .is (.tmp 43) (VP.agg [VP.int .i64 ((d.term_ x).op), VP.int .i64 ((d.term_ x).fn), O_int ((d.term_ x).kids), VP.str ((d.term_ x).num)]), .is (.tmp 44) (VP.agg [VP.int .i64 t.op, VP.int .i64 t.fn, O_int t.kids, VP.str t.num]), .is (.tmp 45) (VP.bool (sameT (d.term_ x) t))] [(1, .is (.tmp 33) (VP.int .i64 ((k : Nat) : Int)))] [(0, .is (.tmp 47) (VP.int .i64 (((k + 1) : Nat) : Int))), (1, .is (.tmp 33) (VP.int .i64 (((k + 1) : Nat) : Int)))] [] [0, 1, 2, 3, 4, 6, 7, 8, 9, 10, 11, 12, 13, 14, 15, 16, 17, 18, 19, 20, 21, 22, 23, 24, 25, 26, 27] [5] [[], [0]] [[1], []] rfl rfl follow rfl ⟨
          wp rfl (does_addE (m := ((k : Nat) : Int)) (n := 1) (x := (((k + 1) : Nat) : Int)) (by omega) _ _ _ _ rfl rfl rfl rfl rfl (by omega) (ar_tmp (av_os 0 1 rfl rfl)) (ar_const (fun _ _ => rfl))),
          wp rfl (does_move _ (.inl rfl) rfl rfl rfl rfl (ar_tmp (av_rs 0 0 rfl rfl))),
          trivial⟩ ?_
        refine nx_round (τ := {k : Nat // k ≤ (d.bucket t).length ∧ ∀ j y, j < k → (d.bucket t)[j]? = some y → sameT (d.term_ y) t = false}) (I := fun ⟨k, _⟩ => [.is (.tmp 0) (VP.ptr v), .is (.tmp 3) (VP.ptr c3), .is (.tmp 7) (VP.int .u64 (hashT t)), .is (.tmp 31) (VP.eq uk true true), .is (.tmp 32) (VP.int .i64 (((d.bucket t).length : Nat) : Int)), .is (.tmp 33) (VP.int .i64 ((k : Nat) : Int)), .own 0 (.val v) (ArO us uf ut uo uh ub d.most), .own 101 (.val c3) (B_term t), .own 102 (.val us) (R_sort d.sorts), .own 103 (.val uf) (R_fun d.funs), .own 104 (.val ut) (R_term d.terms), .own 105 (.val uo) (R_int d.of_), .own 106 (.val uh) (R_u64 d.hashes), .own 107 (.val ub) (HA.row 28 1 d.table.length ((d.table.map rowInt).set m (HA.of (VP.eq uk true true)))), .own 108 (.val uk) (R_int (d.bucket t))]) (μ := fun ⟨k, _⟩ => (d.bucket t).length - k) (s := ⟨k, hkl, hno⟩) (⟨k + 1, by omega, ixf_step (g := fun y => sameT (d.term_ y) t) hno hx hb3⟩) ?_ [0, 1, 2, 3, 4, 28, 5, 6, 7, 8, 9, 10, 11, 12, 13] ?_
        · exact (show (d.bucket t).length - (k + 1) < (d.bucket t).length - k by omega)
        · exact rfl
    · have hc2 := of_decide_eq_false hb2
      refine t_exit ?_
      refine ex_then ?_
      refine ex_then ?_
      refine ex_block ?_
      refine nx_then ?_
      refine t_pick [0, 1, 2, 6, 7, 8, 9, 10, 11, 12, 13, 14] rfl ?_
      refine t_seq ?_
      have hfi := find_miss hno (by omega)
      refine t_rg [.is (.tmp 0) (VP.ptr v), .is (.tmp 3) (VP.ptr c3), .is (.tmp 7) (VP.int .u64 (hashT t)), .own 0 (.val v) (ArO us uf ut uo uh ub d.most), .own 101 (.val c3) (B_term t), .own 102 (.val us) (R_sort d.sorts), .own 103 (.val uf) (R_fun d.funs), .own 104 (.val ut) (R_term d.terms), .own 105 (.val uo) (R_int d.of_), .own 106 (.val uh) (R_u64 d.hashes), .own 107 (.val ub) (HA.row 28 1 d.table.length ((d.table.map rowInt).set m (HA.of (VP.eq uk true true)))), .own 108 (.val uk) (R_int (d.bucket t))] [] [(0, .is (.tmp 48) (VP.ptr v)), (1, .is (.tmp 49) (VP.ptr v)), (2, .pt 50 (.blk (.val v) 2)), (3, .is (.tmp 51) (VP.eq ut true true)), (4, .is (.tmp 52) (VP.int .i64 ((d.terms.length : Nat) : Int))), (5, .is (.tmp 10) (VP.int .i64 ((d.terms.length : Nat) : Int)))] [] [0, 1, 2, 3, 4, 5, 6, 7, 8, 9, 10, 11] [] DagK_p13_11 DagK_s13_11 rfl rfl follow rfl ⟨
        wp rfl (does_move _ (.inl rfl) rfl rfl rfl rfl (ar_tmp (av_fs 0 rfl))),
        wp rfl (does_nil _ rfl rfl rfl rfl rfl (ar_tmp (av_rs 0 0 rfl rfl))),
        wp rfl (does_field _ _ _ 2 DagK_f_dag_Arena_2 rfl rfl rfl rfl rfl rfl (pt_ptr (ar_tmp (av_rs 1 1 rfl rfl)))),
        wp rfl (does_loadOne _ DagK_one___api_Term rfl rfl rfl rfl rfl (pt_pt (av_rs 2 2 rfl rfl)) (rds_box (off := 2) (av_fs 3 rfl) (hq_one rfl))),
        wp rfl (does_len _ _ (by kernel_rfl) rfl rfl rfl rfl rfl (sl_own (av_fs 7 rfl) (ar_tmp (av_rs 3 3 rfl rfl)))),
        wp rfl (does_move _ (.inr rfl) rfl rfl rfl rfl (ar_tmp (av_rs 4 4 rfl rfl))),
        trivial⟩ ?_
      refine t_pick [0, 1, 2, 3, 4, 5, 6, 7, 8, 9, 10, 11, 17] rfl ?_
      refine nx_then ?_
      refine t_seq ?_
      refine t_seq ?_
      refine t_rg [.is (.tmp 0) (VP.ptr v), .is (.tmp 3) (VP.ptr c3), .is (.tmp 7) (VP.int .u64 (hashT t)), .own 0 (.val v) (ArO us uf ut uo uh ub d.most), .own 101 (.val c3) (B_term t), .own 102 (.val us) (R_sort d.sorts), .own 103 (.val uf) (R_fun d.funs), .own 104 (.val ut) (R_term d.terms), .own 105 (.val uo) (R_int d.of_), .own 106 (.val uh) (R_u64 d.hashes), .own 107 (.val ub) (HA.row 28 1 d.table.length ((d.table.map rowInt).set m (HA.of (VP.eq uk true true)))), .own 108 (.val uk) (R_int (d.bucket t)), .is (.tmp 10) (VP.int .i64 ((d.terms.length : Nat) : Int))] [] [(0, .is (.tmp 53) (VP.int .i64 ((d.terms.length : Nat) : Int))), (1, .is (.tmp 54) (VP.ptr v)), (2, .is (.tmp 55) (VP.ptr v)), (3, .pt 56 (.blk (.val v) 6)), (4, .is (.tmp 57) (VP.int .i64 d.most)), (5, .is (.tmp 58) (VP.bool (decide (((d.terms.length : Nat) : Int) ≥ d.most))))] [] [0, 1, 2, 3, 4, 5, 6, 7, 8, 9, 10, 11, 12] [] DagK_p13_12 DagK_s13_12 rfl rfl follow rfl ⟨
        wp rfl (does_move _ (.inl rfl) rfl rfl rfl rfl (ar_tmp (av_fs 12 rfl))),
        wp rfl (does_move _ (.inl rfl) rfl rfl rfl rfl (ar_tmp (av_fs 0 rfl))),
        wp rfl (does_nil _ rfl rfl rfl rfl rfl (ar_tmp (av_rs 1 1 rfl rfl))),
        wp rfl (does_field _ _ _ 6 DagK_f_dag_Arena_6 rfl rfl rfl rfl rfl rfl (pt_ptr (ar_tmp (av_rs 2 2 rfl rfl)))),
        wp rfl (does_loadOne _ DagK_one_int rfl rfl rfl rfl rfl (pt_pt (av_rs 3 3 rfl rfl)) (rds_box (off := 6) (av_fs 3 rfl) (hq_one rfl))),
        wp rfl (does_cmp (m := ((d.terms.length : Nat) : Int)) (n := d.most) _ _ _ _ _ rfl rfl rfl rfl rfl rfl .i64 (ar_tmp (av_rs 0 0 rfl rfl)) (ar_tmp (av_rs 4 4 rfl rfl))),
        trivial⟩ ?_
      refine t_pick [0, 1, 2, 3, 4, 5, 6, 7, 8, 9, 10, 11, 12, 18] rfl ?_
      refine nx_then ?_
      refine t_split 13 rfl (fun hb4 => ?_) (fun hb4 => ?_)
      · have hc4 := of_decide_eq_true hb4
        refine t_seq ?_
        refine t_rg [.is (.tmp 0) (VP.ptr v), .is (.tmp 3) (VP.ptr c3), .is (.tmp 7) (VP.int .u64 (hashT t)), .own 0 (.val v) (ArO us uf ut uo uh ub d.most), .own 101 (.val c3) (B_term t), .own 102 (.val us) (R_sort d.sorts), .own 103 (.val uf) (R_fun d.funs), .own 104 (.val ut) (R_term d.terms), .own 105 (.val uo) (R_int d.of_), .own 106 (.val uh) (R_u64 d.hashes), .own 107 (.val ub) (HA.row 28 1 d.table.length ((d.table.map rowInt).set m (HA.of (VP.eq uk true true)))), .own 108 (.val uk) (R_int (d.bucket t)), .is (.tmp 10) (VP.int .i64 ((d.terms.length : Nat) : Int)), .is (.tmp 58) (VP.bool (decide (((d.terms.length : Nat) : Int) ≥ d.most)))] [] [(0, .is (.tmp 4) (VP.int .i64 0)), (1, .is (.tmp 5) (VP.int .i64 4))] [] [0, 1, 2, 3, 4, 5, 6, 7, 8, 9, 10, 11, 12, 13] [] [[], [0]] [[1], []] rfl rfl follow rfl ⟨
          wp rfl (does_move _ (.inr rfl) rfl rfl rfl rfl (ar_const (fun _ _ => rfl))),
          wp rfl (does_move _ (.inr rfl) rfl rfl rfl rfl (ar_const (fun _ _ => rfl))),
          trivial⟩ ?_
        refine t_pick [0, 1, 2, 3, 4, 5, 6, 7, 8, 9, 10, 11, 12, 14, 15] rfl ?_
        refine nx_then ?_
        refine t_pick [10, 11, 0, 1, 2, 3, 4, 5, 6, 7, 8, 9, 12, 13, 14] rfl ?_
        refine t_whole (whole_row (E := 28) (sz := 1) (n := d.table.length) (Rs := d.table.map rowInt) (j := m) (P := rowInt (d.bucket t)) (by rw [List.length_map]; omega)) rfl rfl ?_
        refine t_weak (R' := rowsInt d.table) (fun _ _ _ _ h => by rw [hole_back hma] at h; exact h) rfl ?_
        refine t_pick [4, 6, 0, 1, 2, 3, 5, 7, 8, 9, 10, 11, 12, 13] rfl ?_
        refine t_whole (whole_cells (T' := 64) (Rs := [HA.of (VP.eq us true true), HA.of (VP.eq uf true true), HA.of (VP.eq ut true true), HA.of (VP.eq uo true true), HA.of (VP.eq uh true true), HA.of (VP.eq ub true true), HA.of (VP.int .i64 d.most)]) (j := 0) (show 0 < 7 by decide)) rfl rfl ?_
        refine t_pick [0, 6, 1, 2, 3, 4, 5, 7, 8, 9, 10, 11, 12] rfl ?_
        refine t_whole (whole_cells (T' := 64) (Rs := [R_sort d.sorts, HA.of (VP.eq uf true true), HA.of (VP.eq ut true true), HA.of (VP.eq uo true true), HA.of (VP.eq uh true true), HA.of (VP.eq ub true true), HA.of (VP.int .i64 d.most)]) (j := 1) (show 1 < 7 by decide)) rfl rfl ?_
        refine t_pick [0, 6, 1, 2, 3, 4, 5, 7, 8, 9, 10, 11] rfl ?_
        refine t_whole (whole_cells (T' := 64) (Rs := [R_sort d.sorts, R_fun d.funs, HA.of (VP.eq ut true true), HA.of (VP.eq uo true true), HA.of (VP.eq uh true true), HA.of (VP.eq ub true true), HA.of (VP.int .i64 d.most)]) (j := 2) (show 2 < 7 by decide)) rfl rfl ?_
        refine t_pick [0, 6, 1, 2, 3, 4, 5, 7, 8, 9, 10] rfl ?_
        refine t_whole (whole_cells (T' := 64) (Rs := [R_sort d.sorts, R_fun d.funs, R_term d.terms, HA.of (VP.eq uo true true), HA.of (VP.eq uh true true), HA.of (VP.eq ub true true), HA.of (VP.int .i64 d.most)]) (j := 3) (show 3 < 7 by decide)) rfl rfl ?_
        refine t_pick [0, 6, 1, 2, 3, 4, 5, 7, 8, 9] rfl ?_
        refine t_whole (whole_cells (T' := 64) (Rs := [R_sort d.sorts, R_fun d.funs, R_term d.terms, R_int d.of_, HA.of (VP.eq uh true true), HA.of (VP.eq ub true true), HA.of (VP.int .i64 d.most)]) (j := 4) (show 4 < 7 by decide)) rfl rfl ?_
        refine t_whole (whole_cells (T' := 64) (Rs := [R_sort d.sorts, R_fun d.funs, R_term d.terms, R_int d.of_, R_u64 d.hashes, HA.of (VP.eq ub true true), HA.of (VP.int .i64 d.most)]) (j := 5) (show 5 < 7 by decide)) rfl rfl ?_
        refine t_weak (R' := Arn (d.term t)) (fun _ _ _ _ h => by rw [(term_full hb1 hfi hb4).1]; exact h) rfl ?_
        refine t_ret ?_
        refine rt_then ?_
        exact rt_post [HA.of (VP.int .i64 (d.termR t)), HA.of (VP.int .i64 (d.termE t))] [[], []] [0] [0] rfl ⟨(rv_eq (congrArg HA.of (congrArg (VP.int .i64) (show 0 = (d.termR t) from (term_full hb1 hfi hb4).2.1.symm))) (rv_vp 6 rfl)), (rv_eq (congrArg HA.of (congrArg (VP.int .i64) (show 4 = (d.termE t) from (term_full hb1 hfi hb4).2.2.symm))) (rv_vp 7 rfl)), trivial⟩ (by decide) rfl rfl
      · have hc4 := of_decide_eq_false hb4
        refine t_skip ?_
        refine nx_then ?_
        refine t_seq ?_
        refine t_rg [.is (.tmp 0) (VP.ptr v), .is (.tmp 3) (VP.ptr c3), .is (.tmp 7) (VP.int .u64 (hashT t)), .own 0 (.val v) (ArO us uf ut uo uh ub d.most), .own 102 (.val us) (R_sort d.sorts), .own 103 (.val uf) (R_fun d.funs), .own 104 (.val ut) (R_term d.terms), .own 105 (.val uo) (R_int d.of_), .own 106 (.val uh) (R_u64 d.hashes), .own 107 (.val ub) (HA.row 28 1 d.table.length ((d.table.map rowInt).set m (HA.of (VP.eq uk true true)))), .own 108 (.val uk) (R_int (d.bucket t)), .is (.tmp 10) (VP.int .i64 ((d.terms.length : Nat) : Int)), .is (.tmp 58) (VP.bool (decide (((d.terms.length : Nat) : Int) ≥ d.most)))] [(4, .own 101 (.val c3) (B_term t))] [(0, .pt 59 (.blk (.val c3) 2)), (1, .is (.tmp 60) (O_int t.kids)), (2, .own 109 (.tmp 61) (HA.of (O_int t.kids))), (3, .pt 62 (.blk (.val c3) 2)), (4, .own 101 (.val c3) (B_term t))] [] [0, 1, 2, 3, 5, 6, 7, 8, 9, 10, 11, 12, 13] [4] DagK_p13_14 DagK_s13_14 rfl rfl follow rfl ⟨
          wp rfl (does_field _ _ _ 2 DagK_f_api_Term_2 rfl rfl rfl rfl rfl rfl (pt_ptr (ar_tmp (av_fs 1 rfl)))),
          wp rfl (does_loadOne _ DagK_one___int rfl rfl rfl rfl rfl (pt_pt (av_rs 0 0 rfl rfl)) (rds_box (off := 2) (av_os 0 4 rfl rfl) (hq_one rfl))),
          wp rfl (does_callG [] [] [] 109 [0] (dg_CloneInt t.kids (by omega)) rfl DagK_hb_slices_Clone___int_int_ rfl rfl rfl rfl rfl ar_clo (ars_cons (pa_slcRo (ar_tmp (av_rs 1 1 rfl rfl)) (flat_nil_iff cInt_len (by decide) _)) ars_nil) trivial trivial),
          wp rfl (does_field _ _ _ 2 DagK_f_api_Term_2 rfl rfl rfl rfl rfl rfl (pt_ptr (ar_tmp (av_fs 1 rfl)))),
          wp rfl (does_store (off := 2) (Qs := [HA.of (O_int t.kids)]) _ _ DagK_size___int rfl rfl rfl rfl rfl rfl (pt_pt (av_rs 3 3 rfl rfl)) (av_os 0 4 rfl rfl) (cv_one rfl (mv_vp (ar_of (av_rs 2 2 rfl rfl))))),
          trivial⟩ ?_
        refine t_pick [0, 1, 2, 3, 4, 5, 6, 7, 8, 9, 10, 11, 15, 17] rfl ?_
        refine nx_then ?_
        refine t_pick [0, 1, 2, 3, 4, 5, 6, 7, 8, 9, 10, 11, 13] rfl ?_
        refine t_seq ?_
        refine t_rg [.is (.tmp 0) (VP.ptr v), .is (.tmp 3) (VP.ptr c3), .is (.tmp 7) (VP.int .u64 (hashT t)), .own 102 (.val us) (R_sort d.sorts), .own 103 (.val uf) (R_fun d.funs), .own 104 (.val ut) (R_term d.terms), .own 106 (.val uh) (R_u64 d.hashes), .own 107 (.val ub) (HA.row 28 1 d.table.length ((d.table.map rowInt).set m (HA.of (VP.eq uk true true)))), .own 108 (.val uk) (R_int (d.bucket t)), .is (.tmp 10) (VP.int .i64 ((d.terms.length : Nat) : Int)), .own 101 (.val c3) (B_term t)] [(12, .own 0 (.val v) (ArO us uf ut uo uh ub d.most)), (9, .own 105 (.val uo) (R_int d.of_))] [(0, .is (.tmp 63) (VP.ptr v)), (1, .is (.tmp 64) (VP.ptr v)), (2, .is (.tmp 65) (VP.ptr v)), (3, .pt 66 (.blk (.val v) 3)), (4, .is (.tmp 67) (VP.eq uo true true)), (5, .is (.tmp 68) (VP.ptr v)), (6, .is (.tmp 69) (VP.agg [VP.int .i64 t.op, VP.int .i64 t.fn, O_int t.kids, VP.str t.num])), (7, .is (.tmp 70) (VP.int .i64 (d.give t))), (10, .is (.tmp 73) (VP.ptr v)), (11, .pt 74 (.blk (.val v) 3)), (12, .own 0 (.val v) (HA.cells 64 [HA.of (VP.eq us true true), HA.of (VP.eq uf true true), HA.of (VP.eq ut true true), R_int (d.of_ ++ [d.give t]), HA.of (VP.eq uh true true), HA.of (VP.eq ub true true), HA.of (VP.int .i64 d.most)]))] [(8, 9, .own 110 (.tmp 71) (R_int ([d.give t]))), (9, 12, .own 105 (.tmp 72) (R_int (d.of_ ++ [d.give t])))] [0, 1, 2, 4, 5, 6, 8, 9, 10, 11, 12] [3, 7] DagK_p13_15 DagK_s13_15 rfl rfl follow rfl ⟨
          wp rfl (does_move _ (.inl rfl) rfl rfl rfl rfl (ar_tmp (av_fs 0 rfl))),
          wp rfl (does_move _ (.inl rfl) rfl rfl rfl rfl (ar_tmp (av_fs 0 rfl))),
          wp rfl (does_nil _ rfl rfl rfl rfl rfl (ar_tmp (av_rs 1 1 rfl rfl))),
          wp rfl (does_field _ _ _ 3 DagK_f_dag_Arena_3 rfl rfl rfl rfl rfl rfl (pt_ptr (ar_tmp (av_rs 2 2 rfl rfl)))),
          wp rfl (does_loadOne _ DagK_one___int rfl rfl rfl rfl rfl (pt_pt (av_rs 3 3 rfl rfl)) (rds_box (off := 3) (av_os 0 12 rfl rfl) (hq_one rfl))),
          wp rfl (does_move _ (.inl rfl) rfl rfl rfl rfl (ar_tmp (av_fs 0 rfl))),
          wp rfl (does_loadAgg (ps := [VP.int .i64 t.op, VP.int .i64 t.fn, O_int t.kids, VP.str t.num]) _ DagK_agg_api_Term rfl rfl rfl rfl rfl (pt_ptr (ar_tmp (av_fs 1 rfl))) (rds_box (off := 0) (av_fs 10 rfl) (hq_many (n := 4) rfl))),
          wp rfl (does_call (da_gives (v := v) (us := us) (uf := uf) (ut := ut) (uo := uo) (uh := uh) (ub := ub) (d := d) t hfn hk h10) (fun _ _ _ _ h => h) rfl DagK_hb___collator_dag_Arena__gives rfl rfl rfl rfl ar_clo (ars_cons (pa_vp (ar_tmp (av_rs 5 5 rfl rfl))) (ars_cons (pa_vp (ar_tmp (av_rs 6 6 rfl rfl))) ars_nil)) ⟨(brw_own (av_os 0 12 rfl rfl) rfl), (brw_own (av_fs 4 rfl) rfl), (brw_own (av_os 1 9 rfl rfl) rfl), trivial⟩),
          wp rfl (does_sliceLit (n := 1) DagK_el_int rfl (List.replicate 1 (VP.int .i64 0)) (z1_of (fun _ _ => rfl) rfl 1) rfl rfl rfl rfl rfl rfl rfl (.cons 0 [HA.of (VP.int .i64 (d.give t))] none rfl rfl (cv_one rfl (mv_vp (ar_tmp (av_rs 7 7 rfl rfl)))) (.nil _))),
          wp rfl (does_append (n := d.of_.length) (m := ([d.give t]).length) DagK_el_int rfl _ _ rfl rfl rfl rfl rfl (by simp only [List.length_append, List.length_nil, List.length_cons, Nat.zero_add]) (flat_cat d.of_ ([d.give t])) rfl (by constructor <;> first | decide | omega | (simp only [List.length_append, List.length_cons, List.length_nil] at *; omega)) (flat_lenH cInt_len _) (flat_allH (fun _ => rfl) cInt_one _) (flat_allH (fun _ => rfl) cInt_nu _) (mv_ownv (av_os 1 9 rfl rfl) (ar_tmp (av_rs 4 4 rfl rfl))) (src_row (av_ms 0 8 9 rfl rfl rfl))),
          wp rfl (does_nil _ rfl rfl rfl rfl rfl (ar_tmp (av_rs 0 0 rfl rfl))),
          wp rfl (does_field _ _ _ 3 DagK_f_dag_Arena_3 rfl rfl rfl rfl rfl rfl (pt_ptr (ar_tmp (av_rs 8 10 rfl rfl)))),
          wp rfl (does_store (off := 3) (Qs := [R_int (d.of_ ++ [d.give t])]) _ _ DagK_size___int rfl rfl rfl rfl rfl rfl (pt_pt (av_rs 9 11 rfl rfl)) (av_os 0 12 rfl rfl) (cv_one rfl (mv_own (av_ms 1 9 12 rfl rfl rfl)))),
          trivial⟩ ?_
        refine t_pick [0, 1, 2, 3, 4, 5, 6, 7, 8, 9, 10, 21] rfl ?_
        refine nx_then ?_
        refine t_seq ?_
        refine t_rg [.is (.tmp 0) (VP.ptr v), .is (.tmp 3) (VP.ptr c3), .is (.tmp 7) (VP.int .u64 (hashT t)), .own 102 (.val us) (R_sort d.sorts), .own 103 (.val uf) (R_fun d.funs), .own 107 (.val ub) (HA.row 28 1 d.table.length ((d.table.map rowInt).set m (HA.of (VP.eq uk true true)))), .own 108 (.val uk) (R_int (d.bucket t)), .is (.tmp 10) (VP.int .i64 ((d.terms.length : Nat) : Int)), .own 101 (.val c3) (B_term t)] [(8, .own 104 (.val ut) (R_term d.terms)), (15, .own 106 (.val uh) (R_u64 d.hashes)), (18, .own 0 (.val v) (HA.cells 64 [HA.of (VP.eq us true true), HA.of (VP.eq uf true true), HA.of (VP.eq ut true true), R_int (d.of_ ++ [d.give t]), HA.of (VP.eq uh true true), HA.of (VP.eq ub true true), HA.of (VP.int .i64 d.most)]))] [(0, .is (.tmp 75) (VP.ptr v)), (1, .is (.tmp 76) (VP.ptr v)), (2, .is (.tmp 77) (VP.ptr v)), (3, .is (.tmp 78) (VP.ptr v)), (4, .pt 79 (.blk (.val v) 2)), (5, .is (.tmp 80) (VP.eq ut true true)), (6, .is (.tmp 81) (VP.agg [VP.int .i64 t.op, VP.int .i64 t.fn, O_int t.kids, VP.str t.num])), (9, .is (.tmp 84) (VP.ptr v)), (10, .is (.tmp 85) (VP.ptr v)), (11, .pt 86 (.blk (.val v) 4)), (12, .is (.tmp 87) (VP.eq uh true true)), (13, .is (.tmp 88) (VP.int .u64 (hashT t))), (16, .is (.tmp 91) (VP.ptr v)), (17, .pt 92 (.blk (.val v) 2)), (19, .is (.tmp 93) (VP.ptr v)), (20, .pt 94 (.blk (.val v) 4)), (21, .own 0 (.val v) (HA.cells 64 [HA.of (VP.eq us true true), HA.of (VP.eq uf true true), R_term (d.terms ++ [t]), R_int (d.of_ ++ [d.give t]), R_u64 (d.hashes ++ [hashT t]), HA.of (VP.eq ub true true), HA.of (VP.int .i64 d.most)]))] [(7, 8, .own 111 (.tmp 82) (R_term ([t]))), (8, 18, .own 104 (.tmp 83) (R_term (d.terms ++ [t]))), (14, 15, .own 112 (.tmp 89) (R_u64 ([hashT t]))), (15, 21, .own 106 (.tmp 90) (R_u64 (d.hashes ++ [hashT t]))), (18, 21, .own 0 (.val v) (HA.cells 64 [HA.of (VP.eq us true true), HA.of (VP.eq uf true true), R_term (d.terms ++ [t]), R_int (d.of_ ++ [d.give t]), HA.of (VP.eq uh true true), HA.of (VP.eq ub true true), HA.of (VP.int .i64 d.most)]))] [0, 1, 2, 3, 4, 7, 8, 9, 10] [5, 6, 11] DagK_p13_16 DagK_s13_16 rfl rfl follow rfl ⟨
          wp rfl (does_move _ (.inl rfl) rfl rfl rfl rfl (ar_tmp (av_fs 0 rfl))),
          wp rfl (does_move _ (.inl rfl) rfl rfl rfl rfl (ar_tmp (av_fs 0 rfl))),
          wp rfl (does_move _ (.inl rfl) rfl rfl rfl rfl (ar_tmp (av_fs 0 rfl))),
          wp rfl (does_nil _ rfl rfl rfl rfl rfl (ar_tmp (av_rs 2 2 rfl rfl))),
          wp rfl (does_field _ _ _ 2 DagK_f_dag_Arena_2 rfl rfl rfl rfl rfl rfl (pt_ptr (ar_tmp (av_rs 3 3 rfl rfl)))),
          wp rfl (does_loadOne _ DagK_one___api_Term rfl rfl rfl rfl rfl (pt_pt (av_rs 4 4 rfl rfl)) (rds_box (off := 2) (av_os 2 18 rfl rfl) (hq_one rfl))),
          wp rfl (does_loadAgg (ps := [VP.int .i64 t.op, VP.int .i64 t.fn, O_int t.kids, VP.str t.num]) _ DagK_agg_api_Term rfl rfl rfl rfl rfl (pt_ptr (ar_tmp (av_fs 1 rfl))) (rds_box (off := 0) (av_fs 8 rfl) (hq_many (n := 4) rfl))),
          wp rfl (does_sliceLit (n := 1) DagK_el_term rfl [VP.int .i64 0, VP.int .i64 0, VP.nilS, VP.str (ByteArray.mk #[])] (fun _ _ => by rw [show zerosOf (.agg #[.int .i64 0, .int .i64 0, .slice none 0 0, .string (ByteArray.mk #[])]) (1 * 4) = [.int .i64 0, .int .i64 0, .slice none 0 0, .string (ByteArray.mk #[])] by kernel_rfl]; exact ⟨rfl, rfl, rfl, rfl, trivial⟩) rfl rfl rfl rfl rfl rfl rfl (.cons 0 [HA.of (VP.int .i64 t.op), HA.of (VP.int .i64 t.fn), HA.of (O_int t.kids), HA.of (VP.str t.num)] none rfl rfl (cv_agg (ps := [VP.int .i64 t.op, VP.int .i64 t.fn, O_int t.kids, VP.str t.num]) (ar_tmp (av_rs 6 6 rfl rfl))) (.nil _))),
          wp rfl (does_append (n := d.terms.length) (m := ([t]).length) DagK_el_term rfl _ _ rfl rfl rfl rfl rfl (by simp only [List.length_append, List.length_nil, List.length_cons, Nat.zero_add]) (flat_cat d.terms ([t])) rfl (by constructor <;> first | decide | omega | (simp only [List.length_append, List.length_cons, List.length_nil] at *; omega)) (flat_lenH cTerm_len _) (flat_allH (fun _ => rfl) cTerm_one _) (flat_allH (fun _ => rfl) cTerm_nu _) (mv_ownv (av_os 0 8 rfl rfl) (ar_tmp (av_rs 5 5 rfl rfl))) (src_row (av_ms 0 7 8 rfl rfl rfl))),
          wp rfl (does_move _ (.inl rfl) rfl rfl rfl rfl (ar_tmp (av_fs 0 rfl))),
          wp rfl (does_nil _ rfl rfl rfl rfl rfl (ar_tmp (av_rs 7 9 rfl rfl))),
          wp rfl (does_field _ _ _ 4 DagK_f_dag_Arena_4 rfl rfl rfl rfl rfl rfl (pt_ptr (ar_tmp (av_rs 8 10 rfl rfl)))),
          wp rfl (does_loadOne _ DagK_one___uint64 rfl rfl rfl rfl rfl (pt_pt (av_rs 9 11 rfl rfl)) (rds_box (off := 4) (av_os 2 18 rfl rfl) (hq_one rfl))),
          wp rfl (does_move _ (.inl rfl) rfl rfl rfl rfl (ar_tmp (av_fs 2 rfl))),
          wp rfl (does_sliceLit (n := 1) DagK_el_u64 rfl (List.replicate 1 (VP.int .u64 0)) (z1_of (fun _ _ => rfl) rfl 1) rfl rfl rfl rfl rfl rfl rfl (.cons 0 [HA.of (VP.int .u64 (hashT t))] none rfl rfl (cv_one rfl (mv_vp (ar_tmp (av_rs 11 13 rfl rfl)))) (.nil _))),
          wp rfl (does_append (n := d.hashes.length) (m := ([hashT t]).length) DagK_el_u64 rfl _ _ rfl rfl rfl rfl rfl (by simp only [List.length_append, List.length_nil, List.length_cons, Nat.zero_add]) (flat_cat d.hashes ([hashT t])) rfl (by constructor <;> first | decide | omega | (simp only [List.length_append, List.length_cons, List.length_nil] at *; omega)) (flat_lenH cU64_len _) (flat_allH (fun _ => rfl) cU64_one _) (flat_allH (fun _ => rfl) cU64_nu _) (mv_ownv (av_os 1 15 rfl rfl) (ar_tmp (av_rs 10 12 rfl rfl))) (src_row (av_ms 2 14 15 rfl rfl rfl))),
          wp rfl (does_nil _ rfl rfl rfl rfl rfl (ar_tmp (av_rs 0 0 rfl rfl))),
          wp rfl (does_field _ _ _ 2 DagK_f_dag_Arena_2 rfl rfl rfl rfl rfl rfl (pt_ptr (ar_tmp (av_rs 12 16 rfl rfl)))),
          wp rfl (does_store (off := 2) (Qs := [R_term (d.terms ++ [t])]) _ _ DagK_size___api_Term rfl rfl rfl rfl rfl rfl (pt_pt (av_rs 13 17 rfl rfl)) (av_os 2 18 rfl rfl) (cv_one rfl (mv_own (av_ms 1 8 18 rfl rfl rfl)))),
          wp rfl (does_nil _ rfl rfl rfl rfl rfl (ar_tmp (av_rs 1 1 rfl rfl))),
          wp rfl (does_field _ _ _ 4 DagK_f_dag_Arena_4 rfl rfl rfl rfl rfl rfl (pt_ptr (ar_tmp (av_rs 14 19 rfl rfl)))),
          wp rfl (does_store (off := 4) (Qs := [R_u64 (d.hashes ++ [hashT t])]) _ _ DagK_size___uint64 rfl rfl rfl rfl rfl rfl (pt_pt (av_rs 15 20 rfl rfl)) (av_ms 4 18 21 rfl rfl rfl) (cv_one rfl (mv_own (av_ms 3 15 21 rfl rfl rfl)))),
          trivial⟩ ?_
        refine t_pick [0, 2, 3, 4, 5, 6, 7, 8, 25] rfl ?_
        refine nx_then ?_
        refine t_seq ?_
        refine t_seq ?_
        refine t_pick [8, 0, 1, 2, 3, 4, 5, 6, 7] rfl ?_
        refine t_part 113 (part_cells (T' := 64) (Rs := [HA.of (VP.eq us true true), HA.of (VP.eq uf true true), R_term (d.terms ++ [t]), R_int (d.of_ ++ [d.give t]), R_u64 (d.hashes ++ [hashT t]), HA.of (VP.eq ub true true), HA.of (VP.int .i64 d.most)]) 2 rfl) rfl rfl fun ut2 => ?_
        refine t_part 114 (part_cells (T' := 64) (Rs := [HA.of (VP.eq us true true), HA.of (VP.eq uf true true), HA.of (VP.eq ut2 true true), R_int (d.of_ ++ [d.give t]), R_u64 (d.hashes ++ [hashT t]), HA.of (VP.eq ub true true), HA.of (VP.int .i64 d.most)]) 3 rfl) rfl rfl fun uo2 => ?_
        refine t_part 115 (part_cells (T' := 64) (Rs := [HA.of (VP.eq us true true), HA.of (VP.eq uf true true), HA.of (VP.eq ut2 true true), HA.of (VP.eq uo2 true true), R_u64 (d.hashes ++ [hashT t]), HA.of (VP.eq ub true true), HA.of (VP.int .i64 d.most)]) 4 rfl) rfl rfl fun uh2 => ?_
        refine t_rg [.own 0 (.val v) (ArO us uf ut2 uo2 uh2 ub d.most), .own 115 (.val uh2) (R_u64 (d.hashes ++ [hashT t])), .own 114 (.val uo2) (R_int (d.of_ ++ [d.give t])), .own 113 (.val ut2) (R_term (d.terms ++ [t])), .is (.tmp 0) (VP.ptr v), .is (.tmp 7) (VP.int .u64 (hashT t)), .own 102 (.val us) (R_sort d.sorts), .own 103 (.val uf) (R_fun d.funs), .own 107 (.val ub) (HA.row 28 1 d.table.length ((d.table.map rowInt).set m (HA.of (VP.eq uk true true)))), .own 108 (.val uk) (R_int (d.bucket t)), .is (.tmp 10) (VP.int .i64 ((d.terms.length : Nat) : Int)), .own 101 (.val c3) (B_term t)] [] [(0, .is (.tmp 95) (VP.ptr v)), (1, .is (.tmp 96) (VP.ptr v)), (2, .pt 97 (.blk (.val v) 2)), (3, .is (.tmp 98) (VP.eq ut2 true true)), (4, .is (.tmp 99) (VP.int .i64 (((d.terms ++ [t]).length : Nat) : Int))), (5, .is (.tmp 100) (VP.ptr v)), (6, .is (.tmp 101) (VP.ptr v)), (7, .pt 102 (.blk (.val v) 5)), (8, .is (.tmp 103) (VP.eq ub true true)), (9, .is (.tmp 104) (VP.int .i64 ((d.table.length : Nat) : Int))), (10, .is (.tmp 105) (VP.bool (decide ((((d.terms ++ [t]).length : Nat) : Int) > ((d.table.length : Nat) : Int)))))] [] [0, 1, 2, 3, 4, 5, 6, 7, 8, 9, 10, 11] [] DagK_p13_17 DagK_s13_17 rfl rfl follow rfl ⟨
          wp rfl (does_move _ (.inl rfl) rfl rfl rfl rfl (ar_tmp (av_fs 4 rfl))),
          wp rfl (does_nil _ rfl rfl rfl rfl rfl (ar_tmp (av_rs 0 0 rfl rfl))),
          wp rfl (does_field _ _ _ 2 DagK_f_dag_Arena_2 rfl rfl rfl rfl rfl rfl (pt_ptr (ar_tmp (av_rs 1 1 rfl rfl)))),
          wp rfl (does_loadOne _ DagK_one___api_Term rfl rfl rfl rfl rfl (pt_pt (av_rs 2 2 rfl rfl)) (rds_box (off := 2) (av_fs 0 rfl) (hq_one rfl))),
          wp rfl (does_len _ _ (by kernel_rfl) rfl rfl rfl rfl rfl (sl_own (av_fs 3 rfl) (ar_tmp (av_rs 3 3 rfl rfl)))),
          wp rfl (does_move _ (.inl rfl) rfl rfl rfl rfl (ar_tmp (av_fs 4 rfl))),
          wp rfl (does_nil _ rfl rfl rfl rfl rfl (ar_tmp (av_rs 5 5 rfl rfl))),
          wp rfl (does_field _ _ _ 5 DagK_f_dag_Arena_5 rfl rfl rfl rfl rfl rfl (pt_ptr (ar_tmp (av_rs 6 6 rfl rfl)))),
          wp rfl (does_loadOne _ DagK_one_dag_table rfl rfl rfl rfl rfl (pt_pt (av_rs 7 7 rfl rfl)) (rds_box (off := 5) (av_fs 0 rfl) (hq_one rfl))),
          wp rfl (does_len _ _ (by kernel_rfl) rfl rfl rfl rfl rfl (sl_own (av_fs 8 rfl) (ar_tmp (av_rs 8 8 rfl rfl)))),
          wp rfl (does_cmp (m := (((d.terms ++ [t]).length : Nat) : Int)) (n := ((d.table.length : Nat) : Int)) _ _ _ _ _ rfl rfl rfl rfl rfl rfl .i64 (ar_tmp (av_rs 4 4 rfl rfl)) (ar_tmp (av_rs 9 9 rfl rfl))),
          trivial⟩ ?_
        refine t_pick [0, 1, 2, 3, 4, 5, 6, 7, 8, 9, 10, 11, 22] rfl ?_
        refine nx_then ?_
        refine t_split 12 rfl (fun hb5 => ?_) (fun hb5 => ?_)
        · have hc5 := of_decide_eq_true hb5
          refine t_seq ?_
          refine t_pick [8, 9, 0, 1, 2, 3, 4, 5, 6, 7, 10, 11, 12] rfl ?_
          refine t_whole (whole_row (E := 28) (sz := 1) (n := d.table.length) (Rs := d.table.map rowInt) (j := m) (P := rowInt (d.bucket t)) (by rw [List.length_map]; omega)) rfl rfl ?_
          refine t_weak (R' := rowsInt d.table) (fun _ _ _ _ h => by rw [hole_back hma] at h; exact h) rfl ?_
          refine t_pick [1, 7, 0, 2, 3, 4, 5, 6, 8, 9, 10, 11] rfl ?_
          refine t_whole (whole_cells (T' := 64) (Rs := [HA.of (VP.eq us true true), HA.of (VP.eq uf true true), HA.of (VP.eq ut2 true true), HA.of (VP.eq uo2 true true), HA.of (VP.eq uh2 true true), HA.of (VP.eq ub true true), HA.of (VP.int .i64 d.most)]) (j := 0) (show 0 < 7 by decide)) rfl rfl ?_
          refine t_pick [0, 7, 1, 2, 3, 4, 5, 6, 8, 9, 10] rfl ?_
          refine t_whole (whole_cells (T' := 64) (Rs := [R_sort d.sorts, HA.of (VP.eq uf true true), HA.of (VP.eq ut2 true true), HA.of (VP.eq uo2 true true), HA.of (VP.eq uh2 true true), HA.of (VP.eq ub true true), HA.of (VP.int .i64 d.most)]) (j := 1) (show 1 < 7 by decide)) rfl rfl ?_
          refine t_pick [0, 4, 1, 2, 3, 5, 6, 7, 8, 9] rfl ?_
          refine t_whole (whole_cells (T' := 64) (Rs := [R_sort d.sorts, R_fun d.funs, HA.of (VP.eq ut2 true true), HA.of (VP.eq uo2 true true), HA.of (VP.eq uh2 true true), HA.of (VP.eq ub true true), HA.of (VP.int .i64 d.most)]) (j := 2) (show 2 < 7 by decide)) rfl rfl ?_
          refine t_pick [0, 3, 1, 2, 4, 5, 6, 7, 8] rfl ?_
          refine t_whole (whole_cells (T' := 64) (Rs := [R_sort d.sorts, R_fun d.funs, R_term (d.terms ++ [t]), HA.of (VP.eq uo2 true true), HA.of (VP.eq uh2 true true), HA.of (VP.eq ub true true), HA.of (VP.int .i64 d.most)]) (j := 3) (show 3 < 7 by decide)) rfl rfl ?_
          refine t_pick [0, 2, 1, 3, 4, 5, 6, 7] rfl ?_
          refine t_whole (whole_cells (T' := 64) (Rs := [R_sort d.sorts, R_fun d.funs, R_term (d.terms ++ [t]), R_int (d.of_ ++ [d.give t]), HA.of (VP.eq uh2 true true), HA.of (VP.eq ub true true), HA.of (VP.int .i64 d.most)]) (j := 4) (show 4 < 7 by decide)) rfl rfl ?_
          refine t_whole (whole_cells (T' := 64) (Rs := [R_sort d.sorts, R_fun d.funs, R_term (d.terms ++ [t]), R_int (d.of_ ++ [d.give t]), R_u64 (d.hashes ++ [hashT t]), HA.of (VP.eq ub true true), HA.of (VP.int .i64 d.most)]) (j := 5) (show 5 < 7 by decide)) rfl rfl ?_
          have hh1 : ({ d with of_ := d.of_ ++ [d.give t], terms := d.terms ++ [t], hashes := d.hashes ++ [hashT t] } : ArD).hashes.length ≤ 1000000 := by show (d.hashes ++ [hashT t]).length ≤ 1000000; rw [List.length_append]; simp only [List.length_cons, List.length_nil]; omega
          have ht1 : ({ d with of_ := d.of_ ++ [d.give t], terms := d.terms ++ [t], hashes := d.hashes ++ [hashT t] } : ArD).table.length ≤ 4000000 := by show d.table.length ≤ 4000000; omega
          refine t_rg [.is (.tmp 0) (VP.ptr v), .is (.tmp 7) (VP.int .u64 (hashT t)), .is (.tmp 10) (VP.int .i64 ((d.terms.length : Nat) : Int)), .own 101 (.val c3) (B_term t), .is (.tmp 105) (VP.bool (decide ((((d.terms ++ [t]).length : Nat) : Int) > ((d.table.length : Nat) : Int))))] [(1, .own 0 (.val v) (Arn ({ d with of_ := d.of_ ++ [d.give t], terms := d.terms ++ [t], hashes := d.hashes ++ [hashT t] } : ArD)))] [(0, .is (.tmp 106) (VP.ptr v)), (1, .own 116 (.tmp 107) (HA.of (VP.tup []))), (1, .own 0 (.val v) (Arn (({ d with of_ := d.of_ ++ [d.give t], terms := d.terms ++ [t], hashes := d.hashes ++ [hashT t] } : ArD).grow)))] [] [1, 2, 3, 4, 5] [0] [[], [0]] [[1], []] rfl rfl follow rfl ⟨
            wp rfl (does_move _ (.inl rfl) rfl rfl rfl rfl (ar_tmp (av_fs 0 rfl))),
            wp rfl (does_callG [] [0] [0] 116 [0, 1] (da_grow (v := v) (d := ({ d with of_ := d.of_ ++ [d.give t], terms := d.terms ++ [t], hashes := d.hashes ++ [hashT t] } : ArD)) (j := j) hT (by omega) hh1 ht1) rfl DagK_hb___collator_dag_Arena__grow rfl rfl rfl rfl rfl ar_clo (ars_cons (pa_vp (ar_tmp (av_rs 0 0 rfl rfl))) ars_nil) trivial ⟨(av_os 0 1 rfl rfl), trivial⟩),
            trivial⟩ ?_
          refine t_pick [0, 1, 2, 3, 6, 7] rfl ?_
          refine nx_then ?_
          refine t_pick [0, 1, 2, 3, 5] rfl ?_
          refine t_seq ?_
          refine t_rg [.is (.tmp 0) (VP.ptr v), .is (.tmp 7) (VP.int .u64 (hashT t)), .is (.tmp 10) (VP.int .i64 ((d.terms.length : Nat) : Int)), .own 101 (.val c3) (B_term t), .own 0 (.val v) (Arn (({ d with of_ := d.of_ ++ [d.give t], terms := d.terms ++ [t], hashes := d.hashes ++ [hashT t] } : ArD).grow))] [] [(0, .is (.tmp 108) (VP.int .i64 ((d.terms.length : Nat) : Int))), (1, .is (.tmp 4) (VP.int .i64 ((d.terms.length : Nat) : Int))), (2, .is (.tmp 5) (VP.int .i64 0))] [] [0, 1, 2, 3, 4] [] [[], [0], [0, 1]] [[1, 2], [2], []] rfl rfl follow rfl ⟨
            wp rfl (does_move _ (.inl rfl) rfl rfl rfl rfl (ar_tmp (av_fs 2 rfl))),
            wp rfl (does_move _ (.inr rfl) rfl rfl rfl rfl (ar_tmp (av_rs 0 0 rfl rfl))),
            wp rfl (does_move _ (.inr rfl) rfl rfl rfl rfl (ar_const (fun _ _ => rfl))),
            trivial⟩ ?_
          refine t_pick [0, 1, 2, 3, 4, 6, 7] rfl ?_
          refine nx_then ?_
          refine t_pick [4, 0, 1, 2, 3, 5, 6] rfl ?_
          refine t_weak (R' := Arn (d.put t)) (fun _ _ _ _ h => by unfold ArD.put; rw [show decide (((d.terms ++ [t]).length : Int) > (d.table.length : Int)) = true from hb5]; exact h) rfl ?_
          refine t_weak (R' := Arn (d.term t)) (fun _ _ _ _ h => by rw [(term_put hb1 hfi hb4).1]; exact h) rfl ?_
          refine t_ret ?_
          refine rt_then ?_
          exact rt_post [HA.of (VP.int .i64 (d.termR t)), HA.of (VP.int .i64 (d.termE t))] [[], []] [0] [0] rfl ⟨(rv_eq (congrArg HA.of (congrArg (VP.int .i64) (show ((d.terms.length : Nat) : Int) = (d.termR t) from (term_put hb1 hfi hb4).2.1.symm))) (rv_vp 5 rfl)), (rv_eq (congrArg HA.of (congrArg (VP.int .i64) (show 0 = (d.termE t) from (term_put hb1 hfi hb4).2.2.symm))) (rv_vp 6 rfl)), trivial⟩ (by decide) rfl rfl
        · have hc5 := of_decide_eq_false hb5
          refine t_skip ?_
          refine nx_then ?_
          refine t_seq ?_
          refine t_rg [.own 0 (.val v) (ArO us uf ut2 uo2 uh2 ub d.most), .own 115 (.val uh2) (R_u64 (d.hashes ++ [hashT t])), .own 114 (.val uo2) (R_int (d.of_ ++ [d.give t])), .own 113 (.val ut2) (R_term (d.terms ++ [t])), .is (.tmp 0) (VP.ptr v), .is (.tmp 7) (VP.int .u64 (hashT t)), .own 102 (.val us) (R_sort d.sorts), .own 103 (.val uf) (R_fun d.funs), .own 107 (.val ub) (HA.row 28 1 d.table.length ((d.table.map rowInt).set m (HA.of (VP.eq uk true true)))), .own 108 (.val uk) (R_int (d.bucket t)), .is (.tmp 10) (VP.int .i64 ((d.terms.length : Nat) : Int)), .own 101 (.val c3) (B_term t), .is (.tmp 105) (VP.bool (decide ((((d.terms ++ [t]).length : Nat) : Int) > ((d.table.length : Nat) : Int))))] [] [(0, .is (.tmp 109) (VP.ptr v)), (1, .is (.tmp 110) (VP.ptr v)), (2, .pt 111 (.blk (.val v) 5)), (3, .is (.tmp 112) (VP.eq ub true true)), (4, .is (.tmp 113) (VP.int .u64 (hashT t))), (5, .is (.tmp 114) (VP.int .i64 ((hashT t) % ((d.table.length : Nat) : Int)))), (6, .is (.tmp 11) (VP.int .i64 ((hashT t) % ((d.table.length : Nat) : Int))))] [] [0, 1, 2, 3, 4, 5, 6, 7, 8, 9, 10, 11, 12] [] DagK_p13_20 DagK_s13_20 rfl rfl follow rfl ⟨
            wp rfl (does_move _ (.inl rfl) rfl rfl rfl rfl (ar_tmp (av_fs 4 rfl))),
            wp rfl (does_nil _ rfl rfl rfl rfl rfl (ar_tmp (av_rs 0 0 rfl rfl))),
            wp rfl (does_field _ _ _ 5 DagK_f_dag_Arena_5 rfl rfl rfl rfl rfl rfl (pt_ptr (ar_tmp (av_rs 1 1 rfl rfl)))),
            wp rfl (does_loadOne _ DagK_one_dag_table rfl rfl rfl rfl rfl (pt_pt (av_rs 2 2 rfl rfl)) (rds_box (off := 5) (av_fs 0 rfl) (hq_one rfl))),
            wp rfl (does_move _ (.inl rfl) rfl rfl rfl rfl (ar_tmp (av_fs 5 rfl))),
            wp rfl (does_call (da_place (n := d.table.length) (j := j) hT (by omega) (hashT t)) (fun _ _ _ _ h => h) rfl DagK_hb__collator_dag_table__place rfl rfl rfl rfl ar_clo (ars_cons (pa_vp (ar_sln (sit_own (av_fs 8 rfl)) (ar_tmp (av_rs 3 3 rfl rfl)))) (ars_cons (pa_vp (ar_tmp (av_rs 4 4 rfl rfl))) ars_nil)) trivial),
            wp rfl (does_move _ (.inr rfl) rfl rfl rfl rfl (ar_tmp (av_rs 5 5 rfl rfl))),
            trivial⟩ ?_
          refine t_pick [0, 1, 2, 3, 4, 6, 7, 8, 9, 10, 11, 19] rfl ?_
          refine nx_then ?_
          refine t_seq ?_
          refine t_rg [.own 0 (.val v) (ArO us uf ut2 uo2 uh2 ub d.most), .own 115 (.val uh2) (R_u64 (d.hashes ++ [hashT t])), .own 114 (.val uo2) (R_int (d.of_ ++ [d.give t])), .own 113 (.val ut2) (R_term (d.terms ++ [t])), .is (.tmp 0) (VP.ptr v), .own 102 (.val us) (R_sort d.sorts), .own 103 (.val uf) (R_fun d.funs), .is (.tmp 10) (VP.int .i64 ((d.terms.length : Nat) : Int)), .own 101 (.val c3) (B_term t), .is (.tmp 11) (VP.int .i64 ((hashT t) % ((d.table.length : Nat) : Int)))] [(16, .own 107 (.val ub) (HA.row 28 1 d.table.length ((d.table.map rowInt).set m (HA.of (VP.eq uk true true))))), (14, .own 108 (.val uk) (R_int (d.bucket t)))] [(0, .is (.tmp 115) (VP.ptr v)), (1, .is (.tmp 116) (VP.ptr v)), (2, .pt 117 (.blk (.val v) 5)), (3, .is (.tmp 118) (VP.eq ub true true)), (4, .is (.tmp 119) (VP.int .i64 ((hashT t) % ((d.table.length : Nat) : Int)))), (5, .is (.tmp 120) (VP.ptr v)), (6, .is (.tmp 121) (VP.ptr v)), (7, .pt 122 (.blk (.val v) 5)), (8, .is (.tmp 123) (VP.eq ub true true)), (9, .is (.tmp 124) (VP.int .i64 ((hashT t) % ((d.table.length : Nat) : Int)))), (10, .pt 125 (.row (.val ub) (m * 1))), (11, .is (.tmp 126) (VP.eq uk true true)), (12, .is (.tmp 127) (VP.int .i64 ((d.terms.length : Nat) : Int))), (15, .pt 130 (.row (.val ub) (m * 1))), (16, .own 107 (.val ub) (rowsInt (d.table.set m ((d.bucket t) ++ [((d.terms.length : Nat) : Int)]))))] [(13, 14, .own 117 (.tmp 128) (R_int ([((d.terms.length : Nat) : Int)]))), (14, 16, .own 108 (.tmp 129) (R_int ((d.bucket t) ++ [((d.terms.length : Nat) : Int)])))] [0, 1, 2, 3, 4, 5, 6, 9, 10, 11] [7, 8] DagK_p13_21 DagK_s13_21 rfl rfl follow rfl ⟨
            wp rfl (does_move _ (.inl rfl) rfl rfl rfl rfl (ar_tmp (av_fs 4 rfl))),
            wp rfl (does_nil _ rfl rfl rfl rfl rfl (ar_tmp (av_rs 0 0 rfl rfl))),
            wp rfl (does_field _ _ _ 5 DagK_f_dag_Arena_5 rfl rfl rfl rfl rfl rfl (pt_ptr (ar_tmp (av_rs 1 1 rfl rfl)))),
            wp rfl (does_loadOne _ DagK_one_dag_table rfl rfl rfl rfl rfl (pt_pt (av_rs 2 2 rfl rfl)) (rds_box (off := 5) (av_fs 0 rfl) (hq_one rfl))),
            wp rfl (does_move _ (.inl rfl) rfl rfl rfl rfl (ar_tmp (av_fs 9 rfl))),
            wp rfl (does_move _ (.inl rfl) rfl rfl rfl rfl (ar_tmp (av_fs 4 rfl))),
            wp rfl (does_nil _ rfl rfl rfl rfl rfl (ar_tmp (av_rs 5 5 rfl rfl))),
            wp rfl (does_field _ _ _ 5 DagK_f_dag_Arena_5 rfl rfl rfl rfl rfl rfl (pt_ptr (ar_tmp (av_rs 6 6 rfl rfl)))),
            wp rfl (does_loadOne _ DagK_one_dag_table rfl rfl rfl rfl rfl (pt_pt (av_rs 7 7 rfl rfl)) (rds_box (off := 5) (av_fs 0 rfl) (hq_one rfl))),
            wp rfl (does_move _ (.inl rfl) rfl rfl rfl rfl (ar_tmp (av_fs 9 rfl))),
            wp rfl (does_index (m := m) _ _ Try.underlying60 DagK_size___int rfl rfl rfl rfl rfl _ (by omega) rfl (by omega) (sl_own (av_os 0 16 rfl rfl) (ar_tmp (av_rs 8 8 rfl rfl))) (ar_int_eq (by omega) (ar_tmp (av_rs 9 9 rfl rfl)))),
            wp rfl (does_loadOne _ DagK_one___int rfl rfl rfl rfl rfl (pt_pt (av_rs 10 10 rfl rfl)) (rds_row (av_os 0 16 rfl rfl) (hq_one (hole_get (by omega))))),
            wp rfl (does_move _ (.inl rfl) rfl rfl rfl rfl (ar_tmp (av_fs 7 rfl))),
            wp rfl (does_sliceLit (n := 1) DagK_el_int rfl (List.replicate 1 (VP.int .i64 0)) (z1_of (fun _ _ => rfl) rfl 1) rfl rfl rfl rfl rfl rfl rfl (.cons 0 [HA.of (VP.int .i64 ((d.terms.length : Nat) : Int))] none rfl rfl (cv_one rfl (mv_vp (ar_tmp (av_rs 12 12 rfl rfl)))) (.nil _))),
            wp rfl (does_append (n := (d.bucket t).length) (m := ([((d.terms.length : Nat) : Int)]).length) DagK_el_int rfl _ _ rfl rfl rfl rfl rfl (by simp only [List.length_append, List.length_nil, List.length_cons, Nat.zero_add]) (flat_cat (d.bucket t) ([((d.terms.length : Nat) : Int)])) rfl (by constructor <;> first | decide | omega | (simp only [List.length_append, List.length_cons, List.length_nil] at *; omega)) (flat_lenH cInt_len _) (flat_allH (fun _ => rfl) cInt_one _) (flat_allH (fun _ => rfl) cInt_nu _) (mv_ownv (av_os 1 14 rfl rfl) (ar_tmp (av_rs 11 11 rfl rfl))) (src_row (av_ms 0 13 14 rfl rfl rfl))),
            wp rfl (does_index (m := m) _ _ Try.underlying60 DagK_size___int rfl rfl rfl rfl rfl _ (by omega) rfl (by omega) (sl_own (av_os 0 16 rfl rfl) (ar_tmp (av_rs 3 3 rfl rfl))) (ar_int_eq (by omega) (ar_tmp (av_rs 4 4 rfl rfl)))),
            wp rfl (does_storeRow (off := m * 1) (n := d.table.length) (Rs := (d.table.map rowInt).set m (HA.of (VP.eq uk true true))) (Qs := [rowInt ((d.bucket t) ++ [((d.terms.length : Nat) : Int)])]) _ _ DagK_size___int rfl rfl rfl rfl (by rw [List.length_set]) (hole_put (by omega)) (by simp only [List.length_set, List.length_map, List.length_cons, List.length_nil]; omega) rfl (pt_pt (av_rs 13 15 rfl rfl)) (av_os 0 16 rfl rfl) (cv_one rfl (mv_own (av_ms 1 14 16 rfl rfl rfl)))),
            trivial⟩ ?_
          refine t_pick [0, 1, 2, 3, 5, 6, 7, 8, 24] rfl ?_
          refine nx_then ?_
          refine t_seq ?_
          refine t_rg [.own 0 (.val v) (ArO us uf ut2 uo2 uh2 ub d.most), .own 115 (.val uh2) (R_u64 (d.hashes ++ [hashT t])), .own 114 (.val uo2) (R_int (d.of_ ++ [d.give t])), .own 113 (.val ut2) (R_term (d.terms ++ [t])), .own 102 (.val us) (R_sort d.sorts), .own 103 (.val uf) (R_fun d.funs), .is (.tmp 10) (VP.int .i64 ((d.terms.length : Nat) : Int)), .own 101 (.val c3) (B_term t), .own 107 (.val ub) (rowsInt (d.table.set m ((d.bucket t) ++ [((d.terms.length : Nat) : Int)])))] [] [(0, .is (.tmp 131) (VP.int .i64 ((d.terms.length : Nat) : Int))), (1, .is (.tmp 4) (VP.int .i64 ((d.terms.length : Nat) : Int))), (2, .is (.tmp 5) (VP.int .i64 0))] [] [0, 1, 2, 3, 4, 5, 6, 7, 8] [] [[], [0], [0, 1]] [[1, 2], [2], []] rfl rfl follow rfl ⟨
            wp rfl (does_move _ (.inl rfl) rfl rfl rfl rfl (ar_tmp (av_fs 6 rfl))),
            wp rfl (does_move _ (.inr rfl) rfl rfl rfl rfl (ar_tmp (av_rs 0 0 rfl rfl))),
            wp rfl (does_move _ (.inr rfl) rfl rfl rfl rfl (ar_const (fun _ _ => rfl))),
            trivial⟩ ?_
          refine t_pick [0, 1, 2, 3, 4, 5, 7, 8, 10, 11] rfl ?_
          refine nx_then ?_
          refine t_pick [0, 4, 1, 2, 3, 5, 6, 7, 8, 9] rfl ?_
          refine t_whole (whole_cells (T' := 64) (Rs := [HA.of (VP.eq us true true), HA.of (VP.eq uf true true), HA.of (VP.eq ut2 true true), HA.of (VP.eq uo2 true true), HA.of (VP.eq uh2 true true), HA.of (VP.eq ub true true), HA.of (VP.int .i64 d.most)]) (j := 0) (show 0 < 7 by decide)) rfl rfl ?_
          refine t_pick [0, 4, 1, 2, 3, 5, 6, 7, 8] rfl ?_
          refine t_whole (whole_cells (T' := 64) (Rs := [R_sort d.sorts, HA.of (VP.eq uf true true), HA.of (VP.eq ut2 true true), HA.of (VP.eq uo2 true true), HA.of (VP.eq uh2 true true), HA.of (VP.eq ub true true), HA.of (VP.int .i64 d.most)]) (j := 1) (show 1 < 7 by decide)) rfl rfl ?_
          refine t_pick [0, 3, 1, 2, 4, 5, 6, 7] rfl ?_
          refine t_whole (whole_cells (T' := 64) (Rs := [R_sort d.sorts, R_fun d.funs, HA.of (VP.eq ut2 true true), HA.of (VP.eq uo2 true true), HA.of (VP.eq uh2 true true), HA.of (VP.eq ub true true), HA.of (VP.int .i64 d.most)]) (j := 2) (show 2 < 7 by decide)) rfl rfl ?_
          refine t_pick [0, 2, 1, 3, 4, 5, 6] rfl ?_
          refine t_whole (whole_cells (T' := 64) (Rs := [R_sort d.sorts, R_fun d.funs, R_term (d.terms ++ [t]), HA.of (VP.eq uo2 true true), HA.of (VP.eq uh2 true true), HA.of (VP.eq ub true true), HA.of (VP.int .i64 d.most)]) (j := 3) (show 3 < 7 by decide)) rfl rfl ?_
          refine t_whole (whole_cells (T' := 64) (Rs := [R_sort d.sorts, R_fun d.funs, R_term (d.terms ++ [t]), R_int (d.of_ ++ [d.give t]), HA.of (VP.eq uh2 true true), HA.of (VP.eq ub true true), HA.of (VP.int .i64 d.most)]) (j := 4) (show 4 < 7 by decide)) rfl rfl ?_
          refine t_pick [0, 2, 1, 3, 4] rfl ?_
          refine t_whole (whole_cells (T' := 64) (Rs := [R_sort d.sorts, R_fun d.funs, R_term (d.terms ++ [t]), R_int (d.of_ ++ [d.give t]), R_u64 (d.hashes ++ [hashT t]), HA.of (VP.eq ub true true), HA.of (VP.int .i64 d.most)]) (j := 5) (show 5 < 7 by decide)) rfl rfl ?_
          refine t_weak (R' := Arn (d.put t)) (fun _ _ _ _ h => by unfold ArD.put; rw [show decide (((d.terms ++ [t]).length : Int) > (d.table.length : Int)) = false from hb5]; rw [hme] at h; exact h) rfl ?_
          refine t_weak (R' := Arn (d.term t)) (fun _ _ _ _ h => by rw [(term_put hb1 hfi hb4).1]; exact h) rfl ?_
          refine t_ret ?_
          exact rt_post [HA.of (VP.int .i64 (d.termR t)), HA.of (VP.int .i64 (d.termE t))] [[], []] [0] [0] rfl ⟨(rv_eq (congrArg HA.of (congrArg (VP.int .i64) (show ((d.terms.length : Nat) : Int) = (d.termR t) from (term_put hb1 hfi hb4).2.1.symm))) (rv_vp 2 rfl)), (rv_eq (congrArg HA.of (congrArg (VP.int .i64) (show 0 = (d.termE t) from (term_put hb1 hfi hb4).2.2.symm))) (rv_vp 3 rfl)), trivial⟩ (by decide) rfl rfl

end O
end Go.Proofs.Ytapmngmpomhjmaa

/- New arenas; their buckets; what keeps an arena as it should be. -/
namespace Go.Proofs.Ytapmngmpomhjmaa
open Go.RowKit
namespace O

def boolS : SortD := ⟨ByteArray.mk #[66, 111, 111, 108], []⟩
def intS : SortD := ⟨ByteArray.mk #[73, 110, 116], []⟩
def newA (n : Int) : ArD := ⟨[boolS, intS], [], [], [], [], List.replicate 16 [], if 0 > (if 1048576 < n then 1048576 else n) then 0 else (if 1048576 < n then 1048576 else n)⟩
theorem ro_0 : ∀ Z v w S, (HA.of VP.nilS).p Z v w S → (HA.of (VP.ro 0 [])).p Z v w S := fun _ _ _ _ h => ⟨⟨none, 0, h.1, Nat.le_refl _, by simp [maxLen], .inl rfl⟩, h.2⟩
theorem new_sorts : ∀ Z v w S, (HA.row 57 2 2 [HA.of (VP.str (ByteArray.mk #[66, 111, 111, 108])), HA.of VP.nilS, HA.of (VP.str (ByteArray.mk #[73, 110, 116])), HA.of VP.nilS]).p Z v w S → (HA.row 57 2 [boolS, intS].length (([boolS, intS].flatMap cSort).map HA.of)).p Z v w S :=
  row_weak rfl fun j R R' h1 h2 => by
    match j with
    | 0 => simp at h1; have h2 : some (HA.of (VP.str (ByteArray.mk #[66, 111, 111, 108]))) = some R' := h2; injection h2 with h2; subst h1 h2; exact fun _ _ _ _ h => h
    | 1 => simp at h1; have h2 : some (HA.of (VP.ro 0 [])) = some R' := h2; injection h2 with h2; subst h1 h2; exact ro_0
    | 2 => simp at h1; have h2 : some (HA.of (VP.str (ByteArray.mk #[73, 110, 116]))) = some R' := h2; injection h2 with h2; subst h1 h2; exact fun _ _ _ _ h => h
    | 3 => simp at h1; have h2 : some (HA.of (VP.ro 0 [])) = some R' := h2; injection h2 with h2; subst h1 h2; exact ro_0
    | j + 4 => simp at h1
/-! what keeps an arena as it should be -/
theorem newA_ok (n : Int) (hn : n ≤ 100000) : (newA n).Ok where
  of_ := rfl
  ha := rfl
  tab := ⟨4, rfl, Nat.le_refl _⟩
  ent := fun b hb => by
    have : b = [] := (List.mem_replicate.1 hb).2
    subst this; exact ⟨Nat.le_refl _, fun x hx => by cases hx⟩
  kids := fun i t h => by simp [newA] at h
  few := by simp [newA]
  most := by show (if 0 > (if 1048576 < n then (1048576 : Int) else n) then (0 : Int) else (if 1048576 < n then 1048576 else n)) ≤ 100000; split <;> (try split) <;> omega
theorem growT_ent {hs : List Int} {n : Nat} : ∀ (k : Nat) (b : List Int), b ∈ growT hs n k → ∀ x ∈ b, 0 ≤ x ∧ x < (k : Int)
  | 0, b, hb, x, hx => by
    unfold growT at hb
    rw [(List.mem_replicate.1 hb).2] at hx; cases hx
  | k + 1, b, hb, x, hx => by
    have ih := growT_ent (hs := hs) (n := n) k
    have hb : b ∈ addT (growT hs n k) ((hs[k]?).getD 0) (k : Int) := hb
    unfold addT at hb
    rcases List.mem_or_eq_of_mem_set hb with hb | rfl
    · have := ih b hb x hx; omega
    · rw [List.mem_append, List.mem_singleton] at hx
      rcases hx with hx | rfl
      · rcases Nat.lt_or_ge (((hs[k]?).getD 0) % ((growT hs n k).length : Int)).toNat (growT hs n k).length with h | h
        · rw [List.getElem?_eq_getElem h] at hx
          have := ih _ (List.getElem_mem h) x hx; omega
        · rw [List.getElem?_eq_none h] at hx; cases hx
      · omega
theorem growT_len_of {hs : List Int} {n k : Nat} {b : List Int} (h : b ∈ growT hs n k) : b.length ≤ k := by
  obtain ⟨m, hm, rfl⟩ := List.mem_iff_getElem.1 h
  have := growT_bk (hs := hs) (n := n) m k
  rw [List.getElem?_eq_getElem hm] at this; exact this
section
variable {d : ArD} {t : TermD}
theorem lay_kids (h : d.Ok) (hk : ∀ k ∈ t.kids, 0 ≤ k ∧ k < d.terms.length) : (d.lay t).kidsOk := fun i u hu k hm => by
  have hu : (d.terms ++ [t])[i]? = some u := hu
  rw [List.getElem?_append] at hu
  split at hu
  · exact h.kids i u hu k hm
  · have h0 := (List.getElem?_eq_some_iff.1 hu).1
    have e : i - d.terms.length = 0 := by simpa using h0
    rw [e] at hu
    simp at hu
    subst hu
    have := hk k hm
    omega
theorem put_ok (h : d.Ok) (hk : ∀ k ∈ t.kids, 0 ≤ k ∧ k < d.terms.length) (hm : d.full = false) : (d.put t).Ok := by
  have hlen : (d.terms ++ [t]).length = d.terms.length + 1 := by simp
  have hmm := of_decide_eq_false hm
  have hmo := h.most
  obtain ⟨j, hT, hTb⟩ := h.tab
  have hT1 : 1 ≤ d.table.length := by rw [hT]; exact Nat.one_le_two_pow
  unfold ArD.put
  rcases Bool.eq_false_or_eq_true (decide (((d.terms ++ [t]).length : Int) > (d.table.length : Int))) with hg | hg
  · rw [hg]
    have hg := of_decide_eq_true hg
    exact {
      of_ := by show (d.of_ ++ [d.give t]).length = (d.terms ++ [t]).length; rw [hlen, List.length_append, h.of_]; rfl
      ha := by show (d.hashes ++ [hashT t]).length = (d.terms ++ [t]).length; rw [hlen, List.length_append, h.ha]; rfl
      tab := ⟨j + 1, by show (growT _ (2 * d.table.length) _).length = _; rw [growT_len, hT, Nat.pow_succ, Nat.mul_comm], by show 2 ^ (j + 1) ≤ 2 * (d.terms ++ [t]).length + 16; rw [Nat.pow_succ, ← hT]; omega⟩
      ent := fun b hb => by
        have hb : b ∈ growT (d.hashes ++ [hashT t]) (2 * d.table.length) (d.hashes ++ [hashT t]).length := hb
        have e : (d.hashes ++ [hashT t]).length = (d.terms ++ [t]).length := by rw [hlen, List.length_append, h.ha]; rfl
        rw [e] at hb
        exact ⟨growT_len_of hb, growT_ent _ b hb⟩
      kids := lay_kids h hk
      few := by show (d.terms ++ [t]).length ≤ 100000; omega
      most := h.most }
  · rw [hg]
    exact {
      of_ := by show (d.of_ ++ [d.give t]).length = (d.terms ++ [t]).length; rw [hlen, List.length_append, h.of_]; rfl
      ha := by show (d.hashes ++ [hashT t]).length = (d.terms ++ [t]).length; rw [hlen, List.length_append, h.ha]; rfl
      tab := ⟨j, by show (d.table.set _ _).length = _; rw [List.length_set, hT], by show 2 ^ j ≤ 2 * (d.terms ++ [t]).length + 16; omega⟩
      ent := fun b hb => by
        show b.length ≤ (d.terms ++ [t]).length ∧ ∀ x ∈ b, 0 ≤ x ∧ x < (((d.terms ++ [t]).length : Nat) : Int)
        rcases List.mem_or_eq_of_mem_set hb with hb | rfl
        · have h1 := h.ent b hb
          refine ⟨by omega, fun x hx => ?_⟩
          have := h1.2 x hx; omega
        · have h1 : (d.bucket t).length ≤ d.terms.length ∧ ∀ x ∈ d.bucket t, 0 ≤ x ∧ x < d.terms.length := by
            unfold ArD.bucket
            rcases Nat.lt_or_ge (d.bk t) d.table.length with h' | h'
            · rw [List.getElem?_eq_getElem h']; exact h.ent _ (List.getElem_mem h')
            · rw [List.getElem?_eq_none h']; exact ⟨Nat.zero_le _, fun x hx => by cases hx⟩
          refine ⟨by rw [List.length_append, List.length_cons, List.length_nil]; omega, fun x hx => ?_⟩
          rw [List.mem_append, List.mem_singleton] at hx
          rcases hx with hx | rfl
          · have := h1.2 x hx; omega
          · omega
      kids := lay_kids h hk
      few := by show (d.terms ++ [t]).length ≤ 100000; omega
      most := h.most }
/-- what a term does to an arena -/
theorem term_cases (d : ArD) (t : TermD) : (d.term t = d ∧ (d.termE t ≠ 0 ∨ ∃ x, d.find t = some x ∧ d.termR t = x ∧ d.termE t = 0 ∧ (d.fits t != 0) = false)) ∨ (d.term t = d.put t ∧ d.termE t = 0 ∧ d.termR t = d.terms.length ∧ (d.fits t != 0) = false ∧ d.full = false ∧ d.find t = none) := by
  rcases Bool.eq_false_or_eq_true (d.fits t != 0) with h | h
  · obtain ⟨h1, h2, h3⟩ := term_bad h
    exact .inl ⟨h1, .inl (by rw [h3]; exact bne_iff_ne.1 h)⟩
  · rcases hf : d.find t with _ | x
    · rcases Bool.eq_false_or_eq_true d.full with hm | hm
      · obtain ⟨h1, h2, h3⟩ := term_full h hf hm
        exact .inl ⟨h1, .inl (by rw [h3]; decide)⟩
      · obtain ⟨h1, h2, h3⟩ := term_put h hf hm
        exact .inr ⟨h1, h3, h2, h, hm, rfl⟩
    · obtain ⟨h1, h2, h3⟩ := term_hit h hf
      exact .inl ⟨h1, .inr ⟨x, rfl, h2, h3, h⟩⟩
theorem term_ok (h : d.Ok) (t : TermD) : (d.term t).Ok := by
  rcases term_cases d t with ⟨e, _⟩ | ⟨e, _, _, hf, hm, _⟩
  · rw [e]; exact h
  · rw [e]; exact put_ok h (unthere_no (fits_0 hf).2.1) hm
theorem sort_ok (h : d.Ok) (n : ByteArray) (q : List Int) : (d.sort n q).Ok := by
  unfold ArD.sort
  split
  · exact h
  · split
    · exact ⟨h.of_, h.ha, h.tab, h.ent, h.kids, h.few, h.most⟩
    · exact h
theorem fun_ok (h : d.Ok) (f : FunD) : (d.fun_ f).Ok := by
  unfold ArD.fun_
  split
  · exact h
  · exact ⟨h.of_, h.ha, h.tab, h.ent, h.kids, h.few, h.most⟩
end
theorem DagL_zero_api_Sort : zeroOf Try.prog 57 [(.string (ByteArray.mk #[])), (.slice none 0 0)] := by unfold zeroOf; kernel_rfl
theorem DagL_pl_api_Sort : placesOf Try.prog 57 #[(0, 1), (1, 1)] := ⟨_, Try.underlying57, fun w => by kernel_rfl⟩
theorem DagL_el_sort : Elem Try.prog 53 57 (.agg #[.string (ByteArray.mk #[]), .slice none 0 0]) 2 40 := Elem.mk Try.underlying53 (by kernel_rfl) rfl (by decide)
theorem DagL_el_dag_table : Elem Try.prog 60 28 (.slice none 0 0) 1 24 := Elem.mk Try.underlying60 (by kernel_rfl) rfl (by decide)
theorem DagL_zero_dag_Arena : zeroOf Try.prog 64 [(.slice none 0 0), (.slice none 0 0), (.slice none 0 0), (.slice none 0 0), (.slice none 0 0), (.slice none 0 0), (.int .i64 0)] := by unfold zeroOf; kernel_rfl
theorem DagL_pl_dag_Arena : placesOf Try.prog 64 #[(0, 1), (1, 1), (2, 1), (3, 1), (4, 1), (5, 1), (6, 1)] := ⟨_, Try.underlying64, fun w => by kernel_rfl⟩
abbrev DagL_p9_1 : Tab2 := [[], [], [0, 1], [], [], [4], [4, 5], [0, 1, 2, 3, 4, 5, 6], [0, 1, 2, 3, 4, 5, 6, 7], [0, 1, 2, 3, 4, 5, 6, 7, 8]]
abbrev DagL_s9_1 : Tab2 := [[2, 7, 8, 9], [2, 7, 8, 9], [7, 8, 9], [7, 8, 9], [5, 6, 7, 8, 9], [6, 7, 8, 9], [7, 8, 9], [8, 9], [9], []]
set_option maxRecDepth 100000 in
set_option maxHeartbeats 4000000 in
theorem da_New (n : Int) : SpecO Try.prog 9 [.vp (VP.int .i64 n)] [] [] [] (Arn (newA n)) := by
  refine spec_of 12 Try.func9 rfl Try.ntmps9 rfl fun w0 S0 Z0 Bf => ?_
  refine t_seq ?_
  refine t_rg [.is (.tmp 0) (VP.int .i64 n)] [] [(0, .is (.tmp 2) (VP.nilP))] [] [0] [] [[]] [[]] rfl rfl follow rfl ⟨
    wp rfl (does_move _ (.inr rfl) rfl rfl rfl rfl (ar_const (fun _ _ => rfl))),
    trivial⟩ ?_
  refine nx_then ?_
  refine t_seq ?_
  refine t_rg [.is (.tmp 0) (VP.int .i64 n)] [(9, .is (.tmp 2) (VP.nilP))] [(0, .is (.tmp 3) (VP.agg [VP.str (ByteArray.mk #[66, 111, 111, 108]), VP.nilS])), (1, .is (.tmp 4) (VP.agg [VP.str (ByteArray.mk #[73, 110, 116]), VP.nilS])), (4, .is (.tmp 7) (VP.int .i64 n)), (5, .is (.tmp 8) (VP.int .i64 (if 1048576 < n then 1048576 else n))), (6, .is (.tmp 9) (VP.int .i64 (if 0 > (if 1048576 < n then 1048576 else n) then 0 else (if 1048576 < n then 1048576 else n)))), (8, .own 104 (.tmp 11) (HA.cells 64 [HA.row 57 2 2 [HA.of (VP.str (ByteArray.mk #[66, 111, 111, 108])), HA.of (VP.nilS), HA.of (VP.str (ByteArray.mk #[73, 110, 116])), HA.of (VP.nilS)], HA.of (VP.nilS), HA.of (VP.nilS), HA.of (VP.nilS), HA.of (VP.nilS), HA.row 28 1 16 ((List.replicate 16 VP.nilS).map HA.of), HA.of (VP.int .i64 (if 0 > (if 1048576 < n then 1048576 else n) then 0 else (if 1048576 < n then 1048576 else n)))])), (9, .eq 2 (.tmp 11))] [(2, 7, .own 101 (.tmp 5) (HA.row 57 2 2 [HA.of (VP.str (ByteArray.mk #[66, 111, 111, 108])), HA.of (VP.nilS), HA.of (VP.str (ByteArray.mk #[73, 110, 116])), HA.of (VP.nilS)])), (3, 7, .own 102 (.tmp 6) (HA.row 28 1 16 ((List.replicate 16 VP.nilS).map HA.of))), (7, 8, .own 103 (.tmp 10) (HA.agg [HA.row 57 2 2 [HA.of (VP.str (ByteArray.mk #[66, 111, 111, 108])), HA.of (VP.nilS), HA.of (VP.str (ByteArray.mk #[73, 110, 116])), HA.of (VP.nilS)], HA.of (VP.nilS), HA.of (VP.nilS), HA.of (VP.nilS), HA.of (VP.nilS), HA.row 28 1 16 ((List.replicate 16 VP.nilS).map HA.of), HA.of (VP.int .i64 (if 0 > (if 1048576 < n then 1048576 else n) then 0 else (if 1048576 < n then 1048576 else n)))]))] [0] [1] DagL_p9_1 DagL_s9_1 rfl rfl follow rfl ⟨
    wp rfl (does_build [VP.str (ByteArray.mk #[]), VP.nilS] DagL_zero_api_Sort DagL_pl_api_Sort rfl rfl rfl rfl rfl (fun _ _ => ⟨rfl, rfl, trivial⟩) (.cons 0 [HA.of (VP.str (ByteArray.mk #[66, 111, 111, 108]))] none rfl rfl (cv_one rfl (mv_vp (ar_const (fun _ _ => rfl)))) (.nil _))),
    wp rfl (does_build [VP.str (ByteArray.mk #[]), VP.nilS] DagL_zero_api_Sort DagL_pl_api_Sort rfl rfl rfl rfl rfl (fun _ _ => ⟨rfl, rfl, trivial⟩) (.cons 0 [HA.of (VP.str (ByteArray.mk #[73, 110, 116]))] none rfl rfl (cv_one rfl (mv_vp (ar_const (fun _ _ => rfl)))) (.nil _))),
    wp rfl (does_sliceLit (n := 2) DagL_el_sort rfl [VP.str (ByteArray.mk #[]), VP.nilS, VP.str (ByteArray.mk #[]), VP.nilS] (fun _ _ => by rw [show zerosOf (.agg #[.string (ByteArray.mk #[]), .slice none 0 0]) (2 * 2) = [.string (ByteArray.mk #[]), .slice none 0 0, .string (ByteArray.mk #[]), .slice none 0 0] by kernel_rfl]; exact ⟨rfl, rfl, rfl, rfl, trivial⟩) rfl rfl rfl rfl rfl rfl rfl (.cons 0 [HA.of (VP.str (ByteArray.mk #[66, 111, 111, 108])), HA.of (VP.nilS)] none rfl rfl (cv_agg (ps := [VP.str (ByteArray.mk #[66, 111, 111, 108]), VP.nilS]) (ar_tmp (av_rs 0 0 rfl rfl))) (.cons 2 [HA.of (VP.str (ByteArray.mk #[73, 110, 116])), HA.of (VP.nilS)] none rfl rfl (cv_agg (ps := [VP.str (ByteArray.mk #[73, 110, 116]), VP.nilS]) (ar_tmp (av_rs 1 1 rfl rfl))) (.nil _)))),
    wp rfl (does_make (n := 16) (ps := List.replicate 16 VP.nilS) DagL_el_dag_table rfl _ _ rfl rfl rfl rfl rfl rfl (by simp) (zsn_of _) (by constructor <;> first | decide | omega) (ar_int_eq rfl (ar_const (fun _ _ => rfl))) (ar_int_eq rfl (ar_const (fun _ _ => rfl)))),
    wp rfl (does_move _ (.inl rfl) rfl rfl rfl rfl (ar_tmp (av_fs 0 rfl))),
    wp rfl (does_min (m := n) (n := 1048576) _ _ rfl rfl rfl rfl rfl (ar_tmp (av_rs 2 4 rfl rfl)) (ar_const (fun _ _ => rfl))),
    wp rfl (does_max (m := (if 1048576 < n then 1048576 else n)) (n := 0) _ _ rfl rfl rfl rfl rfl (ar_tmp (av_rs 3 5 rfl rfl)) (ar_const (fun _ _ => rfl))),
    wp rfl (does_buildO [VP.nilS, VP.nilS, VP.nilS, VP.nilS, VP.nilS, VP.nilS, VP.int .i64 0] DagL_zero_dag_Arena DagL_pl_dag_Arena rfl rfl rfl rfl rfl (fun _ _ => ⟨rfl, rfl, rfl, rfl, rfl, rfl, rfl, trivial⟩) rfl (.cons 0 [HA.row 57 2 2 [HA.of (VP.str (ByteArray.mk #[66, 111, 111, 108])), HA.of (VP.nilS), HA.of (VP.str (ByteArray.mk #[73, 110, 116])), HA.of (VP.nilS)]] (some 101) rfl rfl (cv_one rfl (mv_own (av_ms 0 2 7 rfl rfl rfl))) (.cons 5 [HA.row 28 1 16 ((List.replicate 16 VP.nilS).map HA.of)] (some 102) rfl rfl (cv_one rfl (mv_own (av_ms 1 3 7 rfl rfl rfl))) (.cons 6 [HA.of (VP.int .i64 (if 0 > (if 1048576 < n then 1048576 else n) then 0 else (if 1048576 < n then 1048576 else n)))] none rfl rfl (cv_one rfl (mv_vp (ar_tmp (av_rs 4 6 rfl rfl)))) (.nil _))))),
    wp rfl (does_box (Rs := [HA.row 57 2 2 [HA.of (VP.str (ByteArray.mk #[66, 111, 111, 108])), HA.of (VP.nilS), HA.of (VP.str (ByteArray.mk #[73, 110, 116])), HA.of (VP.nilS)], HA.of (VP.nilS), HA.of (VP.nilS), HA.of (VP.nilS), HA.of (VP.nilS), HA.row 28 1 16 ((List.replicate 16 VP.nilS).map HA.of), HA.of (VP.int .i64 (if 0 > (if 1048576 < n then 1048576 else n) then 0 else (if 1048576 < n then 1048576 else n)))]) _ rfl rfl rfl rfl rfl rfl (cv_oagg (mv_own (av_ms 2 7 8 rfl rfl rfl)))),
    wp rfl (does_eqTmp (k := 11) _ rfl (.inr rfl) rfl rfl rfl rfl rfl),
    trivial⟩ ?_
  refine t_pick [6, 7] rfl ?_
  refine nx_then ?_
  refine t_nameP rfl fun v1 => ?_
  refine t_pick [2, 1, 0] rfl ?_
  refine t_eq ?_
  refine t_pick [0, 2] rfl ?_
  refine t_pick [1, 0] rfl ?_
  refine t_weak (cells_weak (T := 64) (Rs := [HA.row 57 2 2 [HA.of (VP.str (ByteArray.mk #[66, 111, 111, 108])), HA.of (VP.nilS), HA.of (VP.str (ByteArray.mk #[73, 110, 116])), HA.of (VP.nilS)], HA.of (VP.nilS), HA.of (VP.nilS), HA.of (VP.nilS), HA.of (VP.nilS), HA.row 28 1 16 ((List.replicate 16 VP.nilS).map HA.of), HA.of (VP.int .i64 (if 0 > (if 1048576 < n then 1048576 else n) then 0 else (if 1048576 < n then 1048576 else n)))]) (R' := R_sort ([boolS, intS])) 0 rfl new_sorts) rfl ?_
  refine t_weak (cells_weak (T := 64) (Rs := [R_sort ([boolS, intS]), HA.of (VP.nilS), HA.of (VP.nilS), HA.of (VP.nilS), HA.of (VP.nilS), HA.row 28 1 16 ((List.replicate 16 VP.nilS).map HA.of), HA.of (VP.int .i64 (if 0 > (if 1048576 < n then 1048576 else n) then 0 else (if 1048576 < n then 1048576 else n)))]) (R' := R_fun ([] : List FunD)) 1 rfl nil_row) rfl ?_
  refine t_weak (cells_weak (T := 64) (Rs := [R_sort ([boolS, intS]), R_fun ([] : List FunD), HA.of (VP.nilS), HA.of (VP.nilS), HA.of (VP.nilS), HA.row 28 1 16 ((List.replicate 16 VP.nilS).map HA.of), HA.of (VP.int .i64 (if 0 > (if 1048576 < n then 1048576 else n) then 0 else (if 1048576 < n then 1048576 else n)))]) (R' := R_term ([] : List TermD)) 2 rfl nil_row) rfl ?_
  refine t_weak (cells_weak (T := 64) (Rs := [R_sort ([boolS, intS]), R_fun ([] : List FunD), R_term ([] : List TermD), HA.of (VP.nilS), HA.of (VP.nilS), HA.row 28 1 16 ((List.replicate 16 VP.nilS).map HA.of), HA.of (VP.int .i64 (if 0 > (if 1048576 < n then 1048576 else n) then 0 else (if 1048576 < n then 1048576 else n)))]) (R' := R_int ([] : List Int)) 3 rfl nil_row) rfl ?_
  refine t_weak (cells_weak (T := 64) (Rs := [R_sort ([boolS, intS]), R_fun ([] : List FunD), R_term ([] : List TermD), R_int ([] : List Int), HA.of (VP.nilS), HA.row 28 1 16 ((List.replicate 16 VP.nilS).map HA.of), HA.of (VP.int .i64 (if 0 > (if 1048576 < n then 1048576 else n) then 0 else (if 1048576 < n then 1048576 else n)))]) (R' := R_u64 ([] : List Int)) 4 rfl nil_row) rfl ?_
  refine t_weak (cells_weak (T := 64) (Rs := [R_sort ([boolS, intS]), R_fun ([] : List FunD), R_term ([] : List TermD), R_int ([] : List Int), R_u64 ([] : List Int), HA.row 28 1 16 ((List.replicate 16 VP.nilS).map HA.of), HA.of (VP.int .i64 (if 0 > (if 1048576 < n then 1048576 else n) then 0 else (if 1048576 < n then 1048576 else n)))]) (R' := rowsInt (List.replicate 16 ([] : List Int))) 5 rfl (nil_rows (g := rowInt) rfl)) rfl ?_
  refine t_ret ?_
  exact rt_post [Arn (newA n)] [[104]] [] [] rfl ⟨(rv_ptr 0 1 rfl rfl), trivial⟩ (by decide) rfl rfl

end O
end Go.Proofs.Ytapmngmpomhjmaa

/- What the laws ask of all acts. -/
namespace Go.Proofs.Ytapmngmpomhjmaa
open Go.RowKit
namespace O

structure ActD where
  what : Int
  name : ByteArray
  args : List Int
  res : Int
  term : TermD
def cActD (a : ActD) : List VP := [VP.int .i64 a.what, VP.str a.name, VP.ro a.args.length (a.args.flatMap cInt), VP.int .i64 a.res, VP.int .i64 a.term.op, VP.int .i64 a.term.fn, VP.ro a.term.kids.length (a.term.kids.flatMap cInt), VP.str a.term.num]
theorem cActD_len (a : ActD) : (cActD a).length = 8 := rfl
theorem cActD_one (a : ActD) : (cActD a).all (·.one) = true := rfl
theorem cActD_nu (a : ActD) : (cActD a).all (·.nu) = true := rfl
abbrev R_act6 (l : List ActD) : HA := HA.row 32 8 l.length ((l.flatMap cActD).map HA.of)
abbrev S_act6 (l : List ActD) : HA := HA.slc l.length (l.flatMap cActD)
abbrev O_act6 (l : List ActD) : VP := VP.ro l.length (l.flatMap cActD)
abbrev B_act6 (x : ActD) : HA := HA.cells 32 [HA.of (VP.int .i64 x.what), HA.of (VP.str x.name), HA.of (O_int x.args), HA.of (VP.int .i64 x.res), HA.of (VP.int .i64 x.term.op), HA.of (VP.int .i64 x.term.fn), HA.of (O_int x.term.kids), HA.of (VP.str x.term.num)]
def bigA (a : ActD) : Bool := decide (((a.name.size : Nat) : Int) > 60) || decide (((a.args.length : Nat) : Int) > 12) || decide (((a.term.kids.length : Nat) : Int) > 12) || decide (((a.term.num.size : Nat) : Int) > 60)
def greatL (l : List ActD) : Bool := bif decide (((l.length : Nat) : Int) > 80) then true else l.any bigA
theorem great_no {l : List ActD} (h : greatL l = false) : l.length ≤ 80 ∧ ∀ a ∈ l, a.name.size ≤ 60 ∧ a.args.length ≤ 12 ∧ a.term.kids.length ≤ 12 ∧ a.term.num.size ≤ 60 := by
  unfold greatL at h
  rcases Bool.eq_false_or_eq_true (decide (((l.length : Nat) : Int) > 80)) with h1 | h1
  · rw [h1] at h; cases h
  rw [h1] at h
  have h1 := of_decide_eq_false h1
  refine ⟨by omega, fun a ha => ?_⟩
  have := List.any_eq_false.1 h a ha
  simp only [bigA, Bool.not_eq_true, Bool.or_eq_false_iff, decide_eq_false_iff_not] at this
  omega
theorem any_hit {α : Type} {g : α → Bool} {l : List α} {k : Nat} {x : α} (hx : l[k]? = some x) (h : g x = true) : l.any g = true := List.any_eq_true.2 ⟨x, List.mem_of_getElem? hx, h⟩
theorem any_miss {α : Type} {g : α → Bool} {l : List α} {k : Nat} (h : ∀ j y, j < k → l[j]? = some y → g y = false) (hk : l.length ≤ k) : l.any g = false := List.any_eq_false.2 fun x hx => by
  obtain ⟨j, hj, rfl⟩ := List.mem_iff_getElem.1 hx
  rw [h j _ (by omega) (List.getElem?_eq_getElem hj)]; exact Bool.false_ne_true
theorem DagM_agg_collatorlaw06_Act : aggTy Try.prog 32 8 = true := by kernel_rfl
theorem DagM_size_collatorlaw06_Act : ∀ w, (sizeOf 32).run Try.prog w = .ok 8 w := run_sizeAgg DagM_agg_collatorlaw06_Act
theorem DagM_zero_collatorlaw06_Act : zeroOf Try.prog 32 [(.int .i64 0), (.string (ByteArray.mk #[])), (.slice none 0 0), (.int .i64 0), (.int .i64 0), (.int .i64 0), (.slice none 0 0), (.string (ByteArray.mk #[]))] := by unfold zeroOf; kernel_rfl
theorem DagM_f_collatorlaw06_Act_1 : fieldAt Try.prog 32 1 1 = true := by kernel_rfl
theorem DagM_one_string : oneTy Try.prog 9 = true := by kernel_rfl
abbrev DagM_p8_6 : Tab2 := [[], [0], [0, 1], [0, 1, 2], [0, 1, 2, 3], [0, 1, 2, 3, 4], [0, 1, 2, 3, 4, 5], [0, 1, 2, 3, 4, 5, 6], [0, 1, 2, 3, 4, 5, 6, 7], [0, 1, 2, 3, 4, 5, 6, 7, 8], [0, 1, 2, 3, 4, 5, 6, 7, 8, 9], [0, 1, 2, 3, 4, 5, 6, 7, 8, 9, 10], [0, 1, 2, 3, 4, 5, 6, 7, 8, 9, 10, 11], [0, 1, 2, 3, 4, 5, 6, 7, 8, 9, 10, 11, 12], [0, 1, 2, 3, 4, 5, 6, 7, 8, 9, 10, 11, 12, 13], [0, 1, 2, 3, 4, 5, 6, 7, 8, 9, 10, 11, 12, 13, 14], [0, 1, 2, 3, 4, 5, 6, 7, 8, 9, 10, 11, 12, 13, 14, 15], [0, 1, 2, 3, 4, 5, 6, 7, 8, 9, 10, 11, 12, 13, 14, 15, 16], [0, 1, 2, 3, 4, 5, 6, 7, 8, 9, 10, 11, 12, 13, 14, 15, 16, 17], [0, 1, 2, 3, 4, 5, 6, 7, 8, 9, 10, 11, 12, 13, 14, 15, 16, 17, 18], [0, 1, 2, 3, 4, 5, 6, 7, 8, 9, 10, 11, 12, 13, 14, 15, 16, 17, 18, 19], [0, 1, 2, 3, 4, 5, 6, 7, 8, 9, 10, 11, 12, 13, 14, 15, 16, 17, 18, 19, 20], [0, 1, 2, 3, 4, 5, 6, 7, 8, 9, 10, 11, 12, 13, 14, 15, 16, 17, 18, 19, 20, 21], [0, 1, 2, 3, 4, 5, 6, 7, 8, 9, 10, 11, 12, 13, 14, 15, 16, 17, 18, 19, 20, 21, 22]]
abbrev DagM_s8_6 : Tab2 := [[1, 2, 3, 4, 5, 6, 7, 8, 9, 10, 11, 12, 13, 14, 15, 16, 17, 18, 19, 20, 21, 22, 23], [2, 3, 4, 5, 6, 7, 8, 9, 10, 11, 12, 13, 14, 15, 16, 17, 18, 19, 20, 21, 22, 23], [3, 4, 5, 6, 7, 8, 9, 10, 11, 12, 13, 14, 15, 16, 17, 18, 19, 20, 21, 22, 23], [4, 5, 6, 7, 8, 9, 10, 11, 12, 13, 14, 15, 16, 17, 18, 19, 20, 21, 22, 23], [5, 6, 7, 8, 9, 10, 11, 12, 13, 14, 15, 16, 17, 18, 19, 20, 21, 22, 23], [6, 7, 8, 9, 10, 11, 12, 13, 14, 15, 16, 17, 18, 19, 20, 21, 22, 23], [7, 8, 9, 10, 11, 12, 13, 14, 15, 16, 17, 18, 19, 20, 21, 22, 23], [8, 9, 10, 11, 12, 13, 14, 15, 16, 17, 18, 19, 20, 21, 22, 23], [9, 10, 11, 12, 13, 14, 15, 16, 17, 18, 19, 20, 21, 22, 23], [10, 11, 12, 13, 14, 15, 16, 17, 18, 19, 20, 21, 22, 23], [11, 12, 13, 14, 15, 16, 17, 18, 19, 20, 21, 22, 23], [12, 13, 14, 15, 16, 17, 18, 19, 20, 21, 22, 23], [13, 14, 15, 16, 17, 18, 19, 20, 21, 22, 23], [14, 15, 16, 17, 18, 19, 20, 21, 22, 23], [15, 16, 17, 18, 19, 20, 21, 22, 23], [16, 17, 18, 19, 20, 21, 22, 23], [17, 18, 19, 20, 21, 22, 23], [18, 19, 20, 21, 22, 23], [19, 20, 21, 22, 23], [20, 21, 22, 23], [21, 22, 23], [22, 23], [23], []]
theorem DagM_f_collatorlaw06_Act_2 : fieldAt Try.prog 32 2 2 = true := by kernel_rfl
theorem DagM_one___int : oneTy Try.prog 28 = true := by kernel_rfl
theorem DagM_f_collatorlaw06_Act_4 : fieldAt Try.prog 32 4 4 = true := by kernel_rfl
theorem DagM_f_api_Term_2 : fieldAt Try.prog 30 2 2 = true := by kernel_rfl
theorem DagM_f_api_Term_3 : fieldAt Try.prog 30 3 3 = true := by kernel_rfl
theorem DagM_hb_collator_dag_New : hasBody Try.prog 9 = true := by kernel_rfl
theorem DagM_zero_api_Term : zeroOf Try.prog 30 [(.int .i64 0), (.int .i64 0), (.slice none 0 0), (.string (ByteArray.mk #[]))] := by unfold zeroOf; kernel_rfl
theorem DagM_pl_api_Term : placesOf Try.prog 30 #[(0, 1), (1, 1), (2, 1), (3, 1)] := ⟨_, Try.underlying30, fun w => by kernel_rfl⟩
theorem DagM_hb___collator_dag_Arena__Term : hasBody Try.prog 13 = true := by kernel_rfl
abbrev DagM_p7_2 : Tab2 := [[], [], [0, 1], [0, 1, 2], [0, 1, 2, 3], [0, 1, 2, 3], [0, 1, 2, 3, 4], [0, 1, 2, 3, 4, 5, 6]]
abbrev DagM_s7_2 : Tab2 := [[2, 3, 4, 5, 6, 7], [2, 3, 4, 5, 6, 7], [3, 4, 5, 6, 7], [4, 5, 6, 7], [6, 7], [7], [7], []]
abbrev DagM_p7_3 : Tab2 := [[], [], [0, 1], [0, 1, 2], [0, 1, 2, 3], [0, 1, 2, 3], [0, 1, 2, 3, 4], [0, 1, 2, 3, 4, 5, 6]]
abbrev DagM_s7_3 : Tab2 := [[2, 3, 4, 5, 6, 7], [2, 3, 4, 5, 6, 7], [3, 4, 5, 6, 7], [4, 5, 6, 7], [6, 7], [7], [7], []]
theorem DagM_hb___collator_dag_Arena__Len : hasBody Try.prog 12 = true := by kernel_rfl
theorem DagM_hb___collator_dag_Arena__Sorts : hasBody Try.prog 21 = true := by kernel_rfl
abbrev DagM_p7_4 : Tab2 := [[], [0], [0, 1], [0, 1, 2], [0, 1, 2, 3], [0, 1, 2, 3, 4], [0, 1, 2, 3, 4, 5], [0, 1, 2, 3, 4, 5, 6], [0, 1, 2, 3, 4, 5, 6], [0, 1, 2, 3, 4, 5, 6, 7, 8], [0, 1, 2, 3, 4, 5, 6, 7, 8, 9], [0, 1, 2, 3, 4, 5, 6, 7, 8, 9, 10], [0, 1, 2, 3, 4, 5, 6, 7, 8, 9, 10, 11], [0, 1, 2, 3, 4, 5, 6, 7, 8, 9, 10, 11, 12], [0, 1, 2, 3, 4, 5, 6, 7, 8, 9, 10, 11, 12, 13], [0, 1, 2, 3, 4, 5, 6, 7, 8, 9, 10, 11, 12, 13, 14], [0, 1, 2, 3, 4, 5, 6, 7, 8, 9, 10, 11, 12, 13, 14, 15], [0, 1, 2, 3, 4, 5, 6, 7, 8, 9, 10, 11, 12, 13, 14, 15, 16], [0, 1, 2, 3, 4, 5, 6, 7, 8, 9, 10, 11, 12, 13, 14, 15, 16, 17], [0, 1, 2, 3, 4, 5, 6, 7, 8, 9, 10, 11, 12, 13, 14, 15, 16, 17, 18], [0, 1, 2, 3, 4, 5, 6, 7, 8, 9, 10, 11, 12, 13, 14, 15, 16, 17, 18, 19], [0, 1, 2, 3, 4, 5, 6, 7, 8, 9, 10, 11, 12, 13, 14, 15, 16, 17, 18, 19, 20], [0, 1, 2, 3, 4, 5, 6, 7, 8, 9, 10, 11, 12, 13, 14, 15, 16, 17, 18, 19, 20, 21]]
abbrev DagM_s7_4 : Tab2 := [[1, 2, 3, 4, 5, 6, 7, 8, 9, 10, 11, 12, 13, 14, 15, 16, 17, 18, 19, 20, 21, 22], [2, 3, 4, 5, 6, 7, 8, 9, 10, 11, 12, 13, 14, 15, 16, 17, 18, 19, 20, 21, 22], [3, 4, 5, 6, 7, 8, 9, 10, 11, 12, 13, 14, 15, 16, 17, 18, 19, 20, 21, 22], [4, 5, 6, 7, 8, 9, 10, 11, 12, 13, 14, 15, 16, 17, 18, 19, 20, 21, 22], [5, 6, 7, 8, 9, 10, 11, 12, 13, 14, 15, 16, 17, 18, 19, 20, 21, 22], [6, 7, 8, 9, 10, 11, 12, 13, 14, 15, 16, 17, 18, 19, 20, 21, 22], [7, 8, 9, 10, 11, 12, 13, 14, 15, 16, 17, 18, 19, 20, 21, 22], [9, 10, 11, 12, 13, 14, 15, 16, 17, 18, 19, 20, 21, 22], [9, 10, 11, 12, 13, 14, 15, 16, 17, 18, 19, 20, 21, 22], [10, 11, 12, 13, 14, 15, 16, 17, 18, 19, 20, 21, 22], [11, 12, 13, 14, 15, 16, 17, 18, 19, 20, 21, 22], [12, 13, 14, 15, 16, 17, 18, 19, 20, 21, 22], [13, 14, 15, 16, 17, 18, 19, 20, 21, 22], [14, 15, 16, 17, 18, 19, 20, 21, 22], [15, 16, 17, 18, 19, 20, 21, 22], [16, 17, 18, 19, 20, 21, 22], [17, 18, 19, 20, 21, 22], [18, 19, 20, 21, 22], [19, 20, 21, 22], [20, 21, 22], [21, 22], [22], []]
set_option maxRecDepth 100000 in
set_option maxHeartbeats 4000000 in
theorem dl_Great (l : List ActD) : SpecO Try.prog 8 [.bo (S_act6 l)] [] [] [] (HA.of (VP.bool (greatL l))) := by
  refine spec_of 39 Try.func8 rfl Try.ntmps8 rfl fun w0 S0 Z0 Bf => ?_
  refine b_name fun v0 => ?_
  refine b_know slc_le fun hla => ?_
  refine t_seq ?_
  refine t_rg [.bor (.val v0) (S_act6 l), .is (.tmp 0) (VP.eq v0 true true)] [] [(0, .is (.tmp 2) (VP.bool false))] [] [0, 1] [] [[]] [[]] rfl rfl follow rfl ⟨
    wp rfl (does_move _ (.inr rfl) rfl rfl rfl rfl (ar_const (fun _ _ => rfl))),
    trivial⟩ ?_
  refine nx_then ?_
  refine t_seq ?_
  refine t_seq ?_
  refine t_rg [.bor (.val v0) (S_act6 l), .is (.tmp 0) (VP.eq v0 true true), .is (.tmp 2) (VP.bool false)] [] [(0, .is (.tmp 5) (VP.eq v0 true true)), (1, .is (.tmp 6) (VP.int .i64 ((l.length : Nat) : Int))), (2, .is (.tmp 7) (VP.bool (decide (((l.length : Nat) : Int) > 80))))] [] [0, 1, 2] [] [[], [0], [0, 1]] [[1, 2], [2], []] rfl rfl follow rfl ⟨
    wp rfl (does_move _ (.inl rfl) rfl rfl rfl rfl (ar_tmp (av_fs 1 rfl))),
    wp rfl (does_len _ _ (by kernel_rfl) rfl rfl rfl rfl rfl (sl_slc (av_fs 0 rfl) (ar_tmp (av_rs 0 0 rfl rfl)))),
    wp rfl (does_cmp (m := ((l.length : Nat) : Int)) (n := 80) _ _ _ _ _ rfl rfl rfl rfl rfl rfl .i64 (ar_tmp (av_rs 1 1 rfl rfl)) (ar_const (fun _ _ => rfl))),
    trivial⟩ ?_
  refine t_pick [0, 1, 2, 5] rfl ?_
  refine nx_then ?_
  refine t_split 3 rfl (fun hb1 => ?_) (fun hb1 => ?_)
  · have hc1 := of_decide_eq_true hb1
    refine t_seq ?_
    refine t_rg [.bor (.val v0) (S_act6 l), .is (.tmp 0) (VP.eq v0 true true), .is (.tmp 7) (VP.bool (decide (((l.length : Nat) : Int) > 80)))] [(0, .is (.tmp 2) (VP.bool false))] [(0, .is (.tmp 2) (VP.bool true))] [] [0, 1, 3] [2] [[]] [[]] rfl rfl follow rfl ⟨
      wp rfl (does_move _ (.inr rfl) rfl rfl rfl rfl (ar_const (fun _ _ => rfl))),
      trivial⟩ ?_
    refine t_pick [0, 1, 3] rfl ?_
    refine nx_then ?_
    refine t_ret ?_
    refine rt_then ?_
    exact rt_post [HA.of (VP.bool (greatL l))] [[]] [] [] rfl ⟨(rv_eq (congrArg HA.of (congrArg VP.bool (show true = greatL l from Eq.symm (by unfold greatL; rw [hb1]; rfl)))) (rv_vp 2 rfl)), trivial⟩ (by decide) rfl rfl
  · have hc1 := of_decide_eq_false hb1
    refine t_skip ?_
    refine nx_then ?_
    refine t_seq ?_
    refine t_seq ?_
    refine t_rg [.bor (.val v0) (S_act6 l), .is (.tmp 0) (VP.eq v0 true true), .is (.tmp 2) (VP.bool false), .is (.tmp 7) (VP.bool (decide (((l.length : Nat) : Int) > 80)))] [] [(0, .is (.tmp 8) (VP.eq v0 true true)), (1, .is (.tmp 9) (VP.int .i64 ((l.length : Nat) : Int))), (2, .is (.tmp 10) (VP.int .i64 0))] [] [0, 1, 2, 3] [] [[], [0], []] [[1], [], []] rfl rfl follow rfl ⟨
      wp rfl (does_move _ (.inl rfl) rfl rfl rfl rfl (ar_tmp (av_fs 1 rfl))),
      wp rfl (does_len _ _ (by kernel_rfl) rfl rfl rfl rfl rfl (sl_slc (av_fs 0 rfl) (ar_tmp (av_rs 0 0 rfl rfl)))),
      wp rfl (does_move _ (.inl rfl) rfl rfl rfl rfl (ar_const (fun _ _ => rfl))),
      trivial⟩ ?_
    refine t_pick [0, 2, 4, 5, 6] rfl ?_
    refine nx_then ?_
    refine t_block ?_
    refine t_pick [4, 0, 1, 2, 3] rfl ?_
    refine t_slot (y := VP.int .i64 ((0 : Nat) : Int)) (fun _ _ _ h => h) ?_
    refine t_loop (τ := {k : Nat // (decide (((l.length : Nat) : Int) > 80)) = false ∧ k ≤ l.length ∧ ∀ j y, j < k → l[j]? = some y → bigA y = false}) (fun ⟨k, _⟩ => [.is (.tmp 8) (VP.eq v0 true true), .is (.tmp 9) (VP.int .i64 ((l.length : Nat) : Int)), .is (.tmp 10) (VP.int .i64 ((k : Nat) : Int)), .bor (.val v0) (S_act6 l)]) (fun ⟨k, _⟩ => l.length - k) (⟨0, hb1, Nat.zero_le _, fun j y hj => by omega⟩) [3, 4, 0, 1] rfl ?_
    rintro ⟨k, hle, hk, hno⟩
    refine t_seq ?_
    refine t_rg [.is (.tmp 8) (VP.eq v0 true true), .is (.tmp 9) (VP.int .i64 ((l.length : Nat) : Int)), .is (.tmp 10) (VP.int .i64 ((k : Nat) : Int)), .bor (.val v0) (S_act6 l)] [] [(0, .is (.tmp 11) (VP.bool (decide (((k : Nat) : Int) < ((l.length : Nat) : Int)))))] [] [0, 1, 2, 3] [] [[]] [[]] rfl rfl follow rfl ⟨
      wp rfl (does_cmp (m := ((k : Nat) : Int)) (n := ((l.length : Nat) : Int)) _ _ _ _ _ rfl rfl rfl rfl rfl rfl .i64 (ar_tmp (av_fs 2 rfl)) (ar_tmp (av_fs 1 rfl))),
      trivial⟩ ?_
    refine nx_then ?_
    refine t_seq ?_
    refine t_split 4 rfl (fun hb2 => ?_) (fun hb2 => ?_)
    · have hc2 := of_decide_eq_true hb2
      obtain ⟨a, hx⟩ : ∃ a, l[k]? = some a := ⟨_, List.getElem?_eq_getElem (by omega)⟩
      refine t_skip ?_
      refine nx_then ?_
      refine t_seq ?_
      refine t_block ?_
      refine t_seq ?_
      refine t_rg [.is (.tmp 8) (VP.eq v0 true true), .is (.tmp 9) (VP.int .i64 ((l.length : Nat) : Int)), .is (.tmp 10) (VP.int .i64 ((k : Nat) : Int)), .bor (.val v0) (S_act6 l), .is (.tmp 11) (VP.bool (decide (((k : Nat) : Int) < ((l.length : Nat) : Int))))] [] [(0, .pt 12 (.row (.val v0) (k * 8))), (1, .is (.tmp 13) (VP.agg [VP.int .i64 a.what, VP.str a.name, O_int a.args, VP.int .i64 a.res, VP.int .i64 a.term.op, VP.int .i64 a.term.fn, O_int a.term.kids, VP.str a.term.num])), (3, .own 101 (.tmp 4) (B_act6 a))] [(2, 3, .own 101 (.tmp 4) (HA.cells 32 [HA.of (VP.int .i64 0), HA.of (VP.str (ByteArray.mk #[])), HA.of (VP.nilS), HA.of (VP.int .i64 0), HA.of (VP.int .i64 0), HA.of (VP.int .i64 0), HA.of (VP.nilS), HA.of (VP.str (ByteArray.mk #[]))]))] [0, 1, 2, 3, 4] [] [[], [0], [], [0, 1, 2]] [[1, 3], [3], [3], []] rfl rfl follow rfl ⟨
        wp rfl (does_index (m := k) _ _ Try.underlying22 DagM_size_collatorlaw06_Act rfl rfl rfl rfl rfl _ (by omega) rfl (by omega) (sl_slc (av_fs 3 rfl) (ar_tmp (av_fs 0 rfl))) (ar_tmp (av_fs 2 rfl))),
        wp rfl (does_loadAgg (ps := [VP.int .i64 a.what, VP.str a.name, O_int a.args, VP.int .i64 a.res, VP.int .i64 a.term.op, VP.int .i64 a.term.fn, O_int a.term.kids, VP.str a.term.num]) _ DagM_agg_collatorlaw06_Act rfl rfl rfl rfl rfl (pt_pt (av_rs 0 0 rfl rfl)) (rds_slc (av_fs 3 rfl) (hq_flatV cActD_len hx (by omega) rfl))),
        wp rfl (does_alloc (ps := [VP.int .i64 0, VP.str (ByteArray.mk #[]), VP.nilS, VP.int .i64 0, VP.int .i64 0, VP.int .i64 0, VP.nilS, VP.str (ByteArray.mk #[])]) DagM_zero_collatorlaw06_Act rfl rfl rfl rfl rfl rfl (fun _ _ => ⟨rfl, rfl, rfl, rfl, rfl, rfl, rfl, rfl, trivial⟩)),
        wp rfl (does_store (off := 0) (Qs := [HA.of (VP.int .i64 a.what), HA.of (VP.str a.name), HA.of (O_int a.args), HA.of (VP.int .i64 a.res), HA.of (VP.int .i64 a.term.op), HA.of (VP.int .i64 a.term.fn), HA.of (O_int a.term.kids), HA.of (VP.str a.term.num)]) _ _ DagM_size_collatorlaw06_Act rfl rfl rfl rfl rfl rfl (pt_box (av_ms 0 2 3 rfl rfl rfl)) (av_ms 0 2 3 rfl rfl rfl) (cv_agg (ps := [VP.int .i64 a.what, VP.str a.name, O_int a.args, VP.int .i64 a.res, VP.int .i64 a.term.op, VP.int .i64 a.term.fn, O_int a.term.kids, VP.str a.term.num]) (ar_tmp (av_rs 1 1 rfl rfl)))),
        trivial⟩ ?_
      refine nx_then ?_
      refine t_pick [7, 0, 1, 2, 3, 4, 5, 6] rfl ?_
      refine t_nameP rfl fun c4 => ?_
      refine t_seq ?_
      rcases Bool.eq_false_or_eq_true (decide (((a.name.size : Nat) : Int) > 60)) with hb3 | hb3
      · have hc3 := of_decide_eq_true hb3
        refine t_rg [.own 101 (.val c4) (B_act6 a), .is (.tmp 4) (VP.ptr c4), .is (.tmp 8) (VP.eq v0 true true), .is (.tmp 9) (VP.int .i64 ((l.length : Nat) : Int)), .is (.tmp 10) (VP.int .i64 ((k : Nat) : Int)), .bor (.val v0) (S_act6 l), .is (.tmp 11) (VP.bool (decide (((k : Nat) : Int) < ((l.length : Nat) : Int)))), .pt 12 (.row (.val v0) (k * 8)), .is (.tmp 13) (VP.agg [VP.int .i64 a.what, VP.str a.name, O_int a.args, VP.int .i64 a.res, VP.int .i64 a.term.op, VP.int .i64 a.term.fn, O_int a.term.kids, VP.str a.term.num])] [] [(0, .pt 14 (.blk (.val c4) 1)), (1, .is (.tmp 15) (VP.str a.name)), (2, .is (.tmp 16) (VP.int .i64 ((a.name.size : Nat) : Int))), (3, .is (.tmp 17) (VP.bool (decide (((a.name.size : Nat) : Int) > 60)))), (4, .is (.tmp 18) (VP.bool (decide (((a.name.size : Nat) : Int) > 60)))), (5, .is (.tmp 19) (VP.undef)), (6, .is (.tmp 20) (VP.undef)), (7, .is (.tmp 21) (VP.undef)), (8, .is (.tmp 22) (VP.undef)), (9, .is (.tmp 23) (VP.bool true)), (10, .is (.tmp 24) (VP.bool true)), (11, .is (.tmp 25) (VP.undef)), (12, .is (.tmp 26) (VP.undef)), (13, .is (.tmp 27) (VP.undef)), (14, .is (.tmp 28) (VP.undef)), (15, .is (.tmp 29) (VP.undef)), (16, .is (.tmp 30) (VP.bool true)), (17, .is (.tmp 31) (VP.bool true)), (18, .is (.tmp 32) (VP.undef)), (19, .is (.tmp 33) (VP.undef)), (20, .is (.tmp 34) (VP.undef)), (21, .is (.tmp 35) (VP.undef)), (22, .is (.tmp 36) (VP.undef)), (23, .is (.tmp 37) (VP.bool true))] [] [0, 1, 2, 3, 4, 5, 6, 7, 8] [] DagM_p8_6 DagM_s8_6 rfl rfl follow rfl ⟨
          wp rfl (does_field _ _ _ 1 DagM_f_collatorlaw06_Act_1 rfl rfl rfl rfl rfl rfl (pt_ptr (ar_tmp (av_fs 1 rfl)))),
          wp rfl (does_loadOne _ DagM_one_string rfl rfl rfl rfl rfl (pt_pt (av_rs 0 0 rfl rfl)) (rds_box (off := 1) (av_fs 0 rfl) (hq_one rfl))),
          wp rfl (does_lenStr _ _ Try.underlying9 rfl rfl rfl rfl rfl (ar_tmp (av_rs 1 1 rfl rfl))),
          wp rfl (does_cmp (m := ((a.name.size : Nat) : Int)) (n := 60) _ _ _ _ _ rfl rfl rfl rfl rfl rfl .i64 (ar_tmp (av_rs 2 2 rfl rfl)) (ar_const (fun _ _ => rfl))),
          wp rfl (does_move _ (.inl rfl) rfl rfl rfl rfl (ar_tmp (av_rs 3 3 rfl rfl))),
          .inr (skips_guardU true rfl rfl rfl (av_bool hb3 (av_rs 4 4 rfl rfl)) rfl rfl rfl rfl),
          .inr (skips_guardU true rfl rfl rfl (av_bool hb3 (av_rs 4 4 rfl rfl)) rfl rfl rfl rfl),
          .inr (skips_guardU true rfl rfl rfl (av_bool hb3 (av_rs 4 4 rfl rfl)) rfl rfl rfl rfl),
          .inr (skips_guardU true rfl rfl rfl (av_bool hb3 (av_rs 4 4 rfl rfl)) rfl rfl rfl rfl),
          wp rfl (does_pick true _ _ _ rfl rfl rfl rfl rfl (ar_tmp (av_bool hb3 (av_rs 4 4 rfl rfl))) (ar_const (fun _ _ => rfl))),
          wp rfl (does_move _ (.inl rfl) rfl rfl rfl rfl (ar_tmp (av_rs 9 9 rfl rfl))),
          .inr (skips_guardU true rfl rfl rfl (av_rs 10 10 rfl rfl) rfl rfl rfl rfl),
          .inr (skips_guardU true rfl rfl rfl (av_rs 10 10 rfl rfl) rfl rfl rfl rfl),
          .inr (skips_guardU true rfl rfl rfl (av_rs 10 10 rfl rfl) rfl rfl rfl rfl),
          .inr (skips_guardU true rfl rfl rfl (av_rs 10 10 rfl rfl) rfl rfl rfl rfl),
          .inr (skips_guardU true rfl rfl rfl (av_rs 10 10 rfl rfl) rfl rfl rfl rfl),
          wp rfl (does_pick true _ _ _ rfl rfl rfl rfl rfl (ar_tmp (av_rs 10 10 rfl rfl)) (ar_const (fun _ _ => rfl))),
          wp rfl (does_move _ (.inl rfl) rfl rfl rfl rfl (ar_tmp (av_rs 16 16 rfl rfl))),
          .inr (skips_guardU true rfl rfl rfl (av_rs 17 17 rfl rfl) rfl rfl rfl rfl),
          .inr (skips_guardU true rfl rfl rfl (av_rs 17 17 rfl rfl) rfl rfl rfl rfl),
          .inr (skips_guardU true rfl rfl rfl (av_rs 17 17 rfl rfl) rfl rfl rfl rfl),
          .inr (skips_guardU true rfl rfl rfl (av_rs 17 17 rfl rfl) rfl rfl rfl rfl),
          .inr (skips_guardU true rfl rfl rfl (av_rs 17 17 rfl rfl) rfl rfl rfl rfl),
          wp rfl (does_pick true _ _ _ rfl rfl rfl rfl rfl (ar_tmp (av_rs 17 17 rfl rfl)) (ar_const (fun _ _ => rfl))),
          trivial⟩ ?_
        refine nx_then ?_
        refine t_cond_t 32 rfl ?_
        refine t_seq ?_
        refine t_rg [.own 101 (.val c4) (B_act6 a), .is (.tmp 4) (VP.ptr c4), .is (.tmp 8) (VP.eq v0 true true), .is (.tmp 9) (VP.int .i64 ((l.length : Nat) : Int)), .is (.tmp 10) (VP.int .i64 ((k : Nat) : Int)), .bor (.val v0) (S_act6 l), .is (.tmp 11) (VP.bool (decide (((k : Nat) : Int) < ((l.length : Nat) : Int)))), .pt 12 (.row (.val v0) (k * 8)), .is (.tmp 13) (VP.agg [VP.int .i64 a.what, VP.str a.name, O_int a.args, VP.int .i64 a.res, VP.int .i64 a.term.op, VP.int .i64 a.term.fn, O_int a.term.kids, VP.str a.term.num]), .pt 14 (.blk (.val c4) 1), .is (.tmp 15) (VP.str a.name), .is (.tmp 16) (VP.int .i64 ((a.name.size : Nat) : Int)), .is (.tmp 17) (VP.bool (decide (((a.name.size : Nat) : Int) > 60))), .is (.tmp 18) (VP.bool (decide (((a.name.size : Nat) : Int) > 60))), .is (.tmp 19) (VP.undef), .is (.tmp 20) (VP.undef), .is (.tmp 21) (VP.undef), .is (.tmp 22) (VP.undef), .is (.tmp 23) (VP.bool true), .is (.tmp 24) (VP.bool true), .is (.tmp 25) (VP.undef), .is (.tmp 26) (VP.undef), .is (.tmp 27) (VP.undef), .is (.tmp 28) (VP.undef), .is (.tmp 29) (VP.undef), .is (.tmp 30) (VP.bool true), .is (.tmp 31) (VP.bool true), .is (.tmp 32) (VP.undef), .is (.tmp 33) (VP.undef), .is (.tmp 34) (VP.undef), .is (.tmp 35) (VP.undef), .is (.tmp 36) (VP.undef), .is (.tmp 37) (VP.bool true)] [] [(0, .is (.tmp 2) (VP.bool true))] [] [0, 1, 2, 3, 4, 5, 6, 7, 8, 9, 10, 11, 12, 13, 14, 15, 16, 17, 18, 19, 20, 21, 22, 23, 24, 25, 26, 27, 28, 29, 30, 31, 32] [] [[]] [[]] rfl rfl follow rfl ⟨
          wp rfl (does_move _ (.inr rfl) rfl rfl rfl rfl (ar_const (fun _ _ => rfl))),
          trivial⟩ ?_
        refine nx_then ?_
        refine t_ret ?_
        refine rt_block ?_
        refine rt_then ?_
        refine rt_then ?_
        refine rt_block ?_
        refine rt_then ?_
        exact rt_post [HA.of (VP.bool (greatL l))] [[]] [] [] rfl ⟨(rv_eq (congrArg HA.of (congrArg VP.bool (show true = greatL l from Eq.symm (by unfold greatL; rw [hle, cond_false]; exact any_hit hx (by unfold bigA; (try rw [hb3]); (try rfl)))))) (rv_vp 33 rfl)), trivial⟩ (by decide) rfl rfl
      · have hc3 := of_decide_eq_false hb3
        rcases Bool.eq_false_or_eq_true (decide (((a.args.length : Nat) : Int) > 12)) with hb4 | hb4
        · have hc4 := of_decide_eq_true hb4
          refine t_rg [.own 101 (.val c4) (B_act6 a), .is (.tmp 4) (VP.ptr c4), .is (.tmp 8) (VP.eq v0 true true), .is (.tmp 9) (VP.int .i64 ((l.length : Nat) : Int)), .is (.tmp 10) (VP.int .i64 ((k : Nat) : Int)), .bor (.val v0) (S_act6 l), .is (.tmp 11) (VP.bool (decide (((k : Nat) : Int) < ((l.length : Nat) : Int)))), .pt 12 (.row (.val v0) (k * 8)), .is (.tmp 13) (VP.agg [VP.int .i64 a.what, VP.str a.name, O_int a.args, VP.int .i64 a.res, VP.int .i64 a.term.op, VP.int .i64 a.term.fn, O_int a.term.kids, VP.str a.term.num])] [] [(0, .pt 14 (.blk (.val c4) 1)), (1, .is (.tmp 15) (VP.str a.name)), (2, .is (.tmp 16) (VP.int .i64 ((a.name.size : Nat) : Int))), (3, .is (.tmp 17) (VP.bool (decide (((a.name.size : Nat) : Int) > 60)))), (4, .is (.tmp 18) (VP.bool (decide (((a.name.size : Nat) : Int) > 60)))), (5, .pt 19 (.blk (.val c4) 2)), (6, .is (.tmp 20) (O_int a.args)), (7, .is (.tmp 21) (VP.int .i64 ((a.args.length : Nat) : Int))), (8, .is (.tmp 22) (VP.bool (decide (((a.args.length : Nat) : Int) > 12)))), (9, .is (.tmp 23) (VP.bool (decide (((a.args.length : Nat) : Int) > 12)))), (10, .is (.tmp 24) (VP.bool (decide (((a.args.length : Nat) : Int) > 12)))), (11, .is (.tmp 25) (VP.undef)), (12, .is (.tmp 26) (VP.undef)), (13, .is (.tmp 27) (VP.undef)), (14, .is (.tmp 28) (VP.undef)), (15, .is (.tmp 29) (VP.undef)), (16, .is (.tmp 30) (VP.bool true)), (17, .is (.tmp 31) (VP.bool true)), (18, .is (.tmp 32) (VP.undef)), (19, .is (.tmp 33) (VP.undef)), (20, .is (.tmp 34) (VP.undef)), (21, .is (.tmp 35) (VP.undef)), (22, .is (.tmp 36) (VP.undef)), (23, .is (.tmp 37) (VP.bool true))] [] [0, 1, 2, 3, 4, 5, 6, 7, 8] [] DagM_p8_6 DagM_s8_6 rfl rfl follow rfl ⟨
            wp rfl (does_field _ _ _ 1 DagM_f_collatorlaw06_Act_1 rfl rfl rfl rfl rfl rfl (pt_ptr (ar_tmp (av_fs 1 rfl)))),
            wp rfl (does_loadOne _ DagM_one_string rfl rfl rfl rfl rfl (pt_pt (av_rs 0 0 rfl rfl)) (rds_box (off := 1) (av_fs 0 rfl) (hq_one rfl))),
            wp rfl (does_lenStr _ _ Try.underlying9 rfl rfl rfl rfl rfl (ar_tmp (av_rs 1 1 rfl rfl))),
            wp rfl (does_cmp (m := ((a.name.size : Nat) : Int)) (n := 60) _ _ _ _ _ rfl rfl rfl rfl rfl rfl .i64 (ar_tmp (av_rs 2 2 rfl rfl)) (ar_const (fun _ _ => rfl))),
            wp rfl (does_move _ (.inl rfl) rfl rfl rfl rfl (ar_tmp (av_rs 3 3 rfl rfl))),
            .inl ⟨wants_guard false rfl rfl rfl (av_bool hb3 (av_rs 4 4 rfl rfl)), does_field _ _ _ 2 DagM_f_collatorlaw06_Act_2 rfl rfl rfl rfl rfl rfl (pt_ptr (ar_tmp (av_fs 1 rfl)))⟩,
            .inl ⟨wants_guard false rfl rfl rfl (av_bool hb3 (av_rs 4 4 rfl rfl)), does_loadOne _ DagM_one___int rfl rfl rfl rfl rfl (pt_pt (av_rs 5 5 rfl rfl)) (rds_box (off := 2) (av_fs 0 rfl) (hq_one rfl))⟩,
            .inl ⟨wants_guard false rfl rfl rfl (av_bool hb3 (av_rs 4 4 rfl rfl)), does_len _ _ (by kernel_rfl) rfl rfl rfl rfl rfl (sl_ro (av_rs 6 6 rfl rfl) (flat_nil_iff cInt_len (by decide) _))⟩,
            .inl ⟨wants_guard false rfl rfl rfl (av_bool hb3 (av_rs 4 4 rfl rfl)), does_cmp (m := ((a.args.length : Nat) : Int)) (n := 12) _ _ _ _ _ rfl rfl rfl rfl rfl rfl .i64 (ar_tmp (av_rs 7 7 rfl rfl)) (ar_const (fun _ _ => rfl))⟩,
            wp rfl (does_pick false _ _ _ rfl rfl rfl rfl rfl (ar_tmp (av_bool hb3 (av_rs 4 4 rfl rfl))) (ar_tmp (av_rs 8 8 rfl rfl))),
            wp rfl (does_move _ (.inl rfl) rfl rfl rfl rfl (ar_tmp (av_rs 9 9 rfl rfl))),
            .inr (skips_guardU true rfl rfl rfl (av_bool hb4 (av_rs 10 10 rfl rfl)) rfl rfl rfl rfl),
            .inr (skips_guardU true rfl rfl rfl (av_bool hb4 (av_rs 10 10 rfl rfl)) rfl rfl rfl rfl),
            .inr (skips_guardU true rfl rfl rfl (av_bool hb4 (av_rs 10 10 rfl rfl)) rfl rfl rfl rfl),
            .inr (skips_guardU true rfl rfl rfl (av_bool hb4 (av_rs 10 10 rfl rfl)) rfl rfl rfl rfl),
            .inr (skips_guardU true rfl rfl rfl (av_bool hb4 (av_rs 10 10 rfl rfl)) rfl rfl rfl rfl),
            wp rfl (does_pick true _ _ _ rfl rfl rfl rfl rfl (ar_tmp (av_bool hb4 (av_rs 10 10 rfl rfl))) (ar_const (fun _ _ => rfl))),
            wp rfl (does_move _ (.inl rfl) rfl rfl rfl rfl (ar_tmp (av_rs 16 16 rfl rfl))),
            .inr (skips_guardU true rfl rfl rfl (av_rs 17 17 rfl rfl) rfl rfl rfl rfl),
            .inr (skips_guardU true rfl rfl rfl (av_rs 17 17 rfl rfl) rfl rfl rfl rfl),
            .inr (skips_guardU true rfl rfl rfl (av_rs 17 17 rfl rfl) rfl rfl rfl rfl),
            .inr (skips_guardU true rfl rfl rfl (av_rs 17 17 rfl rfl) rfl rfl rfl rfl),
            .inr (skips_guardU true rfl rfl rfl (av_rs 17 17 rfl rfl) rfl rfl rfl rfl),
            wp rfl (does_pick true _ _ _ rfl rfl rfl rfl rfl (ar_tmp (av_rs 17 17 rfl rfl)) (ar_const (fun _ _ => rfl))),
            trivial⟩ ?_
          refine nx_then ?_
          refine t_cond_t 32 rfl ?_
          refine t_seq ?_
          refine t_rg [.own 101 (.val c4) (B_act6 a), .is (.tmp 4) (VP.ptr c4), .is (.tmp 8) (VP.eq v0 true true), .is (.tmp 9) (VP.int .i64 ((l.length : Nat) : Int)), .is (.tmp 10) (VP.int .i64 ((k : Nat) : Int)), .bor (.val v0) (S_act6 l), .is (.tmp 11) (VP.bool (decide (((k : Nat) : Int) < ((l.length : Nat) : Int)))), .pt 12 (.row (.val v0) (k * 8)), .is (.tmp 13) (VP.agg [VP.int .i64 a.what, VP.str a.name, O_int a.args, VP.int .i64 a.res, VP.int .i64 a.term.op, VP.int .i64 a.term.fn, O_int a.term.kids, VP.str a.term.num]), .pt 14 (.blk (.val c4) 1), .is (.tmp 15) (VP.str a.name), .is (.tmp 16) (VP.int .i64 ((a.name.size : Nat) : Int)), .is (.tmp 17) (VP.bool (decide (((a.name.size : Nat) : Int) > 60))), .is (.tmp 18) (VP.bool (decide (((a.name.size : Nat) : Int) > 60))), .pt 19 (.blk (.val c4) 2), .is (.tmp 20) (O_int a.args), .is (.tmp 21) (VP.int .i64 ((a.args.length : Nat) : Int)), .is (.tmp 22) (VP.bool (decide (((a.args.length : Nat) : Int) > 12))), .is (.tmp 23) (VP.bool (decide (((a.args.length : Nat) : Int) > 12))), .is (.tmp 24) (VP.bool (decide (((a.args.length : Nat) : Int) > 12))), .is (.tmp 25) (VP.undef), .is (.tmp 26) (VP.undef), .is (.tmp 27) (VP.undef), .is (.tmp 28) (VP.undef), .is (.tmp 29) (VP.undef), .is (.tmp 30) (VP.bool true), .is (.tmp 31) (VP.bool true), .is (.tmp 32) (VP.undef), .is (.tmp 33) (VP.undef), .is (.tmp 34) (VP.undef), .is (.tmp 35) (VP.undef), .is (.tmp 36) (VP.undef), .is (.tmp 37) (VP.bool true)] [] [(0, .is (.tmp 2) (VP.bool true))] [] [0, 1, 2, 3, 4, 5, 6, 7, 8, 9, 10, 11, 12, 13, 14, 15, 16, 17, 18, 19, 20, 21, 22, 23, 24, 25, 26, 27, 28, 29, 30, 31, 32] [] [[]] [[]] rfl rfl follow rfl ⟨
            wp rfl (does_move _ (.inr rfl) rfl rfl rfl rfl (ar_const (fun _ _ => rfl))),
            trivial⟩ ?_
          refine nx_then ?_
          refine t_ret ?_
          refine rt_block ?_
          refine rt_then ?_
          refine rt_then ?_
          refine rt_block ?_
          refine rt_then ?_
          exact rt_post [HA.of (VP.bool (greatL l))] [[]] [] [] rfl ⟨(rv_eq (congrArg HA.of (congrArg VP.bool (show true = greatL l from Eq.symm (by unfold greatL; rw [hle, cond_false]; exact any_hit hx (by unfold bigA; (try rw [hb3]); (try rw [hb4]); (try rfl)))))) (rv_vp 33 rfl)), trivial⟩ (by decide) rfl rfl
        · have hc4 := of_decide_eq_false hb4
          rcases Bool.eq_false_or_eq_true (decide (((a.term.kids.length : Nat) : Int) > 12)) with hb5 | hb5
          · have hc5 := of_decide_eq_true hb5
            refine t_rg [.own 101 (.val c4) (B_act6 a), .is (.tmp 4) (VP.ptr c4), .is (.tmp 8) (VP.eq v0 true true), .is (.tmp 9) (VP.int .i64 ((l.length : Nat) : Int)), .is (.tmp 10) (VP.int .i64 ((k : Nat) : Int)), .bor (.val v0) (S_act6 l), .is (.tmp 11) (VP.bool (decide (((k : Nat) : Int) < ((l.length : Nat) : Int)))), .pt 12 (.row (.val v0) (k * 8)), .is (.tmp 13) (VP.agg [VP.int .i64 a.what, VP.str a.name, O_int a.args, VP.int .i64 a.res, VP.int .i64 a.term.op, VP.int .i64 a.term.fn, O_int a.term.kids, VP.str a.term.num])] [] [(0, .pt 14 (.blk (.val c4) 1)), (1, .is (.tmp 15) (VP.str a.name)), (2, .is (.tmp 16) (VP.int .i64 ((a.name.size : Nat) : Int))), (3, .is (.tmp 17) (VP.bool (decide (((a.name.size : Nat) : Int) > 60)))), (4, .is (.tmp 18) (VP.bool (decide (((a.name.size : Nat) : Int) > 60)))), (5, .pt 19 (.blk (.val c4) 2)), (6, .is (.tmp 20) (O_int a.args)), (7, .is (.tmp 21) (VP.int .i64 ((a.args.length : Nat) : Int))), (8, .is (.tmp 22) (VP.bool (decide (((a.args.length : Nat) : Int) > 12)))), (9, .is (.tmp 23) (VP.bool (decide (((a.args.length : Nat) : Int) > 12)))), (10, .is (.tmp 24) (VP.bool (decide (((a.args.length : Nat) : Int) > 12)))), (11, .pt 25 (.blk (.val c4) 4)), (12, .pt 26 (.blk (.val c4) 6)), (13, .is (.tmp 27) (O_int a.term.kids)), (14, .is (.tmp 28) (VP.int .i64 ((a.term.kids.length : Nat) : Int))), (15, .is (.tmp 29) (VP.bool (decide (((a.term.kids.length : Nat) : Int) > 12)))), (16, .is (.tmp 30) (VP.bool (decide (((a.term.kids.length : Nat) : Int) > 12)))), (17, .is (.tmp 31) (VP.bool (decide (((a.term.kids.length : Nat) : Int) > 12)))), (18, .is (.tmp 32) (VP.undef)), (19, .is (.tmp 33) (VP.undef)), (20, .is (.tmp 34) (VP.undef)), (21, .is (.tmp 35) (VP.undef)), (22, .is (.tmp 36) (VP.undef)), (23, .is (.tmp 37) (VP.bool true))] [] [0, 1, 2, 3, 4, 5, 6, 7, 8] [] DagM_p8_6 DagM_s8_6 rfl rfl follow rfl ⟨
              wp rfl (does_field _ _ _ 1 DagM_f_collatorlaw06_Act_1 rfl rfl rfl rfl rfl rfl (pt_ptr (ar_tmp (av_fs 1 rfl)))),
              wp rfl (does_loadOne _ DagM_one_string rfl rfl rfl rfl rfl (pt_pt (av_rs 0 0 rfl rfl)) (rds_box (off := 1) (av_fs 0 rfl) (hq_one rfl))),
              wp rfl (does_lenStr _ _ Try.underlying9 rfl rfl rfl rfl rfl (ar_tmp (av_rs 1 1 rfl rfl))),
              wp rfl (does_cmp (m := ((a.name.size : Nat) : Int)) (n := 60) _ _ _ _ _ rfl rfl rfl rfl rfl rfl .i64 (ar_tmp (av_rs 2 2 rfl rfl)) (ar_const (fun _ _ => rfl))),
              wp rfl (does_move _ (.inl rfl) rfl rfl rfl rfl (ar_tmp (av_rs 3 3 rfl rfl))),
              .inl ⟨wants_guard false rfl rfl rfl (av_bool hb3 (av_rs 4 4 rfl rfl)), does_field _ _ _ 2 DagM_f_collatorlaw06_Act_2 rfl rfl rfl rfl rfl rfl (pt_ptr (ar_tmp (av_fs 1 rfl)))⟩,
              .inl ⟨wants_guard false rfl rfl rfl (av_bool hb3 (av_rs 4 4 rfl rfl)), does_loadOne _ DagM_one___int rfl rfl rfl rfl rfl (pt_pt (av_rs 5 5 rfl rfl)) (rds_box (off := 2) (av_fs 0 rfl) (hq_one rfl))⟩,
              .inl ⟨wants_guard false rfl rfl rfl (av_bool hb3 (av_rs 4 4 rfl rfl)), does_len _ _ (by kernel_rfl) rfl rfl rfl rfl rfl (sl_ro (av_rs 6 6 rfl rfl) (flat_nil_iff cInt_len (by decide) _))⟩,
              .inl ⟨wants_guard false rfl rfl rfl (av_bool hb3 (av_rs 4 4 rfl rfl)), does_cmp (m := ((a.args.length : Nat) : Int)) (n := 12) _ _ _ _ _ rfl rfl rfl rfl rfl rfl .i64 (ar_tmp (av_rs 7 7 rfl rfl)) (ar_const (fun _ _ => rfl))⟩,
              wp rfl (does_pick false _ _ _ rfl rfl rfl rfl rfl (ar_tmp (av_bool hb3 (av_rs 4 4 rfl rfl))) (ar_tmp (av_rs 8 8 rfl rfl))),
              wp rfl (does_move _ (.inl rfl) rfl rfl rfl rfl (ar_tmp (av_rs 9 9 rfl rfl))),
              .inl ⟨wants_guard false rfl rfl rfl (av_bool hb4 (av_rs 10 10 rfl rfl)), does_field _ _ _ 4 DagM_f_collatorlaw06_Act_4 rfl rfl rfl rfl rfl rfl (pt_ptr (ar_tmp (av_fs 1 rfl)))⟩,
              .inl ⟨wants_guard false rfl rfl rfl (av_bool hb4 (av_rs 10 10 rfl rfl)), does_field _ _ _ 2 DagM_f_api_Term_2 rfl rfl rfl rfl rfl rfl (pt_pt (av_rs 11 11 rfl rfl))⟩,
              .inl ⟨wants_guard false rfl rfl rfl (av_bool hb4 (av_rs 10 10 rfl rfl)), does_loadOne _ DagM_one___int rfl rfl rfl rfl rfl (pt_pt (av_rs 12 12 rfl rfl)) (rds_box (off := 6) (av_fs 0 rfl) (hq_one rfl))⟩,
              .inl ⟨wants_guard false rfl rfl rfl (av_bool hb4 (av_rs 10 10 rfl rfl)), does_len _ _ (by kernel_rfl) rfl rfl rfl rfl rfl (sl_ro (av_rs 13 13 rfl rfl) (flat_nil_iff cInt_len (by decide) _))⟩,
              .inl ⟨wants_guard false rfl rfl rfl (av_bool hb4 (av_rs 10 10 rfl rfl)), does_cmp (m := ((a.term.kids.length : Nat) : Int)) (n := 12) _ _ _ _ _ rfl rfl rfl rfl rfl rfl .i64 (ar_tmp (av_rs 14 14 rfl rfl)) (ar_const (fun _ _ => rfl))⟩,
              wp rfl (does_pick false _ _ _ rfl rfl rfl rfl rfl (ar_tmp (av_bool hb4 (av_rs 10 10 rfl rfl))) (ar_tmp (av_rs 15 15 rfl rfl))),
              wp rfl (does_move _ (.inl rfl) rfl rfl rfl rfl (ar_tmp (av_rs 16 16 rfl rfl))),
              .inr (skips_guardU true rfl rfl rfl (av_bool hb5 (av_rs 17 17 rfl rfl)) rfl rfl rfl rfl),
              .inr (skips_guardU true rfl rfl rfl (av_bool hb5 (av_rs 17 17 rfl rfl)) rfl rfl rfl rfl),
              .inr (skips_guardU true rfl rfl rfl (av_bool hb5 (av_rs 17 17 rfl rfl)) rfl rfl rfl rfl),
              .inr (skips_guardU true rfl rfl rfl (av_bool hb5 (av_rs 17 17 rfl rfl)) rfl rfl rfl rfl),
              .inr (skips_guardU true rfl rfl rfl (av_bool hb5 (av_rs 17 17 rfl rfl)) rfl rfl rfl rfl),
              wp rfl (does_pick true _ _ _ rfl rfl rfl rfl rfl (ar_tmp (av_bool hb5 (av_rs 17 17 rfl rfl))) (ar_const (fun _ _ => rfl))),
              trivial⟩ ?_
            refine nx_then ?_
            refine t_cond_t 32 rfl ?_
            refine t_seq ?_
            refine t_rg [.own 101 (.val c4) (B_act6 a), .is (.tmp 4) (VP.ptr c4), .is (.tmp 8) (VP.eq v0 true true), .is (.tmp 9) (VP.int .i64 ((l.length : Nat) : Int)), .is (.tmp 10) (VP.int .i64 ((k : Nat) : Int)), .bor (.val v0) (S_act6 l), .is (.tmp 11) (VP.bool (decide (((k : Nat) : Int) < ((l.length : Nat) : Int)))), .pt 12 (.row (.val v0) (k * 8)), .is (.tmp 13) (VP.agg [VP.int .i64 a.what, VP.str a.name, O_int a.args, VP.int .i64 a.res, VP.int .i64 a.term.op, VP.int .i64 a.term.fn, O_int a.term.kids, VP.str a.term.num]), .pt 14 (.blk (.val c4) 1), .is (.tmp 15) (VP.str a.name), .is (.tmp 16) (VP.int .i64 ((a.name.size : Nat) : Int)), .is (.tmp 17) (VP.bool (decide (((a.name.size : Nat) : Int) > 60))), .is (.tmp 18) (VP.bool (decide (((a.name.size : Nat) : Int) > 60))), .pt 19 (.blk (.val c4) 2), .is (.tmp 20) (O_int a.args), .is (.tmp 21) (VP.int .i64 ((a.args.length : Nat) : Int)), .is (.tmp 22) (VP.bool (decide (((a.args.length : Nat) : Int) > 12))), .is (.tmp 23) (VP.bool (decide (((a.args.length : Nat) : Int) > 12))), .is (.tmp 24) (VP.bool (decide (((a.args.length : Nat) : Int) > 12))), .pt 25 (.blk (.val c4) 4), .pt 26 (.blk (.val c4) 6), .is (.tmp 27) (O_int a.term.kids), .is (.tmp 28) (VP.int .i64 ((a.term.kids.length : Nat) : Int)), .is (.tmp 29) (VP.bool (decide (((a.term.kids.length : Nat) : Int) > 12))), .is (.tmp 30) (VP.bool (decide (((a.term.kids.length : Nat) : Int) > 12))), .is (.tmp 31) (VP.bool (decide (((a.term.kids.length : Nat) : Int) > 12))), .is (.tmp 32) (VP.undef), .is (.tmp 33) (VP.undef), .is (.tmp 34) (VP.undef), .is (.tmp 35) (VP.undef), .is (.tmp 36) (VP.undef), .is (.tmp 37) (VP.bool true)] [] [(0, .is (.tmp 2) (VP.bool true))] [] [0, 1, 2, 3, 4, 5, 6, 7, 8, 9, 10, 11, 12, 13, 14, 15, 16, 17, 18, 19, 20, 21, 22, 23, 24, 25, 26, 27, 28, 29, 30, 31, 32] [] [[]] [[]] rfl rfl follow rfl ⟨
              wp rfl (does_move _ (.inr rfl) rfl rfl rfl rfl (ar_const (fun _ _ => rfl))),
              trivial⟩ ?_
            refine nx_then ?_
            refine t_ret ?_
            refine rt_block ?_
            refine rt_then ?_
            refine rt_then ?_
            refine rt_block ?_
            refine rt_then ?_
            exact rt_post [HA.of (VP.bool (greatL l))] [[]] [] [] rfl ⟨(rv_eq (congrArg HA.of (congrArg VP.bool (show true = greatL l from Eq.symm (by unfold greatL; rw [hle, cond_false]; exact any_hit hx (by unfold bigA; (try rw [hb3]); (try rw [hb4]); (try rw [hb5]); (try rfl)))))) (rv_vp 33 rfl)), trivial⟩ (by decide) rfl rfl
          · have hc5 := of_decide_eq_false hb5
            refine t_rg [.own 101 (.val c4) (B_act6 a), .is (.tmp 4) (VP.ptr c4), .is (.tmp 8) (VP.eq v0 true true), .is (.tmp 9) (VP.int .i64 ((l.length : Nat) : Int)), .is (.tmp 10) (VP.int .i64 ((k : Nat) : Int)), .bor (.val v0) (S_act6 l), .is (.tmp 11) (VP.bool (decide (((k : Nat) : Int) < ((l.length : Nat) : Int)))), .pt 12 (.row (.val v0) (k * 8)), .is (.tmp 13) (VP.agg [VP.int .i64 a.what, VP.str a.name, O_int a.args, VP.int .i64 a.res, VP.int .i64 a.term.op, VP.int .i64 a.term.fn, O_int a.term.kids, VP.str a.term.num])] [] [(0, .pt 14 (.blk (.val c4) 1)), (1, .is (.tmp 15) (VP.str a.name)), (2, .is (.tmp 16) (VP.int .i64 ((a.name.size : Nat) : Int))), (3, .is (.tmp 17) (VP.bool (decide (((a.name.size : Nat) : Int) > 60)))), (4, .is (.tmp 18) (VP.bool (decide (((a.name.size : Nat) : Int) > 60)))), (5, .pt 19 (.blk (.val c4) 2)), (6, .is (.tmp 20) (O_int a.args)), (7, .is (.tmp 21) (VP.int .i64 ((a.args.length : Nat) : Int))), (8, .is (.tmp 22) (VP.bool (decide (((a.args.length : Nat) : Int) > 12)))), (9, .is (.tmp 23) (VP.bool (decide (((a.args.length : Nat) : Int) > 12)))), (10, .is (.tmp 24) (VP.bool (decide (((a.args.length : Nat) : Int) > 12)))), (11, .pt 25 (.blk (.val c4) 4)), (12, .pt 26 (.blk (.val c4) 6)), (13, .is (.tmp 27) (O_int a.term.kids)), (14, .is (.tmp 28) (VP.int .i64 ((a.term.kids.length : Nat) : Int))), (15, .is (.tmp 29) (VP.bool (decide (((a.term.kids.length : Nat) : Int) > 12)))), (16, .is (.tmp 30) (VP.bool (decide (((a.term.kids.length : Nat) : Int) > 12)))), (17, .is (.tmp 31) (VP.bool (decide (((a.term.kids.length : Nat) : Int) > 12)))), (18, .pt 32 (.blk (.val c4) 4)), (19, .pt 33 (.blk (.val c4) 7)), (20, .is (.tmp 34) (VP.str a.term.num)), (21, .is (.tmp 35) (VP.int .i64 ((a.term.num.size : Nat) : Int))), (22, .is (.tmp 36) (VP.bool (decide (((a.term.num.size : Nat) : Int) > 60)))), (23, .is (.tmp 37) (VP.bool (decide (((a.term.num.size : Nat) : Int) > 60))))] [] [0, 1, 2, 3, 4, 5, 6, 7, 8] [] DagM_p8_6 DagM_s8_6 rfl rfl follow rfl ⟨
              wp rfl (does_field _ _ _ 1 DagM_f_collatorlaw06_Act_1 rfl rfl rfl rfl rfl rfl (pt_ptr (ar_tmp (av_fs 1 rfl)))),
              wp rfl (does_loadOne _ DagM_one_string rfl rfl rfl rfl rfl (pt_pt (av_rs 0 0 rfl rfl)) (rds_box (off := 1) (av_fs 0 rfl) (hq_one rfl))),
              wp rfl (does_lenStr _ _ Try.underlying9 rfl rfl rfl rfl rfl (ar_tmp (av_rs 1 1 rfl rfl))),
              wp rfl (does_cmp (m := ((a.name.size : Nat) : Int)) (n := 60) _ _ _ _ _ rfl rfl rfl rfl rfl rfl .i64 (ar_tmp (av_rs 2 2 rfl rfl)) (ar_const (fun _ _ => rfl))),
              wp rfl (does_move _ (.inl rfl) rfl rfl rfl rfl (ar_tmp (av_rs 3 3 rfl rfl))),
              .inl ⟨wants_guard false rfl rfl rfl (av_bool hb3 (av_rs 4 4 rfl rfl)), does_field _ _ _ 2 DagM_f_collatorlaw06_Act_2 rfl rfl rfl rfl rfl rfl (pt_ptr (ar_tmp (av_fs 1 rfl)))⟩,
              .inl ⟨wants_guard false rfl rfl rfl (av_bool hb3 (av_rs 4 4 rfl rfl)), does_loadOne _ DagM_one___int rfl rfl rfl rfl rfl (pt_pt (av_rs 5 5 rfl rfl)) (rds_box (off := 2) (av_fs 0 rfl) (hq_one rfl))⟩,
              .inl ⟨wants_guard false rfl rfl rfl (av_bool hb3 (av_rs 4 4 rfl rfl)), does_len _ _ (by kernel_rfl) rfl rfl rfl rfl rfl (sl_ro (av_rs 6 6 rfl rfl) (flat_nil_iff cInt_len (by decide) _))⟩,
              .inl ⟨wants_guard false rfl rfl rfl (av_bool hb3 (av_rs 4 4 rfl rfl)), does_cmp (m := ((a.args.length : Nat) : Int)) (n := 12) _ _ _ _ _ rfl rfl rfl rfl rfl rfl .i64 (ar_tmp (av_rs 7 7 rfl rfl)) (ar_const (fun _ _ => rfl))⟩,
              wp rfl (does_pick false _ _ _ rfl rfl rfl rfl rfl (ar_tmp (av_bool hb3 (av_rs 4 4 rfl rfl))) (ar_tmp (av_rs 8 8 rfl rfl))),
              wp rfl (does_move _ (.inl rfl) rfl rfl rfl rfl (ar_tmp (av_rs 9 9 rfl rfl))),
              .inl ⟨wants_guard false rfl rfl rfl (av_bool hb4 (av_rs 10 10 rfl rfl)), does_field _ _ _ 4 DagM_f_collatorlaw06_Act_4 rfl rfl rfl rfl rfl rfl (pt_ptr (ar_tmp (av_fs 1 rfl)))⟩,
              .inl ⟨wants_guard false rfl rfl rfl (av_bool hb4 (av_rs 10 10 rfl rfl)), does_field _ _ _ 2 DagM_f_api_Term_2 rfl rfl rfl rfl rfl rfl (pt_pt (av_rs 11 11 rfl rfl))⟩,
              .inl ⟨wants_guard false rfl rfl rfl (av_bool hb4 (av_rs 10 10 rfl rfl)), does_loadOne _ DagM_one___int rfl rfl rfl rfl rfl (pt_pt (av_rs 12 12 rfl rfl)) (rds_box (off := 6) (av_fs 0 rfl) (hq_one rfl))⟩,
              .inl ⟨wants_guard false rfl rfl rfl (av_bool hb4 (av_rs 10 10 rfl rfl)), does_len _ _ (by kernel_rfl) rfl rfl rfl rfl rfl (sl_ro (av_rs 13 13 rfl rfl) (flat_nil_iff cInt_len (by decide) _))⟩,
              .inl ⟨wants_guard false rfl rfl rfl (av_bool hb4 (av_rs 10 10 rfl rfl)), does_cmp (m := ((a.term.kids.length : Nat) : Int)) (n := 12) _ _ _ _ _ rfl rfl rfl rfl rfl rfl .i64 (ar_tmp (av_rs 14 14 rfl rfl)) (ar_const (fun _ _ => rfl))⟩,
              wp rfl (does_pick false _ _ _ rfl rfl rfl rfl rfl (ar_tmp (av_bool hb4 (av_rs 10 10 rfl rfl))) (ar_tmp (av_rs 15 15 rfl rfl))),
              wp rfl (does_move _ (.inl rfl) rfl rfl rfl rfl (ar_tmp (av_rs 16 16 rfl rfl))),
              .inl ⟨wants_guard false rfl rfl rfl (av_bool hb5 (av_rs 17 17 rfl rfl)), does_field _ _ _ 4 DagM_f_collatorlaw06_Act_4 rfl rfl rfl rfl rfl rfl (pt_ptr (ar_tmp (av_fs 1 rfl)))⟩,
              .inl ⟨wants_guard false rfl rfl rfl (av_bool hb5 (av_rs 17 17 rfl rfl)), does_field _ _ _ 3 DagM_f_api_Term_3 rfl rfl rfl rfl rfl rfl (pt_pt (av_rs 18 18 rfl rfl))⟩,
              .inl ⟨wants_guard false rfl rfl rfl (av_bool hb5 (av_rs 17 17 rfl rfl)), does_loadOne _ DagM_one_string rfl rfl rfl rfl rfl (pt_pt (av_rs 19 19 rfl rfl)) (rds_box (off := 7) (av_fs 0 rfl) (hq_one rfl))⟩,
              .inl ⟨wants_guard false rfl rfl rfl (av_bool hb5 (av_rs 17 17 rfl rfl)), does_lenStr _ _ Try.underlying9 rfl rfl rfl rfl rfl (ar_tmp (av_rs 20 20 rfl rfl))⟩,
              .inl ⟨wants_guard false rfl rfl rfl (av_bool hb5 (av_rs 17 17 rfl rfl)), does_cmp (m := ((a.term.num.size : Nat) : Int)) (n := 60) _ _ _ _ _ rfl rfl rfl rfl rfl rfl .i64 (ar_tmp (av_rs 21 21 rfl rfl)) (ar_const (fun _ _ => rfl))⟩,
              wp rfl (does_pick false _ _ _ rfl rfl rfl rfl rfl (ar_tmp (av_bool hb5 (av_rs 17 17 rfl rfl))) (ar_tmp (av_rs 22 22 rfl rfl))),
              trivial⟩ ?_
            refine nx_then ?_
            refine t_split 32 rfl (fun hb6 => ?_) (fun hb6 => ?_)
            · have hc6 := of_decide_eq_true hb6
              refine t_seq ?_
              refine t_rg [.own 101 (.val c4) (B_act6 a), .is (.tmp 4) (VP.ptr c4), .is (.tmp 8) (VP.eq v0 true true), .is (.tmp 9) (VP.int .i64 ((l.length : Nat) : Int)), .is (.tmp 10) (VP.int .i64 ((k : Nat) : Int)), .bor (.val v0) (S_act6 l), .is (.tmp 11) (VP.bool (decide (((k : Nat) : Int) < ((l.length : Nat) : Int)))), .pt 12 (.row (.val v0) (k * 8)), .is (.tmp 13) (VP.agg [VP.int .i64 a.what, VP.str a.name, O_int a.args, VP.int .i64 a.res, VP.int .i64 a.term.op, VP.int .i64 a.term.fn, O_int a.term.kids, VP.str a.term.num]), .pt 14 (.blk (.val c4) 1), .is (.tmp 15) (VP.str a.name), .is (.tmp 16) (VP.int .i64 ((a.name.size : Nat) : Int)), .is (.tmp 17) (VP.bool (decide (((a.name.size : Nat) : Int) > 60))), .is (.tmp 18) (VP.bool (decide (((a.name.size : Nat) : Int) > 60))), .pt 19 (.blk (.val c4) 2), .is (.tmp 20) (O_int a.args), .is (.tmp 21) (VP.int .i64 ((a.args.length : Nat) : Int)), .is (.tmp 22) (VP.bool (decide (((a.args.length : Nat) : Int) > 12))), .is (.tmp 23) (VP.bool (decide (((a.args.length : Nat) : Int) > 12))), .is (.tmp 24) (VP.bool (decide (((a.args.length : Nat) : Int) > 12))), .pt 25 (.blk (.val c4) 4), .pt 26 (.blk (.val c4) 6), .is (.tmp 27) (O_int a.term.kids), .is (.tmp 28) (VP.int .i64 ((a.term.kids.length : Nat) : Int)), .is (.tmp 29) (VP.bool (decide (((a.term.kids.length : Nat) : Int) > 12))), .is (.tmp 30) (VP.bool (decide (((a.term.kids.length : Nat) : Int) > 12))), .is (.tmp 31) (VP.bool (decide (((a.term.kids.length : Nat) : Int) > 12))), .pt 32 (.blk (.val c4) 4), .pt 33 (.blk (.val c4) 7), .is (.tmp 34) (VP.str a.term.num), .is (.tmp 35) (VP.int .i64 ((a.term.num.size : Nat) : Int)), .is (.tmp 36) (VP.bool (decide (((a.term.num.size : Nat) : Int) > 60))), .is (.tmp 37) (VP.bool (decide (((a.term.num.size : Nat) : Int) > 60)))] [] [(0, .is (.tmp 2) (VP.bool true))] [] [0, 1, 2, 3, 4, 5, 6, 7, 8, 9, 10, 11, 12, 13, 14, 15, 16, 17, 18, 19, 20, 21, 22, 23, 24, 25, 26, 27, 28, 29, 30, 31, 32] [] [[]] [[]] rfl rfl follow rfl ⟨
                wp rfl (does_move _ (.inr rfl) rfl rfl rfl rfl (ar_const (fun _ _ => rfl))),
                trivial⟩ ?_
              refine nx_then ?_
              refine t_ret ?_
              refine rt_block ?_
              refine rt_then ?_
              refine rt_then ?_
              refine rt_block ?_
              refine rt_then ?_
              exact rt_post [HA.of (VP.bool (greatL l))] [[]] [] [] rfl ⟨(rv_eq (congrArg HA.of (congrArg VP.bool (show true = greatL l from Eq.symm (by unfold greatL; rw [hle, cond_false]; exact any_hit hx (by unfold bigA; (try rw [hb3]); (try rw [hb4]); (try rw [hb5]); (try rw [hb6]); (try rfl)))))) (rv_vp 33 rfl)), trivial⟩ (by decide) rfl rfl
            · have hc6 := of_decide_eq_false hb6
              refine t_skip ?_
              refine nx_block ?_
              refine nx_then ?_
              refine t_rg [.own 101 (.val c4) (B_act6 a), .is (.tmp 4) (VP.ptr c4), .is (.tmp 8) (VP.eq v0 true true), .is (.tmp 9) (VP.int .i64 ((l.length : Nat) : Int)), .bor (.val v0) (S_act6 l), .is (.tmp 11) (VP.bool (decide (((k : Nat) : Int) < ((l.length : Nat) : Int)))), .pt 12 (.row (.val v0) (k * 8)), .is (.tmp 13) (VP.agg [VP.int .i64 a.what, VP.str a.name, O_int a.args, VP.int .i64 a.res, VP.int .i64 a.term.op, VP.int .i64 a.term.fn, O_int a.term.kids, VP.str a.term.num]), .pt 14 (.blk (.val c4) 1), .is (.tmp 15) (VP.str a.name), .is (.tmp 16) (VP.int .i64 ((a.name.size : Nat) : Int)), .is (.tmp 17) (VP.bool (decide (((a.name.size : Nat) : Int) > 60))), .is (.tmp 18) (VP.bool (decide (((a.name.size : Nat) : Int) > 60))), .pt 19 (.blk (.val c4) 2), .is (.tmp 20) (O_int a.args), .is (.tmp 21) (VP.int .i64 ((a.args.length : Nat) : Int)), .is (.tmp 22) (VP.bool (decide (((a.args.length : Nat) : Int) > 12))), .is (.tmp 23) (VP.bool (decide (((a.args.length : Nat) : Int) > 12))), .is (.tmp 24) (VP.bool (decide (((a.args.length : Nat) : Int) > 12))), .pt 25 (.blk (.val c4) 4), .pt 26 (.blk (.val c4) 6), .is (.tmp 27) (O_int a.term.kids), .is (.tmp 28) (VP.int .i64 ((a.term.kids.length : Nat) : Int)), .is (.tmp 29) (VP.bool (decide (((a.term.kids.length : Nat) : Int) > 12))), .is (.tmp 30) (VP.bool (decide (((a.term.kids.length : Nat) : Int) > 12))), .is (.tmp 31) (VP.bool (decide (((a.term.kids.length : Nat) : Int) > 12))), .pt 32 (.blk (.val c4) 4), .pt 33 (.blk (.val c4) 7), .is (.tmp 34) (VP.str a.term.num), .is (.tmp 35) (VP.int .i64 ((a.term.num.size : Nat) : Int)), .is (.tmp 36) (VP.bool (decide (((a.term.num.size : Nat) : Int) > 60))), .is (.tmp 37) (VP.bool (decide (((a.term.num.size : Nat) : Int) > 60)))] [(1, .is (.tmp 10) (VP.int .i64 ((k : Nat) : Int)))] [(0, .is (.tmp 38) (VP.int .i64 (((k + 1) : Nat) : Int))), (1, .is (.tmp 10) (VP.int .i64 (((k + 1) : Nat) : Int)))] [] [0, 1, 2, 3, 5, 6, 7, 8, 9, 10, 11, 12, 13, 14, 15, 16, 17, 18, 19, 20, 21, 22, 23, 24, 25, 26, 27, 28, 29, 30, 31, 32] [4] [[], [0]] [[1], []] rfl rfl follow rfl ⟨
                wp rfl (does_addE (m := ((k : Nat) : Int)) (n := 1) (x := (((k + 1) : Nat) : Int)) (by omega) _ _ _ _ rfl rfl rfl rfl rfl (by omega) (ar_tmp (av_os 0 1 rfl rfl)) (ar_const (fun _ _ => rfl))),
                wp rfl (does_move _ (.inl rfl) rfl rfl rfl rfl (ar_tmp (av_rs 0 0 rfl rfl))),
                trivial⟩ ?_
              refine nx_round (τ := {k : Nat // (decide (((l.length : Nat) : Int) > 80)) = false ∧ k ≤ l.length ∧ ∀ j y, j < k → l[j]? = some y → bigA y = false}) (I := fun ⟨k, _⟩ => [.is (.tmp 8) (VP.eq v0 true true), .is (.tmp 9) (VP.int .i64 ((l.length : Nat) : Int)), .is (.tmp 10) (VP.int .i64 ((k : Nat) : Int)), .bor (.val v0) (S_act6 l)]) (μ := fun ⟨k, _⟩ => l.length - k) (s := ⟨k, hle, hk, hno⟩) (⟨k + 1, hle, by omega, ixf_step hno hx (by unfold bigA; (try rw [hb3]); (try rw [hb4]); (try rw [hb5]); (try rw [hb6]); (try rfl))⟩) ?_ [2, 3, 33, 4] ?_
              · exact (show l.length - (k + 1) < l.length - k by omega)
              · exact rfl
    · have hc2 := of_decide_eq_false hb2
      refine t_exit ?_
      refine ex_then ?_
      refine ex_then ?_
      refine ex_block ?_
      refine nx_then ?_
      refine t_pick [3] rfl ?_
      refine t_seq ?_
      refine t_rg [.bor (.val v0) (S_act6 l)] [] [(0, .is (.tmp 2) (VP.bool false))] [] [0] [] [[]] [[]] rfl rfl follow rfl ⟨
        wp rfl (does_move _ (.inr rfl) rfl rfl rfl rfl (ar_const (fun _ _ => rfl))),
        trivial⟩ ?_
      refine nx_then ?_
      refine t_ret ?_
      exact rt_post [HA.of (VP.bool (greatL l))] [[]] [] [] rfl ⟨(rv_eq (congrArg HA.of (congrArg VP.bool (show false = greatL l from Eq.symm (by unfold greatL; rw [hle, cond_false]; exact any_miss hno (by omega))))) (rv_vp 1 rfl)), trivial⟩ (by decide) rfl rfl

set_option maxRecDepth 100000 in
set_option maxHeartbeats 4000000 in
theorem dl_speaks  : SpecO Try.prog 7 [] [] [] [] (HA.of (VP.bool true)) := by
  refine spec_of 41 Try.func7 rfl Try.ntmps7 rfl fun w0 S0 Z0 Bf => ?_
  refine t_seq ?_
  refine t_rg [] [] [(0, .is (.tmp 0) (VP.bool false))] [] [] [] [[]] [[]] rfl rfl follow rfl ⟨
    wp rfl (does_move _ (.inr rfl) rfl rfl rfl rfl (ar_const (fun _ _ => rfl))),
    trivial⟩ ?_
  refine nx_then ?_
  refine t_seq ?_
  refine t_rg [.is (.tmp 0) (VP.bool false)] [] [(0, .own 101 (.tmp 6) (Arn (newA 9))), (1, .eq 1 (.tmp 6))] [] [0] [] [[], [0]] [[1], []] rfl rfl follow rfl ⟨
    wp rfl (does_callG [] [] [] 101 [0] (da_New 9) rfl DagM_hb_collator_dag_New rfl rfl rfl rfl rfl ar_clo (ars_cons (pa_vp (ar_const (fun _ _ => rfl))) ars_nil) trivial trivial),
    wp rfl (does_eqTmp (k := 6) _ rfl (.inr rfl) rfl rfl rfl rfl rfl),
    trivial⟩ ?_
  refine nx_then ?_
  refine t_pick [1, 0, 2] rfl ?_
  refine t_nameP rfl fun va => ?_
  refine t_pick [3, 1, 0, 2] rfl ?_
  refine t_eq ?_
  refine t_pick [0, 2, 3] rfl ?_
  refine t_seq ?_
  refine t_rg [.is (.tmp 1) (VP.ptr va), .is (.tmp 0) (VP.bool false)] [(2, .own 101 (.val va) (Arn (newA 9)))] [(0, .is (.tmp 8) (VP.ptr va)), (1, .is (.tmp 9) (VP.agg [VP.int .i64 1, VP.int .i64 0, VP.nilS, VP.str (ByteArray.mk #[])])), (2, .own 102 (.tmp 10) (HA.of (VP.tup [VP.int .i64 ((newA 9).termR (⟨1, 0, [], (ByteArray.mk #[])⟩ : TermD)), VP.int .i64 ((newA 9).termE (⟨1, 0, [], (ByteArray.mk #[])⟩ : TermD))]))), (2, .own 101 (.val va) (Arn ((newA 9).term (⟨1, 0, [], (ByteArray.mk #[])⟩ : TermD)))), (3, .is (.tmp 7) (VP.tup [VP.int .i64 ((newA 9).termR (⟨1, 0, [], (ByteArray.mk #[])⟩ : TermD)), VP.int .i64 ((newA 9).termE (⟨1, 0, [], (ByteArray.mk #[])⟩ : TermD))])), (4, .is (.tmp 11) (VP.int .i64 ((newA 9).termR (⟨1, 0, [], (ByteArray.mk #[])⟩ : TermD)))), (5, .is (.tmp 12) (VP.int .i64 ((newA 9).termE (⟨1, 0, [], (ByteArray.mk #[])⟩ : TermD)))), (6, .is (.tmp 2) (VP.int .i64 ((newA 9).termR (⟨1, 0, [], (ByteArray.mk #[])⟩ : TermD)))), (7, .is (.tmp 3) (VP.int .i64 ((newA 9).termE (⟨1, 0, [], (ByteArray.mk #[])⟩ : TermD))))] [] [0, 2] [1] DagM_p7_2 DagM_s7_2 rfl rfl follow rfl ⟨
    wp rfl (does_move _ (.inl rfl) rfl rfl rfl rfl (ar_tmp (av_fs 0 rfl))),
    wp rfl (does_build [VP.int .i64 0, VP.int .i64 0, VP.nilS, VP.str (ByteArray.mk #[])] DagM_zero_api_Term DagM_pl_api_Term rfl rfl rfl rfl rfl (fun _ _ => ⟨rfl, rfl, rfl, rfl, trivial⟩) (.cons 0 [HA.of (VP.int .i64 1)] none rfl rfl (cv_one rfl (mv_vp (ar_const (fun _ _ => rfl)))) (.nil _))),
    wp rfl (does_callG [] [101] [101] 102 [0, 1] (da_Term (v := va) (d := (newA 9)) (⟨1, 0, [], (ByteArray.mk #[])⟩ : TermD) (newA_ok 9 (by decide)) (by decide) (by decide)) rfl DagM_hb___collator_dag_Arena__Term rfl rfl rfl rfl rfl ar_clo (ars_cons (pa_vp (ar_tmp (av_rs 0 0 rfl rfl))) (ars_cons (pa_vp (ar_w (ar_tmp (av_rs 1 1 rfl rfl)) term_nil)) ars_nil)) trivial ⟨(av_os 0 2 rfl rfl), trivial⟩),
    wp rfl (does_move _ (.inl rfl) rfl rfl rfl rfl (ar_of (av_rs 2 2 rfl rfl))),
    wp rfl (does_extract (ps := [VP.int .i64 ((newA 9).termR (⟨1, 0, [], (ByteArray.mk #[])⟩ : TermD)), VP.int .i64 ((newA 9).termE (⟨1, 0, [], (ByteArray.mk #[])⟩ : TermD))]) _ 0 rfl rfl rfl rfl rfl (ar_tmp (av_rs 4 3 rfl rfl)) rfl),
    wp rfl (does_extract (ps := [VP.int .i64 ((newA 9).termR (⟨1, 0, [], (ByteArray.mk #[])⟩ : TermD)), VP.int .i64 ((newA 9).termE (⟨1, 0, [], (ByteArray.mk #[])⟩ : TermD))]) _ 1 rfl rfl rfl rfl rfl (ar_tmp (av_rs 4 3 rfl rfl)) rfl),
    wp rfl (does_move _ (.inr rfl) rfl rfl rfl rfl (ar_tmp (av_rs 5 4 rfl rfl))),
    wp rfl (does_move _ (.inr rfl) rfl rfl rfl rfl (ar_tmp (av_rs 6 5 rfl rfl))),
    trivial⟩ ?_
  refine t_pick [0, 1, 4, 5, 9, 10] rfl ?_
  refine nx_then ?_
  refine t_pick [0, 1, 3, 4, 5] rfl ?_
  refine t_seq ?_
  refine t_rg [.is (.tmp 1) (VP.ptr va), .is (.tmp 0) (VP.bool false), .is (.tmp 2) (VP.int .i64 ((newA 9).termR (⟨1, 0, [], (ByteArray.mk #[])⟩ : TermD))), .is (.tmp 3) (VP.int .i64 ((newA 9).termE (⟨1, 0, [], (ByteArray.mk #[])⟩ : TermD)))] [(2, .own 101 (.val va) (Arn ((newA 9).term (⟨1, 0, [], (ByteArray.mk #[])⟩ : TermD))))] [(0, .is (.tmp 14) (VP.ptr va)), (1, .is (.tmp 15) (VP.agg [VP.int .i64 1, VP.int .i64 0, VP.nilS, VP.str (ByteArray.mk #[])])), (2, .own 103 (.tmp 16) (HA.of (VP.tup [VP.int .i64 (((newA 9).term (⟨1, 0, [], (ByteArray.mk #[])⟩ : TermD)).termR (⟨1, 0, [], (ByteArray.mk #[])⟩ : TermD)), VP.int .i64 (((newA 9).term (⟨1, 0, [], (ByteArray.mk #[])⟩ : TermD)).termE (⟨1, 0, [], (ByteArray.mk #[])⟩ : TermD))]))), (2, .own 101 (.val va) (Arn (((newA 9).term (⟨1, 0, [], (ByteArray.mk #[])⟩ : TermD)).term (⟨1, 0, [], (ByteArray.mk #[])⟩ : TermD)))), (3, .is (.tmp 13) (VP.tup [VP.int .i64 (((newA 9).term (⟨1, 0, [], (ByteArray.mk #[])⟩ : TermD)).termR (⟨1, 0, [], (ByteArray.mk #[])⟩ : TermD)), VP.int .i64 (((newA 9).term (⟨1, 0, [], (ByteArray.mk #[])⟩ : TermD)).termE (⟨1, 0, [], (ByteArray.mk #[])⟩ : TermD))])), (4, .is (.tmp 17) (VP.int .i64 (((newA 9).term (⟨1, 0, [], (ByteArray.mk #[])⟩ : TermD)).termR (⟨1, 0, [], (ByteArray.mk #[])⟩ : TermD)))), (5, .is (.tmp 18) (VP.int .i64 (((newA 9).term (⟨1, 0, [], (ByteArray.mk #[])⟩ : TermD)).termE (⟨1, 0, [], (ByteArray.mk #[])⟩ : TermD)))), (6, .is (.tmp 4) (VP.int .i64 (((newA 9).term (⟨1, 0, [], (ByteArray.mk #[])⟩ : TermD)).termR (⟨1, 0, [], (ByteArray.mk #[])⟩ : TermD)))), (7, .is (.tmp 5) (VP.int .i64 (((newA 9).term (⟨1, 0, [], (ByteArray.mk #[])⟩ : TermD)).termE (⟨1, 0, [], (ByteArray.mk #[])⟩ : TermD))))] [] [0, 1, 3, 4] [2] DagM_p7_3 DagM_s7_3 rfl rfl follow rfl ⟨
    wp rfl (does_move _ (.inl rfl) rfl rfl rfl rfl (ar_tmp (av_fs 0 rfl))),
    wp rfl (does_build [VP.int .i64 0, VP.int .i64 0, VP.nilS, VP.str (ByteArray.mk #[])] DagM_zero_api_Term DagM_pl_api_Term rfl rfl rfl rfl rfl (fun _ _ => ⟨rfl, rfl, rfl, rfl, trivial⟩) (.cons 0 [HA.of (VP.int .i64 1)] none rfl rfl (cv_one rfl (mv_vp (ar_const (fun _ _ => rfl)))) (.nil _))),
    wp rfl (does_callG [] [101] [101] 103 [0, 1] (da_Term (v := va) (d := ((newA 9).term (⟨1, 0, [], (ByteArray.mk #[])⟩ : TermD))) (⟨1, 0, [], (ByteArray.mk #[])⟩ : TermD) (term_ok (newA_ok 9 (by decide)) _) (by decide) (by decide)) rfl DagM_hb___collator_dag_Arena__Term rfl rfl rfl rfl rfl ar_clo (ars_cons (pa_vp (ar_tmp (av_rs 0 0 rfl rfl))) (ars_cons (pa_vp (ar_w (ar_tmp (av_rs 1 1 rfl rfl)) term_nil)) ars_nil)) trivial ⟨(av_os 0 2 rfl rfl), trivial⟩),
    wp rfl (does_move _ (.inl rfl) rfl rfl rfl rfl (ar_of (av_rs 2 2 rfl rfl))),
    wp rfl (does_extract (ps := [VP.int .i64 (((newA 9).term (⟨1, 0, [], (ByteArray.mk #[])⟩ : TermD)).termR (⟨1, 0, [], (ByteArray.mk #[])⟩ : TermD)), VP.int .i64 (((newA 9).term (⟨1, 0, [], (ByteArray.mk #[])⟩ : TermD)).termE (⟨1, 0, [], (ByteArray.mk #[])⟩ : TermD))]) _ 0 rfl rfl rfl rfl rfl (ar_tmp (av_rs 4 3 rfl rfl)) rfl),
    wp rfl (does_extract (ps := [VP.int .i64 (((newA 9).term (⟨1, 0, [], (ByteArray.mk #[])⟩ : TermD)).termR (⟨1, 0, [], (ByteArray.mk #[])⟩ : TermD)), VP.int .i64 (((newA 9).term (⟨1, 0, [], (ByteArray.mk #[])⟩ : TermD)).termE (⟨1, 0, [], (ByteArray.mk #[])⟩ : TermD))]) _ 1 rfl rfl rfl rfl rfl (ar_tmp (av_rs 4 3 rfl rfl)) rfl),
    wp rfl (does_move _ (.inr rfl) rfl rfl rfl rfl (ar_tmp (av_rs 5 4 rfl rfl))),
    wp rfl (does_move _ (.inr rfl) rfl rfl rfl rfl (ar_tmp (av_rs 6 5 rfl rfl))),
    trivial⟩ ?_
  refine t_pick [0, 1, 2, 3, 6, 7, 11, 12] rfl ?_
  refine nx_then ?_
  refine t_pick [0, 1, 2, 3, 5, 6, 7] rfl ?_
  refine t_seq ?_
  refine t_rg [.is (.tmp 1) (VP.ptr va), .is (.tmp 2) (VP.int .i64 ((newA 9).termR (⟨1, 0, [], (ByteArray.mk #[])⟩ : TermD))), .is (.tmp 3) (VP.int .i64 ((newA 9).termE (⟨1, 0, [], (ByteArray.mk #[])⟩ : TermD))), .own 101 (.val va) (Arn (((newA 9).term (⟨1, 0, [], (ByteArray.mk #[])⟩ : TermD)).term (⟨1, 0, [], (ByteArray.mk #[])⟩ : TermD))), .is (.tmp 4) (VP.int .i64 (((newA 9).term (⟨1, 0, [], (ByteArray.mk #[])⟩ : TermD)).termR (⟨1, 0, [], (ByteArray.mk #[])⟩ : TermD))), .is (.tmp 5) (VP.int .i64 (((newA 9).term (⟨1, 0, [], (ByteArray.mk #[])⟩ : TermD)).termE (⟨1, 0, [], (ByteArray.mk #[])⟩ : TermD)))] [(22, .is (.tmp 0) (VP.bool false))] [(0, .is (.tmp 19) (VP.int .i64 ((newA 9).termE (⟨1, 0, [], (ByteArray.mk #[])⟩ : TermD)))), (1, .is (.tmp 20) (VP.bool (((newA 9).termE (⟨1, 0, [], (ByteArray.mk #[])⟩ : TermD)) == 0))), (2, .is (.tmp 21) (VP.bool (((newA 9).termE (⟨1, 0, [], (ByteArray.mk #[])⟩ : TermD)) == 0))), (3, .is (.tmp 22) (VP.int .i64 (((newA 9).term (⟨1, 0, [], (ByteArray.mk #[])⟩ : TermD)).termE (⟨1, 0, [], (ByteArray.mk #[])⟩ : TermD)))), (4, .is (.tmp 23) (VP.bool ((((newA 9).term (⟨1, 0, [], (ByteArray.mk #[])⟩ : TermD)).termE (⟨1, 0, [], (ByteArray.mk #[])⟩ : TermD)) == 0))), (5, .is (.tmp 24) (VP.bool ((((newA 9).term (⟨1, 0, [], (ByteArray.mk #[])⟩ : TermD)).termE (⟨1, 0, [], (ByteArray.mk #[])⟩ : TermD)) == 0))), (6, .is (.tmp 25) (VP.bool ((((newA 9).term (⟨1, 0, [], (ByteArray.mk #[])⟩ : TermD)).termE (⟨1, 0, [], (ByteArray.mk #[])⟩ : TermD)) == 0))), (7, .is (.tmp 26) (VP.int .i64 ((newA 9).termR (⟨1, 0, [], (ByteArray.mk #[])⟩ : TermD)))), (8, .is (.tmp 27) (VP.int .i64 (((newA 9).term (⟨1, 0, [], (ByteArray.mk #[])⟩ : TermD)).termR (⟨1, 0, [], (ByteArray.mk #[])⟩ : TermD)))), (9, .is (.tmp 28) (VP.bool (((newA 9).termR (⟨1, 0, [], (ByteArray.mk #[])⟩ : TermD)) == (((newA 9).term (⟨1, 0, [], (ByteArray.mk #[])⟩ : TermD)).termR (⟨1, 0, [], (ByteArray.mk #[])⟩ : TermD))))), (10, .is (.tmp 29) (VP.bool (((newA 9).termR (⟨1, 0, [], (ByteArray.mk #[])⟩ : TermD)) == (((newA 9).term (⟨1, 0, [], (ByteArray.mk #[])⟩ : TermD)).termR (⟨1, 0, [], (ByteArray.mk #[])⟩ : TermD))))), (11, .is (.tmp 30) (VP.bool (((newA 9).termR (⟨1, 0, [], (ByteArray.mk #[])⟩ : TermD)) == (((newA 9).term (⟨1, 0, [], (ByteArray.mk #[])⟩ : TermD)).termR (⟨1, 0, [], (ByteArray.mk #[])⟩ : TermD))))), (12, .is (.tmp 31) (VP.ptr va)), (13, .is (.tmp 32) (VP.int .i64 (((((newA 9).term (⟨1, 0, [], (ByteArray.mk #[])⟩ : TermD)).term (⟨1, 0, [], (ByteArray.mk #[])⟩ : TermD)).terms.length : Nat) : Int))), (14, .is (.tmp 33) (VP.bool ((((((newA 9).term (⟨1, 0, [], (ByteArray.mk #[])⟩ : TermD)).term (⟨1, 0, [], (ByteArray.mk #[])⟩ : TermD)).terms.length : Nat) : Int) == 1))), (15, .is (.tmp 34) (VP.bool ((((((newA 9).term (⟨1, 0, [], (ByteArray.mk #[])⟩ : TermD)).term (⟨1, 0, [], (ByteArray.mk #[])⟩ : TermD)).terms.length : Nat) : Int) == 1))), (16, .is (.tmp 35) (VP.bool ((((((newA 9).term (⟨1, 0, [], (ByteArray.mk #[])⟩ : TermD)).term (⟨1, 0, [], (ByteArray.mk #[])⟩ : TermD)).terms.length : Nat) : Int) == 1))), (17, .is (.tmp 36) (VP.ptr va)), (18, .own 104 (.tmp 37) (R_sort ((((newA 9).term (⟨1, 0, [], (ByteArray.mk #[])⟩ : TermD)).term (⟨1, 0, [], (ByteArray.mk #[])⟩ : TermD)).sorts))), (19, .is (.tmp 38) (VP.int .i64 ((((((newA 9).term (⟨1, 0, [], (ByteArray.mk #[])⟩ : TermD)).term (⟨1, 0, [], (ByteArray.mk #[])⟩ : TermD)).sorts).length : Nat) : Int))), (20, .is (.tmp 39) (VP.bool (((((((newA 9).term (⟨1, 0, [], (ByteArray.mk #[])⟩ : TermD)).term (⟨1, 0, [], (ByteArray.mk #[])⟩ : TermD)).sorts).length : Nat) : Int) == 2))), (21, .is (.tmp 40) (VP.bool (((((((newA 9).term (⟨1, 0, [], (ByteArray.mk #[])⟩ : TermD)).term (⟨1, 0, [], (ByteArray.mk #[])⟩ : TermD)).sorts).length : Nat) : Int) == 2))), (22, .is (.tmp 0) (VP.bool (((((((newA 9).term (⟨1, 0, [], (ByteArray.mk #[])⟩ : TermD)).term (⟨1, 0, [], (ByteArray.mk #[])⟩ : TermD)).sorts).length : Nat) : Int) == 2)))] [] [0, 2, 3, 4, 5, 6] [1] DagM_p7_4 DagM_s7_4 rfl rfl follow rfl ⟨
    wp rfl (does_move _ (.inl rfl) rfl rfl rfl rfl (ar_tmp (av_fs 2 rfl))),
    wp rfl (does_cmp (m := ((newA 9).termE (⟨1, 0, [], (ByteArray.mk #[])⟩ : TermD))) (n := 0) _ _ _ _ _ rfl rfl rfl rfl rfl rfl .i64 (ar_tmp (av_rs 0 0 rfl rfl)) (ar_const (fun _ _ => rfl))),
    wp rfl (does_move _ (.inl rfl) rfl rfl rfl rfl (ar_tmp (av_rs 1 1 rfl rfl))),
    .inl ⟨wants_guard true rfl rfl rfl (av_bool (by decide +kernel) (av_rs 2 2 rfl rfl)), does_move _ (.inl rfl) rfl rfl rfl rfl (ar_tmp (av_fs 5 rfl))⟩,
    .inl ⟨wants_guard true rfl rfl rfl (av_bool (by decide +kernel) (av_rs 2 2 rfl rfl)), does_cmp (m := (((newA 9).term (⟨1, 0, [], (ByteArray.mk #[])⟩ : TermD)).termE (⟨1, 0, [], (ByteArray.mk #[])⟩ : TermD))) (n := 0) _ _ _ _ _ rfl rfl rfl rfl rfl rfl .i64 (ar_tmp (av_rs 3 3 rfl rfl)) (ar_const (fun _ _ => rfl))⟩,
    wp rfl (does_pick true _ _ _ rfl rfl rfl rfl rfl (ar_tmp (av_bool (by decide +kernel) (av_rs 2 2 rfl rfl))) (ar_tmp (av_rs 4 4 rfl rfl))),
    wp rfl (does_move _ (.inl rfl) rfl rfl rfl rfl (ar_tmp (av_rs 5 5 rfl rfl))),
    .inl ⟨wants_guard true rfl rfl rfl (av_bool (by decide +kernel) (av_rs 6 6 rfl rfl)), does_move _ (.inl rfl) rfl rfl rfl rfl (ar_tmp (av_fs 1 rfl))⟩,
    .inl ⟨wants_guard true rfl rfl rfl (av_bool (by decide +kernel) (av_rs 6 6 rfl rfl)), does_move _ (.inl rfl) rfl rfl rfl rfl (ar_tmp (av_fs 4 rfl))⟩,
    .inl ⟨wants_guard true rfl rfl rfl (av_bool (by decide +kernel) (av_rs 6 6 rfl rfl)), does_cmp (m := ((newA 9).termR (⟨1, 0, [], (ByteArray.mk #[])⟩ : TermD))) (n := (((newA 9).term (⟨1, 0, [], (ByteArray.mk #[])⟩ : TermD)).termR (⟨1, 0, [], (ByteArray.mk #[])⟩ : TermD))) _ _ _ _ _ rfl rfl rfl rfl rfl rfl .i64 (ar_tmp (av_rs 7 7 rfl rfl)) (ar_tmp (av_rs 8 8 rfl rfl))⟩,
    wp rfl (does_pick true _ _ _ rfl rfl rfl rfl rfl (ar_tmp (av_bool (by decide +kernel) (av_rs 6 6 rfl rfl))) (ar_tmp (av_rs 9 9 rfl rfl))),
    wp rfl (does_move _ (.inl rfl) rfl rfl rfl rfl (ar_tmp (av_rs 10 10 rfl rfl))),
    .inl ⟨wants_guard true rfl rfl rfl (av_bool (by decide +kernel) (av_rs 11 11 rfl rfl)), does_move _ (.inl rfl) rfl rfl rfl rfl (ar_tmp (av_fs 0 rfl))⟩,
    .inl ⟨wants_guard true rfl rfl rfl (av_bool (by decide +kernel) (av_rs 11 11 rfl rfl)), does_call (da_Len (v := va) (d := (((newA 9).term (⟨1, 0, [], (ByteArray.mk #[])⟩ : TermD)).term (⟨1, 0, [], (ByteArray.mk #[])⟩ : TermD)))) (fun _ _ _ _ h => h) rfl DagM_hb___collator_dag_Arena__Len rfl rfl rfl rfl ar_clo (ars_cons (pa_vp (ar_tmp (av_rs 12 12 rfl rfl))) ars_nil) ⟨(brw_own (av_fs 3 rfl) rfl), trivial⟩⟩,
    .inl ⟨wants_guard true rfl rfl rfl (av_bool (by decide +kernel) (av_rs 11 11 rfl rfl)), does_cmp (m := (((((newA 9).term (⟨1, 0, [], (ByteArray.mk #[])⟩ : TermD)).term (⟨1, 0, [], (ByteArray.mk #[])⟩ : TermD)).terms.length : Nat) : Int)) (n := 1) _ _ _ _ _ rfl rfl rfl rfl rfl rfl .i64 (ar_tmp (av_rs 13 13 rfl rfl)) (ar_const (fun _ _ => rfl))⟩,
    wp rfl (does_pick true _ _ _ rfl rfl rfl rfl rfl (ar_tmp (av_bool (by decide +kernel) (av_rs 11 11 rfl rfl))) (ar_tmp (av_rs 14 14 rfl rfl))),
    wp rfl (does_move _ (.inl rfl) rfl rfl rfl rfl (ar_tmp (av_rs 15 15 rfl rfl))),
    .inl ⟨wants_guard true rfl rfl rfl (av_bool (by decide +kernel) (av_rs 16 16 rfl rfl)), does_move _ (.inl rfl) rfl rfl rfl rfl (ar_tmp (av_fs 0 rfl))⟩,
    .inl ⟨wants_guard true rfl rfl rfl (av_bool (by decide +kernel) (av_rs 16 16 rfl rfl)), does_callG [] [] [] 104 [0] (da_Sorts (v := va) (d := (((newA 9).term (⟨1, 0, [], (ByteArray.mk #[])⟩ : TermD)).term (⟨1, 0, [], (ByteArray.mk #[])⟩ : TermD))) (by decide +kernel) (by decide +kernel)) rfl DagM_hb___collator_dag_Arena__Sorts rfl rfl rfl rfl rfl ar_clo (ars_cons (pa_vp (ar_tmp (av_rs 17 17 rfl rfl))) ars_nil) ⟨(brw_own (av_fs 3 rfl) rfl), trivial⟩ trivial⟩,
    .inl ⟨wants_guard true rfl rfl rfl (av_bool (by decide +kernel) (av_rs 16 16 rfl rfl)), does_len _ _ (by kernel_rfl) rfl rfl rfl rfl rfl (sl_tmp (av_rs 18 18 rfl rfl))⟩,
    .inl ⟨wants_guard true rfl rfl rfl (av_bool (by decide +kernel) (av_rs 16 16 rfl rfl)), does_cmp (m := ((((((newA 9).term (⟨1, 0, [], (ByteArray.mk #[])⟩ : TermD)).term (⟨1, 0, [], (ByteArray.mk #[])⟩ : TermD)).sorts).length : Nat) : Int)) (n := 2) _ _ _ _ _ rfl rfl rfl rfl rfl rfl .i64 (ar_tmp (av_rs 19 19 rfl rfl)) (ar_const (fun _ _ => rfl))⟩,
    wp rfl (does_pick true _ _ _ rfl rfl rfl rfl rfl (ar_tmp (av_bool (by decide +kernel) (av_rs 16 16 rfl rfl))) (ar_tmp (av_rs 20 20 rfl rfl))),
    wp rfl (does_move _ (.inr rfl) rfl rfl rfl rfl (ar_tmp (av_rs 21 21 rfl rfl))),
    trivial⟩ ?_
  refine t_pick [3, 24, 28] rfl ?_
  refine nx_then ?_
  refine t_pick [0, 2] rfl ?_
  refine t_ret ?_
  exact rt_post [HA.of (VP.bool true)] [[]] [] [] rfl ⟨(rv_eq (congrArg (fun b => HA.of (VP.bool b)) (by decide +kernel)) (rv_vp 1 rfl)), trivial⟩ (by decide) rfl rfl

end O
end Go.Proofs.Ytapmngmpomhjmaa

/- Laws in the logic over objects: what comes in is read and never turned. No program stands in this text. -/
namespace Go.Proofs.Ytapmngmpomhjmaa
open Go.RowKit
namespace O
/-- all that there was -/
abbrev was (W : World) : Foot := fun b => b < W.heap.size
theorem Turn.ext {S : Foot} {w w' : World} (h : Turn S w w') (hs : ∀ b, ¬ S b) : Ext w w' := ⟨h.os, h.tape, h.output, h.size, fun b hb => h.block b hb (hs b)⟩
theorem flat_all2 {α : Type} {P : Program} {W : World} {Z : Foot} {m : Nat} {e : TypeId} (f : α → List VP) (he : ∀ x : List Value, x.length = P.cellsOf e → Typed P W m e x → ∃ a, All2 Z (f a) x W) :
    ∀ (xs : List (List Value)), (∀ x ∈ xs, x.length = P.cellsOf e ∧ Typed P W m e x) → ∃ l : List α, l.length = xs.length ∧ All2 Z (l.flatMap f) xs.flatten W
  | [], _ => ⟨[], rfl, trivial⟩
  | x :: xs, h => by
    obtain ⟨l, h1, h2⟩ := flat_all2 f he xs fun y hy => h y (List.mem_cons_of_mem _ hy)
    obtain ⟨a, ha⟩ := he x (h x List.mem_cons_self).1 (h x List.mem_cons_self).2
    exact ⟨a :: l, by simp [h1], by rw [List.flatMap_cons, List.flatten_cons]; exact ha.app h2⟩
/-- a slice that came in -/
theorem ro_of {α : Type} {P : Program} {W : World} {T e : TypeId} {v : Value} (hT : P.underlying T = some (.slice e)) (f : α → List VP) (he : ∀ (m : Nat) (x : List Value), x.length = P.cellsOf e → Typed P W m e x → ∃ a, All2 (was W) (f a) x W) (h : Arg P W T v) :
    ∃ l : List α, l.length ≤ maxLen ∧ (VP.ro l.length (l.flatMap f)).p (was W) v W := by
  obtain ⟨a, cap, xs, m, rfl, h1, h2, h3, h4⟩ := h.slice hT
  obtain ⟨l, e1, e2⟩ := flat_all2 f (he m) xs h3
  refine ⟨l, by omega, a, cap, by rw [e1], by omega, h2, ?_⟩
  rcases Nat.eq_zero_or_pos xs.flatten.length with h0 | h0
  · left
    have := e2.len
    exact List.eq_nil_of_length_eq_zero (by omega)
  · right
    obtain ⟨b, off, ea, hb, hc⟩ := h4.all h0
    exact ⟨b, off, ea, hb, fun j x hx => by
      obtain ⟨u, hu, hp⟩ := e2.get hx
      exact ⟨u, hc j u hu, hp⟩⟩
/-- what a law's walk says of all that comes in -/
theorem SpecO.law {P : Program} {f : FuncId} {ps : List VP} (h : SpecO P f (ps.map Par.vp) [] [] [] (HA.of (VP.bool true))) {vs : List Value} {W : World} (ha : All2 (was W) ps vs W) :
    Calls P f vs.toArray W fun e W' => e = .returned (.bool true) ∧ Ext W W' := by
  have hl := ha.len
  refine (h vs.toArray W (was W) (fun _ => False) (fun _ => False) (by simp [hl]) (fun j q hq => ?_) (fun y hy => by cases hy) ?_ (fun _ h => h) (fun _ h => h.elim) (fun _ h => h.elim)).mono fun e w' ⟨v, Z', S', T, h1, _, _, _, h2, _, _, h3⟩ => ⟨?_, h3.ext fun _ h => h⟩
  · rw [List.getElem?_map, Option.map_eq_some_iff] at hq
    obtain ⟨x, hx, rfl⟩ := hq
    obtain ⟨v, hv, hp⟩ := ha.get hx
    exact ⟨v, by simpa using hv, hp⟩
  · have : ∀ {ps : List VP} {vs : List Value}, All2 (was W) ps vs W → AllS (was W) ((ps.map Par.vp).map Par.mvR) vs W fun _ => False := by
      intro ps vs h
      have e : (ps.map Par.vp).map Par.mvR = (ps.map fun _ => VP.any).map HA.of := by simp [Par.mvR]
      rw [e]
      exact AllS.of_all2 (fun _ h => h) (All2.of_get (by simp [h.len]) fun i x v hx _ => by
        rw [List.getElem?_map, Option.map_eq_some_iff] at hx
        obtain ⟨_, _, rfl⟩ := hx; trivial)
    simpa using this ha
  · obtain ⟨h2, _⟩ := h2
    rw [h1, h2]
theorem typed_str {P : Program} {W : World} {Z : Foot} {m : Nat} {t : TypeId} {x : List Value} (ht : P.underlying t = some .string) (h : Typed P W m t x) : ∃ s, All2 Z [VP.str s] x W := by
  obtain ⟨s, rfl, _⟩ := h.string ht
  exact ⟨s, rfl, trivial⟩
theorem typed_int {P : Program} {W : World} {Z : Foot} {m : Nat} {t : TypeId} {k : IntKind} {x : List Value} (ht : P.underlying t = some (.int k)) (h : Typed P W m t x) : ∃ n, All2 Z [VP.int k n] x W ∧ (Lit.int k n).wf = true := by
  obtain ⟨s, rfl, hs⟩ := h.int ht
  exact ⟨s, ⟨rfl, trivial⟩, hs⟩
end O
end Go.Proofs.Ytapmngmpomhjmaa

/- What an argument of some type is, with the reach that the form itself gives: each string and each slice that comes in has at most 2^47 - 4096 bytes. No program stands in this text. -/
namespace Go.Proofs.Ytapmngmpomhjmaa
open Go.ChangeShapes Go.WideShapes Go.ChangeAt Go.RowKit
namespace O
/-- cs are the cells of a value of type t; what it leads to lies in w; nothing is larger than the reach -/
def TypedB (P : Program) (w : World) : Nat → TypeId → List Value → Prop
  | 0, _, _ => False
  | n + 1, t, cs => match P.underlying t with
    | some .bool => ∃ b, cs = [.bool b]
    | some (.int k) => ∃ x, cs = [.int k x] ∧ (Lit.int k x).wf = true
    | some (.float k) => ∃ x, cs = [.float k x] ∧ (Lit.float k x).wf = true
    | some .string => ∃ s : ByteArray, cs = [.string s] ∧ s.size ≤ reachBytes
    | some (.slice e) => ∃ a cap, ∃ xs : List (List Value), cs = [.slice a xs.length cap] ∧ xs.length ≤ cap ∧ cap ≤ maxLen ∧ xs.length * P.bytesOf e ≤ reachBytes ∧ (∀ x ∈ xs, x.length = P.cellsOf e ∧ TypedB P w n e x) ∧ Rd w a xs.flatten
    | some (.struct fs) => cs.length = P.cellsOf t ∧ ∀ f ∈ fs.toList, TypedB P w n f.type ((cs.drop f.offset).take (P.cellsOf f.type))
    | _ => True
section
variable {H : Type} {enc : TypeId × Value → H} {P : Program} {w : World} {base : Nat} {spare : Nat → Bool} {held : Bool}
/-- v is a value of type t that came in, as w has it -/
def ArgB (P : Program) (w : World) (t : TypeId) (v : Value) : Prop :=
  ∃ n cs, TypedB P w n t cs ∧ v = (match P.underlying t with | some (.struct _) => .agg cs.toArray | _ => cs.headD undef)
theorem TypedB.int {k : IntKind} {n : Nat} {t : TypeId} {cs : List Value} (ht : P.underlying t = some (.int k)) (h : TypedB P w n t cs) : ∃ x, cs = [.int k x] ∧ (Lit.int k x).wf = true := by
  cases n with
  | zero => exact h.elim
  | succ n => unfold TypedB at h; rw [ht] at h; exact h
theorem TypedB.bool {n : Nat} {t : TypeId} {cs : List Value} (ht : P.underlying t = some .bool) (h : TypedB P w n t cs) : ∃ b, cs = [.bool b] := by
  cases n with
  | zero => exact h.elim
  | succ n => unfold TypedB at h; rw [ht] at h; exact h
theorem TypedB.string {n : Nat} {t : TypeId} {cs : List Value} (ht : P.underlying t = some .string) (h : TypedB P w n t cs) : ∃ s : ByteArray, cs = [.string s] ∧ s.size ≤ reachBytes := by
  cases n with
  | zero => exact h.elim
  | succ n => unfold TypedB at h; rw [ht] at h; exact h
theorem TypedB.slice {e : TypeId} {n : Nat} {t : TypeId} {cs : List Value} (ht : P.underlying t = some (.slice e)) (h : TypedB P w n t cs) :
    ∃ a cap, ∃ xs : List (List Value), ∃ m, cs = [.slice a xs.length cap] ∧ xs.length ≤ cap ∧ cap ≤ maxLen ∧ xs.length * P.bytesOf e ≤ reachBytes ∧ (∀ x ∈ xs, x.length = P.cellsOf e ∧ TypedB P w m e x) ∧ Rd w a xs.flatten := by
  cases n with
  | zero => exact h.elim
  | succ n =>
    unfold TypedB at h; rw [ht] at h
    obtain ⟨a, cap, xs, h1, h2, h3, h4, h5, h6⟩ := h
    exact ⟨a, cap, xs, n, h1, h2, h3, h4, h5, h6⟩
theorem TypedB.struct {fs : Array Field} {n : Nat} {t : TypeId} {cs : List Value} (ht : P.underlying t = some (.struct fs)) (h : TypedB P w n t cs) :
    ∃ m, cs.length = P.cellsOf t ∧ ∀ f ∈ fs.toList, TypedB P w m f.type ((cs.drop f.offset).take (P.cellsOf f.type)) := by
  cases n with
  | zero => exact h.elim
  | succ n => unfold TypedB at h; rw [ht] at h; exact ⟨n, h⟩
theorem ArgB.int {k : IntKind} {t : TypeId} {v : Value} (ht : P.underlying t = some (.int k)) (h : ArgB P w t v) : ∃ x, v = .int k x ∧ (Lit.int k x).wf = true := by
  obtain ⟨n, cs, h1, rfl⟩ := h
  obtain ⟨x, rfl, hx⟩ := h1.int ht
  exact ⟨x, by rw [ht]; rfl, hx⟩
theorem ArgB.bool {t : TypeId} {v : Value} (ht : P.underlying t = some .bool) (h : ArgB P w t v) : ∃ x, v = .bool x := by
  obtain ⟨n, cs, h1, rfl⟩ := h
  obtain ⟨x, rfl⟩ := h1.bool ht
  exact ⟨x, by rw [ht]; rfl⟩
theorem ArgB.string {t : TypeId} {v : Value} (ht : P.underlying t = some .string) (h : ArgB P w t v) : ∃ x : ByteArray, v = .string x ∧ x.size ≤ reachBytes := by
  obtain ⟨n, cs, h1, rfl⟩ := h
  obtain ⟨x, rfl, hx⟩ := h1.string ht
  exact ⟨x, by rw [ht]; rfl, hx⟩
theorem ArgB.slice {e : TypeId} {t : TypeId} {v : Value} (ht : P.underlying t = some (.slice e)) (h : ArgB P w t v) :
    ∃ a cap, ∃ xs : List (List Value), ∃ m, v = .slice a xs.length cap ∧ xs.length ≤ cap ∧ cap ≤ maxLen ∧ xs.length * P.bytesOf e ≤ reachBytes ∧ (∀ x ∈ xs, x.length = P.cellsOf e ∧ TypedB P w m e x) ∧ Rd w a xs.flatten := by
  obtain ⟨n, cs, h1, rfl⟩ := h
  obtain ⟨a, cap, xs, m, rfl, h2⟩ := h1.slice ht
  exact ⟨a, cap, xs, m, by rw [ht]; rfl, h2⟩
theorem ArgB.struct {fs : Array Field} {t : TypeId} {v : Value} (ht : P.underlying t = some (.struct fs)) (h : ArgB P w t v) :
    ∃ (cs : List Value) (m : Nat), v = .agg cs.toArray ∧ cs.length = P.cellsOf t ∧ ∀ f ∈ fs.toList, TypedB P w m f.type ((cs.drop f.offset).take (P.cellsOf f.type)) := by
  obtain ⟨n, cs, h1, rfl⟩ := h
  obtain ⟨m, h2, h3⟩ := h1.struct ht
  exact ⟨cs, m, by rw [ht], h2, h3⟩
end
/-! ### in the logic over objects -/
end O
end Go.Proofs.Ytapmngmpomhjmaa

/- What an act that comes in is. -/
namespace Go.Proofs.Ytapmngmpomhjmaa
open Go.RowKit
namespace O
theorem list5_of {α : Type} {l : List α} (h : l.length = 8) : ∃ a b c d e f g i, l = [a, b, c, d, e, f, g, i] := by
  match l, h with
  | [a, b, c, d, e, f, g, i], _ => exact ⟨a, b, c, d, e, f, g, i, rfl⟩
theorem list4_of {α : Type} {l : List α} (h : l.length = 4) : ∃ a b c d, l = [a, b, c, d] := by
  match l, h with
  | [a, b, c, d], _ => exact ⟨a, b, c, d, rfl⟩
theorem cells_act6 : Try.prog.cellsOf 32 = 8 := by kernel_rfl
theorem cells_term6 : Try.prog.cellsOf 30 = 4 := by kernel_rfl
theorem cells_int6 : Try.prog.cellsOf 3 = 1 := by kernel_rfl
theorem cells_str6 : Try.prog.cellsOf 9 = 1 := by kernel_rfl
theorem cells_ints6 : Try.prog.cellsOf 28 = 1 := by kernel_rfl
/-- a slice among the cells of what came in -/
theorem ro_cells {α : Type} {P : Program} {W : World} {T e : TypeId} {n : Nat} {cs : List Value} (hT : P.underlying T = some (.slice e)) (f : α → List VP) (he : ∀ (m : Nat) (x : List Value), x.length = P.cellsOf e → Typed P W m e x → ∃ a, All2 (was W) (f a) x W) (h : Typed P W n T cs) :
    ∃ (l : List α) (v : Value), cs = [v] ∧ (VP.ro l.length (l.flatMap f)).p (was W) v W := by
  obtain ⟨a, cap, xs, m, rfl, h1, h2, h3, h4⟩ := h.slice hT
  obtain ⟨l, e1, e2⟩ := flat_all2 f (he m) xs h3
  refine ⟨l, _, rfl, a, cap, by rw [e1], by omega, h2, ?_⟩
  rcases Nat.eq_zero_or_pos xs.flatten.length with h0 | h0
  · left
    have := e2.len
    exact List.eq_nil_of_length_eq_zero (by omega)
  · right
    obtain ⟨b, off, ea, hb, hc⟩ := h4.all h0
    exact ⟨b, off, ea, hb, fun j x hx => by
      obtain ⟨u, hu, hp⟩ := e2.get hx
      exact ⟨u, hc j u hu, hp⟩⟩
theorem ints_cells {W : World} {n : Nat} {cs : List Value} (h : Typed Try.prog W n 28 cs) : ∃ (l : List Int) (v : Value), cs = [v] ∧ (VP.ro l.length (l.flatMap cInt)).p (was W) v W :=
  ro_cells Try.underlying28 cInt (fun m x _ hx => by
    obtain ⟨a, h1, _⟩ := typed_int (Z := was W) Try.underlying3 hx
    exact ⟨a, h1⟩) h
theorem typed_term {W : World} (m : Nat) (x : List Value) (h : Typed Try.prog W m 30 x) : ∃ a : TermD, All2 (was W) (cTerm a) x W := by
  obtain ⟨m, hl, hf⟩ := h.struct Try.underlying30
  rw [cells_term6] at hl
  obtain ⟨u0, u1, u2, u3, rfl⟩ := list4_of hl
  have f0 := hf _ List.mem_cons_self
  have f1 := hf _ (List.mem_cons_of_mem _ List.mem_cons_self)
  have f2 := hf _ (List.mem_cons_of_mem _ (List.mem_cons_of_mem _ List.mem_cons_self))
  have f3 := hf _ (List.mem_cons_of_mem _ (List.mem_cons_of_mem _ (List.mem_cons_of_mem _ List.mem_cons_self)))
  simp only at f0 f1 f2 f3
  rw [cells_int6] at f0 f1
  rw [cells_ints6] at f2
  rw [cells_str6] at f3
  obtain ⟨a, h0, _⟩ := typed_int (Z := was W) Try.underlying3 f0
  obtain ⟨b, h1, _⟩ := typed_int (Z := was W) Try.underlying3 f1
  obtain ⟨c, v, hv, h2⟩ := ints_cells f2
  obtain ⟨e, h3⟩ := typed_str (Z := was W) Try.underlying9 f3
  have hv : [u2] = [v] := hv
  injection hv with hv
  subst hv
  exact ⟨⟨a, b, c, e⟩, h0.1, h1.1, h2, h3.1, trivial⟩
theorem typed_act6 {W : World} (m : Nat) (x : List Value) (_ : x.length = Try.prog.cellsOf 32) (h : Typed Try.prog W m 32 x) : ∃ a : ActD, All2 (was W) (cActD a) x W := by
  obtain ⟨m, hl, hf⟩ := h.struct Try.underlying32
  rw [cells_act6] at hl
  obtain ⟨u0, u1, u2, u3, u4, u5, u6, u7, rfl⟩ := list5_of hl
  have f0 := hf _ List.mem_cons_self
  have f1 := hf _ (List.mem_cons_of_mem _ List.mem_cons_self)
  have f2 := hf _ (List.mem_cons_of_mem _ (List.mem_cons_of_mem _ List.mem_cons_self))
  have f3 := hf _ (List.mem_cons_of_mem _ (List.mem_cons_of_mem _ (List.mem_cons_of_mem _ List.mem_cons_self)))
  have f4 := hf _ (List.mem_cons_of_mem _ (List.mem_cons_of_mem _ (List.mem_cons_of_mem _ (List.mem_cons_of_mem _ List.mem_cons_self))))
  simp only at f0 f1 f2 f3 f4
  rw [cells_int6] at f0 f3
  rw [cells_str6] at f1
  rw [cells_ints6] at f2
  rw [cells_term6] at f4
  obtain ⟨a, h0, _⟩ := typed_int (Z := was W) Try.underlying3 f0
  obtain ⟨b, h1⟩ := typed_str (Z := was W) Try.underlying9 f1
  obtain ⟨c, v, hv, h2⟩ := ints_cells f2
  obtain ⟨e, h3, _⟩ := typed_int (Z := was W) Try.underlying3 f3
  obtain ⟨t, h4⟩ := typed_term _ _ f4
  have hv : [u2] = [v] := hv
  injection hv with hv
  subst hv
  have h4 : All2 (was W) (cTerm t) [u4, u5, u6, u7] W := h4
  exact ⟨⟨a, b, c, e, t⟩, h0.1, h1.1, h2, h3.1, h4.1, h4.2.1, h4.2.2.1, h4.2.2.2.1, trivial⟩
theorem arg_acts6 {W : World} {v : Value} (h : Arg Try.prog W 22 v) : ∃ l : List ActD, l.length ≤ maxLen ∧ (VP.ro l.length (l.flatMap cActD)).p (was W) v W := ro_of Try.underlying22 cActD typed_act6 h
end O
end Go.Proofs.Ytapmngmpomhjmaa

/- DagSorts: the walk. -/
namespace Go.Proofs.Ytapmngmpomhjmaa
open Go.RowKit
namespace O

/-- sorts as they should be -/
structure SInv (d : ArD) (k : Nat) : Prop where
  ns : d.sorts.length ≤ 2 + k
  nf : d.funs.length ≤ k
  sa : ∀ x ∈ d.sorts, x.args.length ≤ 12
  fa : ∀ x ∈ d.funs, x.args.length ≤ 12
  tm : d.terms = []
  uq : ∀ (i j : Nat) (x y : SortD), i < j → d.sorts[i]? = some x → d.sorts[j]? = some y → sortIs x.name x.args y = false
  lo : ∀ (i : Nat) (x : SortD), d.sorts[i]? = some x → ∀ k ∈ x.args, 0 ≤ k ∧ k < (i : Int)
theorem sinv_new (n : Int) : SInv (newA n) 0 where
  ns := Nat.le_refl _
  nf := Nat.le_refl _
  sa := fun x hx => by
    have hx : x ∈ [boolS, intS] := hx
    simp only [List.mem_cons, List.not_mem_nil, or_false] at hx
    rcases hx with rfl | rfl <;> exact Nat.zero_le _
  fa := fun x hx => by cases hx
  tm := rfl
  uq := fun i j x y h hx hy => by
    have hx : [boolS, intS][i]? = some x := hx
    have hy : [boolS, intS][j]? = some y := hy
    match i, j with
    | 0, 1 => injection hx with hx; injection hy with hy; subst hx hy; decide +kernel
    | 0, 0 => omega
    | i + 1, 0 => omega
    | i + 1, 1 => omega
    | i, j + 2 => simp at hy
  lo := fun i x hx k hk => by
    have hx : [boolS, intS][i]? = some x := hx
    match i with
    | 0 => injection hx with hx; subst hx; cases hk
    | 1 => injection hx with hx; subst hx; cases hk
    | i + 2 => simp at hx
theorem SInv.up {d : ArD} {k : Nat} (h : SInv d k) : SInv d (k + 1) := ⟨by have := h.ns; omega, by have := h.nf; omega, h.sa, h.fa, h.tm, h.uq, h.lo⟩
end O
end Go.Proofs.Ytapmngmpomhjmaa

/- Arenas by acts. -/
namespace Go.Proofs.Ytapmngmpomhjmaa
open Go.RowKit
namespace O

/-- an arena after k acts -/
structure AInv (d : ArD) (k : Nat) : Prop where
  ok : d.Ok
  ns : d.sorts.length ≤ 2 + k
  nf : d.funs.length ≤ k
  sa : ∀ x ∈ d.sorts, x.args.length ≤ 12
  fa : ∀ x ∈ d.funs, x.args.length ≤ 12
theorem ainv_new (n : Int) (hn : n ≤ 100000) : AInv (newA n) 0 := ⟨newA_ok n hn, (sinv_new n).ns, (sinv_new n).nf, (sinv_new n).sa, (sinv_new n).fa⟩
theorem AInv.up {d : ArD} {k : Nat} (h : AInv d k) : AInv d (k + 1) := ⟨h.ok, by have := h.ns; omega, by have := h.nf; omega, h.sa, h.fa⟩
theorem ainv_sort {d : ArD} {k : Nat} (h : AInv d k) (n : ByteArray) (q : List Int) (hq : q.length ≤ 12) : AInv (d.sort n q) (k + 1) := by
  refine ⟨sort_ok h.ok n q, ?_, ?_, ?_, ?_⟩ <;> unfold ArD.sort <;> split <;> (try split)
  · exact h.up.ns
  · have := h.ns; show (d.sorts ++ [_]).length ≤ _; simp only [List.length_append, List.length_cons, List.length_nil]; omega
  · exact h.up.ns
  · exact h.up.nf
  · exact h.up.nf
  · exact h.up.nf
  · exact h.sa
  · intro x hx
    rcases List.mem_append.1 (show x ∈ d.sorts ++ [_] from hx) with hx | hx
    · exact h.sa x hx
    · rw [List.mem_singleton] at hx; subst hx; exact hq
  · exact h.sa
  · exact h.fa
  · exact h.fa
  · exact h.fa
theorem ainv_fun {d : ArD} {k : Nat} (h : AInv d k) (f : FunD) (hq : f.args.length ≤ 12) : AInv (d.fun_ f) (k + 1) := by
  refine ⟨fun_ok h.ok f, ?_, ?_, ?_, ?_⟩ <;> unfold ArD.fun_ <;> split
  · exact h.up.ns
  · exact h.up.ns
  · exact h.up.nf
  · have := h.nf; show (d.funs ++ [f]).length ≤ _; simp only [List.length_append, List.length_cons, List.length_nil]; omega
  · exact h.sa
  · exact h.sa
  · exact h.fa
  · intro x hx
    rcases List.mem_append.1 (show x ∈ d.funs ++ [_] from hx) with hx | hx
    · exact h.fa x hx
    · rw [List.mem_singleton] at hx; subst hx; exact hq
theorem put_sf (d : ArD) (t : TermD) : (d.put t).sorts = d.sorts ∧ (d.put t).funs = d.funs ∧ (d.put t).terms = d.terms ++ [t] ∧ (d.put t).most = d.most := by
  unfold ArD.put
  rcases Bool.eq_false_or_eq_true (decide (((d.terms ++ [t]).length : Int) > (d.table.length : Int))) with h | h <;> rw [h] <;> exact ⟨rfl, rfl, rfl, rfl⟩
theorem term_sf (d : ArD) (t : TermD) : (d.term t).sorts = d.sorts ∧ (d.term t).funs = d.funs := by
  rcases term_cases d t with ⟨e, _⟩ | ⟨e, _⟩ <;> rw [e]
  · exact ⟨rfl, rfl⟩
  · exact ⟨(put_sf d t).1, (put_sf d t).2.1⟩
theorem ainv_term {d : ArD} {k : Nat} (h : AInv d k) (t : TermD) : AInv (d.term t) (k + 1) :=
  ⟨term_ok h.ok t, by rw [(term_sf d t).1]; exact h.up.ns, by rw [(term_sf d t).2]; exact h.up.nf, by rw [(term_sf d t).1]; exact h.sa, by rw [(term_sf d t).2]; exact h.fa⟩
theorem term_refuse {d : ArD} {t : TermD} (h : d.termE t ≠ 0) : d.term t = d := by
  rcases term_cases d t with ⟨e, _⟩ | ⟨_, e, _⟩
  · exact e
  · exact absurd e h
/-! how many places stand in all buckets -/
end O
end Go.Proofs.Ytapmngmpomhjmaa

/- Tables of buckets: what they find, and that they go on. -/
namespace Go.Proofs.Ytapmngmpomhjmaa
open Go.RowKit
namespace O
theorem toList_inj {a b : ByteArray} (h : a.toList = b.toList) : a = b := by
  rw [ByteArray.toList_eq, ByteArray.toList_eq] at h
  exact Go.WideShapes.bytes_inj h
theorem sameT_iff {u t : TermD} : sameT u t = true ↔ u = t := by
  constructor
  · intro h
    unfold sameT at h
    simp only [Bool.and_eq_true, beq_iff_eq] at h
    obtain ⟨⟨⟨h1, h2⟩, h3⟩, h4⟩ := h
    cases u; cases t
    simp only at h1 h2 h3 h4
    subst h1 h2 h4
    rw [toList_inj h3]
  · rintro rfl; unfold sameT; simp
theorem growT_prefix {hs l : List Int} {n : Nat} : ∀ k, k ≤ hs.length → growT (hs ++ l) n k = growT hs n k
  | 0, _ => rfl
  | k + 1, h => by
    show addT (growT (hs ++ l) n k) (((hs ++ l)[k]?).getD 0) (k : Int) = addT (growT hs n k) ((hs[k]?).getD 0) (k : Int)
    rw [growT_prefix k (by omega), List.getElem?_append_left (by omega)]
theorem growT_mem {hs : List Int} {n m : Nat} (hm : m < n) {x : Int} : ∀ k, (x ∈ ((growT hs n k)[m]?).getD [] ↔ ∃ i : Nat, x = i ∧ i < k ∧ (((hs[i]?).getD 0) % (n : Int)).toNat = m)
  | 0 => by
    have : ((growT hs n 0)[m]?).getD [] = [] := by
      unfold growT
      rw [List.getElem?_replicate]
      split <;> rfl
    rw [this]; simp
  | k + 1 => by
    have ih := growT_mem (hs := hs) hm (x := x) k
    have hl := growT_len (hs := hs) (n := n) k
    show x ∈ ((addT (growT hs n k) ((hs[k]?).getD 0) (k : Int))[m]?).getD [] ↔ _
    rw [addT_get, hl]
    by_cases e : m = (((hs[k]?).getD 0) % (n : Int)).toNat
    · rw [if_pos ⟨e, hm⟩, List.mem_append, List.mem_singleton, ih]
      constructor
      · rintro (⟨i, h1, h2, h3⟩ | rfl)
        · exact ⟨i, h1, by omega, h3⟩
        · exact ⟨k, rfl, by omega, e.symm⟩
      · rintro ⟨i, h1, h2, h3⟩
        by_cases ei : i = k
        · subst ei; exact .inr h1
        · exact .inl ⟨i, h1, by omega, h3⟩
    · rw [if_neg (fun h => e h.1), ih]
      constructor
      · rintro ⟨i, h1, h2, h3⟩; exact ⟨i, h1, by omega, h3⟩
      · rintro ⟨i, h1, h2, h3⟩
        by_cases ei : i = k
        · subst ei; exact absurd h3.symm e
        · exact ⟨i, h1, by omega, h3⟩
/-- a table as it is built, term by term -/
structure ArD.Can (d : ArD) : Prop where
  hs : d.hashes = d.terms.map hashT
  tb : d.table = growT d.hashes d.table.length d.terms.length
  nd : d.terms.Nodup
section
variable {d : ArD} {t : TermD}
theorem bucket_mem (h : d.Ok) (hc : d.Can) {x : Int} : x ∈ d.bucket t ↔ ∃ i : Nat, x = i ∧ i < d.terms.length ∧ ((((d.hashes)[i]?).getD 0) % (d.table.length : Int)).toNat = d.bk t := by
  obtain ⟨j, hT, _⟩ := h.tab
  have hT1 : 1 ≤ d.table.length := by rw [hT]; exact Nat.one_le_two_pow
  obtain ⟨m, hm, _, hlt⟩ := mod_at (x := hashT t) (n := d.table.length) hT1
  have hb : d.bk t = m := hm.symm
  unfold ArD.bucket
  rw [hb]
  have e := hc.tb
  generalize d.table.length = N at e hlt ⊢
  rw [e]
  exact growT_mem hlt _
theorem find_some (h : d.Ok) {x : Int} (hf : d.find t = some x) : ∃ i : Nat, x = i ∧ d.terms[i]? = some t := by
  unfold ArD.find at hf
  have hs := List.find?_some hf
  have hm := List.mem_of_find?_eq_some hf
  have e := sameT_iff.1 hs
  have hb : 0 ≤ x ∧ x < d.terms.length := by
    unfold ArD.bucket at hm
    rcases Nat.lt_or_ge (d.bk t) d.table.length with h' | h'
    · rw [List.getElem?_eq_getElem h'] at hm; exact (h.ent _ (List.getElem_mem h')).2 x hm
    · rw [List.getElem?_eq_none h'] at hm; cases hm
  refine ⟨x.toNat, by omega, ?_⟩
  rw [← e]
  exact term_at (decide_eq_true hb)
theorem find_ne (h : d.Ok) (hc : d.Can) {i : Nat} (hi : d.terms[i]? = some t) : d.find t ≠ none := fun hf => by
  unfold ArD.find at hf
  rw [List.find?_eq_none] at hf
  have hlt := (List.getElem?_eq_some_iff.1 hi).1
  have hx : ((i : Nat) : Int) ∈ d.bucket t := (bucket_mem h hc).2 ⟨i, rfl, hlt, by
    rw [hc.hs, List.getElem?_map, hi]; rfl⟩
  refine hf _ hx (sameT_iff.2 ?_)
  unfold ArD.term_
  rw [Int.toNat_natCast, hi]; rfl
theorem find_of (h : d.Ok) (hc : d.Can) {i : Nat} (hi : d.terms[i]? = some t) : d.find t = some (i : Int) := by
  rcases hf : d.find t with _ | x
  · exact absurd hf (find_ne h hc hi)
  · obtain ⟨j, rfl, hj⟩ := find_some h hf
    have hlt := (List.getElem?_eq_some_iff.1 hi).1
    have : i = j := (List.getElem?_inj hlt hc.nd).1 (hi.trans hj.symm)
    rw [this]
theorem can_new (n : Int) : (newA n).Can := ⟨rfl, rfl, List.nodup_nil⟩
theorem can_sort (h : d.Can) (n : ByteArray) (q : List Int) : (d.sort n q).Can := by
  unfold ArD.sort
  split
  · exact h
  · split
    · exact ⟨h.hs, h.tb, h.nd⟩
    · exact h
theorem can_fun (h : d.Can) (f : FunD) : (d.fun_ f).Can := by
  unfold ArD.fun_
  split
  · exact h
  · exact ⟨h.hs, h.tb, h.nd⟩
theorem can_term (h : d.Ok) (hc : d.Can) (t : TermD) : (d.term t).Can := by
  rcases term_cases d t with ⟨e, _⟩ | ⟨e, _, _, _, _, hf⟩
  · rw [e]; exact hc
  rw [e]
  have hhs : d.hashes ++ [hashT t] = (d.terms ++ [t]).map hashT := by rw [List.map_append, ← hc.hs]; rfl
  have hnd : (d.terms ++ [t]).Nodup := by
    rw [List.nodup_append]
    refine ⟨hc.nd, by simp, fun a ha b hb => ?_⟩
    rw [List.mem_singleton] at hb
    subst hb
    rintro rfl
    obtain ⟨i, hi, e⟩ := List.mem_iff_getElem.1 ha
    exact find_ne h hc (i := i) (by rw [List.getElem?_eq_getElem hi, e]) hf
  have hl1 : (d.hashes ++ [hashT t]).length = d.terms.length + 1 := by rw [List.length_append, h.ha]; rfl
  have hl2 : (d.terms ++ [t]).length = d.terms.length + 1 := by simp
  unfold ArD.put
  rcases Bool.eq_false_or_eq_true (decide (((d.terms ++ [t]).length : Int) > (d.table.length : Int))) with hg | hg
  · rw [hg]
    refine ⟨hhs, ?_, hnd⟩
    show growT (d.hashes ++ [hashT t]) (2 * d.table.length) (d.hashes ++ [hashT t]).length = growT (d.hashes ++ [hashT t]) (growT (d.hashes ++ [hashT t]) (2 * d.table.length) (d.hashes ++ [hashT t]).length).length (d.terms ++ [t]).length
    rw [growT_len, hl1, hl2]
  · rw [hg]
    refine ⟨hhs, ?_, hnd⟩
    show d.table.set (d.bk t) (d.bucket t ++ [((d.terms.length : Nat) : Int)]) = growT (d.hashes ++ [hashT t]) (d.table.set (d.bk t) (d.bucket t ++ [((d.terms.length : Nat) : Int)])).length (d.terms ++ [t]).length
    rw [List.length_set, hl2]
    show _ = addT (growT (d.hashes ++ [hashT t]) d.table.length d.terms.length) (((d.hashes ++ [hashT t])[d.terms.length]?).getD 0) ((d.terms.length : Nat) : Int)
    rw [growT_prefix _ (by rw [h.ha]; exact Nat.le_refl _), ← hc.tb]
    have : ((d.hashes ++ [hashT t])[d.terms.length]?).getD 0 = hashT t := by rw [← h.ha]; simp
    rw [this]; rfl
end
/-! an arena goes on -/
structure ArD.le (d d' : ArD) : Prop where
  f : ∃ l, d'.funs = d.funs ++ l
  t : ∃ l, d'.terms = d.terms ++ l
  o : ∃ l, d'.of_ = d.of_ ++ l
theorem le_self (d : ArD) : d.le d := ⟨⟨[], by simp⟩, ⟨[], by simp⟩, ⟨[], by simp⟩⟩
theorem le_sort (d : ArD) (n : ByteArray) (q : List Int) : d.le (d.sort n q) := by
  unfold ArD.sort
  split
  · exact le_self d
  · split
    · exact ⟨⟨[], by simp⟩, ⟨[], by simp⟩, ⟨[], by simp⟩⟩
    · exact le_self d
theorem le_fun (d : ArD) (f : FunD) : d.le (d.fun_ f) := by
  unfold ArD.fun_
  split
  · exact le_self d
  · exact ⟨⟨[f], rfl⟩, ⟨[], by simp⟩, ⟨[], by simp⟩⟩
theorem le_put (d : ArD) (t : TermD) : d.le (d.put t) := by
  unfold ArD.put
  rcases Bool.eq_false_or_eq_true (decide (((d.terms ++ [t]).length : Int) > (d.table.length : Int))) with h | h <;> rw [h] <;> exact ⟨⟨[], by show d.funs = _; simp⟩, ⟨[t], rfl⟩, ⟨[d.give t], rfl⟩⟩
theorem le_term (d : ArD) (t : TermD) : d.le (d.term t) := by
  rcases term_cases d t with ⟨e, _⟩ | ⟨e, _⟩ <;> rw [e]
  · exact le_self d
  · exact le_put d t
section
variable {d d' : ArD} {t : TermD}
theorem ofk_le (h : d.le d') {x : Int} (hx0 : 0 ≤ x) (hx : x < d.of_.length) : d'.ofk x = d.ofk x := by
  obtain ⟨l, e⟩ := h.o
  unfold ArD.ofk
  rw [e]
  rcases Nat.lt_or_ge x.toNat d.of_.length with h1 | h1
  · rw [List.getElem?_append_left h1]
  · omega
theorem fn_le (h : d.le d') {x : Int} (hx0 : 0 ≤ x) (hx : x < d.funs.length) : d'.fn_ x = d.fn_ x := by
  obtain ⟨l, e⟩ := h.f
  unfold ArD.fn_
  rw [e]
  rcases Nat.lt_or_ge x.toNat d.funs.length with h1 | h1
  · rw [List.getElem?_append_left h1]
  · omega
theorem there_le (h : d.le d') {x : Int} (hx : d.there x = true) : d'.there x = true ∧ d'.term_ x = d.term_ x := by
  obtain ⟨l, e⟩ := h.t
  have h0 := of_decide_eq_true hx
  refine ⟨decide_eq_true ⟨h0.1, by rw [e, List.length_append]; omega⟩, ?_⟩
  unfold ArD.term_
  rw [e, List.getElem?_append_left (by omega)]
theorem cst_le (h : d.le d') (hk : d.kidsOk) : ∀ (f : Nat) (x : Int), d.there x = true → d'.cst f x = d.cst f x
  | 0, _, _ => rfl
  | f + 1, x, hx => by
    obtain ⟨h1, h2⟩ := there_le h hx
    unfold ArD.cst
    rw [h1, hx, h2, cond_true, cond_true]
    rcases Bool.eq_false_or_eq_true (((d.term_ x).op != 18) || (((d.term_ x).kids.length : Int) != 1)) with h3 | h3
    · rw [h3]; rfl
    · rw [h3, cond_false, cond_false]
      simp only [Bool.or_eq_false_iff, bne_eq_false_iff_eq] at h3
      have hl := kid_lt hk hx (by omega)
      have h0 := of_decide_eq_true hx
      exact cst_le h hk f _ (decide_eq_true ⟨hl.1, by omega⟩)
theorem con_le (h : d.le d') (hk : d.kidsOk) {x : Int} (hx : d.there x = true) : d'.con x = d.con x := cst_le h hk _ x hx
theorem bare_le (h : d.le d') (hb : d.bareE t = 0) : d'.bareE t = 0 := by
  have hfn := bare_fn hb
  obtain ⟨l, e⟩ := h.f
  unfold ArD.bareE at hb ⊢
  rcases Bool.eq_false_or_eq_true (decide (t.op < 1) || decide (t.op > 19) || ((t.op != 3) && (t.fn != 0))) with h1 | h1
  · rw [h1] at hb; cases hb
  rw [h1] at hb ⊢
  rcases Bool.eq_false_or_eq_true (((t.op == 4) && !(decB t.num)) || ((t.op != 4) && !(t.num.toList == (ByteArray.mk #[]).toList))) with h2 | h2
  · rw [h2] at hb; cases hb
  rw [h2]
  have h3 : ((t.op == 3) && (decide (t.fn < 0) || decide (t.fn ≥ ((d'.funs.length : Nat) : Int)))) = false := by
    rcases Bool.eq_false_or_eq_true (t.op == 3) with h4 | h4
    · have := hfn (eq_of_beq h4)
      rw [h4, Bool.true_and, decide_eq_false (by omega), Bool.false_or, decide_eq_false]
      rw [e, List.length_append]; omega
    · rw [h4]; rfl
  rw [h3]; rfl
theorem fits_le (h : d.le d') (ho : d.Ok) (hf : (d.fits t != 0) = false) : (d'.fits t != 0) = false := by
  obtain ⟨h1, h2, h3, h4, h5, h6⟩ := fits_0 hf
  have hfn := bare_fn h1
  have hk0 := unthere_no h2
  have hth : ∀ k ∈ t.kids, d.there k = true := fun k hk => decide_eq_true (hk0 k hk)
  have hf3 : (t.op == 3) = true → d'.fn_ t.fn = d.fn_ t.fn := fun e => fn_le h (hfn (eq_of_beq e)).1 (hfn (eq_of_beq e)).2
  have hle : d'.least t = d.least t := by
    unfold ArD.least
    rcases Bool.eq_false_or_eq_true (t.op == 3) with e | e
    · rw [hf3 e]
    · rw [e]; rfl
  have hgr : d'.great t = d.great t := by
    unfold ArD.great
    rcases Bool.eq_false_or_eq_true (t.op == 3) with e | e
    · rw [hf3 e]
    · rw [e]; rfl
  have hcl := of_decide_eq_false h3
  have h10 : t.op = 10 → 2 ≤ t.kids.length := fun e => by rw [least_10 e] at hcl; omega
  have hof : ∀ i, i < t.kids.length → d'.ofk (kid t i) = d.ofk (kid t i) := fun i hi => ofk_le h (hk0 _ (kid_mem hi)).1 (by rw [ho.of_]; exact (hk0 _ (kid_mem hi)).2)
  have hwant : ∀ i, i < t.kids.length → d'.want t i = d.want t i := fun i hi => by
    unfold ArD.want
    rw [hof 0 (by omega)]
    rcases Bool.eq_false_or_eq_true (t.op == 10) with e | e
    · rw [hof 1 (by have := h10 (eq_of_beq e); omega)]
    · rw [e]; rfl
  have hw : d'.wants t = d.wants t := by
    unfold ArD.wants
    rcases Bool.eq_false_or_eq_true (t.op == 3) with e | e
    · rw [e, hf3 e]; rfl
    · rw [e, cond_false, cond_false]
      unfold ArD.wantK
      refine List.map_congr_left fun i hi => ?_
      rw [List.mem_range] at hi
      rw [if_pos hi, if_pos hi, hwant i hi]
  have hb : d'.bad t t.kids.length = false := by
    rw [← h5]
    unfold ArD.bad
    rw [hw, Bool.eq_iff_iff, List.any_eq_true, List.any_eq_true]
    constructor <;> rintro ⟨i, hi, hx⟩ <;> refine ⟨i, hi, ?_⟩
    · rw [← hof i (List.mem_range.1 hi)]; exact hx
    · rw [hof i (List.mem_range.1 hi)]; exact hx
  have hfr : d'.free t t.kids.length = d.free t t.kids.length := by
    unfold ArD.free
    congr 1
    refine List.filter_congr fun i hi => ?_
    rw [con_le h ho.kids (hth _ (kid_mem (List.mem_range.1 hi)))]
  have hun : d'.unthere t.kids = false := List.any_eq_false.2 fun k hk => by rw [(there_le h (hth k hk)).1]; simp
  unfold ArD.fits
  rw [bare_le h h1, hun, hle, hgr, h3, h4, hb, hfr, h6]; rfl
end
end O
end Go.Proofs.Ytapmngmpomhjmaa
