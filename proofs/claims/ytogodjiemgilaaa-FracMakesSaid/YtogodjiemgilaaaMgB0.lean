/- Part of the proof that a law returns true for all that comes in, and that what came in reads as it did. No condition. -/
import Derived.Test.YtogodjiemgilaaaMgA2
/- Fractions: plain laws. -/
namespace Go.Proofs.Ytogodjiemgilaaa
open Go.RowKit
theorem len_yes {q : Int} (h : q = 0) : ((((dg BB q.natAbs).length : Nat) : Int) == 0) = true := by subst h; rfl
theorem len_no {q : Int} (h : q ≠ 0) : ((((dg BB q.natAbs).length : Nat) : Int) == 0) = false := by
  have := dg_len0 BB_gt q.natAbs
  rw [beq_eq_false_iff_ne]; omega
/-- what a fraction is through: 0 stands for 1 -/
def und (q : Int) : Int := if q = 0 then 1 else q
/-- the number over of x through y -/
def mkO (x y : Int) : Int := if x = 0 ∨ y = 0 then 0 else divZ x (if y < 0 then -gcdZ x y else gcdZ x y)
/-- the number under of x through y, before 1 becomes 0 -/
def mkD (x y : Int) : Int := divZ y (if y < 0 then -gcdZ x y else gcdZ x y)
def mkU (x y : Int) : Int := if x = 0 ∨ y = 0 then 0 else if mkD x y = 1 then 0 else mkD x y
theorem lund {q : Int} {a : Nat} (h : L q ≤ a) (h1 : 1 ≤ a) : L (und q) ≤ a := by
  unfold und; split
  · exact Nat.le_trans lone h1
  · exact h
theorem lmkO {x y : Int} {a : Nat} (h : L x ≤ a) : L (mkO x y) ≤ a := by
  unfold mkO; split
  · exact Nat.zero_le _
  · exact ldiv h
theorem lmkD {x y : Int} {a : Nat} (h : L y ≤ a) : L (mkD x y) ≤ a := ldiv h
theorem lmkU {x y : Int} {a : Nat} (h : L y ≤ a) : L (mkU x y) ≤ a := by
  unfold mkU; split
  · exact Nat.zero_le _
  · split
    · exact Nat.zero_le _
    · exact lmkD h
theorem lsmall (n : Int) (h : n.natAbs < 1000000000) : L n ≤ 1 := dg_len_small BB_gt h
theorem txt_size {z : Int} {a : Nat} (h : L z ≤ a) : (txt z).size ≤ 9 * a + 2 := by
  rw [← byt_len]
  unfold txt
  rw [byt_bs]
  · unfold txtR; rw [List.length_reverse, List.length_append, List.length_append, asc_len]
    have h1 : (if z.natAbs = 0 then [48] else []).length ≤ 1 := by split <;> simp
    have h2 : (if decide (z < 0) = true then [45] else []).length ≤ 1 := by split <;> simp
    have := l10 h
    omega
  · exact txt_lt z
theorem cat1 {p : Int} (hp : L p ≤ 1000) : (txt p).size + (ByteArray.mk #[47]).size ≤ 1000000 := by
  have := txt_size hp
  have h2 : (ByteArray.mk #[47]).size = 1 := rfl
  omega
theorem cat2 {p q : Int} (hp : L p ≤ 1000) (hq : L q ≤ 1000) : ((txt p) ++ (ByteArray.mk #[47])).size + (txt q).size ≤ 1000000 := by
  have h1 := txt_size hp
  have h3 := txt_size hq
  have h2 : (ByteArray.mk #[47]).size = 1 := rfl
  rw [ByteArray.size_append]
  omega
/-- a fraction's text -/
def ftxt (p q : Int) : ByteArray := if q = 0 then txt p else (((txt p) ++ (ByteArray.mk #[47])) ++ (txt q))
end Go.Proofs.Ytogodjiemgilaaa

/- Fractions: what the functions do, in the logic over slots and boxes. -/
namespace Go.Proofs.Ytogodjiemgilaaa
open Go.RowKit
set_option maxRecDepth 100000 in
set_option maxHeartbeats 4000000 in
theorem f_under1 (p q : Int) (_hp : L p ≤ 1000) (_hq : L q ≤ 1000) (h : q = 0) : Spec Try.prog 134 [(VP.agg [Bz p, Dz p, Bz q, Dz q]).p] (INT 1) := by
  refine spec_of (xs := [VP.agg [Bz p, Dz p, Bz q, Dz q]]) 11 [1, 2] Try.func134 rfl Try.ntmps134 rfl fun w0 => ?_
  refine t_seq ?_
  refine t_region (F := ⟨_, _, _, _⟩) [.slot 0 (VP.agg [Bz p, Dz p, Bz q, Dz q])] [] [(0, .box 1 100 [Bz p, Dz p, Bz q, Dz q]), (1, .box 2 69 [Bz 0, Dz 0])] [0] [] rfl rfl follow rfl ⟨
    .inl ⟨wants_plain rfl, does_box _ rfl rfl rfl rfl rfl (ar_tmp (av_fs 0 rfl))⟩,
    .inl ⟨wants_plain rfl, does_alloc ty_zero_api_Int rfl rfl rfl rfl rfl z_int⟩,
    trivial⟩ ?_
  refine nx_sub (fs' := [.box 1 100 [Bz p, Dz p, Bz q, Dz q], .box 2 69 [Bz 0, Dz 0]]) [1, 2] rfl ?_
  refine nx_then ?_
  refine t_seq ?_
  refine t_seq ?_
  refine t_region (F := ⟨_, _, _, _⟩) [.box 1 100 [Bz p, Dz p, Bz q, Dz q], .box 2 69 [Bz 0, Dz 0]] [] [(0, .fp 3 1 2), (1, .fp 4 1 3), (2, .slot 5 (Dz q)), (3, .slot 6 (VP.int .i64 (((dg BB q.natAbs).length : Nat) : Int))), (4, .slot 7 (VP.bool ((((dg BB q.natAbs).length : Nat) : Int) == 0)))] [0, 1] [] rfl rfl follow rfl ⟨
    .inl ⟨wants_plain rfl, does_field _ _ _ 2 ty_f1_api_Frac rfl rfl rfl rfl rfl rfl rfl (pt_box (av_fs 0 rfl))⟩,
    .inl ⟨wants_plain rfl, does_field _ _ _ 1 ty_f1_api_Int rfl rfl rfl rfl rfl rfl rfl (pt_fp (av_rs 0 rfl rfl))⟩,
    .inl ⟨wants_plain rfl, does_loadOne _ ty_one___uint32 rfl rfl rfl rfl rfl rfl (pt_fp (av_rs 1 rfl rfl)) (av_fs 0 rfl)⟩,
    .inl ⟨wants_plain rfl, does_len _ _ (by kernel_rfl) rfl rfl rfl rfl rfl (ar_tmp (av_rs 2 rfl rfl))⟩,
    .inl ⟨wants_plain rfl, does_cmp (m := (((dg BB q.natAbs).length : Nat) : Int)) (n := 0) _ _ _ _ _ rfl rfl rfl rfl rfl rfl .i64 (ar_tmp (av_rs 3 rfl rfl)) (ar_const (fun _ => rfl))⟩,
    trivial⟩ ?_
  refine nx_sub (fs' := [.box 1 100 [Bz p, Dz p, Bz q, Dz q], .box 2 69 [Bz 0, Dz 0], .slot 7 (VP.bool ((((dg BB q.natAbs).length : Nat) : Int) == 0))]) [0, 1, 6] rfl ?_
  refine nx_then ?_
  refine t_cond_te 2 rfl (len_yes h) ?_
  refine t_seq ?_
  refine t_region (F := ⟨_, _, _, _⟩) [.box 1 100 [Bz p, Dz p, Bz q, Dz q], .slot 7 (VP.bool ((((dg BB q.natAbs).length : Nat) : Int) == 0))] [(1, .box 2 69 [Bz 0, Dz 0])] [(0, .slot 8 (INT 1)), (1, .box 2 69 [Bz 1, Dz 1])] [0, 2] [1] rfl rfl follow rfl ⟨
    .inl ⟨wants_plain rfl, does_call (s_of 1 (by decide) (by decide)) rfl hb_collator_whole_Of rfl rfl rfl rfl ⟨(ar_const (fun _ => rfl)), trivial⟩⟩,
    .inl ⟨wants_plain rfl, does_storeAgg 2 _ _ ty_agg_api_Int rfl rfl rfl rfl rfl (pt_box (av_os 0 rfl rfl)) (av_os 0 rfl rfl) (ar_tmp (av_rs 0 rfl rfl))⟩,
    trivial⟩ ?_
  refine nx_sub (fs' := [.box 1 100 [Bz p, Dz p, Bz q, Dz q], .box 2 69 [Bz 1, Dz 1]]) [0, 3] rfl ?_
  refine nx_then ?_
  refine t_ret ?_
  refine rt_then ?_
  exact rt_one rfl (res_agg 1 ty_agg_api_Int rfl)
set_option maxRecDepth 100000 in
set_option maxHeartbeats 4000000 in
theorem f_under2 (p q : Int) (_hp : L p ≤ 1000) (_hq : L q ≤ 1000) (h : q ≠ 0) : Spec Try.prog 134 [(VP.agg [Bz p, Dz p, Bz q, Dz q]).p] (INT q) := by
  refine spec_of (xs := [VP.agg [Bz p, Dz p, Bz q, Dz q]]) 11 [1, 2] Try.func134 rfl Try.ntmps134 rfl fun w0 => ?_
  refine t_seq ?_
  refine t_region (F := ⟨_, _, _, _⟩) [.slot 0 (VP.agg [Bz p, Dz p, Bz q, Dz q])] [] [(0, .box 1 100 [Bz p, Dz p, Bz q, Dz q]), (1, .box 2 69 [Bz 0, Dz 0])] [0] [] rfl rfl follow rfl ⟨
    .inl ⟨wants_plain rfl, does_box _ rfl rfl rfl rfl rfl (ar_tmp (av_fs 0 rfl))⟩,
    .inl ⟨wants_plain rfl, does_alloc ty_zero_api_Int rfl rfl rfl rfl rfl z_int⟩,
    trivial⟩ ?_
  refine nx_sub (fs' := [.box 1 100 [Bz p, Dz p, Bz q, Dz q], .box 2 69 [Bz 0, Dz 0]]) [1, 2] rfl ?_
  refine nx_then ?_
  refine t_seq ?_
  refine t_seq ?_
  refine t_region (F := ⟨_, _, _, _⟩) [.box 1 100 [Bz p, Dz p, Bz q, Dz q], .box 2 69 [Bz 0, Dz 0]] [] [(0, .fp 3 1 2), (1, .fp 4 1 3), (2, .slot 5 (Dz q)), (3, .slot 6 (VP.int .i64 (((dg BB q.natAbs).length : Nat) : Int))), (4, .slot 7 (VP.bool ((((dg BB q.natAbs).length : Nat) : Int) == 0)))] [0, 1] [] rfl rfl follow rfl ⟨
    .inl ⟨wants_plain rfl, does_field _ _ _ 2 ty_f1_api_Frac rfl rfl rfl rfl rfl rfl rfl (pt_box (av_fs 0 rfl))⟩,
    .inl ⟨wants_plain rfl, does_field _ _ _ 1 ty_f1_api_Int rfl rfl rfl rfl rfl rfl rfl (pt_fp (av_rs 0 rfl rfl))⟩,
    .inl ⟨wants_plain rfl, does_loadOne _ ty_one___uint32 rfl rfl rfl rfl rfl rfl (pt_fp (av_rs 1 rfl rfl)) (av_fs 0 rfl)⟩,
    .inl ⟨wants_plain rfl, does_len _ _ (by kernel_rfl) rfl rfl rfl rfl rfl (ar_tmp (av_rs 2 rfl rfl))⟩,
    .inl ⟨wants_plain rfl, does_cmp (m := (((dg BB q.natAbs).length : Nat) : Int)) (n := 0) _ _ _ _ _ rfl rfl rfl rfl rfl rfl .i64 (ar_tmp (av_rs 3 rfl rfl)) (ar_const (fun _ => rfl))⟩,
    trivial⟩ ?_
  refine nx_sub (fs' := [.box 1 100 [Bz p, Dz p, Bz q, Dz q], .box 2 69 [Bz 0, Dz 0], .slot 7 (VP.bool ((((dg BB q.natAbs).length : Nat) : Int) == 0))]) [0, 1, 6] rfl ?_
  refine nx_then ?_
  refine t_cond_fe 2 rfl (len_no h) ?_
  refine t_skip ?_
  refine nx_then ?_
  refine t_seq ?_
  refine t_region (F := ⟨_, _, _, _⟩) [.box 1 100 [Bz p, Dz p, Bz q, Dz q], .slot 7 (VP.bool ((((dg BB q.natAbs).length : Nat) : Int) == 0))] [(2, .box 2 69 [Bz 0, Dz 0])] [(0, .fp 9 1 2), (1, .slot 10 (INT q)), (2, .box 2 69 [Bz q, Dz q])] [0, 2] [1] rfl rfl follow rfl ⟨
    .inl ⟨wants_plain rfl, does_field _ _ _ 2 ty_f1_api_Frac rfl rfl rfl rfl rfl rfl rfl (pt_box (av_fs 0 rfl))⟩,
    .inl ⟨wants_plain rfl, does_loadAgg _ ty_agg_api_Int rfl rfl rfl rfl rfl rfl (pt_fp (av_rs 0 rfl rfl)) (av_fs 0 rfl)⟩,
    .inl ⟨wants_plain rfl, does_storeAgg 2 _ _ ty_agg_api_Int rfl rfl rfl rfl rfl (pt_box (av_os 0 rfl rfl)) (av_os 0 rfl rfl) (ar_tmp (av_rs 1 rfl rfl))⟩,
    trivial⟩ ?_
  refine nx_sub (fs' := [.box 2 69 [Bz q, Dz q]]) [4] rfl ?_
  refine nx_then ?_
  refine t_ret ?_
  exact rt_one rfl (res_agg 0 ty_agg_api_Int rfl)
theorem f_under (p q : Int) (hp : L p ≤ 1000) (hq : L q ≤ 1000) : Spec Try.prog 134 [(VP.agg [Bz p, Dz p, Bz q, Dz q]).p] (INT (und q)) := by
  by_cases h : q = 0
  · rw [show und q = 1 from if_pos h]; exact f_under1 p q hp hq h
  · rw [show und q = q from if_neg h]; exact f_under2 p q hp hq h
theorem cmp_one {z : Int} (h : z = 1) : ((cmpZ z 1) == 0) = true := by subst h; rfl
theorem cmp_two {z : Int} (h : z ≠ 1) : ((cmpZ z 1) == 0) = false := by
  unfold cmpZ
  rw [beq_eq_false_iff_ne]
  split
  · omega
  · first
    | omega
    | (rw [if_neg h]; omega)
theorem len_isz (x : Int) : ((((dg BB x.natAbs).length : Nat) : Int) == 0) = decide (x = 0) := by
  by_cases h : x = 0
  · rw [len_yes h, decide_eq_true h]
  · rw [len_no h, decide_eq_false h]
set_option maxRecDepth 100000 in
set_option maxHeartbeats 4000000 in
theorem f_zero (x : Int) : Spec Try.prog 149 [(INT x).p] (VP.bool (decide (x = 0))) := by
  refine spec_of (xs := [INT x]) 7 [1] Try.func149 rfl Try.ntmps149 rfl fun w0 => ?_
  refine t_seq ?_
  refine t_region (F := ⟨_, _, _, _⟩) [.slot 0 (INT x)] [] [(0, .box 1 69 [Bz x, Dz x]), (1, .slot 2 (VP.bool false))] [0] [] rfl rfl follow rfl ⟨
    .inl ⟨wants_plain rfl, does_box _ rfl rfl rfl rfl rfl (ar_tmp (av_fs 0 rfl))⟩,
    .inl ⟨wants_plain rfl, does_move _ (.inr rfl) rfl rfl rfl rfl (ar_const (fun _ => rfl))⟩,
    trivial⟩ ?_
  refine nx_sub (fs' := [.box 1 69 [Bz x, Dz x], .slot 2 (VP.bool false)]) [1, 2] rfl ?_
  refine nx_then ?_
  refine t_seq ?_
  refine t_region (F := ⟨_, _, _, _⟩) [.box 1 69 [Bz x, Dz x]] [(4, .slot 2 (VP.bool false))] [(0, .fp 3 1 1), (1, .slot 4 (Dz x)), (2, .slot 5 (VP.int .i64 (((dg BB x.natAbs).length : Nat) : Int))), (3, .slot 6 (VP.bool ((((dg BB x.natAbs).length : Nat) : Int) == 0))), (4, .slot 2 (VP.bool ((((dg BB x.natAbs).length : Nat) : Int) == 0)))] [0] [1] rfl rfl follow rfl ⟨
    .inl ⟨wants_plain rfl, does_field _ _ _ 1 ty_f1_api_Int rfl rfl rfl rfl rfl rfl rfl (pt_box (av_fs 0 rfl))⟩,
    .inl ⟨wants_plain rfl, does_loadOne _ ty_one___uint32 rfl rfl rfl rfl rfl rfl (pt_fp (av_rs 0 rfl rfl)) (av_fs 0 rfl)⟩,
    .inl ⟨wants_plain rfl, does_len _ _ (by kernel_rfl) rfl rfl rfl rfl rfl (ar_tmp (av_rs 1 rfl rfl))⟩,
    .inl ⟨wants_plain rfl, does_cmp (m := (((dg BB x.natAbs).length : Nat) : Int)) (n := 0) _ _ _ _ _ rfl rfl rfl rfl rfl rfl .i64 (ar_tmp (av_rs 2 rfl rfl)) (ar_const (fun _ => rfl))⟩,
    .inl ⟨wants_plain rfl, does_move _ (.inr rfl) rfl rfl rfl rfl (ar_tmp (av_rs 3 rfl rfl))⟩,
    trivial⟩ ?_
  refine nx_sub (fs' := [.slot 2 (VP.bool ((((dg BB x.natAbs).length : Nat) : Int) == 0))]) [5] rfl ?_
  refine nx_then ?_
  refine t_ret ?_
  exact rt_one rfl (res_tmpb 0 rfl (len_isz x))
set_option maxRecDepth 100000 in
set_option maxHeartbeats 4000000 in
theorem f_make1 (x y : Int) (_hx : L x ≤ 30000) (_hy : L y ≤ 30000) (h : x = 0) : Spec Try.prog 90 [(INT x).p, (INT y).p] (VP.agg [Bz 0, Dz 0, Bz 0, Dz 0]) := by
  refine spec_of (xs := [INT x, INT y]) 40 [2, 3, 4, 5] Try.func90 rfl Try.ntmps90 rfl fun w0 => ?_
  refine t_seq ?_
  refine t_region (F := ⟨_, _, _, _⟩) [.slot 0 (INT x), .slot 1 (INT y)] [] [(0, .box 2 69 [Bz x, Dz x]), (1, .box 3 69 [Bz y, Dz y]), (2, .box 4 100 [Bz 0, Dz 0, Bz 0, Dz 0])] [0, 1] [] rfl rfl follow rfl ⟨
    .inl ⟨wants_plain rfl, does_box _ rfl rfl rfl rfl rfl (ar_tmp (av_fs 0 rfl))⟩,
    .inl ⟨wants_plain rfl, does_box _ rfl rfl rfl rfl rfl (ar_tmp (av_fs 1 rfl))⟩,
    .inl ⟨wants_plain rfl, does_alloc ty_zero_api_Frac rfl rfl rfl rfl rfl z_frac⟩,
    trivial⟩ ?_
  refine nx_sub (fs' := [.box 2 69 [Bz x, Dz x], .box 3 69 [Bz y, Dz y], .box 4 100 [Bz 0, Dz 0, Bz 0, Dz 0]]) [2, 3, 4] rfl ?_
  refine nx_then ?_
  refine t_seq ?_
  refine t_seq ?_
  refine t_region (F := ⟨_, _, _, _⟩) [.box 2 69 [Bz x, Dz x], .box 3 69 [Bz y, Dz y], .box 4 100 [Bz 0, Dz 0, Bz 0, Dz 0]] [] [(0, .slot 6 (INT x)), (1, .slot 7 (VP.bool (decide (x = 0)))), (2, .slot 8 (VP.bool (decide (x = 0)))), (5, .slot 11 (VP.bool true))] [0, 1, 2] [] rfl rfl follow rfl ⟨
    .inl ⟨wants_plain rfl, does_loadAgg _ ty_agg_api_Int rfl rfl rfl rfl rfl rfl (pt_box (av_fs 0 rfl)) (av_fs 0 rfl)⟩,
    .inl ⟨wants_plain rfl, does_call (f_zero x) rfl hb_collator_frac_zero rfl rfl rfl rfl ⟨(ar_tmp (av_rs 0 rfl rfl)), trivial⟩⟩,
    .inl ⟨wants_plain rfl, does_move _ (.inl rfl) rfl rfl rfl rfl (ar_tmp (av_rs 1 rfl rfl))⟩,
    .inr (skips_guard true rfl rfl rfl (av_bool (decide_eq_true h) (av_rs 2 rfl rfl)) rfl rfl rfl rfl),
    .inr (skips_guard true rfl rfl rfl (av_bool (decide_eq_true h) (av_rs 2 rfl rfl)) rfl rfl rfl rfl),
    .inl ⟨wants_plain rfl, does_pick true _ _ _ rfl rfl rfl rfl rfl (ar_tmp (av_bool (decide_eq_true h) (av_rs 2 rfl rfl))) (ar_const (fun _ => rfl))⟩,
    trivial⟩ ?_
  refine nx_sub (fs' := [.box 2 69 [Bz x, Dz x], .box 3 69 [Bz y, Dz y], .box 4 100 [Bz 0, Dz 0, Bz 0, Dz 0], .slot 11 (VP.bool true)]) [0, 1, 2, 6] rfl ?_
  refine nx_then ?_
  refine t_cond_t 3 rfl ?_
  refine t_seq ?_
  refine t_region (F := ⟨_, _, _, _⟩) [.box 2 69 [Bz x, Dz x], .box 3 69 [Bz y, Dz y], .slot 11 (VP.bool true)] [(1, .box 4 100 [Bz 0, Dz 0, Bz 0, Dz 0])] [(0, .slot 12 (VP.agg [Bz 0, Dz 0, Bz 0, Dz 0])), (1, .box 4 100 [Bz 0, Dz 0, Bz 0, Dz 0])] [0, 1, 3] [2] rfl rfl follow rfl ⟨
    .inl ⟨wants_plain rfl, does_build [Bz 0, Dz 0, Bz 0, Dz 0] ty_zero_api_Frac ty_pl_api_Frac rfl rfl rfl rfl rfl z_frac (.nil _)⟩,
    .inl ⟨wants_plain rfl, does_storeAgg 4 _ _ ty_agg_api_Frac rfl rfl rfl rfl rfl (pt_box (av_os 0 rfl rfl)) (av_os 0 rfl rfl) (ar_tmp (av_rs 0 rfl rfl))⟩,
    trivial⟩ ?_
  refine nx_sub (fs' := [.box 2 69 [Bz x, Dz x], .box 3 69 [Bz y, Dz y], .box 4 100 [Bz 0, Dz 0, Bz 0, Dz 0]]) [0, 1, 4] rfl ?_
  refine nx_then ?_
  refine t_ret ?_
  refine rt_then ?_
  exact rt_one rfl (res_agg 2 ty_agg_api_Frac rfl)
set_option maxRecDepth 100000 in
set_option maxHeartbeats 4000000 in
theorem f_make2 (x y : Int) (_hx : L x ≤ 30000) (_hy : L y ≤ 30000) (h : x ≠ 0) (k : y = 0) : Spec Try.prog 90 [(INT x).p, (INT y).p] (VP.agg [Bz 0, Dz 0, Bz 0, Dz 0]) := by
  refine spec_of (xs := [INT x, INT y]) 40 [2, 3, 4, 5] Try.func90 rfl Try.ntmps90 rfl fun w0 => ?_
  refine t_seq ?_
  refine t_region (F := ⟨_, _, _, _⟩) [.slot 0 (INT x), .slot 1 (INT y)] [] [(0, .box 2 69 [Bz x, Dz x]), (1, .box 3 69 [Bz y, Dz y]), (2, .box 4 100 [Bz 0, Dz 0, Bz 0, Dz 0])] [0, 1] [] rfl rfl follow rfl ⟨
    .inl ⟨wants_plain rfl, does_box _ rfl rfl rfl rfl rfl (ar_tmp (av_fs 0 rfl))⟩,
    .inl ⟨wants_plain rfl, does_box _ rfl rfl rfl rfl rfl (ar_tmp (av_fs 1 rfl))⟩,
    .inl ⟨wants_plain rfl, does_alloc ty_zero_api_Frac rfl rfl rfl rfl rfl z_frac⟩,
    trivial⟩ ?_
  refine nx_sub (fs' := [.box 2 69 [Bz x, Dz x], .box 3 69 [Bz y, Dz y], .box 4 100 [Bz 0, Dz 0, Bz 0, Dz 0]]) [2, 3, 4] rfl ?_
  refine nx_then ?_
  refine t_seq ?_
  refine t_seq ?_
  refine t_region (F := ⟨_, _, _, _⟩) [.box 2 69 [Bz x, Dz x], .box 3 69 [Bz y, Dz y], .box 4 100 [Bz 0, Dz 0, Bz 0, Dz 0]] [] [(0, .slot 6 (INT x)), (1, .slot 7 (VP.bool (decide (x = 0)))), (2, .slot 8 (VP.bool (decide (x = 0)))), (3, .slot 9 (INT y)), (4, .slot 10 (VP.bool (decide (y = 0)))), (5, .slot 11 (VP.bool (decide (y = 0))))] [0, 1, 2] [] rfl rfl follow rfl ⟨
    .inl ⟨wants_plain rfl, does_loadAgg _ ty_agg_api_Int rfl rfl rfl rfl rfl rfl (pt_box (av_fs 0 rfl)) (av_fs 0 rfl)⟩,
    .inl ⟨wants_plain rfl, does_call (f_zero x) rfl hb_collator_frac_zero rfl rfl rfl rfl ⟨(ar_tmp (av_rs 0 rfl rfl)), trivial⟩⟩,
    .inl ⟨wants_plain rfl, does_move _ (.inl rfl) rfl rfl rfl rfl (ar_tmp (av_rs 1 rfl rfl))⟩,
    .inl ⟨wants_guard false rfl rfl rfl (av_bool (decide_eq_false h) (av_rs 2 rfl rfl)), does_loadAgg _ ty_agg_api_Int rfl rfl rfl rfl rfl rfl (pt_box (av_fs 1 rfl)) (av_fs 1 rfl)⟩,
    .inl ⟨wants_guard false rfl rfl rfl (av_bool (decide_eq_false h) (av_rs 2 rfl rfl)), does_call (f_zero y) rfl hb_collator_frac_zero rfl rfl rfl rfl ⟨(ar_tmp (av_rs 3 rfl rfl)), trivial⟩⟩,
    .inl ⟨wants_plain rfl, does_pick false _ _ _ rfl rfl rfl rfl rfl (ar_tmp (av_bool (decide_eq_false h) (av_rs 2 rfl rfl))) (ar_tmp (av_rs 4 rfl rfl))⟩,
    trivial⟩ ?_
  refine nx_sub (fs' := [.box 2 69 [Bz x, Dz x], .box 3 69 [Bz y, Dz y], .box 4 100 [Bz 0, Dz 0, Bz 0, Dz 0], .slot 11 (VP.bool (decide (y = 0)))]) [0, 1, 2, 8] rfl ?_
  refine nx_then ?_
  refine t_cond_te 3 rfl (decide_eq_true k) ?_
  refine t_seq ?_
  refine t_region (F := ⟨_, _, _, _⟩) [.box 2 69 [Bz x, Dz x], .box 3 69 [Bz y, Dz y], .slot 11 (VP.bool (decide (y = 0)))] [(1, .box 4 100 [Bz 0, Dz 0, Bz 0, Dz 0])] [(0, .slot 12 (VP.agg [Bz 0, Dz 0, Bz 0, Dz 0])), (1, .box 4 100 [Bz 0, Dz 0, Bz 0, Dz 0])] [0, 1, 3] [2] rfl rfl follow rfl ⟨
    .inl ⟨wants_plain rfl, does_build [Bz 0, Dz 0, Bz 0, Dz 0] ty_zero_api_Frac ty_pl_api_Frac rfl rfl rfl rfl rfl z_frac (.nil _)⟩,
    .inl ⟨wants_plain rfl, does_storeAgg 4 _ _ ty_agg_api_Frac rfl rfl rfl rfl rfl (pt_box (av_os 0 rfl rfl)) (av_os 0 rfl rfl) (ar_tmp (av_rs 0 rfl rfl))⟩,
    trivial⟩ ?_
  refine nx_sub (fs' := [.box 2 69 [Bz x, Dz x], .box 3 69 [Bz y, Dz y], .box 4 100 [Bz 0, Dz 0, Bz 0, Dz 0]]) [0, 1, 4] rfl ?_
  refine nx_then ?_
  refine t_ret ?_
  refine rt_then ?_
  exact rt_one rfl (res_agg 2 ty_agg_api_Frac rfl)
set_option maxRecDepth 100000 in
set_option maxHeartbeats 4000000 in
theorem f_make3 (x y : Int) (hx : L x ≤ 30000) (hy : L y ≤ 30000) (h : x ≠ 0) (k : y ≠ 0) (hn : y < 0) (ho : (divZ y (-(gcdZ x y))) = 1) : Spec Try.prog 90 [(INT x).p, (INT y).p] (VP.agg [Bz (divZ x (-(gcdZ x y))), Dz (divZ x (-(gcdZ x y))), Bz 0, Dz 0]) := by
  refine spec_of (xs := [INT x, INT y]) 40 [2, 3, 4, 5] Try.func90 rfl Try.ntmps90 rfl fun w0 => ?_
  refine t_seq ?_
  refine t_region (F := ⟨_, _, _, _⟩) [.slot 0 (INT x), .slot 1 (INT y)] [] [(0, .box 2 69 [Bz x, Dz x]), (1, .box 3 69 [Bz y, Dz y]), (2, .box 4 100 [Bz 0, Dz 0, Bz 0, Dz 0])] [0, 1] [] rfl rfl follow rfl ⟨
    .inl ⟨wants_plain rfl, does_box _ rfl rfl rfl rfl rfl (ar_tmp (av_fs 0 rfl))⟩,
    .inl ⟨wants_plain rfl, does_box _ rfl rfl rfl rfl rfl (ar_tmp (av_fs 1 rfl))⟩,
    .inl ⟨wants_plain rfl, does_alloc ty_zero_api_Frac rfl rfl rfl rfl rfl z_frac⟩,
    trivial⟩ ?_
  refine nx_sub (fs' := [.box 2 69 [Bz x, Dz x], .box 3 69 [Bz y, Dz y], .box 4 100 [Bz 0, Dz 0, Bz 0, Dz 0]]) [2, 3, 4] rfl ?_
  refine nx_then ?_
  refine t_seq ?_
  refine t_seq ?_
  refine t_region (F := ⟨_, _, _, _⟩) [.box 2 69 [Bz x, Dz x], .box 3 69 [Bz y, Dz y], .box 4 100 [Bz 0, Dz 0, Bz 0, Dz 0]] [] [(0, .slot 6 (INT x)), (1, .slot 7 (VP.bool (decide (x = 0)))), (2, .slot 8 (VP.bool (decide (x = 0)))), (3, .slot 9 (INT y)), (4, .slot 10 (VP.bool (decide (y = 0)))), (5, .slot 11 (VP.bool (decide (y = 0))))] [0, 1, 2] [] rfl rfl follow rfl ⟨
    .inl ⟨wants_plain rfl, does_loadAgg _ ty_agg_api_Int rfl rfl rfl rfl rfl rfl (pt_box (av_fs 0 rfl)) (av_fs 0 rfl)⟩,
    .inl ⟨wants_plain rfl, does_call (f_zero x) rfl hb_collator_frac_zero rfl rfl rfl rfl ⟨(ar_tmp (av_rs 0 rfl rfl)), trivial⟩⟩,
    .inl ⟨wants_plain rfl, does_move _ (.inl rfl) rfl rfl rfl rfl (ar_tmp (av_rs 1 rfl rfl))⟩,
    .inl ⟨wants_guard false rfl rfl rfl (av_bool (decide_eq_false h) (av_rs 2 rfl rfl)), does_loadAgg _ ty_agg_api_Int rfl rfl rfl rfl rfl rfl (pt_box (av_fs 1 rfl)) (av_fs 1 rfl)⟩,
    .inl ⟨wants_guard false rfl rfl rfl (av_bool (decide_eq_false h) (av_rs 2 rfl rfl)), does_call (f_zero y) rfl hb_collator_frac_zero rfl rfl rfl rfl ⟨(ar_tmp (av_rs 3 rfl rfl)), trivial⟩⟩,
    .inl ⟨wants_plain rfl, does_pick false _ _ _ rfl rfl rfl rfl rfl (ar_tmp (av_bool (decide_eq_false h) (av_rs 2 rfl rfl))) (ar_tmp (av_rs 4 rfl rfl))⟩,
    trivial⟩ ?_
  refine nx_sub (fs' := [.box 2 69 [Bz x, Dz x], .box 3 69 [Bz y, Dz y], .box 4 100 [Bz 0, Dz 0, Bz 0, Dz 0], .slot 11 (VP.bool (decide (y = 0)))]) [0, 1, 2, 8] rfl ?_
  refine nx_then ?_
  refine t_cond_fe 3 rfl (decide_eq_false k) ?_
  refine t_skip ?_
  refine nx_then ?_
  refine t_seq ?_
  refine t_region (F := ⟨_, _, _, _⟩) [.box 2 69 [Bz x, Dz x], .box 3 69 [Bz y, Dz y], .box 4 100 [Bz 0, Dz 0, Bz 0, Dz 0], .slot 11 (VP.bool (decide (y = 0)))] [] [(0, .slot 13 (INT x)), (1, .slot 14 (INT y)), (2, .slot 15 (INT (gcdZ x y))), (3, .own 5 69 2), (4, .box 5 69 [Bz (gcdZ x y), Dz (gcdZ x y)])] [0, 1, 2, 3] [] rfl rfl follow rfl ⟨
    .inl ⟨wants_plain rfl, does_loadAgg _ ty_agg_api_Int rfl rfl rfl rfl rfl rfl (pt_box (av_fs 0 rfl)) (av_fs 0 rfl)⟩,
    .inl ⟨wants_plain rfl, does_loadAgg _ ty_agg_api_Int rfl rfl rfl rfl rfl rfl (pt_box (av_fs 1 rfl)) (av_fs 1 rfl)⟩,
    .inl ⟨wants_plain rfl, does_call (s_gcd x y (lle hx (by decide)) (lle hy (by decide))) rfl hb_collator_whole_Gcd rfl rfl rfl rfl ⟨(ar_tmp (av_rs 0 rfl rfl)), (ar_tmp (av_rs 1 rfl rfl)), trivial⟩⟩,
    .inl ⟨wants_plain rfl, does_allocOwn [Bz 0, Dz 0] ty_zero_api_Int rfl rfl rfl rfl rfl z_int rfl⟩,
    .inl ⟨wants_plain rfl, does_storeNew 2 _ _ ty_agg_api_Int rfl rfl rfl rfl rfl (pt_own (av_rs 3 rfl rfl)) (av_rs 3 rfl rfl) (ar_tmp (av_rs 2 rfl rfl))⟩,
    trivial⟩ ?_
  refine nx_sub (fs' := [.box 2 69 [Bz x, Dz x], .box 3 69 [Bz y, Dz y], .box 4 100 [Bz 0, Dz 0, Bz 0, Dz 0], .box 5 69 [Bz (gcdZ x y), Dz (gcdZ x y)]]) [0, 1, 2, 8] rfl ?_
  refine nx_then ?_
  refine t_seq ?_
  refine t_seq ?_
  refine t_region (F := ⟨_, _, _, _⟩) [.box 2 69 [Bz x, Dz x], .box 3 69 [Bz y, Dz y], .box 4 100 [Bz 0, Dz 0, Bz 0, Dz 0], .box 5 69 [Bz (gcdZ x y), Dz (gcdZ x y)]] [] [(0, .fp 16 3 0), (1, .slot 17 (Bz y))] [0, 1, 2, 3] [] rfl rfl follow rfl ⟨
    .inl ⟨wants_plain rfl, does_field _ _ _ 0 ty_f0_api_Int rfl rfl rfl rfl rfl rfl rfl (pt_box (av_fs 1 rfl))⟩,
    .inl ⟨wants_plain rfl, does_loadOne _ ty_one_bool rfl rfl rfl rfl rfl rfl (pt_fp (av_rs 0 rfl rfl)) (av_fs 1 rfl)⟩,
    trivial⟩ ?_
  refine nx_sub (fs' := [.box 2 69 [Bz x, Dz x], .box 3 69 [Bz y, Dz y], .box 4 100 [Bz 0, Dz 0, Bz 0, Dz 0], .box 5 69 [Bz (gcdZ x y), Dz (gcdZ x y)], .slot 17 (Bz y)]) [0, 1, 2, 3, 5] rfl ?_
  refine nx_then ?_
  refine t_cond_te 4 rfl (decide_eq_true hn) ?_
  refine t_region (F := ⟨_, _, _, _⟩) [.box 2 69 [Bz x, Dz x], .box 3 69 [Bz y, Dz y], .box 4 100 [Bz 0, Dz 0, Bz 0, Dz 0], .slot 17 (Bz y)] [(2, .box 5 69 [Bz (gcdZ x y), Dz (gcdZ x y)])] [(0, .slot 18 (INT (gcdZ x y))), (1, .slot 19 (INT (-(gcdZ x y)))), (2, .box 5 69 [Bz (-(gcdZ x y)), Dz (-(gcdZ x y))])] [0, 1, 2, 4] [3] rfl rfl follow rfl ⟨
    .inl ⟨wants_plain rfl, does_loadAgg _ ty_agg_api_Int rfl rfl rfl rfl rfl rfl (pt_box (av_os 0 rfl rfl)) (av_os 0 rfl rfl)⟩,
    .inl ⟨wants_plain rfl, does_call (s_neg (gcdZ x y) (lle (lgcd hx hy) (by decide))) rfl hb_collator_whole_Neg rfl rfl rfl rfl ⟨(ar_tmp (av_rs 0 rfl rfl)), trivial⟩⟩,
    .inl ⟨wants_plain rfl, does_storeAgg 2 _ _ ty_agg_api_Int rfl rfl rfl rfl rfl (pt_box (av_os 0 rfl rfl)) (av_os 0 rfl rfl) (ar_tmp (av_rs 1 rfl rfl))⟩,
    trivial⟩ ?_
  refine nx_sub (fs' := [.box 2 69 [Bz x, Dz x], .box 3 69 [Bz y, Dz y], .box 4 100 [Bz 0, Dz 0, Bz 0, Dz 0], .box 5 69 [Bz (-(gcdZ x y)), Dz (-(gcdZ x y))]]) [0, 1, 2, 6] rfl ?_
  refine nx_then ?_
  refine t_seq ?_
  refine t_region (F := ⟨_, _, _, _⟩) [.box 3 69 [Bz y, Dz y], .box 4 100 [Bz 0, Dz 0, Bz 0, Dz 0], .box 5 69 [Bz (-(gcdZ x y)), Dz (-(gcdZ x y))]] [(6, .box 2 69 [Bz x, Dz x])] [(0, .slot 21 (INT x)), (1, .slot 22 (INT (-(gcdZ x y)))), (2, .slot 23 (VP.tup [INT (divZ x (-(gcdZ x y))), INT (modZ x (-(gcdZ x y)))])), (3, .slot 20 (VP.tup [INT (divZ x (-(gcdZ x y))), INT (modZ x (-(gcdZ x y)))])), (4, .slot 24 (INT (divZ x (-(gcdZ x y))))), (5, .slot 25 (INT (modZ x (-(gcdZ x y))))), (6, .box 2 69 [Bz (divZ x (-(gcdZ x y))), Dz (divZ x (-(gcdZ x y)))])] [1, 2, 3] [0] rfl rfl follow rfl ⟨
    .inl ⟨wants_plain rfl, does_loadAgg _ ty_agg_api_Int rfl rfl rfl rfl rfl rfl (pt_box (av_os 0 rfl rfl)) (av_os 0 rfl rfl)⟩,
    .inl ⟨wants_plain rfl, does_loadAgg _ ty_agg_api_Int rfl rfl rfl rfl rfl rfl (pt_box (av_fs 2 rfl)) (av_fs 2 rfl)⟩,
    .inl ⟨wants_plain rfl, does_call (s_div x (-(gcdZ x y)) (lle hx (by decide)) (lle (lneg (lgcd hx hy)) (by decide))) rfl hb_collator_whole_Div rfl rfl rfl rfl ⟨(ar_tmp (av_rs 0 rfl rfl)), (ar_tmp (av_rs 1 rfl rfl)), trivial⟩⟩,
    .inl ⟨wants_plain rfl, does_move _ (.inl rfl) rfl rfl rfl rfl (ar_tmp (av_rs 2 rfl rfl))⟩,
    .inl ⟨wants_plain rfl, does_extract (ps := [INT (divZ x (-(gcdZ x y))), INT (modZ x (-(gcdZ x y)))]) _ _ rfl rfl rfl rfl rfl (ar_tmp (av_rs 3 rfl rfl)) rfl⟩,
    .inl ⟨wants_plain rfl, does_extract (ps := [INT (divZ x (-(gcdZ x y))), INT (modZ x (-(gcdZ x y)))]) _ _ rfl rfl rfl rfl rfl (ar_tmp (av_rs 3 rfl rfl)) rfl⟩,
    .inl ⟨wants_plain rfl, does_storeAgg 2 _ _ ty_agg_api_Int rfl rfl rfl rfl rfl (pt_box (av_os 0 rfl rfl)) (av_os 0 rfl rfl) (ar_tmp (av_rs 4 rfl rfl))⟩,
    trivial⟩ ?_
  refine nx_sub (fs' := [.box 3 69 [Bz y, Dz y], .box 4 100 [Bz 0, Dz 0, Bz 0, Dz 0], .box 5 69 [Bz (-(gcdZ x y)), Dz (-(gcdZ x y))], .box 2 69 [Bz (divZ x (-(gcdZ x y))), Dz (divZ x (-(gcdZ x y)))]]) [0, 1, 2, 9] rfl ?_
  refine nx_then ?_
  refine t_seq ?_
  refine t_region (F := ⟨_, _, _, _⟩) [.box 4 100 [Bz 0, Dz 0, Bz 0, Dz 0], .box 5 69 [Bz (-(gcdZ x y)), Dz (-(gcdZ x y))], .box 2 69 [Bz (divZ x (-(gcdZ x y))), Dz (divZ x (-(gcdZ x y)))]] [(6, .box 3 69 [Bz y, Dz y])] [(0, .slot 27 (INT y)), (1, .slot 28 (INT (-(gcdZ x y)))), (2, .slot 29 (VP.tup [INT (divZ y (-(gcdZ x y))), INT (modZ y (-(gcdZ x y)))])), (3, .slot 26 (VP.tup [INT (divZ y (-(gcdZ x y))), INT (modZ y (-(gcdZ x y)))])), (4, .slot 30 (INT (divZ y (-(gcdZ x y))))), (5, .slot 31 (INT (modZ y (-(gcdZ x y))))), (6, .box 3 69 [Bz (divZ y (-(gcdZ x y))), Dz (divZ y (-(gcdZ x y)))])] [1, 2, 3] [0] rfl rfl follow rfl ⟨
    .inl ⟨wants_plain rfl, does_loadAgg _ ty_agg_api_Int rfl rfl rfl rfl rfl rfl (pt_box (av_os 0 rfl rfl)) (av_os 0 rfl rfl)⟩,
    .inl ⟨wants_plain rfl, does_loadAgg _ ty_agg_api_Int rfl rfl rfl rfl rfl rfl (pt_box (av_fs 1 rfl)) (av_fs 1 rfl)⟩,
    .inl ⟨wants_plain rfl, does_call (s_div y (-(gcdZ x y)) (lle hy (by decide)) (lle (lneg (lgcd hx hy)) (by decide))) rfl hb_collator_whole_Div rfl rfl rfl rfl ⟨(ar_tmp (av_rs 0 rfl rfl)), (ar_tmp (av_rs 1 rfl rfl)), trivial⟩⟩,
    .inl ⟨wants_plain rfl, does_move _ (.inl rfl) rfl rfl rfl rfl (ar_tmp (av_rs 2 rfl rfl))⟩,
    .inl ⟨wants_plain rfl, does_extract (ps := [INT (divZ y (-(gcdZ x y))), INT (modZ y (-(gcdZ x y)))]) _ _ rfl rfl rfl rfl rfl (ar_tmp (av_rs 3 rfl rfl)) rfl⟩,
    .inl ⟨wants_plain rfl, does_extract (ps := [INT (divZ y (-(gcdZ x y))), INT (modZ y (-(gcdZ x y)))]) _ _ rfl rfl rfl rfl rfl (ar_tmp (av_rs 3 rfl rfl)) rfl⟩,
    .inl ⟨wants_plain rfl, does_storeAgg 2 _ _ ty_agg_api_Int rfl rfl rfl rfl rfl (pt_box (av_os 0 rfl rfl)) (av_os 0 rfl rfl) (ar_tmp (av_rs 4 rfl rfl))⟩,
    trivial⟩ ?_
  refine nx_sub (fs' := [.box 4 100 [Bz 0, Dz 0, Bz 0, Dz 0], .box 2 69 [Bz (divZ x (-(gcdZ x y))), Dz (divZ x (-(gcdZ x y)))], .box 3 69 [Bz (divZ y (-(gcdZ x y))), Dz (divZ y (-(gcdZ x y)))]]) [0, 2, 9] rfl ?_
  refine nx_then ?_
  refine t_seq ?_
  refine t_seq ?_
  refine t_region (F := ⟨_, _, _, _⟩) [.box 4 100 [Bz 0, Dz 0, Bz 0, Dz 0], .box 2 69 [Bz (divZ x (-(gcdZ x y))), Dz (divZ x (-(gcdZ x y)))], .box 3 69 [Bz (divZ y (-(gcdZ x y))), Dz (divZ y (-(gcdZ x y)))]] [] [(0, .slot 32 (INT (divZ y (-(gcdZ x y))))), (1, .slot 33 (INT 1)), (2, .slot 34 (VP.int .i64 (cmpZ (divZ y (-(gcdZ x y))) 1))), (3, .slot 35 (VP.bool ((cmpZ (divZ y (-(gcdZ x y))) 1) == 0)))] [0, 1, 2] [] rfl rfl follow rfl ⟨
    .inl ⟨wants_plain rfl, does_loadAgg _ ty_agg_api_Int rfl rfl rfl rfl rfl rfl (pt_box (av_fs 2 rfl)) (av_fs 2 rfl)⟩,
    .inl ⟨wants_plain rfl, does_call (s_of 1 (by decide) (by decide)) rfl hb_collator_whole_Of rfl rfl rfl rfl ⟨(ar_const (fun _ => rfl)), trivial⟩⟩,
    .inl ⟨wants_plain rfl, does_call (s_cmp (divZ y (-(gcdZ x y))) 1 (lle (ldiv hy) (by decide)) (lle lone (by decide))) rfl hb_collator_whole_Cmp rfl rfl rfl rfl ⟨(ar_tmp (av_rs 0 rfl rfl)), (ar_tmp (av_rs 1 rfl rfl)), trivial⟩⟩,
    .inl ⟨wants_plain rfl, does_cmp (m := (cmpZ (divZ y (-(gcdZ x y))) 1)) (n := 0) _ _ _ _ _ rfl rfl rfl rfl rfl rfl .i64 (ar_tmp (av_rs 2 rfl rfl)) (ar_const (fun _ => rfl))⟩,
    trivial⟩ ?_
  refine nx_sub (fs' := [.box 4 100 [Bz 0, Dz 0, Bz 0, Dz 0], .box 2 69 [Bz (divZ x (-(gcdZ x y))), Dz (divZ x (-(gcdZ x y)))], .box 3 69 [Bz (divZ y (-(gcdZ x y))), Dz (divZ y (-(gcdZ x y)))], .slot 35 (VP.bool ((cmpZ (divZ y (-(gcdZ x y))) 1) == 0))]) [0, 1, 2, 6] rfl ?_
  refine nx_then ?_
  refine t_cond_te 3 rfl (cmp_one ho) ?_
  refine t_region (F := ⟨_, _, _, _⟩) [.box 4 100 [Bz 0, Dz 0, Bz 0, Dz 0], .box 2 69 [Bz (divZ x (-(gcdZ x y))), Dz (divZ x (-(gcdZ x y)))], .slot 35 (VP.bool ((cmpZ (divZ y (-(gcdZ x y))) 1) == 0))] [(1, .box 3 69 [Bz (divZ y (-(gcdZ x y))), Dz (divZ y (-(gcdZ x y)))])] [(0, .slot 36 (INT 0)), (1, .box 3 69 [Bz 0, Dz 0])] [0, 1, 3] [2] rfl rfl follow rfl ⟨
    .inl ⟨wants_plain rfl, does_build [Bz 0, Dz 0] ty_zero_api_Int ty_pl_api_Int rfl rfl rfl rfl rfl z_int (.nil _)⟩,
    .inl ⟨wants_plain rfl, does_storeAgg 2 _ _ ty_agg_api_Int rfl rfl rfl rfl rfl (pt_box (av_os 0 rfl rfl)) (av_os 0 rfl rfl) (ar_tmp (av_rs 0 rfl rfl))⟩,
    trivial⟩ ?_
  refine nx_sub (fs' := [.box 4 100 [Bz 0, Dz 0, Bz 0, Dz 0], .box 2 69 [Bz (divZ x (-(gcdZ x y))), Dz (divZ x (-(gcdZ x y)))], .box 3 69 [Bz 0, Dz 0]]) [0, 1, 4] rfl ?_
  refine nx_then ?_
  refine t_seq ?_
  refine t_region (F := ⟨_, _, _, _⟩) [.box 2 69 [Bz (divZ x (-(gcdZ x y))), Dz (divZ x (-(gcdZ x y)))], .box 3 69 [Bz 0, Dz 0]] [(3, .box 4 100 [Bz 0, Dz 0, Bz 0, Dz 0])] [(0, .slot 37 (INT (divZ x (-(gcdZ x y))))), (1, .slot 38 (INT 0)), (2, .slot 39 (VP.agg [Bz (divZ x (-(gcdZ x y))), Dz (divZ x (-(gcdZ x y))), Bz 0, Dz 0])), (3, .box 4 100 [Bz (divZ x (-(gcdZ x y))), Dz (divZ x (-(gcdZ x y))), Bz 0, Dz 0])] [1, 2] [0] rfl rfl follow rfl ⟨
    .inl ⟨wants_plain rfl, does_loadAgg _ ty_agg_api_Int rfl rfl rfl rfl rfl rfl (pt_box (av_fs 0 rfl)) (av_fs 0 rfl)⟩,
    .inl ⟨wants_plain rfl, does_loadAgg _ ty_agg_api_Int rfl rfl rfl rfl rfl rfl (pt_box (av_fs 1 rfl)) (av_fs 1 rfl)⟩,
    .inl ⟨wants_plain rfl, does_build [Bz 0, Dz 0, Bz 0, Dz 0] ty_zero_api_Frac ty_pl_api_Frac rfl rfl rfl rfl rfl z_frac (.cons 0 [Bz (divZ x (-(gcdZ x y))), Dz (divZ x (-(gcdZ x y)))] rfl rfl (ar_cells_agg (ar_tmp (av_rs 0 rfl rfl))) (.cons 2 [Bz 0, Dz 0] rfl rfl (ar_cells_agg (ar_tmp (av_rs 1 rfl rfl))) (.nil _)))⟩,
    .inl ⟨wants_plain rfl, does_storeAgg 4 _ _ ty_agg_api_Frac rfl rfl rfl rfl rfl (pt_box (av_os 0 rfl rfl)) (av_os 0 rfl rfl) (ar_tmp (av_rs 2 rfl rfl))⟩,
    trivial⟩ ?_
  refine nx_sub (fs' := [.box 4 100 [Bz (divZ x (-(gcdZ x y))), Dz (divZ x (-(gcdZ x y))), Bz 0, Dz 0]]) [5] rfl ?_
  refine nx_then ?_
  refine t_ret ?_
  exact rt_one rfl (res_agg 0 ty_agg_api_Frac rfl)
set_option maxRecDepth 100000 in
set_option maxHeartbeats 4000000 in
theorem f_make4 (x y : Int) (hx : L x ≤ 30000) (hy : L y ≤ 30000) (h : x ≠ 0) (k : y ≠ 0) (hn : y < 0) (ho : (divZ y (-(gcdZ x y))) ≠ 1) : Spec Try.prog 90 [(INT x).p, (INT y).p] (VP.agg [Bz (divZ x (-(gcdZ x y))), Dz (divZ x (-(gcdZ x y))), Bz (divZ y (-(gcdZ x y))), Dz (divZ y (-(gcdZ x y)))]) := by
  refine spec_of (xs := [INT x, INT y]) 40 [2, 3, 4, 5] Try.func90 rfl Try.ntmps90 rfl fun w0 => ?_
  refine t_seq ?_
  refine t_region (F := ⟨_, _, _, _⟩) [.slot 0 (INT x), .slot 1 (INT y)] [] [(0, .box 2 69 [Bz x, Dz x]), (1, .box 3 69 [Bz y, Dz y]), (2, .box 4 100 [Bz 0, Dz 0, Bz 0, Dz 0])] [0, 1] [] rfl rfl follow rfl ⟨
    .inl ⟨wants_plain rfl, does_box _ rfl rfl rfl rfl rfl (ar_tmp (av_fs 0 rfl))⟩,
    .inl ⟨wants_plain rfl, does_box _ rfl rfl rfl rfl rfl (ar_tmp (av_fs 1 rfl))⟩,
    .inl ⟨wants_plain rfl, does_alloc ty_zero_api_Frac rfl rfl rfl rfl rfl z_frac⟩,
    trivial⟩ ?_
  refine nx_sub (fs' := [.box 2 69 [Bz x, Dz x], .box 3 69 [Bz y, Dz y], .box 4 100 [Bz 0, Dz 0, Bz 0, Dz 0]]) [2, 3, 4] rfl ?_
  refine nx_then ?_
  refine t_seq ?_
  refine t_seq ?_
  refine t_region (F := ⟨_, _, _, _⟩) [.box 2 69 [Bz x, Dz x], .box 3 69 [Bz y, Dz y], .box 4 100 [Bz 0, Dz 0, Bz 0, Dz 0]] [] [(0, .slot 6 (INT x)), (1, .slot 7 (VP.bool (decide (x = 0)))), (2, .slot 8 (VP.bool (decide (x = 0)))), (3, .slot 9 (INT y)), (4, .slot 10 (VP.bool (decide (y = 0)))), (5, .slot 11 (VP.bool (decide (y = 0))))] [0, 1, 2] [] rfl rfl follow rfl ⟨
    .inl ⟨wants_plain rfl, does_loadAgg _ ty_agg_api_Int rfl rfl rfl rfl rfl rfl (pt_box (av_fs 0 rfl)) (av_fs 0 rfl)⟩,
    .inl ⟨wants_plain rfl, does_call (f_zero x) rfl hb_collator_frac_zero rfl rfl rfl rfl ⟨(ar_tmp (av_rs 0 rfl rfl)), trivial⟩⟩,
    .inl ⟨wants_plain rfl, does_move _ (.inl rfl) rfl rfl rfl rfl (ar_tmp (av_rs 1 rfl rfl))⟩,
    .inl ⟨wants_guard false rfl rfl rfl (av_bool (decide_eq_false h) (av_rs 2 rfl rfl)), does_loadAgg _ ty_agg_api_Int rfl rfl rfl rfl rfl rfl (pt_box (av_fs 1 rfl)) (av_fs 1 rfl)⟩,
    .inl ⟨wants_guard false rfl rfl rfl (av_bool (decide_eq_false h) (av_rs 2 rfl rfl)), does_call (f_zero y) rfl hb_collator_frac_zero rfl rfl rfl rfl ⟨(ar_tmp (av_rs 3 rfl rfl)), trivial⟩⟩,
    .inl ⟨wants_plain rfl, does_pick false _ _ _ rfl rfl rfl rfl rfl (ar_tmp (av_bool (decide_eq_false h) (av_rs 2 rfl rfl))) (ar_tmp (av_rs 4 rfl rfl))⟩,
    trivial⟩ ?_
  refine nx_sub (fs' := [.box 2 69 [Bz x, Dz x], .box 3 69 [Bz y, Dz y], .box 4 100 [Bz 0, Dz 0, Bz 0, Dz 0], .slot 11 (VP.bool (decide (y = 0)))]) [0, 1, 2, 8] rfl ?_
  refine nx_then ?_
  refine t_cond_fe 3 rfl (decide_eq_false k) ?_
  refine t_skip ?_
  refine nx_then ?_
  refine t_seq ?_
  refine t_region (F := ⟨_, _, _, _⟩) [.box 2 69 [Bz x, Dz x], .box 3 69 [Bz y, Dz y], .box 4 100 [Bz 0, Dz 0, Bz 0, Dz 0], .slot 11 (VP.bool (decide (y = 0)))] [] [(0, .slot 13 (INT x)), (1, .slot 14 (INT y)), (2, .slot 15 (INT (gcdZ x y))), (3, .own 5 69 2), (4, .box 5 69 [Bz (gcdZ x y), Dz (gcdZ x y)])] [0, 1, 2, 3] [] rfl rfl follow rfl ⟨
    .inl ⟨wants_plain rfl, does_loadAgg _ ty_agg_api_Int rfl rfl rfl rfl rfl rfl (pt_box (av_fs 0 rfl)) (av_fs 0 rfl)⟩,
    .inl ⟨wants_plain rfl, does_loadAgg _ ty_agg_api_Int rfl rfl rfl rfl rfl rfl (pt_box (av_fs 1 rfl)) (av_fs 1 rfl)⟩,
    .inl ⟨wants_plain rfl, does_call (s_gcd x y (lle hx (by decide)) (lle hy (by decide))) rfl hb_collator_whole_Gcd rfl rfl rfl rfl ⟨(ar_tmp (av_rs 0 rfl rfl)), (ar_tmp (av_rs 1 rfl rfl)), trivial⟩⟩,
    .inl ⟨wants_plain rfl, does_allocOwn [Bz 0, Dz 0] ty_zero_api_Int rfl rfl rfl rfl rfl z_int rfl⟩,
    .inl ⟨wants_plain rfl, does_storeNew 2 _ _ ty_agg_api_Int rfl rfl rfl rfl rfl (pt_own (av_rs 3 rfl rfl)) (av_rs 3 rfl rfl) (ar_tmp (av_rs 2 rfl rfl))⟩,
    trivial⟩ ?_
  refine nx_sub (fs' := [.box 2 69 [Bz x, Dz x], .box 3 69 [Bz y, Dz y], .box 4 100 [Bz 0, Dz 0, Bz 0, Dz 0], .box 5 69 [Bz (gcdZ x y), Dz (gcdZ x y)]]) [0, 1, 2, 8] rfl ?_
  refine nx_then ?_
  refine t_seq ?_
  refine t_seq ?_
  refine t_region (F := ⟨_, _, _, _⟩) [.box 2 69 [Bz x, Dz x], .box 3 69 [Bz y, Dz y], .box 4 100 [Bz 0, Dz 0, Bz 0, Dz 0], .box 5 69 [Bz (gcdZ x y), Dz (gcdZ x y)]] [] [(0, .fp 16 3 0), (1, .slot 17 (Bz y))] [0, 1, 2, 3] [] rfl rfl follow rfl ⟨
    .inl ⟨wants_plain rfl, does_field _ _ _ 0 ty_f0_api_Int rfl rfl rfl rfl rfl rfl rfl (pt_box (av_fs 1 rfl))⟩,
    .inl ⟨wants_plain rfl, does_loadOne _ ty_one_bool rfl rfl rfl rfl rfl rfl (pt_fp (av_rs 0 rfl rfl)) (av_fs 1 rfl)⟩,
    trivial⟩ ?_
  refine nx_sub (fs' := [.box 2 69 [Bz x, Dz x], .box 3 69 [Bz y, Dz y], .box 4 100 [Bz 0, Dz 0, Bz 0, Dz 0], .box 5 69 [Bz (gcdZ x y), Dz (gcdZ x y)], .slot 17 (Bz y)]) [0, 1, 2, 3, 5] rfl ?_
  refine nx_then ?_
  refine t_cond_te 4 rfl (decide_eq_true hn) ?_
  refine t_region (F := ⟨_, _, _, _⟩) [.box 2 69 [Bz x, Dz x], .box 3 69 [Bz y, Dz y], .box 4 100 [Bz 0, Dz 0, Bz 0, Dz 0], .slot 17 (Bz y)] [(2, .box 5 69 [Bz (gcdZ x y), Dz (gcdZ x y)])] [(0, .slot 18 (INT (gcdZ x y))), (1, .slot 19 (INT (-(gcdZ x y)))), (2, .box 5 69 [Bz (-(gcdZ x y)), Dz (-(gcdZ x y))])] [0, 1, 2, 4] [3] rfl rfl follow rfl ⟨
    .inl ⟨wants_plain rfl, does_loadAgg _ ty_agg_api_Int rfl rfl rfl rfl rfl rfl (pt_box (av_os 0 rfl rfl)) (av_os 0 rfl rfl)⟩,
    .inl ⟨wants_plain rfl, does_call (s_neg (gcdZ x y) (lle (lgcd hx hy) (by decide))) rfl hb_collator_whole_Neg rfl rfl rfl rfl ⟨(ar_tmp (av_rs 0 rfl rfl)), trivial⟩⟩,
    .inl ⟨wants_plain rfl, does_storeAgg 2 _ _ ty_agg_api_Int rfl rfl rfl rfl rfl (pt_box (av_os 0 rfl rfl)) (av_os 0 rfl rfl) (ar_tmp (av_rs 1 rfl rfl))⟩,
    trivial⟩ ?_
  refine nx_sub (fs' := [.box 2 69 [Bz x, Dz x], .box 3 69 [Bz y, Dz y], .box 4 100 [Bz 0, Dz 0, Bz 0, Dz 0], .box 5 69 [Bz (-(gcdZ x y)), Dz (-(gcdZ x y))]]) [0, 1, 2, 6] rfl ?_
  refine nx_then ?_
  refine t_seq ?_
  refine t_region (F := ⟨_, _, _, _⟩) [.box 3 69 [Bz y, Dz y], .box 4 100 [Bz 0, Dz 0, Bz 0, Dz 0], .box 5 69 [Bz (-(gcdZ x y)), Dz (-(gcdZ x y))]] [(6, .box 2 69 [Bz x, Dz x])] [(0, .slot 21 (INT x)), (1, .slot 22 (INT (-(gcdZ x y)))), (2, .slot 23 (VP.tup [INT (divZ x (-(gcdZ x y))), INT (modZ x (-(gcdZ x y)))])), (3, .slot 20 (VP.tup [INT (divZ x (-(gcdZ x y))), INT (modZ x (-(gcdZ x y)))])), (4, .slot 24 (INT (divZ x (-(gcdZ x y))))), (5, .slot 25 (INT (modZ x (-(gcdZ x y))))), (6, .box 2 69 [Bz (divZ x (-(gcdZ x y))), Dz (divZ x (-(gcdZ x y)))])] [1, 2, 3] [0] rfl rfl follow rfl ⟨
    .inl ⟨wants_plain rfl, does_loadAgg _ ty_agg_api_Int rfl rfl rfl rfl rfl rfl (pt_box (av_os 0 rfl rfl)) (av_os 0 rfl rfl)⟩,
    .inl ⟨wants_plain rfl, does_loadAgg _ ty_agg_api_Int rfl rfl rfl rfl rfl rfl (pt_box (av_fs 2 rfl)) (av_fs 2 rfl)⟩,
    .inl ⟨wants_plain rfl, does_call (s_div x (-(gcdZ x y)) (lle hx (by decide)) (lle (lneg (lgcd hx hy)) (by decide))) rfl hb_collator_whole_Div rfl rfl rfl rfl ⟨(ar_tmp (av_rs 0 rfl rfl)), (ar_tmp (av_rs 1 rfl rfl)), trivial⟩⟩,
    .inl ⟨wants_plain rfl, does_move _ (.inl rfl) rfl rfl rfl rfl (ar_tmp (av_rs 2 rfl rfl))⟩,
    .inl ⟨wants_plain rfl, does_extract (ps := [INT (divZ x (-(gcdZ x y))), INT (modZ x (-(gcdZ x y)))]) _ _ rfl rfl rfl rfl rfl (ar_tmp (av_rs 3 rfl rfl)) rfl⟩,
    .inl ⟨wants_plain rfl, does_extract (ps := [INT (divZ x (-(gcdZ x y))), INT (modZ x (-(gcdZ x y)))]) _ _ rfl rfl rfl rfl rfl (ar_tmp (av_rs 3 rfl rfl)) rfl⟩,
    .inl ⟨wants_plain rfl, does_storeAgg 2 _ _ ty_agg_api_Int rfl rfl rfl rfl rfl (pt_box (av_os 0 rfl rfl)) (av_os 0 rfl rfl) (ar_tmp (av_rs 4 rfl rfl))⟩,
    trivial⟩ ?_
  refine nx_sub (fs' := [.box 3 69 [Bz y, Dz y], .box 4 100 [Bz 0, Dz 0, Bz 0, Dz 0], .box 5 69 [Bz (-(gcdZ x y)), Dz (-(gcdZ x y))], .box 2 69 [Bz (divZ x (-(gcdZ x y))), Dz (divZ x (-(gcdZ x y)))]]) [0, 1, 2, 9] rfl ?_
  refine nx_then ?_
  refine t_seq ?_
  refine t_region (F := ⟨_, _, _, _⟩) [.box 4 100 [Bz 0, Dz 0, Bz 0, Dz 0], .box 5 69 [Bz (-(gcdZ x y)), Dz (-(gcdZ x y))], .box 2 69 [Bz (divZ x (-(gcdZ x y))), Dz (divZ x (-(gcdZ x y)))]] [(6, .box 3 69 [Bz y, Dz y])] [(0, .slot 27 (INT y)), (1, .slot 28 (INT (-(gcdZ x y)))), (2, .slot 29 (VP.tup [INT (divZ y (-(gcdZ x y))), INT (modZ y (-(gcdZ x y)))])), (3, .slot 26 (VP.tup [INT (divZ y (-(gcdZ x y))), INT (modZ y (-(gcdZ x y)))])), (4, .slot 30 (INT (divZ y (-(gcdZ x y))))), (5, .slot 31 (INT (modZ y (-(gcdZ x y))))), (6, .box 3 69 [Bz (divZ y (-(gcdZ x y))), Dz (divZ y (-(gcdZ x y)))])] [1, 2, 3] [0] rfl rfl follow rfl ⟨
    .inl ⟨wants_plain rfl, does_loadAgg _ ty_agg_api_Int rfl rfl rfl rfl rfl rfl (pt_box (av_os 0 rfl rfl)) (av_os 0 rfl rfl)⟩,
    .inl ⟨wants_plain rfl, does_loadAgg _ ty_agg_api_Int rfl rfl rfl rfl rfl rfl (pt_box (av_fs 1 rfl)) (av_fs 1 rfl)⟩,
    .inl ⟨wants_plain rfl, does_call (s_div y (-(gcdZ x y)) (lle hy (by decide)) (lle (lneg (lgcd hx hy)) (by decide))) rfl hb_collator_whole_Div rfl rfl rfl rfl ⟨(ar_tmp (av_rs 0 rfl rfl)), (ar_tmp (av_rs 1 rfl rfl)), trivial⟩⟩,
    .inl ⟨wants_plain rfl, does_move _ (.inl rfl) rfl rfl rfl rfl (ar_tmp (av_rs 2 rfl rfl))⟩,
    .inl ⟨wants_plain rfl, does_extract (ps := [INT (divZ y (-(gcdZ x y))), INT (modZ y (-(gcdZ x y)))]) _ _ rfl rfl rfl rfl rfl (ar_tmp (av_rs 3 rfl rfl)) rfl⟩,
    .inl ⟨wants_plain rfl, does_extract (ps := [INT (divZ y (-(gcdZ x y))), INT (modZ y (-(gcdZ x y)))]) _ _ rfl rfl rfl rfl rfl (ar_tmp (av_rs 3 rfl rfl)) rfl⟩,
    .inl ⟨wants_plain rfl, does_storeAgg 2 _ _ ty_agg_api_Int rfl rfl rfl rfl rfl (pt_box (av_os 0 rfl rfl)) (av_os 0 rfl rfl) (ar_tmp (av_rs 4 rfl rfl))⟩,
    trivial⟩ ?_
  refine nx_sub (fs' := [.box 4 100 [Bz 0, Dz 0, Bz 0, Dz 0], .box 2 69 [Bz (divZ x (-(gcdZ x y))), Dz (divZ x (-(gcdZ x y)))], .box 3 69 [Bz (divZ y (-(gcdZ x y))), Dz (divZ y (-(gcdZ x y)))]]) [0, 2, 9] rfl ?_
  refine nx_then ?_
  refine t_seq ?_
  refine t_seq ?_
  refine t_region (F := ⟨_, _, _, _⟩) [.box 4 100 [Bz 0, Dz 0, Bz 0, Dz 0], .box 2 69 [Bz (divZ x (-(gcdZ x y))), Dz (divZ x (-(gcdZ x y)))], .box 3 69 [Bz (divZ y (-(gcdZ x y))), Dz (divZ y (-(gcdZ x y)))]] [] [(0, .slot 32 (INT (divZ y (-(gcdZ x y))))), (1, .slot 33 (INT 1)), (2, .slot 34 (VP.int .i64 (cmpZ (divZ y (-(gcdZ x y))) 1))), (3, .slot 35 (VP.bool ((cmpZ (divZ y (-(gcdZ x y))) 1) == 0)))] [0, 1, 2] [] rfl rfl follow rfl ⟨
    .inl ⟨wants_plain rfl, does_loadAgg _ ty_agg_api_Int rfl rfl rfl rfl rfl rfl (pt_box (av_fs 2 rfl)) (av_fs 2 rfl)⟩,
    .inl ⟨wants_plain rfl, does_call (s_of 1 (by decide) (by decide)) rfl hb_collator_whole_Of rfl rfl rfl rfl ⟨(ar_const (fun _ => rfl)), trivial⟩⟩,
    .inl ⟨wants_plain rfl, does_call (s_cmp (divZ y (-(gcdZ x y))) 1 (lle (ldiv hy) (by decide)) (lle lone (by decide))) rfl hb_collator_whole_Cmp rfl rfl rfl rfl ⟨(ar_tmp (av_rs 0 rfl rfl)), (ar_tmp (av_rs 1 rfl rfl)), trivial⟩⟩,
    .inl ⟨wants_plain rfl, does_cmp (m := (cmpZ (divZ y (-(gcdZ x y))) 1)) (n := 0) _ _ _ _ _ rfl rfl rfl rfl rfl rfl .i64 (ar_tmp (av_rs 2 rfl rfl)) (ar_const (fun _ => rfl))⟩,
    trivial⟩ ?_
  refine nx_sub (fs' := [.box 4 100 [Bz 0, Dz 0, Bz 0, Dz 0], .box 2 69 [Bz (divZ x (-(gcdZ x y))), Dz (divZ x (-(gcdZ x y)))], .box 3 69 [Bz (divZ y (-(gcdZ x y))), Dz (divZ y (-(gcdZ x y)))], .slot 35 (VP.bool ((cmpZ (divZ y (-(gcdZ x y))) 1) == 0))]) [0, 1, 2, 6] rfl ?_
  refine nx_then ?_
  refine t_cond_fe 3 rfl (cmp_two ho) ?_
  refine t_skip ?_
  refine nx_then ?_
  refine t_seq ?_
  refine t_region (F := ⟨_, _, _, _⟩) [.box 2 69 [Bz (divZ x (-(gcdZ x y))), Dz (divZ x (-(gcdZ x y)))], .box 3 69 [Bz (divZ y (-(gcdZ x y))), Dz (divZ y (-(gcdZ x y)))], .slot 35 (VP.bool ((cmpZ (divZ y (-(gcdZ x y))) 1) == 0))] [(3, .box 4 100 [Bz 0, Dz 0, Bz 0, Dz 0])] [(0, .slot 37 (INT (divZ x (-(gcdZ x y))))), (1, .slot 38 (INT (divZ y (-(gcdZ x y))))), (2, .slot 39 (VP.agg [Bz (divZ x (-(gcdZ x y))), Dz (divZ x (-(gcdZ x y))), Bz (divZ y (-(gcdZ x y))), Dz (divZ y (-(gcdZ x y)))])), (3, .box 4 100 [Bz (divZ x (-(gcdZ x y))), Dz (divZ x (-(gcdZ x y))), Bz (divZ y (-(gcdZ x y))), Dz (divZ y (-(gcdZ x y)))])] [1, 2, 3] [0] rfl rfl follow rfl ⟨
    .inl ⟨wants_plain rfl, does_loadAgg _ ty_agg_api_Int rfl rfl rfl rfl rfl rfl (pt_box (av_fs 0 rfl)) (av_fs 0 rfl)⟩,
    .inl ⟨wants_plain rfl, does_loadAgg _ ty_agg_api_Int rfl rfl rfl rfl rfl rfl (pt_box (av_fs 1 rfl)) (av_fs 1 rfl)⟩,
    .inl ⟨wants_plain rfl, does_build [Bz 0, Dz 0, Bz 0, Dz 0] ty_zero_api_Frac ty_pl_api_Frac rfl rfl rfl rfl rfl z_frac (.cons 0 [Bz (divZ x (-(gcdZ x y))), Dz (divZ x (-(gcdZ x y)))] rfl rfl (ar_cells_agg (ar_tmp (av_rs 0 rfl rfl))) (.cons 2 [Bz (divZ y (-(gcdZ x y))), Dz (divZ y (-(gcdZ x y)))] rfl rfl (ar_cells_agg (ar_tmp (av_rs 1 rfl rfl))) (.nil _)))⟩,
    .inl ⟨wants_plain rfl, does_storeAgg 4 _ _ ty_agg_api_Frac rfl rfl rfl rfl rfl (pt_box (av_os 0 rfl rfl)) (av_os 0 rfl rfl) (ar_tmp (av_rs 2 rfl rfl))⟩,
    trivial⟩ ?_
  refine nx_sub (fs' := [.box 4 100 [Bz (divZ x (-(gcdZ x y))), Dz (divZ x (-(gcdZ x y))), Bz (divZ y (-(gcdZ x y))), Dz (divZ y (-(gcdZ x y)))]]) [6] rfl ?_
  refine nx_then ?_
  refine t_ret ?_
  exact rt_one rfl (res_agg 0 ty_agg_api_Frac rfl)
set_option maxRecDepth 100000 in
set_option maxHeartbeats 4000000 in
theorem f_make5 (x y : Int) (hx : L x ≤ 30000) (hy : L y ≤ 30000) (h : x ≠ 0) (k : y ≠ 0) (hn : ¬ y < 0) (ho : (divZ y (gcdZ x y)) = 1) : Spec Try.prog 90 [(INT x).p, (INT y).p] (VP.agg [Bz (divZ x (gcdZ x y)), Dz (divZ x (gcdZ x y)), Bz 0, Dz 0]) := by
  refine spec_of (xs := [INT x, INT y]) 40 [2, 3, 4, 5] Try.func90 rfl Try.ntmps90 rfl fun w0 => ?_
  refine t_seq ?_
  refine t_region (F := ⟨_, _, _, _⟩) [.slot 0 (INT x), .slot 1 (INT y)] [] [(0, .box 2 69 [Bz x, Dz x]), (1, .box 3 69 [Bz y, Dz y]), (2, .box 4 100 [Bz 0, Dz 0, Bz 0, Dz 0])] [0, 1] [] rfl rfl follow rfl ⟨
    .inl ⟨wants_plain rfl, does_box _ rfl rfl rfl rfl rfl (ar_tmp (av_fs 0 rfl))⟩,
    .inl ⟨wants_plain rfl, does_box _ rfl rfl rfl rfl rfl (ar_tmp (av_fs 1 rfl))⟩,
    .inl ⟨wants_plain rfl, does_alloc ty_zero_api_Frac rfl rfl rfl rfl rfl z_frac⟩,
    trivial⟩ ?_
  refine nx_sub (fs' := [.box 2 69 [Bz x, Dz x], .box 3 69 [Bz y, Dz y], .box 4 100 [Bz 0, Dz 0, Bz 0, Dz 0]]) [2, 3, 4] rfl ?_
  refine nx_then ?_
  refine t_seq ?_
  refine t_seq ?_
  refine t_region (F := ⟨_, _, _, _⟩) [.box 2 69 [Bz x, Dz x], .box 3 69 [Bz y, Dz y], .box 4 100 [Bz 0, Dz 0, Bz 0, Dz 0]] [] [(0, .slot 6 (INT x)), (1, .slot 7 (VP.bool (decide (x = 0)))), (2, .slot 8 (VP.bool (decide (x = 0)))), (3, .slot 9 (INT y)), (4, .slot 10 (VP.bool (decide (y = 0)))), (5, .slot 11 (VP.bool (decide (y = 0))))] [0, 1, 2] [] rfl rfl follow rfl ⟨
    .inl ⟨wants_plain rfl, does_loadAgg _ ty_agg_api_Int rfl rfl rfl rfl rfl rfl (pt_box (av_fs 0 rfl)) (av_fs 0 rfl)⟩,
    .inl ⟨wants_plain rfl, does_call (f_zero x) rfl hb_collator_frac_zero rfl rfl rfl rfl ⟨(ar_tmp (av_rs 0 rfl rfl)), trivial⟩⟩,
    .inl ⟨wants_plain rfl, does_move _ (.inl rfl) rfl rfl rfl rfl (ar_tmp (av_rs 1 rfl rfl))⟩,
    .inl ⟨wants_guard false rfl rfl rfl (av_bool (decide_eq_false h) (av_rs 2 rfl rfl)), does_loadAgg _ ty_agg_api_Int rfl rfl rfl rfl rfl rfl (pt_box (av_fs 1 rfl)) (av_fs 1 rfl)⟩,
    .inl ⟨wants_guard false rfl rfl rfl (av_bool (decide_eq_false h) (av_rs 2 rfl rfl)), does_call (f_zero y) rfl hb_collator_frac_zero rfl rfl rfl rfl ⟨(ar_tmp (av_rs 3 rfl rfl)), trivial⟩⟩,
    .inl ⟨wants_plain rfl, does_pick false _ _ _ rfl rfl rfl rfl rfl (ar_tmp (av_bool (decide_eq_false h) (av_rs 2 rfl rfl))) (ar_tmp (av_rs 4 rfl rfl))⟩,
    trivial⟩ ?_
  refine nx_sub (fs' := [.box 2 69 [Bz x, Dz x], .box 3 69 [Bz y, Dz y], .box 4 100 [Bz 0, Dz 0, Bz 0, Dz 0], .slot 11 (VP.bool (decide (y = 0)))]) [0, 1, 2, 8] rfl ?_
  refine nx_then ?_
  refine t_cond_fe 3 rfl (decide_eq_false k) ?_
  refine t_skip ?_
  refine nx_then ?_
  refine t_seq ?_
  refine t_region (F := ⟨_, _, _, _⟩) [.box 2 69 [Bz x, Dz x], .box 3 69 [Bz y, Dz y], .box 4 100 [Bz 0, Dz 0, Bz 0, Dz 0], .slot 11 (VP.bool (decide (y = 0)))] [] [(0, .slot 13 (INT x)), (1, .slot 14 (INT y)), (2, .slot 15 (INT (gcdZ x y))), (3, .own 5 69 2), (4, .box 5 69 [Bz (gcdZ x y), Dz (gcdZ x y)])] [0, 1, 2, 3] [] rfl rfl follow rfl ⟨
    .inl ⟨wants_plain rfl, does_loadAgg _ ty_agg_api_Int rfl rfl rfl rfl rfl rfl (pt_box (av_fs 0 rfl)) (av_fs 0 rfl)⟩,
    .inl ⟨wants_plain rfl, does_loadAgg _ ty_agg_api_Int rfl rfl rfl rfl rfl rfl (pt_box (av_fs 1 rfl)) (av_fs 1 rfl)⟩,
    .inl ⟨wants_plain rfl, does_call (s_gcd x y (lle hx (by decide)) (lle hy (by decide))) rfl hb_collator_whole_Gcd rfl rfl rfl rfl ⟨(ar_tmp (av_rs 0 rfl rfl)), (ar_tmp (av_rs 1 rfl rfl)), trivial⟩⟩,
    .inl ⟨wants_plain rfl, does_allocOwn [Bz 0, Dz 0] ty_zero_api_Int rfl rfl rfl rfl rfl z_int rfl⟩,
    .inl ⟨wants_plain rfl, does_storeNew 2 _ _ ty_agg_api_Int rfl rfl rfl rfl rfl (pt_own (av_rs 3 rfl rfl)) (av_rs 3 rfl rfl) (ar_tmp (av_rs 2 rfl rfl))⟩,
    trivial⟩ ?_
  refine nx_sub (fs' := [.box 2 69 [Bz x, Dz x], .box 3 69 [Bz y, Dz y], .box 4 100 [Bz 0, Dz 0, Bz 0, Dz 0], .box 5 69 [Bz (gcdZ x y), Dz (gcdZ x y)]]) [0, 1, 2, 8] rfl ?_
  refine nx_then ?_
  refine t_seq ?_
  refine t_seq ?_
  refine t_region (F := ⟨_, _, _, _⟩) [.box 2 69 [Bz x, Dz x], .box 3 69 [Bz y, Dz y], .box 4 100 [Bz 0, Dz 0, Bz 0, Dz 0], .box 5 69 [Bz (gcdZ x y), Dz (gcdZ x y)]] [] [(0, .fp 16 3 0), (1, .slot 17 (Bz y))] [0, 1, 2, 3] [] rfl rfl follow rfl ⟨
    .inl ⟨wants_plain rfl, does_field _ _ _ 0 ty_f0_api_Int rfl rfl rfl rfl rfl rfl rfl (pt_box (av_fs 1 rfl))⟩,
    .inl ⟨wants_plain rfl, does_loadOne _ ty_one_bool rfl rfl rfl rfl rfl rfl (pt_fp (av_rs 0 rfl rfl)) (av_fs 1 rfl)⟩,
    trivial⟩ ?_
  refine nx_sub (fs' := [.box 2 69 [Bz x, Dz x], .box 3 69 [Bz y, Dz y], .box 4 100 [Bz 0, Dz 0, Bz 0, Dz 0], .box 5 69 [Bz (gcdZ x y), Dz (gcdZ x y)], .slot 17 (Bz y)]) [0, 1, 2, 3, 5] rfl ?_
  refine nx_then ?_
  refine t_cond_fe 4 rfl (decide_eq_false hn) ?_
  refine t_skip ?_
  refine nx_then ?_
  refine t_seq ?_
  refine t_region (F := ⟨_, _, _, _⟩) [.box 3 69 [Bz y, Dz y], .box 4 100 [Bz 0, Dz 0, Bz 0, Dz 0], .box 5 69 [Bz (gcdZ x y), Dz (gcdZ x y)], .slot 17 (Bz y)] [(6, .box 2 69 [Bz x, Dz x])] [(0, .slot 21 (INT x)), (1, .slot 22 (INT (gcdZ x y))), (2, .slot 23 (VP.tup [INT (divZ x (gcdZ x y)), INT (modZ x (gcdZ x y))])), (3, .slot 20 (VP.tup [INT (divZ x (gcdZ x y)), INT (modZ x (gcdZ x y))])), (4, .slot 24 (INT (divZ x (gcdZ x y)))), (5, .slot 25 (INT (modZ x (gcdZ x y)))), (6, .box 2 69 [Bz (divZ x (gcdZ x y)), Dz (divZ x (gcdZ x y))])] [1, 2, 3, 4] [0] rfl rfl follow rfl ⟨
    .inl ⟨wants_plain rfl, does_loadAgg _ ty_agg_api_Int rfl rfl rfl rfl rfl rfl (pt_box (av_os 0 rfl rfl)) (av_os 0 rfl rfl)⟩,
    .inl ⟨wants_plain rfl, does_loadAgg _ ty_agg_api_Int rfl rfl rfl rfl rfl rfl (pt_box (av_fs 2 rfl)) (av_fs 2 rfl)⟩,
    .inl ⟨wants_plain rfl, does_call (s_div x (gcdZ x y) (lle hx (by decide)) (lle (lgcd hx hy) (by decide))) rfl hb_collator_whole_Div rfl rfl rfl rfl ⟨(ar_tmp (av_rs 0 rfl rfl)), (ar_tmp (av_rs 1 rfl rfl)), trivial⟩⟩,
    .inl ⟨wants_plain rfl, does_move _ (.inl rfl) rfl rfl rfl rfl (ar_tmp (av_rs 2 rfl rfl))⟩,
    .inl ⟨wants_plain rfl, does_extract (ps := [INT (divZ x (gcdZ x y)), INT (modZ x (gcdZ x y))]) _ _ rfl rfl rfl rfl rfl (ar_tmp (av_rs 3 rfl rfl)) rfl⟩,
    .inl ⟨wants_plain rfl, does_extract (ps := [INT (divZ x (gcdZ x y)), INT (modZ x (gcdZ x y))]) _ _ rfl rfl rfl rfl rfl (ar_tmp (av_rs 3 rfl rfl)) rfl⟩,
    .inl ⟨wants_plain rfl, does_storeAgg 2 _ _ ty_agg_api_Int rfl rfl rfl rfl rfl (pt_box (av_os 0 rfl rfl)) (av_os 0 rfl rfl) (ar_tmp (av_rs 4 rfl rfl))⟩,
    trivial⟩ ?_
  refine nx_sub (fs' := [.box 3 69 [Bz y, Dz y], .box 4 100 [Bz 0, Dz 0, Bz 0, Dz 0], .box 5 69 [Bz (gcdZ x y), Dz (gcdZ x y)], .box 2 69 [Bz (divZ x (gcdZ x y)), Dz (divZ x (gcdZ x y))]]) [0, 1, 2, 10] rfl ?_
  refine nx_then ?_
  refine t_seq ?_
  refine t_region (F := ⟨_, _, _, _⟩) [.box 4 100 [Bz 0, Dz 0, Bz 0, Dz 0], .box 5 69 [Bz (gcdZ x y), Dz (gcdZ x y)], .box 2 69 [Bz (divZ x (gcdZ x y)), Dz (divZ x (gcdZ x y))]] [(6, .box 3 69 [Bz y, Dz y])] [(0, .slot 27 (INT y)), (1, .slot 28 (INT (gcdZ x y))), (2, .slot 29 (VP.tup [INT (divZ y (gcdZ x y)), INT (modZ y (gcdZ x y))])), (3, .slot 26 (VP.tup [INT (divZ y (gcdZ x y)), INT (modZ y (gcdZ x y))])), (4, .slot 30 (INT (divZ y (gcdZ x y)))), (5, .slot 31 (INT (modZ y (gcdZ x y)))), (6, .box 3 69 [Bz (divZ y (gcdZ x y)), Dz (divZ y (gcdZ x y))])] [1, 2, 3] [0] rfl rfl follow rfl ⟨
    .inl ⟨wants_plain rfl, does_loadAgg _ ty_agg_api_Int rfl rfl rfl rfl rfl rfl (pt_box (av_os 0 rfl rfl)) (av_os 0 rfl rfl)⟩,
    .inl ⟨wants_plain rfl, does_loadAgg _ ty_agg_api_Int rfl rfl rfl rfl rfl rfl (pt_box (av_fs 1 rfl)) (av_fs 1 rfl)⟩,
    .inl ⟨wants_plain rfl, does_call (s_div y (gcdZ x y) (lle hy (by decide)) (lle (lgcd hx hy) (by decide))) rfl hb_collator_whole_Div rfl rfl rfl rfl ⟨(ar_tmp (av_rs 0 rfl rfl)), (ar_tmp (av_rs 1 rfl rfl)), trivial⟩⟩,
    .inl ⟨wants_plain rfl, does_move _ (.inl rfl) rfl rfl rfl rfl (ar_tmp (av_rs 2 rfl rfl))⟩,
    .inl ⟨wants_plain rfl, does_extract (ps := [INT (divZ y (gcdZ x y)), INT (modZ y (gcdZ x y))]) _ _ rfl rfl rfl rfl rfl (ar_tmp (av_rs 3 rfl rfl)) rfl⟩,
    .inl ⟨wants_plain rfl, does_extract (ps := [INT (divZ y (gcdZ x y)), INT (modZ y (gcdZ x y))]) _ _ rfl rfl rfl rfl rfl (ar_tmp (av_rs 3 rfl rfl)) rfl⟩,
    .inl ⟨wants_plain rfl, does_storeAgg 2 _ _ ty_agg_api_Int rfl rfl rfl rfl rfl (pt_box (av_os 0 rfl rfl)) (av_os 0 rfl rfl) (ar_tmp (av_rs 4 rfl rfl))⟩,
    trivial⟩ ?_
  refine nx_sub (fs' := [.box 4 100 [Bz 0, Dz 0, Bz 0, Dz 0], .box 2 69 [Bz (divZ x (gcdZ x y)), Dz (divZ x (gcdZ x y))], .box 3 69 [Bz (divZ y (gcdZ x y)), Dz (divZ y (gcdZ x y))]]) [0, 2, 9] rfl ?_
  refine nx_then ?_
  refine t_seq ?_
  refine t_seq ?_
  refine t_region (F := ⟨_, _, _, _⟩) [.box 4 100 [Bz 0, Dz 0, Bz 0, Dz 0], .box 2 69 [Bz (divZ x (gcdZ x y)), Dz (divZ x (gcdZ x y))], .box 3 69 [Bz (divZ y (gcdZ x y)), Dz (divZ y (gcdZ x y))]] [] [(0, .slot 32 (INT (divZ y (gcdZ x y)))), (1, .slot 33 (INT 1)), (2, .slot 34 (VP.int .i64 (cmpZ (divZ y (gcdZ x y)) 1))), (3, .slot 35 (VP.bool ((cmpZ (divZ y (gcdZ x y)) 1) == 0)))] [0, 1, 2] [] rfl rfl follow rfl ⟨
    .inl ⟨wants_plain rfl, does_loadAgg _ ty_agg_api_Int rfl rfl rfl rfl rfl rfl (pt_box (av_fs 2 rfl)) (av_fs 2 rfl)⟩,
    .inl ⟨wants_plain rfl, does_call (s_of 1 (by decide) (by decide)) rfl hb_collator_whole_Of rfl rfl rfl rfl ⟨(ar_const (fun _ => rfl)), trivial⟩⟩,
    .inl ⟨wants_plain rfl, does_call (s_cmp (divZ y (gcdZ x y)) 1 (lle (ldiv hy) (by decide)) (lle lone (by decide))) rfl hb_collator_whole_Cmp rfl rfl rfl rfl ⟨(ar_tmp (av_rs 0 rfl rfl)), (ar_tmp (av_rs 1 rfl rfl)), trivial⟩⟩,
    .inl ⟨wants_plain rfl, does_cmp (m := (cmpZ (divZ y (gcdZ x y)) 1)) (n := 0) _ _ _ _ _ rfl rfl rfl rfl rfl rfl .i64 (ar_tmp (av_rs 2 rfl rfl)) (ar_const (fun _ => rfl))⟩,
    trivial⟩ ?_
  refine nx_sub (fs' := [.box 4 100 [Bz 0, Dz 0, Bz 0, Dz 0], .box 2 69 [Bz (divZ x (gcdZ x y)), Dz (divZ x (gcdZ x y))], .box 3 69 [Bz (divZ y (gcdZ x y)), Dz (divZ y (gcdZ x y))], .slot 35 (VP.bool ((cmpZ (divZ y (gcdZ x y)) 1) == 0))]) [0, 1, 2, 6] rfl ?_
  refine nx_then ?_
  refine t_cond_te 3 rfl (cmp_one ho) ?_
  refine t_region (F := ⟨_, _, _, _⟩) [.box 4 100 [Bz 0, Dz 0, Bz 0, Dz 0], .box 2 69 [Bz (divZ x (gcdZ x y)), Dz (divZ x (gcdZ x y))], .slot 35 (VP.bool ((cmpZ (divZ y (gcdZ x y)) 1) == 0))] [(1, .box 3 69 [Bz (divZ y (gcdZ x y)), Dz (divZ y (gcdZ x y))])] [(0, .slot 36 (INT 0)), (1, .box 3 69 [Bz 0, Dz 0])] [0, 1, 3] [2] rfl rfl follow rfl ⟨
    .inl ⟨wants_plain rfl, does_build [Bz 0, Dz 0] ty_zero_api_Int ty_pl_api_Int rfl rfl rfl rfl rfl z_int (.nil _)⟩,
    .inl ⟨wants_plain rfl, does_storeAgg 2 _ _ ty_agg_api_Int rfl rfl rfl rfl rfl (pt_box (av_os 0 rfl rfl)) (av_os 0 rfl rfl) (ar_tmp (av_rs 0 rfl rfl))⟩,
    trivial⟩ ?_
  refine nx_sub (fs' := [.box 4 100 [Bz 0, Dz 0, Bz 0, Dz 0], .box 2 69 [Bz (divZ x (gcdZ x y)), Dz (divZ x (gcdZ x y))], .box 3 69 [Bz 0, Dz 0]]) [0, 1, 4] rfl ?_
  refine nx_then ?_
  refine t_seq ?_
  refine t_region (F := ⟨_, _, _, _⟩) [.box 2 69 [Bz (divZ x (gcdZ x y)), Dz (divZ x (gcdZ x y))], .box 3 69 [Bz 0, Dz 0]] [(3, .box 4 100 [Bz 0, Dz 0, Bz 0, Dz 0])] [(0, .slot 37 (INT (divZ x (gcdZ x y)))), (1, .slot 38 (INT 0)), (2, .slot 39 (VP.agg [Bz (divZ x (gcdZ x y)), Dz (divZ x (gcdZ x y)), Bz 0, Dz 0])), (3, .box 4 100 [Bz (divZ x (gcdZ x y)), Dz (divZ x (gcdZ x y)), Bz 0, Dz 0])] [1, 2] [0] rfl rfl follow rfl ⟨
    .inl ⟨wants_plain rfl, does_loadAgg _ ty_agg_api_Int rfl rfl rfl rfl rfl rfl (pt_box (av_fs 0 rfl)) (av_fs 0 rfl)⟩,
    .inl ⟨wants_plain rfl, does_loadAgg _ ty_agg_api_Int rfl rfl rfl rfl rfl rfl (pt_box (av_fs 1 rfl)) (av_fs 1 rfl)⟩,
    .inl ⟨wants_plain rfl, does_build [Bz 0, Dz 0, Bz 0, Dz 0] ty_zero_api_Frac ty_pl_api_Frac rfl rfl rfl rfl rfl z_frac (.cons 0 [Bz (divZ x (gcdZ x y)), Dz (divZ x (gcdZ x y))] rfl rfl (ar_cells_agg (ar_tmp (av_rs 0 rfl rfl))) (.cons 2 [Bz 0, Dz 0] rfl rfl (ar_cells_agg (ar_tmp (av_rs 1 rfl rfl))) (.nil _)))⟩,
    .inl ⟨wants_plain rfl, does_storeAgg 4 _ _ ty_agg_api_Frac rfl rfl rfl rfl rfl (pt_box (av_os 0 rfl rfl)) (av_os 0 rfl rfl) (ar_tmp (av_rs 2 rfl rfl))⟩,
    trivial⟩ ?_
  refine nx_sub (fs' := [.box 4 100 [Bz (divZ x (gcdZ x y)), Dz (divZ x (gcdZ x y)), Bz 0, Dz 0]]) [5] rfl ?_
  refine nx_then ?_
  refine t_ret ?_
  exact rt_one rfl (res_agg 0 ty_agg_api_Frac rfl)
set_option maxRecDepth 100000 in
set_option maxHeartbeats 4000000 in
theorem f_make6 (x y : Int) (hx : L x ≤ 30000) (hy : L y ≤ 30000) (h : x ≠ 0) (k : y ≠ 0) (hn : ¬ y < 0) (ho : (divZ y (gcdZ x y)) ≠ 1) : Spec Try.prog 90 [(INT x).p, (INT y).p] (VP.agg [Bz (divZ x (gcdZ x y)), Dz (divZ x (gcdZ x y)), Bz (divZ y (gcdZ x y)), Dz (divZ y (gcdZ x y))]) := by
  refine spec_of (xs := [INT x, INT y]) 40 [2, 3, 4, 5] Try.func90 rfl Try.ntmps90 rfl fun w0 => ?_
  refine t_seq ?_
  refine t_region (F := ⟨_, _, _, _⟩) [.slot 0 (INT x), .slot 1 (INT y)] [] [(0, .box 2 69 [Bz x, Dz x]), (1, .box 3 69 [Bz y, Dz y]), (2, .box 4 100 [Bz 0, Dz 0, Bz 0, Dz 0])] [0, 1] [] rfl rfl follow rfl ⟨
    .inl ⟨wants_plain rfl, does_box _ rfl rfl rfl rfl rfl (ar_tmp (av_fs 0 rfl))⟩,
    .inl ⟨wants_plain rfl, does_box _ rfl rfl rfl rfl rfl (ar_tmp (av_fs 1 rfl))⟩,
    .inl ⟨wants_plain rfl, does_alloc ty_zero_api_Frac rfl rfl rfl rfl rfl z_frac⟩,
    trivial⟩ ?_
  refine nx_sub (fs' := [.box 2 69 [Bz x, Dz x], .box 3 69 [Bz y, Dz y], .box 4 100 [Bz 0, Dz 0, Bz 0, Dz 0]]) [2, 3, 4] rfl ?_
  refine nx_then ?_
  refine t_seq ?_
  refine t_seq ?_
  refine t_region (F := ⟨_, _, _, _⟩) [.box 2 69 [Bz x, Dz x], .box 3 69 [Bz y, Dz y], .box 4 100 [Bz 0, Dz 0, Bz 0, Dz 0]] [] [(0, .slot 6 (INT x)), (1, .slot 7 (VP.bool (decide (x = 0)))), (2, .slot 8 (VP.bool (decide (x = 0)))), (3, .slot 9 (INT y)), (4, .slot 10 (VP.bool (decide (y = 0)))), (5, .slot 11 (VP.bool (decide (y = 0))))] [0, 1, 2] [] rfl rfl follow rfl ⟨
    .inl ⟨wants_plain rfl, does_loadAgg _ ty_agg_api_Int rfl rfl rfl rfl rfl rfl (pt_box (av_fs 0 rfl)) (av_fs 0 rfl)⟩,
    .inl ⟨wants_plain rfl, does_call (f_zero x) rfl hb_collator_frac_zero rfl rfl rfl rfl ⟨(ar_tmp (av_rs 0 rfl rfl)), trivial⟩⟩,
    .inl ⟨wants_plain rfl, does_move _ (.inl rfl) rfl rfl rfl rfl (ar_tmp (av_rs 1 rfl rfl))⟩,
    .inl ⟨wants_guard false rfl rfl rfl (av_bool (decide_eq_false h) (av_rs 2 rfl rfl)), does_loadAgg _ ty_agg_api_Int rfl rfl rfl rfl rfl rfl (pt_box (av_fs 1 rfl)) (av_fs 1 rfl)⟩,
    .inl ⟨wants_guard false rfl rfl rfl (av_bool (decide_eq_false h) (av_rs 2 rfl rfl)), does_call (f_zero y) rfl hb_collator_frac_zero rfl rfl rfl rfl ⟨(ar_tmp (av_rs 3 rfl rfl)), trivial⟩⟩,
    .inl ⟨wants_plain rfl, does_pick false _ _ _ rfl rfl rfl rfl rfl (ar_tmp (av_bool (decide_eq_false h) (av_rs 2 rfl rfl))) (ar_tmp (av_rs 4 rfl rfl))⟩,
    trivial⟩ ?_
  refine nx_sub (fs' := [.box 2 69 [Bz x, Dz x], .box 3 69 [Bz y, Dz y], .box 4 100 [Bz 0, Dz 0, Bz 0, Dz 0], .slot 11 (VP.bool (decide (y = 0)))]) [0, 1, 2, 8] rfl ?_
  refine nx_then ?_
  refine t_cond_fe 3 rfl (decide_eq_false k) ?_
  refine t_skip ?_
  refine nx_then ?_
  refine t_seq ?_
  refine t_region (F := ⟨_, _, _, _⟩) [.box 2 69 [Bz x, Dz x], .box 3 69 [Bz y, Dz y], .box 4 100 [Bz 0, Dz 0, Bz 0, Dz 0], .slot 11 (VP.bool (decide (y = 0)))] [] [(0, .slot 13 (INT x)), (1, .slot 14 (INT y)), (2, .slot 15 (INT (gcdZ x y))), (3, .own 5 69 2), (4, .box 5 69 [Bz (gcdZ x y), Dz (gcdZ x y)])] [0, 1, 2, 3] [] rfl rfl follow rfl ⟨
    .inl ⟨wants_plain rfl, does_loadAgg _ ty_agg_api_Int rfl rfl rfl rfl rfl rfl (pt_box (av_fs 0 rfl)) (av_fs 0 rfl)⟩,
    .inl ⟨wants_plain rfl, does_loadAgg _ ty_agg_api_Int rfl rfl rfl rfl rfl rfl (pt_box (av_fs 1 rfl)) (av_fs 1 rfl)⟩,
    .inl ⟨wants_plain rfl, does_call (s_gcd x y (lle hx (by decide)) (lle hy (by decide))) rfl hb_collator_whole_Gcd rfl rfl rfl rfl ⟨(ar_tmp (av_rs 0 rfl rfl)), (ar_tmp (av_rs 1 rfl rfl)), trivial⟩⟩,
    .inl ⟨wants_plain rfl, does_allocOwn [Bz 0, Dz 0] ty_zero_api_Int rfl rfl rfl rfl rfl z_int rfl⟩,
    .inl ⟨wants_plain rfl, does_storeNew 2 _ _ ty_agg_api_Int rfl rfl rfl rfl rfl (pt_own (av_rs 3 rfl rfl)) (av_rs 3 rfl rfl) (ar_tmp (av_rs 2 rfl rfl))⟩,
    trivial⟩ ?_
  refine nx_sub (fs' := [.box 2 69 [Bz x, Dz x], .box 3 69 [Bz y, Dz y], .box 4 100 [Bz 0, Dz 0, Bz 0, Dz 0], .box 5 69 [Bz (gcdZ x y), Dz (gcdZ x y)]]) [0, 1, 2, 8] rfl ?_
  refine nx_then ?_
  refine t_seq ?_
  refine t_seq ?_
  refine t_region (F := ⟨_, _, _, _⟩) [.box 2 69 [Bz x, Dz x], .box 3 69 [Bz y, Dz y], .box 4 100 [Bz 0, Dz 0, Bz 0, Dz 0], .box 5 69 [Bz (gcdZ x y), Dz (gcdZ x y)]] [] [(0, .fp 16 3 0), (1, .slot 17 (Bz y))] [0, 1, 2, 3] [] rfl rfl follow rfl ⟨
    .inl ⟨wants_plain rfl, does_field _ _ _ 0 ty_f0_api_Int rfl rfl rfl rfl rfl rfl rfl (pt_box (av_fs 1 rfl))⟩,
    .inl ⟨wants_plain rfl, does_loadOne _ ty_one_bool rfl rfl rfl rfl rfl rfl (pt_fp (av_rs 0 rfl rfl)) (av_fs 1 rfl)⟩,
    trivial⟩ ?_
  refine nx_sub (fs' := [.box 2 69 [Bz x, Dz x], .box 3 69 [Bz y, Dz y], .box 4 100 [Bz 0, Dz 0, Bz 0, Dz 0], .box 5 69 [Bz (gcdZ x y), Dz (gcdZ x y)], .slot 17 (Bz y)]) [0, 1, 2, 3, 5] rfl ?_
  refine nx_then ?_
  refine t_cond_fe 4 rfl (decide_eq_false hn) ?_
  refine t_skip ?_
  refine nx_then ?_
  refine t_seq ?_
  refine t_region (F := ⟨_, _, _, _⟩) [.box 3 69 [Bz y, Dz y], .box 4 100 [Bz 0, Dz 0, Bz 0, Dz 0], .box 5 69 [Bz (gcdZ x y), Dz (gcdZ x y)], .slot 17 (Bz y)] [(6, .box 2 69 [Bz x, Dz x])] [(0, .slot 21 (INT x)), (1, .slot 22 (INT (gcdZ x y))), (2, .slot 23 (VP.tup [INT (divZ x (gcdZ x y)), INT (modZ x (gcdZ x y))])), (3, .slot 20 (VP.tup [INT (divZ x (gcdZ x y)), INT (modZ x (gcdZ x y))])), (4, .slot 24 (INT (divZ x (gcdZ x y)))), (5, .slot 25 (INT (modZ x (gcdZ x y)))), (6, .box 2 69 [Bz (divZ x (gcdZ x y)), Dz (divZ x (gcdZ x y))])] [1, 2, 3, 4] [0] rfl rfl follow rfl ⟨
    .inl ⟨wants_plain rfl, does_loadAgg _ ty_agg_api_Int rfl rfl rfl rfl rfl rfl (pt_box (av_os 0 rfl rfl)) (av_os 0 rfl rfl)⟩,
    .inl ⟨wants_plain rfl, does_loadAgg _ ty_agg_api_Int rfl rfl rfl rfl rfl rfl (pt_box (av_fs 2 rfl)) (av_fs 2 rfl)⟩,
    .inl ⟨wants_plain rfl, does_call (s_div x (gcdZ x y) (lle hx (by decide)) (lle (lgcd hx hy) (by decide))) rfl hb_collator_whole_Div rfl rfl rfl rfl ⟨(ar_tmp (av_rs 0 rfl rfl)), (ar_tmp (av_rs 1 rfl rfl)), trivial⟩⟩,
    .inl ⟨wants_plain rfl, does_move _ (.inl rfl) rfl rfl rfl rfl (ar_tmp (av_rs 2 rfl rfl))⟩,
    .inl ⟨wants_plain rfl, does_extract (ps := [INT (divZ x (gcdZ x y)), INT (modZ x (gcdZ x y))]) _ _ rfl rfl rfl rfl rfl (ar_tmp (av_rs 3 rfl rfl)) rfl⟩,
    .inl ⟨wants_plain rfl, does_extract (ps := [INT (divZ x (gcdZ x y)), INT (modZ x (gcdZ x y))]) _ _ rfl rfl rfl rfl rfl (ar_tmp (av_rs 3 rfl rfl)) rfl⟩,
    .inl ⟨wants_plain rfl, does_storeAgg 2 _ _ ty_agg_api_Int rfl rfl rfl rfl rfl (pt_box (av_os 0 rfl rfl)) (av_os 0 rfl rfl) (ar_tmp (av_rs 4 rfl rfl))⟩,
    trivial⟩ ?_
  refine nx_sub (fs' := [.box 3 69 [Bz y, Dz y], .box 4 100 [Bz 0, Dz 0, Bz 0, Dz 0], .box 5 69 [Bz (gcdZ x y), Dz (gcdZ x y)], .box 2 69 [Bz (divZ x (gcdZ x y)), Dz (divZ x (gcdZ x y))]]) [0, 1, 2, 10] rfl ?_
  refine nx_then ?_
  refine t_seq ?_
  refine t_region (F := ⟨_, _, _, _⟩) [.box 4 100 [Bz 0, Dz 0, Bz 0, Dz 0], .box 5 69 [Bz (gcdZ x y), Dz (gcdZ x y)], .box 2 69 [Bz (divZ x (gcdZ x y)), Dz (divZ x (gcdZ x y))]] [(6, .box 3 69 [Bz y, Dz y])] [(0, .slot 27 (INT y)), (1, .slot 28 (INT (gcdZ x y))), (2, .slot 29 (VP.tup [INT (divZ y (gcdZ x y)), INT (modZ y (gcdZ x y))])), (3, .slot 26 (VP.tup [INT (divZ y (gcdZ x y)), INT (modZ y (gcdZ x y))])), (4, .slot 30 (INT (divZ y (gcdZ x y)))), (5, .slot 31 (INT (modZ y (gcdZ x y)))), (6, .box 3 69 [Bz (divZ y (gcdZ x y)), Dz (divZ y (gcdZ x y))])] [1, 2, 3] [0] rfl rfl follow rfl ⟨
    .inl ⟨wants_plain rfl, does_loadAgg _ ty_agg_api_Int rfl rfl rfl rfl rfl rfl (pt_box (av_os 0 rfl rfl)) (av_os 0 rfl rfl)⟩,
    .inl ⟨wants_plain rfl, does_loadAgg _ ty_agg_api_Int rfl rfl rfl rfl rfl rfl (pt_box (av_fs 1 rfl)) (av_fs 1 rfl)⟩,
    .inl ⟨wants_plain rfl, does_call (s_div y (gcdZ x y) (lle hy (by decide)) (lle (lgcd hx hy) (by decide))) rfl hb_collator_whole_Div rfl rfl rfl rfl ⟨(ar_tmp (av_rs 0 rfl rfl)), (ar_tmp (av_rs 1 rfl rfl)), trivial⟩⟩,
    .inl ⟨wants_plain rfl, does_move _ (.inl rfl) rfl rfl rfl rfl (ar_tmp (av_rs 2 rfl rfl))⟩,
    .inl ⟨wants_plain rfl, does_extract (ps := [INT (divZ y (gcdZ x y)), INT (modZ y (gcdZ x y))]) _ _ rfl rfl rfl rfl rfl (ar_tmp (av_rs 3 rfl rfl)) rfl⟩,
    .inl ⟨wants_plain rfl, does_extract (ps := [INT (divZ y (gcdZ x y)), INT (modZ y (gcdZ x y))]) _ _ rfl rfl rfl rfl rfl (ar_tmp (av_rs 3 rfl rfl)) rfl⟩,
    .inl ⟨wants_plain rfl, does_storeAgg 2 _ _ ty_agg_api_Int rfl rfl rfl rfl rfl (pt_box (av_os 0 rfl rfl)) (av_os 0 rfl rfl) (ar_tmp (av_rs 4 rfl rfl))⟩,
    trivial⟩ ?_
  refine nx_sub (fs' := [.box 4 100 [Bz 0, Dz 0, Bz 0, Dz 0], .box 2 69 [Bz (divZ x (gcdZ x y)), Dz (divZ x (gcdZ x y))], .box 3 69 [Bz (divZ y (gcdZ x y)), Dz (divZ y (gcdZ x y))]]) [0, 2, 9] rfl ?_
  refine nx_then ?_
  refine t_seq ?_
  refine t_seq ?_
  refine t_region (F := ⟨_, _, _, _⟩) [.box 4 100 [Bz 0, Dz 0, Bz 0, Dz 0], .box 2 69 [Bz (divZ x (gcdZ x y)), Dz (divZ x (gcdZ x y))], .box 3 69 [Bz (divZ y (gcdZ x y)), Dz (divZ y (gcdZ x y))]] [] [(0, .slot 32 (INT (divZ y (gcdZ x y)))), (1, .slot 33 (INT 1)), (2, .slot 34 (VP.int .i64 (cmpZ (divZ y (gcdZ x y)) 1))), (3, .slot 35 (VP.bool ((cmpZ (divZ y (gcdZ x y)) 1) == 0)))] [0, 1, 2] [] rfl rfl follow rfl ⟨
    .inl ⟨wants_plain rfl, does_loadAgg _ ty_agg_api_Int rfl rfl rfl rfl rfl rfl (pt_box (av_fs 2 rfl)) (av_fs 2 rfl)⟩,
    .inl ⟨wants_plain rfl, does_call (s_of 1 (by decide) (by decide)) rfl hb_collator_whole_Of rfl rfl rfl rfl ⟨(ar_const (fun _ => rfl)), trivial⟩⟩,
    .inl ⟨wants_plain rfl, does_call (s_cmp (divZ y (gcdZ x y)) 1 (lle (ldiv hy) (by decide)) (lle lone (by decide))) rfl hb_collator_whole_Cmp rfl rfl rfl rfl ⟨(ar_tmp (av_rs 0 rfl rfl)), (ar_tmp (av_rs 1 rfl rfl)), trivial⟩⟩,
    .inl ⟨wants_plain rfl, does_cmp (m := (cmpZ (divZ y (gcdZ x y)) 1)) (n := 0) _ _ _ _ _ rfl rfl rfl rfl rfl rfl .i64 (ar_tmp (av_rs 2 rfl rfl)) (ar_const (fun _ => rfl))⟩,
    trivial⟩ ?_
  refine nx_sub (fs' := [.box 4 100 [Bz 0, Dz 0, Bz 0, Dz 0], .box 2 69 [Bz (divZ x (gcdZ x y)), Dz (divZ x (gcdZ x y))], .box 3 69 [Bz (divZ y (gcdZ x y)), Dz (divZ y (gcdZ x y))], .slot 35 (VP.bool ((cmpZ (divZ y (gcdZ x y)) 1) == 0))]) [0, 1, 2, 6] rfl ?_
  refine nx_then ?_
  refine t_cond_fe 3 rfl (cmp_two ho) ?_
  refine t_skip ?_
  refine nx_then ?_
  refine t_seq ?_
  refine t_region (F := ⟨_, _, _, _⟩) [.box 2 69 [Bz (divZ x (gcdZ x y)), Dz (divZ x (gcdZ x y))], .box 3 69 [Bz (divZ y (gcdZ x y)), Dz (divZ y (gcdZ x y))], .slot 35 (VP.bool ((cmpZ (divZ y (gcdZ x y)) 1) == 0))] [(3, .box 4 100 [Bz 0, Dz 0, Bz 0, Dz 0])] [(0, .slot 37 (INT (divZ x (gcdZ x y)))), (1, .slot 38 (INT (divZ y (gcdZ x y)))), (2, .slot 39 (VP.agg [Bz (divZ x (gcdZ x y)), Dz (divZ x (gcdZ x y)), Bz (divZ y (gcdZ x y)), Dz (divZ y (gcdZ x y))])), (3, .box 4 100 [Bz (divZ x (gcdZ x y)), Dz (divZ x (gcdZ x y)), Bz (divZ y (gcdZ x y)), Dz (divZ y (gcdZ x y))])] [1, 2, 3] [0] rfl rfl follow rfl ⟨
    .inl ⟨wants_plain rfl, does_loadAgg _ ty_agg_api_Int rfl rfl rfl rfl rfl rfl (pt_box (av_fs 0 rfl)) (av_fs 0 rfl)⟩,
    .inl ⟨wants_plain rfl, does_loadAgg _ ty_agg_api_Int rfl rfl rfl rfl rfl rfl (pt_box (av_fs 1 rfl)) (av_fs 1 rfl)⟩,
    .inl ⟨wants_plain rfl, does_build [Bz 0, Dz 0, Bz 0, Dz 0] ty_zero_api_Frac ty_pl_api_Frac rfl rfl rfl rfl rfl z_frac (.cons 0 [Bz (divZ x (gcdZ x y)), Dz (divZ x (gcdZ x y))] rfl rfl (ar_cells_agg (ar_tmp (av_rs 0 rfl rfl))) (.cons 2 [Bz (divZ y (gcdZ x y)), Dz (divZ y (gcdZ x y))] rfl rfl (ar_cells_agg (ar_tmp (av_rs 1 rfl rfl))) (.nil _)))⟩,
    .inl ⟨wants_plain rfl, does_storeAgg 4 _ _ ty_agg_api_Frac rfl rfl rfl rfl rfl (pt_box (av_os 0 rfl rfl)) (av_os 0 rfl rfl) (ar_tmp (av_rs 2 rfl rfl))⟩,
    trivial⟩ ?_
  refine nx_sub (fs' := [.box 4 100 [Bz (divZ x (gcdZ x y)), Dz (divZ x (gcdZ x y)), Bz (divZ y (gcdZ x y)), Dz (divZ y (gcdZ x y))]]) [6] rfl ?_
  refine nx_then ?_
  refine t_ret ?_
  exact rt_one rfl (res_agg 0 ty_agg_api_Frac rfl)
theorem f_make (x y : Int) (hx : L x ≤ 30000) (hy : L y ≤ 30000) : Spec Try.prog 90 [(INT x).p, (INT y).p] (VP.agg [Bz (mkO x y), Dz (mkO x y), Bz (mkU x y), Dz (mkU x y)]) := by
  by_cases h : x = 0
  · rw [show mkO x y = 0 from if_pos (.inl h), show mkU x y = 0 from if_pos (.inl h)]; exact f_make1 x y hx hy h
  · by_cases k : y = 0
    · rw [show mkO x y = 0 from if_pos (.inr k), show mkU x y = 0 from if_pos (.inr k)]; exact f_make2 x y hx hy h k
    · have hxy : ¬ (x = 0 ∨ y = 0) := by omega
      by_cases hn : y < 0
      · have e1 : mkO x y = divZ x (-gcdZ x y) := by unfold mkO; rw [if_neg hxy, if_pos hn]
        have e2 : mkD x y = divZ y (-gcdZ x y) := by unfold mkD; rw [if_pos hn]
        by_cases ho : mkD x y = 1
        · rw [e1, show mkU x y = 0 from by unfold mkU; rw [if_neg hxy, if_pos ho]]; exact f_make3 x y hx hy h k hn (by rw [← e2]; exact ho)
        · rw [e1, show mkU x y = divZ y (-gcdZ x y) from by unfold mkU; rw [if_neg hxy, if_neg ho, e2]]; exact f_make4 x y hx hy h k hn (by rw [← e2]; exact ho)
      · have e1 : mkO x y = divZ x (gcdZ x y) := by unfold mkO; rw [if_neg hxy, if_neg hn]
        have e2 : mkD x y = divZ y (gcdZ x y) := by unfold mkD; rw [if_neg hn]
        by_cases ho : mkD x y = 1
        · rw [e1, show mkU x y = 0 from by unfold mkU; rw [if_neg hxy, if_pos ho]]; exact f_make5 x y hx hy h k hn (by rw [← e2]; exact ho)
        · rw [e1, show mkU x y = divZ y (gcdZ x y) from by unfold mkU; rw [if_neg hxy, if_neg ho, e2]]; exact f_make6 x y hx hy h k hn (by rw [← e2]; exact ho)
set_option maxRecDepth 100000 in
set_option maxHeartbeats 4000000 in
theorem f_of (p : Int) (hp : L p ≤ 1000) : Spec Try.prog 77 [(INT p).p] (VP.agg [Bz (mkO p 1), Dz (mkO p 1), Bz (mkU p 1), Dz (mkU p 1)]) := by
  refine spec_of (xs := [INT p]) 6 [1, 2] Try.func77 rfl Try.ntmps77 rfl fun w0 => ?_
  refine t_seq ?_
  refine t_region (F := ⟨_, _, _, _⟩) [.slot 0 (INT p)] [] [(0, .box 1 69 [Bz p, Dz p]), (1, .box 2 100 [Bz 0, Dz 0, Bz 0, Dz 0])] [0] [] rfl rfl follow rfl ⟨
    .inl ⟨wants_plain rfl, does_box _ rfl rfl rfl rfl rfl (ar_tmp (av_fs 0 rfl))⟩,
    .inl ⟨wants_plain rfl, does_alloc ty_zero_api_Frac rfl rfl rfl rfl rfl z_frac⟩,
    trivial⟩ ?_
  refine nx_sub (fs' := [.box 1 69 [Bz p, Dz p], .box 2 100 [Bz 0, Dz 0, Bz 0, Dz 0]]) [1, 2] rfl ?_
  refine nx_then ?_
  refine t_seq ?_
  refine t_region (F := ⟨_, _, _, _⟩) [.box 1 69 [Bz p, Dz p]] [(3, .box 2 100 [Bz 0, Dz 0, Bz 0, Dz 0])] [(0, .slot 3 (INT p)), (1, .slot 4 (INT 1)), (2, .slot 5 (VP.agg [Bz (mkO p 1), Dz (mkO p 1), Bz (mkU p 1), Dz (mkU p 1)])), (3, .box 2 100 [Bz (mkO p 1), Dz (mkO p 1), Bz (mkU p 1), Dz (mkU p 1)])] [0] [1] rfl rfl follow rfl ⟨
    .inl ⟨wants_plain rfl, does_loadAgg _ ty_agg_api_Int rfl rfl rfl rfl rfl rfl (pt_box (av_fs 0 rfl)) (av_fs 0 rfl)⟩,
    .inl ⟨wants_plain rfl, does_call (s_of 1 (by decide) (by decide)) rfl hb_collator_whole_Of rfl rfl rfl rfl ⟨(ar_const (fun _ => rfl)), trivial⟩⟩,
    .inl ⟨wants_plain rfl, does_call (f_make p 1 (lle hp (by decide)) (lle lone (by decide))) rfl hb_collator_frac_Make rfl rfl rfl rfl ⟨(ar_tmp (av_rs 0 rfl rfl)), (ar_tmp (av_rs 1 rfl rfl)), trivial⟩⟩,
    .inl ⟨wants_plain rfl, does_storeAgg 4 _ _ ty_agg_api_Frac rfl rfl rfl rfl rfl (pt_box (av_os 0 rfl rfl)) (av_os 0 rfl rfl) (ar_tmp (av_rs 2 rfl rfl))⟩,
    trivial⟩ ?_
  refine nx_sub (fs' := [.box 2 100 [Bz (mkO p 1), Dz (mkO p 1), Bz (mkU p 1), Dz (mkU p 1)]]) [4] rfl ?_
  refine nx_then ?_
  refine t_ret ?_
  exact rt_one rfl (res_agg 0 ty_agg_api_Frac rfl)
set_option maxRecDepth 100000 in
set_option maxHeartbeats 4000000 in
theorem f_cross (p q r s : Int) (hp : L p ≤ 1000) (hq : L q ≤ 1000) (hr : L r ≤ 1000) (hs : L s ≤ 1000) : Spec Try.prog 133 [(VP.agg [Bz p, Dz p, Bz q, Dz q]).p, (VP.agg [Bz r, Dz r, Bz s, Dz s]).p] (VP.tup [INT (p * (und s)), INT (r * (und q)), INT ((und q) * (und s))]) := by
  refine spec_of (xs := [VP.agg [Bz p, Dz p, Bz q, Dz q], VP.agg [Bz r, Dz r, Bz s, Dz s]]) 22 [2, 3, 4, 5, 6] Try.func133 rfl Try.ntmps133 rfl fun w0 => ?_
  refine t_seq ?_
  refine t_region (F := ⟨_, _, _, _⟩) [.slot 0 (VP.agg [Bz p, Dz p, Bz q, Dz q]), .slot 1 (VP.agg [Bz r, Dz r, Bz s, Dz s])] [] [(0, .box 2 100 [Bz p, Dz p, Bz q, Dz q]), (1, .box 3 100 [Bz r, Dz r, Bz s, Dz s]), (2, .box 4 69 [Bz 0, Dz 0]), (3, .box 5 69 [Bz 0, Dz 0]), (4, .box 6 69 [Bz 0, Dz 0])] [0, 1] [] rfl rfl follow rfl ⟨
    .inl ⟨wants_plain rfl, does_box _ rfl rfl rfl rfl rfl (ar_tmp (av_fs 0 rfl))⟩,
    .inl ⟨wants_plain rfl, does_box _ rfl rfl rfl rfl rfl (ar_tmp (av_fs 1 rfl))⟩,
    .inl ⟨wants_plain rfl, does_alloc ty_zero_api_Int rfl rfl rfl rfl rfl z_int⟩,
    .inl ⟨wants_plain rfl, does_alloc ty_zero_api_Int rfl rfl rfl rfl rfl z_int⟩,
    .inl ⟨wants_plain rfl, does_alloc ty_zero_api_Int rfl rfl rfl rfl rfl z_int⟩,
    trivial⟩ ?_
  refine nx_sub (fs' := [.box 2 100 [Bz p, Dz p, Bz q, Dz q], .box 3 100 [Bz r, Dz r, Bz s, Dz s], .box 4 69 [Bz 0, Dz 0], .box 5 69 [Bz 0, Dz 0], .box 6 69 [Bz 0, Dz 0]]) [2, 3, 4, 5, 6] rfl ?_
  refine nx_then ?_
  refine t_seq ?_
  refine t_region (F := ⟨_, _, _, _⟩) [.box 2 100 [Bz p, Dz p, Bz q, Dz q], .box 3 100 [Bz r, Dz r, Bz s, Dz s]] [(15, .box 4 69 [Bz 0, Dz 0]), (16, .box 5 69 [Bz 0, Dz 0]), (17, .box 6 69 [Bz 0, Dz 0])] [(0, .fp 7 2 0), (1, .slot 8 (INT p)), (2, .slot 9 (VP.agg [Bz r, Dz r, Bz s, Dz s])), (3, .slot 10 (INT (und s))), (4, .slot 11 (INT (p * (und s)))), (5, .fp 12 3 0), (6, .slot 13 (INT r)), (7, .slot 14 (VP.agg [Bz p, Dz p, Bz q, Dz q])), (8, .slot 15 (INT (und q))), (9, .slot 16 (INT (r * (und q)))), (10, .slot 17 (VP.agg [Bz p, Dz p, Bz q, Dz q])), (11, .slot 18 (INT (und q))), (12, .slot 19 (VP.agg [Bz r, Dz r, Bz s, Dz s])), (13, .slot 20 (INT (und s))), (14, .slot 21 (INT ((und q) * (und s)))), (15, .box 4 69 [Bz (p * (und s)), Dz (p * (und s))]), (16, .box 5 69 [Bz (r * (und q)), Dz (r * (und q))]), (17, .box 6 69 [Bz ((und q) * (und s)), Dz ((und q) * (und s))])] [0, 1] [2, 3, 4] rfl rfl follow rfl ⟨
    .inl ⟨wants_plain rfl, does_field _ _ _ 0 ty_f0_api_Frac rfl rfl rfl rfl rfl rfl rfl (pt_box (av_fs 0 rfl))⟩,
    .inl ⟨wants_plain rfl, does_loadAgg _ ty_agg_api_Int rfl rfl rfl rfl rfl rfl (pt_fp (av_rs 0 rfl rfl)) (av_fs 0 rfl)⟩,
    .inl ⟨wants_plain rfl, does_loadAgg _ ty_agg_api_Frac rfl rfl rfl rfl rfl rfl (pt_box (av_fs 1 rfl)) (av_fs 1 rfl)⟩,
    .inl ⟨wants_plain rfl, does_call (f_under r s hr hs) rfl hb_collator_frac_under rfl rfl rfl rfl ⟨(ar_tmp (av_rs 2 rfl rfl)), trivial⟩⟩,
    .inl ⟨wants_plain rfl, does_call (s_mul p (und s) (lle hp (by decide)) (lle (lund hs (by decide)) (by decide))) rfl hb_collator_whole_Mul rfl rfl rfl rfl ⟨(ar_tmp (av_rs 1 rfl rfl)), (ar_tmp (av_rs 3 rfl rfl)), trivial⟩⟩,
    .inl ⟨wants_plain rfl, does_field _ _ _ 0 ty_f0_api_Frac rfl rfl rfl rfl rfl rfl rfl (pt_box (av_fs 1 rfl))⟩,
    .inl ⟨wants_plain rfl, does_loadAgg _ ty_agg_api_Int rfl rfl rfl rfl rfl rfl (pt_fp (av_rs 5 rfl rfl)) (av_fs 1 rfl)⟩,
    .inl ⟨wants_plain rfl, does_loadAgg _ ty_agg_api_Frac rfl rfl rfl rfl rfl rfl (pt_box (av_fs 0 rfl)) (av_fs 0 rfl)⟩,
    .inl ⟨wants_plain rfl, does_call (f_under p q hp hq) rfl hb_collator_frac_under rfl rfl rfl rfl ⟨(ar_tmp (av_rs 7 rfl rfl)), trivial⟩⟩,
    .inl ⟨wants_plain rfl, does_call (s_mul r (und q) (lle hr (by decide)) (lle (lund hq (by decide)) (by decide))) rfl hb_collator_whole_Mul rfl rfl rfl rfl ⟨(ar_tmp (av_rs 6 rfl rfl)), (ar_tmp (av_rs 8 rfl rfl)), trivial⟩⟩,
    .inl ⟨wants_plain rfl, does_loadAgg _ ty_agg_api_Frac rfl rfl rfl rfl rfl rfl (pt_box (av_fs 0 rfl)) (av_fs 0 rfl)⟩,
    .inl ⟨wants_plain rfl, does_call (f_under p q hp hq) rfl hb_collator_frac_under rfl rfl rfl rfl ⟨(ar_tmp (av_rs 10 rfl rfl)), trivial⟩⟩,
    .inl ⟨wants_plain rfl, does_loadAgg _ ty_agg_api_Frac rfl rfl rfl rfl rfl rfl (pt_box (av_fs 1 rfl)) (av_fs 1 rfl)⟩,
    .inl ⟨wants_plain rfl, does_call (f_under r s hr hs) rfl hb_collator_frac_under rfl rfl rfl rfl ⟨(ar_tmp (av_rs 12 rfl rfl)), trivial⟩⟩,
    .inl ⟨wants_plain rfl, does_call (s_mul (und q) (und s) (lle (lund hq (by decide)) (by decide)) (lle (lund hs (by decide)) (by decide))) rfl hb_collator_whole_Mul rfl rfl rfl rfl ⟨(ar_tmp (av_rs 11 rfl rfl)), (ar_tmp (av_rs 13 rfl rfl)), trivial⟩⟩,
    .inl ⟨wants_plain rfl, does_storeAgg 2 _ _ ty_agg_api_Int rfl rfl rfl rfl rfl (pt_box (av_os 0 rfl rfl)) (av_os 0 rfl rfl) (ar_tmp (av_rs 4 rfl rfl))⟩,
    .inl ⟨wants_plain rfl, does_storeAgg 2 _ _ ty_agg_api_Int rfl rfl rfl rfl rfl (pt_box (av_os 1 rfl rfl)) (av_os 1 rfl rfl) (ar_tmp (av_rs 9 rfl rfl))⟩,
    .inl ⟨wants_plain rfl, does_storeAgg 2 _ _ ty_agg_api_Int rfl rfl rfl rfl rfl (pt_box (av_os 2 rfl rfl)) (av_os 2 rfl rfl) (ar_tmp (av_rs 14 rfl rfl))⟩,
    trivial⟩ ?_
  refine nx_sub (fs' := [.box 4 69 [Bz (p * (und s)), Dz (p * (und s))], .box 5 69 [Bz (r * (und q)), Dz (r * (und q))], .box 6 69 [Bz ((und q) * (und s)), Dz ((und q) * (und s))]]) [17, 18, 19] rfl ?_
  refine nx_then ?_
  refine t_ret ?_
  exact rt_three rfl (res_agg 0 ty_agg_api_Int rfl) (res_agg 1 ty_agg_api_Int rfl) (res_agg 2 ty_agg_api_Int rfl)
set_option maxRecDepth 100000 in
set_option maxHeartbeats 4000000 in
theorem f_add (p q r s : Int) (hp : L p ≤ 1000) (hq : L q ≤ 1000) (hr : L r ≤ 1000) (hs : L s ≤ 1000) : Spec Try.prog 96 [(VP.agg [Bz p, Dz p, Bz q, Dz q]).p, (VP.agg [Bz r, Dz r, Bz s, Dz s]).p] (VP.agg [Bz (mkO ((p * (und s)) + (r * (und q))) ((und q) * (und s))), Dz (mkO ((p * (und s)) + (r * (und q))) ((und q) * (und s))), Bz (mkU ((p * (und s)) + (r * (und q))) ((und q) * (und s))), Dz (mkU ((p * (und s)) + (r * (und q))) ((und q) * (und s)))]) := by
  refine spec_of (xs := [VP.agg [Bz p, Dz p, Bz q, Dz q], VP.agg [Bz r, Dz r, Bz s, Dz s]]) 20 [2, 3, 4, 5, 6, 7] Try.func96 rfl Try.ntmps96 rfl fun w0 => ?_
  refine t_seq ?_
  refine t_region (F := ⟨_, _, _, _⟩) [.slot 0 (VP.agg [Bz p, Dz p, Bz q, Dz q]), .slot 1 (VP.agg [Bz r, Dz r, Bz s, Dz s])] [] [(0, .box 2 100 [Bz p, Dz p, Bz q, Dz q]), (1, .box 3 100 [Bz r, Dz r, Bz s, Dz s]), (2, .box 4 100 [Bz 0, Dz 0, Bz 0, Dz 0])] [0, 1] [] rfl rfl follow rfl ⟨
    .inl ⟨wants_plain rfl, does_box _ rfl rfl rfl rfl rfl (ar_tmp (av_fs 0 rfl))⟩,
    .inl ⟨wants_plain rfl, does_box _ rfl rfl rfl rfl rfl (ar_tmp (av_fs 1 rfl))⟩,
    .inl ⟨wants_plain rfl, does_alloc ty_zero_api_Frac rfl rfl rfl rfl rfl z_frac⟩,
    trivial⟩ ?_
  refine nx_sub (fs' := [.box 2 100 [Bz p, Dz p, Bz q, Dz q], .box 3 100 [Bz r, Dz r, Bz s, Dz s], .box 4 100 [Bz 0, Dz 0, Bz 0, Dz 0]]) [2, 3, 4] rfl ?_
  refine nx_then ?_
  refine t_seq ?_
  refine t_region (F := ⟨_, _, _, _⟩) [.box 2 100 [Bz p, Dz p, Bz q, Dz q], .box 3 100 [Bz r, Dz r, Bz s, Dz s], .box 4 100 [Bz 0, Dz 0, Bz 0, Dz 0]] [] [(0, .slot 9 (VP.agg [Bz p, Dz p, Bz q, Dz q])), (1, .slot 10 (VP.agg [Bz r, Dz r, Bz s, Dz s])), (2, .slot 11 (VP.tup [INT (p * (und s)), INT (r * (und q)), INT ((und q) * (und s))])), (3, .slot 8 (VP.tup [INT (p * (und s)), INT (r * (und q)), INT ((und q) * (und s))])), (4, .slot 12 (INT (p * (und s)))), (5, .slot 13 (INT (r * (und q)))), (6, .slot 14 (INT ((und q) * (und s)))), (7, .own 5 69 2), (8, .own 6 69 2), (9, .own 7 69 2), (10, .box 5 69 [Bz (p * (und s)), Dz (p * (und s))]), (11, .box 6 69 [Bz (r * (und q)), Dz (r * (und q))]), (12, .box 7 69 [Bz ((und q) * (und s)), Dz ((und q) * (und s))])] [0, 1, 2] [] rfl rfl follow rfl ⟨
    .inl ⟨wants_plain rfl, does_loadAgg _ ty_agg_api_Frac rfl rfl rfl rfl rfl rfl (pt_box (av_fs 0 rfl)) (av_fs 0 rfl)⟩,
    .inl ⟨wants_plain rfl, does_loadAgg _ ty_agg_api_Frac rfl rfl rfl rfl rfl rfl (pt_box (av_fs 1 rfl)) (av_fs 1 rfl)⟩,
    .inl ⟨wants_plain rfl, does_call (f_cross p q r s hp hq hr hs) rfl hb_collator_frac_cross rfl rfl rfl rfl ⟨(ar_tmp (av_rs 0 rfl rfl)), (ar_tmp (av_rs 1 rfl rfl)), trivial⟩⟩,
    .inl ⟨wants_plain rfl, does_move _ (.inl rfl) rfl rfl rfl rfl (ar_tmp (av_rs 2 rfl rfl))⟩,
    .inl ⟨wants_plain rfl, does_extract (ps := [INT (p * (und s)), INT (r * (und q)), INT ((und q) * (und s))]) _ _ rfl rfl rfl rfl rfl (ar_tmp (av_rs 3 rfl rfl)) rfl⟩,
    .inl ⟨wants_plain rfl, does_extract (ps := [INT (p * (und s)), INT (r * (und q)), INT ((und q) * (und s))]) _ _ rfl rfl rfl rfl rfl (ar_tmp (av_rs 3 rfl rfl)) rfl⟩,
    .inl ⟨wants_plain rfl, does_extract (ps := [INT (p * (und s)), INT (r * (und q)), INT ((und q) * (und s))]) _ _ rfl rfl rfl rfl rfl (ar_tmp (av_rs 3 rfl rfl)) rfl⟩,
    .inl ⟨wants_plain rfl, does_allocOwn [Bz 0, Dz 0] ty_zero_api_Int rfl rfl rfl rfl rfl z_int rfl⟩,
    .inl ⟨wants_plain rfl, does_allocOwn [Bz 0, Dz 0] ty_zero_api_Int rfl rfl rfl rfl rfl z_int rfl⟩,
    .inl ⟨wants_plain rfl, does_allocOwn [Bz 0, Dz 0] ty_zero_api_Int rfl rfl rfl rfl rfl z_int rfl⟩,
    .inl ⟨wants_plain rfl, does_storeNew 2 _ _ ty_agg_api_Int rfl rfl rfl rfl rfl (pt_own (av_rs 7 rfl rfl)) (av_rs 7 rfl rfl) (ar_tmp (av_rs 4 rfl rfl))⟩,
    .inl ⟨wants_plain rfl, does_storeNew 2 _ _ ty_agg_api_Int rfl rfl rfl rfl rfl (pt_own (av_rs 8 rfl rfl)) (av_rs 8 rfl rfl) (ar_tmp (av_rs 5 rfl rfl))⟩,
    .inl ⟨wants_plain rfl, does_storeNew 2 _ _ ty_agg_api_Int rfl rfl rfl rfl rfl (pt_own (av_rs 9 rfl rfl)) (av_rs 9 rfl rfl) (ar_tmp (av_rs 6 rfl rfl))⟩,
    trivial⟩ ?_
  refine nx_sub (fs' := [.box 4 100 [Bz 0, Dz 0, Bz 0, Dz 0], .box 5 69 [Bz (p * (und s)), Dz (p * (und s))], .box 6 69 [Bz (r * (und q)), Dz (r * (und q))], .box 7 69 [Bz ((und q) * (und s)), Dz ((und q) * (und s))]]) [2, 13, 14, 15] rfl ?_
  refine nx_then ?_
  refine t_seq ?_
  refine t_region (F := ⟨_, _, _, _⟩) [.box 5 69 [Bz (p * (und s)), Dz (p * (und s))], .box 6 69 [Bz (r * (und q)), Dz (r * (und q))], .box 7 69 [Bz ((und q) * (und s)), Dz ((und q) * (und s))]] [(5, .box 4 100 [Bz 0, Dz 0, Bz 0, Dz 0])] [(0, .slot 15 (INT (p * (und s)))), (1, .slot 16 (INT (r * (und q)))), (2, .slot 17 (INT ((p * (und s)) + (r * (und q))))), (3, .slot 18 (INT ((und q) * (und s)))), (4, .slot 19 (VP.agg [Bz (mkO ((p * (und s)) + (r * (und q))) ((und q) * (und s))), Dz (mkO ((p * (und s)) + (r * (und q))) ((und q) * (und s))), Bz (mkU ((p * (und s)) + (r * (und q))) ((und q) * (und s))), Dz (mkU ((p * (und s)) + (r * (und q))) ((und q) * (und s)))])), (5, .box 4 100 [Bz (mkO ((p * (und s)) + (r * (und q))) ((und q) * (und s))), Dz (mkO ((p * (und s)) + (r * (und q))) ((und q) * (und s))), Bz (mkU ((p * (und s)) + (r * (und q))) ((und q) * (und s))), Dz (mkU ((p * (und s)) + (r * (und q))) ((und q) * (und s)))])] [1, 2, 3] [0] rfl rfl follow rfl ⟨
    .inl ⟨wants_plain rfl, does_loadAgg _ ty_agg_api_Int rfl rfl rfl rfl rfl rfl (pt_box (av_fs 0 rfl)) (av_fs 0 rfl)⟩,
    .inl ⟨wants_plain rfl, does_loadAgg _ ty_agg_api_Int rfl rfl rfl rfl rfl rfl (pt_box (av_fs 1 rfl)) (av_fs 1 rfl)⟩,
    .inl ⟨wants_plain rfl, does_call (s_add (p * (und s)) (r * (und q)) (lle (lmul hp (lund hs (by decide))) (by decide)) (lle (lmul hr (lund hq (by decide))) (by decide))) rfl hb_collator_whole_Add rfl rfl rfl rfl ⟨(ar_tmp (av_rs 0 rfl rfl)), (ar_tmp (av_rs 1 rfl rfl)), trivial⟩⟩,
    .inl ⟨wants_plain rfl, does_loadAgg _ ty_agg_api_Int rfl rfl rfl rfl rfl rfl (pt_box (av_fs 2 rfl)) (av_fs 2 rfl)⟩,
    .inl ⟨wants_plain rfl, does_call (f_make ((p * (und s)) + (r * (und q))) ((und q) * (und s)) (lle (ladd (lmul hp (lund hs (by decide))) (lmul hr (lund hq (by decide)))) (by decide)) (lle (lmul (lund hq (by decide)) (lund hs (by decide))) (by decide))) rfl hb_collator_frac_Make rfl rfl rfl rfl ⟨(ar_tmp (av_rs 2 rfl rfl)), (ar_tmp (av_rs 3 rfl rfl)), trivial⟩⟩,
    .inl ⟨wants_plain rfl, does_storeAgg 4 _ _ ty_agg_api_Frac rfl rfl rfl rfl rfl (pt_box (av_os 0 rfl rfl)) (av_os 0 rfl rfl) (ar_tmp (av_rs 4 rfl rfl))⟩,
    trivial⟩ ?_
  refine nx_sub (fs' := [.box 4 100 [Bz (mkO ((p * (und s)) + (r * (und q))) ((und q) * (und s))), Dz (mkO ((p * (und s)) + (r * (und q))) ((und q) * (und s))), Bz (mkU ((p * (und s)) + (r * (und q))) ((und q) * (und s))), Dz (mkU ((p * (und s)) + (r * (und q))) ((und q) * (und s)))]]) [8] rfl ?_
  refine nx_then ?_
  refine t_ret ?_
  exact rt_one rfl (res_agg 0 ty_agg_api_Frac rfl)
set_option maxRecDepth 100000 in
set_option maxHeartbeats 4000000 in
theorem f_mul (p q r s : Int) (hp : L p ≤ 1000) (hq : L q ≤ 1000) (hr : L r ≤ 1000) (hs : L s ≤ 1000) : Spec Try.prog 75 [(VP.agg [Bz p, Dz p, Bz q, Dz q]).p, (VP.agg [Bz r, Dz r, Bz s, Dz s]).p] (VP.agg [Bz (mkO (p * r) ((und q) * (und s))), Dz (mkO (p * r) ((und q) * (und s))), Bz (mkU (p * r) ((und q) * (und s))), Dz (mkU (p * r) ((und q) * (und s)))]) := by
  refine spec_of (xs := [VP.agg [Bz p, Dz p, Bz q, Dz q], VP.agg [Bz r, Dz r, Bz s, Dz s]]) 16 [2, 3, 4] Try.func75 rfl Try.ntmps75 rfl fun w0 => ?_
  refine t_seq ?_
  refine t_region (F := ⟨_, _, _, _⟩) [.slot 0 (VP.agg [Bz p, Dz p, Bz q, Dz q]), .slot 1 (VP.agg [Bz r, Dz r, Bz s, Dz s])] [] [(0, .box 2 100 [Bz p, Dz p, Bz q, Dz q]), (1, .box 3 100 [Bz r, Dz r, Bz s, Dz s]), (2, .box 4 100 [Bz 0, Dz 0, Bz 0, Dz 0])] [0, 1] [] rfl rfl follow rfl ⟨
    .inl ⟨wants_plain rfl, does_box _ rfl rfl rfl rfl rfl (ar_tmp (av_fs 0 rfl))⟩,
    .inl ⟨wants_plain rfl, does_box _ rfl rfl rfl rfl rfl (ar_tmp (av_fs 1 rfl))⟩,
    .inl ⟨wants_plain rfl, does_alloc ty_zero_api_Frac rfl rfl rfl rfl rfl z_frac⟩,
    trivial⟩ ?_
  refine nx_sub (fs' := [.box 2 100 [Bz p, Dz p, Bz q, Dz q], .box 3 100 [Bz r, Dz r, Bz s, Dz s], .box 4 100 [Bz 0, Dz 0, Bz 0, Dz 0]]) [2, 3, 4] rfl ?_
  refine nx_then ?_
  refine t_seq ?_
  refine t_region (F := ⟨_, _, _, _⟩) [.box 2 100 [Bz p, Dz p, Bz q, Dz q], .box 3 100 [Bz r, Dz r, Bz s, Dz s]] [(11, .box 4 100 [Bz 0, Dz 0, Bz 0, Dz 0])] [(0, .fp 5 2 0), (1, .slot 6 (INT p)), (2, .fp 7 3 0), (3, .slot 8 (INT r)), (4, .slot 9 (INT (p * r))), (5, .slot 10 (VP.agg [Bz p, Dz p, Bz q, Dz q])), (6, .slot 11 (INT (und q))), (7, .slot 12 (VP.agg [Bz r, Dz r, Bz s, Dz s])), (8, .slot 13 (INT (und s))), (9, .slot 14 (INT ((und q) * (und s)))), (10, .slot 15 (VP.agg [Bz (mkO (p * r) ((und q) * (und s))), Dz (mkO (p * r) ((und q) * (und s))), Bz (mkU (p * r) ((und q) * (und s))), Dz (mkU (p * r) ((und q) * (und s)))])), (11, .box 4 100 [Bz (mkO (p * r) ((und q) * (und s))), Dz (mkO (p * r) ((und q) * (und s))), Bz (mkU (p * r) ((und q) * (und s))), Dz (mkU (p * r) ((und q) * (und s)))])] [0, 1] [2] rfl rfl follow rfl ⟨
    .inl ⟨wants_plain rfl, does_field _ _ _ 0 ty_f0_api_Frac rfl rfl rfl rfl rfl rfl rfl (pt_box (av_fs 0 rfl))⟩,
    .inl ⟨wants_plain rfl, does_loadAgg _ ty_agg_api_Int rfl rfl rfl rfl rfl rfl (pt_fp (av_rs 0 rfl rfl)) (av_fs 0 rfl)⟩,
    .inl ⟨wants_plain rfl, does_field _ _ _ 0 ty_f0_api_Frac rfl rfl rfl rfl rfl rfl rfl (pt_box (av_fs 1 rfl))⟩,
    .inl ⟨wants_plain rfl, does_loadAgg _ ty_agg_api_Int rfl rfl rfl rfl rfl rfl (pt_fp (av_rs 2 rfl rfl)) (av_fs 1 rfl)⟩,
    .inl ⟨wants_plain rfl, does_call (s_mul p r (lle hp (by decide)) (lle hr (by decide))) rfl hb_collator_whole_Mul rfl rfl rfl rfl ⟨(ar_tmp (av_rs 1 rfl rfl)), (ar_tmp (av_rs 3 rfl rfl)), trivial⟩⟩,
    .inl ⟨wants_plain rfl, does_loadAgg _ ty_agg_api_Frac rfl rfl rfl rfl rfl rfl (pt_box (av_fs 0 rfl)) (av_fs 0 rfl)⟩,
    .inl ⟨wants_plain rfl, does_call (f_under p q hp hq) rfl hb_collator_frac_under rfl rfl rfl rfl ⟨(ar_tmp (av_rs 5 rfl rfl)), trivial⟩⟩,
    .inl ⟨wants_plain rfl, does_loadAgg _ ty_agg_api_Frac rfl rfl rfl rfl rfl rfl (pt_box (av_fs 1 rfl)) (av_fs 1 rfl)⟩,
    .inl ⟨wants_plain rfl, does_call (f_under r s hr hs) rfl hb_collator_frac_under rfl rfl rfl rfl ⟨(ar_tmp (av_rs 7 rfl rfl)), trivial⟩⟩,
    .inl ⟨wants_plain rfl, does_call (s_mul (und q) (und s) (lle (lund hq (by decide)) (by decide)) (lle (lund hs (by decide)) (by decide))) rfl hb_collator_whole_Mul rfl rfl rfl rfl ⟨(ar_tmp (av_rs 6 rfl rfl)), (ar_tmp (av_rs 8 rfl rfl)), trivial⟩⟩,
    .inl ⟨wants_plain rfl, does_call (f_make (p * r) ((und q) * (und s)) (lle (lmul hp hr) (by decide)) (lle (lmul (lund hq (by decide)) (lund hs (by decide))) (by decide))) rfl hb_collator_frac_Make rfl rfl rfl rfl ⟨(ar_tmp (av_rs 4 rfl rfl)), (ar_tmp (av_rs 9 rfl rfl)), trivial⟩⟩,
    .inl ⟨wants_plain rfl, does_storeAgg 4 _ _ ty_agg_api_Frac rfl rfl rfl rfl rfl (pt_box (av_os 0 rfl rfl)) (av_os 0 rfl rfl) (ar_tmp (av_rs 10 rfl rfl))⟩,
    trivial⟩ ?_
  refine nx_sub (fs' := [.box 4 100 [Bz (mkO (p * r) ((und q) * (und s))), Dz (mkO (p * r) ((und q) * (und s))), Bz (mkU (p * r) ((und q) * (und s))), Dz (mkU (p * r) ((und q) * (und s)))]]) [13] rfl ?_
  refine nx_then ?_
  refine t_ret ?_
  exact rt_one rfl (res_agg 0 ty_agg_api_Frac rfl)
set_option maxRecDepth 100000 in
set_option maxHeartbeats 4000000 in
theorem f_div (p q r s : Int) (hp : L p ≤ 1000) (hq : L q ≤ 1000) (hr : L r ≤ 1000) (hs : L s ≤ 1000) : Spec Try.prog 78 [(VP.agg [Bz p, Dz p, Bz q, Dz q]).p, (VP.agg [Bz r, Dz r, Bz s, Dz s]).p] (VP.agg [Bz (mkO (p * (und s)) (r * (und q))), Dz (mkO (p * (und s)) (r * (und q))), Bz (mkU (p * (und s)) (r * (und q))), Dz (mkU (p * (und s)) (r * (und q)))]) := by
  refine spec_of (xs := [VP.agg [Bz p, Dz p, Bz q, Dz q], VP.agg [Bz r, Dz r, Bz s, Dz s]]) 18 [2, 3, 4, 5, 6, 7] Try.func78 rfl Try.ntmps78 rfl fun w0 => ?_
  refine t_seq ?_
  refine t_region (F := ⟨_, _, _, _⟩) [.slot 0 (VP.agg [Bz p, Dz p, Bz q, Dz q]), .slot 1 (VP.agg [Bz r, Dz r, Bz s, Dz s])] [] [(0, .box 2 100 [Bz p, Dz p, Bz q, Dz q]), (1, .box 3 100 [Bz r, Dz r, Bz s, Dz s]), (2, .box 4 100 [Bz 0, Dz 0, Bz 0, Dz 0])] [0, 1] [] rfl rfl follow rfl ⟨
    .inl ⟨wants_plain rfl, does_box _ rfl rfl rfl rfl rfl (ar_tmp (av_fs 0 rfl))⟩,
    .inl ⟨wants_plain rfl, does_box _ rfl rfl rfl rfl rfl (ar_tmp (av_fs 1 rfl))⟩,
    .inl ⟨wants_plain rfl, does_alloc ty_zero_api_Frac rfl rfl rfl rfl rfl z_frac⟩,
    trivial⟩ ?_
  refine nx_sub (fs' := [.box 2 100 [Bz p, Dz p, Bz q, Dz q], .box 3 100 [Bz r, Dz r, Bz s, Dz s], .box 4 100 [Bz 0, Dz 0, Bz 0, Dz 0]]) [2, 3, 4] rfl ?_
  refine nx_then ?_
  refine t_seq ?_
  refine t_region (F := ⟨_, _, _, _⟩) [.box 2 100 [Bz p, Dz p, Bz q, Dz q], .box 3 100 [Bz r, Dz r, Bz s, Dz s], .box 4 100 [Bz 0, Dz 0, Bz 0, Dz 0]] [] [(0, .slot 9 (VP.agg [Bz p, Dz p, Bz q, Dz q])), (1, .slot 10 (VP.agg [Bz r, Dz r, Bz s, Dz s])), (2, .slot 11 (VP.tup [INT (p * (und s)), INT (r * (und q)), INT ((und q) * (und s))])), (3, .slot 8 (VP.tup [INT (p * (und s)), INT (r * (und q)), INT ((und q) * (und s))])), (4, .slot 12 (INT (p * (und s)))), (5, .slot 13 (INT (r * (und q)))), (6, .slot 14 (INT ((und q) * (und s)))), (7, .own 5 69 2), (8, .own 6 69 2), (9, .own 7 69 2), (10, .box 5 69 [Bz (p * (und s)), Dz (p * (und s))]), (11, .box 6 69 [Bz (r * (und q)), Dz (r * (und q))]), (12, .box 7 69 [Bz ((und q) * (und s)), Dz ((und q) * (und s))])] [0, 1, 2] [] rfl rfl follow rfl ⟨
    .inl ⟨wants_plain rfl, does_loadAgg _ ty_agg_api_Frac rfl rfl rfl rfl rfl rfl (pt_box (av_fs 0 rfl)) (av_fs 0 rfl)⟩,
    .inl ⟨wants_plain rfl, does_loadAgg _ ty_agg_api_Frac rfl rfl rfl rfl rfl rfl (pt_box (av_fs 1 rfl)) (av_fs 1 rfl)⟩,
    .inl ⟨wants_plain rfl, does_call (f_cross p q r s hp hq hr hs) rfl hb_collator_frac_cross rfl rfl rfl rfl ⟨(ar_tmp (av_rs 0 rfl rfl)), (ar_tmp (av_rs 1 rfl rfl)), trivial⟩⟩,
    .inl ⟨wants_plain rfl, does_move _ (.inl rfl) rfl rfl rfl rfl (ar_tmp (av_rs 2 rfl rfl))⟩,
    .inl ⟨wants_plain rfl, does_extract (ps := [INT (p * (und s)), INT (r * (und q)), INT ((und q) * (und s))]) _ _ rfl rfl rfl rfl rfl (ar_tmp (av_rs 3 rfl rfl)) rfl⟩,
    .inl ⟨wants_plain rfl, does_extract (ps := [INT (p * (und s)), INT (r * (und q)), INT ((und q) * (und s))]) _ _ rfl rfl rfl rfl rfl (ar_tmp (av_rs 3 rfl rfl)) rfl⟩,
    .inl ⟨wants_plain rfl, does_extract (ps := [INT (p * (und s)), INT (r * (und q)), INT ((und q) * (und s))]) _ _ rfl rfl rfl rfl rfl (ar_tmp (av_rs 3 rfl rfl)) rfl⟩,
    .inl ⟨wants_plain rfl, does_allocOwn [Bz 0, Dz 0] ty_zero_api_Int rfl rfl rfl rfl rfl z_int rfl⟩,
    .inl ⟨wants_plain rfl, does_allocOwn [Bz 0, Dz 0] ty_zero_api_Int rfl rfl rfl rfl rfl z_int rfl⟩,
    .inl ⟨wants_plain rfl, does_allocOwn [Bz 0, Dz 0] ty_zero_api_Int rfl rfl rfl rfl rfl z_int rfl⟩,
    .inl ⟨wants_plain rfl, does_storeNew 2 _ _ ty_agg_api_Int rfl rfl rfl rfl rfl (pt_own (av_rs 7 rfl rfl)) (av_rs 7 rfl rfl) (ar_tmp (av_rs 4 rfl rfl))⟩,
    .inl ⟨wants_plain rfl, does_storeNew 2 _ _ ty_agg_api_Int rfl rfl rfl rfl rfl (pt_own (av_rs 8 rfl rfl)) (av_rs 8 rfl rfl) (ar_tmp (av_rs 5 rfl rfl))⟩,
    .inl ⟨wants_plain rfl, does_storeNew 2 _ _ ty_agg_api_Int rfl rfl rfl rfl rfl (pt_own (av_rs 9 rfl rfl)) (av_rs 9 rfl rfl) (ar_tmp (av_rs 6 rfl rfl))⟩,
    trivial⟩ ?_
  refine nx_sub (fs' := [.box 4 100 [Bz 0, Dz 0, Bz 0, Dz 0], .box 5 69 [Bz (p * (und s)), Dz (p * (und s))], .box 6 69 [Bz (r * (und q)), Dz (r * (und q))]]) [2, 13, 14] rfl ?_
  refine nx_then ?_
  refine t_seq ?_
  refine t_region (F := ⟨_, _, _, _⟩) [.box 5 69 [Bz (p * (und s)), Dz (p * (und s))], .box 6 69 [Bz (r * (und q)), Dz (r * (und q))]] [(3, .box 4 100 [Bz 0, Dz 0, Bz 0, Dz 0])] [(0, .slot 15 (INT (p * (und s)))), (1, .slot 16 (INT (r * (und q)))), (2, .slot 17 (VP.agg [Bz (mkO (p * (und s)) (r * (und q))), Dz (mkO (p * (und s)) (r * (und q))), Bz (mkU (p * (und s)) (r * (und q))), Dz (mkU (p * (und s)) (r * (und q)))])), (3, .box 4 100 [Bz (mkO (p * (und s)) (r * (und q))), Dz (mkO (p * (und s)) (r * (und q))), Bz (mkU (p * (und s)) (r * (und q))), Dz (mkU (p * (und s)) (r * (und q)))])] [1, 2] [0] rfl rfl follow rfl ⟨
    .inl ⟨wants_plain rfl, does_loadAgg _ ty_agg_api_Int rfl rfl rfl rfl rfl rfl (pt_box (av_fs 0 rfl)) (av_fs 0 rfl)⟩,
    .inl ⟨wants_plain rfl, does_loadAgg _ ty_agg_api_Int rfl rfl rfl rfl rfl rfl (pt_box (av_fs 1 rfl)) (av_fs 1 rfl)⟩,
    .inl ⟨wants_plain rfl, does_call (f_make (p * (und s)) (r * (und q)) (lle (lmul hp (lund hs (by decide))) (by decide)) (lle (lmul hr (lund hq (by decide))) (by decide))) rfl hb_collator_frac_Make rfl rfl rfl rfl ⟨(ar_tmp (av_rs 0 rfl rfl)), (ar_tmp (av_rs 1 rfl rfl)), trivial⟩⟩,
    .inl ⟨wants_plain rfl, does_storeAgg 4 _ _ ty_agg_api_Frac rfl rfl rfl rfl rfl (pt_box (av_os 0 rfl rfl)) (av_os 0 rfl rfl) (ar_tmp (av_rs 2 rfl rfl))⟩,
    trivial⟩ ?_
  refine nx_sub (fs' := [.box 4 100 [Bz (mkO (p * (und s)) (r * (und q))), Dz (mkO (p * (und s)) (r * (und q))), Bz (mkU (p * (und s)) (r * (und q))), Dz (mkU (p * (und s)) (r * (und q)))]]) [5] rfl ?_
  refine nx_then ?_
  refine t_ret ?_
  exact rt_one rfl (res_agg 0 ty_agg_api_Frac rfl)
set_option maxRecDepth 100000 in
set_option maxHeartbeats 4000000 in
theorem f_neg (p q : Int) (hp : L p ≤ 1000) (hq : L q ≤ 1000) : Spec Try.prog 76 [(VP.agg [Bz p, Dz p, Bz q, Dz q]).p] (VP.agg [Bz (mkO (-p) (und q)), Dz (mkO (-p) (und q)), Bz (mkU (-p) (und q)), Dz (mkU (-p) (und q))]) := by
  refine spec_of (xs := [VP.agg [Bz p, Dz p, Bz q, Dz q]]) 9 [1, 2] Try.func76 rfl Try.ntmps76 rfl fun w0 => ?_
  refine t_seq ?_
  refine t_region (F := ⟨_, _, _, _⟩) [.slot 0 (VP.agg [Bz p, Dz p, Bz q, Dz q])] [] [(0, .box 1 100 [Bz p, Dz p, Bz q, Dz q]), (1, .box 2 100 [Bz 0, Dz 0, Bz 0, Dz 0])] [0] [] rfl rfl follow rfl ⟨
    .inl ⟨wants_plain rfl, does_box _ rfl rfl rfl rfl rfl (ar_tmp (av_fs 0 rfl))⟩,
    .inl ⟨wants_plain rfl, does_alloc ty_zero_api_Frac rfl rfl rfl rfl rfl z_frac⟩,
    trivial⟩ ?_
  refine nx_sub (fs' := [.box 1 100 [Bz p, Dz p, Bz q, Dz q], .box 2 100 [Bz 0, Dz 0, Bz 0, Dz 0]]) [1, 2] rfl ?_
  refine nx_then ?_
  refine t_seq ?_
  refine t_region (F := ⟨_, _, _, _⟩) [.box 1 100 [Bz p, Dz p, Bz q, Dz q]] [(6, .box 2 100 [Bz 0, Dz 0, Bz 0, Dz 0])] [(0, .fp 3 1 0), (1, .slot 4 (INT p)), (2, .slot 5 (INT (-p))), (3, .slot 6 (VP.agg [Bz p, Dz p, Bz q, Dz q])), (4, .slot 7 (INT (und q))), (5, .slot 8 (VP.agg [Bz (mkO (-p) (und q)), Dz (mkO (-p) (und q)), Bz (mkU (-p) (und q)), Dz (mkU (-p) (und q))])), (6, .box 2 100 [Bz (mkO (-p) (und q)), Dz (mkO (-p) (und q)), Bz (mkU (-p) (und q)), Dz (mkU (-p) (und q))])] [0] [1] rfl rfl follow rfl ⟨
    .inl ⟨wants_plain rfl, does_field _ _ _ 0 ty_f0_api_Frac rfl rfl rfl rfl rfl rfl rfl (pt_box (av_fs 0 rfl))⟩,
    .inl ⟨wants_plain rfl, does_loadAgg _ ty_agg_api_Int rfl rfl rfl rfl rfl rfl (pt_fp (av_rs 0 rfl rfl)) (av_fs 0 rfl)⟩,
    .inl ⟨wants_plain rfl, does_call (s_neg p (lle hp (by decide))) rfl hb_collator_whole_Neg rfl rfl rfl rfl ⟨(ar_tmp (av_rs 1 rfl rfl)), trivial⟩⟩,
    .inl ⟨wants_plain rfl, does_loadAgg _ ty_agg_api_Frac rfl rfl rfl rfl rfl rfl (pt_box (av_fs 0 rfl)) (av_fs 0 rfl)⟩,
    .inl ⟨wants_plain rfl, does_call (f_under p q hp hq) rfl hb_collator_frac_under rfl rfl rfl rfl ⟨(ar_tmp (av_rs 3 rfl rfl)), trivial⟩⟩,
    .inl ⟨wants_plain rfl, does_call (f_make (-p) (und q) (lle (lneg hp) (by decide)) (lle (lund hq (by decide)) (by decide))) rfl hb_collator_frac_Make rfl rfl rfl rfl ⟨(ar_tmp (av_rs 2 rfl rfl)), (ar_tmp (av_rs 4 rfl rfl)), trivial⟩⟩,
    .inl ⟨wants_plain rfl, does_storeAgg 4 _ _ ty_agg_api_Frac rfl rfl rfl rfl rfl (pt_box (av_os 0 rfl rfl)) (av_os 0 rfl rfl) (ar_tmp (av_rs 5 rfl rfl))⟩,
    trivial⟩ ?_
  refine nx_sub (fs' := [.box 2 100 [Bz (mkO (-p) (und q)), Dz (mkO (-p) (und q)), Bz (mkU (-p) (und q)), Dz (mkU (-p) (und q))]]) [7] rfl ?_
  refine nx_then ?_
  refine t_ret ?_
  exact rt_one rfl (res_agg 0 ty_agg_api_Frac rfl)
set_option maxRecDepth 100000 in
set_option maxHeartbeats 4000000 in
theorem f_cmp (p q r s : Int) (hp : L p ≤ 1000) (hq : L q ≤ 1000) (hr : L r ≤ 1000) (hs : L s ≤ 1000) : Spec Try.prog 74 [(VP.agg [Bz p, Dz p, Bz q, Dz q]).p, (VP.agg [Bz r, Dz r, Bz s, Dz s]).p] (VP.int .i64 (cmpZ (p * (und s)) (r * (und q)))) := by
  refine spec_of (xs := [VP.agg [Bz p, Dz p, Bz q, Dz q], VP.agg [Bz r, Dz r, Bz s, Dz s]]) 18 [2, 3, 5, 6, 7] Try.func74 rfl Try.ntmps74 rfl fun w0 => ?_
  refine t_seq ?_
  refine t_region (F := ⟨_, _, _, _⟩) [.slot 0 (VP.agg [Bz p, Dz p, Bz q, Dz q]), .slot 1 (VP.agg [Bz r, Dz r, Bz s, Dz s])] [] [(0, .box 2 100 [Bz p, Dz p, Bz q, Dz q]), (1, .box 3 100 [Bz r, Dz r, Bz s, Dz s]), (2, .slot 4 (VP.int .i64 0))] [0, 1] [] rfl rfl follow rfl ⟨
    .inl ⟨wants_plain rfl, does_box _ rfl rfl rfl rfl rfl (ar_tmp (av_fs 0 rfl))⟩,
    .inl ⟨wants_plain rfl, does_box _ rfl rfl rfl rfl rfl (ar_tmp (av_fs 1 rfl))⟩,
    .inl ⟨wants_plain rfl, does_move _ (.inr rfl) rfl rfl rfl rfl (ar_const (fun _ => rfl))⟩,
    trivial⟩ ?_
  refine nx_sub (fs' := [.box 2 100 [Bz p, Dz p, Bz q, Dz q], .box 3 100 [Bz r, Dz r, Bz s, Dz s], .slot 4 (VP.int .i64 0)]) [2, 3, 4] rfl ?_
  refine nx_then ?_
  refine t_seq ?_
  refine t_region (F := ⟨_, _, _, _⟩) [.box 2 100 [Bz p, Dz p, Bz q, Dz q], .box 3 100 [Bz r, Dz r, Bz s, Dz s], .slot 4 (VP.int .i64 0)] [] [(0, .slot 9 (VP.agg [Bz p, Dz p, Bz q, Dz q])), (1, .slot 10 (VP.agg [Bz r, Dz r, Bz s, Dz s])), (2, .slot 11 (VP.tup [INT (p * (und s)), INT (r * (und q)), INT ((und q) * (und s))])), (3, .slot 8 (VP.tup [INT (p * (und s)), INT (r * (und q)), INT ((und q) * (und s))])), (4, .slot 12 (INT (p * (und s)))), (5, .slot 13 (INT (r * (und q)))), (6, .slot 14 (INT ((und q) * (und s)))), (7, .own 5 69 2), (8, .own 6 69 2), (9, .own 7 69 2), (10, .box 5 69 [Bz (p * (und s)), Dz (p * (und s))]), (11, .box 6 69 [Bz (r * (und q)), Dz (r * (und q))]), (12, .box 7 69 [Bz ((und q) * (und s)), Dz ((und q) * (und s))])] [0, 1, 2] [] rfl rfl follow rfl ⟨
    .inl ⟨wants_plain rfl, does_loadAgg _ ty_agg_api_Frac rfl rfl rfl rfl rfl rfl (pt_box (av_fs 0 rfl)) (av_fs 0 rfl)⟩,
    .inl ⟨wants_plain rfl, does_loadAgg _ ty_agg_api_Frac rfl rfl rfl rfl rfl rfl (pt_box (av_fs 1 rfl)) (av_fs 1 rfl)⟩,
    .inl ⟨wants_plain rfl, does_call (f_cross p q r s hp hq hr hs) rfl hb_collator_frac_cross rfl rfl rfl rfl ⟨(ar_tmp (av_rs 0 rfl rfl)), (ar_tmp (av_rs 1 rfl rfl)), trivial⟩⟩,
    .inl ⟨wants_plain rfl, does_move _ (.inl rfl) rfl rfl rfl rfl (ar_tmp (av_rs 2 rfl rfl))⟩,
    .inl ⟨wants_plain rfl, does_extract (ps := [INT (p * (und s)), INT (r * (und q)), INT ((und q) * (und s))]) _ _ rfl rfl rfl rfl rfl (ar_tmp (av_rs 3 rfl rfl)) rfl⟩,
    .inl ⟨wants_plain rfl, does_extract (ps := [INT (p * (und s)), INT (r * (und q)), INT ((und q) * (und s))]) _ _ rfl rfl rfl rfl rfl (ar_tmp (av_rs 3 rfl rfl)) rfl⟩,
    .inl ⟨wants_plain rfl, does_extract (ps := [INT (p * (und s)), INT (r * (und q)), INT ((und q) * (und s))]) _ _ rfl rfl rfl rfl rfl (ar_tmp (av_rs 3 rfl rfl)) rfl⟩,
    .inl ⟨wants_plain rfl, does_allocOwn [Bz 0, Dz 0] ty_zero_api_Int rfl rfl rfl rfl rfl z_int rfl⟩,
    .inl ⟨wants_plain rfl, does_allocOwn [Bz 0, Dz 0] ty_zero_api_Int rfl rfl rfl rfl rfl z_int rfl⟩,
    .inl ⟨wants_plain rfl, does_allocOwn [Bz 0, Dz 0] ty_zero_api_Int rfl rfl rfl rfl rfl z_int rfl⟩,
    .inl ⟨wants_plain rfl, does_storeNew 2 _ _ ty_agg_api_Int rfl rfl rfl rfl rfl (pt_own (av_rs 7 rfl rfl)) (av_rs 7 rfl rfl) (ar_tmp (av_rs 4 rfl rfl))⟩,
    .inl ⟨wants_plain rfl, does_storeNew 2 _ _ ty_agg_api_Int rfl rfl rfl rfl rfl (pt_own (av_rs 8 rfl rfl)) (av_rs 8 rfl rfl) (ar_tmp (av_rs 5 rfl rfl))⟩,
    .inl ⟨wants_plain rfl, does_storeNew 2 _ _ ty_agg_api_Int rfl rfl rfl rfl rfl (pt_own (av_rs 9 rfl rfl)) (av_rs 9 rfl rfl) (ar_tmp (av_rs 6 rfl rfl))⟩,
    trivial⟩ ?_
  refine nx_sub (fs' := [.slot 4 (VP.int .i64 0), .box 5 69 [Bz (p * (und s)), Dz (p * (und s))], .box 6 69 [Bz (r * (und q)), Dz (r * (und q))]]) [2, 13, 14] rfl ?_
  refine nx_then ?_
  refine t_seq ?_
  refine t_region (F := ⟨_, _, _, _⟩) [.box 5 69 [Bz (p * (und s)), Dz (p * (und s))], .box 6 69 [Bz (r * (und q)), Dz (r * (und q))]] [(3, .slot 4 (VP.int .i64 0))] [(0, .slot 15 (INT (p * (und s)))), (1, .slot 16 (INT (r * (und q)))), (2, .slot 17 (VP.int .i64 (cmpZ (p * (und s)) (r * (und q))))), (3, .slot 4 (VP.int .i64 (cmpZ (p * (und s)) (r * (und q)))))] [1, 2] [0] rfl rfl follow rfl ⟨
    .inl ⟨wants_plain rfl, does_loadAgg _ ty_agg_api_Int rfl rfl rfl rfl rfl rfl (pt_box (av_fs 0 rfl)) (av_fs 0 rfl)⟩,
    .inl ⟨wants_plain rfl, does_loadAgg _ ty_agg_api_Int rfl rfl rfl rfl rfl rfl (pt_box (av_fs 1 rfl)) (av_fs 1 rfl)⟩,
    .inl ⟨wants_plain rfl, does_call (s_cmp (p * (und s)) (r * (und q)) (lle (lmul hp (lund hs (by decide))) (by decide)) (lle (lmul hr (lund hq (by decide))) (by decide))) rfl hb_collator_whole_Cmp rfl rfl rfl rfl ⟨(ar_tmp (av_rs 0 rfl rfl)), (ar_tmp (av_rs 1 rfl rfl)), trivial⟩⟩,
    .inl ⟨wants_plain rfl, does_move _ (.inr rfl) rfl rfl rfl rfl (ar_tmp (av_rs 2 rfl rfl))⟩,
    trivial⟩ ?_
  refine nx_sub (fs' := [.slot 4 (VP.int .i64 (cmpZ (p * (und s)) (r * (und q))))]) [5] rfl ?_
  refine nx_then ?_
  refine t_ret ?_
  exact rt_one rfl (res_tmp 0 rfl)
set_option maxRecDepth 100000 in
set_option maxHeartbeats 4000000 in
theorem f_floor (p q : Int) (hp : L p ≤ 1000) (hq : L q ≤ 1000) : Spec Try.prog 94 [(VP.agg [Bz p, Dz p, Bz q, Dz q]).p] (VP.tup [INT (divZ p (und q)), VP.bool (decide ((modZ p (und q)) = 0))]) := by
  refine spec_of (xs := [VP.agg [Bz p, Dz p, Bz q, Dz q]]) 17 [1, 2, 4, 5] Try.func94 rfl Try.ntmps94 rfl fun w0 => ?_
  refine t_seq ?_
  refine t_region (F := ⟨_, _, _, _⟩) [.slot 0 (VP.agg [Bz p, Dz p, Bz q, Dz q])] [] [(0, .box 1 100 [Bz p, Dz p, Bz q, Dz q]), (1, .box 2 69 [Bz 0, Dz 0]), (2, .slot 3 (VP.bool false))] [0] [] rfl rfl follow rfl ⟨
    .inl ⟨wants_plain rfl, does_box _ rfl rfl rfl rfl rfl (ar_tmp (av_fs 0 rfl))⟩,
    .inl ⟨wants_plain rfl, does_alloc ty_zero_api_Int rfl rfl rfl rfl rfl z_int⟩,
    .inl ⟨wants_plain rfl, does_move _ (.inr rfl) rfl rfl rfl rfl (ar_const (fun _ => rfl))⟩,
    trivial⟩ ?_
  refine nx_sub (fs' := [.box 1 100 [Bz p, Dz p, Bz q, Dz q], .box 2 69 [Bz 0, Dz 0], .slot 3 (VP.bool false)]) [1, 2, 3] rfl ?_
  refine nx_then ?_
  refine t_seq ?_
  refine t_region (F := ⟨_, _, _, _⟩) [.box 1 100 [Bz p, Dz p, Bz q, Dz q], .box 2 69 [Bz 0, Dz 0], .slot 3 (VP.bool false)] [] [(0, .fp 7 1 0), (1, .slot 8 (INT p)), (2, .slot 9 (VP.agg [Bz p, Dz p, Bz q, Dz q])), (3, .slot 10 (INT (und q))), (4, .slot 11 (VP.tup [INT (divZ p (und q)), INT (modZ p (und q))])), (5, .slot 6 (VP.tup [INT (divZ p (und q)), INT (modZ p (und q))])), (6, .slot 12 (INT (divZ p (und q)))), (7, .slot 13 (INT (modZ p (und q)))), (8, .own 4 69 2), (9, .own 5 69 2), (10, .box 4 69 [Bz (divZ p (und q)), Dz (divZ p (und q))]), (11, .box 5 69 [Bz (modZ p (und q)), Dz (modZ p (und q))])] [0, 1, 2] [] rfl rfl follow rfl ⟨
    .inl ⟨wants_plain rfl, does_field _ _ _ 0 ty_f0_api_Frac rfl rfl rfl rfl rfl rfl rfl (pt_box (av_fs 0 rfl))⟩,
    .inl ⟨wants_plain rfl, does_loadAgg _ ty_agg_api_Int rfl rfl rfl rfl rfl rfl (pt_fp (av_rs 0 rfl rfl)) (av_fs 0 rfl)⟩,
    .inl ⟨wants_plain rfl, does_loadAgg _ ty_agg_api_Frac rfl rfl rfl rfl rfl rfl (pt_box (av_fs 0 rfl)) (av_fs 0 rfl)⟩,
    .inl ⟨wants_plain rfl, does_call (f_under p q hp hq) rfl hb_collator_frac_under rfl rfl rfl rfl ⟨(ar_tmp (av_rs 2 rfl rfl)), trivial⟩⟩,
    .inl ⟨wants_plain rfl, does_call (s_div p (und q) (lle hp (by decide)) (lle (lund hq (by decide)) (by decide))) rfl hb_collator_whole_Div rfl rfl rfl rfl ⟨(ar_tmp (av_rs 1 rfl rfl)), (ar_tmp (av_rs 3 rfl rfl)), trivial⟩⟩,
    .inl ⟨wants_plain rfl, does_move _ (.inl rfl) rfl rfl rfl rfl (ar_tmp (av_rs 4 rfl rfl))⟩,
    .inl ⟨wants_plain rfl, does_extract (ps := [INT (divZ p (und q)), INT (modZ p (und q))]) _ _ rfl rfl rfl rfl rfl (ar_tmp (av_rs 5 rfl rfl)) rfl⟩,
    .inl ⟨wants_plain rfl, does_extract (ps := [INT (divZ p (und q)), INT (modZ p (und q))]) _ _ rfl rfl rfl rfl rfl (ar_tmp (av_rs 5 rfl rfl)) rfl⟩,
    .inl ⟨wants_plain rfl, does_allocOwn [Bz 0, Dz 0] ty_zero_api_Int rfl rfl rfl rfl rfl z_int rfl⟩,
    .inl ⟨wants_plain rfl, does_allocOwn [Bz 0, Dz 0] ty_zero_api_Int rfl rfl rfl rfl rfl z_int rfl⟩,
    .inl ⟨wants_plain rfl, does_storeNew 2 _ _ ty_agg_api_Int rfl rfl rfl rfl rfl (pt_own (av_rs 8 rfl rfl)) (av_rs 8 rfl rfl) (ar_tmp (av_rs 6 rfl rfl))⟩,
    .inl ⟨wants_plain rfl, does_storeNew 2 _ _ ty_agg_api_Int rfl rfl rfl rfl rfl (pt_own (av_rs 9 rfl rfl)) (av_rs 9 rfl rfl) (ar_tmp (av_rs 7 rfl rfl))⟩,
    trivial⟩ ?_
  refine nx_sub (fs' := [.box 2 69 [Bz 0, Dz 0], .slot 3 (VP.bool false), .box 4 69 [Bz (divZ p (und q)), Dz (divZ p (und q))], .box 5 69 [Bz (modZ p (und q)), Dz (modZ p (und q))]]) [1, 2, 13, 14] rfl ?_
  refine nx_then ?_
  refine t_seq ?_
  refine t_region (F := ⟨_, _, _, _⟩) [.box 4 69 [Bz (divZ p (und q)), Dz (divZ p (und q))], .box 5 69 [Bz (modZ p (und q)), Dz (modZ p (und q))]] [(3, .box 2 69 [Bz 0, Dz 0]), (4, .slot 3 (VP.bool false))] [(0, .slot 14 (INT (divZ p (und q)))), (1, .slot 15 (INT (modZ p (und q)))), (2, .slot 16 (VP.bool (decide ((modZ p (und q)) = 0)))), (3, .box 2 69 [Bz (divZ p (und q)), Dz (divZ p (und q))]), (4, .slot 3 (VP.bool (decide ((modZ p (und q)) = 0))))] [2, 3] [0, 1] rfl rfl follow rfl ⟨
    .inl ⟨wants_plain rfl, does_loadAgg _ ty_agg_api_Int rfl rfl rfl rfl rfl rfl (pt_box (av_fs 0 rfl)) (av_fs 0 rfl)⟩,
    .inl ⟨wants_plain rfl, does_loadAgg _ ty_agg_api_Int rfl rfl rfl rfl rfl rfl (pt_box (av_fs 1 rfl)) (av_fs 1 rfl)⟩,
    .inl ⟨wants_plain rfl, does_call (f_zero (modZ p (und q))) rfl hb_collator_frac_zero rfl rfl rfl rfl ⟨(ar_tmp (av_rs 1 rfl rfl)), trivial⟩⟩,
    .inl ⟨wants_plain rfl, does_storeAgg 2 _ _ ty_agg_api_Int rfl rfl rfl rfl rfl (pt_box (av_os 0 rfl rfl)) (av_os 0 rfl rfl) (ar_tmp (av_rs 0 rfl rfl))⟩,
    .inl ⟨wants_plain rfl, does_move _ (.inr rfl) rfl rfl rfl rfl (ar_tmp (av_rs 2 rfl rfl))⟩,
    trivial⟩ ?_
  refine nx_sub (fs' := [.box 2 69 [Bz (divZ p (und q)), Dz (divZ p (und q))], .slot 3 (VP.bool (decide ((modZ p (und q)) = 0)))]) [5, 6] rfl ?_
  refine nx_then ?_
  refine t_ret ?_
  exact rt_two rfl (res_agg 0 ty_agg_api_Int rfl) (res_tmp 1 rfl)
set_option maxRecDepth 100000 in
set_option maxHeartbeats 4000000 in
theorem f_text1 (p q : Int) (hp : L p ≤ 1000) (_hq : L q ≤ 1000) (h : q = 0) : Spec Try.prog 102 [(VP.agg [Bz p, Dz p, Bz q, Dz q]).p] (VP.str (txt p)) := by
  refine spec_of (xs := [VP.agg [Bz p, Dz p, Bz q, Dz q]]) 17 [1] Try.func102 rfl Try.ntmps102 rfl fun w0 => ?_
  refine t_seq ?_
  refine t_region (F := ⟨_, _, _, _⟩) [.slot 0 (VP.agg [Bz p, Dz p, Bz q, Dz q])] [] [(0, .box 1 100 [Bz p, Dz p, Bz q, Dz q]), (1, .slot 2 (VP.str (ByteArray.mk #[])))] [0] [] rfl rfl follow rfl ⟨
    .inl ⟨wants_plain rfl, does_box _ rfl rfl rfl rfl rfl (ar_tmp (av_fs 0 rfl))⟩,
    .inl ⟨wants_plain rfl, does_move _ (.inr rfl) rfl rfl rfl rfl (ar_const (fun _ => rfl))⟩,
    trivial⟩ ?_
  refine nx_sub (fs' := [.box 1 100 [Bz p, Dz p, Bz q, Dz q], .slot 2 (VP.str (ByteArray.mk #[]))]) [1, 2] rfl ?_
  refine nx_then ?_
  refine t_seq ?_
  refine t_seq ?_
  refine t_region (F := ⟨_, _, _, _⟩) [.box 1 100 [Bz p, Dz p, Bz q, Dz q], .slot 2 (VP.str (ByteArray.mk #[]))] [] [(0, .fp 3 1 2), (1, .slot 4 (INT q)), (2, .slot 5 (VP.bool (decide (q = 0))))] [0, 1] [] rfl rfl follow rfl ⟨
    .inl ⟨wants_plain rfl, does_field _ _ _ 2 ty_f1_api_Frac rfl rfl rfl rfl rfl rfl rfl (pt_box (av_fs 0 rfl))⟩,
    .inl ⟨wants_plain rfl, does_loadAgg _ ty_agg_api_Int rfl rfl rfl rfl rfl rfl (pt_fp (av_rs 0 rfl rfl)) (av_fs 0 rfl)⟩,
    .inl ⟨wants_plain rfl, does_call (f_zero q) rfl hb_collator_frac_zero rfl rfl rfl rfl ⟨(ar_tmp (av_rs 1 rfl rfl)), trivial⟩⟩,
    trivial⟩ ?_
  refine nx_sub (fs' := [.box 1 100 [Bz p, Dz p, Bz q, Dz q], .slot 2 (VP.str (ByteArray.mk #[])), .slot 5 (VP.bool (decide (q = 0)))]) [0, 1, 4] rfl ?_
  refine nx_then ?_
  refine t_cond_te 2 rfl (decide_eq_true h) ?_
  refine t_seq ?_
  refine t_region (F := ⟨_, _, _, _⟩) [.box 1 100 [Bz p, Dz p, Bz q, Dz q], .slot 5 (VP.bool (decide (q = 0)))] [(3, .slot 2 (VP.str (ByteArray.mk #[])))] [(0, .fp 6 1 0), (1, .slot 7 (INT p)), (2, .slot 8 (VP.str (txt p))), (3, .slot 2 (VP.str (txt p)))] [0, 2] [1] rfl rfl follow rfl ⟨
    .inl ⟨wants_plain rfl, does_field _ _ _ 0 ty_f0_api_Frac rfl rfl rfl rfl rfl rfl rfl (pt_box (av_fs 0 rfl))⟩,
    .inl ⟨wants_plain rfl, does_loadAgg _ ty_agg_api_Int rfl rfl rfl rfl rfl rfl (pt_fp (av_rs 0 rfl rfl)) (av_fs 0 rfl)⟩,
    .inl ⟨wants_plain rfl, does_call (s_text p (lle hp (by decide))) rfl hb_collator_whole_Text rfl rfl rfl rfl ⟨(ar_tmp (av_rs 1 rfl rfl)), trivial⟩⟩,
    .inl ⟨wants_plain rfl, does_move _ (.inr rfl) rfl rfl rfl rfl (ar_tmp (av_rs 2 rfl rfl))⟩,
    trivial⟩ ?_
  refine nx_sub (fs' := [.box 1 100 [Bz p, Dz p, Bz q, Dz q], .slot 2 (VP.str (txt p))]) [0, 5] rfl ?_
  refine nx_then ?_
  refine t_ret ?_
  refine rt_then ?_
  exact rt_one rfl (res_tmp 1 rfl)
set_option maxRecDepth 100000 in
set_option maxHeartbeats 4000000 in
theorem f_text2 (p q : Int) (hp : L p ≤ 1000) (hq : L q ≤ 1000) (h : q ≠ 0) : Spec Try.prog 102 [(VP.agg [Bz p, Dz p, Bz q, Dz q]).p] (VP.str (((txt p) ++ (ByteArray.mk #[47])) ++ (txt q))) := by
  refine spec_of (xs := [VP.agg [Bz p, Dz p, Bz q, Dz q]]) 17 [1] Try.func102 rfl Try.ntmps102 rfl fun w0 => ?_
  refine t_seq ?_
  refine t_region (F := ⟨_, _, _, _⟩) [.slot 0 (VP.agg [Bz p, Dz p, Bz q, Dz q])] [] [(0, .box 1 100 [Bz p, Dz p, Bz q, Dz q]), (1, .slot 2 (VP.str (ByteArray.mk #[])))] [0] [] rfl rfl follow rfl ⟨
    .inl ⟨wants_plain rfl, does_box _ rfl rfl rfl rfl rfl (ar_tmp (av_fs 0 rfl))⟩,
    .inl ⟨wants_plain rfl, does_move _ (.inr rfl) rfl rfl rfl rfl (ar_const (fun _ => rfl))⟩,
    trivial⟩ ?_
  refine nx_sub (fs' := [.box 1 100 [Bz p, Dz p, Bz q, Dz q], .slot 2 (VP.str (ByteArray.mk #[]))]) [1, 2] rfl ?_
  refine nx_then ?_
  refine t_seq ?_
  refine t_seq ?_
  refine t_region (F := ⟨_, _, _, _⟩) [.box 1 100 [Bz p, Dz p, Bz q, Dz q], .slot 2 (VP.str (ByteArray.mk #[]))] [] [(0, .fp 3 1 2), (1, .slot 4 (INT q)), (2, .slot 5 (VP.bool (decide (q = 0))))] [0, 1] [] rfl rfl follow rfl ⟨
    .inl ⟨wants_plain rfl, does_field _ _ _ 2 ty_f1_api_Frac rfl rfl rfl rfl rfl rfl rfl (pt_box (av_fs 0 rfl))⟩,
    .inl ⟨wants_plain rfl, does_loadAgg _ ty_agg_api_Int rfl rfl rfl rfl rfl rfl (pt_fp (av_rs 0 rfl rfl)) (av_fs 0 rfl)⟩,
    .inl ⟨wants_plain rfl, does_call (f_zero q) rfl hb_collator_frac_zero rfl rfl rfl rfl ⟨(ar_tmp (av_rs 1 rfl rfl)), trivial⟩⟩,
    trivial⟩ ?_
  refine nx_sub (fs' := [.box 1 100 [Bz p, Dz p, Bz q, Dz q], .slot 2 (VP.str (ByteArray.mk #[])), .slot 5 (VP.bool (decide (q = 0)))]) [0, 1, 4] rfl ?_
  refine nx_then ?_
  refine t_cond_fe 2 rfl (decide_eq_false h) ?_
  refine t_skip ?_
  refine nx_then ?_
  refine t_seq ?_
  refine t_region (F := ⟨_, _, _, _⟩) [.box 1 100 [Bz p, Dz p, Bz q, Dz q], .slot 5 (VP.bool (decide (q = 0)))] [(8, .slot 2 (VP.str (ByteArray.mk #[])))] [(0, .fp 9 1 0), (1, .slot 10 (INT p)), (2, .slot 11 (VP.str (txt p))), (3, .slot 12 (VP.str ((txt p) ++ (ByteArray.mk #[47])))), (4, .fp 13 1 2), (5, .slot 14 (INT q)), (6, .slot 15 (VP.str (txt q))), (7, .slot 16 (VP.str (((txt p) ++ (ByteArray.mk #[47])) ++ (txt q)))), (8, .slot 2 (VP.str (((txt p) ++ (ByteArray.mk #[47])) ++ (txt q))))] [0, 2] [1] rfl rfl follow rfl ⟨
    .inl ⟨wants_plain rfl, does_field _ _ _ 0 ty_f0_api_Frac rfl rfl rfl rfl rfl rfl rfl (pt_box (av_fs 0 rfl))⟩,
    .inl ⟨wants_plain rfl, does_loadAgg _ ty_agg_api_Int rfl rfl rfl rfl rfl rfl (pt_fp (av_rs 0 rfl rfl)) (av_fs 0 rfl)⟩,
    .inl ⟨wants_plain rfl, does_call (s_text p (lle hp (by decide))) rfl hb_collator_whole_Text rfl rfl rfl rfl ⟨(ar_tmp (av_rs 1 rfl rfl)), trivial⟩⟩,
    .inl ⟨wants_plain rfl, does_cat (u := (txt p)) (v := (ByteArray.mk #[47])) _ _ _ _ rfl rfl rfl rfl rfl (cat1 hp) (ar_tmp (av_rs 2 rfl rfl)) (ar_const (fun _ => rfl))⟩,
    .inl ⟨wants_plain rfl, does_field _ _ _ 2 ty_f1_api_Frac rfl rfl rfl rfl rfl rfl rfl (pt_box (av_fs 0 rfl))⟩,
    .inl ⟨wants_plain rfl, does_loadAgg _ ty_agg_api_Int rfl rfl rfl rfl rfl rfl (pt_fp (av_rs 4 rfl rfl)) (av_fs 0 rfl)⟩,
    .inl ⟨wants_plain rfl, does_call (s_text q (lle hq (by decide))) rfl hb_collator_whole_Text rfl rfl rfl rfl ⟨(ar_tmp (av_rs 5 rfl rfl)), trivial⟩⟩,
    .inl ⟨wants_plain rfl, does_cat (u := ((txt p) ++ (ByteArray.mk #[47]))) (v := (txt q)) _ _ _ _ rfl rfl rfl rfl rfl (cat2 hp hq) (ar_tmp (av_rs 3 rfl rfl)) (ar_tmp (av_rs 6 rfl rfl))⟩,
    .inl ⟨wants_plain rfl, does_move _ (.inr rfl) rfl rfl rfl rfl (ar_tmp (av_rs 7 rfl rfl))⟩,
    trivial⟩ ?_
  refine nx_sub (fs' := [.slot 2 (VP.str (((txt p) ++ (ByteArray.mk #[47])) ++ (txt q)))]) [10] rfl ?_
  refine nx_then ?_
  refine t_ret ?_
  exact rt_one rfl (res_tmp 0 rfl)
theorem f_text (p q : Int) (hp : L p ≤ 1000) (hq : L q ≤ 1000) : Spec Try.prog 102 [(VP.agg [Bz p, Dz p, Bz q, Dz q]).p] (VP.str (ftxt p q)) := by
  by_cases h : q = 0
  · rw [show ftxt p q = txt p from if_pos h]; exact f_text1 p q hp hq h
  · rw [show ftxt p q = (((txt p) ++ (ByteArray.mk #[47])) ++ (txt q)) from if_neg h]; exact f_text2 p q hp hq h
end Go.Proofs.Ytogodjiemgilaaa

/- Fractions: what the reference's functions do, in the logic over slots and boxes. -/
namespace Go.Proofs.Ytogodjiemgilaaa
open Go.RowKit
/-- the reference's number over, of x through y -/
def rmO (x y : Int) : Int := if x = 0 ∨ y = 0 then 0 else if y < 0 then divZ (-x) (gcdZ (-x) (-y)) else divZ x (gcdZ x y)
def rmD (x y : Int) : Int := if x = 0 ∨ y = 0 then 1 else if y < 0 then divZ (-y) (gcdZ (-x) (-y)) else divZ y (gcdZ x y)
/-- 1 becomes 0 -/
def fU (q : Int) : Int := if q = 1 then 0 else q
theorem lrmO {x y : Int} {a : Nat} (h : L x ≤ a) : L (rmO x y) ≤ a := by
  unfold rmO; split
  · exact Nat.zero_le _
  · split
    · exact ldiv (lneg h)
    · exact ldiv h
theorem lrmD {x y : Int} {a : Nat} (h : L y ≤ a) (h1 : 1 ≤ a) : L (rmD x y) ≤ a := by
  unfold rmD; split
  · exact Nat.le_trans lone h1
  · split
    · exact ldiv (lneg h)
    · exact ldiv h
theorem lfU {q : Int} {a : Nat} (h : L q ≤ a) : L (fU q) ≤ a := by
  unfold fU; split
  · exact Nat.zero_le _
  · exact h
def rtxt (p q : Int) : ByteArray := if q = 1 then txt p else (((txt p) ++ (ByteArray.mk #[47])) ++ (txt q))
/-- may this fraction be? -/
def rightF (p q : Int) : Bool := !(decide (q < 0)) && decide (p = rmO p (und q) ∧ q = fU (rmD p (und q)))
theorem len10_isz (x : Int) : ((((dg 10 x.natAbs).length : Nat) : Int) == 0) = decide (x = 0) := by
  by_cases h : x = 0
  · rw [len10_yes h, decide_eq_true h]
  · rw [len10_no h, decide_eq_false h]
theorem cmp_one' {z : Int} (h : z = 1) : ((cmpZ z 1) != 0) = false := by subst h; rfl
theorem cmp_two' {z : Int} (h : z ≠ 1) : ((cmpZ z 1) != 0) = true := by
  have := cmp_two h
  rw [bne, this]; rfl
theorem r_right (x : Int) (h1 : L x ≤ 100000) : Spec Try.prog 70 [(INT x).p] (VP.bool true) :=
  spec1 fun v1 w p1 => by
    obtain ⟨a, c, rfl, i1⟩ := int_open p1
    have := rright_walk (decide (x < 0)) (dg BB x.natAbs) a c w (by unfold L at h1; omega) (fun d hd => Nat.lt_trans (dg_lt BB_gt hd) (by decide)) i1.2.2
    rw [int_right] at this
    exact this.mono fun e w' h => ⟨_, h.1, rfl, h.2⟩
set_option maxRecDepth 100000 in
set_option maxHeartbeats 4000000 in
theorem g_of1 (p q : Int) (hp : L p ≤ 1000) (hq : L q ≤ 1000) (h : q = 0) : Spec Try.prog 93 [(VP.agg [Bz p, Dz p, Bz q, Dz q]).p] (VP.agg [Bz p, Tz p, Bz 1, Tz 1]) := by
  refine spec_of (xs := [VP.agg [Bz p, Dz p, Bz q, Dz q]]) 19 [1, 2, 3] Try.func93 rfl Try.ntmps93 rfl fun w0 => ?_
  refine t_seq ?_
  refine t_region (F := ⟨_, _, _, _⟩) [.slot 0 (VP.agg [Bz p, Dz p, Bz q, Dz q])] [] [(0, .box 1 100 [Bz p, Dz p, Bz q, Dz q]), (1, .box 2 130 [Bz 0, Tz 0, Bz 0, Tz 0])] [0] [] rfl rfl follow rfl ⟨
    .inl ⟨wants_plain rfl, does_box _ rfl rfl rfl rfl rfl (ar_tmp (av_fs 0 rfl))⟩,
    .inl ⟨wants_plain rfl, does_alloc ty_zero_collatorref02_Frac rfl rfl rfl rfl rfl z_rfrac⟩,
    trivial⟩ ?_
  refine nx_sub (fs' := [.box 1 100 [Bz p, Dz p, Bz q, Dz q], .box 2 130 [Bz 0, Tz 0, Bz 0, Tz 0]]) [1, 2] rfl ?_
  refine nx_then ?_
  refine t_seq ?_
  refine t_region (F := ⟨_, _, _, _⟩) [.box 1 100 [Bz p, Dz p, Bz q, Dz q], .box 2 130 [Bz 0, Tz 0, Bz 0, Tz 0]] [] [(0, .fp 4 1 0), (1, .slot 5 (INT p)), (2, .slot 6 (NUM p)), (3, .fp 7 1 2), (4, .slot 8 (INT q)), (5, .slot 9 (NUM q)), (6, .slot 10 (VP.agg [Bz p, Tz p, Bz q, Tz q])), (7, .own 3 130 4), (8, .box 3 130 [Bz p, Tz p, Bz q, Tz q])] [0, 1] [] rfl rfl follow rfl ⟨
    .inl ⟨wants_plain rfl, does_field _ _ _ 0 ty_f0_api_Frac rfl rfl rfl rfl rfl rfl rfl (pt_box (av_fs 0 rfl))⟩,
    .inl ⟨wants_plain rfl, does_loadAgg _ ty_agg_api_Int rfl rfl rfl rfl rfl rfl (pt_fp (av_rs 0 rfl rfl)) (av_fs 0 rfl)⟩,
    .inl ⟨wants_plain rfl, does_call (r_of p (lle hp (by decide))) rfl hb_collator_collatorref01_Of rfl rfl rfl rfl ⟨(ar_tmp (av_rs 1 rfl rfl)), trivial⟩⟩,
    .inl ⟨wants_plain rfl, does_field _ _ _ 2 ty_f1_api_Frac rfl rfl rfl rfl rfl rfl rfl (pt_box (av_fs 0 rfl))⟩,
    .inl ⟨wants_plain rfl, does_loadAgg _ ty_agg_api_Int rfl rfl rfl rfl rfl rfl (pt_fp (av_rs 3 rfl rfl)) (av_fs 0 rfl)⟩,
    .inl ⟨wants_plain rfl, does_call (r_of q (lle hq (by decide))) rfl hb_collator_collatorref01_Of rfl rfl rfl rfl ⟨(ar_tmp (av_rs 4 rfl rfl)), trivial⟩⟩,
    .inl ⟨wants_plain rfl, does_build [Bz 0, Tz 0, Bz 0, Tz 0] ty_zero_collatorref02_Frac ty_pl_collatorref02_Frac rfl rfl rfl rfl rfl z_rfrac (.cons 0 [Bz p, Tz p] rfl rfl (ar_cells_agg (ar_tmp (av_rs 2 rfl rfl))) (.cons 2 [Bz q, Tz q] rfl rfl (ar_cells_agg (ar_tmp (av_rs 5 rfl rfl))) (.nil _)))⟩,
    .inl ⟨wants_plain rfl, does_allocOwn [Bz 0, Tz 0, Bz 0, Tz 0] ty_zero_collatorref02_Frac rfl rfl rfl rfl rfl z_rfrac rfl⟩,
    .inl ⟨wants_plain rfl, does_storeNew 4 _ _ ty_agg_collatorref02_Frac rfl rfl rfl rfl rfl (pt_own (av_rs 7 rfl rfl)) (av_rs 7 rfl rfl) (ar_tmp (av_rs 6 rfl rfl))⟩,
    trivial⟩ ?_
  refine nx_sub (fs' := [.box 2 130 [Bz 0, Tz 0, Bz 0, Tz 0], .box 3 130 [Bz p, Tz p, Bz q, Tz q]]) [1, 10] rfl ?_
  refine nx_then ?_
  refine t_seq ?_
  refine t_seq ?_
  refine t_region (F := ⟨_, _, _, _⟩) [.box 2 130 [Bz 0, Tz 0, Bz 0, Tz 0], .box 3 130 [Bz p, Tz p, Bz q, Tz q]] [] [(0, .fp 11 3 2), (1, .fp 12 3 3), (2, .slot 13 (Tz q)), (3, .slot 14 (VP.int .i64 (((dg 10 q.natAbs).length : Nat) : Int))), (4, .slot 15 (VP.bool ((((dg 10 q.natAbs).length : Nat) : Int) == 0)))] [0, 1] [] rfl rfl follow rfl ⟨
    .inl ⟨wants_plain rfl, does_field _ _ _ 2 ty_f1_collatorref02_Frac rfl rfl rfl rfl rfl rfl rfl (pt_box (av_fs 1 rfl))⟩,
    .inl ⟨wants_plain rfl, does_field _ _ _ 1 ty_f1_collatorref01_Num rfl rfl rfl rfl rfl rfl rfl (pt_fp (av_rs 0 rfl rfl))⟩,
    .inl ⟨wants_plain rfl, does_loadOne _ ty_one___int rfl rfl rfl rfl rfl rfl (pt_fp (av_rs 1 rfl rfl)) (av_fs 1 rfl)⟩,
    .inl ⟨wants_plain rfl, does_len _ _ (by kernel_rfl) rfl rfl rfl rfl rfl (ar_tmp (av_rs 2 rfl rfl))⟩,
    .inl ⟨wants_plain rfl, does_cmp (m := (((dg 10 q.natAbs).length : Nat) : Int)) (n := 0) _ _ _ _ _ rfl rfl rfl rfl rfl rfl .i64 (ar_tmp (av_rs 3 rfl rfl)) (ar_const (fun _ => rfl))⟩,
    trivial⟩ ?_
  refine nx_sub (fs' := [.box 2 130 [Bz 0, Tz 0, Bz 0, Tz 0], .box 3 130 [Bz p, Tz p, Bz q, Tz q], .slot 15 (VP.bool ((((dg 10 q.natAbs).length : Nat) : Int) == 0))]) [0, 1, 6] rfl ?_
  refine nx_then ?_
  refine t_cond_te 2 rfl (len10_yes h) ?_
  refine t_region (F := ⟨_, _, _, _⟩) [.box 2 130 [Bz 0, Tz 0, Bz 0, Tz 0], .slot 15 (VP.bool ((((dg 10 q.natAbs).length : Nat) : Int) == 0))] [(2, .box 3 130 [Bz p, Tz p, Bz q, Tz q])] [(0, .slot 16 (NUM 1)), (1, .fp 17 3 2), (2, .box 3 130 [Bz p, Tz p, Bz 1, Tz 1])] [0, 2] [1] rfl rfl follow rfl ⟨
    .inl ⟨wants_plain rfl, does_call (r_int 1 (by decide) (by decide)) rfl hb_collator_collatorref01_Int rfl rfl rfl rfl ⟨(ar_const (fun _ => rfl)), trivial⟩⟩,
    .inl ⟨wants_plain rfl, does_field _ _ _ 2 ty_f1_collatorref02_Frac rfl rfl rfl rfl rfl rfl rfl (pt_box (av_os 0 rfl rfl))⟩,
    .inl ⟨wants_plain rfl, does_storeAgg 2 _ _ ty_agg_collatorref01_Num rfl rfl rfl rfl rfl (pt_fp (av_rs 1 rfl rfl)) (av_os 0 rfl rfl) (ar_tmp (av_rs 0 rfl rfl))⟩,
    trivial⟩ ?_
  refine nx_sub (fs' := [.box 2 130 [Bz 0, Tz 0, Bz 0, Tz 0], .box 3 130 [Bz p, Tz p, Bz 1, Tz 1]]) [0, 4] rfl ?_
  refine nx_then ?_
  refine t_seq ?_
  refine t_region (F := ⟨_, _, _, _⟩) [.box 3 130 [Bz p, Tz p, Bz 1, Tz 1]] [(1, .box 2 130 [Bz 0, Tz 0, Bz 0, Tz 0])] [(0, .slot 18 (VP.agg [Bz p, Tz p, Bz 1, Tz 1])), (1, .box 2 130 [Bz p, Tz p, Bz 1, Tz 1])] [1] [0] rfl rfl follow rfl ⟨
    .inl ⟨wants_plain rfl, does_loadAgg _ ty_agg_collatorref02_Frac rfl rfl rfl rfl rfl rfl (pt_box (av_fs 0 rfl)) (av_fs 0 rfl)⟩,
    .inl ⟨wants_plain rfl, does_storeAgg 4 _ _ ty_agg_collatorref02_Frac rfl rfl rfl rfl rfl (pt_box (av_os 0 rfl rfl)) (av_os 0 rfl rfl) (ar_tmp (av_rs 0 rfl rfl))⟩,
    trivial⟩ ?_
  refine nx_sub (fs' := [.box 2 130 [Bz p, Tz p, Bz 1, Tz 1]]) [2] rfl ?_
  refine nx_then ?_
  refine t_ret ?_
  exact rt_one rfl (res_agg 0 ty_agg_collatorref02_Frac rfl)
set_option maxRecDepth 100000 in
set_option maxHeartbeats 4000000 in
theorem g_of2 (p q : Int) (hp : L p ≤ 1000) (hq : L q ≤ 1000) (h : q ≠ 0) : Spec Try.prog 93 [(VP.agg [Bz p, Dz p, Bz q, Dz q]).p] (VP.agg [Bz p, Tz p, Bz q, Tz q]) := by
  refine spec_of (xs := [VP.agg [Bz p, Dz p, Bz q, Dz q]]) 19 [1, 2, 3] Try.func93 rfl Try.ntmps93 rfl fun w0 => ?_
  refine t_seq ?_
  refine t_region (F := ⟨_, _, _, _⟩) [.slot 0 (VP.agg [Bz p, Dz p, Bz q, Dz q])] [] [(0, .box 1 100 [Bz p, Dz p, Bz q, Dz q]), (1, .box 2 130 [Bz 0, Tz 0, Bz 0, Tz 0])] [0] [] rfl rfl follow rfl ⟨
    .inl ⟨wants_plain rfl, does_box _ rfl rfl rfl rfl rfl (ar_tmp (av_fs 0 rfl))⟩,
    .inl ⟨wants_plain rfl, does_alloc ty_zero_collatorref02_Frac rfl rfl rfl rfl rfl z_rfrac⟩,
    trivial⟩ ?_
  refine nx_sub (fs' := [.box 1 100 [Bz p, Dz p, Bz q, Dz q], .box 2 130 [Bz 0, Tz 0, Bz 0, Tz 0]]) [1, 2] rfl ?_
  refine nx_then ?_
  refine t_seq ?_
  refine t_region (F := ⟨_, _, _, _⟩) [.box 1 100 [Bz p, Dz p, Bz q, Dz q], .box 2 130 [Bz 0, Tz 0, Bz 0, Tz 0]] [] [(0, .fp 4 1 0), (1, .slot 5 (INT p)), (2, .slot 6 (NUM p)), (3, .fp 7 1 2), (4, .slot 8 (INT q)), (5, .slot 9 (NUM q)), (6, .slot 10 (VP.agg [Bz p, Tz p, Bz q, Tz q])), (7, .own 3 130 4), (8, .box 3 130 [Bz p, Tz p, Bz q, Tz q])] [0, 1] [] rfl rfl follow rfl ⟨
    .inl ⟨wants_plain rfl, does_field _ _ _ 0 ty_f0_api_Frac rfl rfl rfl rfl rfl rfl rfl (pt_box (av_fs 0 rfl))⟩,
    .inl ⟨wants_plain rfl, does_loadAgg _ ty_agg_api_Int rfl rfl rfl rfl rfl rfl (pt_fp (av_rs 0 rfl rfl)) (av_fs 0 rfl)⟩,
    .inl ⟨wants_plain rfl, does_call (r_of p (lle hp (by decide))) rfl hb_collator_collatorref01_Of rfl rfl rfl rfl ⟨(ar_tmp (av_rs 1 rfl rfl)), trivial⟩⟩,
    .inl ⟨wants_plain rfl, does_field _ _ _ 2 ty_f1_api_Frac rfl rfl rfl rfl rfl rfl rfl (pt_box (av_fs 0 rfl))⟩,
    .inl ⟨wants_plain rfl, does_loadAgg _ ty_agg_api_Int rfl rfl rfl rfl rfl rfl (pt_fp (av_rs 3 rfl rfl)) (av_fs 0 rfl)⟩,
    .inl ⟨wants_plain rfl, does_call (r_of q (lle hq (by decide))) rfl hb_collator_collatorref01_Of rfl rfl rfl rfl ⟨(ar_tmp (av_rs 4 rfl rfl)), trivial⟩⟩,
    .inl ⟨wants_plain rfl, does_build [Bz 0, Tz 0, Bz 0, Tz 0] ty_zero_collatorref02_Frac ty_pl_collatorref02_Frac rfl rfl rfl rfl rfl z_rfrac (.cons 0 [Bz p, Tz p] rfl rfl (ar_cells_agg (ar_tmp (av_rs 2 rfl rfl))) (.cons 2 [Bz q, Tz q] rfl rfl (ar_cells_agg (ar_tmp (av_rs 5 rfl rfl))) (.nil _)))⟩,
    .inl ⟨wants_plain rfl, does_allocOwn [Bz 0, Tz 0, Bz 0, Tz 0] ty_zero_collatorref02_Frac rfl rfl rfl rfl rfl z_rfrac rfl⟩,
    .inl ⟨wants_plain rfl, does_storeNew 4 _ _ ty_agg_collatorref02_Frac rfl rfl rfl rfl rfl (pt_own (av_rs 7 rfl rfl)) (av_rs 7 rfl rfl) (ar_tmp (av_rs 6 rfl rfl))⟩,
    trivial⟩ ?_
  refine nx_sub (fs' := [.box 2 130 [Bz 0, Tz 0, Bz 0, Tz 0], .box 3 130 [Bz p, Tz p, Bz q, Tz q]]) [1, 10] rfl ?_
  refine nx_then ?_
  refine t_seq ?_
  refine t_seq ?_
  refine t_region (F := ⟨_, _, _, _⟩) [.box 2 130 [Bz 0, Tz 0, Bz 0, Tz 0], .box 3 130 [Bz p, Tz p, Bz q, Tz q]] [] [(0, .fp 11 3 2), (1, .fp 12 3 3), (2, .slot 13 (Tz q)), (3, .slot 14 (VP.int .i64 (((dg 10 q.natAbs).length : Nat) : Int))), (4, .slot 15 (VP.bool ((((dg 10 q.natAbs).length : Nat) : Int) == 0)))] [0, 1] [] rfl rfl follow rfl ⟨
    .inl ⟨wants_plain rfl, does_field _ _ _ 2 ty_f1_collatorref02_Frac rfl rfl rfl rfl rfl rfl rfl (pt_box (av_fs 1 rfl))⟩,
    .inl ⟨wants_plain rfl, does_field _ _ _ 1 ty_f1_collatorref01_Num rfl rfl rfl rfl rfl rfl rfl (pt_fp (av_rs 0 rfl rfl))⟩,
    .inl ⟨wants_plain rfl, does_loadOne _ ty_one___int rfl rfl rfl rfl rfl rfl (pt_fp (av_rs 1 rfl rfl)) (av_fs 1 rfl)⟩,
    .inl ⟨wants_plain rfl, does_len _ _ (by kernel_rfl) rfl rfl rfl rfl rfl (ar_tmp (av_rs 2 rfl rfl))⟩,
    .inl ⟨wants_plain rfl, does_cmp (m := (((dg 10 q.natAbs).length : Nat) : Int)) (n := 0) _ _ _ _ _ rfl rfl rfl rfl rfl rfl .i64 (ar_tmp (av_rs 3 rfl rfl)) (ar_const (fun _ => rfl))⟩,
    trivial⟩ ?_
  refine nx_sub (fs' := [.box 2 130 [Bz 0, Tz 0, Bz 0, Tz 0], .box 3 130 [Bz p, Tz p, Bz q, Tz q], .slot 15 (VP.bool ((((dg 10 q.natAbs).length : Nat) : Int) == 0))]) [0, 1, 6] rfl ?_
  refine nx_then ?_
  refine t_cond_fe 2 rfl (len10_no h) ?_
  refine t_skip ?_
  refine nx_then ?_
  refine t_seq ?_
  refine t_region (F := ⟨_, _, _, _⟩) [.box 3 130 [Bz p, Tz p, Bz q, Tz q], .slot 15 (VP.bool ((((dg 10 q.natAbs).length : Nat) : Int) == 0))] [(1, .box 2 130 [Bz 0, Tz 0, Bz 0, Tz 0])] [(0, .slot 18 (VP.agg [Bz p, Tz p, Bz q, Tz q])), (1, .box 2 130 [Bz p, Tz p, Bz q, Tz q])] [1, 2] [0] rfl rfl follow rfl ⟨
    .inl ⟨wants_plain rfl, does_loadAgg _ ty_agg_collatorref02_Frac rfl rfl rfl rfl rfl rfl (pt_box (av_fs 0 rfl)) (av_fs 0 rfl)⟩,
    .inl ⟨wants_plain rfl, does_storeAgg 4 _ _ ty_agg_collatorref02_Frac rfl rfl rfl rfl rfl (pt_box (av_os 0 rfl rfl)) (av_os 0 rfl rfl) (ar_tmp (av_rs 0 rfl rfl))⟩,
    trivial⟩ ?_
  refine nx_sub (fs' := [.box 2 130 [Bz p, Tz p, Bz q, Tz q]]) [3] rfl ?_
  refine nx_then ?_
  refine t_ret ?_
  exact rt_one rfl (res_agg 0 ty_agg_collatorref02_Frac rfl)
theorem g_of (p q : Int) (hp : L p ≤ 1000) (hq : L q ≤ 1000) : Spec Try.prog 93 [(VP.agg [Bz p, Dz p, Bz q, Dz q]).p] (VP.agg [Bz p, Tz p, Bz (und q), Tz (und q)]) := by
  by_cases h : q = 0
  · rw [show und q = 1 from if_pos h]; exact g_of1 p q hp hq h
  · rw [show und q = q from if_neg h]; exact g_of2 p q hp hq h
set_option maxRecDepth 100000 in
set_option maxHeartbeats 4000000 in
theorem g_int (n : Int) (hn1 : -4611686018427387904 ≤ n) (hn2 : n ≤ 4611686018427387904) : Spec Try.prog 150 [(VP.int .i64 n).p] (VP.agg [Bz n, Tz n, Bz 1, Tz 1]) := by
  refine spec_of (xs := [VP.int .i64 n]) 7 [2] Try.func150 rfl Try.ntmps150 rfl fun w0 => ?_
  refine t_seq ?_
  refine t_region (F := ⟨_, _, _, _⟩) [.slot 0 (VP.int .i64 n)] [] [(0, .box 2 130 [Bz 0, Tz 0, Bz 0, Tz 0])] [0] [] rfl rfl follow rfl ⟨
    .inl ⟨wants_plain rfl, does_alloc ty_zero_collatorref02_Frac rfl rfl rfl rfl rfl z_rfrac⟩,
    trivial⟩ ?_
  refine nx_sub (fs' := [.slot 0 (VP.int .i64 n), .box 2 130 [Bz 0, Tz 0, Bz 0, Tz 0]]) [0, 1] rfl ?_
  refine nx_then ?_
  refine t_seq ?_
  refine t_region (F := ⟨_, _, _, _⟩) [.slot 0 (VP.int .i64 n)] [(4, .box 2 130 [Bz 0, Tz 0, Bz 0, Tz 0])] [(0, .slot 3 (VP.int .i64 n)), (1, .slot 4 (NUM n)), (2, .slot 5 (NUM 1)), (3, .slot 6 (VP.agg [Bz n, Tz n, Bz 1, Tz 1])), (4, .box 2 130 [Bz n, Tz n, Bz 1, Tz 1])] [0] [1] rfl rfl follow rfl ⟨
    .inl ⟨wants_plain rfl, does_move _ (.inl rfl) rfl rfl rfl rfl (ar_tmp (av_fs 0 rfl))⟩,
    .inl ⟨wants_plain rfl, does_call (r_int n hn1 hn2) rfl hb_collator_collatorref01_Int rfl rfl rfl rfl ⟨(ar_tmp (av_rs 0 rfl rfl)), trivial⟩⟩,
    .inl ⟨wants_plain rfl, does_call (r_int 1 (by decide) (by decide)) rfl hb_collator_collatorref01_Int rfl rfl rfl rfl ⟨(ar_const (fun _ => rfl)), trivial⟩⟩,
    .inl ⟨wants_plain rfl, does_build [Bz 0, Tz 0, Bz 0, Tz 0] ty_zero_collatorref02_Frac ty_pl_collatorref02_Frac rfl rfl rfl rfl rfl z_rfrac (.cons 0 [Bz n, Tz n] rfl rfl (ar_cells_agg (ar_tmp (av_rs 1 rfl rfl))) (.cons 2 [Bz 1, Tz 1] rfl rfl (ar_cells_agg (ar_tmp (av_rs 2 rfl rfl))) (.nil _)))⟩,
    .inl ⟨wants_plain rfl, does_storeAgg 4 _ _ ty_agg_collatorref02_Frac rfl rfl rfl rfl rfl (pt_box (av_os 0 rfl rfl)) (av_os 0 rfl rfl) (ar_tmp (av_rs 3 rfl rfl))⟩,
    trivial⟩ ?_
  refine nx_sub (fs' := [.box 2 130 [Bz n, Tz n, Bz 1, Tz 1]]) [5] rfl ?_
  refine nx_then ?_
  refine t_ret ?_
  exact rt_one rfl (res_agg 0 ty_agg_collatorref02_Frac rfl)
set_option maxRecDepth 100000 in
set_option maxHeartbeats 4000000 in
theorem g_make1 (x y : Int) (_hx : L x ≤ 5000) (_hy : L y ≤ 5000) (h : y = 0) : Spec Try.prog 92 [(NUM x).p, (NUM y).p] (VP.agg [Bz 0, Tz 0, Bz 1, Tz 1]) := by
  refine spec_of (xs := [NUM x, NUM y]) 45 [2, 3, 4, 5, 6, 7, 8, 9] Try.func92 rfl Try.ntmps92 rfl fun w0 => ?_
  refine t_seq ?_
  refine t_region (F := ⟨_, _, _, _⟩) [.slot 0 (NUM x), .slot 1 (NUM y)] [] [(0, .box 2 72 [Bz x, Tz x]), (1, .box 3 72 [Bz y, Tz y]), (2, .box 4 130 [Bz 0, Tz 0, Bz 0, Tz 0])] [0, 1] [] rfl rfl follow rfl ⟨
    .inl ⟨wants_plain rfl, does_box _ rfl rfl rfl rfl rfl (ar_tmp (av_fs 0 rfl))⟩,
    .inl ⟨wants_plain rfl, does_box _ rfl rfl rfl rfl rfl (ar_tmp (av_fs 1 rfl))⟩,
    .inl ⟨wants_plain rfl, does_alloc ty_zero_collatorref02_Frac rfl rfl rfl rfl rfl z_rfrac⟩,
    trivial⟩ ?_
  refine nx_sub (fs' := [.box 2 72 [Bz x, Tz x], .box 3 72 [Bz y, Tz y], .box 4 130 [Bz 0, Tz 0, Bz 0, Tz 0]]) [2, 3, 4] rfl ?_
  refine nx_then ?_
  refine t_seq ?_
  refine t_seq ?_
  refine t_region (F := ⟨_, _, _, _⟩) [.box 2 72 [Bz x, Tz x], .box 3 72 [Bz y, Tz y], .box 4 130 [Bz 0, Tz 0, Bz 0, Tz 0]] [] [(0, .fp 10 3 1), (1, .slot 11 (Tz y)), (2, .slot 12 (VP.int .i64 (((dg 10 y.natAbs).length : Nat) : Int))), (3, .slot 13 (VP.bool ((((dg 10 y.natAbs).length : Nat) : Int) == 0))), (4, .slot 14 (VP.bool ((((dg 10 y.natAbs).length : Nat) : Int) == 0))), (9, .slot 19 (VP.bool true))] [0, 1, 2] [] rfl rfl follow rfl ⟨
    .inl ⟨wants_plain rfl, does_field _ _ _ 1 ty_f1_collatorref01_Num rfl rfl rfl rfl rfl rfl rfl (pt_box (av_fs 1 rfl))⟩,
    .inl ⟨wants_plain rfl, does_loadOne _ ty_one___int rfl rfl rfl rfl rfl rfl (pt_fp (av_rs 0 rfl rfl)) (av_fs 1 rfl)⟩,
    .inl ⟨wants_plain rfl, does_len _ _ (by kernel_rfl) rfl rfl rfl rfl rfl (ar_tmp (av_rs 1 rfl rfl))⟩,
    .inl ⟨wants_plain rfl, does_cmp (m := (((dg 10 y.natAbs).length : Nat) : Int)) (n := 0) _ _ _ _ _ rfl rfl rfl rfl rfl rfl .i64 (ar_tmp (av_rs 2 rfl rfl)) (ar_const (fun _ => rfl))⟩,
    .inl ⟨wants_plain rfl, does_move _ (.inl rfl) rfl rfl rfl rfl (ar_tmp (av_rs 3 rfl rfl))⟩,
    .inr (skips_guard true rfl rfl rfl (av_bool (len10_yes h) (av_rs 4 rfl rfl)) rfl rfl rfl rfl),
    .inr (skips_guard true rfl rfl rfl (av_bool (len10_yes h) (av_rs 4 rfl rfl)) rfl rfl rfl rfl),
    .inr (skips_guard true rfl rfl rfl (av_bool (len10_yes h) (av_rs 4 rfl rfl)) rfl rfl rfl rfl),
    .inr (skips_guard true rfl rfl rfl (av_bool (len10_yes h) (av_rs 4 rfl rfl)) rfl rfl rfl rfl),
    .inl ⟨wants_plain rfl, does_pick true _ _ _ rfl rfl rfl rfl rfl (ar_tmp (av_bool (len10_yes h) (av_rs 4 rfl rfl))) (ar_const (fun _ => rfl))⟩,
    trivial⟩ ?_
  refine nx_sub (fs' := [.box 2 72 [Bz x, Tz x], .box 3 72 [Bz y, Tz y], .box 4 130 [Bz 0, Tz 0, Bz 0, Tz 0], .slot 19 (VP.bool true)]) [0, 1, 2, 8] rfl ?_
  refine nx_then ?_
  refine t_cond_t 3 rfl ?_
  refine t_seq ?_
  refine t_region (F := ⟨_, _, _, _⟩) [.box 2 72 [Bz x, Tz x], .box 3 72 [Bz y, Tz y], .slot 19 (VP.bool true)] [(1, .box 4 130 [Bz 0, Tz 0, Bz 0, Tz 0])] [(0, .slot 20 (VP.agg [Bz 0, Tz 0, Bz 1, Tz 1])), (1, .box 4 130 [Bz 0, Tz 0, Bz 1, Tz 1])] [0, 1, 3] [2] rfl rfl follow rfl ⟨
    .inl ⟨wants_plain rfl, does_call (g_int 0 (by decide) (by decide)) rfl hb_collator_collatorref02_Int rfl rfl rfl rfl ⟨(ar_const (fun _ => rfl)), trivial⟩⟩,
    .inl ⟨wants_plain rfl, does_storeAgg 4 _ _ ty_agg_collatorref02_Frac rfl rfl rfl rfl rfl (pt_box (av_os 0 rfl rfl)) (av_os 0 rfl rfl) (ar_tmp (av_rs 0 rfl rfl))⟩,
    trivial⟩ ?_
  refine nx_sub (fs' := [.box 2 72 [Bz x, Tz x], .box 3 72 [Bz y, Tz y], .box 4 130 [Bz 0, Tz 0, Bz 1, Tz 1]]) [0, 1, 4] rfl ?_
  refine nx_then ?_
  refine t_ret ?_
  refine rt_then ?_
  exact rt_one rfl (res_agg 2 ty_agg_collatorref02_Frac rfl)
set_option maxRecDepth 100000 in
set_option maxHeartbeats 4000000 in
theorem g_make2 (x y : Int) (_hx : L x ≤ 5000) (_hy : L y ≤ 5000) (h : y ≠ 0) (k : x = 0) : Spec Try.prog 92 [(NUM x).p, (NUM y).p] (VP.agg [Bz 0, Tz 0, Bz 1, Tz 1]) := by
  refine spec_of (xs := [NUM x, NUM y]) 45 [2, 3, 4, 5, 6, 7, 8, 9] Try.func92 rfl Try.ntmps92 rfl fun w0 => ?_
  refine t_seq ?_
  refine t_region (F := ⟨_, _, _, _⟩) [.slot 0 (NUM x), .slot 1 (NUM y)] [] [(0, .box 2 72 [Bz x, Tz x]), (1, .box 3 72 [Bz y, Tz y]), (2, .box 4 130 [Bz 0, Tz 0, Bz 0, Tz 0])] [0, 1] [] rfl rfl follow rfl ⟨
    .inl ⟨wants_plain rfl, does_box _ rfl rfl rfl rfl rfl (ar_tmp (av_fs 0 rfl))⟩,
    .inl ⟨wants_plain rfl, does_box _ rfl rfl rfl rfl rfl (ar_tmp (av_fs 1 rfl))⟩,
    .inl ⟨wants_plain rfl, does_alloc ty_zero_collatorref02_Frac rfl rfl rfl rfl rfl z_rfrac⟩,
    trivial⟩ ?_
  refine nx_sub (fs' := [.box 2 72 [Bz x, Tz x], .box 3 72 [Bz y, Tz y], .box 4 130 [Bz 0, Tz 0, Bz 0, Tz 0]]) [2, 3, 4] rfl ?_
  refine nx_then ?_
  refine t_seq ?_
  refine t_seq ?_
  refine t_region (F := ⟨_, _, _, _⟩) [.box 2 72 [Bz x, Tz x], .box 3 72 [Bz y, Tz y], .box 4 130 [Bz 0, Tz 0, Bz 0, Tz 0]] [] [(0, .fp 10 3 1), (1, .slot 11 (Tz y)), (2, .slot 12 (VP.int .i64 (((dg 10 y.natAbs).length : Nat) : Int))), (3, .slot 13 (VP.bool ((((dg 10 y.natAbs).length : Nat) : Int) == 0))), (4, .slot 14 (VP.bool ((((dg 10 y.natAbs).length : Nat) : Int) == 0))), (5, .fp 15 2 1), (6, .slot 16 (Tz x)), (7, .slot 17 (VP.int .i64 (((dg 10 x.natAbs).length : Nat) : Int))), (8, .slot 18 (VP.bool ((((dg 10 x.natAbs).length : Nat) : Int) == 0))), (9, .slot 19 (VP.bool ((((dg 10 x.natAbs).length : Nat) : Int) == 0)))] [0, 1, 2] [] rfl rfl follow rfl ⟨
    .inl ⟨wants_plain rfl, does_field _ _ _ 1 ty_f1_collatorref01_Num rfl rfl rfl rfl rfl rfl rfl (pt_box (av_fs 1 rfl))⟩,
    .inl ⟨wants_plain rfl, does_loadOne _ ty_one___int rfl rfl rfl rfl rfl rfl (pt_fp (av_rs 0 rfl rfl)) (av_fs 1 rfl)⟩,
    .inl ⟨wants_plain rfl, does_len _ _ (by kernel_rfl) rfl rfl rfl rfl rfl (ar_tmp (av_rs 1 rfl rfl))⟩,
    .inl ⟨wants_plain rfl, does_cmp (m := (((dg 10 y.natAbs).length : Nat) : Int)) (n := 0) _ _ _ _ _ rfl rfl rfl rfl rfl rfl .i64 (ar_tmp (av_rs 2 rfl rfl)) (ar_const (fun _ => rfl))⟩,
    .inl ⟨wants_plain rfl, does_move _ (.inl rfl) rfl rfl rfl rfl (ar_tmp (av_rs 3 rfl rfl))⟩,
    .inl ⟨wants_guard false rfl rfl rfl (av_bool (len10_no h) (av_rs 4 rfl rfl)), does_field _ _ _ 1 ty_f1_collatorref01_Num rfl rfl rfl rfl rfl rfl rfl (pt_box (av_fs 0 rfl))⟩,
    .inl ⟨wants_guard false rfl rfl rfl (av_bool (len10_no h) (av_rs 4 rfl rfl)), does_loadOne _ ty_one___int rfl rfl rfl rfl rfl rfl (pt_fp (av_rs 5 rfl rfl)) (av_fs 0 rfl)⟩,
    .inl ⟨wants_guard false rfl rfl rfl (av_bool (len10_no h) (av_rs 4 rfl rfl)), does_len _ _ (by kernel_rfl) rfl rfl rfl rfl rfl (ar_tmp (av_rs 6 rfl rfl))⟩,
    .inl ⟨wants_guard false rfl rfl rfl (av_bool (len10_no h) (av_rs 4 rfl rfl)), does_cmp (m := (((dg 10 x.natAbs).length : Nat) : Int)) (n := 0) _ _ _ _ _ rfl rfl rfl rfl rfl rfl .i64 (ar_tmp (av_rs 7 rfl rfl)) (ar_const (fun _ => rfl))⟩,
    .inl ⟨wants_plain rfl, does_pick false _ _ _ rfl rfl rfl rfl rfl (ar_tmp (av_bool (len10_no h) (av_rs 4 rfl rfl))) (ar_tmp (av_rs 8 rfl rfl))⟩,
    trivial⟩ ?_
  refine nx_sub (fs' := [.box 2 72 [Bz x, Tz x], .box 3 72 [Bz y, Tz y], .box 4 130 [Bz 0, Tz 0, Bz 0, Tz 0], .slot 19 (VP.bool ((((dg 10 x.natAbs).length : Nat) : Int) == 0))]) [0, 1, 2, 12] rfl ?_
  refine nx_then ?_
  refine t_cond_te 3 rfl (len10_yes k) ?_
  refine t_seq ?_
  refine t_region (F := ⟨_, _, _, _⟩) [.box 2 72 [Bz x, Tz x], .box 3 72 [Bz y, Tz y], .slot 19 (VP.bool ((((dg 10 x.natAbs).length : Nat) : Int) == 0))] [(1, .box 4 130 [Bz 0, Tz 0, Bz 0, Tz 0])] [(0, .slot 20 (VP.agg [Bz 0, Tz 0, Bz 1, Tz 1])), (1, .box 4 130 [Bz 0, Tz 0, Bz 1, Tz 1])] [0, 1, 3] [2] rfl rfl follow rfl ⟨
    .inl ⟨wants_plain rfl, does_call (g_int 0 (by decide) (by decide)) rfl hb_collator_collatorref02_Int rfl rfl rfl rfl ⟨(ar_const (fun _ => rfl)), trivial⟩⟩,
    .inl ⟨wants_plain rfl, does_storeAgg 4 _ _ ty_agg_collatorref02_Frac rfl rfl rfl rfl rfl (pt_box (av_os 0 rfl rfl)) (av_os 0 rfl rfl) (ar_tmp (av_rs 0 rfl rfl))⟩,
    trivial⟩ ?_
  refine nx_sub (fs' := [.box 2 72 [Bz x, Tz x], .box 3 72 [Bz y, Tz y], .box 4 130 [Bz 0, Tz 0, Bz 1, Tz 1]]) [0, 1, 4] rfl ?_
  refine nx_then ?_
  refine t_ret ?_
  refine rt_then ?_
  exact rt_one rfl (res_agg 2 ty_agg_collatorref02_Frac rfl)
set_option maxRecDepth 100000 in
set_option maxHeartbeats 4000000 in
theorem g_make3 (x y : Int) (hx : L x ≤ 5000) (hy : L y ≤ 5000) (h : y ≠ 0) (k : x ≠ 0) (hn : y < 0) : Spec Try.prog 92 [(NUM x).p, (NUM y).p] (VP.agg [Bz (divZ (-x) (gcdZ (-x) (-y))), Tz (divZ (-x) (gcdZ (-x) (-y))), Bz (divZ (-y) (gcdZ (-x) (-y))), Tz (divZ (-y) (gcdZ (-x) (-y)))]) := by
  refine spec_of (xs := [NUM x, NUM y]) 45 [2, 3, 4, 5, 6, 7, 8, 9] Try.func92 rfl Try.ntmps92 rfl fun w0 => ?_
  refine t_seq ?_
  refine t_region (F := ⟨_, _, _, _⟩) [.slot 0 (NUM x), .slot 1 (NUM y)] [] [(0, .box 2 72 [Bz x, Tz x]), (1, .box 3 72 [Bz y, Tz y]), (2, .box 4 130 [Bz 0, Tz 0, Bz 0, Tz 0])] [0, 1] [] rfl rfl follow rfl ⟨
    .inl ⟨wants_plain rfl, does_box _ rfl rfl rfl rfl rfl (ar_tmp (av_fs 0 rfl))⟩,
    .inl ⟨wants_plain rfl, does_box _ rfl rfl rfl rfl rfl (ar_tmp (av_fs 1 rfl))⟩,
    .inl ⟨wants_plain rfl, does_alloc ty_zero_collatorref02_Frac rfl rfl rfl rfl rfl z_rfrac⟩,
    trivial⟩ ?_
  refine nx_sub (fs' := [.box 2 72 [Bz x, Tz x], .box 3 72 [Bz y, Tz y], .box 4 130 [Bz 0, Tz 0, Bz 0, Tz 0]]) [2, 3, 4] rfl ?_
  refine nx_then ?_
  refine t_seq ?_
  refine t_seq ?_
  refine t_region (F := ⟨_, _, _, _⟩) [.box 2 72 [Bz x, Tz x], .box 3 72 [Bz y, Tz y], .box 4 130 [Bz 0, Tz 0, Bz 0, Tz 0]] [] [(0, .fp 10 3 1), (1, .slot 11 (Tz y)), (2, .slot 12 (VP.int .i64 (((dg 10 y.natAbs).length : Nat) : Int))), (3, .slot 13 (VP.bool ((((dg 10 y.natAbs).length : Nat) : Int) == 0))), (4, .slot 14 (VP.bool ((((dg 10 y.natAbs).length : Nat) : Int) == 0))), (5, .fp 15 2 1), (6, .slot 16 (Tz x)), (7, .slot 17 (VP.int .i64 (((dg 10 x.natAbs).length : Nat) : Int))), (8, .slot 18 (VP.bool ((((dg 10 x.natAbs).length : Nat) : Int) == 0))), (9, .slot 19 (VP.bool ((((dg 10 x.natAbs).length : Nat) : Int) == 0)))] [0, 1, 2] [] rfl rfl follow rfl ⟨
    .inl ⟨wants_plain rfl, does_field _ _ _ 1 ty_f1_collatorref01_Num rfl rfl rfl rfl rfl rfl rfl (pt_box (av_fs 1 rfl))⟩,
    .inl ⟨wants_plain rfl, does_loadOne _ ty_one___int rfl rfl rfl rfl rfl rfl (pt_fp (av_rs 0 rfl rfl)) (av_fs 1 rfl)⟩,
    .inl ⟨wants_plain rfl, does_len _ _ (by kernel_rfl) rfl rfl rfl rfl rfl (ar_tmp (av_rs 1 rfl rfl))⟩,
    .inl ⟨wants_plain rfl, does_cmp (m := (((dg 10 y.natAbs).length : Nat) : Int)) (n := 0) _ _ _ _ _ rfl rfl rfl rfl rfl rfl .i64 (ar_tmp (av_rs 2 rfl rfl)) (ar_const (fun _ => rfl))⟩,
    .inl ⟨wants_plain rfl, does_move _ (.inl rfl) rfl rfl rfl rfl (ar_tmp (av_rs 3 rfl rfl))⟩,
    .inl ⟨wants_guard false rfl rfl rfl (av_bool (len10_no h) (av_rs 4 rfl rfl)), does_field _ _ _ 1 ty_f1_collatorref01_Num rfl rfl rfl rfl rfl rfl rfl (pt_box (av_fs 0 rfl))⟩,
    .inl ⟨wants_guard false rfl rfl rfl (av_bool (len10_no h) (av_rs 4 rfl rfl)), does_loadOne _ ty_one___int rfl rfl rfl rfl rfl rfl (pt_fp (av_rs 5 rfl rfl)) (av_fs 0 rfl)⟩,
    .inl ⟨wants_guard false rfl rfl rfl (av_bool (len10_no h) (av_rs 4 rfl rfl)), does_len _ _ (by kernel_rfl) rfl rfl rfl rfl rfl (ar_tmp (av_rs 6 rfl rfl))⟩,
    .inl ⟨wants_guard false rfl rfl rfl (av_bool (len10_no h) (av_rs 4 rfl rfl)), does_cmp (m := (((dg 10 x.natAbs).length : Nat) : Int)) (n := 0) _ _ _ _ _ rfl rfl rfl rfl rfl rfl .i64 (ar_tmp (av_rs 7 rfl rfl)) (ar_const (fun _ => rfl))⟩,
    .inl ⟨wants_plain rfl, does_pick false _ _ _ rfl rfl rfl rfl rfl (ar_tmp (av_bool (len10_no h) (av_rs 4 rfl rfl))) (ar_tmp (av_rs 8 rfl rfl))⟩,
    trivial⟩ ?_
  refine nx_sub (fs' := [.box 2 72 [Bz x, Tz x], .box 3 72 [Bz y, Tz y], .box 4 130 [Bz 0, Tz 0, Bz 0, Tz 0], .slot 19 (VP.bool ((((dg 10 x.natAbs).length : Nat) : Int) == 0))]) [0, 1, 2, 12] rfl ?_
  refine nx_then ?_
  refine t_cond_fe 3 rfl (len10_no k) ?_
  refine t_skip ?_
  refine nx_then ?_
  refine t_seq ?_
  refine t_seq ?_
  refine t_region (F := ⟨_, _, _, _⟩) [.box 2 72 [Bz x, Tz x], .box 3 72 [Bz y, Tz y], .box 4 130 [Bz 0, Tz 0, Bz 0, Tz 0], .slot 19 (VP.bool ((((dg 10 x.natAbs).length : Nat) : Int) == 0))] [] [(0, .fp 21 3 0), (1, .slot 22 (Bz y))] [0, 1, 2, 3] [] rfl rfl follow rfl ⟨
    .inl ⟨wants_plain rfl, does_field _ _ _ 0 ty_f0_collatorref01_Num rfl rfl rfl rfl rfl rfl rfl (pt_box (av_fs 1 rfl))⟩,
    .inl ⟨wants_plain rfl, does_loadOne _ ty_one_bool rfl rfl rfl rfl rfl rfl (pt_fp (av_rs 0 rfl rfl)) (av_fs 1 rfl)⟩,
    trivial⟩ ?_
  refine nx_sub (fs' := [.box 2 72 [Bz x, Tz x], .box 3 72 [Bz y, Tz y], .box 4 130 [Bz 0, Tz 0, Bz 0, Tz 0], .slot 22 (Bz y)]) [0, 1, 2, 5] rfl ?_
  refine nx_then ?_
  refine t_cond_te 3 rfl (decide_eq_true hn) ?_
  refine t_seq ?_
  refine t_region (F := ⟨_, _, _, _⟩) [.box 3 72 [Bz y, Tz y], .box 4 130 [Bz 0, Tz 0, Bz 0, Tz 0], .slot 22 (Bz y)] [(2, .box 2 72 [Bz x, Tz x])] [(0, .slot 23 (NUM x)), (1, .slot 24 (NUM (-x))), (2, .box 2 72 [Bz (-x), Tz (-x)])] [1, 2, 3] [0] rfl rfl follow rfl ⟨
    .inl ⟨wants_plain rfl, does_loadAgg _ ty_agg_collatorref01_Num rfl rfl rfl rfl rfl rfl (pt_box (av_os 0 rfl rfl)) (av_os 0 rfl rfl)⟩,
    .inl ⟨wants_plain rfl, does_call (r_neg x) rfl hb_collator_collatorref01_Neg rfl rfl rfl rfl ⟨(ar_tmp (av_rs 0 rfl rfl)), trivial⟩⟩,
    .inl ⟨wants_plain rfl, does_storeAgg 2 _ _ ty_agg_collatorref01_Num rfl rfl rfl rfl rfl (pt_box (av_os 0 rfl rfl)) (av_os 0 rfl rfl) (ar_tmp (av_rs 1 rfl rfl))⟩,
    trivial⟩ ?_
  refine nx_sub (fs' := [.box 3 72 [Bz y, Tz y], .box 4 130 [Bz 0, Tz 0, Bz 0, Tz 0], .box 2 72 [Bz (-x), Tz (-x)]]) [0, 1, 5] rfl ?_
  refine nx_then ?_
  refine t_region (F := ⟨_, _, _, _⟩) [.box 4 130 [Bz 0, Tz 0, Bz 0, Tz 0], .box 2 72 [Bz (-x), Tz (-x)]] [(2, .box 3 72 [Bz y, Tz y])] [(0, .slot 25 (NUM y)), (1, .slot 26 (NUM (-y))), (2, .box 3 72 [Bz (-y), Tz (-y)])] [1, 2] [0] rfl rfl follow rfl ⟨
    .inl ⟨wants_plain rfl, does_loadAgg _ ty_agg_collatorref01_Num rfl rfl rfl rfl rfl rfl (pt_box (av_os 0 rfl rfl)) (av_os 0 rfl rfl)⟩,
    .inl ⟨wants_plain rfl, does_call (r_neg y) rfl hb_collator_collatorref01_Neg rfl rfl rfl rfl ⟨(ar_tmp (av_rs 0 rfl rfl)), trivial⟩⟩,
    .inl ⟨wants_plain rfl, does_storeAgg 2 _ _ ty_agg_collatorref01_Num rfl rfl rfl rfl rfl (pt_box (av_os 0 rfl rfl)) (av_os 0 rfl rfl) (ar_tmp (av_rs 1 rfl rfl))⟩,
    trivial⟩ ?_
  refine nx_sub (fs' := [.box 4 130 [Bz 0, Tz 0, Bz 0, Tz 0], .box 2 72 [Bz (-x), Tz (-x)], .box 3 72 [Bz (-y), Tz (-y)]]) [0, 1, 4] rfl ?_
  refine nx_then ?_
  refine t_seq ?_
  refine t_region (F := ⟨_, _, _, _⟩) [.box 4 130 [Bz 0, Tz 0, Bz 0, Tz 0], .box 2 72 [Bz (-x), Tz (-x)], .box 3 72 [Bz (-y), Tz (-y)]] [] [(0, .slot 27 (NUM (-x))), (1, .slot 28 (NUM (-y))), (2, .slot 29 (NUM (gcdZ (-x) (-y)))), (3, .own 5 72 2), (4, .box 5 72 [Bz (gcdZ (-x) (-y)), Tz (gcdZ (-x) (-y))])] [0, 1, 2] [] rfl rfl follow rfl ⟨
    .inl ⟨wants_plain rfl, does_loadAgg _ ty_agg_collatorref01_Num rfl rfl rfl rfl rfl rfl (pt_box (av_fs 1 rfl)) (av_fs 1 rfl)⟩,
    .inl ⟨wants_plain rfl, does_loadAgg _ ty_agg_collatorref01_Num rfl rfl rfl rfl rfl rfl (pt_box (av_fs 2 rfl)) (av_fs 2 rfl)⟩,
    .inl ⟨wants_plain rfl, does_call (r_gcd (-x) (-y) (n10 (lneg hx) (by decide)) (n10 (lneg hy) (by decide))) rfl hb_collator_collatorref01_Gcd rfl rfl rfl rfl ⟨(ar_tmp (av_rs 0 rfl rfl)), (ar_tmp (av_rs 1 rfl rfl)), trivial⟩⟩,
    .inl ⟨wants_plain rfl, does_allocOwn [Bz 0, Tz 0] ty_zero_collatorref01_Num rfl rfl rfl rfl rfl z_num rfl⟩,
    .inl ⟨wants_plain rfl, does_storeNew 2 _ _ ty_agg_collatorref01_Num rfl rfl rfl rfl rfl (pt_own (av_rs 3 rfl rfl)) (av_rs 3 rfl rfl) (ar_tmp (av_rs 2 rfl rfl))⟩,
    trivial⟩ ?_
  refine nx_sub (fs' := [.box 4 130 [Bz 0, Tz 0, Bz 0, Tz 0], .box 2 72 [Bz (-x), Tz (-x)], .box 3 72 [Bz (-y), Tz (-y)], .box 5 72 [Bz (gcdZ (-x) (-y)), Tz (gcdZ (-x) (-y))]]) [0, 1, 2, 7] rfl ?_
  refine nx_then ?_
  refine t_seq ?_
  refine t_region (F := ⟨_, _, _, _⟩) [.box 4 130 [Bz 0, Tz 0, Bz 0, Tz 0], .box 2 72 [Bz (-x), Tz (-x)], .box 3 72 [Bz (-y), Tz (-y)], .box 5 72 [Bz (gcdZ (-x) (-y)), Tz (gcdZ (-x) (-y))]] [] [(0, .slot 31 (NUM (-x))), (1, .slot 32 (NUM (gcdZ (-x) (-y)))), (2, .slot 33 (VP.tup [NUM (divZ (-x) (gcdZ (-x) (-y))), NUM (modZ (-x) (gcdZ (-x) (-y)))])), (3, .slot 30 (VP.tup [NUM (divZ (-x) (gcdZ (-x) (-y))), NUM (modZ (-x) (gcdZ (-x) (-y)))])), (4, .slot 34 (NUM (divZ (-x) (gcdZ (-x) (-y))))), (5, .slot 35 (NUM (modZ (-x) (gcdZ (-x) (-y))))), (6, .own 6 72 2), (7, .own 7 72 2), (8, .box 6 72 [Bz (divZ (-x) (gcdZ (-x) (-y))), Tz (divZ (-x) (gcdZ (-x) (-y)))]), (9, .box 7 72 [Bz (modZ (-x) (gcdZ (-x) (-y))), Tz (modZ (-x) (gcdZ (-x) (-y)))])] [0, 1, 2, 3] [] rfl rfl follow rfl ⟨
    .inl ⟨wants_plain rfl, does_loadAgg _ ty_agg_collatorref01_Num rfl rfl rfl rfl rfl rfl (pt_box (av_fs 1 rfl)) (av_fs 1 rfl)⟩,
    .inl ⟨wants_plain rfl, does_loadAgg _ ty_agg_collatorref01_Num rfl rfl rfl rfl rfl rfl (pt_box (av_fs 3 rfl)) (av_fs 3 rfl)⟩,
    .inl ⟨wants_plain rfl, does_call (r_div (-x) (gcdZ (-x) (-y)) (n10 (lneg hx) (by decide)) (n10 (lgcd (lneg hx) (lneg hy)) (by decide))) rfl hb_collator_collatorref01_Div rfl rfl rfl rfl ⟨(ar_tmp (av_rs 0 rfl rfl)), (ar_tmp (av_rs 1 rfl rfl)), trivial⟩⟩,
    .inl ⟨wants_plain rfl, does_move _ (.inl rfl) rfl rfl rfl rfl (ar_tmp (av_rs 2 rfl rfl))⟩,
    .inl ⟨wants_plain rfl, does_extract (ps := [NUM (divZ (-x) (gcdZ (-x) (-y))), NUM (modZ (-x) (gcdZ (-x) (-y)))]) _ _ rfl rfl rfl rfl rfl (ar_tmp (av_rs 3 rfl rfl)) rfl⟩,
    .inl ⟨wants_plain rfl, does_extract (ps := [NUM (divZ (-x) (gcdZ (-x) (-y))), NUM (modZ (-x) (gcdZ (-x) (-y)))]) _ _ rfl rfl rfl rfl rfl (ar_tmp (av_rs 3 rfl rfl)) rfl⟩,
    .inl ⟨wants_plain rfl, does_allocOwn [Bz 0, Tz 0] ty_zero_collatorref01_Num rfl rfl rfl rfl rfl z_num rfl⟩,
    .inl ⟨wants_plain rfl, does_allocOwn [Bz 0, Tz 0] ty_zero_collatorref01_Num rfl rfl rfl rfl rfl z_num rfl⟩,
    .inl ⟨wants_plain rfl, does_storeNew 2 _ _ ty_agg_collatorref01_Num rfl rfl rfl rfl rfl (pt_own (av_rs 6 rfl rfl)) (av_rs 6 rfl rfl) (ar_tmp (av_rs 4 rfl rfl))⟩,
    .inl ⟨wants_plain rfl, does_storeNew 2 _ _ ty_agg_collatorref01_Num rfl rfl rfl rfl rfl (pt_own (av_rs 7 rfl rfl)) (av_rs 7 rfl rfl) (ar_tmp (av_rs 5 rfl rfl))⟩,
    trivial⟩ ?_
  refine nx_sub (fs' := [.box 4 130 [Bz 0, Tz 0, Bz 0, Tz 0], .box 3 72 [Bz (-y), Tz (-y)], .box 5 72 [Bz (gcdZ (-x) (-y)), Tz (gcdZ (-x) (-y))], .box 6 72 [Bz (divZ (-x) (gcdZ (-x) (-y))), Tz (divZ (-x) (gcdZ (-x) (-y)))]]) [0, 2, 3, 12] rfl ?_
  refine nx_then ?_
  refine t_seq ?_
  refine t_region (F := ⟨_, _, _, _⟩) [.box 4 130 [Bz 0, Tz 0, Bz 0, Tz 0], .box 3 72 [Bz (-y), Tz (-y)], .box 5 72 [Bz (gcdZ (-x) (-y)), Tz (gcdZ (-x) (-y))], .box 6 72 [Bz (divZ (-x) (gcdZ (-x) (-y))), Tz (divZ (-x) (gcdZ (-x) (-y)))]] [] [(0, .slot 37 (NUM (-y))), (1, .slot 38 (NUM (gcdZ (-x) (-y)))), (2, .slot 39 (VP.tup [NUM (divZ (-y) (gcdZ (-x) (-y))), NUM (modZ (-y) (gcdZ (-x) (-y)))])), (3, .slot 36 (VP.tup [NUM (divZ (-y) (gcdZ (-x) (-y))), NUM (modZ (-y) (gcdZ (-x) (-y)))])), (4, .slot 40 (NUM (divZ (-y) (gcdZ (-x) (-y))))), (5, .slot 41 (NUM (modZ (-y) (gcdZ (-x) (-y))))), (6, .own 8 72 2), (7, .own 9 72 2), (8, .box 8 72 [Bz (divZ (-y) (gcdZ (-x) (-y))), Tz (divZ (-y) (gcdZ (-x) (-y)))]), (9, .box 9 72 [Bz (modZ (-y) (gcdZ (-x) (-y))), Tz (modZ (-y) (gcdZ (-x) (-y)))])] [0, 1, 2, 3] [] rfl rfl follow rfl ⟨
    .inl ⟨wants_plain rfl, does_loadAgg _ ty_agg_collatorref01_Num rfl rfl rfl rfl rfl rfl (pt_box (av_fs 1 rfl)) (av_fs 1 rfl)⟩,
    .inl ⟨wants_plain rfl, does_loadAgg _ ty_agg_collatorref01_Num rfl rfl rfl rfl rfl rfl (pt_box (av_fs 2 rfl)) (av_fs 2 rfl)⟩,
    .inl ⟨wants_plain rfl, does_call (r_div (-y) (gcdZ (-x) (-y)) (n10 (lneg hy) (by decide)) (n10 (lgcd (lneg hx) (lneg hy)) (by decide))) rfl hb_collator_collatorref01_Div rfl rfl rfl rfl ⟨(ar_tmp (av_rs 0 rfl rfl)), (ar_tmp (av_rs 1 rfl rfl)), trivial⟩⟩,
    .inl ⟨wants_plain rfl, does_move _ (.inl rfl) rfl rfl rfl rfl (ar_tmp (av_rs 2 rfl rfl))⟩,
    .inl ⟨wants_plain rfl, does_extract (ps := [NUM (divZ (-y) (gcdZ (-x) (-y))), NUM (modZ (-y) (gcdZ (-x) (-y)))]) _ _ rfl rfl rfl rfl rfl (ar_tmp (av_rs 3 rfl rfl)) rfl⟩,
    .inl ⟨wants_plain rfl, does_extract (ps := [NUM (divZ (-y) (gcdZ (-x) (-y))), NUM (modZ (-y) (gcdZ (-x) (-y)))]) _ _ rfl rfl rfl rfl rfl (ar_tmp (av_rs 3 rfl rfl)) rfl⟩,
    .inl ⟨wants_plain rfl, does_allocOwn [Bz 0, Tz 0] ty_zero_collatorref01_Num rfl rfl rfl rfl rfl z_num rfl⟩,
    .inl ⟨wants_plain rfl, does_allocOwn [Bz 0, Tz 0] ty_zero_collatorref01_Num rfl rfl rfl rfl rfl z_num rfl⟩,
    .inl ⟨wants_plain rfl, does_storeNew 2 _ _ ty_agg_collatorref01_Num rfl rfl rfl rfl rfl (pt_own (av_rs 6 rfl rfl)) (av_rs 6 rfl rfl) (ar_tmp (av_rs 4 rfl rfl))⟩,
    .inl ⟨wants_plain rfl, does_storeNew 2 _ _ ty_agg_collatorref01_Num rfl rfl rfl rfl rfl (pt_own (av_rs 7 rfl rfl)) (av_rs 7 rfl rfl) (ar_tmp (av_rs 5 rfl rfl))⟩,
    trivial⟩ ?_
  refine nx_sub (fs' := [.box 4 130 [Bz 0, Tz 0, Bz 0, Tz 0], .box 6 72 [Bz (divZ (-x) (gcdZ (-x) (-y))), Tz (divZ (-x) (gcdZ (-x) (-y)))], .box 8 72 [Bz (divZ (-y) (gcdZ (-x) (-y))), Tz (divZ (-y) (gcdZ (-x) (-y)))]]) [0, 3, 12] rfl ?_
  refine nx_then ?_
  refine t_seq ?_
  refine t_region (F := ⟨_, _, _, _⟩) [.box 6 72 [Bz (divZ (-x) (gcdZ (-x) (-y))), Tz (divZ (-x) (gcdZ (-x) (-y)))], .box 8 72 [Bz (divZ (-y) (gcdZ (-x) (-y))), Tz (divZ (-y) (gcdZ (-x) (-y)))]] [(3, .box 4 130 [Bz 0, Tz 0, Bz 0, Tz 0])] [(0, .slot 42 (NUM (divZ (-x) (gcdZ (-x) (-y))))), (1, .slot 43 (NUM (divZ (-y) (gcdZ (-x) (-y))))), (2, .slot 44 (VP.agg [Bz (divZ (-x) (gcdZ (-x) (-y))), Tz (divZ (-x) (gcdZ (-x) (-y))), Bz (divZ (-y) (gcdZ (-x) (-y))), Tz (divZ (-y) (gcdZ (-x) (-y)))])), (3, .box 4 130 [Bz (divZ (-x) (gcdZ (-x) (-y))), Tz (divZ (-x) (gcdZ (-x) (-y))), Bz (divZ (-y) (gcdZ (-x) (-y))), Tz (divZ (-y) (gcdZ (-x) (-y)))])] [1, 2] [0] rfl rfl follow rfl ⟨
    .inl ⟨wants_plain rfl, does_loadAgg _ ty_agg_collatorref01_Num rfl rfl rfl rfl rfl rfl (pt_box (av_fs 0 rfl)) (av_fs 0 rfl)⟩,
    .inl ⟨wants_plain rfl, does_loadAgg _ ty_agg_collatorref01_Num rfl rfl rfl rfl rfl rfl (pt_box (av_fs 1 rfl)) (av_fs 1 rfl)⟩,
    .inl ⟨wants_plain rfl, does_build [Bz 0, Tz 0, Bz 0, Tz 0] ty_zero_collatorref02_Frac ty_pl_collatorref02_Frac rfl rfl rfl rfl rfl z_rfrac (.cons 0 [Bz (divZ (-x) (gcdZ (-x) (-y))), Tz (divZ (-x) (gcdZ (-x) (-y)))] rfl rfl (ar_cells_agg (ar_tmp (av_rs 0 rfl rfl))) (.cons 2 [Bz (divZ (-y) (gcdZ (-x) (-y))), Tz (divZ (-y) (gcdZ (-x) (-y)))] rfl rfl (ar_cells_agg (ar_tmp (av_rs 1 rfl rfl))) (.nil _)))⟩,
    .inl ⟨wants_plain rfl, does_storeAgg 4 _ _ ty_agg_collatorref02_Frac rfl rfl rfl rfl rfl (pt_box (av_os 0 rfl rfl)) (av_os 0 rfl rfl) (ar_tmp (av_rs 2 rfl rfl))⟩,
    trivial⟩ ?_
  refine nx_sub (fs' := [.box 4 130 [Bz (divZ (-x) (gcdZ (-x) (-y))), Tz (divZ (-x) (gcdZ (-x) (-y))), Bz (divZ (-y) (gcdZ (-x) (-y))), Tz (divZ (-y) (gcdZ (-x) (-y)))]]) [5] rfl ?_
  refine nx_then ?_
  refine t_ret ?_
  exact rt_one rfl (res_agg 0 ty_agg_collatorref02_Frac rfl)
set_option maxRecDepth 100000 in
set_option maxHeartbeats 4000000 in
theorem g_make4 (x y : Int) (hx : L x ≤ 5000) (hy : L y ≤ 5000) (h : y ≠ 0) (k : x ≠ 0) (hn : ¬ y < 0) : Spec Try.prog 92 [(NUM x).p, (NUM y).p] (VP.agg [Bz (divZ x (gcdZ x y)), Tz (divZ x (gcdZ x y)), Bz (divZ y (gcdZ x y)), Tz (divZ y (gcdZ x y))]) := by
  refine spec_of (xs := [NUM x, NUM y]) 45 [2, 3, 4, 5, 6, 7, 8, 9] Try.func92 rfl Try.ntmps92 rfl fun w0 => ?_
  refine t_seq ?_
  refine t_region (F := ⟨_, _, _, _⟩) [.slot 0 (NUM x), .slot 1 (NUM y)] [] [(0, .box 2 72 [Bz x, Tz x]), (1, .box 3 72 [Bz y, Tz y]), (2, .box 4 130 [Bz 0, Tz 0, Bz 0, Tz 0])] [0, 1] [] rfl rfl follow rfl ⟨
    .inl ⟨wants_plain rfl, does_box _ rfl rfl rfl rfl rfl (ar_tmp (av_fs 0 rfl))⟩,
    .inl ⟨wants_plain rfl, does_box _ rfl rfl rfl rfl rfl (ar_tmp (av_fs 1 rfl))⟩,
    .inl ⟨wants_plain rfl, does_alloc ty_zero_collatorref02_Frac rfl rfl rfl rfl rfl z_rfrac⟩,
    trivial⟩ ?_
  refine nx_sub (fs' := [.box 2 72 [Bz x, Tz x], .box 3 72 [Bz y, Tz y], .box 4 130 [Bz 0, Tz 0, Bz 0, Tz 0]]) [2, 3, 4] rfl ?_
  refine nx_then ?_
  refine t_seq ?_
  refine t_seq ?_
  refine t_region (F := ⟨_, _, _, _⟩) [.box 2 72 [Bz x, Tz x], .box 3 72 [Bz y, Tz y], .box 4 130 [Bz 0, Tz 0, Bz 0, Tz 0]] [] [(0, .fp 10 3 1), (1, .slot 11 (Tz y)), (2, .slot 12 (VP.int .i64 (((dg 10 y.natAbs).length : Nat) : Int))), (3, .slot 13 (VP.bool ((((dg 10 y.natAbs).length : Nat) : Int) == 0))), (4, .slot 14 (VP.bool ((((dg 10 y.natAbs).length : Nat) : Int) == 0))), (5, .fp 15 2 1), (6, .slot 16 (Tz x)), (7, .slot 17 (VP.int .i64 (((dg 10 x.natAbs).length : Nat) : Int))), (8, .slot 18 (VP.bool ((((dg 10 x.natAbs).length : Nat) : Int) == 0))), (9, .slot 19 (VP.bool ((((dg 10 x.natAbs).length : Nat) : Int) == 0)))] [0, 1, 2] [] rfl rfl follow rfl ⟨
    .inl ⟨wants_plain rfl, does_field _ _ _ 1 ty_f1_collatorref01_Num rfl rfl rfl rfl rfl rfl rfl (pt_box (av_fs 1 rfl))⟩,
    .inl ⟨wants_plain rfl, does_loadOne _ ty_one___int rfl rfl rfl rfl rfl rfl (pt_fp (av_rs 0 rfl rfl)) (av_fs 1 rfl)⟩,
    .inl ⟨wants_plain rfl, does_len _ _ (by kernel_rfl) rfl rfl rfl rfl rfl (ar_tmp (av_rs 1 rfl rfl))⟩,
    .inl ⟨wants_plain rfl, does_cmp (m := (((dg 10 y.natAbs).length : Nat) : Int)) (n := 0) _ _ _ _ _ rfl rfl rfl rfl rfl rfl .i64 (ar_tmp (av_rs 2 rfl rfl)) (ar_const (fun _ => rfl))⟩,
    .inl ⟨wants_plain rfl, does_move _ (.inl rfl) rfl rfl rfl rfl (ar_tmp (av_rs 3 rfl rfl))⟩,
    .inl ⟨wants_guard false rfl rfl rfl (av_bool (len10_no h) (av_rs 4 rfl rfl)), does_field _ _ _ 1 ty_f1_collatorref01_Num rfl rfl rfl rfl rfl rfl rfl (pt_box (av_fs 0 rfl))⟩,
    .inl ⟨wants_guard false rfl rfl rfl (av_bool (len10_no h) (av_rs 4 rfl rfl)), does_loadOne _ ty_one___int rfl rfl rfl rfl rfl rfl (pt_fp (av_rs 5 rfl rfl)) (av_fs 0 rfl)⟩,
    .inl ⟨wants_guard false rfl rfl rfl (av_bool (len10_no h) (av_rs 4 rfl rfl)), does_len _ _ (by kernel_rfl) rfl rfl rfl rfl rfl (ar_tmp (av_rs 6 rfl rfl))⟩,
    .inl ⟨wants_guard false rfl rfl rfl (av_bool (len10_no h) (av_rs 4 rfl rfl)), does_cmp (m := (((dg 10 x.natAbs).length : Nat) : Int)) (n := 0) _ _ _ _ _ rfl rfl rfl rfl rfl rfl .i64 (ar_tmp (av_rs 7 rfl rfl)) (ar_const (fun _ => rfl))⟩,
    .inl ⟨wants_plain rfl, does_pick false _ _ _ rfl rfl rfl rfl rfl (ar_tmp (av_bool (len10_no h) (av_rs 4 rfl rfl))) (ar_tmp (av_rs 8 rfl rfl))⟩,
    trivial⟩ ?_
  refine nx_sub (fs' := [.box 2 72 [Bz x, Tz x], .box 3 72 [Bz y, Tz y], .box 4 130 [Bz 0, Tz 0, Bz 0, Tz 0], .slot 19 (VP.bool ((((dg 10 x.natAbs).length : Nat) : Int) == 0))]) [0, 1, 2, 12] rfl ?_
  refine nx_then ?_
  refine t_cond_fe 3 rfl (len10_no k) ?_
  refine t_skip ?_
  refine nx_then ?_
  refine t_seq ?_
  refine t_seq ?_
  refine t_region (F := ⟨_, _, _, _⟩) [.box 2 72 [Bz x, Tz x], .box 3 72 [Bz y, Tz y], .box 4 130 [Bz 0, Tz 0, Bz 0, Tz 0], .slot 19 (VP.bool ((((dg 10 x.natAbs).length : Nat) : Int) == 0))] [] [(0, .fp 21 3 0), (1, .slot 22 (Bz y))] [0, 1, 2, 3] [] rfl rfl follow rfl ⟨
    .inl ⟨wants_plain rfl, does_field _ _ _ 0 ty_f0_collatorref01_Num rfl rfl rfl rfl rfl rfl rfl (pt_box (av_fs 1 rfl))⟩,
    .inl ⟨wants_plain rfl, does_loadOne _ ty_one_bool rfl rfl rfl rfl rfl rfl (pt_fp (av_rs 0 rfl rfl)) (av_fs 1 rfl)⟩,
    trivial⟩ ?_
  refine nx_sub (fs' := [.box 2 72 [Bz x, Tz x], .box 3 72 [Bz y, Tz y], .box 4 130 [Bz 0, Tz 0, Bz 0, Tz 0], .slot 22 (Bz y)]) [0, 1, 2, 5] rfl ?_
  refine nx_then ?_
  refine t_cond_fe 3 rfl (decide_eq_false hn) ?_
  refine t_skip ?_
  refine nx_then ?_
  refine t_seq ?_
  refine t_region (F := ⟨_, _, _, _⟩) [.box 2 72 [Bz x, Tz x], .box 3 72 [Bz y, Tz y], .box 4 130 [Bz 0, Tz 0, Bz 0, Tz 0], .slot 22 (Bz y)] [] [(0, .slot 27 (NUM x)), (1, .slot 28 (NUM y)), (2, .slot 29 (NUM (gcdZ x y))), (3, .own 5 72 2), (4, .box 5 72 [Bz (gcdZ x y), Tz (gcdZ x y)])] [0, 1, 2, 3] [] rfl rfl follow rfl ⟨
    .inl ⟨wants_plain rfl, does_loadAgg _ ty_agg_collatorref01_Num rfl rfl rfl rfl rfl rfl (pt_box (av_fs 0 rfl)) (av_fs 0 rfl)⟩,
    .inl ⟨wants_plain rfl, does_loadAgg _ ty_agg_collatorref01_Num rfl rfl rfl rfl rfl rfl (pt_box (av_fs 1 rfl)) (av_fs 1 rfl)⟩,
    .inl ⟨wants_plain rfl, does_call (r_gcd x y (n10 hx (by decide)) (n10 hy (by decide))) rfl hb_collator_collatorref01_Gcd rfl rfl rfl rfl ⟨(ar_tmp (av_rs 0 rfl rfl)), (ar_tmp (av_rs 1 rfl rfl)), trivial⟩⟩,
    .inl ⟨wants_plain rfl, does_allocOwn [Bz 0, Tz 0] ty_zero_collatorref01_Num rfl rfl rfl rfl rfl z_num rfl⟩,
    .inl ⟨wants_plain rfl, does_storeNew 2 _ _ ty_agg_collatorref01_Num rfl rfl rfl rfl rfl (pt_own (av_rs 3 rfl rfl)) (av_rs 3 rfl rfl) (ar_tmp (av_rs 2 rfl rfl))⟩,
    trivial⟩ ?_
  refine nx_sub (fs' := [.box 2 72 [Bz x, Tz x], .box 3 72 [Bz y, Tz y], .box 4 130 [Bz 0, Tz 0, Bz 0, Tz 0], .box 5 72 [Bz (gcdZ x y), Tz (gcdZ x y)]]) [0, 1, 2, 8] rfl ?_
  refine nx_then ?_
  refine t_seq ?_
  refine t_region (F := ⟨_, _, _, _⟩) [.box 2 72 [Bz x, Tz x], .box 3 72 [Bz y, Tz y], .box 4 130 [Bz 0, Tz 0, Bz 0, Tz 0], .box 5 72 [Bz (gcdZ x y), Tz (gcdZ x y)]] [] [(0, .slot 31 (NUM x)), (1, .slot 32 (NUM (gcdZ x y))), (2, .slot 33 (VP.tup [NUM (divZ x (gcdZ x y)), NUM (modZ x (gcdZ x y))])), (3, .slot 30 (VP.tup [NUM (divZ x (gcdZ x y)), NUM (modZ x (gcdZ x y))])), (4, .slot 34 (NUM (divZ x (gcdZ x y)))), (5, .slot 35 (NUM (modZ x (gcdZ x y)))), (6, .own 6 72 2), (7, .own 7 72 2), (8, .box 6 72 [Bz (divZ x (gcdZ x y)), Tz (divZ x (gcdZ x y))]), (9, .box 7 72 [Bz (modZ x (gcdZ x y)), Tz (modZ x (gcdZ x y))])] [0, 1, 2, 3] [] rfl rfl follow rfl ⟨
    .inl ⟨wants_plain rfl, does_loadAgg _ ty_agg_collatorref01_Num rfl rfl rfl rfl rfl rfl (pt_box (av_fs 0 rfl)) (av_fs 0 rfl)⟩,
    .inl ⟨wants_plain rfl, does_loadAgg _ ty_agg_collatorref01_Num rfl rfl rfl rfl rfl rfl (pt_box (av_fs 3 rfl)) (av_fs 3 rfl)⟩,
    .inl ⟨wants_plain rfl, does_call (r_div x (gcdZ x y) (n10 hx (by decide)) (n10 (lgcd hx hy) (by decide))) rfl hb_collator_collatorref01_Div rfl rfl rfl rfl ⟨(ar_tmp (av_rs 0 rfl rfl)), (ar_tmp (av_rs 1 rfl rfl)), trivial⟩⟩,
    .inl ⟨wants_plain rfl, does_move _ (.inl rfl) rfl rfl rfl rfl (ar_tmp (av_rs 2 rfl rfl))⟩,
    .inl ⟨wants_plain rfl, does_extract (ps := [NUM (divZ x (gcdZ x y)), NUM (modZ x (gcdZ x y))]) _ _ rfl rfl rfl rfl rfl (ar_tmp (av_rs 3 rfl rfl)) rfl⟩,
    .inl ⟨wants_plain rfl, does_extract (ps := [NUM (divZ x (gcdZ x y)), NUM (modZ x (gcdZ x y))]) _ _ rfl rfl rfl rfl rfl (ar_tmp (av_rs 3 rfl rfl)) rfl⟩,
    .inl ⟨wants_plain rfl, does_allocOwn [Bz 0, Tz 0] ty_zero_collatorref01_Num rfl rfl rfl rfl rfl z_num rfl⟩,
    .inl ⟨wants_plain rfl, does_allocOwn [Bz 0, Tz 0] ty_zero_collatorref01_Num rfl rfl rfl rfl rfl z_num rfl⟩,
    .inl ⟨wants_plain rfl, does_storeNew 2 _ _ ty_agg_collatorref01_Num rfl rfl rfl rfl rfl (pt_own (av_rs 6 rfl rfl)) (av_rs 6 rfl rfl) (ar_tmp (av_rs 4 rfl rfl))⟩,
    .inl ⟨wants_plain rfl, does_storeNew 2 _ _ ty_agg_collatorref01_Num rfl rfl rfl rfl rfl (pt_own (av_rs 7 rfl rfl)) (av_rs 7 rfl rfl) (ar_tmp (av_rs 5 rfl rfl))⟩,
    trivial⟩ ?_
  refine nx_sub (fs' := [.box 3 72 [Bz y, Tz y], .box 4 130 [Bz 0, Tz 0, Bz 0, Tz 0], .box 5 72 [Bz (gcdZ x y), Tz (gcdZ x y)], .box 6 72 [Bz (divZ x (gcdZ x y)), Tz (divZ x (gcdZ x y))]]) [1, 2, 3, 12] rfl ?_
  refine nx_then ?_
  refine t_seq ?_
  refine t_region (F := ⟨_, _, _, _⟩) [.box 3 72 [Bz y, Tz y], .box 4 130 [Bz 0, Tz 0, Bz 0, Tz 0], .box 5 72 [Bz (gcdZ x y), Tz (gcdZ x y)], .box 6 72 [Bz (divZ x (gcdZ x y)), Tz (divZ x (gcdZ x y))]] [] [(0, .slot 37 (NUM y)), (1, .slot 38 (NUM (gcdZ x y))), (2, .slot 39 (VP.tup [NUM (divZ y (gcdZ x y)), NUM (modZ y (gcdZ x y))])), (3, .slot 36 (VP.tup [NUM (divZ y (gcdZ x y)), NUM (modZ y (gcdZ x y))])), (4, .slot 40 (NUM (divZ y (gcdZ x y)))), (5, .slot 41 (NUM (modZ y (gcdZ x y)))), (6, .own 8 72 2), (7, .own 9 72 2), (8, .box 8 72 [Bz (divZ y (gcdZ x y)), Tz (divZ y (gcdZ x y))]), (9, .box 9 72 [Bz (modZ y (gcdZ x y)), Tz (modZ y (gcdZ x y))])] [0, 1, 2, 3] [] rfl rfl follow rfl ⟨
    .inl ⟨wants_plain rfl, does_loadAgg _ ty_agg_collatorref01_Num rfl rfl rfl rfl rfl rfl (pt_box (av_fs 0 rfl)) (av_fs 0 rfl)⟩,
    .inl ⟨wants_plain rfl, does_loadAgg _ ty_agg_collatorref01_Num rfl rfl rfl rfl rfl rfl (pt_box (av_fs 2 rfl)) (av_fs 2 rfl)⟩,
    .inl ⟨wants_plain rfl, does_call (r_div y (gcdZ x y) (n10 hy (by decide)) (n10 (lgcd hx hy) (by decide))) rfl hb_collator_collatorref01_Div rfl rfl rfl rfl ⟨(ar_tmp (av_rs 0 rfl rfl)), (ar_tmp (av_rs 1 rfl rfl)), trivial⟩⟩,
    .inl ⟨wants_plain rfl, does_move _ (.inl rfl) rfl rfl rfl rfl (ar_tmp (av_rs 2 rfl rfl))⟩,
    .inl ⟨wants_plain rfl, does_extract (ps := [NUM (divZ y (gcdZ x y)), NUM (modZ y (gcdZ x y))]) _ _ rfl rfl rfl rfl rfl (ar_tmp (av_rs 3 rfl rfl)) rfl⟩,
    .inl ⟨wants_plain rfl, does_extract (ps := [NUM (divZ y (gcdZ x y)), NUM (modZ y (gcdZ x y))]) _ _ rfl rfl rfl rfl rfl (ar_tmp (av_rs 3 rfl rfl)) rfl⟩,
    .inl ⟨wants_plain rfl, does_allocOwn [Bz 0, Tz 0] ty_zero_collatorref01_Num rfl rfl rfl rfl rfl z_num rfl⟩,
    .inl ⟨wants_plain rfl, does_allocOwn [Bz 0, Tz 0] ty_zero_collatorref01_Num rfl rfl rfl rfl rfl z_num rfl⟩,
    .inl ⟨wants_plain rfl, does_storeNew 2 _ _ ty_agg_collatorref01_Num rfl rfl rfl rfl rfl (pt_own (av_rs 6 rfl rfl)) (av_rs 6 rfl rfl) (ar_tmp (av_rs 4 rfl rfl))⟩,
    .inl ⟨wants_plain rfl, does_storeNew 2 _ _ ty_agg_collatorref01_Num rfl rfl rfl rfl rfl (pt_own (av_rs 7 rfl rfl)) (av_rs 7 rfl rfl) (ar_tmp (av_rs 5 rfl rfl))⟩,
    trivial⟩ ?_
  refine nx_sub (fs' := [.box 4 130 [Bz 0, Tz 0, Bz 0, Tz 0], .box 6 72 [Bz (divZ x (gcdZ x y)), Tz (divZ x (gcdZ x y))], .box 8 72 [Bz (divZ y (gcdZ x y)), Tz (divZ y (gcdZ x y))]]) [1, 3, 12] rfl ?_
  refine nx_then ?_
  refine t_seq ?_
  refine t_region (F := ⟨_, _, _, _⟩) [.box 6 72 [Bz (divZ x (gcdZ x y)), Tz (divZ x (gcdZ x y))], .box 8 72 [Bz (divZ y (gcdZ x y)), Tz (divZ y (gcdZ x y))]] [(3, .box 4 130 [Bz 0, Tz 0, Bz 0, Tz 0])] [(0, .slot 42 (NUM (divZ x (gcdZ x y)))), (1, .slot 43 (NUM (divZ y (gcdZ x y)))), (2, .slot 44 (VP.agg [Bz (divZ x (gcdZ x y)), Tz (divZ x (gcdZ x y)), Bz (divZ y (gcdZ x y)), Tz (divZ y (gcdZ x y))])), (3, .box 4 130 [Bz (divZ x (gcdZ x y)), Tz (divZ x (gcdZ x y)), Bz (divZ y (gcdZ x y)), Tz (divZ y (gcdZ x y))])] [1, 2] [0] rfl rfl follow rfl ⟨
    .inl ⟨wants_plain rfl, does_loadAgg _ ty_agg_collatorref01_Num rfl rfl rfl rfl rfl rfl (pt_box (av_fs 0 rfl)) (av_fs 0 rfl)⟩,
    .inl ⟨wants_plain rfl, does_loadAgg _ ty_agg_collatorref01_Num rfl rfl rfl rfl rfl rfl (pt_box (av_fs 1 rfl)) (av_fs 1 rfl)⟩,
    .inl ⟨wants_plain rfl, does_build [Bz 0, Tz 0, Bz 0, Tz 0] ty_zero_collatorref02_Frac ty_pl_collatorref02_Frac rfl rfl rfl rfl rfl z_rfrac (.cons 0 [Bz (divZ x (gcdZ x y)), Tz (divZ x (gcdZ x y))] rfl rfl (ar_cells_agg (ar_tmp (av_rs 0 rfl rfl))) (.cons 2 [Bz (divZ y (gcdZ x y)), Tz (divZ y (gcdZ x y))] rfl rfl (ar_cells_agg (ar_tmp (av_rs 1 rfl rfl))) (.nil _)))⟩,
    .inl ⟨wants_plain rfl, does_storeAgg 4 _ _ ty_agg_collatorref02_Frac rfl rfl rfl rfl rfl (pt_box (av_os 0 rfl rfl)) (av_os 0 rfl rfl) (ar_tmp (av_rs 2 rfl rfl))⟩,
    trivial⟩ ?_
  refine nx_sub (fs' := [.box 4 130 [Bz (divZ x (gcdZ x y)), Tz (divZ x (gcdZ x y)), Bz (divZ y (gcdZ x y)), Tz (divZ y (gcdZ x y))]]) [5] rfl ?_
  refine nx_then ?_
  refine t_ret ?_
  exact rt_one rfl (res_agg 0 ty_agg_collatorref02_Frac rfl)
theorem g_make (x y : Int) (hx : L x ≤ 5000) (hy : L y ≤ 5000) : Spec Try.prog 92 [(NUM x).p, (NUM y).p] (VP.agg [Bz (rmO x y), Tz (rmO x y), Bz (rmD x y), Tz (rmD x y)]) := by
  by_cases h : y = 0
  · rw [show rmO x y = 0 from if_pos (.inr h), show rmD x y = 1 from if_pos (.inr h)]; exact g_make1 x y hx hy h
  · by_cases k : x = 0
    · rw [show rmO x y = 0 from if_pos (.inl k), show rmD x y = 1 from if_pos (.inl k)]; exact g_make2 x y hx hy h k
    · have hxy : ¬ (x = 0 ∨ y = 0) := by omega
      by_cases hn : y < 0
      · rw [show rmO x y = divZ (-x) (gcdZ (-x) (-y)) from by unfold rmO; rw [if_neg hxy, if_pos hn], show rmD x y = divZ (-y) (gcdZ (-x) (-y)) from by unfold rmD; rw [if_neg hxy, if_pos hn]]; exact g_make3 x y hx hy h k hn
      · rw [show rmO x y = divZ x (gcdZ x y) from by unfold rmO; rw [if_neg hxy, if_neg hn], show rmD x y = divZ y (gcdZ x y) from by unfold rmD; rw [if_neg hxy, if_neg hn]]; exact g_make4 x y hx hy h k hn
set_option maxRecDepth 100000 in
set_option maxHeartbeats 4000000 in
theorem g_form1 (p q : Int) (hp : L p ≤ 1000) (hq : L q ≤ 1000) (h : q = 1) : Spec Try.prog 91 [(VP.agg [Bz p, Tz p, Bz q, Tz q]).p] (VP.agg [Bz p, Dz p, Bz 0, Dz 0]) := by
  refine spec_of (xs := [VP.agg [Bz p, Tz p, Bz q, Tz q]]) 18 [1, 2, 3] Try.func91 rfl Try.ntmps91 rfl fun w0 => ?_
  refine t_seq ?_
  refine t_region (F := ⟨_, _, _, _⟩) [.slot 0 (VP.agg [Bz p, Tz p, Bz q, Tz q])] [] [(0, .box 1 130 [Bz p, Tz p, Bz q, Tz q]), (1, .box 2 100 [Bz 0, Dz 0, Bz 0, Dz 0])] [0] [] rfl rfl follow rfl ⟨
    .inl ⟨wants_plain rfl, does_box _ rfl rfl rfl rfl rfl (ar_tmp (av_fs 0 rfl))⟩,
    .inl ⟨wants_plain rfl, does_alloc ty_zero_api_Frac rfl rfl rfl rfl rfl z_frac⟩,
    trivial⟩ ?_
  refine nx_sub (fs' := [.box 1 130 [Bz p, Tz p, Bz q, Tz q], .box 2 100 [Bz 0, Dz 0, Bz 0, Dz 0]]) [1, 2] rfl ?_
  refine nx_then ?_
  refine t_seq ?_
  refine t_region (F := ⟨_, _, _, _⟩) [.box 1 130 [Bz p, Tz p, Bz q, Tz q], .box 2 100 [Bz 0, Dz 0, Bz 0, Dz 0]] [] [(0, .fp 4 1 0), (1, .slot 5 (NUM p)), (2, .slot 6 (INT p)), (3, .slot 7 (VP.agg [Bz p, Dz p, Bz 0, Dz 0])), (4, .own 3 100 4), (5, .box 3 100 [Bz p, Dz p, Bz 0, Dz 0])] [0, 1] [] rfl rfl follow rfl ⟨
    .inl ⟨wants_plain rfl, does_field _ _ _ 0 ty_f0_collatorref02_Frac rfl rfl rfl rfl rfl rfl rfl (pt_box (av_fs 0 rfl))⟩,
    .inl ⟨wants_plain rfl, does_loadAgg _ ty_agg_collatorref01_Num rfl rfl rfl rfl rfl rfl (pt_fp (av_rs 0 rfl rfl)) (av_fs 0 rfl)⟩,
    .inl ⟨wants_plain rfl, does_call (r_form p (n10 hp (by decide))) rfl hb_collator_collatorref01_Form rfl rfl rfl rfl ⟨(ar_tmp (av_rs 1 rfl rfl)), trivial⟩⟩,
    .inl ⟨wants_plain rfl, does_build [Bz 0, Dz 0, Bz 0, Dz 0] ty_zero_api_Frac ty_pl_api_Frac rfl rfl rfl rfl rfl z_frac (.cons 0 [Bz p, Dz p] rfl rfl (ar_cells_agg (ar_tmp (av_rs 2 rfl rfl))) (.nil _))⟩,
    .inl ⟨wants_plain rfl, does_allocOwn [Bz 0, Dz 0, Bz 0, Dz 0] ty_zero_api_Frac rfl rfl rfl rfl rfl z_frac rfl⟩,
    .inl ⟨wants_plain rfl, does_storeNew 4 _ _ ty_agg_api_Frac rfl rfl rfl rfl rfl (pt_own (av_rs 4 rfl rfl)) (av_rs 4 rfl rfl) (ar_tmp (av_rs 3 rfl rfl))⟩,
    trivial⟩ ?_
  refine nx_sub (fs' := [.box 1 130 [Bz p, Tz p, Bz q, Tz q], .box 2 100 [Bz 0, Dz 0, Bz 0, Dz 0], .box 3 100 [Bz p, Dz p, Bz 0, Dz 0]]) [0, 1, 7] rfl ?_
  refine nx_then ?_
  refine t_seq ?_
  refine t_seq ?_
  refine t_region (F := ⟨_, _, _, _⟩) [.box 1 130 [Bz p, Tz p, Bz q, Tz q], .box 2 100 [Bz 0, Dz 0, Bz 0, Dz 0], .box 3 100 [Bz p, Dz p, Bz 0, Dz 0]] [] [(0, .fp 8 1 2), (1, .slot 9 (NUM q)), (2, .slot 10 (NUM 1)), (3, .slot 11 (VP.int .i64 (cmpZ q 1))), (4, .slot 12 (VP.bool ((cmpZ q 1) != 0)))] [0, 1, 2] [] rfl rfl follow rfl ⟨
    .inl ⟨wants_plain rfl, does_field _ _ _ 2 ty_f1_collatorref02_Frac rfl rfl rfl rfl rfl rfl rfl (pt_box (av_fs 0 rfl))⟩,
    .inl ⟨wants_plain rfl, does_loadAgg _ ty_agg_collatorref01_Num rfl rfl rfl rfl rfl rfl (pt_fp (av_rs 0 rfl rfl)) (av_fs 0 rfl)⟩,
    .inl ⟨wants_plain rfl, does_call (r_int 1 (by decide) (by decide)) rfl hb_collator_collatorref01_Int rfl rfl rfl rfl ⟨(ar_const (fun _ => rfl)), trivial⟩⟩,
    .inl ⟨wants_plain rfl, does_call (r_cmp q 1 (n10 hq (by decide)) (n10 lone (by decide))) rfl hb_collator_collatorref01_Cmp rfl rfl rfl rfl ⟨(ar_tmp (av_rs 1 rfl rfl)), (ar_tmp (av_rs 2 rfl rfl)), trivial⟩⟩,
    .inl ⟨wants_plain rfl, does_cmp (m := (cmpZ q 1)) (n := 0) _ _ _ _ _ rfl rfl rfl rfl rfl rfl .i64 (ar_tmp (av_rs 3 rfl rfl)) (ar_const (fun _ => rfl))⟩,
    trivial⟩ ?_
  refine nx_sub (fs' := [.box 1 130 [Bz p, Tz p, Bz q, Tz q], .box 2 100 [Bz 0, Dz 0, Bz 0, Dz 0], .box 3 100 [Bz p, Dz p, Bz 0, Dz 0], .slot 12 (VP.bool ((cmpZ q 1) != 0))]) [0, 1, 2, 7] rfl ?_
  refine nx_then ?_
  refine t_cond_fe 3 rfl (cmp_one' h) ?_
  refine t_skip ?_
  refine nx_then ?_
  refine t_seq ?_
  refine t_region (F := ⟨_, _, _, _⟩) [.box 1 130 [Bz p, Tz p, Bz q, Tz q], .box 3 100 [Bz p, Dz p, Bz 0, Dz 0], .slot 12 (VP.bool ((cmpZ q 1) != 0))] [(1, .box 2 100 [Bz 0, Dz 0, Bz 0, Dz 0])] [(0, .slot 17 (VP.agg [Bz p, Dz p, Bz 0, Dz 0])), (1, .box 2 100 [Bz p, Dz p, Bz 0, Dz 0])] [0, 2, 3] [1] rfl rfl follow rfl ⟨
    .inl ⟨wants_plain rfl, does_loadAgg _ ty_agg_api_Frac rfl rfl rfl rfl rfl rfl (pt_box (av_fs 1 rfl)) (av_fs 1 rfl)⟩,
    .inl ⟨wants_plain rfl, does_storeAgg 4 _ _ ty_agg_api_Frac rfl rfl rfl rfl rfl (pt_box (av_os 0 rfl rfl)) (av_os 0 rfl rfl) (ar_tmp (av_rs 0 rfl rfl))⟩,
    trivial⟩ ?_
  refine nx_sub (fs' := [.box 2 100 [Bz p, Dz p, Bz 0, Dz 0]]) [4] rfl ?_
  refine nx_then ?_
  refine t_ret ?_
  exact rt_one rfl (res_agg 0 ty_agg_api_Frac rfl)
set_option maxRecDepth 100000 in
set_option maxHeartbeats 4000000 in
theorem g_form2 (p q : Int) (hp : L p ≤ 1000) (hq : L q ≤ 1000) (h : q ≠ 1) : Spec Try.prog 91 [(VP.agg [Bz p, Tz p, Bz q, Tz q]).p] (VP.agg [Bz p, Dz p, Bz q, Dz q]) := by
  refine spec_of (xs := [VP.agg [Bz p, Tz p, Bz q, Tz q]]) 18 [1, 2, 3] Try.func91 rfl Try.ntmps91 rfl fun w0 => ?_
  refine t_seq ?_
  refine t_region (F := ⟨_, _, _, _⟩) [.slot 0 (VP.agg [Bz p, Tz p, Bz q, Tz q])] [] [(0, .box 1 130 [Bz p, Tz p, Bz q, Tz q]), (1, .box 2 100 [Bz 0, Dz 0, Bz 0, Dz 0])] [0] [] rfl rfl follow rfl ⟨
    .inl ⟨wants_plain rfl, does_box _ rfl rfl rfl rfl rfl (ar_tmp (av_fs 0 rfl))⟩,
    .inl ⟨wants_plain rfl, does_alloc ty_zero_api_Frac rfl rfl rfl rfl rfl z_frac⟩,
    trivial⟩ ?_
  refine nx_sub (fs' := [.box 1 130 [Bz p, Tz p, Bz q, Tz q], .box 2 100 [Bz 0, Dz 0, Bz 0, Dz 0]]) [1, 2] rfl ?_
  refine nx_then ?_
  refine t_seq ?_
  refine t_region (F := ⟨_, _, _, _⟩) [.box 1 130 [Bz p, Tz p, Bz q, Tz q], .box 2 100 [Bz 0, Dz 0, Bz 0, Dz 0]] [] [(0, .fp 4 1 0), (1, .slot 5 (NUM p)), (2, .slot 6 (INT p)), (3, .slot 7 (VP.agg [Bz p, Dz p, Bz 0, Dz 0])), (4, .own 3 100 4), (5, .box 3 100 [Bz p, Dz p, Bz 0, Dz 0])] [0, 1] [] rfl rfl follow rfl ⟨
    .inl ⟨wants_plain rfl, does_field _ _ _ 0 ty_f0_collatorref02_Frac rfl rfl rfl rfl rfl rfl rfl (pt_box (av_fs 0 rfl))⟩,
    .inl ⟨wants_plain rfl, does_loadAgg _ ty_agg_collatorref01_Num rfl rfl rfl rfl rfl rfl (pt_fp (av_rs 0 rfl rfl)) (av_fs 0 rfl)⟩,
    .inl ⟨wants_plain rfl, does_call (r_form p (n10 hp (by decide))) rfl hb_collator_collatorref01_Form rfl rfl rfl rfl ⟨(ar_tmp (av_rs 1 rfl rfl)), trivial⟩⟩,
    .inl ⟨wants_plain rfl, does_build [Bz 0, Dz 0, Bz 0, Dz 0] ty_zero_api_Frac ty_pl_api_Frac rfl rfl rfl rfl rfl z_frac (.cons 0 [Bz p, Dz p] rfl rfl (ar_cells_agg (ar_tmp (av_rs 2 rfl rfl))) (.nil _))⟩,
    .inl ⟨wants_plain rfl, does_allocOwn [Bz 0, Dz 0, Bz 0, Dz 0] ty_zero_api_Frac rfl rfl rfl rfl rfl z_frac rfl⟩,
    .inl ⟨wants_plain rfl, does_storeNew 4 _ _ ty_agg_api_Frac rfl rfl rfl rfl rfl (pt_own (av_rs 4 rfl rfl)) (av_rs 4 rfl rfl) (ar_tmp (av_rs 3 rfl rfl))⟩,
    trivial⟩ ?_
  refine nx_sub (fs' := [.box 1 130 [Bz p, Tz p, Bz q, Tz q], .box 2 100 [Bz 0, Dz 0, Bz 0, Dz 0], .box 3 100 [Bz p, Dz p, Bz 0, Dz 0]]) [0, 1, 7] rfl ?_
  refine nx_then ?_
  refine t_seq ?_
  refine t_seq ?_
  refine t_region (F := ⟨_, _, _, _⟩) [.box 1 130 [Bz p, Tz p, Bz q, Tz q], .box 2 100 [Bz 0, Dz 0, Bz 0, Dz 0], .box 3 100 [Bz p, Dz p, Bz 0, Dz 0]] [] [(0, .fp 8 1 2), (1, .slot 9 (NUM q)), (2, .slot 10 (NUM 1)), (3, .slot 11 (VP.int .i64 (cmpZ q 1))), (4, .slot 12 (VP.bool ((cmpZ q 1) != 0)))] [0, 1, 2] [] rfl rfl follow rfl ⟨
    .inl ⟨wants_plain rfl, does_field _ _ _ 2 ty_f1_collatorref02_Frac rfl rfl rfl rfl rfl rfl rfl (pt_box (av_fs 0 rfl))⟩,
    .inl ⟨wants_plain rfl, does_loadAgg _ ty_agg_collatorref01_Num rfl rfl rfl rfl rfl rfl (pt_fp (av_rs 0 rfl rfl)) (av_fs 0 rfl)⟩,
    .inl ⟨wants_plain rfl, does_call (r_int 1 (by decide) (by decide)) rfl hb_collator_collatorref01_Int rfl rfl rfl rfl ⟨(ar_const (fun _ => rfl)), trivial⟩⟩,
    .inl ⟨wants_plain rfl, does_call (r_cmp q 1 (n10 hq (by decide)) (n10 lone (by decide))) rfl hb_collator_collatorref01_Cmp rfl rfl rfl rfl ⟨(ar_tmp (av_rs 1 rfl rfl)), (ar_tmp (av_rs 2 rfl rfl)), trivial⟩⟩,
    .inl ⟨wants_plain rfl, does_cmp (m := (cmpZ q 1)) (n := 0) _ _ _ _ _ rfl rfl rfl rfl rfl rfl .i64 (ar_tmp (av_rs 3 rfl rfl)) (ar_const (fun _ => rfl))⟩,
    trivial⟩ ?_
  refine nx_sub (fs' := [.box 1 130 [Bz p, Tz p, Bz q, Tz q], .box 2 100 [Bz 0, Dz 0, Bz 0, Dz 0], .box 3 100 [Bz p, Dz p, Bz 0, Dz 0], .slot 12 (VP.bool ((cmpZ q 1) != 0))]) [0, 1, 2, 7] rfl ?_
  refine nx_then ?_
  refine t_cond_te 3 rfl (cmp_two' h) ?_
  refine t_region (F := ⟨_, _, _, _⟩) [.box 1 130 [Bz p, Tz p, Bz q, Tz q], .box 2 100 [Bz 0, Dz 0, Bz 0, Dz 0], .slot 12 (VP.bool ((cmpZ q 1) != 0))] [(4, .box 3 100 [Bz p, Dz p, Bz 0, Dz 0])] [(0, .fp 13 1 2), (1, .slot 14 (NUM q)), (2, .slot 15 (INT q)), (3, .fp 16 3 2), (4, .box 3 100 [Bz p, Dz p, Bz q, Dz q])] [0, 1, 3] [2] rfl rfl follow rfl ⟨
    .inl ⟨wants_plain rfl, does_field _ _ _ 2 ty_f1_collatorref02_Frac rfl rfl rfl rfl rfl rfl rfl (pt_box (av_fs 0 rfl))⟩,
    .inl ⟨wants_plain rfl, does_loadAgg _ ty_agg_collatorref01_Num rfl rfl rfl rfl rfl rfl (pt_fp (av_rs 0 rfl rfl)) (av_fs 0 rfl)⟩,
    .inl ⟨wants_plain rfl, does_call (r_form q (n10 hq (by decide))) rfl hb_collator_collatorref01_Form rfl rfl rfl rfl ⟨(ar_tmp (av_rs 1 rfl rfl)), trivial⟩⟩,
    .inl ⟨wants_plain rfl, does_field _ _ _ 2 ty_f1_api_Frac rfl rfl rfl rfl rfl rfl rfl (pt_box (av_os 0 rfl rfl))⟩,
    .inl ⟨wants_plain rfl, does_storeAgg 2 _ _ ty_agg_api_Int rfl rfl rfl rfl rfl (pt_fp (av_rs 3 rfl rfl)) (av_os 0 rfl rfl) (ar_tmp (av_rs 2 rfl rfl))⟩,
    trivial⟩ ?_
  refine nx_sub (fs' := [.box 2 100 [Bz 0, Dz 0, Bz 0, Dz 0], .box 3 100 [Bz p, Dz p, Bz q, Dz q]]) [1, 7] rfl ?_
  refine nx_then ?_
  refine t_seq ?_
  refine t_region (F := ⟨_, _, _, _⟩) [.box 3 100 [Bz p, Dz p, Bz q, Dz q]] [(1, .box 2 100 [Bz 0, Dz 0, Bz 0, Dz 0])] [(0, .slot 17 (VP.agg [Bz p, Dz p, Bz q, Dz q])), (1, .box 2 100 [Bz p, Dz p, Bz q, Dz q])] [1] [0] rfl rfl follow rfl ⟨
    .inl ⟨wants_plain rfl, does_loadAgg _ ty_agg_api_Frac rfl rfl rfl rfl rfl rfl (pt_box (av_fs 0 rfl)) (av_fs 0 rfl)⟩,
    .inl ⟨wants_plain rfl, does_storeAgg 4 _ _ ty_agg_api_Frac rfl rfl rfl rfl rfl (pt_box (av_os 0 rfl rfl)) (av_os 0 rfl rfl) (ar_tmp (av_rs 0 rfl rfl))⟩,
    trivial⟩ ?_
  refine nx_sub (fs' := [.box 2 100 [Bz p, Dz p, Bz q, Dz q]]) [2] rfl ?_
  refine nx_then ?_
  refine t_ret ?_
  exact rt_one rfl (res_agg 0 ty_agg_api_Frac rfl)
theorem g_form (p q : Int) (hp : L p ≤ 1000) (hq : L q ≤ 1000) : Spec Try.prog 91 [(VP.agg [Bz p, Tz p, Bz q, Tz q]).p] (VP.agg [Bz p, Dz p, Bz (fU q), Dz (fU q)]) := by
  by_cases h : q = 1
  · rw [show fU q = 0 from if_pos h]; exact g_form1 p q hp hq h
  · rw [show fU q = q from if_neg h]; exact g_form2 p q hp hq h
set_option maxRecDepth 100000 in
set_option maxHeartbeats 4000000 in
theorem g_neg (p q : Int) (_hp : L p ≤ 1000) (_hq : L q ≤ 1000) : Spec Try.prog 100 [(VP.agg [Bz p, Tz p, Bz q, Tz q]).p] (VP.agg [Bz (-p), Tz (-p), Bz q, Tz q]) := by
  refine spec_of (xs := [VP.agg [Bz p, Tz p, Bz q, Tz q]]) 9 [1, 2] Try.func100 rfl Try.ntmps100 rfl fun w0 => ?_
  refine t_seq ?_
  refine t_region (F := ⟨_, _, _, _⟩) [.slot 0 (VP.agg [Bz p, Tz p, Bz q, Tz q])] [] [(0, .box 1 130 [Bz p, Tz p, Bz q, Tz q]), (1, .box 2 130 [Bz 0, Tz 0, Bz 0, Tz 0])] [0] [] rfl rfl follow rfl ⟨
    .inl ⟨wants_plain rfl, does_box _ rfl rfl rfl rfl rfl (ar_tmp (av_fs 0 rfl))⟩,
    .inl ⟨wants_plain rfl, does_alloc ty_zero_collatorref02_Frac rfl rfl rfl rfl rfl z_rfrac⟩,
    trivial⟩ ?_
  refine nx_sub (fs' := [.box 1 130 [Bz p, Tz p, Bz q, Tz q], .box 2 130 [Bz 0, Tz 0, Bz 0, Tz 0]]) [1, 2] rfl ?_
  refine nx_then ?_
  refine t_seq ?_
  refine t_region (F := ⟨_, _, _, _⟩) [.box 1 130 [Bz p, Tz p, Bz q, Tz q]] [(6, .box 2 130 [Bz 0, Tz 0, Bz 0, Tz 0])] [(0, .fp 3 1 0), (1, .slot 4 (NUM p)), (2, .slot 5 (NUM (-p))), (3, .fp 6 1 2), (4, .slot 7 (NUM q)), (5, .slot 8 (VP.agg [Bz (-p), Tz (-p), Bz q, Tz q])), (6, .box 2 130 [Bz (-p), Tz (-p), Bz q, Tz q])] [0] [1] rfl rfl follow rfl ⟨
    .inl ⟨wants_plain rfl, does_field _ _ _ 0 ty_f0_collatorref02_Frac rfl rfl rfl rfl rfl rfl rfl (pt_box (av_fs 0 rfl))⟩,
    .inl ⟨wants_plain rfl, does_loadAgg _ ty_agg_collatorref01_Num rfl rfl rfl rfl rfl rfl (pt_fp (av_rs 0 rfl rfl)) (av_fs 0 rfl)⟩,
    .inl ⟨wants_plain rfl, does_call (r_neg p) rfl hb_collator_collatorref01_Neg rfl rfl rfl rfl ⟨(ar_tmp (av_rs 1 rfl rfl)), trivial⟩⟩,
    .inl ⟨wants_plain rfl, does_field _ _ _ 2 ty_f1_collatorref02_Frac rfl rfl rfl rfl rfl rfl rfl (pt_box (av_fs 0 rfl))⟩,
    .inl ⟨wants_plain rfl, does_loadAgg _ ty_agg_collatorref01_Num rfl rfl rfl rfl rfl rfl (pt_fp (av_rs 3 rfl rfl)) (av_fs 0 rfl)⟩,
    .inl ⟨wants_plain rfl, does_build [Bz 0, Tz 0, Bz 0, Tz 0] ty_zero_collatorref02_Frac ty_pl_collatorref02_Frac rfl rfl rfl rfl rfl z_rfrac (.cons 0 [Bz (-p), Tz (-p)] rfl rfl (ar_cells_agg (ar_tmp (av_rs 2 rfl rfl))) (.cons 2 [Bz q, Tz q] rfl rfl (ar_cells_agg (ar_tmp (av_rs 4 rfl rfl))) (.nil _)))⟩,
    .inl ⟨wants_plain rfl, does_storeAgg 4 _ _ ty_agg_collatorref02_Frac rfl rfl rfl rfl rfl (pt_box (av_os 0 rfl rfl)) (av_os 0 rfl rfl) (ar_tmp (av_rs 5 rfl rfl))⟩,
    trivial⟩ ?_
  refine nx_sub (fs' := [.box 2 130 [Bz (-p), Tz (-p), Bz q, Tz q]]) [7] rfl ?_
  refine nx_then ?_
  refine t_ret ?_
  exact rt_one rfl (res_agg 0 ty_agg_collatorref02_Frac rfl)
set_option maxRecDepth 100000 in
set_option maxHeartbeats 4000000 in
theorem g_add (p q r s : Int) (hp : L p ≤ 1000) (hq : L q ≤ 1000) (hr : L r ≤ 1000) (hs : L s ≤ 1000) : Spec Try.prog 97 [(VP.agg [Bz p, Tz p, Bz q, Tz q]).p, (VP.agg [Bz r, Tz r, Bz s, Tz s]).p] (VP.agg [Bz (rmO ((p * s) + (r * q)) (q * s)), Tz (rmO ((p * s) + (r * q)) (q * s)), Bz (rmD ((p * s) + (r * q)) (q * s)), Tz (rmD ((p * s) + (r * q)) (q * s))]) := by
  refine spec_of (xs := [VP.agg [Bz p, Tz p, Bz q, Tz q], VP.agg [Bz r, Tz r, Bz s, Tz s]]) 22 [2, 3, 4] Try.func97 rfl Try.ntmps97 rfl fun w0 => ?_
  refine t_seq ?_
  refine t_region (F := ⟨_, _, _, _⟩) [.slot 0 (VP.agg [Bz p, Tz p, Bz q, Tz q]), .slot 1 (VP.agg [Bz r, Tz r, Bz s, Tz s])] [] [(0, .box 2 130 [Bz p, Tz p, Bz q, Tz q]), (1, .box 3 130 [Bz r, Tz r, Bz s, Tz s]), (2, .box 4 130 [Bz 0, Tz 0, Bz 0, Tz 0])] [0, 1] [] rfl rfl follow rfl ⟨
    .inl ⟨wants_plain rfl, does_box _ rfl rfl rfl rfl rfl (ar_tmp (av_fs 0 rfl))⟩,
    .inl ⟨wants_plain rfl, does_box _ rfl rfl rfl rfl rfl (ar_tmp (av_fs 1 rfl))⟩,
    .inl ⟨wants_plain rfl, does_alloc ty_zero_collatorref02_Frac rfl rfl rfl rfl rfl z_rfrac⟩,
    trivial⟩ ?_
  refine nx_sub (fs' := [.box 2 130 [Bz p, Tz p, Bz q, Tz q], .box 3 130 [Bz r, Tz r, Bz s, Tz s], .box 4 130 [Bz 0, Tz 0, Bz 0, Tz 0]]) [2, 3, 4] rfl ?_
  refine nx_then ?_
  refine t_seq ?_
  refine t_region (F := ⟨_, _, _, _⟩) [.box 2 130 [Bz p, Tz p, Bz q, Tz q], .box 3 130 [Bz r, Tz r, Bz s, Tz s]] [(17, .box 4 130 [Bz 0, Tz 0, Bz 0, Tz 0])] [(0, .fp 5 2 0), (1, .slot 6 (NUM p)), (2, .fp 7 3 2), (3, .slot 8 (NUM s)), (4, .slot 9 (NUM (p * s))), (5, .fp 10 3 0), (6, .slot 11 (NUM r)), (7, .fp 12 2 2), (8, .slot 13 (NUM q)), (9, .slot 14 (NUM (r * q))), (10, .slot 15 (NUM ((p * s) + (r * q)))), (11, .fp 16 2 2), (12, .slot 17 (NUM q)), (13, .fp 18 3 2), (14, .slot 19 (NUM s)), (15, .slot 20 (NUM (q * s))), (16, .slot 21 (VP.agg [Bz (rmO ((p * s) + (r * q)) (q * s)), Tz (rmO ((p * s) + (r * q)) (q * s)), Bz (rmD ((p * s) + (r * q)) (q * s)), Tz (rmD ((p * s) + (r * q)) (q * s))])), (17, .box 4 130 [Bz (rmO ((p * s) + (r * q)) (q * s)), Tz (rmO ((p * s) + (r * q)) (q * s)), Bz (rmD ((p * s) + (r * q)) (q * s)), Tz (rmD ((p * s) + (r * q)) (q * s))])] [0, 1] [2] rfl rfl follow rfl ⟨
    .inl ⟨wants_plain rfl, does_field _ _ _ 0 ty_f0_collatorref02_Frac rfl rfl rfl rfl rfl rfl rfl (pt_box (av_fs 0 rfl))⟩,
    .inl ⟨wants_plain rfl, does_loadAgg _ ty_agg_collatorref01_Num rfl rfl rfl rfl rfl rfl (pt_fp (av_rs 0 rfl rfl)) (av_fs 0 rfl)⟩,
    .inl ⟨wants_plain rfl, does_field _ _ _ 2 ty_f1_collatorref02_Frac rfl rfl rfl rfl rfl rfl rfl (pt_box (av_fs 1 rfl))⟩,
    .inl ⟨wants_plain rfl, does_loadAgg _ ty_agg_collatorref01_Num rfl rfl rfl rfl rfl rfl (pt_fp (av_rs 2 rfl rfl)) (av_fs 1 rfl)⟩,
    .inl ⟨wants_plain rfl, does_call (r_mul p s (n10 hp (by decide)) (n10 hs (by decide))) rfl hb_collator_collatorref01_Mul rfl rfl rfl rfl ⟨(ar_tmp (av_rs 1 rfl rfl)), (ar_tmp (av_rs 3 rfl rfl)), trivial⟩⟩,
    .inl ⟨wants_plain rfl, does_field _ _ _ 0 ty_f0_collatorref02_Frac rfl rfl rfl rfl rfl rfl rfl (pt_box (av_fs 1 rfl))⟩,
    .inl ⟨wants_plain rfl, does_loadAgg _ ty_agg_collatorref01_Num rfl rfl rfl rfl rfl rfl (pt_fp (av_rs 5 rfl rfl)) (av_fs 1 rfl)⟩,
    .inl ⟨wants_plain rfl, does_field _ _ _ 2 ty_f1_collatorref02_Frac rfl rfl rfl rfl rfl rfl rfl (pt_box (av_fs 0 rfl))⟩,
    .inl ⟨wants_plain rfl, does_loadAgg _ ty_agg_collatorref01_Num rfl rfl rfl rfl rfl rfl (pt_fp (av_rs 7 rfl rfl)) (av_fs 0 rfl)⟩,
    .inl ⟨wants_plain rfl, does_call (r_mul r q (n10 hr (by decide)) (n10 hq (by decide))) rfl hb_collator_collatorref01_Mul rfl rfl rfl rfl ⟨(ar_tmp (av_rs 6 rfl rfl)), (ar_tmp (av_rs 8 rfl rfl)), trivial⟩⟩,
    .inl ⟨wants_plain rfl, does_call (r_add (p * s) (r * q) (n10 (lmul hp hs) (by decide)) (n10 (lmul hr hq) (by decide))) rfl hb_collator_collatorref01_Add rfl rfl rfl rfl ⟨(ar_tmp (av_rs 4 rfl rfl)), (ar_tmp (av_rs 9 rfl rfl)), trivial⟩⟩,
    .inl ⟨wants_plain rfl, does_field _ _ _ 2 ty_f1_collatorref02_Frac rfl rfl rfl rfl rfl rfl rfl (pt_box (av_fs 0 rfl))⟩,
    .inl ⟨wants_plain rfl, does_loadAgg _ ty_agg_collatorref01_Num rfl rfl rfl rfl rfl rfl (pt_fp (av_rs 11 rfl rfl)) (av_fs 0 rfl)⟩,
    .inl ⟨wants_plain rfl, does_field _ _ _ 2 ty_f1_collatorref02_Frac rfl rfl rfl rfl rfl rfl rfl (pt_box (av_fs 1 rfl))⟩,
    .inl ⟨wants_plain rfl, does_loadAgg _ ty_agg_collatorref01_Num rfl rfl rfl rfl rfl rfl (pt_fp (av_rs 13 rfl rfl)) (av_fs 1 rfl)⟩,
    .inl ⟨wants_plain rfl, does_call (r_mul q s (n10 hq (by decide)) (n10 hs (by decide))) rfl hb_collator_collatorref01_Mul rfl rfl rfl rfl ⟨(ar_tmp (av_rs 12 rfl rfl)), (ar_tmp (av_rs 14 rfl rfl)), trivial⟩⟩,
    .inl ⟨wants_plain rfl, does_call (g_make ((p * s) + (r * q)) (q * s) (lle (ladd (lmul hp hs) (lmul hr hq)) (by decide)) (lle (lmul hq hs) (by decide))) rfl hb_collator_collatorref02_Make rfl rfl rfl rfl ⟨(ar_tmp (av_rs 10 rfl rfl)), (ar_tmp (av_rs 15 rfl rfl)), trivial⟩⟩,
    .inl ⟨wants_plain rfl, does_storeAgg 4 _ _ ty_agg_collatorref02_Frac rfl rfl rfl rfl rfl (pt_box (av_os 0 rfl rfl)) (av_os 0 rfl rfl) (ar_tmp (av_rs 16 rfl rfl))⟩,
    trivial⟩ ?_
  refine nx_sub (fs' := [.box 4 130 [Bz (rmO ((p * s) + (r * q)) (q * s)), Tz (rmO ((p * s) + (r * q)) (q * s)), Bz (rmD ((p * s) + (r * q)) (q * s)), Tz (rmD ((p * s) + (r * q)) (q * s))]]) [19] rfl ?_
  refine nx_then ?_
  refine t_ret ?_
  exact rt_one rfl (res_agg 0 ty_agg_collatorref02_Frac rfl)
set_option maxRecDepth 100000 in
set_option maxHeartbeats 4000000 in
theorem g_mul (p q r s : Int) (hp : L p ≤ 1000) (hq : L q ≤ 1000) (hr : L r ≤ 1000) (hs : L s ≤ 1000) : Spec Try.prog 98 [(VP.agg [Bz p, Tz p, Bz q, Tz q]).p, (VP.agg [Bz r, Tz r, Bz s, Tz s]).p] (VP.agg [Bz (rmO (p * r) (q * s)), Tz (rmO (p * r) (q * s)), Bz (rmD (p * r) (q * s)), Tz (rmD (p * r) (q * s))]) := by
  refine spec_of (xs := [VP.agg [Bz p, Tz p, Bz q, Tz q], VP.agg [Bz r, Tz r, Bz s, Tz s]]) 16 [2, 3, 4] Try.func98 rfl Try.ntmps98 rfl fun w0 => ?_
  refine t_seq ?_
  refine t_region (F := ⟨_, _, _, _⟩) [.slot 0 (VP.agg [Bz p, Tz p, Bz q, Tz q]), .slot 1 (VP.agg [Bz r, Tz r, Bz s, Tz s])] [] [(0, .box 2 130 [Bz p, Tz p, Bz q, Tz q]), (1, .box 3 130 [Bz r, Tz r, Bz s, Tz s]), (2, .box 4 130 [Bz 0, Tz 0, Bz 0, Tz 0])] [0, 1] [] rfl rfl follow rfl ⟨
    .inl ⟨wants_plain rfl, does_box _ rfl rfl rfl rfl rfl (ar_tmp (av_fs 0 rfl))⟩,
    .inl ⟨wants_plain rfl, does_box _ rfl rfl rfl rfl rfl (ar_tmp (av_fs 1 rfl))⟩,
    .inl ⟨wants_plain rfl, does_alloc ty_zero_collatorref02_Frac rfl rfl rfl rfl rfl z_rfrac⟩,
    trivial⟩ ?_
  refine nx_sub (fs' := [.box 2 130 [Bz p, Tz p, Bz q, Tz q], .box 3 130 [Bz r, Tz r, Bz s, Tz s], .box 4 130 [Bz 0, Tz 0, Bz 0, Tz 0]]) [2, 3, 4] rfl ?_
  refine nx_then ?_
  refine t_seq ?_
  refine t_region (F := ⟨_, _, _, _⟩) [.box 2 130 [Bz p, Tz p, Bz q, Tz q], .box 3 130 [Bz r, Tz r, Bz s, Tz s]] [(11, .box 4 130 [Bz 0, Tz 0, Bz 0, Tz 0])] [(0, .fp 5 2 0), (1, .slot 6 (NUM p)), (2, .fp 7 3 0), (3, .slot 8 (NUM r)), (4, .slot 9 (NUM (p * r))), (5, .fp 10 2 2), (6, .slot 11 (NUM q)), (7, .fp 12 3 2), (8, .slot 13 (NUM s)), (9, .slot 14 (NUM (q * s))), (10, .slot 15 (VP.agg [Bz (rmO (p * r) (q * s)), Tz (rmO (p * r) (q * s)), Bz (rmD (p * r) (q * s)), Tz (rmD (p * r) (q * s))])), (11, .box 4 130 [Bz (rmO (p * r) (q * s)), Tz (rmO (p * r) (q * s)), Bz (rmD (p * r) (q * s)), Tz (rmD (p * r) (q * s))])] [0, 1] [2] rfl rfl follow rfl ⟨
    .inl ⟨wants_plain rfl, does_field _ _ _ 0 ty_f0_collatorref02_Frac rfl rfl rfl rfl rfl rfl rfl (pt_box (av_fs 0 rfl))⟩,
    .inl ⟨wants_plain rfl, does_loadAgg _ ty_agg_collatorref01_Num rfl rfl rfl rfl rfl rfl (pt_fp (av_rs 0 rfl rfl)) (av_fs 0 rfl)⟩,
    .inl ⟨wants_plain rfl, does_field _ _ _ 0 ty_f0_collatorref02_Frac rfl rfl rfl rfl rfl rfl rfl (pt_box (av_fs 1 rfl))⟩,
    .inl ⟨wants_plain rfl, does_loadAgg _ ty_agg_collatorref01_Num rfl rfl rfl rfl rfl rfl (pt_fp (av_rs 2 rfl rfl)) (av_fs 1 rfl)⟩,
    .inl ⟨wants_plain rfl, does_call (r_mul p r (n10 hp (by decide)) (n10 hr (by decide))) rfl hb_collator_collatorref01_Mul rfl rfl rfl rfl ⟨(ar_tmp (av_rs 1 rfl rfl)), (ar_tmp (av_rs 3 rfl rfl)), trivial⟩⟩,
    .inl ⟨wants_plain rfl, does_field _ _ _ 2 ty_f1_collatorref02_Frac rfl rfl rfl rfl rfl rfl rfl (pt_box (av_fs 0 rfl))⟩,
    .inl ⟨wants_plain rfl, does_loadAgg _ ty_agg_collatorref01_Num rfl rfl rfl rfl rfl rfl (pt_fp (av_rs 5 rfl rfl)) (av_fs 0 rfl)⟩,
    .inl ⟨wants_plain rfl, does_field _ _ _ 2 ty_f1_collatorref02_Frac rfl rfl rfl rfl rfl rfl rfl (pt_box (av_fs 1 rfl))⟩,
    .inl ⟨wants_plain rfl, does_loadAgg _ ty_agg_collatorref01_Num rfl rfl rfl rfl rfl rfl (pt_fp (av_rs 7 rfl rfl)) (av_fs 1 rfl)⟩,
    .inl ⟨wants_plain rfl, does_call (r_mul q s (n10 hq (by decide)) (n10 hs (by decide))) rfl hb_collator_collatorref01_Mul rfl rfl rfl rfl ⟨(ar_tmp (av_rs 6 rfl rfl)), (ar_tmp (av_rs 8 rfl rfl)), trivial⟩⟩,
    .inl ⟨wants_plain rfl, does_call (g_make (p * r) (q * s) (lle (lmul hp hr) (by decide)) (lle (lmul hq hs) (by decide))) rfl hb_collator_collatorref02_Make rfl rfl rfl rfl ⟨(ar_tmp (av_rs 4 rfl rfl)), (ar_tmp (av_rs 9 rfl rfl)), trivial⟩⟩,
    .inl ⟨wants_plain rfl, does_storeAgg 4 _ _ ty_agg_collatorref02_Frac rfl rfl rfl rfl rfl (pt_box (av_os 0 rfl rfl)) (av_os 0 rfl rfl) (ar_tmp (av_rs 10 rfl rfl))⟩,
    trivial⟩ ?_
  refine nx_sub (fs' := [.box 4 130 [Bz (rmO (p * r) (q * s)), Tz (rmO (p * r) (q * s)), Bz (rmD (p * r) (q * s)), Tz (rmD (p * r) (q * s))]]) [13] rfl ?_
  refine nx_then ?_
  refine t_ret ?_
  exact rt_one rfl (res_agg 0 ty_agg_collatorref02_Frac rfl)
set_option maxRecDepth 100000 in
set_option maxHeartbeats 4000000 in
theorem g_div (p q r s : Int) (hp : L p ≤ 1000) (hq : L q ≤ 1000) (hr : L r ≤ 1000) (hs : L s ≤ 1000) : Spec Try.prog 99 [(VP.agg [Bz p, Tz p, Bz q, Tz q]).p, (VP.agg [Bz r, Tz r, Bz s, Tz s]).p] (VP.agg [Bz (rmO (p * s) (q * r)), Tz (rmO (p * s) (q * r)), Bz (rmD (p * s) (q * r)), Tz (rmD (p * s) (q * r))]) := by
  refine spec_of (xs := [VP.agg [Bz p, Tz p, Bz q, Tz q], VP.agg [Bz r, Tz r, Bz s, Tz s]]) 16 [2, 3, 4] Try.func99 rfl Try.ntmps99 rfl fun w0 => ?_
  refine t_seq ?_
  refine t_region (F := ⟨_, _, _, _⟩) [.slot 0 (VP.agg [Bz p, Tz p, Bz q, Tz q]), .slot 1 (VP.agg [Bz r, Tz r, Bz s, Tz s])] [] [(0, .box 2 130 [Bz p, Tz p, Bz q, Tz q]), (1, .box 3 130 [Bz r, Tz r, Bz s, Tz s]), (2, .box 4 130 [Bz 0, Tz 0, Bz 0, Tz 0])] [0, 1] [] rfl rfl follow rfl ⟨
    .inl ⟨wants_plain rfl, does_box _ rfl rfl rfl rfl rfl (ar_tmp (av_fs 0 rfl))⟩,
    .inl ⟨wants_plain rfl, does_box _ rfl rfl rfl rfl rfl (ar_tmp (av_fs 1 rfl))⟩,
    .inl ⟨wants_plain rfl, does_alloc ty_zero_collatorref02_Frac rfl rfl rfl rfl rfl z_rfrac⟩,
    trivial⟩ ?_
  refine nx_sub (fs' := [.box 2 130 [Bz p, Tz p, Bz q, Tz q], .box 3 130 [Bz r, Tz r, Bz s, Tz s], .box 4 130 [Bz 0, Tz 0, Bz 0, Tz 0]]) [2, 3, 4] rfl ?_
  refine nx_then ?_
  refine t_seq ?_
  refine t_region (F := ⟨_, _, _, _⟩) [.box 2 130 [Bz p, Tz p, Bz q, Tz q], .box 3 130 [Bz r, Tz r, Bz s, Tz s]] [(11, .box 4 130 [Bz 0, Tz 0, Bz 0, Tz 0])] [(0, .fp 5 2 0), (1, .slot 6 (NUM p)), (2, .fp 7 3 2), (3, .slot 8 (NUM s)), (4, .slot 9 (NUM (p * s))), (5, .fp 10 2 2), (6, .slot 11 (NUM q)), (7, .fp 12 3 0), (8, .slot 13 (NUM r)), (9, .slot 14 (NUM (q * r))), (10, .slot 15 (VP.agg [Bz (rmO (p * s) (q * r)), Tz (rmO (p * s) (q * r)), Bz (rmD (p * s) (q * r)), Tz (rmD (p * s) (q * r))])), (11, .box 4 130 [Bz (rmO (p * s) (q * r)), Tz (rmO (p * s) (q * r)), Bz (rmD (p * s) (q * r)), Tz (rmD (p * s) (q * r))])] [0, 1] [2] rfl rfl follow rfl ⟨
    .inl ⟨wants_plain rfl, does_field _ _ _ 0 ty_f0_collatorref02_Frac rfl rfl rfl rfl rfl rfl rfl (pt_box (av_fs 0 rfl))⟩,
    .inl ⟨wants_plain rfl, does_loadAgg _ ty_agg_collatorref01_Num rfl rfl rfl rfl rfl rfl (pt_fp (av_rs 0 rfl rfl)) (av_fs 0 rfl)⟩,
    .inl ⟨wants_plain rfl, does_field _ _ _ 2 ty_f1_collatorref02_Frac rfl rfl rfl rfl rfl rfl rfl (pt_box (av_fs 1 rfl))⟩,
    .inl ⟨wants_plain rfl, does_loadAgg _ ty_agg_collatorref01_Num rfl rfl rfl rfl rfl rfl (pt_fp (av_rs 2 rfl rfl)) (av_fs 1 rfl)⟩,
    .inl ⟨wants_plain rfl, does_call (r_mul p s (n10 hp (by decide)) (n10 hs (by decide))) rfl hb_collator_collatorref01_Mul rfl rfl rfl rfl ⟨(ar_tmp (av_rs 1 rfl rfl)), (ar_tmp (av_rs 3 rfl rfl)), trivial⟩⟩,
    .inl ⟨wants_plain rfl, does_field _ _ _ 2 ty_f1_collatorref02_Frac rfl rfl rfl rfl rfl rfl rfl (pt_box (av_fs 0 rfl))⟩,
    .inl ⟨wants_plain rfl, does_loadAgg _ ty_agg_collatorref01_Num rfl rfl rfl rfl rfl rfl (pt_fp (av_rs 5 rfl rfl)) (av_fs 0 rfl)⟩,
    .inl ⟨wants_plain rfl, does_field _ _ _ 0 ty_f0_collatorref02_Frac rfl rfl rfl rfl rfl rfl rfl (pt_box (av_fs 1 rfl))⟩,
    .inl ⟨wants_plain rfl, does_loadAgg _ ty_agg_collatorref01_Num rfl rfl rfl rfl rfl rfl (pt_fp (av_rs 7 rfl rfl)) (av_fs 1 rfl)⟩,
    .inl ⟨wants_plain rfl, does_call (r_mul q r (n10 hq (by decide)) (n10 hr (by decide))) rfl hb_collator_collatorref01_Mul rfl rfl rfl rfl ⟨(ar_tmp (av_rs 6 rfl rfl)), (ar_tmp (av_rs 8 rfl rfl)), trivial⟩⟩,
    .inl ⟨wants_plain rfl, does_call (g_make (p * s) (q * r) (lle (lmul hp hs) (by decide)) (lle (lmul hq hr) (by decide))) rfl hb_collator_collatorref02_Make rfl rfl rfl rfl ⟨(ar_tmp (av_rs 4 rfl rfl)), (ar_tmp (av_rs 9 rfl rfl)), trivial⟩⟩,
    .inl ⟨wants_plain rfl, does_storeAgg 4 _ _ ty_agg_collatorref02_Frac rfl rfl rfl rfl rfl (pt_box (av_os 0 rfl rfl)) (av_os 0 rfl rfl) (ar_tmp (av_rs 10 rfl rfl))⟩,
    trivial⟩ ?_
  refine nx_sub (fs' := [.box 4 130 [Bz (rmO (p * s) (q * r)), Tz (rmO (p * s) (q * r)), Bz (rmD (p * s) (q * r)), Tz (rmD (p * s) (q * r))]]) [13] rfl ?_
  refine nx_then ?_
  refine t_ret ?_
  exact rt_one rfl (res_agg 0 ty_agg_collatorref02_Frac rfl)
set_option maxRecDepth 100000 in
set_option maxHeartbeats 4000000 in
theorem g_cmp (p q r s : Int) (hp : L p ≤ 1000) (hq : L q ≤ 1000) (hr : L r ≤ 1000) (hs : L s ≤ 1000) : Spec Try.prog 101 [(VP.agg [Bz p, Tz p, Bz q, Tz q]).p, (VP.agg [Bz r, Tz r, Bz s, Tz s]).p] (VP.int .i64 (cmpZ (rmO ((p * s) + ((-r) * q)) (q * s)) 0)) := by
  refine spec_of (xs := [VP.agg [Bz p, Tz p, Bz q, Tz q], VP.agg [Bz r, Tz r, Bz s, Tz s]]) 14 [2, 3, 5] Try.func101 rfl Try.ntmps101 rfl fun w0 => ?_
  refine t_seq ?_
  refine t_region (F := ⟨_, _, _, _⟩) [.slot 0 (VP.agg [Bz p, Tz p, Bz q, Tz q]), .slot 1 (VP.agg [Bz r, Tz r, Bz s, Tz s])] [] [(0, .box 2 130 [Bz p, Tz p, Bz q, Tz q]), (1, .box 3 130 [Bz r, Tz r, Bz s, Tz s]), (2, .slot 4 (VP.int .i64 0))] [0, 1] [] rfl rfl follow rfl ⟨
    .inl ⟨wants_plain rfl, does_box _ rfl rfl rfl rfl rfl (ar_tmp (av_fs 0 rfl))⟩,
    .inl ⟨wants_plain rfl, does_box _ rfl rfl rfl rfl rfl (ar_tmp (av_fs 1 rfl))⟩,
    .inl ⟨wants_plain rfl, does_move _ (.inr rfl) rfl rfl rfl rfl (ar_const (fun _ => rfl))⟩,
    trivial⟩ ?_
  refine nx_sub (fs' := [.box 2 130 [Bz p, Tz p, Bz q, Tz q], .box 3 130 [Bz r, Tz r, Bz s, Tz s], .slot 4 (VP.int .i64 0)]) [2, 3, 4] rfl ?_
  refine nx_then ?_
  refine t_seq ?_
  refine t_region (F := ⟨_, _, _, _⟩) [.box 2 130 [Bz p, Tz p, Bz q, Tz q], .box 3 130 [Bz r, Tz r, Bz s, Tz s], .slot 4 (VP.int .i64 0)] [] [(0, .slot 6 (VP.agg [Bz p, Tz p, Bz q, Tz q])), (1, .slot 7 (VP.agg [Bz r, Tz r, Bz s, Tz s])), (2, .slot 8 (VP.agg [Bz (-r), Tz (-r), Bz s, Tz s])), (3, .slot 9 (VP.agg [Bz (rmO ((p * s) + ((-r) * q)) (q * s)), Tz (rmO ((p * s) + ((-r) * q)) (q * s)), Bz (rmD ((p * s) + ((-r) * q)) (q * s)), Tz (rmD ((p * s) + ((-r) * q)) (q * s))])), (4, .own 5 130 4), (5, .box 5 130 [Bz (rmO ((p * s) + ((-r) * q)) (q * s)), Tz (rmO ((p * s) + ((-r) * q)) (q * s)), Bz (rmD ((p * s) + ((-r) * q)) (q * s)), Tz (rmD ((p * s) + ((-r) * q)) (q * s))])] [0, 1, 2] [] rfl rfl follow rfl ⟨
    .inl ⟨wants_plain rfl, does_loadAgg _ ty_agg_collatorref02_Frac rfl rfl rfl rfl rfl rfl (pt_box (av_fs 0 rfl)) (av_fs 0 rfl)⟩,
    .inl ⟨wants_plain rfl, does_loadAgg _ ty_agg_collatorref02_Frac rfl rfl rfl rfl rfl rfl (pt_box (av_fs 1 rfl)) (av_fs 1 rfl)⟩,
    .inl ⟨wants_plain rfl, does_call (g_neg r s hr hs) rfl hb_collator_collatorref02_Neg rfl rfl rfl rfl ⟨(ar_tmp (av_rs 1 rfl rfl)), trivial⟩⟩,
    .inl ⟨wants_plain rfl, does_call (g_add p q (-r) s hp hq (lneg hr) hs) rfl hb_collator_collatorref02_Add rfl rfl rfl rfl ⟨(ar_tmp (av_rs 0 rfl rfl)), (ar_tmp (av_rs 2 rfl rfl)), trivial⟩⟩,
    .inl ⟨wants_plain rfl, does_allocOwn [Bz 0, Tz 0, Bz 0, Tz 0] ty_zero_collatorref02_Frac rfl rfl rfl rfl rfl z_rfrac rfl⟩,
    .inl ⟨wants_plain rfl, does_storeNew 4 _ _ ty_agg_collatorref02_Frac rfl rfl rfl rfl rfl (pt_own (av_rs 4 rfl rfl)) (av_rs 4 rfl rfl) (ar_tmp (av_rs 3 rfl rfl))⟩,
    trivial⟩ ?_
  refine nx_sub (fs' := [.slot 4 (VP.int .i64 0), .box 5 130 [Bz (rmO ((p * s) + ((-r) * q)) (q * s)), Tz (rmO ((p * s) + ((-r) * q)) (q * s)), Bz (rmD ((p * s) + ((-r) * q)) (q * s)), Tz (rmD ((p * s) + ((-r) * q)) (q * s))]]) [2, 8] rfl ?_
  refine nx_then ?_
  refine t_seq ?_
  refine t_region (F := ⟨_, _, _, _⟩) [.box 5 130 [Bz (rmO ((p * s) + ((-r) * q)) (q * s)), Tz (rmO ((p * s) + ((-r) * q)) (q * s)), Bz (rmD ((p * s) + ((-r) * q)) (q * s)), Tz (rmD ((p * s) + ((-r) * q)) (q * s))]] [(4, .slot 4 (VP.int .i64 0))] [(0, .fp 10 5 0), (1, .slot 11 (NUM (rmO ((p * s) + ((-r) * q)) (q * s)))), (2, .slot 12 (NUM 0)), (3, .slot 13 (VP.int .i64 (cmpZ (rmO ((p * s) + ((-r) * q)) (q * s)) 0))), (4, .slot 4 (VP.int .i64 (cmpZ (rmO ((p * s) + ((-r) * q)) (q * s)) 0)))] [1] [0] rfl rfl follow rfl ⟨
    .inl ⟨wants_plain rfl, does_field _ _ _ 0 ty_f0_collatorref02_Frac rfl rfl rfl rfl rfl rfl rfl (pt_box (av_fs 0 rfl))⟩,
    .inl ⟨wants_plain rfl, does_loadAgg _ ty_agg_collatorref01_Num rfl rfl rfl rfl rfl rfl (pt_fp (av_rs 0 rfl rfl)) (av_fs 0 rfl)⟩,
    .inl ⟨wants_plain rfl, does_call (r_int 0 (by decide) (by decide)) rfl hb_collator_collatorref01_Int rfl rfl rfl rfl ⟨(ar_const (fun _ => rfl)), trivial⟩⟩,
    .inl ⟨wants_plain rfl, does_call (r_cmp (rmO ((p * s) + ((-r) * q)) (q * s)) 0 (n10 (lrmO (y := (q * s)) (ladd (lmul hp hs) (lmul (lneg hr) hq))) (by decide)) (n10 lzero (by decide))) rfl hb_collator_collatorref01_Cmp rfl rfl rfl rfl ⟨(ar_tmp (av_rs 1 rfl rfl)), (ar_tmp (av_rs 2 rfl rfl)), trivial⟩⟩,
    .inl ⟨wants_plain rfl, does_move _ (.inr rfl) rfl rfl rfl rfl (ar_tmp (av_rs 3 rfl rfl))⟩,
    trivial⟩ ?_
  refine nx_sub (fs' := [.slot 4 (VP.int .i64 (cmpZ (rmO ((p * s) + ((-r) * q)) (q * s)) 0))]) [5] rfl ?_
  refine nx_then ?_
  refine t_ret ?_
  exact rt_one rfl (res_tmp 0 rfl)
set_option maxRecDepth 100000 in
set_option maxHeartbeats 4000000 in
theorem g_floor (p q : Int) (hp : L p ≤ 1000) (hq : L q ≤ 1000) : Spec Try.prog 95 [(VP.agg [Bz p, Tz p, Bz q, Tz q]).p] (VP.tup [NUM (divZ p q), VP.bool (decide ((modZ p q) = 0))]) := by
  refine spec_of (xs := [VP.agg [Bz p, Tz p, Bz q, Tz q]]) 19 [1, 2, 4, 5] Try.func95 rfl Try.ntmps95 rfl fun w0 => ?_
  refine t_seq ?_
  refine t_region (F := ⟨_, _, _, _⟩) [.slot 0 (VP.agg [Bz p, Tz p, Bz q, Tz q])] [] [(0, .box 1 130 [Bz p, Tz p, Bz q, Tz q]), (1, .box 2 72 [Bz 0, Tz 0]), (2, .slot 3 (VP.bool false))] [0] [] rfl rfl follow rfl ⟨
    .inl ⟨wants_plain rfl, does_box _ rfl rfl rfl rfl rfl (ar_tmp (av_fs 0 rfl))⟩,
    .inl ⟨wants_plain rfl, does_alloc ty_zero_collatorref01_Num rfl rfl rfl rfl rfl z_num⟩,
    .inl ⟨wants_plain rfl, does_move _ (.inr rfl) rfl rfl rfl rfl (ar_const (fun _ => rfl))⟩,
    trivial⟩ ?_
  refine nx_sub (fs' := [.box 1 130 [Bz p, Tz p, Bz q, Tz q], .box 2 72 [Bz 0, Tz 0], .slot 3 (VP.bool false)]) [1, 2, 3] rfl ?_
  refine nx_then ?_
  refine t_seq ?_
  refine t_region (F := ⟨_, _, _, _⟩) [.box 1 130 [Bz p, Tz p, Bz q, Tz q], .box 2 72 [Bz 0, Tz 0], .slot 3 (VP.bool false)] [] [(0, .fp 7 1 0), (1, .slot 8 (NUM p)), (2, .fp 9 1 2), (3, .slot 10 (NUM q)), (4, .slot 11 (VP.tup [NUM (divZ p q), NUM (modZ p q)])), (5, .slot 6 (VP.tup [NUM (divZ p q), NUM (modZ p q)])), (6, .slot 12 (NUM (divZ p q))), (7, .slot 13 (NUM (modZ p q))), (8, .own 4 72 2), (9, .own 5 72 2), (10, .box 4 72 [Bz (divZ p q), Tz (divZ p q)]), (11, .box 5 72 [Bz (modZ p q), Tz (modZ p q)])] [0, 1, 2] [] rfl rfl follow rfl ⟨
    .inl ⟨wants_plain rfl, does_field _ _ _ 0 ty_f0_collatorref02_Frac rfl rfl rfl rfl rfl rfl rfl (pt_box (av_fs 0 rfl))⟩,
    .inl ⟨wants_plain rfl, does_loadAgg _ ty_agg_collatorref01_Num rfl rfl rfl rfl rfl rfl (pt_fp (av_rs 0 rfl rfl)) (av_fs 0 rfl)⟩,
    .inl ⟨wants_plain rfl, does_field _ _ _ 2 ty_f1_collatorref02_Frac rfl rfl rfl rfl rfl rfl rfl (pt_box (av_fs 0 rfl))⟩,
    .inl ⟨wants_plain rfl, does_loadAgg _ ty_agg_collatorref01_Num rfl rfl rfl rfl rfl rfl (pt_fp (av_rs 2 rfl rfl)) (av_fs 0 rfl)⟩,
    .inl ⟨wants_plain rfl, does_call (r_div p q (n10 hp (by decide)) (n10 hq (by decide))) rfl hb_collator_collatorref01_Div rfl rfl rfl rfl ⟨(ar_tmp (av_rs 1 rfl rfl)), (ar_tmp (av_rs 3 rfl rfl)), trivial⟩⟩,
    .inl ⟨wants_plain rfl, does_move _ (.inl rfl) rfl rfl rfl rfl (ar_tmp (av_rs 4 rfl rfl))⟩,
    .inl ⟨wants_plain rfl, does_extract (ps := [NUM (divZ p q), NUM (modZ p q)]) _ _ rfl rfl rfl rfl rfl (ar_tmp (av_rs 5 rfl rfl)) rfl⟩,
    .inl ⟨wants_plain rfl, does_extract (ps := [NUM (divZ p q), NUM (modZ p q)]) _ _ rfl rfl rfl rfl rfl (ar_tmp (av_rs 5 rfl rfl)) rfl⟩,
    .inl ⟨wants_plain rfl, does_allocOwn [Bz 0, Tz 0] ty_zero_collatorref01_Num rfl rfl rfl rfl rfl z_num rfl⟩,
    .inl ⟨wants_plain rfl, does_allocOwn [Bz 0, Tz 0] ty_zero_collatorref01_Num rfl rfl rfl rfl rfl z_num rfl⟩,
    .inl ⟨wants_plain rfl, does_storeNew 2 _ _ ty_agg_collatorref01_Num rfl rfl rfl rfl rfl (pt_own (av_rs 8 rfl rfl)) (av_rs 8 rfl rfl) (ar_tmp (av_rs 6 rfl rfl))⟩,
    .inl ⟨wants_plain rfl, does_storeNew 2 _ _ ty_agg_collatorref01_Num rfl rfl rfl rfl rfl (pt_own (av_rs 9 rfl rfl)) (av_rs 9 rfl rfl) (ar_tmp (av_rs 7 rfl rfl))⟩,
    trivial⟩ ?_
  refine nx_sub (fs' := [.box 2 72 [Bz 0, Tz 0], .slot 3 (VP.bool false), .box 4 72 [Bz (divZ p q), Tz (divZ p q)], .box 5 72 [Bz (modZ p q), Tz (modZ p q)]]) [1, 2, 13, 14] rfl ?_
  refine nx_then ?_
  refine t_seq ?_
  refine t_region (F := ⟨_, _, _, _⟩) [.box 4 72 [Bz (divZ p q), Tz (divZ p q)], .box 5 72 [Bz (modZ p q), Tz (modZ p q)]] [(5, .box 2 72 [Bz 0, Tz 0]), (6, .slot 3 (VP.bool false))] [(0, .slot 14 (NUM (divZ p q))), (1, .fp 15 5 1), (2, .slot 16 (Tz (modZ p q))), (3, .slot 17 (VP.int .i64 (((dg 10 (modZ p q).natAbs).length : Nat) : Int))), (4, .slot 18 (VP.bool ((((dg 10 (modZ p q).natAbs).length : Nat) : Int) == 0))), (5, .box 2 72 [Bz (divZ p q), Tz (divZ p q)]), (6, .slot 3 (VP.bool ((((dg 10 (modZ p q).natAbs).length : Nat) : Int) == 0)))] [2, 3] [0, 1] rfl rfl follow rfl ⟨
    .inl ⟨wants_plain rfl, does_loadAgg _ ty_agg_collatorref01_Num rfl rfl rfl rfl rfl rfl (pt_box (av_fs 0 rfl)) (av_fs 0 rfl)⟩,
    .inl ⟨wants_plain rfl, does_field _ _ _ 1 ty_f1_collatorref01_Num rfl rfl rfl rfl rfl rfl rfl (pt_box (av_fs 1 rfl))⟩,
    .inl ⟨wants_plain rfl, does_loadOne _ ty_one___int rfl rfl rfl rfl rfl rfl (pt_fp (av_rs 1 rfl rfl)) (av_fs 1 rfl)⟩,
    .inl ⟨wants_plain rfl, does_len _ _ (by kernel_rfl) rfl rfl rfl rfl rfl (ar_tmp (av_rs 2 rfl rfl))⟩,
    .inl ⟨wants_plain rfl, does_cmp (m := (((dg 10 (modZ p q).natAbs).length : Nat) : Int)) (n := 0) _ _ _ _ _ rfl rfl rfl rfl rfl rfl .i64 (ar_tmp (av_rs 3 rfl rfl)) (ar_const (fun _ => rfl))⟩,
    .inl ⟨wants_plain rfl, does_storeAgg 2 _ _ ty_agg_collatorref01_Num rfl rfl rfl rfl rfl (pt_box (av_os 0 rfl rfl)) (av_os 0 rfl rfl) (ar_tmp (av_rs 0 rfl rfl))⟩,
    .inl ⟨wants_plain rfl, does_move _ (.inr rfl) rfl rfl rfl rfl (ar_tmp (av_rs 4 rfl rfl))⟩,
    trivial⟩ ?_
  refine nx_sub (fs' := [.box 2 72 [Bz (divZ p q), Tz (divZ p q)], .slot 3 (VP.bool ((((dg 10 (modZ p q).natAbs).length : Nat) : Int) == 0))]) [7, 8] rfl ?_
  refine nx_then ?_
  refine t_ret ?_
  exact rt_two rfl (res_agg 0 ty_agg_collatorref01_Num rfl) (res_tmpb 1 rfl (len10_isz (modZ p q)))
set_option maxRecDepth 100000 in
set_option maxHeartbeats 4000000 in
theorem g_text1 (p q : Int) (hp : L p ≤ 1000) (hq : L q ≤ 1000) (h : q = 1) : Spec Try.prog 103 [(VP.agg [Bz p, Tz p, Bz q, Tz q]).p] (VP.str (txt p)) := by
  refine spec_of (xs := [VP.agg [Bz p, Tz p, Bz q, Tz q]]) 19 [1] Try.func103 rfl Try.ntmps103 rfl fun w0 => ?_
  refine t_seq ?_
  refine t_region (F := ⟨_, _, _, _⟩) [.slot 0 (VP.agg [Bz p, Tz p, Bz q, Tz q])] [] [(0, .box 1 130 [Bz p, Tz p, Bz q, Tz q]), (1, .slot 2 (VP.str (ByteArray.mk #[])))] [0] [] rfl rfl follow rfl ⟨
    .inl ⟨wants_plain rfl, does_box _ rfl rfl rfl rfl rfl (ar_tmp (av_fs 0 rfl))⟩,
    .inl ⟨wants_plain rfl, does_move _ (.inr rfl) rfl rfl rfl rfl (ar_const (fun _ => rfl))⟩,
    trivial⟩ ?_
  refine nx_sub (fs' := [.box 1 130 [Bz p, Tz p, Bz q, Tz q], .slot 2 (VP.str (ByteArray.mk #[]))]) [1, 2] rfl ?_
  refine nx_then ?_
  refine t_seq ?_
  refine t_region (F := ⟨_, _, _, _⟩) [.box 1 130 [Bz p, Tz p, Bz q, Tz q], .slot 2 (VP.str (ByteArray.mk #[]))] [] [(0, .fp 4 1 0), (1, .slot 5 (NUM p)), (2, .slot 6 (VP.str (txt p))), (3, .slot 3 (VP.str (txt p)))] [0, 1] [] rfl rfl follow rfl ⟨
    .inl ⟨wants_plain rfl, does_field _ _ _ 0 ty_f0_collatorref02_Frac rfl rfl rfl rfl rfl rfl rfl (pt_box (av_fs 0 rfl))⟩,
    .inl ⟨wants_plain rfl, does_loadAgg _ ty_agg_collatorref01_Num rfl rfl rfl rfl rfl rfl (pt_fp (av_rs 0 rfl rfl)) (av_fs 0 rfl)⟩,
    .inl ⟨wants_plain rfl, does_call (r_text p (n10 hp (by decide))) rfl hb_collator_collatorref01_Text rfl rfl rfl rfl ⟨(ar_tmp (av_rs 1 rfl rfl)), trivial⟩⟩,
    .inl ⟨wants_plain rfl, does_move _ (.inr rfl) rfl rfl rfl rfl (ar_tmp (av_rs 2 rfl rfl))⟩,
    trivial⟩ ?_
  refine nx_sub (fs' := [.box 1 130 [Bz p, Tz p, Bz q, Tz q], .slot 2 (VP.str (ByteArray.mk #[])), .slot 3 (VP.str (txt p))]) [0, 1, 5] rfl ?_
  refine nx_then ?_
  refine t_seq ?_
  refine t_seq ?_
  refine t_region (F := ⟨_, _, _, _⟩) [.box 1 130 [Bz p, Tz p, Bz q, Tz q], .slot 2 (VP.str (ByteArray.mk #[])), .slot 3 (VP.str (txt p))] [] [(0, .fp 7 1 2), (1, .slot 8 (NUM q)), (2, .slot 9 (NUM 1)), (3, .slot 10 (VP.int .i64 (cmpZ q 1))), (4, .slot 11 (VP.bool ((cmpZ q 1) != 0)))] [0, 1, 2] [] rfl rfl follow rfl ⟨
    .inl ⟨wants_plain rfl, does_field _ _ _ 2 ty_f1_collatorref02_Frac rfl rfl rfl rfl rfl rfl rfl (pt_box (av_fs 0 rfl))⟩,
    .inl ⟨wants_plain rfl, does_loadAgg _ ty_agg_collatorref01_Num rfl rfl rfl rfl rfl rfl (pt_fp (av_rs 0 rfl rfl)) (av_fs 0 rfl)⟩,
    .inl ⟨wants_plain rfl, does_call (r_int 1 (by decide) (by decide)) rfl hb_collator_collatorref01_Int rfl rfl rfl rfl ⟨(ar_const (fun _ => rfl)), trivial⟩⟩,
    .inl ⟨wants_plain rfl, does_call (r_cmp q 1 (n10 hq (by decide)) (n10 lone (by decide))) rfl hb_collator_collatorref01_Cmp rfl rfl rfl rfl ⟨(ar_tmp (av_rs 1 rfl rfl)), (ar_tmp (av_rs 2 rfl rfl)), trivial⟩⟩,
    .inl ⟨wants_plain rfl, does_cmp (m := (cmpZ q 1)) (n := 0) _ _ _ _ _ rfl rfl rfl rfl rfl rfl .i64 (ar_tmp (av_rs 3 rfl rfl)) (ar_const (fun _ => rfl))⟩,
    trivial⟩ ?_
  refine nx_sub (fs' := [.box 1 130 [Bz p, Tz p, Bz q, Tz q], .slot 2 (VP.str (ByteArray.mk #[])), .slot 3 (VP.str (txt p)), .slot 11 (VP.bool ((cmpZ q 1) != 0))]) [0, 1, 2, 7] rfl ?_
  refine nx_then ?_
  refine t_cond_fe 3 rfl (cmp_one' h) ?_
  refine t_skip ?_
  refine nx_then ?_
  refine t_seq ?_
  refine t_region (F := ⟨_, _, _, _⟩) [.box 1 130 [Bz p, Tz p, Bz q, Tz q], .slot 3 (VP.str (txt p)), .slot 11 (VP.bool ((cmpZ q 1) != 0))] [(1, .slot 2 (VP.str (ByteArray.mk #[])))] [(0, .slot 18 (VP.str (txt p))), (1, .slot 2 (VP.str (txt p)))] [0, 2, 3] [1] rfl rfl follow rfl ⟨
    .inl ⟨wants_plain rfl, does_move _ (.inl rfl) rfl rfl rfl rfl (ar_tmp (av_fs 1 rfl))⟩,
    .inl ⟨wants_plain rfl, does_move _ (.inr rfl) rfl rfl rfl rfl (ar_tmp (av_rs 0 rfl rfl))⟩,
    trivial⟩ ?_
  refine nx_sub (fs' := [.slot 2 (VP.str (txt p))]) [4] rfl ?_
  refine nx_then ?_
  refine t_ret ?_
  exact rt_one rfl (res_tmp 0 rfl)
set_option maxRecDepth 100000 in
set_option maxHeartbeats 4000000 in
theorem g_text2 (p q : Int) (hp : L p ≤ 1000) (hq : L q ≤ 1000) (h : q ≠ 1) : Spec Try.prog 103 [(VP.agg [Bz p, Tz p, Bz q, Tz q]).p] (VP.str (((txt p) ++ (ByteArray.mk #[47])) ++ (txt q))) := by
  refine spec_of (xs := [VP.agg [Bz p, Tz p, Bz q, Tz q]]) 19 [1] Try.func103 rfl Try.ntmps103 rfl fun w0 => ?_
  refine t_seq ?_
  refine t_region (F := ⟨_, _, _, _⟩) [.slot 0 (VP.agg [Bz p, Tz p, Bz q, Tz q])] [] [(0, .box 1 130 [Bz p, Tz p, Bz q, Tz q]), (1, .slot 2 (VP.str (ByteArray.mk #[])))] [0] [] rfl rfl follow rfl ⟨
    .inl ⟨wants_plain rfl, does_box _ rfl rfl rfl rfl rfl (ar_tmp (av_fs 0 rfl))⟩,
    .inl ⟨wants_plain rfl, does_move _ (.inr rfl) rfl rfl rfl rfl (ar_const (fun _ => rfl))⟩,
    trivial⟩ ?_
  refine nx_sub (fs' := [.box 1 130 [Bz p, Tz p, Bz q, Tz q], .slot 2 (VP.str (ByteArray.mk #[]))]) [1, 2] rfl ?_
  refine nx_then ?_
  refine t_seq ?_
  refine t_region (F := ⟨_, _, _, _⟩) [.box 1 130 [Bz p, Tz p, Bz q, Tz q], .slot 2 (VP.str (ByteArray.mk #[]))] [] [(0, .fp 4 1 0), (1, .slot 5 (NUM p)), (2, .slot 6 (VP.str (txt p))), (3, .slot 3 (VP.str (txt p)))] [0, 1] [] rfl rfl follow rfl ⟨
    .inl ⟨wants_plain rfl, does_field _ _ _ 0 ty_f0_collatorref02_Frac rfl rfl rfl rfl rfl rfl rfl (pt_box (av_fs 0 rfl))⟩,
    .inl ⟨wants_plain rfl, does_loadAgg _ ty_agg_collatorref01_Num rfl rfl rfl rfl rfl rfl (pt_fp (av_rs 0 rfl rfl)) (av_fs 0 rfl)⟩,
    .inl ⟨wants_plain rfl, does_call (r_text p (n10 hp (by decide))) rfl hb_collator_collatorref01_Text rfl rfl rfl rfl ⟨(ar_tmp (av_rs 1 rfl rfl)), trivial⟩⟩,
    .inl ⟨wants_plain rfl, does_move _ (.inr rfl) rfl rfl rfl rfl (ar_tmp (av_rs 2 rfl rfl))⟩,
    trivial⟩ ?_
  refine nx_sub (fs' := [.box 1 130 [Bz p, Tz p, Bz q, Tz q], .slot 2 (VP.str (ByteArray.mk #[])), .slot 3 (VP.str (txt p))]) [0, 1, 5] rfl ?_
  refine nx_then ?_
  refine t_seq ?_
  refine t_seq ?_
  refine t_region (F := ⟨_, _, _, _⟩) [.box 1 130 [Bz p, Tz p, Bz q, Tz q], .slot 2 (VP.str (ByteArray.mk #[])), .slot 3 (VP.str (txt p))] [] [(0, .fp 7 1 2), (1, .slot 8 (NUM q)), (2, .slot 9 (NUM 1)), (3, .slot 10 (VP.int .i64 (cmpZ q 1))), (4, .slot 11 (VP.bool ((cmpZ q 1) != 0)))] [0, 1, 2] [] rfl rfl follow rfl ⟨
    .inl ⟨wants_plain rfl, does_field _ _ _ 2 ty_f1_collatorref02_Frac rfl rfl rfl rfl rfl rfl rfl (pt_box (av_fs 0 rfl))⟩,
    .inl ⟨wants_plain rfl, does_loadAgg _ ty_agg_collatorref01_Num rfl rfl rfl rfl rfl rfl (pt_fp (av_rs 0 rfl rfl)) (av_fs 0 rfl)⟩,
    .inl ⟨wants_plain rfl, does_call (r_int 1 (by decide) (by decide)) rfl hb_collator_collatorref01_Int rfl rfl rfl rfl ⟨(ar_const (fun _ => rfl)), trivial⟩⟩,
    .inl ⟨wants_plain rfl, does_call (r_cmp q 1 (n10 hq (by decide)) (n10 lone (by decide))) rfl hb_collator_collatorref01_Cmp rfl rfl rfl rfl ⟨(ar_tmp (av_rs 1 rfl rfl)), (ar_tmp (av_rs 2 rfl rfl)), trivial⟩⟩,
    .inl ⟨wants_plain rfl, does_cmp (m := (cmpZ q 1)) (n := 0) _ _ _ _ _ rfl rfl rfl rfl rfl rfl .i64 (ar_tmp (av_rs 3 rfl rfl)) (ar_const (fun _ => rfl))⟩,
    trivial⟩ ?_
  refine nx_sub (fs' := [.box 1 130 [Bz p, Tz p, Bz q, Tz q], .slot 2 (VP.str (ByteArray.mk #[])), .slot 3 (VP.str (txt p)), .slot 11 (VP.bool ((cmpZ q 1) != 0))]) [0, 1, 2, 7] rfl ?_
  refine nx_then ?_
  refine t_cond_te 3 rfl (cmp_two' h) ?_
  refine t_region (F := ⟨_, _, _, _⟩) [.box 1 130 [Bz p, Tz p, Bz q, Tz q], .slot 2 (VP.str (ByteArray.mk #[])), .slot 11 (VP.bool ((cmpZ q 1) != 0))] [(6, .slot 3 (VP.str (txt p)))] [(0, .slot 12 (VP.str (txt p))), (1, .slot 13 (VP.str ((txt p) ++ (ByteArray.mk #[47])))), (2, .fp 14 1 2), (3, .slot 15 (NUM q)), (4, .slot 16 (VP.str (txt q))), (5, .slot 17 (VP.str (((txt p) ++ (ByteArray.mk #[47])) ++ (txt q)))), (6, .slot 3 (VP.str (((txt p) ++ (ByteArray.mk #[47])) ++ (txt q))))] [0, 1, 3] [2] rfl rfl follow rfl ⟨
    .inl ⟨wants_plain rfl, does_move _ (.inl rfl) rfl rfl rfl rfl (ar_tmp (av_os 0 rfl rfl))⟩,
    .inl ⟨wants_plain rfl, does_cat (u := (txt p)) (v := (ByteArray.mk #[47])) _ _ _ _ rfl rfl rfl rfl rfl (cat1 hp) (ar_tmp (av_rs 0 rfl rfl)) (ar_const (fun _ => rfl))⟩,
    .inl ⟨wants_plain rfl, does_field _ _ _ 2 ty_f1_collatorref02_Frac rfl rfl rfl rfl rfl rfl rfl (pt_box (av_fs 0 rfl))⟩,
    .inl ⟨wants_plain rfl, does_loadAgg _ ty_agg_collatorref01_Num rfl rfl rfl rfl rfl rfl (pt_fp (av_rs 2 rfl rfl)) (av_fs 0 rfl)⟩,
    .inl ⟨wants_plain rfl, does_call (r_text q (n10 hq (by decide))) rfl hb_collator_collatorref01_Text rfl rfl rfl rfl ⟨(ar_tmp (av_rs 3 rfl rfl)), trivial⟩⟩,
    .inl ⟨wants_plain rfl, does_cat (u := ((txt p) ++ (ByteArray.mk #[47]))) (v := (txt q)) _ _ _ _ rfl rfl rfl rfl rfl (cat2 hp hq) (ar_tmp (av_rs 1 rfl rfl)) (ar_tmp (av_rs 4 rfl rfl))⟩,
    .inl ⟨wants_plain rfl, does_move _ (.inr rfl) rfl rfl rfl rfl (ar_tmp (av_rs 5 rfl rfl))⟩,
    trivial⟩ ?_
  refine nx_sub (fs' := [.slot 2 (VP.str (ByteArray.mk #[])), .slot 3 (VP.str (((txt p) ++ (ByteArray.mk #[47])) ++ (txt q)))]) [1, 9] rfl ?_
  refine nx_then ?_
  refine t_seq ?_
  refine t_region (F := ⟨_, _, _, _⟩) [.slot 3 (VP.str (((txt p) ++ (ByteArray.mk #[47])) ++ (txt q)))] [(1, .slot 2 (VP.str (ByteArray.mk #[])))] [(0, .slot 18 (VP.str (((txt p) ++ (ByteArray.mk #[47])) ++ (txt q)))), (1, .slot 2 (VP.str (((txt p) ++ (ByteArray.mk #[47])) ++ (txt q))))] [1] [0] rfl rfl follow rfl ⟨
    .inl ⟨wants_plain rfl, does_move _ (.inl rfl) rfl rfl rfl rfl (ar_tmp (av_fs 0 rfl))⟩,
    .inl ⟨wants_plain rfl, does_move _ (.inr rfl) rfl rfl rfl rfl (ar_tmp (av_rs 0 rfl rfl))⟩,
    trivial⟩ ?_
  refine nx_sub (fs' := [.slot 2 (VP.str (((txt p) ++ (ByteArray.mk #[47])) ++ (txt q)))]) [2] rfl ?_
  refine nx_then ?_
  refine t_ret ?_
  exact rt_one rfl (res_tmp 0 rfl)
theorem g_text (p q : Int) (hp : L p ≤ 1000) (hq : L q ≤ 1000) : Spec Try.prog 103 [(VP.agg [Bz p, Tz p, Bz q, Tz q]).p] (VP.str (rtxt p q)) := by
  by_cases h : q = 1
  · rw [show rtxt p q = txt p from if_pos h]; exact g_text1 p q hp hq h
  · rw [show rtxt p q = (((txt p) ++ (ByteArray.mk #[47])) ++ (txt q)) from if_neg h]; exact g_text2 p q hp hq h
set_option maxRecDepth 100000 in
set_option maxHeartbeats 4000000 in
theorem g_same1 (p q r s : Int) (hp : L p ≤ 100000) (_hq : L q ≤ 100000) (hr : L r ≤ 100000) (_hs : L s ≤ 100000) (h : p ≠ r) : Spec Try.prog 89 [(VP.agg [Bz p, Dz p, Bz q, Dz q]).p, (VP.agg [Bz r, Dz r, Bz s, Dz s]).p] (VP.bool false) := by
  refine spec_of (xs := [VP.agg [Bz p, Dz p, Bz q, Dz q], VP.agg [Bz r, Dz r, Bz s, Dz s]]) 17 [2, 3] Try.func89 rfl Try.ntmps89 rfl fun w0 => ?_
  refine t_seq ?_
  refine t_region (F := ⟨_, _, _, _⟩) [.slot 0 (VP.agg [Bz p, Dz p, Bz q, Dz q]), .slot 1 (VP.agg [Bz r, Dz r, Bz s, Dz s])] [] [(0, .box 2 100 [Bz p, Dz p, Bz q, Dz q]), (1, .box 3 100 [Bz r, Dz r, Bz s, Dz s]), (2, .slot 4 (VP.bool false))] [0, 1] [] rfl rfl follow rfl ⟨
    .inl ⟨wants_plain rfl, does_box _ rfl rfl rfl rfl rfl (ar_tmp (av_fs 0 rfl))⟩,
    .inl ⟨wants_plain rfl, does_box _ rfl rfl rfl rfl rfl (ar_tmp (av_fs 1 rfl))⟩,
    .inl ⟨wants_plain rfl, does_move _ (.inr rfl) rfl rfl rfl rfl (ar_const (fun _ => rfl))⟩,
    trivial⟩ ?_
  refine nx_sub (fs' := [.box 2 100 [Bz p, Dz p, Bz q, Dz q], .box 3 100 [Bz r, Dz r, Bz s, Dz s], .slot 4 (VP.bool false)]) [2, 3, 4] rfl ?_
  refine nx_then ?_
  refine t_seq ?_
  refine t_region (F := ⟨_, _, _, _⟩) [.box 2 100 [Bz p, Dz p, Bz q, Dz q], .box 3 100 [Bz r, Dz r, Bz s, Dz s]] [(12, .slot 4 (VP.bool false))] [(0, .fp 5 2 0), (1, .slot 6 (INT p)), (2, .fp 7 3 0), (3, .slot 8 (INT r)), (4, .slot 9 (VP.bool (decide (p = r)))), (5, .slot 10 (VP.bool (decide (p = r)))), (11, .slot 16 (VP.bool false)), (12, .slot 4 (VP.bool false))] [0, 1] [2] rfl rfl follow rfl ⟨
    .inl ⟨wants_plain rfl, does_field _ _ _ 0 ty_f0_api_Frac rfl rfl rfl rfl rfl rfl rfl (pt_box (av_fs 0 rfl))⟩,
    .inl ⟨wants_plain rfl, does_loadAgg _ ty_agg_api_Int rfl rfl rfl rfl rfl rfl (pt_fp (av_rs 0 rfl rfl)) (av_fs 0 rfl)⟩,
    .inl ⟨wants_plain rfl, does_field _ _ _ 0 ty_f0_api_Frac rfl rfl rfl rfl rfl rfl rfl (pt_box (av_fs 1 rfl))⟩,
    .inl ⟨wants_plain rfl, does_loadAgg _ ty_agg_api_Int rfl rfl rfl rfl rfl rfl (pt_fp (av_rs 2 rfl rfl)) (av_fs 1 rfl)⟩,
    .inl ⟨wants_plain rfl, does_call (r_same p r hp hr) rfl hb_collator_collatorref01_Same rfl rfl rfl rfl ⟨(ar_tmp (av_rs 1 rfl rfl)), (ar_tmp (av_rs 3 rfl rfl)), trivial⟩⟩,
    .inl ⟨wants_plain rfl, does_move _ (.inl rfl) rfl rfl rfl rfl (ar_tmp (av_rs 4 rfl rfl))⟩,
    .inr (skips_guard false rfl rfl rfl (av_bool (decide_eq_false h) (av_rs 5 rfl rfl)) rfl rfl rfl rfl),
    .inr (skips_guard false rfl rfl rfl (av_bool (decide_eq_false h) (av_rs 5 rfl rfl)) rfl rfl rfl rfl),
    .inr (skips_guard false rfl rfl rfl (av_bool (decide_eq_false h) (av_rs 5 rfl rfl)) rfl rfl rfl rfl),
    .inr (skips_guard false rfl rfl rfl (av_bool (decide_eq_false h) (av_rs 5 rfl rfl)) rfl rfl rfl rfl),
    .inr (skips_guard false rfl rfl rfl (av_bool (decide_eq_false h) (av_rs 5 rfl rfl)) rfl rfl rfl rfl),
    .inl ⟨wants_plain rfl, does_pick false _ _ _ rfl rfl rfl rfl rfl (ar_tmp (av_bool (decide_eq_false h) (av_rs 5 rfl rfl))) (ar_const (fun _ => rfl))⟩,
    .inl ⟨wants_plain rfl, does_move _ (.inr rfl) rfl rfl rfl rfl (ar_tmp (av_rs 6 rfl rfl))⟩,
    trivial⟩ ?_
  refine nx_sub (fs' := [.slot 4 (VP.bool false)]) [9] rfl ?_
  refine nx_then ?_
  refine t_ret ?_
  exact rt_one rfl (res_tmp 0 rfl)
set_option maxRecDepth 100000 in
set_option maxHeartbeats 4000000 in
theorem g_same2 (p q r s : Int) (hp : L p ≤ 100000) (hq : L q ≤ 100000) (hr : L r ≤ 100000) (hs : L s ≤ 100000) (h : p = r) : Spec Try.prog 89 [(VP.agg [Bz p, Dz p, Bz q, Dz q]).p, (VP.agg [Bz r, Dz r, Bz s, Dz s]).p] (VP.bool (decide (q = s))) := by
  refine spec_of (xs := [VP.agg [Bz p, Dz p, Bz q, Dz q], VP.agg [Bz r, Dz r, Bz s, Dz s]]) 17 [2, 3] Try.func89 rfl Try.ntmps89 rfl fun w0 => ?_
  refine t_seq ?_
  refine t_region (F := ⟨_, _, _, _⟩) [.slot 0 (VP.agg [Bz p, Dz p, Bz q, Dz q]), .slot 1 (VP.agg [Bz r, Dz r, Bz s, Dz s])] [] [(0, .box 2 100 [Bz p, Dz p, Bz q, Dz q]), (1, .box 3 100 [Bz r, Dz r, Bz s, Dz s]), (2, .slot 4 (VP.bool false))] [0, 1] [] rfl rfl follow rfl ⟨
    .inl ⟨wants_plain rfl, does_box _ rfl rfl rfl rfl rfl (ar_tmp (av_fs 0 rfl))⟩,
    .inl ⟨wants_plain rfl, does_box _ rfl rfl rfl rfl rfl (ar_tmp (av_fs 1 rfl))⟩,
    .inl ⟨wants_plain rfl, does_move _ (.inr rfl) rfl rfl rfl rfl (ar_const (fun _ => rfl))⟩,
    trivial⟩ ?_
  refine nx_sub (fs' := [.box 2 100 [Bz p, Dz p, Bz q, Dz q], .box 3 100 [Bz r, Dz r, Bz s, Dz s], .slot 4 (VP.bool false)]) [2, 3, 4] rfl ?_
  refine nx_then ?_
  refine t_seq ?_
  refine t_region (F := ⟨_, _, _, _⟩) [.box 2 100 [Bz p, Dz p, Bz q, Dz q], .box 3 100 [Bz r, Dz r, Bz s, Dz s]] [(12, .slot 4 (VP.bool false))] [(0, .fp 5 2 0), (1, .slot 6 (INT p)), (2, .fp 7 3 0), (3, .slot 8 (INT r)), (4, .slot 9 (VP.bool (decide (p = r)))), (5, .slot 10 (VP.bool (decide (p = r)))), (6, .fp 11 2 2), (7, .slot 12 (INT q)), (8, .fp 13 3 2), (9, .slot 14 (INT s)), (10, .slot 15 (VP.bool (decide (q = s)))), (11, .slot 16 (VP.bool (decide (q = s)))), (12, .slot 4 (VP.bool (decide (q = s))))] [0, 1] [2] rfl rfl follow rfl ⟨
    .inl ⟨wants_plain rfl, does_field _ _ _ 0 ty_f0_api_Frac rfl rfl rfl rfl rfl rfl rfl (pt_box (av_fs 0 rfl))⟩,
    .inl ⟨wants_plain rfl, does_loadAgg _ ty_agg_api_Int rfl rfl rfl rfl rfl rfl (pt_fp (av_rs 0 rfl rfl)) (av_fs 0 rfl)⟩,
    .inl ⟨wants_plain rfl, does_field _ _ _ 0 ty_f0_api_Frac rfl rfl rfl rfl rfl rfl rfl (pt_box (av_fs 1 rfl))⟩,
    .inl ⟨wants_plain rfl, does_loadAgg _ ty_agg_api_Int rfl rfl rfl rfl rfl rfl (pt_fp (av_rs 2 rfl rfl)) (av_fs 1 rfl)⟩,
    .inl ⟨wants_plain rfl, does_call (r_same p r hp hr) rfl hb_collator_collatorref01_Same rfl rfl rfl rfl ⟨(ar_tmp (av_rs 1 rfl rfl)), (ar_tmp (av_rs 3 rfl rfl)), trivial⟩⟩,
    .inl ⟨wants_plain rfl, does_move _ (.inl rfl) rfl rfl rfl rfl (ar_tmp (av_rs 4 rfl rfl))⟩,
    .inl ⟨wants_guard true rfl rfl rfl (av_bool (decide_eq_true h) (av_rs 5 rfl rfl)), does_field _ _ _ 2 ty_f1_api_Frac rfl rfl rfl rfl rfl rfl rfl (pt_box (av_fs 0 rfl))⟩,
    .inl ⟨wants_guard true rfl rfl rfl (av_bool (decide_eq_true h) (av_rs 5 rfl rfl)), does_loadAgg _ ty_agg_api_Int rfl rfl rfl rfl rfl rfl (pt_fp (av_rs 6 rfl rfl)) (av_fs 0 rfl)⟩,
    .inl ⟨wants_guard true rfl rfl rfl (av_bool (decide_eq_true h) (av_rs 5 rfl rfl)), does_field _ _ _ 2 ty_f1_api_Frac rfl rfl rfl rfl rfl rfl rfl (pt_box (av_fs 1 rfl))⟩,
    .inl ⟨wants_guard true rfl rfl rfl (av_bool (decide_eq_true h) (av_rs 5 rfl rfl)), does_loadAgg _ ty_agg_api_Int rfl rfl rfl rfl rfl rfl (pt_fp (av_rs 8 rfl rfl)) (av_fs 1 rfl)⟩,
    .inl ⟨wants_guard true rfl rfl rfl (av_bool (decide_eq_true h) (av_rs 5 rfl rfl)), does_call (r_same q s hq hs) rfl hb_collator_collatorref01_Same rfl rfl rfl rfl ⟨(ar_tmp (av_rs 7 rfl rfl)), (ar_tmp (av_rs 9 rfl rfl)), trivial⟩⟩,
    .inl ⟨wants_plain rfl, does_pick true _ _ _ rfl rfl rfl rfl rfl (ar_tmp (av_bool (decide_eq_true h) (av_rs 5 rfl rfl))) (ar_tmp (av_rs 10 rfl rfl))⟩,
    .inl ⟨wants_plain rfl, does_move _ (.inr rfl) rfl rfl rfl rfl (ar_tmp (av_rs 11 rfl rfl))⟩,
    trivial⟩ ?_
  refine nx_sub (fs' := [.slot 4 (VP.bool (decide (q = s)))]) [14] rfl ?_
  refine nx_then ?_
  refine t_ret ?_
  exact rt_one rfl (res_tmp 0 rfl)
theorem g_same (p q r s : Int) (hp : L p ≤ 100000) (hq : L q ≤ 100000) (hr : L r ≤ 100000) (hs : L s ≤ 100000) : Spec Try.prog 89 [(VP.agg [Bz p, Dz p, Bz q, Dz q]).p, (VP.agg [Bz r, Dz r, Bz s, Dz s]).p] (VP.bool (decide (p = r ∧ q = s))) := by
  by_cases h : p = r
  · rw [show decide (p = r ∧ q = s) = decide (q = s) from by simp [h]]; exact g_same2 p q r s hp hq hr hs h
  · rw [show decide (p = r ∧ q = s) = false from by simp [h]]; exact g_same1 p q r s hp hq hr hs h
set_option maxRecDepth 100000 in
set_option maxHeartbeats 4000000 in
theorem g_right1 (p q : Int) (hp : L p ≤ 1000) (hq : L q ≤ 1000) (h : q < 0) : Spec Try.prog 88 [(VP.agg [Bz p, Dz p, Bz q, Dz q]).p] (VP.bool false) := by
  refine spec_of (xs := [VP.agg [Bz p, Dz p, Bz q, Dz q]]) 29 [1, 3] Try.func88 rfl Try.ntmps88 rfl fun w0 => ?_
  refine t_seq ?_
  refine t_region (F := ⟨_, _, _, _⟩) [.slot 0 (VP.agg [Bz p, Dz p, Bz q, Dz q])] [] [(0, .box 1 100 [Bz p, Dz p, Bz q, Dz q]), (1, .slot 2 (VP.bool false))] [0] [] rfl rfl follow rfl ⟨
    .inl ⟨wants_plain rfl, does_box _ rfl rfl rfl rfl rfl (ar_tmp (av_fs 0 rfl))⟩,
    .inl ⟨wants_plain rfl, does_move _ (.inr rfl) rfl rfl rfl rfl (ar_const (fun _ => rfl))⟩,
    trivial⟩ ?_
  refine nx_sub (fs' := [.box 1 100 [Bz p, Dz p, Bz q, Dz q], .slot 2 (VP.bool false)]) [1, 2] rfl ?_
  refine nx_then ?_
  refine t_seq ?_
  refine t_seq ?_
  refine t_region (F := ⟨_, _, _, _⟩) [.box 1 100 [Bz p, Dz p, Bz q, Dz q], .slot 2 (VP.bool false)] [] [(0, .fp 4 1 0), (1, .slot 5 (INT p)), (2, .slot 6 (VP.bool true)), (3, .slot 7 (VP.bool false)), (4, .slot 8 (VP.bool false)), (5, .fp 9 1 2), (6, .slot 10 (INT q)), (7, .slot 11 (VP.bool true)), (8, .slot 12 (VP.bool false)), (9, .slot 13 (VP.bool false)), (10, .slot 14 (VP.bool false)), (11, .fp 15 1 2), (12, .fp 16 1 2), (13, .slot 17 (Bz q)), (14, .slot 18 (Bz q))] [0, 1] [] rfl rfl follow rfl ⟨
    .inl ⟨wants_plain rfl, does_field _ _ _ 0 ty_f0_api_Frac rfl rfl rfl rfl rfl rfl rfl (pt_box (av_fs 0 rfl))⟩,
    .inl ⟨wants_plain rfl, does_loadAgg _ ty_agg_api_Int rfl rfl rfl rfl rfl rfl (pt_fp (av_rs 0 rfl rfl)) (av_fs 0 rfl)⟩,
    .inl ⟨wants_plain rfl, does_call (r_right p (lle hp (by decide))) rfl hb_collator_collatorref01_Right rfl rfl rfl rfl ⟨(ar_tmp (av_rs 1 rfl rfl)), trivial⟩⟩,
    .inl ⟨wants_plain rfl, does_not true _ _ rfl rfl rfl rfl rfl (ar_tmp (av_rs 2 rfl rfl))⟩,
    .inl ⟨wants_plain rfl, does_move _ (.inl rfl) rfl rfl rfl rfl (ar_tmp (av_rs 3 rfl rfl))⟩,
    .inl ⟨wants_guard false rfl rfl rfl (av_rs 4 rfl rfl), does_field _ _ _ 2 ty_f1_api_Frac rfl rfl rfl rfl rfl rfl rfl (pt_box (av_fs 0 rfl))⟩,
    .inl ⟨wants_guard false rfl rfl rfl (av_rs 4 rfl rfl), does_loadAgg _ ty_agg_api_Int rfl rfl rfl rfl rfl rfl (pt_fp (av_rs 5 rfl rfl)) (av_fs 0 rfl)⟩,
    .inl ⟨wants_guard false rfl rfl rfl (av_rs 4 rfl rfl), does_call (r_right q (lle hq (by decide))) rfl hb_collator_collatorref01_Right rfl rfl rfl rfl ⟨(ar_tmp (av_rs 6 rfl rfl)), trivial⟩⟩,
    .inl ⟨wants_guard false rfl rfl rfl (av_rs 4 rfl rfl), does_not true _ _ rfl rfl rfl rfl rfl (ar_tmp (av_rs 7 rfl rfl))⟩,
    .inl ⟨wants_plain rfl, does_pick false _ _ _ rfl rfl rfl rfl rfl (ar_tmp (av_rs 4 rfl rfl)) (ar_tmp (av_rs 8 rfl rfl))⟩,
    .inl ⟨wants_plain rfl, does_move _ (.inl rfl) rfl rfl rfl rfl (ar_tmp (av_rs 9 rfl rfl))⟩,
    .inl ⟨wants_guard false rfl rfl rfl (av_rs 10 rfl rfl), does_field _ _ _ 2 ty_f1_api_Frac rfl rfl rfl rfl rfl rfl rfl (pt_box (av_fs 0 rfl))⟩,
    .inl ⟨wants_guard false rfl rfl rfl (av_rs 10 rfl rfl), does_field _ _ _ 0 ty_f0_api_Int rfl rfl rfl rfl rfl rfl rfl (pt_fp (av_rs 11 rfl rfl))⟩,
    .inl ⟨wants_guard false rfl rfl rfl (av_rs 10 rfl rfl), does_loadOne _ ty_one_bool rfl rfl rfl rfl rfl rfl (pt_fp (av_rs 12 rfl rfl)) (av_fs 0 rfl)⟩,
    .inl ⟨wants_plain rfl, does_pick false _ _ _ rfl rfl rfl rfl rfl (ar_tmp (av_rs 10 rfl rfl)) (ar_tmp (av_rs 13 rfl rfl))⟩,
    trivial⟩ ?_
  refine nx_sub (fs' := [.box 1 100 [Bz p, Dz p, Bz q, Dz q], .slot 2 (VP.bool false), .slot 18 (Bz q)]) [0, 1, 16] rfl ?_
  refine nx_then ?_
  refine t_cond_te 2 rfl (decide_eq_true h) ?_
  refine t_seq ?_
  refine t_region (F := ⟨_, _, _, _⟩) [.box 1 100 [Bz p, Dz p, Bz q, Dz q], .slot 18 (Bz q)] [(0, .slot 2 (VP.bool false))] [(0, .slot 2 (VP.bool false))] [0, 2] [1] rfl rfl follow rfl ⟨
    .inl ⟨wants_plain rfl, does_move _ (.inr rfl) rfl rfl rfl rfl (ar_const (fun _ => rfl))⟩,
    trivial⟩ ?_
  refine nx_sub (fs' := [.box 1 100 [Bz p, Dz p, Bz q, Dz q], .slot 2 (VP.bool false)]) [0, 2] rfl ?_
  refine nx_then ?_
  refine t_ret ?_
  refine rt_then ?_
  exact rt_one rfl (res_tmp 1 rfl)
set_option maxRecDepth 100000 in
set_option maxHeartbeats 4000000 in
theorem g_right2 (p q : Int) (hp : L p ≤ 1000) (hq : L q ≤ 1000) (h : ¬ q < 0) : Spec Try.prog 88 [(VP.agg [Bz p, Dz p, Bz q, Dz q]).p] (VP.bool (decide (p = rmO p (und q) ∧ q = fU (rmD p (und q))))) := by
  refine spec_of (xs := [VP.agg [Bz p, Dz p, Bz q, Dz q]]) 29 [1, 3] Try.func88 rfl Try.ntmps88 rfl fun w0 => ?_
  refine t_seq ?_
  refine t_region (F := ⟨_, _, _, _⟩) [.slot 0 (VP.agg [Bz p, Dz p, Bz q, Dz q])] [] [(0, .box 1 100 [Bz p, Dz p, Bz q, Dz q]), (1, .slot 2 (VP.bool false))] [0] [] rfl rfl follow rfl ⟨
    .inl ⟨wants_plain rfl, does_box _ rfl rfl rfl rfl rfl (ar_tmp (av_fs 0 rfl))⟩,
    .inl ⟨wants_plain rfl, does_move _ (.inr rfl) rfl rfl rfl rfl (ar_const (fun _ => rfl))⟩,
    trivial⟩ ?_
  refine nx_sub (fs' := [.box 1 100 [Bz p, Dz p, Bz q, Dz q], .slot 2 (VP.bool false)]) [1, 2] rfl ?_
  refine nx_then ?_
  refine t_seq ?_
  refine t_seq ?_
  refine t_region (F := ⟨_, _, _, _⟩) [.box 1 100 [Bz p, Dz p, Bz q, Dz q], .slot 2 (VP.bool false)] [] [(0, .fp 4 1 0), (1, .slot 5 (INT p)), (2, .slot 6 (VP.bool true)), (3, .slot 7 (VP.bool false)), (4, .slot 8 (VP.bool false)), (5, .fp 9 1 2), (6, .slot 10 (INT q)), (7, .slot 11 (VP.bool true)), (8, .slot 12 (VP.bool false)), (9, .slot 13 (VP.bool false)), (10, .slot 14 (VP.bool false)), (11, .fp 15 1 2), (12, .fp 16 1 2), (13, .slot 17 (Bz q)), (14, .slot 18 (Bz q))] [0, 1] [] rfl rfl follow rfl ⟨
    .inl ⟨wants_plain rfl, does_field _ _ _ 0 ty_f0_api_Frac rfl rfl rfl rfl rfl rfl rfl (pt_box (av_fs 0 rfl))⟩,
    .inl ⟨wants_plain rfl, does_loadAgg _ ty_agg_api_Int rfl rfl rfl rfl rfl rfl (pt_fp (av_rs 0 rfl rfl)) (av_fs 0 rfl)⟩,
    .inl ⟨wants_plain rfl, does_call (r_right p (lle hp (by decide))) rfl hb_collator_collatorref01_Right rfl rfl rfl rfl ⟨(ar_tmp (av_rs 1 rfl rfl)), trivial⟩⟩,
    .inl ⟨wants_plain rfl, does_not true _ _ rfl rfl rfl rfl rfl (ar_tmp (av_rs 2 rfl rfl))⟩,
    .inl ⟨wants_plain rfl, does_move _ (.inl rfl) rfl rfl rfl rfl (ar_tmp (av_rs 3 rfl rfl))⟩,
    .inl ⟨wants_guard false rfl rfl rfl (av_rs 4 rfl rfl), does_field _ _ _ 2 ty_f1_api_Frac rfl rfl rfl rfl rfl rfl rfl (pt_box (av_fs 0 rfl))⟩,
    .inl ⟨wants_guard false rfl rfl rfl (av_rs 4 rfl rfl), does_loadAgg _ ty_agg_api_Int rfl rfl rfl rfl rfl rfl (pt_fp (av_rs 5 rfl rfl)) (av_fs 0 rfl)⟩,
    .inl ⟨wants_guard false rfl rfl rfl (av_rs 4 rfl rfl), does_call (r_right q (lle hq (by decide))) rfl hb_collator_collatorref01_Right rfl rfl rfl rfl ⟨(ar_tmp (av_rs 6 rfl rfl)), trivial⟩⟩,
    .inl ⟨wants_guard false rfl rfl rfl (av_rs 4 rfl rfl), does_not true _ _ rfl rfl rfl rfl rfl (ar_tmp (av_rs 7 rfl rfl))⟩,
    .inl ⟨wants_plain rfl, does_pick false _ _ _ rfl rfl rfl rfl rfl (ar_tmp (av_rs 4 rfl rfl)) (ar_tmp (av_rs 8 rfl rfl))⟩,
    .inl ⟨wants_plain rfl, does_move _ (.inl rfl) rfl rfl rfl rfl (ar_tmp (av_rs 9 rfl rfl))⟩,
    .inl ⟨wants_guard false rfl rfl rfl (av_rs 10 rfl rfl), does_field _ _ _ 2 ty_f1_api_Frac rfl rfl rfl rfl rfl rfl rfl (pt_box (av_fs 0 rfl))⟩,
    .inl ⟨wants_guard false rfl rfl rfl (av_rs 10 rfl rfl), does_field _ _ _ 0 ty_f0_api_Int rfl rfl rfl rfl rfl rfl rfl (pt_fp (av_rs 11 rfl rfl))⟩,
    .inl ⟨wants_guard false rfl rfl rfl (av_rs 10 rfl rfl), does_loadOne _ ty_one_bool rfl rfl rfl rfl rfl rfl (pt_fp (av_rs 12 rfl rfl)) (av_fs 0 rfl)⟩,
    .inl ⟨wants_plain rfl, does_pick false _ _ _ rfl rfl rfl rfl rfl (ar_tmp (av_rs 10 rfl rfl)) (ar_tmp (av_rs 13 rfl rfl))⟩,
    trivial⟩ ?_
  refine nx_sub (fs' := [.box 1 100 [Bz p, Dz p, Bz q, Dz q], .slot 2 (VP.bool false), .slot 18 (Bz q)]) [0, 1, 16] rfl ?_
  refine nx_then ?_
  refine t_cond_fe 2 rfl (decide_eq_false h) ?_
  refine t_skip ?_
  refine nx_then ?_
  refine t_seq ?_
  refine t_region (F := ⟨_, _, _, _⟩) [.box 1 100 [Bz p, Dz p, Bz q, Dz q], .slot 2 (VP.bool false), .slot 18 (Bz q)] [] [(0, .slot 19 (VP.agg [Bz p, Dz p, Bz q, Dz q])), (1, .slot 20 (VP.agg [Bz p, Tz p, Bz (und q), Tz (und q)])), (2, .own 3 130 4), (3, .box 3 130 [Bz p, Tz p, Bz (und q), Tz (und q)])] [0, 1, 2] [] rfl rfl follow rfl ⟨
    .inl ⟨wants_plain rfl, does_loadAgg _ ty_agg_api_Frac rfl rfl rfl rfl rfl rfl (pt_box (av_fs 0 rfl)) (av_fs 0 rfl)⟩,
    .inl ⟨wants_plain rfl, does_call (g_of p q hp hq) rfl hb_collator_collatorref02_Of rfl rfl rfl rfl ⟨(ar_tmp (av_rs 0 rfl rfl)), trivial⟩⟩,
    .inl ⟨wants_plain rfl, does_allocOwn [Bz 0, Tz 0, Bz 0, Tz 0] ty_zero_collatorref02_Frac rfl rfl rfl rfl rfl z_rfrac rfl⟩,
    .inl ⟨wants_plain rfl, does_storeNew 4 _ _ ty_agg_collatorref02_Frac rfl rfl rfl rfl rfl (pt_own (av_rs 2 rfl rfl)) (av_rs 2 rfl rfl) (ar_tmp (av_rs 1 rfl rfl))⟩,
    trivial⟩ ?_
  refine nx_sub (fs' := [.box 1 100 [Bz p, Dz p, Bz q, Dz q], .slot 2 (VP.bool false), .box 3 130 [Bz p, Tz p, Bz (und q), Tz (und q)]]) [0, 1, 6] rfl ?_
  refine nx_then ?_
  refine t_seq ?_
  refine t_region (F := ⟨_, _, _, _⟩) [.box 1 100 [Bz p, Dz p, Bz q, Dz q], .box 3 130 [Bz p, Tz p, Bz (und q), Tz (und q)]] [(8, .slot 2 (VP.bool false))] [(0, .slot 21 (VP.agg [Bz p, Dz p, Bz q, Dz q])), (1, .fp 22 3 0), (2, .slot 23 (NUM p)), (3, .fp 24 3 2), (4, .slot 25 (NUM (und q))), (5, .slot 26 (VP.agg [Bz (rmO p (und q)), Tz (rmO p (und q)), Bz (rmD p (und q)), Tz (rmD p (und q))])), (6, .slot 27 (VP.agg [Bz (rmO p (und q)), Dz (rmO p (und q)), Bz (fU (rmD p (und q))), Dz (fU (rmD p (und q)))])), (7, .slot 28 (VP.bool (decide (p = (rmO p (und q)) ∧ q = (fU (rmD p (und q))))))), (8, .slot 2 (VP.bool (decide (p = (rmO p (und q)) ∧ q = (fU (rmD p (und q)))))))] [0, 2] [1] rfl rfl follow rfl ⟨
    .inl ⟨wants_plain rfl, does_loadAgg _ ty_agg_api_Frac rfl rfl rfl rfl rfl rfl (pt_box (av_fs 0 rfl)) (av_fs 0 rfl)⟩,
    .inl ⟨wants_plain rfl, does_field _ _ _ 0 ty_f0_collatorref02_Frac rfl rfl rfl rfl rfl rfl rfl (pt_box (av_fs 1 rfl))⟩,
    .inl ⟨wants_plain rfl, does_loadAgg _ ty_agg_collatorref01_Num rfl rfl rfl rfl rfl rfl (pt_fp (av_rs 1 rfl rfl)) (av_fs 1 rfl)⟩,
    .inl ⟨wants_plain rfl, does_field _ _ _ 2 ty_f1_collatorref02_Frac rfl rfl rfl rfl rfl rfl rfl (pt_box (av_fs 1 rfl))⟩,
    .inl ⟨wants_plain rfl, does_loadAgg _ ty_agg_collatorref01_Num rfl rfl rfl rfl rfl rfl (pt_fp (av_rs 3 rfl rfl)) (av_fs 1 rfl)⟩,
    .inl ⟨wants_plain rfl, does_call (g_make p (und q) (lle hp (by decide)) (lle (lund hq (by decide)) (by decide))) rfl hb_collator_collatorref02_Make rfl rfl rfl rfl ⟨(ar_tmp (av_rs 2 rfl rfl)), (ar_tmp (av_rs 4 rfl rfl)), trivial⟩⟩,
    .inl ⟨wants_plain rfl, does_call (g_form (rmO p (und q)) (rmD p (und q)) (lrmO (y := (und q)) hp) (lrmD (x := p) (lund hq (by decide)) (by decide))) rfl hb_collator_collatorref02_Form rfl rfl rfl rfl ⟨(ar_tmp (av_rs 5 rfl rfl)), trivial⟩⟩,
    .inl ⟨wants_plain rfl, does_call (g_same p q (rmO p (und q)) (fU (rmD p (und q))) (lle hp (by decide)) (lle hq (by decide)) (lle (lrmO (y := (und q)) hp) (by decide)) (lle (lfU (lrmD (x := p) (lund hq (by decide)) (by decide))) (by decide))) rfl hb_collator_collatorref02_Same rfl rfl rfl rfl ⟨(ar_tmp (av_rs 0 rfl rfl)), (ar_tmp (av_rs 6 rfl rfl)), trivial⟩⟩,
    .inl ⟨wants_plain rfl, does_move _ (.inr rfl) rfl rfl rfl rfl (ar_tmp (av_rs 7 rfl rfl))⟩,
    trivial⟩ ?_
  refine nx_sub (fs' := [.slot 2 (VP.bool (decide (p = (rmO p (und q)) ∧ q = (fU (rmD p (und q))))))]) [10] rfl ?_
  refine nx_then ?_
  refine t_ret ?_
  exact rt_one rfl (res_tmpb 0 rfl rfl)
theorem g_right (p q : Int) (hp : L p ≤ 1000) (hq : L q ≤ 1000) : Spec Try.prog 88 [(VP.agg [Bz p, Dz p, Bz q, Dz q]).p] (VP.bool (rightF p q)) := by
  unfold rightF
  by_cases h : q < 0
  · rw [decide_eq_true h]; exact g_right1 p q hp hq h
  · rw [decide_eq_false h]; exact g_right2 p q hp hq h
end Go.Proofs.Ytogodjiemgilaaa
