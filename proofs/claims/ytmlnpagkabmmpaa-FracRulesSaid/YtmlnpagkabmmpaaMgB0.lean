/- Part of the proof that a law returns true for all that comes in, and that what came in reads as it did. No condition. -/
import Derived.Test.YtmlnpagkabmmpaaMgA2
/- Fractions: plain laws. -/
namespace Go.Proofs.Ytmlnpagkabmmpaa
open Go.RowKit
theorem len_yes {q : Int} (h : q = 0) : ((((dg BB q.natAbs).length : Nat) : Int) == 0) = true := by subst h; rfl
theorem len_no {q : Int} (h : q ≠ 0) : ((((dg BB q.natAbs).length : Nat) : Int) == 0) = false := by
  have := dg_len0 BB_gt q.natAbs
  rw [beq_eq_false_iff_ne]; omega
/-- what a fraction is through: 0 stands for 1 -/
def und (q : Int) : Int := if q = 0 then 1 else q
/-- the number over of x through y -/
def mkO (x y : Int) : Int := if x = 0 ∨ y = 0 then 0 else divZ x (if y < 0 then -gcdZ x y else gcdZ x y)
/-- the number under of x through y, before 1 becomes 0 -/
def mkD (x y : Int) : Int := divZ y (if y < 0 then -gcdZ x y else gcdZ x y)
def mkU (x y : Int) : Int := if x = 0 ∨ y = 0 then 0 else if mkD x y = 1 then 0 else mkD x y
theorem lund {q : Int} {a : Nat} (h : L q ≤ a) (h1 : 1 ≤ a) : L (und q) ≤ a := by
  unfold und; split
  · exact Nat.le_trans lone h1
  · exact h
theorem lmkO {x y : Int} {a : Nat} (h : L x ≤ a) : L (mkO x y) ≤ a := by
  unfold mkO; split
  · exact Nat.zero_le _
  · exact ldiv h
theorem lmkD {x y : Int} {a : Nat} (h : L y ≤ a) : L (mkD x y) ≤ a := ldiv h
theorem lmkU {x y : Int} {a : Nat} (h : L y ≤ a) : L (mkU x y) ≤ a := by
  unfold mkU; split
  · exact Nat.zero_le _
  · split
    · exact Nat.zero_le _
    · exact lmkD h
theorem lsmall (n : Int) (h : n.natAbs < 1000000000) : L n ≤ 1 := dg_len_small BB_gt h
theorem txt_size {z : Int} {a : Nat} (h : L z ≤ a) : (txt z).size ≤ 9 * a + 2 := by
  rw [← byt_len]
  unfold txt
  rw [byt_bs]
  · unfold txtR; rw [List.length_reverse, List.length_append, List.length_append, asc_len]
    have h1 : (if z.natAbs = 0 then [48] else []).length ≤ 1 := by split <;> simp
    have h2 : (if decide (z < 0) = true then [45] else []).length ≤ 1 := by split <;> simp
    have := l10 h
    omega
  · exact txt_lt z
theorem cat1 {p : Int} (hp : L p ≤ 1000) : (txt p).size + (ByteArray.mk #[47]).size ≤ 1000000 := by
  have := txt_size hp
  have h2 : (ByteArray.mk #[47]).size = 1 := rfl
  omega
theorem cat2 {p q : Int} (hp : L p ≤ 1000) (hq : L q ≤ 1000) : ((txt p) ++ (ByteArray.mk #[47])).size + (txt q).size ≤ 1000000 := by
  have h1 := txt_size hp
  have h3 := txt_size hq
  have h2 : (ByteArray.mk #[47]).size = 1 := rfl
  rw [ByteArray.size_append]
  omega
/-- a fraction's text -/
def ftxt (p q : Int) : ByteArray := if q = 0 then txt p else (((txt p) ++ (ByteArray.mk #[47])) ++ (txt q))
end Go.Proofs.Ytmlnpagkabmmpaa

/- Fractions: what the functions do, in the logic over slots and boxes. -/
namespace Go.Proofs.Ytmlnpagkabmmpaa
open Go.RowKit
set_option maxRecDepth 100000 in
set_option maxHeartbeats 4000000 in
theorem f_under1 (p q : Int) (hp : L p ≤ 1000) (hq : L q ≤ 1000) (h : q = 0) : Spec Try.prog 77 [(VP.agg [Bz p, Dz p, Bz q, Dz q]).p] (INT 1) := by
  refine spec_of (xs := [VP.agg [Bz p, Dz p, Bz q, Dz q]]) 11 [1, 2] Try.func77 rfl Try.ntmps77 rfl fun w0 => ?_
  refine t_seq ?_
  refine t_region (F := ⟨_, _, _, _⟩) [.slot 0 (VP.agg [Bz p, Dz p, Bz q, Dz q])] [] [(0, .box 1 26 [Bz p, Dz p, Bz q, Dz q]), (1, .box 2 24 [Bz 0, Dz 0])] [] [0] [] rfl rfl follow rfl ⟨
    .inl ⟨wants_plain rfl, does_box _ rfl rfl rfl rfl rfl (ar_tmp (av_fs 0 rfl))⟩,
    .inl ⟨wants_plain rfl, does_alloc ty_zero_api_Int rfl rfl rfl rfl rfl z_int⟩,
    trivial⟩ ?_
  refine nx_sub (fs' := [.box 1 26 [Bz p, Dz p, Bz q, Dz q], .box 2 24 [Bz 0, Dz 0]]) [1, 2] rfl ?_
  refine nx_then ?_
  refine t_seq ?_
  refine t_seq ?_
  refine t_region (F := ⟨_, _, _, _⟩) [.box 1 26 [Bz p, Dz p, Bz q, Dz q], .box 2 24 [Bz 0, Dz 0]] [] [(0, .fp 3 1 2), (1, .fp 4 1 3), (2, .slot 5 (Dz q)), (3, .slot 6 (VP.int .i64 (((dg BB q.natAbs).length : Nat) : Int))), (4, .slot 7 (VP.bool ((((dg BB q.natAbs).length : Nat) : Int) == 0)))] [] [0, 1] [] rfl rfl follow rfl ⟨
    .inl ⟨wants_plain rfl, does_field _ _ _ 2 ty_f1_api_Frac rfl rfl rfl rfl rfl rfl rfl (pt_box (av_fs 0 rfl))⟩,
    .inl ⟨wants_plain rfl, does_field _ _ _ 1 ty_f1_api_Int rfl rfl rfl rfl rfl rfl rfl (pt_fp (av_rs 0 rfl rfl))⟩,
    .inl ⟨wants_plain rfl, does_loadOne _ ty_one___uint32 rfl rfl rfl rfl rfl rfl (pt_fp (av_rs 1 rfl rfl)) (av_fs 0 rfl)⟩,
    .inl ⟨wants_plain rfl, does_len _ _ (by kernel_rfl) rfl rfl rfl rfl rfl (ar_tmp (av_rs 2 rfl rfl))⟩,
    .inl ⟨wants_plain rfl, does_cmp (m := (((dg BB q.natAbs).length : Nat) : Int)) (n := 0) _ _ _ _ _ rfl rfl rfl rfl rfl rfl .i64 (ar_tmp (av_rs 3 rfl rfl)) (ar_const (fun _ => rfl))⟩,
    trivial⟩ ?_
  refine nx_sub (fs' := [.box 1 26 [Bz p, Dz p, Bz q, Dz q], .box 2 24 [Bz 0, Dz 0], .slot 7 (VP.bool ((((dg BB q.natAbs).length : Nat) : Int) == 0))]) [0, 1, 6] rfl ?_
  refine nx_then ?_
  refine t_cond_te 2 rfl (len_yes h) ?_
  refine t_seq ?_
  refine t_region (F := ⟨_, _, _, _⟩) [.box 1 26 [Bz p, Dz p, Bz q, Dz q], .slot 7 (VP.bool ((((dg BB q.natAbs).length : Nat) : Int) == 0))] [(1, .box 2 24 [Bz 0, Dz 0])] [(0, .slot 8 (INT 1)), (1, .box 2 24 [Bz 1, Dz 1])] [] [0, 2] [1] rfl rfl follow rfl ⟨
    .inl ⟨wants_plain rfl, does_call (s_of 1 (by decide) (by decide)) rfl hb_collator_whole_Of rfl rfl rfl rfl ⟨(ar_const (fun _ => rfl)), trivial⟩⟩,
    .inl ⟨wants_plain rfl, does_storeAgg 2 _ _ ty_agg_api_Int rfl rfl rfl rfl rfl (pt_box (av_os 0 rfl rfl)) (av_os 0 rfl rfl) (ar_tmp (av_rs 0 rfl rfl))⟩,
    trivial⟩ ?_
  refine nx_sub (fs' := [.box 1 26 [Bz p, Dz p, Bz q, Dz q], .box 2 24 [Bz 1, Dz 1]]) [0, 3] rfl ?_
  refine nx_then ?_
  refine t_ret ?_
  refine rt_then ?_
  exact rt_one rfl (res_agg 1 ty_agg_api_Int rfl)
set_option maxRecDepth 100000 in
set_option maxHeartbeats 4000000 in
theorem f_under2 (p q : Int) (hp : L p ≤ 1000) (hq : L q ≤ 1000) (h : q ≠ 0) : Spec Try.prog 77 [(VP.agg [Bz p, Dz p, Bz q, Dz q]).p] (INT q) := by
  refine spec_of (xs := [VP.agg [Bz p, Dz p, Bz q, Dz q]]) 11 [1, 2] Try.func77 rfl Try.ntmps77 rfl fun w0 => ?_
  refine t_seq ?_
  refine t_region (F := ⟨_, _, _, _⟩) [.slot 0 (VP.agg [Bz p, Dz p, Bz q, Dz q])] [] [(0, .box 1 26 [Bz p, Dz p, Bz q, Dz q]), (1, .box 2 24 [Bz 0, Dz 0])] [] [0] [] rfl rfl follow rfl ⟨
    .inl ⟨wants_plain rfl, does_box _ rfl rfl rfl rfl rfl (ar_tmp (av_fs 0 rfl))⟩,
    .inl ⟨wants_plain rfl, does_alloc ty_zero_api_Int rfl rfl rfl rfl rfl z_int⟩,
    trivial⟩ ?_
  refine nx_sub (fs' := [.box 1 26 [Bz p, Dz p, Bz q, Dz q], .box 2 24 [Bz 0, Dz 0]]) [1, 2] rfl ?_
  refine nx_then ?_
  refine t_seq ?_
  refine t_seq ?_
  refine t_region (F := ⟨_, _, _, _⟩) [.box 1 26 [Bz p, Dz p, Bz q, Dz q], .box 2 24 [Bz 0, Dz 0]] [] [(0, .fp 3 1 2), (1, .fp 4 1 3), (2, .slot 5 (Dz q)), (3, .slot 6 (VP.int .i64 (((dg BB q.natAbs).length : Nat) : Int))), (4, .slot 7 (VP.bool ((((dg BB q.natAbs).length : Nat) : Int) == 0)))] [] [0, 1] [] rfl rfl follow rfl ⟨
    .inl ⟨wants_plain rfl, does_field _ _ _ 2 ty_f1_api_Frac rfl rfl rfl rfl rfl rfl rfl (pt_box (av_fs 0 rfl))⟩,
    .inl ⟨wants_plain rfl, does_field _ _ _ 1 ty_f1_api_Int rfl rfl rfl rfl rfl rfl rfl (pt_fp (av_rs 0 rfl rfl))⟩,
    .inl ⟨wants_plain rfl, does_loadOne _ ty_one___uint32 rfl rfl rfl rfl rfl rfl (pt_fp (av_rs 1 rfl rfl)) (av_fs 0 rfl)⟩,
    .inl ⟨wants_plain rfl, does_len _ _ (by kernel_rfl) rfl rfl rfl rfl rfl (ar_tmp (av_rs 2 rfl rfl))⟩,
    .inl ⟨wants_plain rfl, does_cmp (m := (((dg BB q.natAbs).length : Nat) : Int)) (n := 0) _ _ _ _ _ rfl rfl rfl rfl rfl rfl .i64 (ar_tmp (av_rs 3 rfl rfl)) (ar_const (fun _ => rfl))⟩,
    trivial⟩ ?_
  refine nx_sub (fs' := [.box 1 26 [Bz p, Dz p, Bz q, Dz q], .box 2 24 [Bz 0, Dz 0], .slot 7 (VP.bool ((((dg BB q.natAbs).length : Nat) : Int) == 0))]) [0, 1, 6] rfl ?_
  refine nx_then ?_
  refine t_cond_fe 2 rfl (len_no h) ?_
  refine t_skip ?_
  refine nx_then ?_
  refine t_seq ?_
  refine t_region (F := ⟨_, _, _, _⟩) [.box 1 26 [Bz p, Dz p, Bz q, Dz q], .slot 7 (VP.bool ((((dg BB q.natAbs).length : Nat) : Int) == 0))] [(2, .box 2 24 [Bz 0, Dz 0])] [(0, .fp 9 1 2), (1, .slot 10 (INT q)), (2, .box 2 24 [Bz q, Dz q])] [] [0, 2] [1] rfl rfl follow rfl ⟨
    .inl ⟨wants_plain rfl, does_field _ _ _ 2 ty_f1_api_Frac rfl rfl rfl rfl rfl rfl rfl (pt_box (av_fs 0 rfl))⟩,
    .inl ⟨wants_plain rfl, does_loadAgg _ ty_agg_api_Int rfl rfl rfl rfl rfl rfl (pt_fp (av_rs 0 rfl rfl)) (av_fs 0 rfl)⟩,
    .inl ⟨wants_plain rfl, does_storeAgg 2 _ _ ty_agg_api_Int rfl rfl rfl rfl rfl (pt_box (av_os 0 rfl rfl)) (av_os 0 rfl rfl) (ar_tmp (av_rs 1 rfl rfl))⟩,
    trivial⟩ ?_
  refine nx_sub (fs' := [.box 2 24 [Bz q, Dz q]]) [4] rfl ?_
  refine nx_then ?_
  refine t_ret ?_
  exact rt_one rfl (res_agg 0 ty_agg_api_Int rfl)
theorem f_under (p q : Int) (hp : L p ≤ 1000) (hq : L q ≤ 1000) : Spec Try.prog 77 [(VP.agg [Bz p, Dz p, Bz q, Dz q]).p] (INT (und q)) := by
  by_cases h : q = 0
  · rw [show und q = 1 from if_pos h]; exact f_under1 p q hp hq h
  · rw [show und q = q from if_neg h]; exact f_under2 p q hp hq h
theorem cmp_one {z : Int} (h : z = 1) : ((cmpZ z 1) == 0) = true := by subst h; rfl
theorem cmp_two {z : Int} (h : z ≠ 1) : ((cmpZ z 1) == 0) = false := by
  unfold cmpZ
  rw [beq_eq_false_iff_ne]
  split
  · omega
  · first
    | omega
    | (rw [if_neg h]; omega)
theorem len_isz (x : Int) : ((((dg BB x.natAbs).length : Nat) : Int) == 0) = decide (x = 0) := by
  by_cases h : x = 0
  · rw [len_yes h, decide_eq_true h]
  · rw [len_no h, decide_eq_false h]
set_option maxRecDepth 100000 in
set_option maxHeartbeats 4000000 in
theorem f_zero (x : Int) : Spec Try.prog 80 [(INT x).p] (VP.bool (decide (x = 0))) := by
  refine spec_of (xs := [INT x]) 7 [1] Try.func80 rfl Try.ntmps80 rfl fun w0 => ?_
  refine t_seq ?_
  refine t_region (F := ⟨_, _, _, _⟩) [.slot 0 (INT x)] [] [(0, .box 1 24 [Bz x, Dz x]), (1, .slot 2 (VP.bool false))] [] [0] [] rfl rfl follow rfl ⟨
    .inl ⟨wants_plain rfl, does_box _ rfl rfl rfl rfl rfl (ar_tmp (av_fs 0 rfl))⟩,
    .inl ⟨wants_plain rfl, does_move _ (.inr rfl) rfl rfl rfl rfl (ar_const (fun _ => rfl))⟩,
    trivial⟩ ?_
  refine nx_sub (fs' := [.box 1 24 [Bz x, Dz x], .slot 2 (VP.bool false)]) [1, 2] rfl ?_
  refine nx_then ?_
  refine t_seq ?_
  refine t_region (F := ⟨_, _, _, _⟩) [.box 1 24 [Bz x, Dz x]] [(4, .slot 2 (VP.bool false))] [(0, .fp 3 1 1), (1, .slot 4 (Dz x)), (2, .slot 5 (VP.int .i64 (((dg BB x.natAbs).length : Nat) : Int))), (3, .slot 6 (VP.bool ((((dg BB x.natAbs).length : Nat) : Int) == 0))), (4, .slot 2 (VP.bool ((((dg BB x.natAbs).length : Nat) : Int) == 0)))] [] [0] [1] rfl rfl follow rfl ⟨
    .inl ⟨wants_plain rfl, does_field _ _ _ 1 ty_f1_api_Int rfl rfl rfl rfl rfl rfl rfl (pt_box (av_fs 0 rfl))⟩,
    .inl ⟨wants_plain rfl, does_loadOne _ ty_one___uint32 rfl rfl rfl rfl rfl rfl (pt_fp (av_rs 0 rfl rfl)) (av_fs 0 rfl)⟩,
    .inl ⟨wants_plain rfl, does_len _ _ (by kernel_rfl) rfl rfl rfl rfl rfl (ar_tmp (av_rs 1 rfl rfl))⟩,
    .inl ⟨wants_plain rfl, does_cmp (m := (((dg BB x.natAbs).length : Nat) : Int)) (n := 0) _ _ _ _ _ rfl rfl rfl rfl rfl rfl .i64 (ar_tmp (av_rs 2 rfl rfl)) (ar_const (fun _ => rfl))⟩,
    .inl ⟨wants_plain rfl, does_move _ (.inr rfl) rfl rfl rfl rfl (ar_tmp (av_rs 3 rfl rfl))⟩,
    trivial⟩ ?_
  refine nx_sub (fs' := [.slot 2 (VP.bool ((((dg BB x.natAbs).length : Nat) : Int) == 0))]) [5] rfl ?_
  refine nx_then ?_
  refine t_ret ?_
  exact rt_one rfl (res_tmpb 0 rfl (len_isz x))
set_option maxRecDepth 100000 in
set_option maxHeartbeats 4000000 in
theorem f_make1 (x y : Int) (hx : L x ≤ 30000) (hy : L y ≤ 30000) (h : x = 0) : Spec Try.prog 70 [(INT x).p, (INT y).p] (VP.agg [Bz 0, Dz 0, Bz 0, Dz 0]) := by
  refine spec_of (xs := [INT x, INT y]) 40 [2, 3, 4, 5] Try.func70 rfl Try.ntmps70 rfl fun w0 => ?_
  refine t_seq ?_
  refine t_region (F := ⟨_, _, _, _⟩) [.slot 0 (INT x), .slot 1 (INT y)] [] [(0, .box 2 24 [Bz x, Dz x]), (1, .box 3 24 [Bz y, Dz y]), (2, .box 4 26 [Bz 0, Dz 0, Bz 0, Dz 0])] [] [0, 1] [] rfl rfl follow rfl ⟨
    .inl ⟨wants_plain rfl, does_box _ rfl rfl rfl rfl rfl (ar_tmp (av_fs 0 rfl))⟩,
    .inl ⟨wants_plain rfl, does_box _ rfl rfl rfl rfl rfl (ar_tmp (av_fs 1 rfl))⟩,
    .inl ⟨wants_plain rfl, does_alloc ty_zero_api_Frac rfl rfl rfl rfl rfl z_frac⟩,
    trivial⟩ ?_
  refine nx_sub (fs' := [.box 2 24 [Bz x, Dz x], .box 3 24 [Bz y, Dz y], .box 4 26 [Bz 0, Dz 0, Bz 0, Dz 0]]) [2, 3, 4] rfl ?_
  refine nx_then ?_
  refine t_seq ?_
  refine t_seq ?_
  refine t_region (F := ⟨_, _, _, _⟩) [.box 2 24 [Bz x, Dz x], .box 3 24 [Bz y, Dz y], .box 4 26 [Bz 0, Dz 0, Bz 0, Dz 0]] [] [(0, .slot 6 (INT x)), (1, .slot 7 (VP.bool (decide (x = 0)))), (2, .slot 8 (VP.bool (decide (x = 0)))), (3, .slot 9 (VP.undef)), (4, .slot 10 (VP.undef)), (5, .slot 11 (VP.bool true))] [] [0, 1, 2] [] rfl rfl follow rfl ⟨
    .inl ⟨wants_plain rfl, does_loadAgg _ ty_agg_api_Int rfl rfl rfl rfl rfl rfl (pt_box (av_fs 0 rfl)) (av_fs 0 rfl)⟩,
    .inl ⟨wants_plain rfl, does_call (f_zero x) rfl hb_collator_frac_zero rfl rfl rfl rfl ⟨(ar_tmp (av_rs 0 rfl rfl)), trivial⟩⟩,
    .inl ⟨wants_plain rfl, does_move _ (.inl rfl) rfl rfl rfl rfl (ar_tmp (av_rs 1 rfl rfl))⟩,
    .inr (skips_guardU true rfl rfl rfl (av_bool (decide_eq_true h) (av_rs 2 rfl rfl)) rfl rfl rfl rfl),
    .inr (skips_guardU true rfl rfl rfl (av_bool (decide_eq_true h) (av_rs 2 rfl rfl)) rfl rfl rfl rfl),
    .inl ⟨wants_plain rfl, does_pick true _ _ _ rfl rfl rfl rfl rfl (ar_tmp (av_bool (decide_eq_true h) (av_rs 2 rfl rfl))) (ar_const (fun _ => rfl))⟩,
    trivial⟩ ?_
  refine nx_sub (fs' := [.box 2 24 [Bz x, Dz x], .box 3 24 [Bz y, Dz y], .box 4 26 [Bz 0, Dz 0, Bz 0, Dz 0], .slot 11 (VP.bool true)]) [0, 1, 2, 8] rfl ?_
  refine nx_then ?_
  refine t_cond_t 3 rfl ?_
  refine t_seq ?_
  refine t_region (F := ⟨_, _, _, _⟩) [.box 2 24 [Bz x, Dz x], .box 3 24 [Bz y, Dz y], .slot 11 (VP.bool true)] [(1, .box 4 26 [Bz 0, Dz 0, Bz 0, Dz 0])] [(0, .slot 12 (VP.agg [Bz 0, Dz 0, Bz 0, Dz 0])), (1, .box 4 26 [Bz 0, Dz 0, Bz 0, Dz 0])] [] [0, 1, 3] [2] rfl rfl follow rfl ⟨
    .inl ⟨wants_plain rfl, does_build [Bz 0, Dz 0, Bz 0, Dz 0] ty_zero_api_Frac ty_pl_api_Frac rfl rfl rfl rfl rfl z_frac (.nil _)⟩,
    .inl ⟨wants_plain rfl, does_storeAgg 4 _ _ ty_agg_api_Frac rfl rfl rfl rfl rfl (pt_box (av_os 0 rfl rfl)) (av_os 0 rfl rfl) (ar_tmp (av_rs 0 rfl rfl))⟩,
    trivial⟩ ?_
  refine nx_sub (fs' := [.box 2 24 [Bz x, Dz x], .box 3 24 [Bz y, Dz y], .box 4 26 [Bz 0, Dz 0, Bz 0, Dz 0]]) [0, 1, 4] rfl ?_
  refine nx_then ?_
  refine t_ret ?_
  refine rt_then ?_
  exact rt_one rfl (res_agg 2 ty_agg_api_Frac rfl)
set_option maxRecDepth 100000 in
set_option maxHeartbeats 4000000 in
theorem f_make2 (x y : Int) (hx : L x ≤ 30000) (hy : L y ≤ 30000) (h : x ≠ 0) (k : y = 0) : Spec Try.prog 70 [(INT x).p, (INT y).p] (VP.agg [Bz 0, Dz 0, Bz 0, Dz 0]) := by
  refine spec_of (xs := [INT x, INT y]) 40 [2, 3, 4, 5] Try.func70 rfl Try.ntmps70 rfl fun w0 => ?_
  refine t_seq ?_
  refine t_region (F := ⟨_, _, _, _⟩) [.slot 0 (INT x), .slot 1 (INT y)] [] [(0, .box 2 24 [Bz x, Dz x]), (1, .box 3 24 [Bz y, Dz y]), (2, .box 4 26 [Bz 0, Dz 0, Bz 0, Dz 0])] [] [0, 1] [] rfl rfl follow rfl ⟨
    .inl ⟨wants_plain rfl, does_box _ rfl rfl rfl rfl rfl (ar_tmp (av_fs 0 rfl))⟩,
    .inl ⟨wants_plain rfl, does_box _ rfl rfl rfl rfl rfl (ar_tmp (av_fs 1 rfl))⟩,
    .inl ⟨wants_plain rfl, does_alloc ty_zero_api_Frac rfl rfl rfl rfl rfl z_frac⟩,
    trivial⟩ ?_
  refine nx_sub (fs' := [.box 2 24 [Bz x, Dz x], .box 3 24 [Bz y, Dz y], .box 4 26 [Bz 0, Dz 0, Bz 0, Dz 0]]) [2, 3, 4] rfl ?_
  refine nx_then ?_
  refine t_seq ?_
  refine t_seq ?_
  refine t_region (F := ⟨_, _, _, _⟩) [.box 2 24 [Bz x, Dz x], .box 3 24 [Bz y, Dz y], .box 4 26 [Bz 0, Dz 0, Bz 0, Dz 0]] [] [(0, .slot 6 (INT x)), (1, .slot 7 (VP.bool (decide (x = 0)))), (2, .slot 8 (VP.bool (decide (x = 0)))), (3, .slot 9 (INT y)), (4, .slot 10 (VP.bool (decide (y = 0)))), (5, .slot 11 (VP.bool (decide (y = 0))))] [] [0, 1, 2] [] rfl rfl follow rfl ⟨
    .inl ⟨wants_plain rfl, does_loadAgg _ ty_agg_api_Int rfl rfl rfl rfl rfl rfl (pt_box (av_fs 0 rfl)) (av_fs 0 rfl)⟩,
    .inl ⟨wants_plain rfl, does_call (f_zero x) rfl hb_collator_frac_zero rfl rfl rfl rfl ⟨(ar_tmp (av_rs 0 rfl rfl)), trivial⟩⟩,
    .inl ⟨wants_plain rfl, does_move _ (.inl rfl) rfl rfl rfl rfl (ar_tmp (av_rs 1 rfl rfl))⟩,
    .inl ⟨wants_guard false rfl rfl rfl (av_bool (decide_eq_false h) (av_rs 2 rfl rfl)), does_loadAgg _ ty_agg_api_Int rfl rfl rfl rfl rfl rfl (pt_box (av_fs 1 rfl)) (av_fs 1 rfl)⟩,
    .inl ⟨wants_guard false rfl rfl rfl (av_bool (decide_eq_false h) (av_rs 2 rfl rfl)), does_call (f_zero y) rfl hb_collator_frac_zero rfl rfl rfl rfl ⟨(ar_tmp (av_rs 3 rfl rfl)), trivial⟩⟩,
    .inl ⟨wants_plain rfl, does_pick false _ _ _ rfl rfl rfl rfl rfl (ar_tmp (av_bool (decide_eq_false h) (av_rs 2 rfl rfl))) (ar_tmp (av_rs 4 rfl rfl))⟩,
    trivial⟩ ?_
  refine nx_sub (fs' := [.box 2 24 [Bz x, Dz x], .box 3 24 [Bz y, Dz y], .box 4 26 [Bz 0, Dz 0, Bz 0, Dz 0], .slot 11 (VP.bool (decide (y = 0)))]) [0, 1, 2, 8] rfl ?_
  refine nx_then ?_
  refine t_cond_te 3 rfl (decide_eq_true k) ?_
  refine t_seq ?_
  refine t_region (F := ⟨_, _, _, _⟩) [.box 2 24 [Bz x, Dz x], .box 3 24 [Bz y, Dz y], .slot 11 (VP.bool (decide (y = 0)))] [(1, .box 4 26 [Bz 0, Dz 0, Bz 0, Dz 0])] [(0, .slot 12 (VP.agg [Bz 0, Dz 0, Bz 0, Dz 0])), (1, .box 4 26 [Bz 0, Dz 0, Bz 0, Dz 0])] [] [0, 1, 3] [2] rfl rfl follow rfl ⟨
    .inl ⟨wants_plain rfl, does_build [Bz 0, Dz 0, Bz 0, Dz 0] ty_zero_api_Frac ty_pl_api_Frac rfl rfl rfl rfl rfl z_frac (.nil _)⟩,
    .inl ⟨wants_plain rfl, does_storeAgg 4 _ _ ty_agg_api_Frac rfl rfl rfl rfl rfl (pt_box (av_os 0 rfl rfl)) (av_os 0 rfl rfl) (ar_tmp (av_rs 0 rfl rfl))⟩,
    trivial⟩ ?_
  refine nx_sub (fs' := [.box 2 24 [Bz x, Dz x], .box 3 24 [Bz y, Dz y], .box 4 26 [Bz 0, Dz 0, Bz 0, Dz 0]]) [0, 1, 4] rfl ?_
  refine nx_then ?_
  refine t_ret ?_
  refine rt_then ?_
  exact rt_one rfl (res_agg 2 ty_agg_api_Frac rfl)
set_option maxRecDepth 100000 in
set_option maxHeartbeats 4000000 in
theorem f_make3 (x y : Int) (hx : L x ≤ 30000) (hy : L y ≤ 30000) (h : x ≠ 0) (k : y ≠ 0) (hn : y < 0) (ho : (divZ y (-(gcdZ x y))) = 1) : Spec Try.prog 70 [(INT x).p, (INT y).p] (VP.agg [Bz (divZ x (-(gcdZ x y))), Dz (divZ x (-(gcdZ x y))), Bz 0, Dz 0]) := by
  refine spec_of (xs := [INT x, INT y]) 40 [2, 3, 4, 5] Try.func70 rfl Try.ntmps70 rfl fun w0 => ?_
  refine t_seq ?_
  refine t_region (F := ⟨_, _, _, _⟩) [.slot 0 (INT x), .slot 1 (INT y)] [] [(0, .box 2 24 [Bz x, Dz x]), (1, .box 3 24 [Bz y, Dz y]), (2, .box 4 26 [Bz 0, Dz 0, Bz 0, Dz 0])] [] [0, 1] [] rfl rfl follow rfl ⟨
    .inl ⟨wants_plain rfl, does_box _ rfl rfl rfl rfl rfl (ar_tmp (av_fs 0 rfl))⟩,
    .inl ⟨wants_plain rfl, does_box _ rfl rfl rfl rfl rfl (ar_tmp (av_fs 1 rfl))⟩,
    .inl ⟨wants_plain rfl, does_alloc ty_zero_api_Frac rfl rfl rfl rfl rfl z_frac⟩,
    trivial⟩ ?_
  refine nx_sub (fs' := [.box 2 24 [Bz x, Dz x], .box 3 24 [Bz y, Dz y], .box 4 26 [Bz 0, Dz 0, Bz 0, Dz 0]]) [2, 3, 4] rfl ?_
  refine nx_then ?_
  refine t_seq ?_
  refine t_seq ?_
  refine t_region (F := ⟨_, _, _, _⟩) [.box 2 24 [Bz x, Dz x], .box 3 24 [Bz y, Dz y], .box 4 26 [Bz 0, Dz 0, Bz 0, Dz 0]] [] [(0, .slot 6 (INT x)), (1, .slot 7 (VP.bool (decide (x = 0)))), (2, .slot 8 (VP.bool (decide (x = 0)))), (3, .slot 9 (INT y)), (4, .slot 10 (VP.bool (decide (y = 0)))), (5, .slot 11 (VP.bool (decide (y = 0))))] [] [0, 1, 2] [] rfl rfl follow rfl ⟨
    .inl ⟨wants_plain rfl, does_loadAgg _ ty_agg_api_Int rfl rfl rfl rfl rfl rfl (pt_box (av_fs 0 rfl)) (av_fs 0 rfl)⟩,
    .inl ⟨wants_plain rfl, does_call (f_zero x) rfl hb_collator_frac_zero rfl rfl rfl rfl ⟨(ar_tmp (av_rs 0 rfl rfl)), trivial⟩⟩,
    .inl ⟨wants_plain rfl, does_move _ (.inl rfl) rfl rfl rfl rfl (ar_tmp (av_rs 1 rfl rfl))⟩,
    .inl ⟨wants_guard false rfl rfl rfl (av_bool (decide_eq_false h) (av_rs 2 rfl rfl)), does_loadAgg _ ty_agg_api_Int rfl rfl rfl rfl rfl rfl (pt_box (av_fs 1 rfl)) (av_fs 1 rfl)⟩,
    .inl ⟨wants_guard false rfl rfl rfl (av_bool (decide_eq_false h) (av_rs 2 rfl rfl)), does_call (f_zero y) rfl hb_collator_frac_zero rfl rfl rfl rfl ⟨(ar_tmp (av_rs 3 rfl rfl)), trivial⟩⟩,
    .inl ⟨wants_plain rfl, does_pick false _ _ _ rfl rfl rfl rfl rfl (ar_tmp (av_bool (decide_eq_false h) (av_rs 2 rfl rfl))) (ar_tmp (av_rs 4 rfl rfl))⟩,
    trivial⟩ ?_
  refine nx_sub (fs' := [.box 2 24 [Bz x, Dz x], .box 3 24 [Bz y, Dz y], .box 4 26 [Bz 0, Dz 0, Bz 0, Dz 0], .slot 11 (VP.bool (decide (y = 0)))]) [0, 1, 2, 8] rfl ?_
  refine nx_then ?_
  refine t_cond_fe 3 rfl (decide_eq_false k) ?_
  refine t_skip ?_
  refine nx_then ?_
  refine t_seq ?_
  refine t_region (F := ⟨_, _, _, _⟩) [.box 2 24 [Bz x, Dz x], .box 3 24 [Bz y, Dz y], .box 4 26 [Bz 0, Dz 0, Bz 0, Dz 0], .slot 11 (VP.bool (decide (y = 0)))] [] [(0, .slot 13 (INT x)), (1, .slot 14 (INT y)), (2, .slot 15 (INT (gcdZ x y))), (3, .own 5 24 2), (4, .box 5 24 [Bz (gcdZ x y), Dz (gcdZ x y)])] [] [0, 1, 2, 3] [] rfl rfl follow rfl ⟨
    .inl ⟨wants_plain rfl, does_loadAgg _ ty_agg_api_Int rfl rfl rfl rfl rfl rfl (pt_box (av_fs 0 rfl)) (av_fs 0 rfl)⟩,
    .inl ⟨wants_plain rfl, does_loadAgg _ ty_agg_api_Int rfl rfl rfl rfl rfl rfl (pt_box (av_fs 1 rfl)) (av_fs 1 rfl)⟩,
    .inl ⟨wants_plain rfl, does_call (s_gcd x y (lle hx (by decide)) (lle hy (by decide))) rfl hb_collator_whole_Gcd rfl rfl rfl rfl ⟨(ar_tmp (av_rs 0 rfl rfl)), (ar_tmp (av_rs 1 rfl rfl)), trivial⟩⟩,
    .inl ⟨wants_plain rfl, does_allocOwn [Bz 0, Dz 0] ty_zero_api_Int rfl rfl rfl rfl rfl z_int rfl⟩,
    .inl ⟨wants_plain rfl, does_storeNew 2 _ _ ty_agg_api_Int rfl rfl rfl rfl rfl (pt_own (av_rs 3 rfl rfl)) (av_rs 3 rfl rfl) (ar_tmp (av_rs 2 rfl rfl))⟩,
    trivial⟩ ?_
  refine nx_sub (fs' := [.box 2 24 [Bz x, Dz x], .box 3 24 [Bz y, Dz y], .box 4 26 [Bz 0, Dz 0, Bz 0, Dz 0], .box 5 24 [Bz (gcdZ x y), Dz (gcdZ x y)]]) [0, 1, 2, 8] rfl ?_
  refine nx_then ?_
  refine t_seq ?_
  refine t_seq ?_
  refine t_region (F := ⟨_, _, _, _⟩) [.box 2 24 [Bz x, Dz x], .box 3 24 [Bz y, Dz y], .box 4 26 [Bz 0, Dz 0, Bz 0, Dz 0], .box 5 24 [Bz (gcdZ x y), Dz (gcdZ x y)]] [] [(0, .fp 16 3 0), (1, .slot 17 (Bz y))] [] [0, 1, 2, 3] [] rfl rfl follow rfl ⟨
    .inl ⟨wants_plain rfl, does_field _ _ _ 0 ty_f0_api_Int rfl rfl rfl rfl rfl rfl rfl (pt_box (av_fs 1 rfl))⟩,
    .inl ⟨wants_plain rfl, does_loadOne _ ty_one_bool rfl rfl rfl rfl rfl rfl (pt_fp (av_rs 0 rfl rfl)) (av_fs 1 rfl)⟩,
    trivial⟩ ?_
  refine nx_sub (fs' := [.box 2 24 [Bz x, Dz x], .box 3 24 [Bz y, Dz y], .box 4 26 [Bz 0, Dz 0, Bz 0, Dz 0], .box 5 24 [Bz (gcdZ x y), Dz (gcdZ x y)], .slot 17 (Bz y)]) [0, 1, 2, 3, 5] rfl ?_
  refine nx_then ?_
  refine t_cond_te 4 rfl (decide_eq_true hn) ?_
  refine t_region (F := ⟨_, _, _, _⟩) [.box 2 24 [Bz x, Dz x], .box 3 24 [Bz y, Dz y], .box 4 26 [Bz 0, Dz 0, Bz 0, Dz 0], .slot 17 (Bz y)] [(2, .box 5 24 [Bz (gcdZ x y), Dz (gcdZ x y)])] [(0, .slot 18 (INT (gcdZ x y))), (1, .slot 19 (INT (-(gcdZ x y)))), (2, .box 5 24 [Bz (-(gcdZ x y)), Dz (-(gcdZ x y))])] [] [0, 1, 2, 4] [3] rfl rfl follow rfl ⟨
    .inl ⟨wants_plain rfl, does_loadAgg _ ty_agg_api_Int rfl rfl rfl rfl rfl rfl (pt_box (av_os 0 rfl rfl)) (av_os 0 rfl rfl)⟩,
    .inl ⟨wants_plain rfl, does_call (s_neg (gcdZ x y) (lle (lgcd hx hy) (by decide))) rfl hb_collator_whole_Neg rfl rfl rfl rfl ⟨(ar_tmp (av_rs 0 rfl rfl)), trivial⟩⟩,
    .inl ⟨wants_plain rfl, does_storeAgg 2 _ _ ty_agg_api_Int rfl rfl rfl rfl rfl (pt_box (av_os 0 rfl rfl)) (av_os 0 rfl rfl) (ar_tmp (av_rs 1 rfl rfl))⟩,
    trivial⟩ ?_
  refine nx_sub (fs' := [.box 2 24 [Bz x, Dz x], .box 3 24 [Bz y, Dz y], .box 4 26 [Bz 0, Dz 0, Bz 0, Dz 0], .box 5 24 [Bz (-(gcdZ x y)), Dz (-(gcdZ x y))]]) [0, 1, 2, 6] rfl ?_
  refine nx_then ?_
  refine t_seq ?_
  refine t_region (F := ⟨_, _, _, _⟩) [.box 3 24 [Bz y, Dz y], .box 4 26 [Bz 0, Dz 0, Bz 0, Dz 0], .box 5 24 [Bz (-(gcdZ x y)), Dz (-(gcdZ x y))]] [(6, .box 2 24 [Bz x, Dz x])] [(0, .slot 21 (INT x)), (1, .slot 22 (INT (-(gcdZ x y)))), (2, .slot 23 (VP.tup [INT (divZ x (-(gcdZ x y))), INT (modZ x (-(gcdZ x y)))])), (3, .slot 20 (VP.tup [INT (divZ x (-(gcdZ x y))), INT (modZ x (-(gcdZ x y)))])), (4, .slot 24 (INT (divZ x (-(gcdZ x y))))), (5, .slot 25 (INT (modZ x (-(gcdZ x y))))), (6, .box 2 24 [Bz (divZ x (-(gcdZ x y))), Dz (divZ x (-(gcdZ x y)))])] [] [1, 2, 3] [0] rfl rfl follow rfl ⟨
    .inl ⟨wants_plain rfl, does_loadAgg _ ty_agg_api_Int rfl rfl rfl rfl rfl rfl (pt_box (av_os 0 rfl rfl)) (av_os 0 rfl rfl)⟩,
    .inl ⟨wants_plain rfl, does_loadAgg _ ty_agg_api_Int rfl rfl rfl rfl rfl rfl (pt_box (av_fs 2 rfl)) (av_fs 2 rfl)⟩,
    .inl ⟨wants_plain rfl, does_call (s_div x (-(gcdZ x y)) (lle hx (by decide)) (lle (lneg (lgcd hx hy)) (by decide))) rfl hb_collator_whole_Div rfl rfl rfl rfl ⟨(ar_tmp (av_rs 0 rfl rfl)), (ar_tmp (av_rs 1 rfl rfl)), trivial⟩⟩,
    .inl ⟨wants_plain rfl, does_move _ (.inl rfl) rfl rfl rfl rfl (ar_tmp (av_rs 2 rfl rfl))⟩,
    .inl ⟨wants_plain rfl, does_extract (ps := [INT (divZ x (-(gcdZ x y))), INT (modZ x (-(gcdZ x y)))]) _ _ rfl rfl rfl rfl rfl (ar_tmp (av_rs 3 rfl rfl)) rfl⟩,
    .inl ⟨wants_plain rfl, does_extract (ps := [INT (divZ x (-(gcdZ x y))), INT (modZ x (-(gcdZ x y)))]) _ _ rfl rfl rfl rfl rfl (ar_tmp (av_rs 3 rfl rfl)) rfl⟩,
    .inl ⟨wants_plain rfl, does_storeAgg 2 _ _ ty_agg_api_Int rfl rfl rfl rfl rfl (pt_box (av_os 0 rfl rfl)) (av_os 0 rfl rfl) (ar_tmp (av_rs 4 rfl rfl))⟩,
    trivial⟩ ?_
  refine nx_sub (fs' := [.box 3 24 [Bz y, Dz y], .box 4 26 [Bz 0, Dz 0, Bz 0, Dz 0], .box 5 24 [Bz (-(gcdZ x y)), Dz (-(gcdZ x y))], .box 2 24 [Bz (divZ x (-(gcdZ x y))), Dz (divZ x (-(gcdZ x y)))]]) [0, 1, 2, 9] rfl ?_
  refine nx_then ?_
  refine t_seq ?_
  refine t_region (F := ⟨_, _, _, _⟩) [.box 4 26 [Bz 0, Dz 0, Bz 0, Dz 0], .box 5 24 [Bz (-(gcdZ x y)), Dz (-(gcdZ x y))], .box 2 24 [Bz (divZ x (-(gcdZ x y))), Dz (divZ x (-(gcdZ x y)))]] [(6, .box 3 24 [Bz y, Dz y])] [(0, .slot 27 (INT y)), (1, .slot 28 (INT (-(gcdZ x y)))), (2, .slot 29 (VP.tup [INT (divZ y (-(gcdZ x y))), INT (modZ y (-(gcdZ x y)))])), (3, .slot 26 (VP.tup [INT (divZ y (-(gcdZ x y))), INT (modZ y (-(gcdZ x y)))])), (4, .slot 30 (INT (divZ y (-(gcdZ x y))))), (5, .slot 31 (INT (modZ y (-(gcdZ x y))))), (6, .box 3 24 [Bz (divZ y (-(gcdZ x y))), Dz (divZ y (-(gcdZ x y)))])] [] [1, 2, 3] [0] rfl rfl follow rfl ⟨
    .inl ⟨wants_plain rfl, does_loadAgg _ ty_agg_api_Int rfl rfl rfl rfl rfl rfl (pt_box (av_os 0 rfl rfl)) (av_os 0 rfl rfl)⟩,
    .inl ⟨wants_plain rfl, does_loadAgg _ ty_agg_api_Int rfl rfl rfl rfl rfl rfl (pt_box (av_fs 1 rfl)) (av_fs 1 rfl)⟩,
    .inl ⟨wants_plain rfl, does_call (s_div y (-(gcdZ x y)) (lle hy (by decide)) (lle (lneg (lgcd hx hy)) (by decide))) rfl hb_collator_whole_Div rfl rfl rfl rfl ⟨(ar_tmp (av_rs 0 rfl rfl)), (ar_tmp (av_rs 1 rfl rfl)), trivial⟩⟩,
    .inl ⟨wants_plain rfl, does_move _ (.inl rfl) rfl rfl rfl rfl (ar_tmp (av_rs 2 rfl rfl))⟩,
    .inl ⟨wants_plain rfl, does_extract (ps := [INT (divZ y (-(gcdZ x y))), INT (modZ y (-(gcdZ x y)))]) _ _ rfl rfl rfl rfl rfl (ar_tmp (av_rs 3 rfl rfl)) rfl⟩,
    .inl ⟨wants_plain rfl, does_extract (ps := [INT (divZ y (-(gcdZ x y))), INT (modZ y (-(gcdZ x y)))]) _ _ rfl rfl rfl rfl rfl (ar_tmp (av_rs 3 rfl rfl)) rfl⟩,
    .inl ⟨wants_plain rfl, does_storeAgg 2 _ _ ty_agg_api_Int rfl rfl rfl rfl rfl (pt_box (av_os 0 rfl rfl)) (av_os 0 rfl rfl) (ar_tmp (av_rs 4 rfl rfl))⟩,
    trivial⟩ ?_
  refine nx_sub (fs' := [.box 4 26 [Bz 0, Dz 0, Bz 0, Dz 0], .box 2 24 [Bz (divZ x (-(gcdZ x y))), Dz (divZ x (-(gcdZ x y)))], .box 3 24 [Bz (divZ y (-(gcdZ x y))), Dz (divZ y (-(gcdZ x y)))]]) [0, 2, 9] rfl ?_
  refine nx_then ?_
  refine t_seq ?_
  refine t_seq ?_
  refine t_region (F := ⟨_, _, _, _⟩) [.box 4 26 [Bz 0, Dz 0, Bz 0, Dz 0], .box 2 24 [Bz (divZ x (-(gcdZ x y))), Dz (divZ x (-(gcdZ x y)))], .box 3 24 [Bz (divZ y (-(gcdZ x y))), Dz (divZ y (-(gcdZ x y)))]] [] [(0, .slot 32 (INT (divZ y (-(gcdZ x y))))), (1, .slot 33 (INT 1)), (2, .slot 34 (VP.int .i64 (cmpZ (divZ y (-(gcdZ x y))) 1))), (3, .slot 35 (VP.bool ((cmpZ (divZ y (-(gcdZ x y))) 1) == 0)))] [] [0, 1, 2] [] rfl rfl follow rfl ⟨
    .inl ⟨wants_plain rfl, does_loadAgg _ ty_agg_api_Int rfl rfl rfl rfl rfl rfl (pt_box (av_fs 2 rfl)) (av_fs 2 rfl)⟩,
    .inl ⟨wants_plain rfl, does_call (s_of 1 (by decide) (by decide)) rfl hb_collator_whole_Of rfl rfl rfl rfl ⟨(ar_const (fun _ => rfl)), trivial⟩⟩,
    .inl ⟨wants_plain rfl, does_call (s_cmp (divZ y (-(gcdZ x y))) 1 (lle (ldiv hy) (by decide)) (lle lone (by decide))) rfl hb_collator_whole_Cmp rfl rfl rfl rfl ⟨(ar_tmp (av_rs 0 rfl rfl)), (ar_tmp (av_rs 1 rfl rfl)), trivial⟩⟩,
    .inl ⟨wants_plain rfl, does_cmp (m := (cmpZ (divZ y (-(gcdZ x y))) 1)) (n := 0) _ _ _ _ _ rfl rfl rfl rfl rfl rfl .i64 (ar_tmp (av_rs 2 rfl rfl)) (ar_const (fun _ => rfl))⟩,
    trivial⟩ ?_
  refine nx_sub (fs' := [.box 4 26 [Bz 0, Dz 0, Bz 0, Dz 0], .box 2 24 [Bz (divZ x (-(gcdZ x y))), Dz (divZ x (-(gcdZ x y)))], .box 3 24 [Bz (divZ y (-(gcdZ x y))), Dz (divZ y (-(gcdZ x y)))], .slot 35 (VP.bool ((cmpZ (divZ y (-(gcdZ x y))) 1) == 0))]) [0, 1, 2, 6] rfl ?_
  refine nx_then ?_
  refine t_cond_te 3 rfl (cmp_one ho) ?_
  refine t_region (F := ⟨_, _, _, _⟩) [.box 4 26 [Bz 0, Dz 0, Bz 0, Dz 0], .box 2 24 [Bz (divZ x (-(gcdZ x y))), Dz (divZ x (-(gcdZ x y)))], .slot 35 (VP.bool ((cmpZ (divZ y (-(gcdZ x y))) 1) == 0))] [(1, .box 3 24 [Bz (divZ y (-(gcdZ x y))), Dz (divZ y (-(gcdZ x y)))])] [(0, .slot 36 (INT 0)), (1, .box 3 24 [Bz 0, Dz 0])] [] [0, 1, 3] [2] rfl rfl follow rfl ⟨
    .inl ⟨wants_plain rfl, does_build [Bz 0, Dz 0] ty_zero_api_Int ty_pl_api_Int rfl rfl rfl rfl rfl z_int (.nil _)⟩,
    .inl ⟨wants_plain rfl, does_storeAgg 2 _ _ ty_agg_api_Int rfl rfl rfl rfl rfl (pt_box (av_os 0 rfl rfl)) (av_os 0 rfl rfl) (ar_tmp (av_rs 0 rfl rfl))⟩,
    trivial⟩ ?_
  refine nx_sub (fs' := [.box 4 26 [Bz 0, Dz 0, Bz 0, Dz 0], .box 2 24 [Bz (divZ x (-(gcdZ x y))), Dz (divZ x (-(gcdZ x y)))], .box 3 24 [Bz 0, Dz 0]]) [0, 1, 4] rfl ?_
  refine nx_then ?_
  refine t_seq ?_
  refine t_region (F := ⟨_, _, _, _⟩) [.box 2 24 [Bz (divZ x (-(gcdZ x y))), Dz (divZ x (-(gcdZ x y)))], .box 3 24 [Bz 0, Dz 0]] [(3, .box 4 26 [Bz 0, Dz 0, Bz 0, Dz 0])] [(0, .slot 37 (INT (divZ x (-(gcdZ x y))))), (1, .slot 38 (INT 0)), (2, .slot 39 (VP.agg [Bz (divZ x (-(gcdZ x y))), Dz (divZ x (-(gcdZ x y))), Bz 0, Dz 0])), (3, .box 4 26 [Bz (divZ x (-(gcdZ x y))), Dz (divZ x (-(gcdZ x y))), Bz 0, Dz 0])] [] [1, 2] [0] rfl rfl follow rfl ⟨
    .inl ⟨wants_plain rfl, does_loadAgg _ ty_agg_api_Int rfl rfl rfl rfl rfl rfl (pt_box (av_fs 0 rfl)) (av_fs 0 rfl)⟩,
    .inl ⟨wants_plain rfl, does_loadAgg _ ty_agg_api_Int rfl rfl rfl rfl rfl rfl (pt_box (av_fs 1 rfl)) (av_fs 1 rfl)⟩,
    .inl ⟨wants_plain rfl, does_build [Bz 0, Dz 0, Bz 0, Dz 0] ty_zero_api_Frac ty_pl_api_Frac rfl rfl rfl rfl rfl z_frac (.cons 0 [Bz (divZ x (-(gcdZ x y))), Dz (divZ x (-(gcdZ x y)))] rfl rfl (ar_cells_agg (ar_tmp (av_rs 0 rfl rfl))) (.cons 2 [Bz 0, Dz 0] rfl rfl (ar_cells_agg (ar_tmp (av_rs 1 rfl rfl))) (.nil _)))⟩,
    .inl ⟨wants_plain rfl, does_storeAgg 4 _ _ ty_agg_api_Frac rfl rfl rfl rfl rfl (pt_box (av_os 0 rfl rfl)) (av_os 0 rfl rfl) (ar_tmp (av_rs 2 rfl rfl))⟩,
    trivial⟩ ?_
  refine nx_sub (fs' := [.box 4 26 [Bz (divZ x (-(gcdZ x y))), Dz (divZ x (-(gcdZ x y))), Bz 0, Dz 0]]) [5] rfl ?_
  refine nx_then ?_
  refine t_ret ?_
  exact rt_one rfl (res_agg 0 ty_agg_api_Frac rfl)
set_option maxRecDepth 100000 in
set_option maxHeartbeats 4000000 in
theorem f_make4 (x y : Int) (hx : L x ≤ 30000) (hy : L y ≤ 30000) (h : x ≠ 0) (k : y ≠ 0) (hn : y < 0) (ho : (divZ y (-(gcdZ x y))) ≠ 1) : Spec Try.prog 70 [(INT x).p, (INT y).p] (VP.agg [Bz (divZ x (-(gcdZ x y))), Dz (divZ x (-(gcdZ x y))), Bz (divZ y (-(gcdZ x y))), Dz (divZ y (-(gcdZ x y)))]) := by
  refine spec_of (xs := [INT x, INT y]) 40 [2, 3, 4, 5] Try.func70 rfl Try.ntmps70 rfl fun w0 => ?_
  refine t_seq ?_
  refine t_region (F := ⟨_, _, _, _⟩) [.slot 0 (INT x), .slot 1 (INT y)] [] [(0, .box 2 24 [Bz x, Dz x]), (1, .box 3 24 [Bz y, Dz y]), (2, .box 4 26 [Bz 0, Dz 0, Bz 0, Dz 0])] [] [0, 1] [] rfl rfl follow rfl ⟨
    .inl ⟨wants_plain rfl, does_box _ rfl rfl rfl rfl rfl (ar_tmp (av_fs 0 rfl))⟩,
    .inl ⟨wants_plain rfl, does_box _ rfl rfl rfl rfl rfl (ar_tmp (av_fs 1 rfl))⟩,
    .inl ⟨wants_plain rfl, does_alloc ty_zero_api_Frac rfl rfl rfl rfl rfl z_frac⟩,
    trivial⟩ ?_
  refine nx_sub (fs' := [.box 2 24 [Bz x, Dz x], .box 3 24 [Bz y, Dz y], .box 4 26 [Bz 0, Dz 0, Bz 0, Dz 0]]) [2, 3, 4] rfl ?_
  refine nx_then ?_
  refine t_seq ?_
  refine t_seq ?_
  refine t_region (F := ⟨_, _, _, _⟩) [.box 2 24 [Bz x, Dz x], .box 3 24 [Bz y, Dz y], .box 4 26 [Bz 0, Dz 0, Bz 0, Dz 0]] [] [(0, .slot 6 (INT x)), (1, .slot 7 (VP.bool (decide (x = 0)))), (2, .slot 8 (VP.bool (decide (x = 0)))), (3, .slot 9 (INT y)), (4, .slot 10 (VP.bool (decide (y = 0)))), (5, .slot 11 (VP.bool (decide (y = 0))))] [] [0, 1, 2] [] rfl rfl follow rfl ⟨
    .inl ⟨wants_plain rfl, does_loadAgg _ ty_agg_api_Int rfl rfl rfl rfl rfl rfl (pt_box (av_fs 0 rfl)) (av_fs 0 rfl)⟩,
    .inl ⟨wants_plain rfl, does_call (f_zero x) rfl hb_collator_frac_zero rfl rfl rfl rfl ⟨(ar_tmp (av_rs 0 rfl rfl)), trivial⟩⟩,
    .inl ⟨wants_plain rfl, does_move _ (.inl rfl) rfl rfl rfl rfl (ar_tmp (av_rs 1 rfl rfl))⟩,
    .inl ⟨wants_guard false rfl rfl rfl (av_bool (decide_eq_false h) (av_rs 2 rfl rfl)), does_loadAgg _ ty_agg_api_Int rfl rfl rfl rfl rfl rfl (pt_box (av_fs 1 rfl)) (av_fs 1 rfl)⟩,
    .inl ⟨wants_guard false rfl rfl rfl (av_bool (decide_eq_false h) (av_rs 2 rfl rfl)), does_call (f_zero y) rfl hb_collator_frac_zero rfl rfl rfl rfl ⟨(ar_tmp (av_rs 3 rfl rfl)), trivial⟩⟩,
    .inl ⟨wants_plain rfl, does_pick false _ _ _ rfl rfl rfl rfl rfl (ar_tmp (av_bool (decide_eq_false h) (av_rs 2 rfl rfl))) (ar_tmp (av_rs 4 rfl rfl))⟩,
    trivial⟩ ?_
  refine nx_sub (fs' := [.box 2 24 [Bz x, Dz x], .box 3 24 [Bz y, Dz y], .box 4 26 [Bz 0, Dz 0, Bz 0, Dz 0], .slot 11 (VP.bool (decide (y = 0)))]) [0, 1, 2, 8] rfl ?_
  refine nx_then ?_
  refine t_cond_fe 3 rfl (decide_eq_false k) ?_
  refine t_skip ?_
  refine nx_then ?_
  refine t_seq ?_
  refine t_region (F := ⟨_, _, _, _⟩) [.box 2 24 [Bz x, Dz x], .box 3 24 [Bz y, Dz y], .box 4 26 [Bz 0, Dz 0, Bz 0, Dz 0], .slot 11 (VP.bool (decide (y = 0)))] [] [(0, .slot 13 (INT x)), (1, .slot 14 (INT y)), (2, .slot 15 (INT (gcdZ x y))), (3, .own 5 24 2), (4, .box 5 24 [Bz (gcdZ x y), Dz (gcdZ x y)])] [] [0, 1, 2, 3] [] rfl rfl follow rfl ⟨
    .inl ⟨wants_plain rfl, does_loadAgg _ ty_agg_api_Int rfl rfl rfl rfl rfl rfl (pt_box (av_fs 0 rfl)) (av_fs 0 rfl)⟩,
    .inl ⟨wants_plain rfl, does_loadAgg _ ty_agg_api_Int rfl rfl rfl rfl rfl rfl (pt_box (av_fs 1 rfl)) (av_fs 1 rfl)⟩,
    .inl ⟨wants_plain rfl, does_call (s_gcd x y (lle hx (by decide)) (lle hy (by decide))) rfl hb_collator_whole_Gcd rfl rfl rfl rfl ⟨(ar_tmp (av_rs 0 rfl rfl)), (ar_tmp (av_rs 1 rfl rfl)), trivial⟩⟩,
    .inl ⟨wants_plain rfl, does_allocOwn [Bz 0, Dz 0] ty_zero_api_Int rfl rfl rfl rfl rfl z_int rfl⟩,
    .inl ⟨wants_plain rfl, does_storeNew 2 _ _ ty_agg_api_Int rfl rfl rfl rfl rfl (pt_own (av_rs 3 rfl rfl)) (av_rs 3 rfl rfl) (ar_tmp (av_rs 2 rfl rfl))⟩,
    trivial⟩ ?_
  refine nx_sub (fs' := [.box 2 24 [Bz x, Dz x], .box 3 24 [Bz y, Dz y], .box 4 26 [Bz 0, Dz 0, Bz 0, Dz 0], .box 5 24 [Bz (gcdZ x y), Dz (gcdZ x y)]]) [0, 1, 2, 8] rfl ?_
  refine nx_then ?_
  refine t_seq ?_
  refine t_seq ?_
  refine t_region (F := ⟨_, _, _, _⟩) [.box 2 24 [Bz x, Dz x], .box 3 24 [Bz y, Dz y], .box 4 26 [Bz 0, Dz 0, Bz 0, Dz 0], .box 5 24 [Bz (gcdZ x y), Dz (gcdZ x y)]] [] [(0, .fp 16 3 0), (1, .slot 17 (Bz y))] [] [0, 1, 2, 3] [] rfl rfl follow rfl ⟨
    .inl ⟨wants_plain rfl, does_field _ _ _ 0 ty_f0_api_Int rfl rfl rfl rfl rfl rfl rfl (pt_box (av_fs 1 rfl))⟩,
    .inl ⟨wants_plain rfl, does_loadOne _ ty_one_bool rfl rfl rfl rfl rfl rfl (pt_fp (av_rs 0 rfl rfl)) (av_fs 1 rfl)⟩,
    trivial⟩ ?_
  refine nx_sub (fs' := [.box 2 24 [Bz x, Dz x], .box 3 24 [Bz y, Dz y], .box 4 26 [Bz 0, Dz 0, Bz 0, Dz 0], .box 5 24 [Bz (gcdZ x y), Dz (gcdZ x y)], .slot 17 (Bz y)]) [0, 1, 2, 3, 5] rfl ?_
  refine nx_then ?_
  refine t_cond_te 4 rfl (decide_eq_true hn) ?_
  refine t_region (F := ⟨_, _, _, _⟩) [.box 2 24 [Bz x, Dz x], .box 3 24 [Bz y, Dz y], .box 4 26 [Bz 0, Dz 0, Bz 0, Dz 0], .slot 17 (Bz y)] [(2, .box 5 24 [Bz (gcdZ x y), Dz (gcdZ x y)])] [(0, .slot 18 (INT (gcdZ x y))), (1, .slot 19 (INT (-(gcdZ x y)))), (2, .box 5 24 [Bz (-(gcdZ x y)), Dz (-(gcdZ x y))])] [] [0, 1, 2, 4] [3] rfl rfl follow rfl ⟨
    .inl ⟨wants_plain rfl, does_loadAgg _ ty_agg_api_Int rfl rfl rfl rfl rfl rfl (pt_box (av_os 0 rfl rfl)) (av_os 0 rfl rfl)⟩,
    .inl ⟨wants_plain rfl, does_call (s_neg (gcdZ x y) (lle (lgcd hx hy) (by decide))) rfl hb_collator_whole_Neg rfl rfl rfl rfl ⟨(ar_tmp (av_rs 0 rfl rfl)), trivial⟩⟩,
    .inl ⟨wants_plain rfl, does_storeAgg 2 _ _ ty_agg_api_Int rfl rfl rfl rfl rfl (pt_box (av_os 0 rfl rfl)) (av_os 0 rfl rfl) (ar_tmp (av_rs 1 rfl rfl))⟩,
    trivial⟩ ?_
  refine nx_sub (fs' := [.box 2 24 [Bz x, Dz x], .box 3 24 [Bz y, Dz y], .box 4 26 [Bz 0, Dz 0, Bz 0, Dz 0], .box 5 24 [Bz (-(gcdZ x y)), Dz (-(gcdZ x y))]]) [0, 1, 2, 6] rfl ?_
  refine nx_then ?_
  refine t_seq ?_
  refine t_region (F := ⟨_, _, _, _⟩) [.box 3 24 [Bz y, Dz y], .box 4 26 [Bz 0, Dz 0, Bz 0, Dz 0], .box 5 24 [Bz (-(gcdZ x y)), Dz (-(gcdZ x y))]] [(6, .box 2 24 [Bz x, Dz x])] [(0, .slot 21 (INT x)), (1, .slot 22 (INT (-(gcdZ x y)))), (2, .slot 23 (VP.tup [INT (divZ x (-(gcdZ x y))), INT (modZ x (-(gcdZ x y)))])), (3, .slot 20 (VP.tup [INT (divZ x (-(gcdZ x y))), INT (modZ x (-(gcdZ x y)))])), (4, .slot 24 (INT (divZ x (-(gcdZ x y))))), (5, .slot 25 (INT (modZ x (-(gcdZ x y))))), (6, .box 2 24 [Bz (divZ x (-(gcdZ x y))), Dz (divZ x (-(gcdZ x y)))])] [] [1, 2, 3] [0] rfl rfl follow rfl ⟨
    .inl ⟨wants_plain rfl, does_loadAgg _ ty_agg_api_Int rfl rfl rfl rfl rfl rfl (pt_box (av_os 0 rfl rfl)) (av_os 0 rfl rfl)⟩,
    .inl ⟨wants_plain rfl, does_loadAgg _ ty_agg_api_Int rfl rfl rfl rfl rfl rfl (pt_box (av_fs 2 rfl)) (av_fs 2 rfl)⟩,
    .inl ⟨wants_plain rfl, does_call (s_div x (-(gcdZ x y)) (lle hx (by decide)) (lle (lneg (lgcd hx hy)) (by decide))) rfl hb_collator_whole_Div rfl rfl rfl rfl ⟨(ar_tmp (av_rs 0 rfl rfl)), (ar_tmp (av_rs 1 rfl rfl)), trivial⟩⟩,
    .inl ⟨wants_plain rfl, does_move _ (.inl rfl) rfl rfl rfl rfl (ar_tmp (av_rs 2 rfl rfl))⟩,
    .inl ⟨wants_plain rfl, does_extract (ps := [INT (divZ x (-(gcdZ x y))), INT (modZ x (-(gcdZ x y)))]) _ _ rfl rfl rfl rfl rfl (ar_tmp (av_rs 3 rfl rfl)) rfl⟩,
    .inl ⟨wants_plain rfl, does_extract (ps := [INT (divZ x (-(gcdZ x y))), INT (modZ x (-(gcdZ x y)))]) _ _ rfl rfl rfl rfl rfl (ar_tmp (av_rs 3 rfl rfl)) rfl⟩,
    .inl ⟨wants_plain rfl, does_storeAgg 2 _ _ ty_agg_api_Int rfl rfl rfl rfl rfl (pt_box (av_os 0 rfl rfl)) (av_os 0 rfl rfl) (ar_tmp (av_rs 4 rfl rfl))⟩,
    trivial⟩ ?_
  refine nx_sub (fs' := [.box 3 24 [Bz y, Dz y], .box 4 26 [Bz 0, Dz 0, Bz 0, Dz 0], .box 5 24 [Bz (-(gcdZ x y)), Dz (-(gcdZ x y))], .box 2 24 [Bz (divZ x (-(gcdZ x y))), Dz (divZ x (-(gcdZ x y)))]]) [0, 1, 2, 9] rfl ?_
  refine nx_then ?_
  refine t_seq ?_
  refine t_region (F := ⟨_, _, _, _⟩) [.box 4 26 [Bz 0, Dz 0, Bz 0, Dz 0], .box 5 24 [Bz (-(gcdZ x y)), Dz (-(gcdZ x y))], .box 2 24 [Bz (divZ x (-(gcdZ x y))), Dz (divZ x (-(gcdZ x y)))]] [(6, .box 3 24 [Bz y, Dz y])] [(0, .slot 27 (INT y)), (1, .slot 28 (INT (-(gcdZ x y)))), (2, .slot 29 (VP.tup [INT (divZ y (-(gcdZ x y))), INT (modZ y (-(gcdZ x y)))])), (3, .slot 26 (VP.tup [INT (divZ y (-(gcdZ x y))), INT (modZ y (-(gcdZ x y)))])), (4, .slot 30 (INT (divZ y (-(gcdZ x y))))), (5, .slot 31 (INT (modZ y (-(gcdZ x y))))), (6, .box 3 24 [Bz (divZ y (-(gcdZ x y))), Dz (divZ y (-(gcdZ x y)))])] [] [1, 2, 3] [0] rfl rfl follow rfl ⟨
    .inl ⟨wants_plain rfl, does_loadAgg _ ty_agg_api_Int rfl rfl rfl rfl rfl rfl (pt_box (av_os 0 rfl rfl)) (av_os 0 rfl rfl)⟩,
    .inl ⟨wants_plain rfl, does_loadAgg _ ty_agg_api_Int rfl rfl rfl rfl rfl rfl (pt_box (av_fs 1 rfl)) (av_fs 1 rfl)⟩,
    .inl ⟨wants_plain rfl, does_call (s_div y (-(gcdZ x y)) (lle hy (by decide)) (lle (lneg (lgcd hx hy)) (by decide))) rfl hb_collator_whole_Div rfl rfl rfl rfl ⟨(ar_tmp (av_rs 0 rfl rfl)), (ar_tmp (av_rs 1 rfl rfl)), trivial⟩⟩,
    .inl ⟨wants_plain rfl, does_move _ (.inl rfl) rfl rfl rfl rfl (ar_tmp (av_rs 2 rfl rfl))⟩,
    .inl ⟨wants_plain rfl, does_extract (ps := [INT (divZ y (-(gcdZ x y))), INT (modZ y (-(gcdZ x y)))]) _ _ rfl rfl rfl rfl rfl (ar_tmp (av_rs 3 rfl rfl)) rfl⟩,
    .inl ⟨wants_plain rfl, does_extract (ps := [INT (divZ y (-(gcdZ x y))), INT (modZ y (-(gcdZ x y)))]) _ _ rfl rfl rfl rfl rfl (ar_tmp (av_rs 3 rfl rfl)) rfl⟩,
    .inl ⟨wants_plain rfl, does_storeAgg 2 _ _ ty_agg_api_Int rfl rfl rfl rfl rfl (pt_box (av_os 0 rfl rfl)) (av_os 0 rfl rfl) (ar_tmp (av_rs 4 rfl rfl))⟩,
    trivial⟩ ?_
  refine nx_sub (fs' := [.box 4 26 [Bz 0, Dz 0, Bz 0, Dz 0], .box 2 24 [Bz (divZ x (-(gcdZ x y))), Dz (divZ x (-(gcdZ x y)))], .box 3 24 [Bz (divZ y (-(gcdZ x y))), Dz (divZ y (-(gcdZ x y)))]]) [0, 2, 9] rfl ?_
  refine nx_then ?_
  refine t_seq ?_
  refine t_seq ?_
  refine t_region (F := ⟨_, _, _, _⟩) [.box 4 26 [Bz 0, Dz 0, Bz 0, Dz 0], .box 2 24 [Bz (divZ x (-(gcdZ x y))), Dz (divZ x (-(gcdZ x y)))], .box 3 24 [Bz (divZ y (-(gcdZ x y))), Dz (divZ y (-(gcdZ x y)))]] [] [(0, .slot 32 (INT (divZ y (-(gcdZ x y))))), (1, .slot 33 (INT 1)), (2, .slot 34 (VP.int .i64 (cmpZ (divZ y (-(gcdZ x y))) 1))), (3, .slot 35 (VP.bool ((cmpZ (divZ y (-(gcdZ x y))) 1) == 0)))] [] [0, 1, 2] [] rfl rfl follow rfl ⟨
    .inl ⟨wants_plain rfl, does_loadAgg _ ty_agg_api_Int rfl rfl rfl rfl rfl rfl (pt_box (av_fs 2 rfl)) (av_fs 2 rfl)⟩,
    .inl ⟨wants_plain rfl, does_call (s_of 1 (by decide) (by decide)) rfl hb_collator_whole_Of rfl rfl rfl rfl ⟨(ar_const (fun _ => rfl)), trivial⟩⟩,
    .inl ⟨wants_plain rfl, does_call (s_cmp (divZ y (-(gcdZ x y))) 1 (lle (ldiv hy) (by decide)) (lle lone (by decide))) rfl hb_collator_whole_Cmp rfl rfl rfl rfl ⟨(ar_tmp (av_rs 0 rfl rfl)), (ar_tmp (av_rs 1 rfl rfl)), trivial⟩⟩,
    .inl ⟨wants_plain rfl, does_cmp (m := (cmpZ (divZ y (-(gcdZ x y))) 1)) (n := 0) _ _ _ _ _ rfl rfl rfl rfl rfl rfl .i64 (ar_tmp (av_rs 2 rfl rfl)) (ar_const (fun _ => rfl))⟩,
    trivial⟩ ?_
  refine nx_sub (fs' := [.box 4 26 [Bz 0, Dz 0, Bz 0, Dz 0], .box 2 24 [Bz (divZ x (-(gcdZ x y))), Dz (divZ x (-(gcdZ x y)))], .box 3 24 [Bz (divZ y (-(gcdZ x y))), Dz (divZ y (-(gcdZ x y)))], .slot 35 (VP.bool ((cmpZ (divZ y (-(gcdZ x y))) 1) == 0))]) [0, 1, 2, 6] rfl ?_
  refine nx_then ?_
  refine t_cond_fe 3 rfl (cmp_two ho) ?_
  refine t_skip ?_
  refine nx_then ?_
  refine t_seq ?_
  refine t_region (F := ⟨_, _, _, _⟩) [.box 2 24 [Bz (divZ x (-(gcdZ x y))), Dz (divZ x (-(gcdZ x y)))], .box 3 24 [Bz (divZ y (-(gcdZ x y))), Dz (divZ y (-(gcdZ x y)))], .slot 35 (VP.bool ((cmpZ (divZ y (-(gcdZ x y))) 1) == 0))] [(3, .box 4 26 [Bz 0, Dz 0, Bz 0, Dz 0])] [(0, .slot 37 (INT (divZ x (-(gcdZ x y))))), (1, .slot 38 (INT (divZ y (-(gcdZ x y))))), (2, .slot 39 (VP.agg [Bz (divZ x (-(gcdZ x y))), Dz (divZ x (-(gcdZ x y))), Bz (divZ y (-(gcdZ x y))), Dz (divZ y (-(gcdZ x y)))])), (3, .box 4 26 [Bz (divZ x (-(gcdZ x y))), Dz (divZ x (-(gcdZ x y))), Bz (divZ y (-(gcdZ x y))), Dz (divZ y (-(gcdZ x y)))])] [] [1, 2, 3] [0] rfl rfl follow rfl ⟨
    .inl ⟨wants_plain rfl, does_loadAgg _ ty_agg_api_Int rfl rfl rfl rfl rfl rfl (pt_box (av_fs 0 rfl)) (av_fs 0 rfl)⟩,
    .inl ⟨wants_plain rfl, does_loadAgg _ ty_agg_api_Int rfl rfl rfl rfl rfl rfl (pt_box (av_fs 1 rfl)) (av_fs 1 rfl)⟩,
    .inl ⟨wants_plain rfl, does_build [Bz 0, Dz 0, Bz 0, Dz 0] ty_zero_api_Frac ty_pl_api_Frac rfl rfl rfl rfl rfl z_frac (.cons 0 [Bz (divZ x (-(gcdZ x y))), Dz (divZ x (-(gcdZ x y)))] rfl rfl (ar_cells_agg (ar_tmp (av_rs 0 rfl rfl))) (.cons 2 [Bz (divZ y (-(gcdZ x y))), Dz (divZ y (-(gcdZ x y)))] rfl rfl (ar_cells_agg (ar_tmp (av_rs 1 rfl rfl))) (.nil _)))⟩,
    .inl ⟨wants_plain rfl, does_storeAgg 4 _ _ ty_agg_api_Frac rfl rfl rfl rfl rfl (pt_box (av_os 0 rfl rfl)) (av_os 0 rfl rfl) (ar_tmp (av_rs 2 rfl rfl))⟩,
    trivial⟩ ?_
  refine nx_sub (fs' := [.box 4 26 [Bz (divZ x (-(gcdZ x y))), Dz (divZ x (-(gcdZ x y))), Bz (divZ y (-(gcdZ x y))), Dz (divZ y (-(gcdZ x y)))]]) [6] rfl ?_
  refine nx_then ?_
  refine t_ret ?_
  exact rt_one rfl (res_agg 0 ty_agg_api_Frac rfl)
set_option maxRecDepth 100000 in
set_option maxHeartbeats 4000000 in
theorem f_make5 (x y : Int) (hx : L x ≤ 30000) (hy : L y ≤ 30000) (h : x ≠ 0) (k : y ≠ 0) (hn : ¬ y < 0) (ho : (divZ y (gcdZ x y)) = 1) : Spec Try.prog 70 [(INT x).p, (INT y).p] (VP.agg [Bz (divZ x (gcdZ x y)), Dz (divZ x (gcdZ x y)), Bz 0, Dz 0]) := by
  refine spec_of (xs := [INT x, INT y]) 40 [2, 3, 4, 5] Try.func70 rfl Try.ntmps70 rfl fun w0 => ?_
  refine t_seq ?_
  refine t_region (F := ⟨_, _, _, _⟩) [.slot 0 (INT x), .slot 1 (INT y)] [] [(0, .box 2 24 [Bz x, Dz x]), (1, .box 3 24 [Bz y, Dz y]), (2, .box 4 26 [Bz 0, Dz 0, Bz 0, Dz 0])] [] [0, 1] [] rfl rfl follow rfl ⟨
    .inl ⟨wants_plain rfl, does_box _ rfl rfl rfl rfl rfl (ar_tmp (av_fs 0 rfl))⟩,
    .inl ⟨wants_plain rfl, does_box _ rfl rfl rfl rfl rfl (ar_tmp (av_fs 1 rfl))⟩,
    .inl ⟨wants_plain rfl, does_alloc ty_zero_api_Frac rfl rfl rfl rfl rfl z_frac⟩,
    trivial⟩ ?_
  refine nx_sub (fs' := [.box 2 24 [Bz x, Dz x], .box 3 24 [Bz y, Dz y], .box 4 26 [Bz 0, Dz 0, Bz 0, Dz 0]]) [2, 3, 4] rfl ?_
  refine nx_then ?_
  refine t_seq ?_
  refine t_seq ?_
  refine t_region (F := ⟨_, _, _, _⟩) [.box 2 24 [Bz x, Dz x], .box 3 24 [Bz y, Dz y], .box 4 26 [Bz 0, Dz 0, Bz 0, Dz 0]] [] [(0, .slot 6 (INT x)), (1, .slot 7 (VP.bool (decide (x = 0)))), (2, .slot 8 (VP.bool (decide (x = 0)))), (3, .slot 9 (INT y)), (4, .slot 10 (VP.bool (decide (y = 0)))), (5, .slot 11 (VP.bool (decide (y = 0))))] [] [0, 1, 2] [] rfl rfl follow rfl ⟨
    .inl ⟨wants_plain rfl, does_loadAgg _ ty_agg_api_Int rfl rfl rfl rfl rfl rfl (pt_box (av_fs 0 rfl)) (av_fs 0 rfl)⟩,
    .inl ⟨wants_plain rfl, does_call (f_zero x) rfl hb_collator_frac_zero rfl rfl rfl rfl ⟨(ar_tmp (av_rs 0 rfl rfl)), trivial⟩⟩,
    .inl ⟨wants_plain rfl, does_move _ (.inl rfl) rfl rfl rfl rfl (ar_tmp (av_rs 1 rfl rfl))⟩,
    .inl ⟨wants_guard false rfl rfl rfl (av_bool (decide_eq_false h) (av_rs 2 rfl rfl)), does_loadAgg _ ty_agg_api_Int rfl rfl rfl rfl rfl rfl (pt_box (av_fs 1 rfl)) (av_fs 1 rfl)⟩,
    .inl ⟨wants_guard false rfl rfl rfl (av_bool (decide_eq_false h) (av_rs 2 rfl rfl)), does_call (f_zero y) rfl hb_collator_frac_zero rfl rfl rfl rfl ⟨(ar_tmp (av_rs 3 rfl rfl)), trivial⟩⟩,
    .inl ⟨wants_plain rfl, does_pick false _ _ _ rfl rfl rfl rfl rfl (ar_tmp (av_bool (decide_eq_false h) (av_rs 2 rfl rfl))) (ar_tmp (av_rs 4 rfl rfl))⟩,
    trivial⟩ ?_
  refine nx_sub (fs' := [.box 2 24 [Bz x, Dz x], .box 3 24 [Bz y, Dz y], .box 4 26 [Bz 0, Dz 0, Bz 0, Dz 0], .slot 11 (VP.bool (decide (y = 0)))]) [0, 1, 2, 8] rfl ?_
  refine nx_then ?_
  refine t_cond_fe 3 rfl (decide_eq_false k) ?_
  refine t_skip ?_
  refine nx_then ?_
  refine t_seq ?_
  refine t_region (F := ⟨_, _, _, _⟩) [.box 2 24 [Bz x, Dz x], .box 3 24 [Bz y, Dz y], .box 4 26 [Bz 0, Dz 0, Bz 0, Dz 0], .slot 11 (VP.bool (decide (y = 0)))] [] [(0, .slot 13 (INT x)), (1, .slot 14 (INT y)), (2, .slot 15 (INT (gcdZ x y))), (3, .own 5 24 2), (4, .box 5 24 [Bz (gcdZ x y), Dz (gcdZ x y)])] [] [0, 1, 2, 3] [] rfl rfl follow rfl ⟨
    .inl ⟨wants_plain rfl, does_loadAgg _ ty_agg_api_Int rfl rfl rfl rfl rfl rfl (pt_box (av_fs 0 rfl)) (av_fs 0 rfl)⟩,
    .inl ⟨wants_plain rfl, does_loadAgg _ ty_agg_api_Int rfl rfl rfl rfl rfl rfl (pt_box (av_fs 1 rfl)) (av_fs 1 rfl)⟩,
    .inl ⟨wants_plain rfl, does_call (s_gcd x y (lle hx (by decide)) (lle hy (by decide))) rfl hb_collator_whole_Gcd rfl rfl rfl rfl ⟨(ar_tmp (av_rs 0 rfl rfl)), (ar_tmp (av_rs 1 rfl rfl)), trivial⟩⟩,
    .inl ⟨wants_plain rfl, does_allocOwn [Bz 0, Dz 0] ty_zero_api_Int rfl rfl rfl rfl rfl z_int rfl⟩,
    .inl ⟨wants_plain rfl, does_storeNew 2 _ _ ty_agg_api_Int rfl rfl rfl rfl rfl (pt_own (av_rs 3 rfl rfl)) (av_rs 3 rfl rfl) (ar_tmp (av_rs 2 rfl rfl))⟩,
    trivial⟩ ?_
  refine nx_sub (fs' := [.box 2 24 [Bz x, Dz x], .box 3 24 [Bz y, Dz y], .box 4 26 [Bz 0, Dz 0, Bz 0, Dz 0], .box 5 24 [Bz (gcdZ x y), Dz (gcdZ x y)]]) [0, 1, 2, 8] rfl ?_
  refine nx_then ?_
  refine t_seq ?_
  refine t_seq ?_
  refine t_region (F := ⟨_, _, _, _⟩) [.box 2 24 [Bz x, Dz x], .box 3 24 [Bz y, Dz y], .box 4 26 [Bz 0, Dz 0, Bz 0, Dz 0], .box 5 24 [Bz (gcdZ x y), Dz (gcdZ x y)]] [] [(0, .fp 16 3 0), (1, .slot 17 (Bz y))] [] [0, 1, 2, 3] [] rfl rfl follow rfl ⟨
    .inl ⟨wants_plain rfl, does_field _ _ _ 0 ty_f0_api_Int rfl rfl rfl rfl rfl rfl rfl (pt_box (av_fs 1 rfl))⟩,
    .inl ⟨wants_plain rfl, does_loadOne _ ty_one_bool rfl rfl rfl rfl rfl rfl (pt_fp (av_rs 0 rfl rfl)) (av_fs 1 rfl)⟩,
    trivial⟩ ?_
  refine nx_sub (fs' := [.box 2 24 [Bz x, Dz x], .box 3 24 [Bz y, Dz y], .box 4 26 [Bz 0, Dz 0, Bz 0, Dz 0], .box 5 24 [Bz (gcdZ x y), Dz (gcdZ x y)], .slot 17 (Bz y)]) [0, 1, 2, 3, 5] rfl ?_
  refine nx_then ?_
  refine t_cond_fe 4 rfl (decide_eq_false hn) ?_
  refine t_skip ?_
  refine nx_then ?_
  refine t_seq ?_
  refine t_region (F := ⟨_, _, _, _⟩) [.box 3 24 [Bz y, Dz y], .box 4 26 [Bz 0, Dz 0, Bz 0, Dz 0], .box 5 24 [Bz (gcdZ x y), Dz (gcdZ x y)], .slot 17 (Bz y)] [(6, .box 2 24 [Bz x, Dz x])] [(0, .slot 21 (INT x)), (1, .slot 22 (INT (gcdZ x y))), (2, .slot 23 (VP.tup [INT (divZ x (gcdZ x y)), INT (modZ x (gcdZ x y))])), (3, .slot 20 (VP.tup [INT (divZ x (gcdZ x y)), INT (modZ x (gcdZ x y))])), (4, .slot 24 (INT (divZ x (gcdZ x y)))), (5, .slot 25 (INT (modZ x (gcdZ x y)))), (6, .box 2 24 [Bz (divZ x (gcdZ x y)), Dz (divZ x (gcdZ x y))])] [] [1, 2, 3, 4] [0] rfl rfl follow rfl ⟨
    .inl ⟨wants_plain rfl, does_loadAgg _ ty_agg_api_Int rfl rfl rfl rfl rfl rfl (pt_box (av_os 0 rfl rfl)) (av_os 0 rfl rfl)⟩,
    .inl ⟨wants_plain rfl, does_loadAgg _ ty_agg_api_Int rfl rfl rfl rfl rfl rfl (pt_box (av_fs 2 rfl)) (av_fs 2 rfl)⟩,
    .inl ⟨wants_plain rfl, does_call (s_div x (gcdZ x y) (lle hx (by decide)) (lle (lgcd hx hy) (by decide))) rfl hb_collator_whole_Div rfl rfl rfl rfl ⟨(ar_tmp (av_rs 0 rfl rfl)), (ar_tmp (av_rs 1 rfl rfl)), trivial⟩⟩,
    .inl ⟨wants_plain rfl, does_move _ (.inl rfl) rfl rfl rfl rfl (ar_tmp (av_rs 2 rfl rfl))⟩,
    .inl ⟨wants_plain rfl, does_extract (ps := [INT (divZ x (gcdZ x y)), INT (modZ x (gcdZ x y))]) _ _ rfl rfl rfl rfl rfl (ar_tmp (av_rs 3 rfl rfl)) rfl⟩,
    .inl ⟨wants_plain rfl, does_extract (ps := [INT (divZ x (gcdZ x y)), INT (modZ x (gcdZ x y))]) _ _ rfl rfl rfl rfl rfl (ar_tmp (av_rs 3 rfl rfl)) rfl⟩,
    .inl ⟨wants_plain rfl, does_storeAgg 2 _ _ ty_agg_api_Int rfl rfl rfl rfl rfl (pt_box (av_os 0 rfl rfl)) (av_os 0 rfl rfl) (ar_tmp (av_rs 4 rfl rfl))⟩,
    trivial⟩ ?_
  refine nx_sub (fs' := [.box 3 24 [Bz y, Dz y], .box 4 26 [Bz 0, Dz 0, Bz 0, Dz 0], .box 5 24 [Bz (gcdZ x y), Dz (gcdZ x y)], .box 2 24 [Bz (divZ x (gcdZ x y)), Dz (divZ x (gcdZ x y))]]) [0, 1, 2, 10] rfl ?_
  refine nx_then ?_
  refine t_seq ?_
  refine t_region (F := ⟨_, _, _, _⟩) [.box 4 26 [Bz 0, Dz 0, Bz 0, Dz 0], .box 5 24 [Bz (gcdZ x y), Dz (gcdZ x y)], .box 2 24 [Bz (divZ x (gcdZ x y)), Dz (divZ x (gcdZ x y))]] [(6, .box 3 24 [Bz y, Dz y])] [(0, .slot 27 (INT y)), (1, .slot 28 (INT (gcdZ x y))), (2, .slot 29 (VP.tup [INT (divZ y (gcdZ x y)), INT (modZ y (gcdZ x y))])), (3, .slot 26 (VP.tup [INT (divZ y (gcdZ x y)), INT (modZ y (gcdZ x y))])), (4, .slot 30 (INT (divZ y (gcdZ x y)))), (5, .slot 31 (INT (modZ y (gcdZ x y)))), (6, .box 3 24 [Bz (divZ y (gcdZ x y)), Dz (divZ y (gcdZ x y))])] [] [1, 2, 3] [0] rfl rfl follow rfl ⟨
    .inl ⟨wants_plain rfl, does_loadAgg _ ty_agg_api_Int rfl rfl rfl rfl rfl rfl (pt_box (av_os 0 rfl rfl)) (av_os 0 rfl rfl)⟩,
    .inl ⟨wants_plain rfl, does_loadAgg _ ty_agg_api_Int rfl rfl rfl rfl rfl rfl (pt_box (av_fs 1 rfl)) (av_fs 1 rfl)⟩,
    .inl ⟨wants_plain rfl, does_call (s_div y (gcdZ x y) (lle hy (by decide)) (lle (lgcd hx hy) (by decide))) rfl hb_collator_whole_Div rfl rfl rfl rfl ⟨(ar_tmp (av_rs 0 rfl rfl)), (ar_tmp (av_rs 1 rfl rfl)), trivial⟩⟩,
    .inl ⟨wants_plain rfl, does_move _ (.inl rfl) rfl rfl rfl rfl (ar_tmp (av_rs 2 rfl rfl))⟩,
    .inl ⟨wants_plain rfl, does_extract (ps := [INT (divZ y (gcdZ x y)), INT (modZ y (gcdZ x y))]) _ _ rfl rfl rfl rfl rfl (ar_tmp (av_rs 3 rfl rfl)) rfl⟩,
    .inl ⟨wants_plain rfl, does_extract (ps := [INT (divZ y (gcdZ x y)), INT (modZ y (gcdZ x y))]) _ _ rfl rfl rfl rfl rfl (ar_tmp (av_rs 3 rfl rfl)) rfl⟩,
    .inl ⟨wants_plain rfl, does_storeAgg 2 _ _ ty_agg_api_Int rfl rfl rfl rfl rfl (pt_box (av_os 0 rfl rfl)) (av_os 0 rfl rfl) (ar_tmp (av_rs 4 rfl rfl))⟩,
    trivial⟩ ?_
  refine nx_sub (fs' := [.box 4 26 [Bz 0, Dz 0, Bz 0, Dz 0], .box 2 24 [Bz (divZ x (gcdZ x y)), Dz (divZ x (gcdZ x y))], .box 3 24 [Bz (divZ y (gcdZ x y)), Dz (divZ y (gcdZ x y))]]) [0, 2, 9] rfl ?_
  refine nx_then ?_
  refine t_seq ?_
  refine t_seq ?_
  refine t_region (F := ⟨_, _, _, _⟩) [.box 4 26 [Bz 0, Dz 0, Bz 0, Dz 0], .box 2 24 [Bz (divZ x (gcdZ x y)), Dz (divZ x (gcdZ x y))], .box 3 24 [Bz (divZ y (gcdZ x y)), Dz (divZ y (gcdZ x y))]] [] [(0, .slot 32 (INT (divZ y (gcdZ x y)))), (1, .slot 33 (INT 1)), (2, .slot 34 (VP.int .i64 (cmpZ (divZ y (gcdZ x y)) 1))), (3, .slot 35 (VP.bool ((cmpZ (divZ y (gcdZ x y)) 1) == 0)))] [] [0, 1, 2] [] rfl rfl follow rfl ⟨
    .inl ⟨wants_plain rfl, does_loadAgg _ ty_agg_api_Int rfl rfl rfl rfl rfl rfl (pt_box (av_fs 2 rfl)) (av_fs 2 rfl)⟩,
    .inl ⟨wants_plain rfl, does_call (s_of 1 (by decide) (by decide)) rfl hb_collator_whole_Of rfl rfl rfl rfl ⟨(ar_const (fun _ => rfl)), trivial⟩⟩,
    .inl ⟨wants_plain rfl, does_call (s_cmp (divZ y (gcdZ x y)) 1 (lle (ldiv hy) (by decide)) (lle lone (by decide))) rfl hb_collator_whole_Cmp rfl rfl rfl rfl ⟨(ar_tmp (av_rs 0 rfl rfl)), (ar_tmp (av_rs 1 rfl rfl)), trivial⟩⟩,
    .inl ⟨wants_plain rfl, does_cmp (m := (cmpZ (divZ y (gcdZ x y)) 1)) (n := 0) _ _ _ _ _ rfl rfl rfl rfl rfl rfl .i64 (ar_tmp (av_rs 2 rfl rfl)) (ar_const (fun _ => rfl))⟩,
    trivial⟩ ?_
  refine nx_sub (fs' := [.box 4 26 [Bz 0, Dz 0, Bz 0, Dz 0], .box 2 24 [Bz (divZ x (gcdZ x y)), Dz (divZ x (gcdZ x y))], .box 3 24 [Bz (divZ y (gcdZ x y)), Dz (divZ y (gcdZ x y))], .slot 35 (VP.bool ((cmpZ (divZ y (gcdZ x y)) 1) == 0))]) [0, 1, 2, 6] rfl ?_
  refine nx_then ?_
  refine t_cond_te 3 rfl (cmp_one ho) ?_
  refine t_region (F := ⟨_, _, _, _⟩) [.box 4 26 [Bz 0, Dz 0, Bz 0, Dz 0], .box 2 24 [Bz (divZ x (gcdZ x y)), Dz (divZ x (gcdZ x y))], .slot 35 (VP.bool ((cmpZ (divZ y (gcdZ x y)) 1) == 0))] [(1, .box 3 24 [Bz (divZ y (gcdZ x y)), Dz (divZ y (gcdZ x y))])] [(0, .slot 36 (INT 0)), (1, .box 3 24 [Bz 0, Dz 0])] [] [0, 1, 3] [2] rfl rfl follow rfl ⟨
    .inl ⟨wants_plain rfl, does_build [Bz 0, Dz 0] ty_zero_api_Int ty_pl_api_Int rfl rfl rfl rfl rfl z_int (.nil _)⟩,
    .inl ⟨wants_plain rfl, does_storeAgg 2 _ _ ty_agg_api_Int rfl rfl rfl rfl rfl (pt_box (av_os 0 rfl rfl)) (av_os 0 rfl rfl) (ar_tmp (av_rs 0 rfl rfl))⟩,
    trivial⟩ ?_
  refine nx_sub (fs' := [.box 4 26 [Bz 0, Dz 0, Bz 0, Dz 0], .box 2 24 [Bz (divZ x (gcdZ x y)), Dz (divZ x (gcdZ x y))], .box 3 24 [Bz 0, Dz 0]]) [0, 1, 4] rfl ?_
  refine nx_then ?_
  refine t_seq ?_
  refine t_region (F := ⟨_, _, _, _⟩) [.box 2 24 [Bz (divZ x (gcdZ x y)), Dz (divZ x (gcdZ x y))], .box 3 24 [Bz 0, Dz 0]] [(3, .box 4 26 [Bz 0, Dz 0, Bz 0, Dz 0])] [(0, .slot 37 (INT (divZ x (gcdZ x y)))), (1, .slot 38 (INT 0)), (2, .slot 39 (VP.agg [Bz (divZ x (gcdZ x y)), Dz (divZ x (gcdZ x y)), Bz 0, Dz 0])), (3, .box 4 26 [Bz (divZ x (gcdZ x y)), Dz (divZ x (gcdZ x y)), Bz 0, Dz 0])] [] [1, 2] [0] rfl rfl follow rfl ⟨
    .inl ⟨wants_plain rfl, does_loadAgg _ ty_agg_api_Int rfl rfl rfl rfl rfl rfl (pt_box (av_fs 0 rfl)) (av_fs 0 rfl)⟩,
    .inl ⟨wants_plain rfl, does_loadAgg _ ty_agg_api_Int rfl rfl rfl rfl rfl rfl (pt_box (av_fs 1 rfl)) (av_fs 1 rfl)⟩,
    .inl ⟨wants_plain rfl, does_build [Bz 0, Dz 0, Bz 0, Dz 0] ty_zero_api_Frac ty_pl_api_Frac rfl rfl rfl rfl rfl z_frac (.cons 0 [Bz (divZ x (gcdZ x y)), Dz (divZ x (gcdZ x y))] rfl rfl (ar_cells_agg (ar_tmp (av_rs 0 rfl rfl))) (.cons 2 [Bz 0, Dz 0] rfl rfl (ar_cells_agg (ar_tmp (av_rs 1 rfl rfl))) (.nil _)))⟩,
    .inl ⟨wants_plain rfl, does_storeAgg 4 _ _ ty_agg_api_Frac rfl rfl rfl rfl rfl (pt_box (av_os 0 rfl rfl)) (av_os 0 rfl rfl) (ar_tmp (av_rs 2 rfl rfl))⟩,
    trivial⟩ ?_
  refine nx_sub (fs' := [.box 4 26 [Bz (divZ x (gcdZ x y)), Dz (divZ x (gcdZ x y)), Bz 0, Dz 0]]) [5] rfl ?_
  refine nx_then ?_
  refine t_ret ?_
  exact rt_one rfl (res_agg 0 ty_agg_api_Frac rfl)
set_option maxRecDepth 100000 in
set_option maxHeartbeats 4000000 in
theorem f_make6 (x y : Int) (hx : L x ≤ 30000) (hy : L y ≤ 30000) (h : x ≠ 0) (k : y ≠ 0) (hn : ¬ y < 0) (ho : (divZ y (gcdZ x y)) ≠ 1) : Spec Try.prog 70 [(INT x).p, (INT y).p] (VP.agg [Bz (divZ x (gcdZ x y)), Dz (divZ x (gcdZ x y)), Bz (divZ y (gcdZ x y)), Dz (divZ y (gcdZ x y))]) := by
  refine spec_of (xs := [INT x, INT y]) 40 [2, 3, 4, 5] Try.func70 rfl Try.ntmps70 rfl fun w0 => ?_
  refine t_seq ?_
  refine t_region (F := ⟨_, _, _, _⟩) [.slot 0 (INT x), .slot 1 (INT y)] [] [(0, .box 2 24 [Bz x, Dz x]), (1, .box 3 24 [Bz y, Dz y]), (2, .box 4 26 [Bz 0, Dz 0, Bz 0, Dz 0])] [] [0, 1] [] rfl rfl follow rfl ⟨
    .inl ⟨wants_plain rfl, does_box _ rfl rfl rfl rfl rfl (ar_tmp (av_fs 0 rfl))⟩,
    .inl ⟨wants_plain rfl, does_box _ rfl rfl rfl rfl rfl (ar_tmp (av_fs 1 rfl))⟩,
    .inl ⟨wants_plain rfl, does_alloc ty_zero_api_Frac rfl rfl rfl rfl rfl z_frac⟩,
    trivial⟩ ?_
  refine nx_sub (fs' := [.box 2 24 [Bz x, Dz x], .box 3 24 [Bz y, Dz y], .box 4 26 [Bz 0, Dz 0, Bz 0, Dz 0]]) [2, 3, 4] rfl ?_
  refine nx_then ?_
  refine t_seq ?_
  refine t_seq ?_
  refine t_region (F := ⟨_, _, _, _⟩) [.box 2 24 [Bz x, Dz x], .box 3 24 [Bz y, Dz y], .box 4 26 [Bz 0, Dz 0, Bz 0, Dz 0]] [] [(0, .slot 6 (INT x)), (1, .slot 7 (VP.bool (decide (x = 0)))), (2, .slot 8 (VP.bool (decide (x = 0)))), (3, .slot 9 (INT y)), (4, .slot 10 (VP.bool (decide (y = 0)))), (5, .slot 11 (VP.bool (decide (y = 0))))] [] [0, 1, 2] [] rfl rfl follow rfl ⟨
    .inl ⟨wants_plain rfl, does_loadAgg _ ty_agg_api_Int rfl rfl rfl rfl rfl rfl (pt_box (av_fs 0 rfl)) (av_fs 0 rfl)⟩,
    .inl ⟨wants_plain rfl, does_call (f_zero x) rfl hb_collator_frac_zero rfl rfl rfl rfl ⟨(ar_tmp (av_rs 0 rfl rfl)), trivial⟩⟩,
    .inl ⟨wants_plain rfl, does_move _ (.inl rfl) rfl rfl rfl rfl (ar_tmp (av_rs 1 rfl rfl))⟩,
    .inl ⟨wants_guard false rfl rfl rfl (av_bool (decide_eq_false h) (av_rs 2 rfl rfl)), does_loadAgg _ ty_agg_api_Int rfl rfl rfl rfl rfl rfl (pt_box (av_fs 1 rfl)) (av_fs 1 rfl)⟩,
    .inl ⟨wants_guard false rfl rfl rfl (av_bool (decide_eq_false h) (av_rs 2 rfl rfl)), does_call (f_zero y) rfl hb_collator_frac_zero rfl rfl rfl rfl ⟨(ar_tmp (av_rs 3 rfl rfl)), trivial⟩⟩,
    .inl ⟨wants_plain rfl, does_pick false _ _ _ rfl rfl rfl rfl rfl (ar_tmp (av_bool (decide_eq_false h) (av_rs 2 rfl rfl))) (ar_tmp (av_rs 4 rfl rfl))⟩,
    trivial⟩ ?_
  refine nx_sub (fs' := [.box 2 24 [Bz x, Dz x], .box 3 24 [Bz y, Dz y], .box 4 26 [Bz 0, Dz 0, Bz 0, Dz 0], .slot 11 (VP.bool (decide (y = 0)))]) [0, 1, 2, 8] rfl ?_
  refine nx_then ?_
  refine t_cond_fe 3 rfl (decide_eq_false k) ?_
  refine t_skip ?_
  refine nx_then ?_
  refine t_seq ?_
  refine t_region (F := ⟨_, _, _, _⟩) [.box 2 24 [Bz x, Dz x], .box 3 24 [Bz y, Dz y], .box 4 26 [Bz 0, Dz 0, Bz 0, Dz 0], .slot 11 (VP.bool (decide (y = 0)))] [] [(0, .slot 13 (INT x)), (1, .slot 14 (INT y)), (2, .slot 15 (INT (gcdZ x y))), (3, .own 5 24 2), (4, .box 5 24 [Bz (gcdZ x y), Dz (gcdZ x y)])] [] [0, 1, 2, 3] [] rfl rfl follow rfl ⟨
    .inl ⟨wants_plain rfl, does_loadAgg _ ty_agg_api_Int rfl rfl rfl rfl rfl rfl (pt_box (av_fs 0 rfl)) (av_fs 0 rfl)⟩,
    .inl ⟨wants_plain rfl, does_loadAgg _ ty_agg_api_Int rfl rfl rfl rfl rfl rfl (pt_box (av_fs 1 rfl)) (av_fs 1 rfl)⟩,
    .inl ⟨wants_plain rfl, does_call (s_gcd x y (lle hx (by decide)) (lle hy (by decide))) rfl hb_collator_whole_Gcd rfl rfl rfl rfl ⟨(ar_tmp (av_rs 0 rfl rfl)), (ar_tmp (av_rs 1 rfl rfl)), trivial⟩⟩,
    .inl ⟨wants_plain rfl, does_allocOwn [Bz 0, Dz 0] ty_zero_api_Int rfl rfl rfl rfl rfl z_int rfl⟩,
    .inl ⟨wants_plain rfl, does_storeNew 2 _ _ ty_agg_api_Int rfl rfl rfl rfl rfl (pt_own (av_rs 3 rfl rfl)) (av_rs 3 rfl rfl) (ar_tmp (av_rs 2 rfl rfl))⟩,
    trivial⟩ ?_
  refine nx_sub (fs' := [.box 2 24 [Bz x, Dz x], .box 3 24 [Bz y, Dz y], .box 4 26 [Bz 0, Dz 0, Bz 0, Dz 0], .box 5 24 [Bz (gcdZ x y), Dz (gcdZ x y)]]) [0, 1, 2, 8] rfl ?_
  refine nx_then ?_
  refine t_seq ?_
  refine t_seq ?_
  refine t_region (F := ⟨_, _, _, _⟩) [.box 2 24 [Bz x, Dz x], .box 3 24 [Bz y, Dz y], .box 4 26 [Bz 0, Dz 0, Bz 0, Dz 0], .box 5 24 [Bz (gcdZ x y), Dz (gcdZ x y)]] [] [(0, .fp 16 3 0), (1, .slot 17 (Bz y))] [] [0, 1, 2, 3] [] rfl rfl follow rfl ⟨
    .inl ⟨wants_plain rfl, does_field _ _ _ 0 ty_f0_api_Int rfl rfl rfl rfl rfl rfl rfl (pt_box (av_fs 1 rfl))⟩,
    .inl ⟨wants_plain rfl, does_loadOne _ ty_one_bool rfl rfl rfl rfl rfl rfl (pt_fp (av_rs 0 rfl rfl)) (av_fs 1 rfl)⟩,
    trivial⟩ ?_
  refine nx_sub (fs' := [.box 2 24 [Bz x, Dz x], .box 3 24 [Bz y, Dz y], .box 4 26 [Bz 0, Dz 0, Bz 0, Dz 0], .box 5 24 [Bz (gcdZ x y), Dz (gcdZ x y)], .slot 17 (Bz y)]) [0, 1, 2, 3, 5] rfl ?_
  refine nx_then ?_
  refine t_cond_fe 4 rfl (decide_eq_false hn) ?_
  refine t_skip ?_
  refine nx_then ?_
  refine t_seq ?_
  refine t_region (F := ⟨_, _, _, _⟩) [.box 3 24 [Bz y, Dz y], .box 4 26 [Bz 0, Dz 0, Bz 0, Dz 0], .box 5 24 [Bz (gcdZ x y), Dz (gcdZ x y)], .slot 17 (Bz y)] [(6, .box 2 24 [Bz x, Dz x])] [(0, .slot 21 (INT x)), (1, .slot 22 (INT (gcdZ x y))), (2, .slot 23 (VP.tup [INT (divZ x (gcdZ x y)), INT (modZ x (gcdZ x y))])), (3, .slot 20 (VP.tup [INT (divZ x (gcdZ x y)), INT (modZ x (gcdZ x y))])), (4, .slot 24 (INT (divZ x (gcdZ x y)))), (5, .slot 25 (INT (modZ x (gcdZ x y)))), (6, .box 2 24 [Bz (divZ x (gcdZ x y)), Dz (divZ x (gcdZ x y))])] [] [1, 2, 3, 4] [0] rfl rfl follow rfl ⟨
    .inl ⟨wants_plain rfl, does_loadAgg _ ty_agg_api_Int rfl rfl rfl rfl rfl rfl (pt_box (av_os 0 rfl rfl)) (av_os 0 rfl rfl)⟩,
    .inl ⟨wants_plain rfl, does_loadAgg _ ty_agg_api_Int rfl rfl rfl rfl rfl rfl (pt_box (av_fs 2 rfl)) (av_fs 2 rfl)⟩,
    .inl ⟨wants_plain rfl, does_call (s_div x (gcdZ x y) (lle hx (by decide)) (lle (lgcd hx hy) (by decide))) rfl hb_collator_whole_Div rfl rfl rfl rfl ⟨(ar_tmp (av_rs 0 rfl rfl)), (ar_tmp (av_rs 1 rfl rfl)), trivial⟩⟩,
    .inl ⟨wants_plain rfl, does_move _ (.inl rfl) rfl rfl rfl rfl (ar_tmp (av_rs 2 rfl rfl))⟩,
    .inl ⟨wants_plain rfl, does_extract (ps := [INT (divZ x (gcdZ x y)), INT (modZ x (gcdZ x y))]) _ _ rfl rfl rfl rfl rfl (ar_tmp (av_rs 3 rfl rfl)) rfl⟩,
    .inl ⟨wants_plain rfl, does_extract (ps := [INT (divZ x (gcdZ x y)), INT (modZ x (gcdZ x y))]) _ _ rfl rfl rfl rfl rfl (ar_tmp (av_rs 3 rfl rfl)) rfl⟩,
    .inl ⟨wants_plain rfl, does_storeAgg 2 _ _ ty_agg_api_Int rfl rfl rfl rfl rfl (pt_box (av_os 0 rfl rfl)) (av_os 0 rfl rfl) (ar_tmp (av_rs 4 rfl rfl))⟩,
    trivial⟩ ?_
  refine nx_sub (fs' := [.box 3 24 [Bz y, Dz y], .box 4 26 [Bz 0, Dz 0, Bz 0, Dz 0], .box 5 24 [Bz (gcdZ x y), Dz (gcdZ x y)], .box 2 24 [Bz (divZ x (gcdZ x y)), Dz (divZ x (gcdZ x y))]]) [0, 1, 2, 10] rfl ?_
  refine nx_then ?_
  refine t_seq ?_
  refine t_region (F := ⟨_, _, _, _⟩) [.box 4 26 [Bz 0, Dz 0, Bz 0, Dz 0], .box 5 24 [Bz (gcdZ x y), Dz (gcdZ x y)], .box 2 24 [Bz (divZ x (gcdZ x y)), Dz (divZ x (gcdZ x y))]] [(6, .box 3 24 [Bz y, Dz y])] [(0, .slot 27 (INT y)), (1, .slot 28 (INT (gcdZ x y))), (2, .slot 29 (VP.tup [INT (divZ y (gcdZ x y)), INT (modZ y (gcdZ x y))])), (3, .slot 26 (VP.tup [INT (divZ y (gcdZ x y)), INT (modZ y (gcdZ x y))])), (4, .slot 30 (INT (divZ y (gcdZ x y)))), (5, .slot 31 (INT (modZ y (gcdZ x y)))), (6, .box 3 24 [Bz (divZ y (gcdZ x y)), Dz (divZ y (gcdZ x y))])] [] [1, 2, 3] [0] rfl rfl follow rfl ⟨
    .inl ⟨wants_plain rfl, does_loadAgg _ ty_agg_api_Int rfl rfl rfl rfl rfl rfl (pt_box (av_os 0 rfl rfl)) (av_os 0 rfl rfl)⟩,
    .inl ⟨wants_plain rfl, does_loadAgg _ ty_agg_api_Int rfl rfl rfl rfl rfl rfl (pt_box (av_fs 1 rfl)) (av_fs 1 rfl)⟩,
    .inl ⟨wants_plain rfl, does_call (s_div y (gcdZ x y) (lle hy (by decide)) (lle (lgcd hx hy) (by decide))) rfl hb_collator_whole_Div rfl rfl rfl rfl ⟨(ar_tmp (av_rs 0 rfl rfl)), (ar_tmp (av_rs 1 rfl rfl)), trivial⟩⟩,
    .inl ⟨wants_plain rfl, does_move _ (.inl rfl) rfl rfl rfl rfl (ar_tmp (av_rs 2 rfl rfl))⟩,
    .inl ⟨wants_plain rfl, does_extract (ps := [INT (divZ y (gcdZ x y)), INT (modZ y (gcdZ x y))]) _ _ rfl rfl rfl rfl rfl (ar_tmp (av_rs 3 rfl rfl)) rfl⟩,
    .inl ⟨wants_plain rfl, does_extract (ps := [INT (divZ y (gcdZ x y)), INT (modZ y (gcdZ x y))]) _ _ rfl rfl rfl rfl rfl (ar_tmp (av_rs 3 rfl rfl)) rfl⟩,
    .inl ⟨wants_plain rfl, does_storeAgg 2 _ _ ty_agg_api_Int rfl rfl rfl rfl rfl (pt_box (av_os 0 rfl rfl)) (av_os 0 rfl rfl) (ar_tmp (av_rs 4 rfl rfl))⟩,
    trivial⟩ ?_
  refine nx_sub (fs' := [.box 4 26 [Bz 0, Dz 0, Bz 0, Dz 0], .box 2 24 [Bz (divZ x (gcdZ x y)), Dz (divZ x (gcdZ x y))], .box 3 24 [Bz (divZ y (gcdZ x y)), Dz (divZ y (gcdZ x y))]]) [0, 2, 9] rfl ?_
  refine nx_then ?_
  refine t_seq ?_
  refine t_seq ?_
  refine t_region (F := ⟨_, _, _, _⟩) [.box 4 26 [Bz 0, Dz 0, Bz 0, Dz 0], .box 2 24 [Bz (divZ x (gcdZ x y)), Dz (divZ x (gcdZ x y))], .box 3 24 [Bz (divZ y (gcdZ x y)), Dz (divZ y (gcdZ x y))]] [] [(0, .slot 32 (INT (divZ y (gcdZ x y)))), (1, .slot 33 (INT 1)), (2, .slot 34 (VP.int .i64 (cmpZ (divZ y (gcdZ x y)) 1))), (3, .slot 35 (VP.bool ((cmpZ (divZ y (gcdZ x y)) 1) == 0)))] [] [0, 1, 2] [] rfl rfl follow rfl ⟨
    .inl ⟨wants_plain rfl, does_loadAgg _ ty_agg_api_Int rfl rfl rfl rfl rfl rfl (pt_box (av_fs 2 rfl)) (av_fs 2 rfl)⟩,
    .inl ⟨wants_plain rfl, does_call (s_of 1 (by decide) (by decide)) rfl hb_collator_whole_Of rfl rfl rfl rfl ⟨(ar_const (fun _ => rfl)), trivial⟩⟩,
    .inl ⟨wants_plain rfl, does_call (s_cmp (divZ y (gcdZ x y)) 1 (lle (ldiv hy) (by decide)) (lle lone (by decide))) rfl hb_collator_whole_Cmp rfl rfl rfl rfl ⟨(ar_tmp (av_rs 0 rfl rfl)), (ar_tmp (av_rs 1 rfl rfl)), trivial⟩⟩,
    .inl ⟨wants_plain rfl, does_cmp (m := (cmpZ (divZ y (gcdZ x y)) 1)) (n := 0) _ _ _ _ _ rfl rfl rfl rfl rfl rfl .i64 (ar_tmp (av_rs 2 rfl rfl)) (ar_const (fun _ => rfl))⟩,
    trivial⟩ ?_
  refine nx_sub (fs' := [.box 4 26 [Bz 0, Dz 0, Bz 0, Dz 0], .box 2 24 [Bz (divZ x (gcdZ x y)), Dz (divZ x (gcdZ x y))], .box 3 24 [Bz (divZ y (gcdZ x y)), Dz (divZ y (gcdZ x y))], .slot 35 (VP.bool ((cmpZ (divZ y (gcdZ x y)) 1) == 0))]) [0, 1, 2, 6] rfl ?_
  refine nx_then ?_
  refine t_cond_fe 3 rfl (cmp_two ho) ?_
  refine t_skip ?_
  refine nx_then ?_
  refine t_seq ?_
  refine t_region (F := ⟨_, _, _, _⟩) [.box 2 24 [Bz (divZ x (gcdZ x y)), Dz (divZ x (gcdZ x y))], .box 3 24 [Bz (divZ y (gcdZ x y)), Dz (divZ y (gcdZ x y))], .slot 35 (VP.bool ((cmpZ (divZ y (gcdZ x y)) 1) == 0))] [(3, .box 4 26 [Bz 0, Dz 0, Bz 0, Dz 0])] [(0, .slot 37 (INT (divZ x (gcdZ x y)))), (1, .slot 38 (INT (divZ y (gcdZ x y)))), (2, .slot 39 (VP.agg [Bz (divZ x (gcdZ x y)), Dz (divZ x (gcdZ x y)), Bz (divZ y (gcdZ x y)), Dz (divZ y (gcdZ x y))])), (3, .box 4 26 [Bz (divZ x (gcdZ x y)), Dz (divZ x (gcdZ x y)), Bz (divZ y (gcdZ x y)), Dz (divZ y (gcdZ x y))])] [] [1, 2, 3] [0] rfl rfl follow rfl ⟨
    .inl ⟨wants_plain rfl, does_loadAgg _ ty_agg_api_Int rfl rfl rfl rfl rfl rfl (pt_box (av_fs 0 rfl)) (av_fs 0 rfl)⟩,
    .inl ⟨wants_plain rfl, does_loadAgg _ ty_agg_api_Int rfl rfl rfl rfl rfl rfl (pt_box (av_fs 1 rfl)) (av_fs 1 rfl)⟩,
    .inl ⟨wants_plain rfl, does_build [Bz 0, Dz 0, Bz 0, Dz 0] ty_zero_api_Frac ty_pl_api_Frac rfl rfl rfl rfl rfl z_frac (.cons 0 [Bz (divZ x (gcdZ x y)), Dz (divZ x (gcdZ x y))] rfl rfl (ar_cells_agg (ar_tmp (av_rs 0 rfl rfl))) (.cons 2 [Bz (divZ y (gcdZ x y)), Dz (divZ y (gcdZ x y))] rfl rfl (ar_cells_agg (ar_tmp (av_rs 1 rfl rfl))) (.nil _)))⟩,
    .inl ⟨wants_plain rfl, does_storeAgg 4 _ _ ty_agg_api_Frac rfl rfl rfl rfl rfl (pt_box (av_os 0 rfl rfl)) (av_os 0 rfl rfl) (ar_tmp (av_rs 2 rfl rfl))⟩,
    trivial⟩ ?_
  refine nx_sub (fs' := [.box 4 26 [Bz (divZ x (gcdZ x y)), Dz (divZ x (gcdZ x y)), Bz (divZ y (gcdZ x y)), Dz (divZ y (gcdZ x y))]]) [6] rfl ?_
  refine nx_then ?_
  refine t_ret ?_
  exact rt_one rfl (res_agg 0 ty_agg_api_Frac rfl)
theorem f_make (x y : Int) (hx : L x ≤ 30000) (hy : L y ≤ 30000) : Spec Try.prog 70 [(INT x).p, (INT y).p] (VP.agg [Bz (mkO x y), Dz (mkO x y), Bz (mkU x y), Dz (mkU x y)]) := by
  by_cases h : x = 0
  · rw [show mkO x y = 0 from if_pos (.inl h), show mkU x y = 0 from if_pos (.inl h)]; exact f_make1 x y hx hy h
  · by_cases k : y = 0
    · rw [show mkO x y = 0 from if_pos (.inr k), show mkU x y = 0 from if_pos (.inr k)]; exact f_make2 x y hx hy h k
    · have hxy : ¬ (x = 0 ∨ y = 0) := by omega
      by_cases hn : y < 0
      · have e1 : mkO x y = divZ x (-gcdZ x y) := by unfold mkO; rw [if_neg hxy, if_pos hn]
        have e2 : mkD x y = divZ y (-gcdZ x y) := by unfold mkD; rw [if_pos hn]
        by_cases ho : mkD x y = 1
        · rw [e1, show mkU x y = 0 from by unfold mkU; rw [if_neg hxy, if_pos ho]]; exact f_make3 x y hx hy h k hn (by rw [← e2]; exact ho)
        · rw [e1, show mkU x y = divZ y (-gcdZ x y) from by unfold mkU; rw [if_neg hxy, if_neg ho, e2]]; exact f_make4 x y hx hy h k hn (by rw [← e2]; exact ho)
      · have e1 : mkO x y = divZ x (gcdZ x y) := by unfold mkO; rw [if_neg hxy, if_neg hn]
        have e2 : mkD x y = divZ y (gcdZ x y) := by unfold mkD; rw [if_neg hn]
        by_cases ho : mkD x y = 1
        · rw [e1, show mkU x y = 0 from by unfold mkU; rw [if_neg hxy, if_pos ho]]; exact f_make5 x y hx hy h k hn (by rw [← e2]; exact ho)
        · rw [e1, show mkU x y = divZ y (gcdZ x y) from by unfold mkU; rw [if_neg hxy, if_neg ho, e2]]; exact f_make6 x y hx hy h k hn (by rw [← e2]; exact ho)
set_option maxRecDepth 100000 in
set_option maxHeartbeats 4000000 in
theorem f_of (p : Int) (hp : L p ≤ 1000) : Spec Try.prog 23 [(INT p).p] (VP.agg [Bz (mkO p 1), Dz (mkO p 1), Bz (mkU p 1), Dz (mkU p 1)]) := by
  refine spec_of (xs := [INT p]) 6 [1, 2] Try.func23 rfl Try.ntmps23 rfl fun w0 => ?_
  refine t_seq ?_
  refine t_region (F := ⟨_, _, _, _⟩) [.slot 0 (INT p)] [] [(0, .box 1 24 [Bz p, Dz p]), (1, .box 2 26 [Bz 0, Dz 0, Bz 0, Dz 0])] [] [0] [] rfl rfl follow rfl ⟨
    .inl ⟨wants_plain rfl, does_box _ rfl rfl rfl rfl rfl (ar_tmp (av_fs 0 rfl))⟩,
    .inl ⟨wants_plain rfl, does_alloc ty_zero_api_Frac rfl rfl rfl rfl rfl z_frac⟩,
    trivial⟩ ?_
  refine nx_sub (fs' := [.box 1 24 [Bz p, Dz p], .box 2 26 [Bz 0, Dz 0, Bz 0, Dz 0]]) [1, 2] rfl ?_
  refine nx_then ?_
  refine t_seq ?_
  refine t_region (F := ⟨_, _, _, _⟩) [.box 1 24 [Bz p, Dz p]] [(3, .box 2 26 [Bz 0, Dz 0, Bz 0, Dz 0])] [(0, .slot 3 (INT p)), (1, .slot 4 (INT 1)), (2, .slot 5 (VP.agg [Bz (mkO p 1), Dz (mkO p 1), Bz (mkU p 1), Dz (mkU p 1)])), (3, .box 2 26 [Bz (mkO p 1), Dz (mkO p 1), Bz (mkU p 1), Dz (mkU p 1)])] [] [0] [1] rfl rfl follow rfl ⟨
    .inl ⟨wants_plain rfl, does_loadAgg _ ty_agg_api_Int rfl rfl rfl rfl rfl rfl (pt_box (av_fs 0 rfl)) (av_fs 0 rfl)⟩,
    .inl ⟨wants_plain rfl, does_call (s_of 1 (by decide) (by decide)) rfl hb_collator_whole_Of rfl rfl rfl rfl ⟨(ar_const (fun _ => rfl)), trivial⟩⟩,
    .inl ⟨wants_plain rfl, does_call (f_make p 1 (lle hp (by decide)) (lle lone (by decide))) rfl hb_collator_frac_Make rfl rfl rfl rfl ⟨(ar_tmp (av_rs 0 rfl rfl)), (ar_tmp (av_rs 1 rfl rfl)), trivial⟩⟩,
    .inl ⟨wants_plain rfl, does_storeAgg 4 _ _ ty_agg_api_Frac rfl rfl rfl rfl rfl (pt_box (av_os 0 rfl rfl)) (av_os 0 rfl rfl) (ar_tmp (av_rs 2 rfl rfl))⟩,
    trivial⟩ ?_
  refine nx_sub (fs' := [.box 2 26 [Bz (mkO p 1), Dz (mkO p 1), Bz (mkU p 1), Dz (mkU p 1)]]) [4] rfl ?_
  refine nx_then ?_
  refine t_ret ?_
  exact rt_one rfl (res_agg 0 ty_agg_api_Frac rfl)
set_option maxRecDepth 100000 in
set_option maxHeartbeats 4000000 in
theorem f_cross (p q r s : Int) (hp : L p ≤ 1000) (hq : L q ≤ 1000) (hr : L r ≤ 1000) (hs : L s ≤ 1000) : Spec Try.prog 75 [(VP.agg [Bz p, Dz p, Bz q, Dz q]).p, (VP.agg [Bz r, Dz r, Bz s, Dz s]).p] (VP.tup [INT (p * (und s)), INT (r * (und q)), INT ((und q) * (und s))]) := by
  refine spec_of (xs := [VP.agg [Bz p, Dz p, Bz q, Dz q], VP.agg [Bz r, Dz r, Bz s, Dz s]]) 22 [2, 3, 4, 5, 6] Try.func75 rfl Try.ntmps75 rfl fun w0 => ?_
  refine t_seq ?_
  refine t_region (F := ⟨_, _, _, _⟩) [.slot 0 (VP.agg [Bz p, Dz p, Bz q, Dz q]), .slot 1 (VP.agg [Bz r, Dz r, Bz s, Dz s])] [] [(0, .box 2 26 [Bz p, Dz p, Bz q, Dz q]), (1, .box 3 26 [Bz r, Dz r, Bz s, Dz s]), (2, .box 4 24 [Bz 0, Dz 0]), (3, .box 5 24 [Bz 0, Dz 0]), (4, .box 6 24 [Bz 0, Dz 0])] [] [0, 1] [] rfl rfl follow rfl ⟨
    .inl ⟨wants_plain rfl, does_box _ rfl rfl rfl rfl rfl (ar_tmp (av_fs 0 rfl))⟩,
    .inl ⟨wants_plain rfl, does_box _ rfl rfl rfl rfl rfl (ar_tmp (av_fs 1 rfl))⟩,
    .inl ⟨wants_plain rfl, does_alloc ty_zero_api_Int rfl rfl rfl rfl rfl z_int⟩,
    .inl ⟨wants_plain rfl, does_alloc ty_zero_api_Int rfl rfl rfl rfl rfl z_int⟩,
    .inl ⟨wants_plain rfl, does_alloc ty_zero_api_Int rfl rfl rfl rfl rfl z_int⟩,
    trivial⟩ ?_
  refine nx_sub (fs' := [.box 2 26 [Bz p, Dz p, Bz q, Dz q], .box 3 26 [Bz r, Dz r, Bz s, Dz s], .box 4 24 [Bz 0, Dz 0], .box 5 24 [Bz 0, Dz 0], .box 6 24 [Bz 0, Dz 0]]) [2, 3, 4, 5, 6] rfl ?_
  refine nx_then ?_
  refine t_seq ?_
  refine t_region (F := ⟨_, _, _, _⟩) [.box 2 26 [Bz p, Dz p, Bz q, Dz q], .box 3 26 [Bz r, Dz r, Bz s, Dz s]] [(15, .box 4 24 [Bz 0, Dz 0]), (16, .box 5 24 [Bz 0, Dz 0]), (17, .box 6 24 [Bz 0, Dz 0])] [(0, .fp 7 2 0), (1, .slot 8 (INT p)), (2, .slot 9 (VP.agg [Bz r, Dz r, Bz s, Dz s])), (3, .slot 10 (INT (und s))), (4, .slot 11 (INT (p * (und s)))), (5, .fp 12 3 0), (6, .slot 13 (INT r)), (7, .slot 14 (VP.agg [Bz p, Dz p, Bz q, Dz q])), (8, .slot 15 (INT (und q))), (9, .slot 16 (INT (r * (und q)))), (10, .slot 17 (VP.agg [Bz p, Dz p, Bz q, Dz q])), (11, .slot 18 (INT (und q))), (12, .slot 19 (VP.agg [Bz r, Dz r, Bz s, Dz s])), (13, .slot 20 (INT (und s))), (14, .slot 21 (INT ((und q) * (und s)))), (15, .box 4 24 [Bz (p * (und s)), Dz (p * (und s))]), (16, .box 5 24 [Bz (r * (und q)), Dz (r * (und q))]), (17, .box 6 24 [Bz ((und q) * (und s)), Dz ((und q) * (und s))])] [] [0, 1] [2, 3, 4] rfl rfl follow rfl ⟨
    .inl ⟨wants_plain rfl, does_field _ _ _ 0 ty_f0_api_Frac rfl rfl rfl rfl rfl rfl rfl (pt_box (av_fs 0 rfl))⟩,
    .inl ⟨wants_plain rfl, does_loadAgg _ ty_agg_api_Int rfl rfl rfl rfl rfl rfl (pt_fp (av_rs 0 rfl rfl)) (av_fs 0 rfl)⟩,
    .inl ⟨wants_plain rfl, does_loadAgg _ ty_agg_api_Frac rfl rfl rfl rfl rfl rfl (pt_box (av_fs 1 rfl)) (av_fs 1 rfl)⟩,
    .inl ⟨wants_plain rfl, does_call (f_under r s hr hs) rfl hb_collator_frac_under rfl rfl rfl rfl ⟨(ar_tmp (av_rs 2 rfl rfl)), trivial⟩⟩,
    .inl ⟨wants_plain rfl, does_call (s_mul p (und s) (lle hp (by decide)) (lle (lund hs (by decide)) (by decide))) rfl hb_collator_whole_Mul rfl rfl rfl rfl ⟨(ar_tmp (av_rs 1 rfl rfl)), (ar_tmp (av_rs 3 rfl rfl)), trivial⟩⟩,
    .inl ⟨wants_plain rfl, does_field _ _ _ 0 ty_f0_api_Frac rfl rfl rfl rfl rfl rfl rfl (pt_box (av_fs 1 rfl))⟩,
    .inl ⟨wants_plain rfl, does_loadAgg _ ty_agg_api_Int rfl rfl rfl rfl rfl rfl (pt_fp (av_rs 5 rfl rfl)) (av_fs 1 rfl)⟩,
    .inl ⟨wants_plain rfl, does_loadAgg _ ty_agg_api_Frac rfl rfl rfl rfl rfl rfl (pt_box (av_fs 0 rfl)) (av_fs 0 rfl)⟩,
    .inl ⟨wants_plain rfl, does_call (f_under p q hp hq) rfl hb_collator_frac_under rfl rfl rfl rfl ⟨(ar_tmp (av_rs 7 rfl rfl)), trivial⟩⟩,
    .inl ⟨wants_plain rfl, does_call (s_mul r (und q) (lle hr (by decide)) (lle (lund hq (by decide)) (by decide))) rfl hb_collator_whole_Mul rfl rfl rfl rfl ⟨(ar_tmp (av_rs 6 rfl rfl)), (ar_tmp (av_rs 8 rfl rfl)), trivial⟩⟩,
    .inl ⟨wants_plain rfl, does_loadAgg _ ty_agg_api_Frac rfl rfl rfl rfl rfl rfl (pt_box (av_fs 0 rfl)) (av_fs 0 rfl)⟩,
    .inl ⟨wants_plain rfl, does_call (f_under p q hp hq) rfl hb_collator_frac_under rfl rfl rfl rfl ⟨(ar_tmp (av_rs 10 rfl rfl)), trivial⟩⟩,
    .inl ⟨wants_plain rfl, does_loadAgg _ ty_agg_api_Frac rfl rfl rfl rfl rfl rfl (pt_box (av_fs 1 rfl)) (av_fs 1 rfl)⟩,
    .inl ⟨wants_plain rfl, does_call (f_under r s hr hs) rfl hb_collator_frac_under rfl rfl rfl rfl ⟨(ar_tmp (av_rs 12 rfl rfl)), trivial⟩⟩,
    .inl ⟨wants_plain rfl, does_call (s_mul (und q) (und s) (lle (lund hq (by decide)) (by decide)) (lle (lund hs (by decide)) (by decide))) rfl hb_collator_whole_Mul rfl rfl rfl rfl ⟨(ar_tmp (av_rs 11 rfl rfl)), (ar_tmp (av_rs 13 rfl rfl)), trivial⟩⟩,
    .inl ⟨wants_plain rfl, does_storeAgg 2 _ _ ty_agg_api_Int rfl rfl rfl rfl rfl (pt_box (av_os 0 rfl rfl)) (av_os 0 rfl rfl) (ar_tmp (av_rs 4 rfl rfl))⟩,
    .inl ⟨wants_plain rfl, does_storeAgg 2 _ _ ty_agg_api_Int rfl rfl rfl rfl rfl (pt_box (av_os 1 rfl rfl)) (av_os 1 rfl rfl) (ar_tmp (av_rs 9 rfl rfl))⟩,
    .inl ⟨wants_plain rfl, does_storeAgg 2 _ _ ty_agg_api_Int rfl rfl rfl rfl rfl (pt_box (av_os 2 rfl rfl)) (av_os 2 rfl rfl) (ar_tmp (av_rs 14 rfl rfl))⟩,
    trivial⟩ ?_
  refine nx_sub (fs' := [.box 4 24 [Bz (p * (und s)), Dz (p * (und s))], .box 5 24 [Bz (r * (und q)), Dz (r * (und q))], .box 6 24 [Bz ((und q) * (und s)), Dz ((und q) * (und s))]]) [17, 18, 19] rfl ?_
  refine nx_then ?_
  refine t_ret ?_
  exact rt_three rfl (res_agg 0 ty_agg_api_Int rfl) (res_agg 1 ty_agg_api_Int rfl) (res_agg 2 ty_agg_api_Int rfl)
set_option maxRecDepth 100000 in
set_option maxHeartbeats 4000000 in
theorem f_add (p q r s : Int) (hp : L p ≤ 1000) (hq : L q ≤ 1000) (hr : L r ≤ 1000) (hs : L s ≤ 1000) : Spec Try.prog 18 [(VP.agg [Bz p, Dz p, Bz q, Dz q]).p, (VP.agg [Bz r, Dz r, Bz s, Dz s]).p] (VP.agg [Bz (mkO ((p * (und s)) + (r * (und q))) ((und q) * (und s))), Dz (mkO ((p * (und s)) + (r * (und q))) ((und q) * (und s))), Bz (mkU ((p * (und s)) + (r * (und q))) ((und q) * (und s))), Dz (mkU ((p * (und s)) + (r * (und q))) ((und q) * (und s)))]) := by
  refine spec_of (xs := [VP.agg [Bz p, Dz p, Bz q, Dz q], VP.agg [Bz r, Dz r, Bz s, Dz s]]) 20 [2, 3, 4, 5, 6, 7] Try.func18 rfl Try.ntmps18 rfl fun w0 => ?_
  refine t_seq ?_
  refine t_region (F := ⟨_, _, _, _⟩) [.slot 0 (VP.agg [Bz p, Dz p, Bz q, Dz q]), .slot 1 (VP.agg [Bz r, Dz r, Bz s, Dz s])] [] [(0, .box 2 26 [Bz p, Dz p, Bz q, Dz q]), (1, .box 3 26 [Bz r, Dz r, Bz s, Dz s]), (2, .box 4 26 [Bz 0, Dz 0, Bz 0, Dz 0])] [] [0, 1] [] rfl rfl follow rfl ⟨
    .inl ⟨wants_plain rfl, does_box _ rfl rfl rfl rfl rfl (ar_tmp (av_fs 0 rfl))⟩,
    .inl ⟨wants_plain rfl, does_box _ rfl rfl rfl rfl rfl (ar_tmp (av_fs 1 rfl))⟩,
    .inl ⟨wants_plain rfl, does_alloc ty_zero_api_Frac rfl rfl rfl rfl rfl z_frac⟩,
    trivial⟩ ?_
  refine nx_sub (fs' := [.box 2 26 [Bz p, Dz p, Bz q, Dz q], .box 3 26 [Bz r, Dz r, Bz s, Dz s], .box 4 26 [Bz 0, Dz 0, Bz 0, Dz 0]]) [2, 3, 4] rfl ?_
  refine nx_then ?_
  refine t_seq ?_
  refine t_region (F := ⟨_, _, _, _⟩) [.box 2 26 [Bz p, Dz p, Bz q, Dz q], .box 3 26 [Bz r, Dz r, Bz s, Dz s], .box 4 26 [Bz 0, Dz 0, Bz 0, Dz 0]] [] [(0, .slot 9 (VP.agg [Bz p, Dz p, Bz q, Dz q])), (1, .slot 10 (VP.agg [Bz r, Dz r, Bz s, Dz s])), (2, .slot 11 (VP.tup [INT (p * (und s)), INT (r * (und q)), INT ((und q) * (und s))])), (3, .slot 8 (VP.tup [INT (p * (und s)), INT (r * (und q)), INT ((und q) * (und s))])), (4, .slot 12 (INT (p * (und s)))), (5, .slot 13 (INT (r * (und q)))), (6, .slot 14 (INT ((und q) * (und s)))), (7, .own 5 24 2), (8, .own 6 24 2), (9, .own 7 24 2), (10, .box 5 24 [Bz (p * (und s)), Dz (p * (und s))]), (11, .box 6 24 [Bz (r * (und q)), Dz (r * (und q))]), (12, .box 7 24 [Bz ((und q) * (und s)), Dz ((und q) * (und s))])] [] [0, 1, 2] [] rfl rfl follow rfl ⟨
    .inl ⟨wants_plain rfl, does_loadAgg _ ty_agg_api_Frac rfl rfl rfl rfl rfl rfl (pt_box (av_fs 0 rfl)) (av_fs 0 rfl)⟩,
    .inl ⟨wants_plain rfl, does_loadAgg _ ty_agg_api_Frac rfl rfl rfl rfl rfl rfl (pt_box (av_fs 1 rfl)) (av_fs 1 rfl)⟩,
    .inl ⟨wants_plain rfl, does_call (f_cross p q r s hp hq hr hs) rfl hb_collator_frac_cross rfl rfl rfl rfl ⟨(ar_tmp (av_rs 0 rfl rfl)), (ar_tmp (av_rs 1 rfl rfl)), trivial⟩⟩,
    .inl ⟨wants_plain rfl, does_move _ (.inl rfl) rfl rfl rfl rfl (ar_tmp (av_rs 2 rfl rfl))⟩,
    .inl ⟨wants_plain rfl, does_extract (ps := [INT (p * (und s)), INT (r * (und q)), INT ((und q) * (und s))]) _ _ rfl rfl rfl rfl rfl (ar_tmp (av_rs 3 rfl rfl)) rfl⟩,
    .inl ⟨wants_plain rfl, does_extract (ps := [INT (p * (und s)), INT (r * (und q)), INT ((und q) * (und s))]) _ _ rfl rfl rfl rfl rfl (ar_tmp (av_rs 3 rfl rfl)) rfl⟩,
    .inl ⟨wants_plain rfl, does_extract (ps := [INT (p * (und s)), INT (r * (und q)), INT ((und q) * (und s))]) _ _ rfl rfl rfl rfl rfl (ar_tmp (av_rs 3 rfl rfl)) rfl⟩,
    .inl ⟨wants_plain rfl, does_allocOwn [Bz 0, Dz 0] ty_zero_api_Int rfl rfl rfl rfl rfl z_int rfl⟩,
    .inl ⟨wants_plain rfl, does_allocOwn [Bz 0, Dz 0] ty_zero_api_Int rfl rfl rfl rfl rfl z_int rfl⟩,
    .inl ⟨wants_plain rfl, does_allocOwn [Bz 0, Dz 0] ty_zero_api_Int rfl rfl rfl rfl rfl z_int rfl⟩,
    .inl ⟨wants_plain rfl, does_storeNew 2 _ _ ty_agg_api_Int rfl rfl rfl rfl rfl (pt_own (av_rs 7 rfl rfl)) (av_rs 7 rfl rfl) (ar_tmp (av_rs 4 rfl rfl))⟩,
    .inl ⟨wants_plain rfl, does_storeNew 2 _ _ ty_agg_api_Int rfl rfl rfl rfl rfl (pt_own (av_rs 8 rfl rfl)) (av_rs 8 rfl rfl) (ar_tmp (av_rs 5 rfl rfl))⟩,
    .inl ⟨wants_plain rfl, does_storeNew 2 _ _ ty_agg_api_Int rfl rfl rfl rfl rfl (pt_own (av_rs 9 rfl rfl)) (av_rs 9 rfl rfl) (ar_tmp (av_rs 6 rfl rfl))⟩,
    trivial⟩ ?_
  refine nx_sub (fs' := [.box 4 26 [Bz 0, Dz 0, Bz 0, Dz 0], .box 5 24 [Bz (p * (und s)), Dz (p * (und s))], .box 6 24 [Bz (r * (und q)), Dz (r * (und q))], .box 7 24 [Bz ((und q) * (und s)), Dz ((und q) * (und s))]]) [2, 13, 14, 15] rfl ?_
  refine nx_then ?_
  refine t_seq ?_
  refine t_region (F := ⟨_, _, _, _⟩) [.box 5 24 [Bz (p * (und s)), Dz (p * (und s))], .box 6 24 [Bz (r * (und q)), Dz (r * (und q))], .box 7 24 [Bz ((und q) * (und s)), Dz ((und q) * (und s))]] [(5, .box 4 26 [Bz 0, Dz 0, Bz 0, Dz 0])] [(0, .slot 15 (INT (p * (und s)))), (1, .slot 16 (INT (r * (und q)))), (2, .slot 17 (INT ((p * (und s)) + (r * (und q))))), (3, .slot 18 (INT ((und q) * (und s)))), (4, .slot 19 (VP.agg [Bz (mkO ((p * (und s)) + (r * (und q))) ((und q) * (und s))), Dz (mkO ((p * (und s)) + (r * (und q))) ((und q) * (und s))), Bz (mkU ((p * (und s)) + (r * (und q))) ((und q) * (und s))), Dz (mkU ((p * (und s)) + (r * (und q))) ((und q) * (und s)))])), (5, .box 4 26 [Bz (mkO ((p * (und s)) + (r * (und q))) ((und q) * (und s))), Dz (mkO ((p * (und s)) + (r * (und q))) ((und q) * (und s))), Bz (mkU ((p * (und s)) + (r * (und q))) ((und q) * (und s))), Dz (mkU ((p * (und s)) + (r * (und q))) ((und q) * (und s)))])] [] [1, 2, 3] [0] rfl rfl follow rfl ⟨
    .inl ⟨wants_plain rfl, does_loadAgg _ ty_agg_api_Int rfl rfl rfl rfl rfl rfl (pt_box (av_fs 0 rfl)) (av_fs 0 rfl)⟩,
    .inl ⟨wants_plain rfl, does_loadAgg _ ty_agg_api_Int rfl rfl rfl rfl rfl rfl (pt_box (av_fs 1 rfl)) (av_fs 1 rfl)⟩,
    .inl ⟨wants_plain rfl, does_call (s_add (p * (und s)) (r * (und q)) (lle (lmul hp (lund hs (by decide))) (by decide)) (lle (lmul hr (lund hq (by decide))) (by decide))) rfl hb_collator_whole_Add rfl rfl rfl rfl ⟨(ar_tmp (av_rs 0 rfl rfl)), (ar_tmp (av_rs 1 rfl rfl)), trivial⟩⟩,
    .inl ⟨wants_plain rfl, does_loadAgg _ ty_agg_api_Int rfl rfl rfl rfl rfl rfl (pt_box (av_fs 2 rfl)) (av_fs 2 rfl)⟩,
    .inl ⟨wants_plain rfl, does_call (f_make ((p * (und s)) + (r * (und q))) ((und q) * (und s)) (lle (ladd (lmul hp (lund hs (by decide))) (lmul hr (lund hq (by decide)))) (by decide)) (lle (lmul (lund hq (by decide)) (lund hs (by decide))) (by decide))) rfl hb_collator_frac_Make rfl rfl rfl rfl ⟨(ar_tmp (av_rs 2 rfl rfl)), (ar_tmp (av_rs 3 rfl rfl)), trivial⟩⟩,
    .inl ⟨wants_plain rfl, does_storeAgg 4 _ _ ty_agg_api_Frac rfl rfl rfl rfl rfl (pt_box (av_os 0 rfl rfl)) (av_os 0 rfl rfl) (ar_tmp (av_rs 4 rfl rfl))⟩,
    trivial⟩ ?_
  refine nx_sub (fs' := [.box 4 26 [Bz (mkO ((p * (und s)) + (r * (und q))) ((und q) * (und s))), Dz (mkO ((p * (und s)) + (r * (und q))) ((und q) * (und s))), Bz (mkU ((p * (und s)) + (r * (und q))) ((und q) * (und s))), Dz (mkU ((p * (und s)) + (r * (und q))) ((und q) * (und s)))]]) [8] rfl ?_
  refine nx_then ?_
  refine t_ret ?_
  exact rt_one rfl (res_agg 0 ty_agg_api_Frac rfl)
set_option maxRecDepth 100000 in
set_option maxHeartbeats 4000000 in
theorem f_mul (p q r s : Int) (hp : L p ≤ 1000) (hq : L q ≤ 1000) (hr : L r ≤ 1000) (hs : L s ≤ 1000) : Spec Try.prog 19 [(VP.agg [Bz p, Dz p, Bz q, Dz q]).p, (VP.agg [Bz r, Dz r, Bz s, Dz s]).p] (VP.agg [Bz (mkO (p * r) ((und q) * (und s))), Dz (mkO (p * r) ((und q) * (und s))), Bz (mkU (p * r) ((und q) * (und s))), Dz (mkU (p * r) ((und q) * (und s)))]) := by
  refine spec_of (xs := [VP.agg [Bz p, Dz p, Bz q, Dz q], VP.agg [Bz r, Dz r, Bz s, Dz s]]) 16 [2, 3, 4] Try.func19 rfl Try.ntmps19 rfl fun w0 => ?_
  refine t_seq ?_
  refine t_region (F := ⟨_, _, _, _⟩) [.slot 0 (VP.agg [Bz p, Dz p, Bz q, Dz q]), .slot 1 (VP.agg [Bz r, Dz r, Bz s, Dz s])] [] [(0, .box 2 26 [Bz p, Dz p, Bz q, Dz q]), (1, .box 3 26 [Bz r, Dz r, Bz s, Dz s]), (2, .box 4 26 [Bz 0, Dz 0, Bz 0, Dz 0])] [] [0, 1] [] rfl rfl follow rfl ⟨
    .inl ⟨wants_plain rfl, does_box _ rfl rfl rfl rfl rfl (ar_tmp (av_fs 0 rfl))⟩,
    .inl ⟨wants_plain rfl, does_box _ rfl rfl rfl rfl rfl (ar_tmp (av_fs 1 rfl))⟩,
    .inl ⟨wants_plain rfl, does_alloc ty_zero_api_Frac rfl rfl rfl rfl rfl z_frac⟩,
    trivial⟩ ?_
  refine nx_sub (fs' := [.box 2 26 [Bz p, Dz p, Bz q, Dz q], .box 3 26 [Bz r, Dz r, Bz s, Dz s], .box 4 26 [Bz 0, Dz 0, Bz 0, Dz 0]]) [2, 3, 4] rfl ?_
  refine nx_then ?_
  refine t_seq ?_
  refine t_region (F := ⟨_, _, _, _⟩) [.box 2 26 [Bz p, Dz p, Bz q, Dz q], .box 3 26 [Bz r, Dz r, Bz s, Dz s]] [(11, .box 4 26 [Bz 0, Dz 0, Bz 0, Dz 0])] [(0, .fp 5 2 0), (1, .slot 6 (INT p)), (2, .fp 7 3 0), (3, .slot 8 (INT r)), (4, .slot 9 (INT (p * r))), (5, .slot 10 (VP.agg [Bz p, Dz p, Bz q, Dz q])), (6, .slot 11 (INT (und q))), (7, .slot 12 (VP.agg [Bz r, Dz r, Bz s, Dz s])), (8, .slot 13 (INT (und s))), (9, .slot 14 (INT ((und q) * (und s)))), (10, .slot 15 (VP.agg [Bz (mkO (p * r) ((und q) * (und s))), Dz (mkO (p * r) ((und q) * (und s))), Bz (mkU (p * r) ((und q) * (und s))), Dz (mkU (p * r) ((und q) * (und s)))])), (11, .box 4 26 [Bz (mkO (p * r) ((und q) * (und s))), Dz (mkO (p * r) ((und q) * (und s))), Bz (mkU (p * r) ((und q) * (und s))), Dz (mkU (p * r) ((und q) * (und s)))])] [] [0, 1] [2] rfl rfl follow rfl ⟨
    .inl ⟨wants_plain rfl, does_field _ _ _ 0 ty_f0_api_Frac rfl rfl rfl rfl rfl rfl rfl (pt_box (av_fs 0 rfl))⟩,
    .inl ⟨wants_plain rfl, does_loadAgg _ ty_agg_api_Int rfl rfl rfl rfl rfl rfl (pt_fp (av_rs 0 rfl rfl)) (av_fs 0 rfl)⟩,
    .inl ⟨wants_plain rfl, does_field _ _ _ 0 ty_f0_api_Frac rfl rfl rfl rfl rfl rfl rfl (pt_box (av_fs 1 rfl))⟩,
    .inl ⟨wants_plain rfl, does_loadAgg _ ty_agg_api_Int rfl rfl rfl rfl rfl rfl (pt_fp (av_rs 2 rfl rfl)) (av_fs 1 rfl)⟩,
    .inl ⟨wants_plain rfl, does_call (s_mul p r (lle hp (by decide)) (lle hr (by decide))) rfl hb_collator_whole_Mul rfl rfl rfl rfl ⟨(ar_tmp (av_rs 1 rfl rfl)), (ar_tmp (av_rs 3 rfl rfl)), trivial⟩⟩,
    .inl ⟨wants_plain rfl, does_loadAgg _ ty_agg_api_Frac rfl rfl rfl rfl rfl rfl (pt_box (av_fs 0 rfl)) (av_fs 0 rfl)⟩,
    .inl ⟨wants_plain rfl, does_call (f_under p q hp hq) rfl hb_collator_frac_under rfl rfl rfl rfl ⟨(ar_tmp (av_rs 5 rfl rfl)), trivial⟩⟩,
    .inl ⟨wants_plain rfl, does_loadAgg _ ty_agg_api_Frac rfl rfl rfl rfl rfl rfl (pt_box (av_fs 1 rfl)) (av_fs 1 rfl)⟩,
    .inl ⟨wants_plain rfl, does_call (f_under r s hr hs) rfl hb_collator_frac_under rfl rfl rfl rfl ⟨(ar_tmp (av_rs 7 rfl rfl)), trivial⟩⟩,
    .inl ⟨wants_plain rfl, does_call (s_mul (und q) (und s) (lle (lund hq (by decide)) (by decide)) (lle (lund hs (by decide)) (by decide))) rfl hb_collator_whole_Mul rfl rfl rfl rfl ⟨(ar_tmp (av_rs 6 rfl rfl)), (ar_tmp (av_rs 8 rfl rfl)), trivial⟩⟩,
    .inl ⟨wants_plain rfl, does_call (f_make (p * r) ((und q) * (und s)) (lle (lmul hp hr) (by decide)) (lle (lmul (lund hq (by decide)) (lund hs (by decide))) (by decide))) rfl hb_collator_frac_Make rfl rfl rfl rfl ⟨(ar_tmp (av_rs 4 rfl rfl)), (ar_tmp (av_rs 9 rfl rfl)), trivial⟩⟩,
    .inl ⟨wants_plain rfl, does_storeAgg 4 _ _ ty_agg_api_Frac rfl rfl rfl rfl rfl (pt_box (av_os 0 rfl rfl)) (av_os 0 rfl rfl) (ar_tmp (av_rs 10 rfl rfl))⟩,
    trivial⟩ ?_
  refine nx_sub (fs' := [.box 4 26 [Bz (mkO (p * r) ((und q) * (und s))), Dz (mkO (p * r) ((und q) * (und s))), Bz (mkU (p * r) ((und q) * (und s))), Dz (mkU (p * r) ((und q) * (und s)))]]) [13] rfl ?_
  refine nx_then ?_
  refine t_ret ?_
  exact rt_one rfl (res_agg 0 ty_agg_api_Frac rfl)
set_option maxRecDepth 100000 in
set_option maxHeartbeats 4000000 in
theorem f_div (p q r s : Int) (hp : L p ≤ 1000) (hq : L q ≤ 1000) (hr : L r ≤ 1000) (hs : L s ≤ 1000) : Spec Try.prog 21 [(VP.agg [Bz p, Dz p, Bz q, Dz q]).p, (VP.agg [Bz r, Dz r, Bz s, Dz s]).p] (VP.agg [Bz (mkO (p * (und s)) (r * (und q))), Dz (mkO (p * (und s)) (r * (und q))), Bz (mkU (p * (und s)) (r * (und q))), Dz (mkU (p * (und s)) (r * (und q)))]) := by
  refine spec_of (xs := [VP.agg [Bz p, Dz p, Bz q, Dz q], VP.agg [Bz r, Dz r, Bz s, Dz s]]) 18 [2, 3, 4, 5, 6, 7] Try.func21 rfl Try.ntmps21 rfl fun w0 => ?_
  refine t_seq ?_
  refine t_region (F := ⟨_, _, _, _⟩) [.slot 0 (VP.agg [Bz p, Dz p, Bz q, Dz q]), .slot 1 (VP.agg [Bz r, Dz r, Bz s, Dz s])] [] [(0, .box 2 26 [Bz p, Dz p, Bz q, Dz q]), (1, .box 3 26 [Bz r, Dz r, Bz s, Dz s]), (2, .box 4 26 [Bz 0, Dz 0, Bz 0, Dz 0])] [] [0, 1] [] rfl rfl follow rfl ⟨
    .inl ⟨wants_plain rfl, does_box _ rfl rfl rfl rfl rfl (ar_tmp (av_fs 0 rfl))⟩,
    .inl ⟨wants_plain rfl, does_box _ rfl rfl rfl rfl rfl (ar_tmp (av_fs 1 rfl))⟩,
    .inl ⟨wants_plain rfl, does_alloc ty_zero_api_Frac rfl rfl rfl rfl rfl z_frac⟩,
    trivial⟩ ?_
  refine nx_sub (fs' := [.box 2 26 [Bz p, Dz p, Bz q, Dz q], .box 3 26 [Bz r, Dz r, Bz s, Dz s], .box 4 26 [Bz 0, Dz 0, Bz 0, Dz 0]]) [2, 3, 4] rfl ?_
  refine nx_then ?_
  refine t_seq ?_
  refine t_region (F := ⟨_, _, _, _⟩) [.box 2 26 [Bz p, Dz p, Bz q, Dz q], .box 3 26 [Bz r, Dz r, Bz s, Dz s], .box 4 26 [Bz 0, Dz 0, Bz 0, Dz 0]] [] [(0, .slot 9 (VP.agg [Bz p, Dz p, Bz q, Dz q])), (1, .slot 10 (VP.agg [Bz r, Dz r, Bz s, Dz s])), (2, .slot 11 (VP.tup [INT (p * (und s)), INT (r * (und q)), INT ((und q) * (und s))])), (3, .slot 8 (VP.tup [INT (p * (und s)), INT (r * (und q)), INT ((und q) * (und s))])), (4, .slot 12 (INT (p * (und s)))), (5, .slot 13 (INT (r * (und q)))), (6, .slot 14 (INT ((und q) * (und s)))), (7, .own 5 24 2), (8, .own 6 24 2), (9, .own 7 24 2), (10, .box 5 24 [Bz (p * (und s)), Dz (p * (und s))]), (11, .box 6 24 [Bz (r * (und q)), Dz (r * (und q))]), (12, .box 7 24 [Bz ((und q) * (und s)), Dz ((und q) * (und s))])] [] [0, 1, 2] [] rfl rfl follow rfl ⟨
    .inl ⟨wants_plain rfl, does_loadAgg _ ty_agg_api_Frac rfl rfl rfl rfl rfl rfl (pt_box (av_fs 0 rfl)) (av_fs 0 rfl)⟩,
    .inl ⟨wants_plain rfl, does_loadAgg _ ty_agg_api_Frac rfl rfl rfl rfl rfl rfl (pt_box (av_fs 1 rfl)) (av_fs 1 rfl)⟩,
    .inl ⟨wants_plain rfl, does_call (f_cross p q r s hp hq hr hs) rfl hb_collator_frac_cross rfl rfl rfl rfl ⟨(ar_tmp (av_rs 0 rfl rfl)), (ar_tmp (av_rs 1 rfl rfl)), trivial⟩⟩,
    .inl ⟨wants_plain rfl, does_move _ (.inl rfl) rfl rfl rfl rfl (ar_tmp (av_rs 2 rfl rfl))⟩,
    .inl ⟨wants_plain rfl, does_extract (ps := [INT (p * (und s)), INT (r * (und q)), INT ((und q) * (und s))]) _ _ rfl rfl rfl rfl rfl (ar_tmp (av_rs 3 rfl rfl)) rfl⟩,
    .inl ⟨wants_plain rfl, does_extract (ps := [INT (p * (und s)), INT (r * (und q)), INT ((und q) * (und s))]) _ _ rfl rfl rfl rfl rfl (ar_tmp (av_rs 3 rfl rfl)) rfl⟩,
    .inl ⟨wants_plain rfl, does_extract (ps := [INT (p * (und s)), INT (r * (und q)), INT ((und q) * (und s))]) _ _ rfl rfl rfl rfl rfl (ar_tmp (av_rs 3 rfl rfl)) rfl⟩,
    .inl ⟨wants_plain rfl, does_allocOwn [Bz 0, Dz 0] ty_zero_api_Int rfl rfl rfl rfl rfl z_int rfl⟩,
    .inl ⟨wants_plain rfl, does_allocOwn [Bz 0, Dz 0] ty_zero_api_Int rfl rfl rfl rfl rfl z_int rfl⟩,
    .inl ⟨wants_plain rfl, does_allocOwn [Bz 0, Dz 0] ty_zero_api_Int rfl rfl rfl rfl rfl z_int rfl⟩,
    .inl ⟨wants_plain rfl, does_storeNew 2 _ _ ty_agg_api_Int rfl rfl rfl rfl rfl (pt_own (av_rs 7 rfl rfl)) (av_rs 7 rfl rfl) (ar_tmp (av_rs 4 rfl rfl))⟩,
    .inl ⟨wants_plain rfl, does_storeNew 2 _ _ ty_agg_api_Int rfl rfl rfl rfl rfl (pt_own (av_rs 8 rfl rfl)) (av_rs 8 rfl rfl) (ar_tmp (av_rs 5 rfl rfl))⟩,
    .inl ⟨wants_plain rfl, does_storeNew 2 _ _ ty_agg_api_Int rfl rfl rfl rfl rfl (pt_own (av_rs 9 rfl rfl)) (av_rs 9 rfl rfl) (ar_tmp (av_rs 6 rfl rfl))⟩,
    trivial⟩ ?_
  refine nx_sub (fs' := [.box 4 26 [Bz 0, Dz 0, Bz 0, Dz 0], .box 5 24 [Bz (p * (und s)), Dz (p * (und s))], .box 6 24 [Bz (r * (und q)), Dz (r * (und q))]]) [2, 13, 14] rfl ?_
  refine nx_then ?_
  refine t_seq ?_
  refine t_region (F := ⟨_, _, _, _⟩) [.box 5 24 [Bz (p * (und s)), Dz (p * (und s))], .box 6 24 [Bz (r * (und q)), Dz (r * (und q))]] [(3, .box 4 26 [Bz 0, Dz 0, Bz 0, Dz 0])] [(0, .slot 15 (INT (p * (und s)))), (1, .slot 16 (INT (r * (und q)))), (2, .slot 17 (VP.agg [Bz (mkO (p * (und s)) (r * (und q))), Dz (mkO (p * (und s)) (r * (und q))), Bz (mkU (p * (und s)) (r * (und q))), Dz (mkU (p * (und s)) (r * (und q)))])), (3, .box 4 26 [Bz (mkO (p * (und s)) (r * (und q))), Dz (mkO (p * (und s)) (r * (und q))), Bz (mkU (p * (und s)) (r * (und q))), Dz (mkU (p * (und s)) (r * (und q)))])] [] [1, 2] [0] rfl rfl follow rfl ⟨
    .inl ⟨wants_plain rfl, does_loadAgg _ ty_agg_api_Int rfl rfl rfl rfl rfl rfl (pt_box (av_fs 0 rfl)) (av_fs 0 rfl)⟩,
    .inl ⟨wants_plain rfl, does_loadAgg _ ty_agg_api_Int rfl rfl rfl rfl rfl rfl (pt_box (av_fs 1 rfl)) (av_fs 1 rfl)⟩,
    .inl ⟨wants_plain rfl, does_call (f_make (p * (und s)) (r * (und q)) (lle (lmul hp (lund hs (by decide))) (by decide)) (lle (lmul hr (lund hq (by decide))) (by decide))) rfl hb_collator_frac_Make rfl rfl rfl rfl ⟨(ar_tmp (av_rs 0 rfl rfl)), (ar_tmp (av_rs 1 rfl rfl)), trivial⟩⟩,
    .inl ⟨wants_plain rfl, does_storeAgg 4 _ _ ty_agg_api_Frac rfl rfl rfl rfl rfl (pt_box (av_os 0 rfl rfl)) (av_os 0 rfl rfl) (ar_tmp (av_rs 2 rfl rfl))⟩,
    trivial⟩ ?_
  refine nx_sub (fs' := [.box 4 26 [Bz (mkO (p * (und s)) (r * (und q))), Dz (mkO (p * (und s)) (r * (und q))), Bz (mkU (p * (und s)) (r * (und q))), Dz (mkU (p * (und s)) (r * (und q)))]]) [5] rfl ?_
  refine nx_then ?_
  refine t_ret ?_
  exact rt_one rfl (res_agg 0 ty_agg_api_Frac rfl)
set_option maxRecDepth 100000 in
set_option maxHeartbeats 4000000 in
theorem f_neg (p q : Int) (hp : L p ≤ 1000) (hq : L q ≤ 1000) : Spec Try.prog 20 [(VP.agg [Bz p, Dz p, Bz q, Dz q]).p] (VP.agg [Bz (mkO (-p) (und q)), Dz (mkO (-p) (und q)), Bz (mkU (-p) (und q)), Dz (mkU (-p) (und q))]) := by
  refine spec_of (xs := [VP.agg [Bz p, Dz p, Bz q, Dz q]]) 9 [1, 2] Try.func20 rfl Try.ntmps20 rfl fun w0 => ?_
  refine t_seq ?_
  refine t_region (F := ⟨_, _, _, _⟩) [.slot 0 (VP.agg [Bz p, Dz p, Bz q, Dz q])] [] [(0, .box 1 26 [Bz p, Dz p, Bz q, Dz q]), (1, .box 2 26 [Bz 0, Dz 0, Bz 0, Dz 0])] [] [0] [] rfl rfl follow rfl ⟨
    .inl ⟨wants_plain rfl, does_box _ rfl rfl rfl rfl rfl (ar_tmp (av_fs 0 rfl))⟩,
    .inl ⟨wants_plain rfl, does_alloc ty_zero_api_Frac rfl rfl rfl rfl rfl z_frac⟩,
    trivial⟩ ?_
  refine nx_sub (fs' := [.box 1 26 [Bz p, Dz p, Bz q, Dz q], .box 2 26 [Bz 0, Dz 0, Bz 0, Dz 0]]) [1, 2] rfl ?_
  refine nx_then ?_
  refine t_seq ?_
  refine t_region (F := ⟨_, _, _, _⟩) [.box 1 26 [Bz p, Dz p, Bz q, Dz q]] [(6, .box 2 26 [Bz 0, Dz 0, Bz 0, Dz 0])] [(0, .fp 3 1 0), (1, .slot 4 (INT p)), (2, .slot 5 (INT (-p))), (3, .slot 6 (VP.agg [Bz p, Dz p, Bz q, Dz q])), (4, .slot 7 (INT (und q))), (5, .slot 8 (VP.agg [Bz (mkO (-p) (und q)), Dz (mkO (-p) (und q)), Bz (mkU (-p) (und q)), Dz (mkU (-p) (und q))])), (6, .box 2 26 [Bz (mkO (-p) (und q)), Dz (mkO (-p) (und q)), Bz (mkU (-p) (und q)), Dz (mkU (-p) (und q))])] [] [0] [1] rfl rfl follow rfl ⟨
    .inl ⟨wants_plain rfl, does_field _ _ _ 0 ty_f0_api_Frac rfl rfl rfl rfl rfl rfl rfl (pt_box (av_fs 0 rfl))⟩,
    .inl ⟨wants_plain rfl, does_loadAgg _ ty_agg_api_Int rfl rfl rfl rfl rfl rfl (pt_fp (av_rs 0 rfl rfl)) (av_fs 0 rfl)⟩,
    .inl ⟨wants_plain rfl, does_call (s_neg p (lle hp (by decide))) rfl hb_collator_whole_Neg rfl rfl rfl rfl ⟨(ar_tmp (av_rs 1 rfl rfl)), trivial⟩⟩,
    .inl ⟨wants_plain rfl, does_loadAgg _ ty_agg_api_Frac rfl rfl rfl rfl rfl rfl (pt_box (av_fs 0 rfl)) (av_fs 0 rfl)⟩,
    .inl ⟨wants_plain rfl, does_call (f_under p q hp hq) rfl hb_collator_frac_under rfl rfl rfl rfl ⟨(ar_tmp (av_rs 3 rfl rfl)), trivial⟩⟩,
    .inl ⟨wants_plain rfl, does_call (f_make (-p) (und q) (lle (lneg hp) (by decide)) (lle (lund hq (by decide)) (by decide))) rfl hb_collator_frac_Make rfl rfl rfl rfl ⟨(ar_tmp (av_rs 2 rfl rfl)), (ar_tmp (av_rs 4 rfl rfl)), trivial⟩⟩,
    .inl ⟨wants_plain rfl, does_storeAgg 4 _ _ ty_agg_api_Frac rfl rfl rfl rfl rfl (pt_box (av_os 0 rfl rfl)) (av_os 0 rfl rfl) (ar_tmp (av_rs 5 rfl rfl))⟩,
    trivial⟩ ?_
  refine nx_sub (fs' := [.box 2 26 [Bz (mkO (-p) (und q)), Dz (mkO (-p) (und q)), Bz (mkU (-p) (und q)), Dz (mkU (-p) (und q))]]) [7] rfl ?_
  refine nx_then ?_
  refine t_ret ?_
  exact rt_one rfl (res_agg 0 ty_agg_api_Frac rfl)
set_option maxRecDepth 100000 in
set_option maxHeartbeats 4000000 in
theorem f_cmp (p q r s : Int) (hp : L p ≤ 1000) (hq : L q ≤ 1000) (hr : L r ≤ 1000) (hs : L s ≤ 1000) : Spec Try.prog 24 [(VP.agg [Bz p, Dz p, Bz q, Dz q]).p, (VP.agg [Bz r, Dz r, Bz s, Dz s]).p] (VP.int .i64 (cmpZ (p * (und s)) (r * (und q)))) := by
  refine spec_of (xs := [VP.agg [Bz p, Dz p, Bz q, Dz q], VP.agg [Bz r, Dz r, Bz s, Dz s]]) 18 [2, 3, 5, 6, 7] Try.func24 rfl Try.ntmps24 rfl fun w0 => ?_
  refine t_seq ?_
  refine t_region (F := ⟨_, _, _, _⟩) [.slot 0 (VP.agg [Bz p, Dz p, Bz q, Dz q]), .slot 1 (VP.agg [Bz r, Dz r, Bz s, Dz s])] [] [(0, .box 2 26 [Bz p, Dz p, Bz q, Dz q]), (1, .box 3 26 [Bz r, Dz r, Bz s, Dz s]), (2, .slot 4 (VP.int .i64 0))] [] [0, 1] [] rfl rfl follow rfl ⟨
    .inl ⟨wants_plain rfl, does_box _ rfl rfl rfl rfl rfl (ar_tmp (av_fs 0 rfl))⟩,
    .inl ⟨wants_plain rfl, does_box _ rfl rfl rfl rfl rfl (ar_tmp (av_fs 1 rfl))⟩,
    .inl ⟨wants_plain rfl, does_move _ (.inr rfl) rfl rfl rfl rfl (ar_const (fun _ => rfl))⟩,
    trivial⟩ ?_
  refine nx_sub (fs' := [.box 2 26 [Bz p, Dz p, Bz q, Dz q], .box 3 26 [Bz r, Dz r, Bz s, Dz s], .slot 4 (VP.int .i64 0)]) [2, 3, 4] rfl ?_
  refine nx_then ?_
  refine t_seq ?_
  refine t_region (F := ⟨_, _, _, _⟩) [.box 2 26 [Bz p, Dz p, Bz q, Dz q], .box 3 26 [Bz r, Dz r, Bz s, Dz s], .slot 4 (VP.int .i64 0)] [] [(0, .slot 9 (VP.agg [Bz p, Dz p, Bz q, Dz q])), (1, .slot 10 (VP.agg [Bz r, Dz r, Bz s, Dz s])), (2, .slot 11 (VP.tup [INT (p * (und s)), INT (r * (und q)), INT ((und q) * (und s))])), (3, .slot 8 (VP.tup [INT (p * (und s)), INT (r * (und q)), INT ((und q) * (und s))])), (4, .slot 12 (INT (p * (und s)))), (5, .slot 13 (INT (r * (und q)))), (6, .slot 14 (INT ((und q) * (und s)))), (7, .own 5 24 2), (8, .own 6 24 2), (9, .own 7 24 2), (10, .box 5 24 [Bz (p * (und s)), Dz (p * (und s))]), (11, .box 6 24 [Bz (r * (und q)), Dz (r * (und q))]), (12, .box 7 24 [Bz ((und q) * (und s)), Dz ((und q) * (und s))])] [] [0, 1, 2] [] rfl rfl follow rfl ⟨
    .inl ⟨wants_plain rfl, does_loadAgg _ ty_agg_api_Frac rfl rfl rfl rfl rfl rfl (pt_box (av_fs 0 rfl)) (av_fs 0 rfl)⟩,
    .inl ⟨wants_plain rfl, does_loadAgg _ ty_agg_api_Frac rfl rfl rfl rfl rfl rfl (pt_box (av_fs 1 rfl)) (av_fs 1 rfl)⟩,
    .inl ⟨wants_plain rfl, does_call (f_cross p q r s hp hq hr hs) rfl hb_collator_frac_cross rfl rfl rfl rfl ⟨(ar_tmp (av_rs 0 rfl rfl)), (ar_tmp (av_rs 1 rfl rfl)), trivial⟩⟩,
    .inl ⟨wants_plain rfl, does_move _ (.inl rfl) rfl rfl rfl rfl (ar_tmp (av_rs 2 rfl rfl))⟩,
    .inl ⟨wants_plain rfl, does_extract (ps := [INT (p * (und s)), INT (r * (und q)), INT ((und q) * (und s))]) _ _ rfl rfl rfl rfl rfl (ar_tmp (av_rs 3 rfl rfl)) rfl⟩,
    .inl ⟨wants_plain rfl, does_extract (ps := [INT (p * (und s)), INT (r * (und q)), INT ((und q) * (und s))]) _ _ rfl rfl rfl rfl rfl (ar_tmp (av_rs 3 rfl rfl)) rfl⟩,
    .inl ⟨wants_plain rfl, does_extract (ps := [INT (p * (und s)), INT (r * (und q)), INT ((und q) * (und s))]) _ _ rfl rfl rfl rfl rfl (ar_tmp (av_rs 3 rfl rfl)) rfl⟩,
    .inl ⟨wants_plain rfl, does_allocOwn [Bz 0, Dz 0] ty_zero_api_Int rfl rfl rfl rfl rfl z_int rfl⟩,
    .inl ⟨wants_plain rfl, does_allocOwn [Bz 0, Dz 0] ty_zero_api_Int rfl rfl rfl rfl rfl z_int rfl⟩,
    .inl ⟨wants_plain rfl, does_allocOwn [Bz 0, Dz 0] ty_zero_api_Int rfl rfl rfl rfl rfl z_int rfl⟩,
    .inl ⟨wants_plain rfl, does_storeNew 2 _ _ ty_agg_api_Int rfl rfl rfl rfl rfl (pt_own (av_rs 7 rfl rfl)) (av_rs 7 rfl rfl) (ar_tmp (av_rs 4 rfl rfl))⟩,
    .inl ⟨wants_plain rfl, does_storeNew 2 _ _ ty_agg_api_Int rfl rfl rfl rfl rfl (pt_own (av_rs 8 rfl rfl)) (av_rs 8 rfl rfl) (ar_tmp (av_rs 5 rfl rfl))⟩,
    .inl ⟨wants_plain rfl, does_storeNew 2 _ _ ty_agg_api_Int rfl rfl rfl rfl rfl (pt_own (av_rs 9 rfl rfl)) (av_rs 9 rfl rfl) (ar_tmp (av_rs 6 rfl rfl))⟩,
    trivial⟩ ?_
  refine nx_sub (fs' := [.slot 4 (VP.int .i64 0), .box 5 24 [Bz (p * (und s)), Dz (p * (und s))], .box 6 24 [Bz (r * (und q)), Dz (r * (und q))]]) [2, 13, 14] rfl ?_
  refine nx_then ?_
  refine t_seq ?_
  refine t_region (F := ⟨_, _, _, _⟩) [.box 5 24 [Bz (p * (und s)), Dz (p * (und s))], .box 6 24 [Bz (r * (und q)), Dz (r * (und q))]] [(3, .slot 4 (VP.int .i64 0))] [(0, .slot 15 (INT (p * (und s)))), (1, .slot 16 (INT (r * (und q)))), (2, .slot 17 (VP.int .i64 (cmpZ (p * (und s)) (r * (und q))))), (3, .slot 4 (VP.int .i64 (cmpZ (p * (und s)) (r * (und q)))))] [] [1, 2] [0] rfl rfl follow rfl ⟨
    .inl ⟨wants_plain rfl, does_loadAgg _ ty_agg_api_Int rfl rfl rfl rfl rfl rfl (pt_box (av_fs 0 rfl)) (av_fs 0 rfl)⟩,
    .inl ⟨wants_plain rfl, does_loadAgg _ ty_agg_api_Int rfl rfl rfl rfl rfl rfl (pt_box (av_fs 1 rfl)) (av_fs 1 rfl)⟩,
    .inl ⟨wants_plain rfl, does_call (s_cmp (p * (und s)) (r * (und q)) (lle (lmul hp (lund hs (by decide))) (by decide)) (lle (lmul hr (lund hq (by decide))) (by decide))) rfl hb_collator_whole_Cmp rfl rfl rfl rfl ⟨(ar_tmp (av_rs 0 rfl rfl)), (ar_tmp (av_rs 1 rfl rfl)), trivial⟩⟩,
    .inl ⟨wants_plain rfl, does_move _ (.inr rfl) rfl rfl rfl rfl (ar_tmp (av_rs 2 rfl rfl))⟩,
    trivial⟩ ?_
  refine nx_sub (fs' := [.slot 4 (VP.int .i64 (cmpZ (p * (und s)) (r * (und q))))]) [5] rfl ?_
  refine nx_then ?_
  refine t_ret ?_
  exact rt_one rfl (res_tmp 0 rfl)
set_option maxRecDepth 100000 in
set_option maxHeartbeats 4000000 in
theorem f_floor (p q : Int) (hp : L p ≤ 1000) (hq : L q ≤ 1000) : Spec Try.prog 22 [(VP.agg [Bz p, Dz p, Bz q, Dz q]).p] (VP.tup [INT (divZ p (und q)), VP.bool (decide ((modZ p (und q)) = 0))]) := by
  refine spec_of (xs := [VP.agg [Bz p, Dz p, Bz q, Dz q]]) 17 [1, 2, 4, 5] Try.func22 rfl Try.ntmps22 rfl fun w0 => ?_
  refine t_seq ?_
  refine t_region (F := ⟨_, _, _, _⟩) [.slot 0 (VP.agg [Bz p, Dz p, Bz q, Dz q])] [] [(0, .box 1 26 [Bz p, Dz p, Bz q, Dz q]), (1, .box 2 24 [Bz 0, Dz 0]), (2, .slot 3 (VP.bool false))] [] [0] [] rfl rfl follow rfl ⟨
    .inl ⟨wants_plain rfl, does_box _ rfl rfl rfl rfl rfl (ar_tmp (av_fs 0 rfl))⟩,
    .inl ⟨wants_plain rfl, does_alloc ty_zero_api_Int rfl rfl rfl rfl rfl z_int⟩,
    .inl ⟨wants_plain rfl, does_move _ (.inr rfl) rfl rfl rfl rfl (ar_const (fun _ => rfl))⟩,
    trivial⟩ ?_
  refine nx_sub (fs' := [.box 1 26 [Bz p, Dz p, Bz q, Dz q], .box 2 24 [Bz 0, Dz 0], .slot 3 (VP.bool false)]) [1, 2, 3] rfl ?_
  refine nx_then ?_
  refine t_seq ?_
  refine t_region (F := ⟨_, _, _, _⟩) [.box 1 26 [Bz p, Dz p, Bz q, Dz q], .box 2 24 [Bz 0, Dz 0], .slot 3 (VP.bool false)] [] [(0, .fp 7 1 0), (1, .slot 8 (INT p)), (2, .slot 9 (VP.agg [Bz p, Dz p, Bz q, Dz q])), (3, .slot 10 (INT (und q))), (4, .slot 11 (VP.tup [INT (divZ p (und q)), INT (modZ p (und q))])), (5, .slot 6 (VP.tup [INT (divZ p (und q)), INT (modZ p (und q))])), (6, .slot 12 (INT (divZ p (und q)))), (7, .slot 13 (INT (modZ p (und q)))), (8, .own 4 24 2), (9, .own 5 24 2), (10, .box 4 24 [Bz (divZ p (und q)), Dz (divZ p (und q))]), (11, .box 5 24 [Bz (modZ p (und q)), Dz (modZ p (und q))])] [] [0, 1, 2] [] rfl rfl follow rfl ⟨
    .inl ⟨wants_plain rfl, does_field _ _ _ 0 ty_f0_api_Frac rfl rfl rfl rfl rfl rfl rfl (pt_box (av_fs 0 rfl))⟩,
    .inl ⟨wants_plain rfl, does_loadAgg _ ty_agg_api_Int rfl rfl rfl rfl rfl rfl (pt_fp (av_rs 0 rfl rfl)) (av_fs 0 rfl)⟩,
    .inl ⟨wants_plain rfl, does_loadAgg _ ty_agg_api_Frac rfl rfl rfl rfl rfl rfl (pt_box (av_fs 0 rfl)) (av_fs 0 rfl)⟩,
    .inl ⟨wants_plain rfl, does_call (f_under p q hp hq) rfl hb_collator_frac_under rfl rfl rfl rfl ⟨(ar_tmp (av_rs 2 rfl rfl)), trivial⟩⟩,
    .inl ⟨wants_plain rfl, does_call (s_div p (und q) (lle hp (by decide)) (lle (lund hq (by decide)) (by decide))) rfl hb_collator_whole_Div rfl rfl rfl rfl ⟨(ar_tmp (av_rs 1 rfl rfl)), (ar_tmp (av_rs 3 rfl rfl)), trivial⟩⟩,
    .inl ⟨wants_plain rfl, does_move _ (.inl rfl) rfl rfl rfl rfl (ar_tmp (av_rs 4 rfl rfl))⟩,
    .inl ⟨wants_plain rfl, does_extract (ps := [INT (divZ p (und q)), INT (modZ p (und q))]) _ _ rfl rfl rfl rfl rfl (ar_tmp (av_rs 5 rfl rfl)) rfl⟩,
    .inl ⟨wants_plain rfl, does_extract (ps := [INT (divZ p (und q)), INT (modZ p (und q))]) _ _ rfl rfl rfl rfl rfl (ar_tmp (av_rs 5 rfl rfl)) rfl⟩,
    .inl ⟨wants_plain rfl, does_allocOwn [Bz 0, Dz 0] ty_zero_api_Int rfl rfl rfl rfl rfl z_int rfl⟩,
    .inl ⟨wants_plain rfl, does_allocOwn [Bz 0, Dz 0] ty_zero_api_Int rfl rfl rfl rfl rfl z_int rfl⟩,
    .inl ⟨wants_plain rfl, does_storeNew 2 _ _ ty_agg_api_Int rfl rfl rfl rfl rfl (pt_own (av_rs 8 rfl rfl)) (av_rs 8 rfl rfl) (ar_tmp (av_rs 6 rfl rfl))⟩,
    .inl ⟨wants_plain rfl, does_storeNew 2 _ _ ty_agg_api_Int rfl rfl rfl rfl rfl (pt_own (av_rs 9 rfl rfl)) (av_rs 9 rfl rfl) (ar_tmp (av_rs 7 rfl rfl))⟩,
    trivial⟩ ?_
  refine nx_sub (fs' := [.box 2 24 [Bz 0, Dz 0], .slot 3 (VP.bool false), .box 4 24 [Bz (divZ p (und q)), Dz (divZ p (und q))], .box 5 24 [Bz (modZ p (und q)), Dz (modZ p (und q))]]) [1, 2, 13, 14] rfl ?_
  refine nx_then ?_
  refine t_seq ?_
  refine t_region (F := ⟨_, _, _, _⟩) [.box 4 24 [Bz (divZ p (und q)), Dz (divZ p (und q))], .box 5 24 [Bz (modZ p (und q)), Dz (modZ p (und q))]] [(3, .box 2 24 [Bz 0, Dz 0]), (4, .slot 3 (VP.bool false))] [(0, .slot 14 (INT (divZ p (und q)))), (1, .slot 15 (INT (modZ p (und q)))), (2, .slot 16 (VP.bool (decide ((modZ p (und q)) = 0)))), (3, .box 2 24 [Bz (divZ p (und q)), Dz (divZ p (und q))]), (4, .slot 3 (VP.bool (decide ((modZ p (und q)) = 0))))] [] [2, 3] [0, 1] rfl rfl follow rfl ⟨
    .inl ⟨wants_plain rfl, does_loadAgg _ ty_agg_api_Int rfl rfl rfl rfl rfl rfl (pt_box (av_fs 0 rfl)) (av_fs 0 rfl)⟩,
    .inl ⟨wants_plain rfl, does_loadAgg _ ty_agg_api_Int rfl rfl rfl rfl rfl rfl (pt_box (av_fs 1 rfl)) (av_fs 1 rfl)⟩,
    .inl ⟨wants_plain rfl, does_call (f_zero (modZ p (und q))) rfl hb_collator_frac_zero rfl rfl rfl rfl ⟨(ar_tmp (av_rs 1 rfl rfl)), trivial⟩⟩,
    .inl ⟨wants_plain rfl, does_storeAgg 2 _ _ ty_agg_api_Int rfl rfl rfl rfl rfl (pt_box (av_os 0 rfl rfl)) (av_os 0 rfl rfl) (ar_tmp (av_rs 0 rfl rfl))⟩,
    .inl ⟨wants_plain rfl, does_move _ (.inr rfl) rfl rfl rfl rfl (ar_tmp (av_rs 2 rfl rfl))⟩,
    trivial⟩ ?_
  refine nx_sub (fs' := [.box 2 24 [Bz (divZ p (und q)), Dz (divZ p (und q))], .slot 3 (VP.bool (decide ((modZ p (und q)) = 0)))]) [5, 6] rfl ?_
  refine nx_then ?_
  refine t_ret ?_
  exact rt_two rfl (res_agg 0 ty_agg_api_Int rfl) (res_tmp 1 rfl)
set_option maxRecDepth 100000 in
set_option maxHeartbeats 4000000 in
theorem f_text1 (p q : Int) (hp : L p ≤ 1000) (hq : L q ≤ 1000) (h : q = 0) : Spec Try.prog 71 [(VP.agg [Bz p, Dz p, Bz q, Dz q]).p] (VP.str (txt p)) := by
  refine spec_of (xs := [VP.agg [Bz p, Dz p, Bz q, Dz q]]) 17 [1] Try.func71 rfl Try.ntmps71 rfl fun w0 => ?_
  refine t_seq ?_
  refine t_region (F := ⟨_, _, _, _⟩) [.slot 0 (VP.agg [Bz p, Dz p, Bz q, Dz q])] [] [(0, .box 1 26 [Bz p, Dz p, Bz q, Dz q]), (1, .slot 2 (VP.str (ByteArray.mk #[])))] [] [0] [] rfl rfl follow rfl ⟨
    .inl ⟨wants_plain rfl, does_box _ rfl rfl rfl rfl rfl (ar_tmp (av_fs 0 rfl))⟩,
    .inl ⟨wants_plain rfl, does_move _ (.inr rfl) rfl rfl rfl rfl (ar_const (fun _ => rfl))⟩,
    trivial⟩ ?_
  refine nx_sub (fs' := [.box 1 26 [Bz p, Dz p, Bz q, Dz q], .slot 2 (VP.str (ByteArray.mk #[]))]) [1, 2] rfl ?_
  refine nx_then ?_
  refine t_seq ?_
  refine t_seq ?_
  refine t_region (F := ⟨_, _, _, _⟩) [.box 1 26 [Bz p, Dz p, Bz q, Dz q], .slot 2 (VP.str (ByteArray.mk #[]))] [] [(0, .fp 3 1 2), (1, .slot 4 (INT q)), (2, .slot 5 (VP.bool (decide (q = 0))))] [] [0, 1] [] rfl rfl follow rfl ⟨
    .inl ⟨wants_plain rfl, does_field _ _ _ 2 ty_f1_api_Frac rfl rfl rfl rfl rfl rfl rfl (pt_box (av_fs 0 rfl))⟩,
    .inl ⟨wants_plain rfl, does_loadAgg _ ty_agg_api_Int rfl rfl rfl rfl rfl rfl (pt_fp (av_rs 0 rfl rfl)) (av_fs 0 rfl)⟩,
    .inl ⟨wants_plain rfl, does_call (f_zero q) rfl hb_collator_frac_zero rfl rfl rfl rfl ⟨(ar_tmp (av_rs 1 rfl rfl)), trivial⟩⟩,
    trivial⟩ ?_
  refine nx_sub (fs' := [.box 1 26 [Bz p, Dz p, Bz q, Dz q], .slot 2 (VP.str (ByteArray.mk #[])), .slot 5 (VP.bool (decide (q = 0)))]) [0, 1, 4] rfl ?_
  refine nx_then ?_
  refine t_cond_te 2 rfl (decide_eq_true h) ?_
  refine t_seq ?_
  refine t_region (F := ⟨_, _, _, _⟩) [.box 1 26 [Bz p, Dz p, Bz q, Dz q], .slot 5 (VP.bool (decide (q = 0)))] [(3, .slot 2 (VP.str (ByteArray.mk #[])))] [(0, .fp 6 1 0), (1, .slot 7 (INT p)), (2, .slot 8 (VP.str (txt p))), (3, .slot 2 (VP.str (txt p)))] [] [0, 2] [1] rfl rfl follow rfl ⟨
    .inl ⟨wants_plain rfl, does_field _ _ _ 0 ty_f0_api_Frac rfl rfl rfl rfl rfl rfl rfl (pt_box (av_fs 0 rfl))⟩,
    .inl ⟨wants_plain rfl, does_loadAgg _ ty_agg_api_Int rfl rfl rfl rfl rfl rfl (pt_fp (av_rs 0 rfl rfl)) (av_fs 0 rfl)⟩,
    .inl ⟨wants_plain rfl, does_call (s_text p (lle hp (by decide))) rfl hb_collator_whole_Text rfl rfl rfl rfl ⟨(ar_tmp (av_rs 1 rfl rfl)), trivial⟩⟩,
    .inl ⟨wants_plain rfl, does_move _ (.inr rfl) rfl rfl rfl rfl (ar_tmp (av_rs 2 rfl rfl))⟩,
    trivial⟩ ?_
  refine nx_sub (fs' := [.box 1 26 [Bz p, Dz p, Bz q, Dz q], .slot 2 (VP.str (txt p))]) [0, 5] rfl ?_
  refine nx_then ?_
  refine t_ret ?_
  refine rt_then ?_
  exact rt_one rfl (res_tmp 1 rfl)
set_option maxRecDepth 100000 in
set_option maxHeartbeats 4000000 in
theorem f_text2 (p q : Int) (hp : L p ≤ 1000) (hq : L q ≤ 1000) (h : q ≠ 0) : Spec Try.prog 71 [(VP.agg [Bz p, Dz p, Bz q, Dz q]).p] (VP.str (((txt p) ++ (ByteArray.mk #[47])) ++ (txt q))) := by
  refine spec_of (xs := [VP.agg [Bz p, Dz p, Bz q, Dz q]]) 17 [1] Try.func71 rfl Try.ntmps71 rfl fun w0 => ?_
  refine t_seq ?_
  refine t_region (F := ⟨_, _, _, _⟩) [.slot 0 (VP.agg [Bz p, Dz p, Bz q, Dz q])] [] [(0, .box 1 26 [Bz p, Dz p, Bz q, Dz q]), (1, .slot 2 (VP.str (ByteArray.mk #[])))] [] [0] [] rfl rfl follow rfl ⟨
    .inl ⟨wants_plain rfl, does_box _ rfl rfl rfl rfl rfl (ar_tmp (av_fs 0 rfl))⟩,
    .inl ⟨wants_plain rfl, does_move _ (.inr rfl) rfl rfl rfl rfl (ar_const (fun _ => rfl))⟩,
    trivial⟩ ?_
  refine nx_sub (fs' := [.box 1 26 [Bz p, Dz p, Bz q, Dz q], .slot 2 (VP.str (ByteArray.mk #[]))]) [1, 2] rfl ?_
  refine nx_then ?_
  refine t_seq ?_
  refine t_seq ?_
  refine t_region (F := ⟨_, _, _, _⟩) [.box 1 26 [Bz p, Dz p, Bz q, Dz q], .slot 2 (VP.str (ByteArray.mk #[]))] [] [(0, .fp 3 1 2), (1, .slot 4 (INT q)), (2, .slot 5 (VP.bool (decide (q = 0))))] [] [0, 1] [] rfl rfl follow rfl ⟨
    .inl ⟨wants_plain rfl, does_field _ _ _ 2 ty_f1_api_Frac rfl rfl rfl rfl rfl rfl rfl (pt_box (av_fs 0 rfl))⟩,
    .inl ⟨wants_plain rfl, does_loadAgg _ ty_agg_api_Int rfl rfl rfl rfl rfl rfl (pt_fp (av_rs 0 rfl rfl)) (av_fs 0 rfl)⟩,
    .inl ⟨wants_plain rfl, does_call (f_zero q) rfl hb_collator_frac_zero rfl rfl rfl rfl ⟨(ar_tmp (av_rs 1 rfl rfl)), trivial⟩⟩,
    trivial⟩ ?_
  refine nx_sub (fs' := [.box 1 26 [Bz p, Dz p, Bz q, Dz q], .slot 2 (VP.str (ByteArray.mk #[])), .slot 5 (VP.bool (decide (q = 0)))]) [0, 1, 4] rfl ?_
  refine nx_then ?_
  refine t_cond_fe 2 rfl (decide_eq_false h) ?_
  refine t_skip ?_
  refine nx_then ?_
  refine t_seq ?_
  refine t_region (F := ⟨_, _, _, _⟩) [.box 1 26 [Bz p, Dz p, Bz q, Dz q], .slot 5 (VP.bool (decide (q = 0)))] [(8, .slot 2 (VP.str (ByteArray.mk #[])))] [(0, .fp 9 1 0), (1, .slot 10 (INT p)), (2, .slot 11 (VP.str (txt p))), (3, .slot 12 (VP.str ((txt p) ++ (ByteArray.mk #[47])))), (4, .fp 13 1 2), (5, .slot 14 (INT q)), (6, .slot 15 (VP.str (txt q))), (7, .slot 16 (VP.str (((txt p) ++ (ByteArray.mk #[47])) ++ (txt q)))), (8, .slot 2 (VP.str (((txt p) ++ (ByteArray.mk #[47])) ++ (txt q))))] [] [0, 2] [1] rfl rfl follow rfl ⟨
    .inl ⟨wants_plain rfl, does_field _ _ _ 0 ty_f0_api_Frac rfl rfl rfl rfl rfl rfl rfl (pt_box (av_fs 0 rfl))⟩,
    .inl ⟨wants_plain rfl, does_loadAgg _ ty_agg_api_Int rfl rfl rfl rfl rfl rfl (pt_fp (av_rs 0 rfl rfl)) (av_fs 0 rfl)⟩,
    .inl ⟨wants_plain rfl, does_call (s_text p (lle hp (by decide))) rfl hb_collator_whole_Text rfl rfl rfl rfl ⟨(ar_tmp (av_rs 1 rfl rfl)), trivial⟩⟩,
    .inl ⟨wants_plain rfl, does_cat (u := (txt p)) (v := (ByteArray.mk #[47])) _ _ _ _ rfl rfl rfl rfl rfl (cat1 hp) (ar_tmp (av_rs 2 rfl rfl)) (ar_const (fun _ => rfl))⟩,
    .inl ⟨wants_plain rfl, does_field _ _ _ 2 ty_f1_api_Frac rfl rfl rfl rfl rfl rfl rfl (pt_box (av_fs 0 rfl))⟩,
    .inl ⟨wants_plain rfl, does_loadAgg _ ty_agg_api_Int rfl rfl rfl rfl rfl rfl (pt_fp (av_rs 4 rfl rfl)) (av_fs 0 rfl)⟩,
    .inl ⟨wants_plain rfl, does_call (s_text q (lle hq (by decide))) rfl hb_collator_whole_Text rfl rfl rfl rfl ⟨(ar_tmp (av_rs 5 rfl rfl)), trivial⟩⟩,
    .inl ⟨wants_plain rfl, does_cat (u := ((txt p) ++ (ByteArray.mk #[47]))) (v := (txt q)) _ _ _ _ rfl rfl rfl rfl rfl (cat2 hp hq) (ar_tmp (av_rs 3 rfl rfl)) (ar_tmp (av_rs 6 rfl rfl))⟩,
    .inl ⟨wants_plain rfl, does_move _ (.inr rfl) rfl rfl rfl rfl (ar_tmp (av_rs 7 rfl rfl))⟩,
    trivial⟩ ?_
  refine nx_sub (fs' := [.slot 2 (VP.str (((txt p) ++ (ByteArray.mk #[47])) ++ (txt q)))]) [10] rfl ?_
  refine nx_then ?_
  refine t_ret ?_
  exact rt_one rfl (res_tmp 0 rfl)
theorem f_text (p q : Int) (hp : L p ≤ 1000) (hq : L q ≤ 1000) : Spec Try.prog 71 [(VP.agg [Bz p, Dz p, Bz q, Dz q]).p] (VP.str (ftxt p q)) := by
  by_cases h : q = 0
  · rw [show ftxt p q = txt p from if_pos h]; exact f_text1 p q hp hq h
  · rw [show ftxt p q = (((txt p) ++ (ByteArray.mk #[47])) ++ (txt q)) from if_neg h]; exact f_text2 p q hp hq h
end Go.Proofs.Ytmlnpagkabmmpaa

/- Fractions: what the reference's functions do, in the logic over slots and boxes. -/
namespace Go.Proofs.Ytmlnpagkabmmpaa
open Go.RowKit
/-- the reference's number over, of x through y -/
def rmO (x y : Int) : Int := if x = 0 ∨ y = 0 then 0 else if y < 0 then divZ (-x) (gcdZ (-x) (-y)) else divZ x (gcdZ x y)
def rmD (x y : Int) : Int := if x = 0 ∨ y = 0 then 1 else if y < 0 then divZ (-y) (gcdZ (-x) (-y)) else divZ y (gcdZ x y)
/-- 1 becomes 0 -/
def fU (q : Int) : Int := if q = 1 then 0 else q
theorem lrmO {x y : Int} {a : Nat} (h : L x ≤ a) : L (rmO x y) ≤ a := by
  unfold rmO; split
  · exact Nat.zero_le _
  · split
    · exact ldiv (lneg h)
    · exact ldiv h
theorem lrmD {x y : Int} {a : Nat} (h : L y ≤ a) (h1 : 1 ≤ a) : L (rmD x y) ≤ a := by
  unfold rmD; split
  · exact Nat.le_trans lone h1
  · split
    · exact ldiv (lneg h)
    · exact ldiv h
theorem lfU {q : Int} {a : Nat} (h : L q ≤ a) : L (fU q) ≤ a := by
  unfold fU; split
  · exact Nat.zero_le _
  · exact h
def rtxt (p q : Int) : ByteArray := if q = 1 then txt p else (((txt p) ++ (ByteArray.mk #[47])) ++ (txt q))
/-- may this fraction be? -/
def rightF (p q : Int) : Bool := !(decide (q < 0)) && decide (p = rmO p (und q) ∧ q = fU (rmD p (und q)))
theorem len10_isz (x : Int) : ((((dg 10 x.natAbs).length : Nat) : Int) == 0) = decide (x = 0) := by
  by_cases h : x = 0
  · rw [len10_yes h, decide_eq_true h]
  · rw [len10_no h, decide_eq_false h]
theorem cmp_one' {z : Int} (h : z = 1) : ((cmpZ z 1) != 0) = false := by subst h; rfl
theorem cmp_two' {z : Int} (h : z ≠ 1) : ((cmpZ z 1) != 0) = true := by
  have := cmp_two h
  rw [bne, this]; rfl
theorem r_right (x : Int) (h1 : L x ≤ 100000) : Spec Try.prog 139 [(INT x).p] (VP.bool true) :=
  spec1 fun v1 w p1 => by
    obtain ⟨a, c, rfl, i1⟩ := int_open p1
    have := rright_walk (decide (x < 0)) (dg BB x.natAbs) a c w (by unfold L at h1; omega) (fun d hd => Nat.lt_trans (dg_lt BB_gt hd) (by decide)) i1.2.2
    rw [int_right] at this
    exact this.mono fun e w' h => ⟨_, h.1, rfl, h.2⟩
set_option maxRecDepth 100000 in
set_option maxHeartbeats 4000000 in
theorem g_of1 (p q : Int) (hp : L p ≤ 1000) (hq : L q ≤ 1000) (h : q = 0) : Spec Try.prog 140 [(VP.agg [Bz p, Dz p, Bz q, Dz q]).p] (VP.agg [Bz p, Tz p, Bz 1, Tz 1]) := by
  refine spec_of (xs := [VP.agg [Bz p, Dz p, Bz q, Dz q]]) 19 [1, 2, 3] Try.func140 rfl Try.ntmps140 rfl fun w0 => ?_
  refine t_seq ?_
  refine t_region (F := ⟨_, _, _, _⟩) [.slot 0 (VP.agg [Bz p, Dz p, Bz q, Dz q])] [] [(0, .box 1 26 [Bz p, Dz p, Bz q, Dz q]), (1, .box 2 192 [Bz 0, Tz 0, Bz 0, Tz 0])] [] [0] [] rfl rfl follow rfl ⟨
    .inl ⟨wants_plain rfl, does_box _ rfl rfl rfl rfl rfl (ar_tmp (av_fs 0 rfl))⟩,
    .inl ⟨wants_plain rfl, does_alloc ty_zero_collatorref02_Frac rfl rfl rfl rfl rfl z_rfrac⟩,
    trivial⟩ ?_
  refine nx_sub (fs' := [.box 1 26 [Bz p, Dz p, Bz q, Dz q], .box 2 192 [Bz 0, Tz 0, Bz 0, Tz 0]]) [1, 2] rfl ?_
  refine nx_then ?_
  refine t_seq ?_
  refine t_region (F := ⟨_, _, _, _⟩) [.box 1 26 [Bz p, Dz p, Bz q, Dz q], .box 2 192 [Bz 0, Tz 0, Bz 0, Tz 0]] [] [(0, .fp 4 1 0), (1, .slot 5 (INT p)), (2, .slot 6 (NUM p)), (3, .fp 7 1 2), (4, .slot 8 (INT q)), (5, .slot 9 (NUM q)), (6, .slot 10 (VP.agg [Bz p, Tz p, Bz q, Tz q])), (7, .own 3 192 4), (8, .box 3 192 [Bz p, Tz p, Bz q, Tz q])] [] [0, 1] [] rfl rfl follow rfl ⟨
    .inl ⟨wants_plain rfl, does_field _ _ _ 0 ty_f0_api_Frac rfl rfl rfl rfl rfl rfl rfl (pt_box (av_fs 0 rfl))⟩,
    .inl ⟨wants_plain rfl, does_loadAgg _ ty_agg_api_Int rfl rfl rfl rfl rfl rfl (pt_fp (av_rs 0 rfl rfl)) (av_fs 0 rfl)⟩,
    .inl ⟨wants_plain rfl, does_call (r_of p (lle hp (by decide))) rfl hb_collator_collatorref01_Of rfl rfl rfl rfl ⟨(ar_tmp (av_rs 1 rfl rfl)), trivial⟩⟩,
    .inl ⟨wants_plain rfl, does_field _ _ _ 2 ty_f1_api_Frac rfl rfl rfl rfl rfl rfl rfl (pt_box (av_fs 0 rfl))⟩,
    .inl ⟨wants_plain rfl, does_loadAgg _ ty_agg_api_Int rfl rfl rfl rfl rfl rfl (pt_fp (av_rs 3 rfl rfl)) (av_fs 0 rfl)⟩,
    .inl ⟨wants_plain rfl, does_call (r_of q (lle hq (by decide))) rfl hb_collator_collatorref01_Of rfl rfl rfl rfl ⟨(ar_tmp (av_rs 4 rfl rfl)), trivial⟩⟩,
    .inl ⟨wants_plain rfl, does_build [Bz 0, Tz 0, Bz 0, Tz 0] ty_zero_collatorref02_Frac ty_pl_collatorref02_Frac rfl rfl rfl rfl rfl z_rfrac (.cons 0 [Bz p, Tz p] rfl rfl (ar_cells_agg (ar_tmp (av_rs 2 rfl rfl))) (.cons 2 [Bz q, Tz q] rfl rfl (ar_cells_agg (ar_tmp (av_rs 5 rfl rfl))) (.nil _)))⟩,
    .inl ⟨wants_plain rfl, does_allocOwn [Bz 0, Tz 0, Bz 0, Tz 0] ty_zero_collatorref02_Frac rfl rfl rfl rfl rfl z_rfrac rfl⟩,
    .inl ⟨wants_plain rfl, does_storeNew 4 _ _ ty_agg_collatorref02_Frac rfl rfl rfl rfl rfl (pt_own (av_rs 7 rfl rfl)) (av_rs 7 rfl rfl) (ar_tmp (av_rs 6 rfl rfl))⟩,
    trivial⟩ ?_
  refine nx_sub (fs' := [.box 2 192 [Bz 0, Tz 0, Bz 0, Tz 0], .box 3 192 [Bz p, Tz p, Bz q, Tz q]]) [1, 10] rfl ?_
  refine nx_then ?_
  refine t_seq ?_
  refine t_seq ?_
  refine t_region (F := ⟨_, _, _, _⟩) [.box 2 192 [Bz 0, Tz 0, Bz 0, Tz 0], .box 3 192 [Bz p, Tz p, Bz q, Tz q]] [] [(0, .fp 11 3 2), (1, .fp 12 3 3), (2, .slot 13 (Tz q)), (3, .slot 14 (VP.int .i64 (((dg 10 q.natAbs).length : Nat) : Int))), (4, .slot 15 (VP.bool ((((dg 10 q.natAbs).length : Nat) : Int) == 0)))] [] [0, 1] [] rfl rfl follow rfl ⟨
    .inl ⟨wants_plain rfl, does_field _ _ _ 2 ty_f1_collatorref02_Frac rfl rfl rfl rfl rfl rfl rfl (pt_box (av_fs 1 rfl))⟩,
    .inl ⟨wants_plain rfl, does_field _ _ _ 1 ty_f1_collatorref01_Num rfl rfl rfl rfl rfl rfl rfl (pt_fp (av_rs 0 rfl rfl))⟩,
    .inl ⟨wants_plain rfl, does_loadOne _ ty_one___int rfl rfl rfl rfl rfl rfl (pt_fp (av_rs 1 rfl rfl)) (av_fs 1 rfl)⟩,
    .inl ⟨wants_plain rfl, does_len _ _ (by kernel_rfl) rfl rfl rfl rfl rfl (ar_tmp (av_rs 2 rfl rfl))⟩,
    .inl ⟨wants_plain rfl, does_cmp (m := (((dg 10 q.natAbs).length : Nat) : Int)) (n := 0) _ _ _ _ _ rfl rfl rfl rfl rfl rfl .i64 (ar_tmp (av_rs 3 rfl rfl)) (ar_const (fun _ => rfl))⟩,
    trivial⟩ ?_
  refine nx_sub (fs' := [.box 2 192 [Bz 0, Tz 0, Bz 0, Tz 0], .box 3 192 [Bz p, Tz p, Bz q, Tz q], .slot 15 (VP.bool ((((dg 10 q.natAbs).length : Nat) : Int) == 0))]) [0, 1, 6] rfl ?_
  refine nx_then ?_
  refine t_cond_te 2 rfl (len10_yes h) ?_
  refine t_region (F := ⟨_, _, _, _⟩) [.box 2 192 [Bz 0, Tz 0, Bz 0, Tz 0], .slot 15 (VP.bool ((((dg 10 q.natAbs).length : Nat) : Int) == 0))] [(2, .box 3 192 [Bz p, Tz p, Bz q, Tz q])] [(0, .slot 16 (NUM 1)), (1, .fp 17 3 2), (2, .box 3 192 [Bz p, Tz p, Bz 1, Tz 1])] [] [0, 2] [1] rfl rfl follow rfl ⟨
    .inl ⟨wants_plain rfl, does_call (r_int 1 (by decide) (by decide)) rfl hb_collator_collatorref01_Int rfl rfl rfl rfl ⟨(ar_const (fun _ => rfl)), trivial⟩⟩,
    .inl ⟨wants_plain rfl, does_field _ _ _ 2 ty_f1_collatorref02_Frac rfl rfl rfl rfl rfl rfl rfl (pt_box (av_os 0 rfl rfl))⟩,
    .inl ⟨wants_plain rfl, does_storeAgg 2 _ _ ty_agg_collatorref01_Num rfl rfl rfl rfl rfl (pt_fp (av_rs 1 rfl rfl)) (av_os 0 rfl rfl) (ar_tmp (av_rs 0 rfl rfl))⟩,
    trivial⟩ ?_
  refine nx_sub (fs' := [.box 2 192 [Bz 0, Tz 0, Bz 0, Tz 0], .box 3 192 [Bz p, Tz p, Bz 1, Tz 1]]) [0, 4] rfl ?_
  refine nx_then ?_
  refine t_seq ?_
  refine t_region (F := ⟨_, _, _, _⟩) [.box 3 192 [Bz p, Tz p, Bz 1, Tz 1]] [(1, .box 2 192 [Bz 0, Tz 0, Bz 0, Tz 0])] [(0, .slot 18 (VP.agg [Bz p, Tz p, Bz 1, Tz 1])), (1, .box 2 192 [Bz p, Tz p, Bz 1, Tz 1])] [] [1] [0] rfl rfl follow rfl ⟨
    .inl ⟨wants_plain rfl, does_loadAgg _ ty_agg_collatorref02_Frac rfl rfl rfl rfl rfl rfl (pt_box (av_fs 0 rfl)) (av_fs 0 rfl)⟩,
    .inl ⟨wants_plain rfl, does_storeAgg 4 _ _ ty_agg_collatorref02_Frac rfl rfl rfl rfl rfl (pt_box (av_os 0 rfl rfl)) (av_os 0 rfl rfl) (ar_tmp (av_rs 0 rfl rfl))⟩,
    trivial⟩ ?_
  refine nx_sub (fs' := [.box 2 192 [Bz p, Tz p, Bz 1, Tz 1]]) [2] rfl ?_
  refine nx_then ?_
  refine t_ret ?_
  exact rt_one rfl (res_agg 0 ty_agg_collatorref02_Frac rfl)
set_option maxRecDepth 100000 in
set_option maxHeartbeats 4000000 in
theorem g_of2 (p q : Int) (hp : L p ≤ 1000) (hq : L q ≤ 1000) (h : q ≠ 0) : Spec Try.prog 140 [(VP.agg [Bz p, Dz p, Bz q, Dz q]).p] (VP.agg [Bz p, Tz p, Bz q, Tz q]) := by
  refine spec_of (xs := [VP.agg [Bz p, Dz p, Bz q, Dz q]]) 19 [1, 2, 3] Try.func140 rfl Try.ntmps140 rfl fun w0 => ?_
  refine t_seq ?_
  refine t_region (F := ⟨_, _, _, _⟩) [.slot 0 (VP.agg [Bz p, Dz p, Bz q, Dz q])] [] [(0, .box 1 26 [Bz p, Dz p, Bz q, Dz q]), (1, .box 2 192 [Bz 0, Tz 0, Bz 0, Tz 0])] [] [0] [] rfl rfl follow rfl ⟨
    .inl ⟨wants_plain rfl, does_box _ rfl rfl rfl rfl rfl (ar_tmp (av_fs 0 rfl))⟩,
    .inl ⟨wants_plain rfl, does_alloc ty_zero_collatorref02_Frac rfl rfl rfl rfl rfl z_rfrac⟩,
    trivial⟩ ?_
  refine nx_sub (fs' := [.box 1 26 [Bz p, Dz p, Bz q, Dz q], .box 2 192 [Bz 0, Tz 0, Bz 0, Tz 0]]) [1, 2] rfl ?_
  refine nx_then ?_
  refine t_seq ?_
  refine t_region (F := ⟨_, _, _, _⟩) [.box 1 26 [Bz p, Dz p, Bz q, Dz q], .box 2 192 [Bz 0, Tz 0, Bz 0, Tz 0]] [] [(0, .fp 4 1 0), (1, .slot 5 (INT p)), (2, .slot 6 (NUM p)), (3, .fp 7 1 2), (4, .slot 8 (INT q)), (5, .slot 9 (NUM q)), (6, .slot 10 (VP.agg [Bz p, Tz p, Bz q, Tz q])), (7, .own 3 192 4), (8, .box 3 192 [Bz p, Tz p, Bz q, Tz q])] [] [0, 1] [] rfl rfl follow rfl ⟨
    .inl ⟨wants_plain rfl, does_field _ _ _ 0 ty_f0_api_Frac rfl rfl rfl rfl rfl rfl rfl (pt_box (av_fs 0 rfl))⟩,
    .inl ⟨wants_plain rfl, does_loadAgg _ ty_agg_api_Int rfl rfl rfl rfl rfl rfl (pt_fp (av_rs 0 rfl rfl)) (av_fs 0 rfl)⟩,
    .inl ⟨wants_plain rfl, does_call (r_of p (lle hp (by decide))) rfl hb_collator_collatorref01_Of rfl rfl rfl rfl ⟨(ar_tmp (av_rs 1 rfl rfl)), trivial⟩⟩,
    .inl ⟨wants_plain rfl, does_field _ _ _ 2 ty_f1_api_Frac rfl rfl rfl rfl rfl rfl rfl (pt_box (av_fs 0 rfl))⟩,
    .inl ⟨wants_plain rfl, does_loadAgg _ ty_agg_api_Int rfl rfl rfl rfl rfl rfl (pt_fp (av_rs 3 rfl rfl)) (av_fs 0 rfl)⟩,
    .inl ⟨wants_plain rfl, does_call (r_of q (lle hq (by decide))) rfl hb_collator_collatorref01_Of rfl rfl rfl rfl ⟨(ar_tmp (av_rs 4 rfl rfl)), trivial⟩⟩,
    .inl ⟨wants_plain rfl, does_build [Bz 0, Tz 0, Bz 0, Tz 0] ty_zero_collatorref02_Frac ty_pl_collatorref02_Frac rfl rfl rfl rfl rfl z_rfrac (.cons 0 [Bz p, Tz p] rfl rfl (ar_cells_agg (ar_tmp (av_rs 2 rfl rfl))) (.cons 2 [Bz q, Tz q] rfl rfl (ar_cells_agg (ar_tmp (av_rs 5 rfl rfl))) (.nil _)))⟩,
    .inl ⟨wants_plain rfl, does_allocOwn [Bz 0, Tz 0, Bz 0, Tz 0] ty_zero_collatorref02_Frac rfl rfl rfl rfl rfl z_rfrac rfl⟩,
    .inl ⟨wants_plain rfl, does_storeNew 4 _ _ ty_agg_collatorref02_Frac rfl rfl rfl rfl rfl (pt_own (av_rs 7 rfl rfl)) (av_rs 7 rfl rfl) (ar_tmp (av_rs 6 rfl rfl))⟩,
    trivial⟩ ?_
  refine nx_sub (fs' := [.box 2 192 [Bz 0, Tz 0, Bz 0, Tz 0], .box 3 192 [Bz p, Tz p, Bz q, Tz q]]) [1, 10] rfl ?_
  refine nx_then ?_
  refine t_seq ?_
  refine t_seq ?_
  refine t_region (F := ⟨_, _, _, _⟩) [.box 2 192 [Bz 0, Tz 0, Bz 0, Tz 0], .box 3 192 [Bz p, Tz p, Bz q, Tz q]] [] [(0, .fp 11 3 2), (1, .fp 12 3 3), (2, .slot 13 (Tz q)), (3, .slot 14 (VP.int .i64 (((dg 10 q.natAbs).length : Nat) : Int))), (4, .slot 15 (VP.bool ((((dg 10 q.natAbs).length : Nat) : Int) == 0)))] [] [0, 1] [] rfl rfl follow rfl ⟨
    .inl ⟨wants_plain rfl, does_field _ _ _ 2 ty_f1_collatorref02_Frac rfl rfl rfl rfl rfl rfl rfl (pt_box (av_fs 1 rfl))⟩,
    .inl ⟨wants_plain rfl, does_field _ _ _ 1 ty_f1_collatorref01_Num rfl rfl rfl rfl rfl rfl rfl (pt_fp (av_rs 0 rfl rfl))⟩,
    .inl ⟨wants_plain rfl, does_loadOne _ ty_one___int rfl rfl rfl rfl rfl rfl (pt_fp (av_rs 1 rfl rfl)) (av_fs 1 rfl)⟩,
    .inl ⟨wants_plain rfl, does_len _ _ (by kernel_rfl) rfl rfl rfl rfl rfl (ar_tmp (av_rs 2 rfl rfl))⟩,
    .inl ⟨wants_plain rfl, does_cmp (m := (((dg 10 q.natAbs).length : Nat) : Int)) (n := 0) _ _ _ _ _ rfl rfl rfl rfl rfl rfl .i64 (ar_tmp (av_rs 3 rfl rfl)) (ar_const (fun _ => rfl))⟩,
    trivial⟩ ?_
  refine nx_sub (fs' := [.box 2 192 [Bz 0, Tz 0, Bz 0, Tz 0], .box 3 192 [Bz p, Tz p, Bz q, Tz q], .slot 15 (VP.bool ((((dg 10 q.natAbs).length : Nat) : Int) == 0))]) [0, 1, 6] rfl ?_
  refine nx_then ?_
  refine t_cond_fe 2 rfl (len10_no h) ?_
  refine t_skip ?_
  refine nx_then ?_
  refine t_seq ?_
  refine t_region (F := ⟨_, _, _, _⟩) [.box 3 192 [Bz p, Tz p, Bz q, Tz q], .slot 15 (VP.bool ((((dg 10 q.natAbs).length : Nat) : Int) == 0))] [(1, .box 2 192 [Bz 0, Tz 0, Bz 0, Tz 0])] [(0, .slot 18 (VP.agg [Bz p, Tz p, Bz q, Tz q])), (1, .box 2 192 [Bz p, Tz p, Bz q, Tz q])] [] [1, 2] [0] rfl rfl follow rfl ⟨
    .inl ⟨wants_plain rfl, does_loadAgg _ ty_agg_collatorref02_Frac rfl rfl rfl rfl rfl rfl (pt_box (av_fs 0 rfl)) (av_fs 0 rfl)⟩,
    .inl ⟨wants_plain rfl, does_storeAgg 4 _ _ ty_agg_collatorref02_Frac rfl rfl rfl rfl rfl (pt_box (av_os 0 rfl rfl)) (av_os 0 rfl rfl) (ar_tmp (av_rs 0 rfl rfl))⟩,
    trivial⟩ ?_
  refine nx_sub (fs' := [.box 2 192 [Bz p, Tz p, Bz q, Tz q]]) [3] rfl ?_
  refine nx_then ?_
  refine t_ret ?_
  exact rt_one rfl (res_agg 0 ty_agg_collatorref02_Frac rfl)
theorem g_of (p q : Int) (hp : L p ≤ 1000) (hq : L q ≤ 1000) : Spec Try.prog 140 [(VP.agg [Bz p, Dz p, Bz q, Dz q]).p] (VP.agg [Bz p, Tz p, Bz (und q), Tz (und q)]) := by
  by_cases h : q = 0
  · rw [show und q = 1 from if_pos h]; exact g_of1 p q hp hq h
  · rw [show und q = q from if_neg h]; exact g_of2 p q hp hq h
set_option maxRecDepth 100000 in
set_option maxHeartbeats 4000000 in
theorem g_int (n : Int) (hn1 : -4611686018427387904 ≤ n) (hn2 : n ≤ 4611686018427387904) : Spec Try.prog 178 [(VP.int .i64 n).p] (VP.agg [Bz n, Tz n, Bz 1, Tz 1]) := by
  refine spec_of (xs := [VP.int .i64 n]) 7 [2] Try.func178 rfl Try.ntmps178 rfl fun w0 => ?_
  refine t_seq ?_
  refine t_region (F := ⟨_, _, _, _⟩) [.slot 0 (VP.int .i64 n)] [] [(0, .box 2 192 [Bz 0, Tz 0, Bz 0, Tz 0])] [] [0] [] rfl rfl follow rfl ⟨
    .inl ⟨wants_plain rfl, does_alloc ty_zero_collatorref02_Frac rfl rfl rfl rfl rfl z_rfrac⟩,
    trivial⟩ ?_
  refine nx_sub (fs' := [.slot 0 (VP.int .i64 n), .box 2 192 [Bz 0, Tz 0, Bz 0, Tz 0]]) [0, 1] rfl ?_
  refine nx_then ?_
  refine t_seq ?_
  refine t_region (F := ⟨_, _, _, _⟩) [.slot 0 (VP.int .i64 n)] [(4, .box 2 192 [Bz 0, Tz 0, Bz 0, Tz 0])] [(0, .slot 3 (VP.int .i64 n)), (1, .slot 4 (NUM n)), (2, .slot 5 (NUM 1)), (3, .slot 6 (VP.agg [Bz n, Tz n, Bz 1, Tz 1])), (4, .box 2 192 [Bz n, Tz n, Bz 1, Tz 1])] [] [0] [1] rfl rfl follow rfl ⟨
    .inl ⟨wants_plain rfl, does_move _ (.inl rfl) rfl rfl rfl rfl (ar_tmp (av_fs 0 rfl))⟩,
    .inl ⟨wants_plain rfl, does_call (r_int n hn1 (Int.le_trans hn2 (by decide))) rfl hb_collator_collatorref01_Int rfl rfl rfl rfl ⟨(ar_tmp (av_rs 0 rfl rfl)), trivial⟩⟩,
    .inl ⟨wants_plain rfl, does_call (r_int 1 (by decide) (by decide)) rfl hb_collator_collatorref01_Int rfl rfl rfl rfl ⟨(ar_const (fun _ => rfl)), trivial⟩⟩,
    .inl ⟨wants_plain rfl, does_build [Bz 0, Tz 0, Bz 0, Tz 0] ty_zero_collatorref02_Frac ty_pl_collatorref02_Frac rfl rfl rfl rfl rfl z_rfrac (.cons 0 [Bz n, Tz n] rfl rfl (ar_cells_agg (ar_tmp (av_rs 1 rfl rfl))) (.cons 2 [Bz 1, Tz 1] rfl rfl (ar_cells_agg (ar_tmp (av_rs 2 rfl rfl))) (.nil _)))⟩,
    .inl ⟨wants_plain rfl, does_storeAgg 4 _ _ ty_agg_collatorref02_Frac rfl rfl rfl rfl rfl (pt_box (av_os 0 rfl rfl)) (av_os 0 rfl rfl) (ar_tmp (av_rs 3 rfl rfl))⟩,
    trivial⟩ ?_
  refine nx_sub (fs' := [.box 2 192 [Bz n, Tz n, Bz 1, Tz 1]]) [5] rfl ?_
  refine nx_then ?_
  refine t_ret ?_
  exact rt_one rfl (res_agg 0 ty_agg_collatorref02_Frac rfl)
set_option maxRecDepth 100000 in
set_option maxHeartbeats 4000000 in
theorem g_make1 (x y : Int) (hx : L x ≤ 5000) (hy : L y ≤ 5000) (h : y = 0) : Spec Try.prog 142 [(NUM x).p, (NUM y).p] (VP.agg [Bz 0, Tz 0, Bz 1, Tz 1]) := by
  refine spec_of (xs := [NUM x, NUM y]) 45 [2, 3, 4, 5, 6, 7, 8, 9] Try.func142 rfl Try.ntmps142 rfl fun w0 => ?_
  refine t_seq ?_
  refine t_region (F := ⟨_, _, _, _⟩) [.slot 0 (NUM x), .slot 1 (NUM y)] [] [(0, .box 2 94 [Bz x, Tz x]), (1, .box 3 94 [Bz y, Tz y]), (2, .box 4 192 [Bz 0, Tz 0, Bz 0, Tz 0])] [] [0, 1] [] rfl rfl follow rfl ⟨
    .inl ⟨wants_plain rfl, does_box _ rfl rfl rfl rfl rfl (ar_tmp (av_fs 0 rfl))⟩,
    .inl ⟨wants_plain rfl, does_box _ rfl rfl rfl rfl rfl (ar_tmp (av_fs 1 rfl))⟩,
    .inl ⟨wants_plain rfl, does_alloc ty_zero_collatorref02_Frac rfl rfl rfl rfl rfl z_rfrac⟩,
    trivial⟩ ?_
  refine nx_sub (fs' := [.box 2 94 [Bz x, Tz x], .box 3 94 [Bz y, Tz y], .box 4 192 [Bz 0, Tz 0, Bz 0, Tz 0]]) [2, 3, 4] rfl ?_
  refine nx_then ?_
  refine t_seq ?_
  refine t_seq ?_
  refine t_region (F := ⟨_, _, _, _⟩) [.box 2 94 [Bz x, Tz x], .box 3 94 [Bz y, Tz y], .box 4 192 [Bz 0, Tz 0, Bz 0, Tz 0]] [] [(0, .fp 10 3 1), (1, .slot 11 (Tz y)), (2, .slot 12 (VP.int .i64 (((dg 10 y.natAbs).length : Nat) : Int))), (3, .slot 13 (VP.bool ((((dg 10 y.natAbs).length : Nat) : Int) == 0))), (4, .slot 14 (VP.bool ((((dg 10 y.natAbs).length : Nat) : Int) == 0))), (5, .slot 15 (VP.undef)), (6, .slot 16 (VP.undef)), (7, .slot 17 (VP.undef)), (8, .slot 18 (VP.undef)), (9, .slot 19 (VP.bool true))] [] [0, 1, 2] [] rfl rfl follow rfl ⟨
    .inl ⟨wants_plain rfl, does_field _ _ _ 1 ty_f1_collatorref01_Num rfl rfl rfl rfl rfl rfl rfl (pt_box (av_fs 1 rfl))⟩,
    .inl ⟨wants_plain rfl, does_loadOne _ ty_one___int rfl rfl rfl rfl rfl rfl (pt_fp (av_rs 0 rfl rfl)) (av_fs 1 rfl)⟩,
    .inl ⟨wants_plain rfl, does_len _ _ (by kernel_rfl) rfl rfl rfl rfl rfl (ar_tmp (av_rs 1 rfl rfl))⟩,
    .inl ⟨wants_plain rfl, does_cmp (m := (((dg 10 y.natAbs).length : Nat) : Int)) (n := 0) _ _ _ _ _ rfl rfl rfl rfl rfl rfl .i64 (ar_tmp (av_rs 2 rfl rfl)) (ar_const (fun _ => rfl))⟩,
    .inl ⟨wants_plain rfl, does_move _ (.inl rfl) rfl rfl rfl rfl (ar_tmp (av_rs 3 rfl rfl))⟩,
    .inr (skips_guardU true rfl rfl rfl (av_bool (len10_yes h) (av_rs 4 rfl rfl)) rfl rfl rfl rfl),
    .inr (skips_guardU true rfl rfl rfl (av_bool (len10_yes h) (av_rs 4 rfl rfl)) rfl rfl rfl rfl),
    .inr (skips_guardU true rfl rfl rfl (av_bool (len10_yes h) (av_rs 4 rfl rfl)) rfl rfl rfl rfl),
    .inr (skips_guardU true rfl rfl rfl (av_bool (len10_yes h) (av_rs 4 rfl rfl)) rfl rfl rfl rfl),
    .inl ⟨wants_plain rfl, does_pick true _ _ _ rfl rfl rfl rfl rfl (ar_tmp (av_bool (len10_yes h) (av_rs 4 rfl rfl))) (ar_const (fun _ => rfl))⟩,
    trivial⟩ ?_
  refine nx_sub (fs' := [.box 2 94 [Bz x, Tz x], .box 3 94 [Bz y, Tz y], .box 4 192 [Bz 0, Tz 0, Bz 0, Tz 0], .slot 19 (VP.bool true)]) [0, 1, 2, 12] rfl ?_
  refine nx_then ?_
  refine t_cond_t 3 rfl ?_
  refine t_seq ?_
  refine t_region (F := ⟨_, _, _, _⟩) [.box 2 94 [Bz x, Tz x], .box 3 94 [Bz y, Tz y], .slot 19 (VP.bool true)] [(1, .box 4 192 [Bz 0, Tz 0, Bz 0, Tz 0])] [(0, .slot 20 (VP.agg [Bz 0, Tz 0, Bz 1, Tz 1])), (1, .box 4 192 [Bz 0, Tz 0, Bz 1, Tz 1])] [] [0, 1, 3] [2] rfl rfl follow rfl ⟨
    .inl ⟨wants_plain rfl, does_call (g_int 0 (by decide) (by decide)) rfl hb_collator_collatorref02_Int rfl rfl rfl rfl ⟨(ar_const (fun _ => rfl)), trivial⟩⟩,
    .inl ⟨wants_plain rfl, does_storeAgg 4 _ _ ty_agg_collatorref02_Frac rfl rfl rfl rfl rfl (pt_box (av_os 0 rfl rfl)) (av_os 0 rfl rfl) (ar_tmp (av_rs 0 rfl rfl))⟩,
    trivial⟩ ?_
  refine nx_sub (fs' := [.box 2 94 [Bz x, Tz x], .box 3 94 [Bz y, Tz y], .box 4 192 [Bz 0, Tz 0, Bz 1, Tz 1]]) [0, 1, 4] rfl ?_
  refine nx_then ?_
  refine t_ret ?_
  refine rt_then ?_
  exact rt_one rfl (res_agg 2 ty_agg_collatorref02_Frac rfl)
set_option maxRecDepth 100000 in
set_option maxHeartbeats 4000000 in
theorem g_make2 (x y : Int) (hx : L x ≤ 5000) (hy : L y ≤ 5000) (h : y ≠ 0) (k : x = 0) : Spec Try.prog 142 [(NUM x).p, (NUM y).p] (VP.agg [Bz 0, Tz 0, Bz 1, Tz 1]) := by
  refine spec_of (xs := [NUM x, NUM y]) 45 [2, 3, 4, 5, 6, 7, 8, 9] Try.func142 rfl Try.ntmps142 rfl fun w0 => ?_
  refine t_seq ?_
  refine t_region (F := ⟨_, _, _, _⟩) [.slot 0 (NUM x), .slot 1 (NUM y)] [] [(0, .box 2 94 [Bz x, Tz x]), (1, .box 3 94 [Bz y, Tz y]), (2, .box 4 192 [Bz 0, Tz 0, Bz 0, Tz 0])] [] [0, 1] [] rfl rfl follow rfl ⟨
    .inl ⟨wants_plain rfl, does_box _ rfl rfl rfl rfl rfl (ar_tmp (av_fs 0 rfl))⟩,
    .inl ⟨wants_plain rfl, does_box _ rfl rfl rfl rfl rfl (ar_tmp (av_fs 1 rfl))⟩,
    .inl ⟨wants_plain rfl, does_alloc ty_zero_collatorref02_Frac rfl rfl rfl rfl rfl z_rfrac⟩,
    trivial⟩ ?_
  refine nx_sub (fs' := [.box 2 94 [Bz x, Tz x], .box 3 94 [Bz y, Tz y], .box 4 192 [Bz 0, Tz 0, Bz 0, Tz 0]]) [2, 3, 4] rfl ?_
  refine nx_then ?_
  refine t_seq ?_
  refine t_seq ?_
  refine t_region (F := ⟨_, _, _, _⟩) [.box 2 94 [Bz x, Tz x], .box 3 94 [Bz y, Tz y], .box 4 192 [Bz 0, Tz 0, Bz 0, Tz 0]] [] [(0, .fp 10 3 1), (1, .slot 11 (Tz y)), (2, .slot 12 (VP.int .i64 (((dg 10 y.natAbs).length : Nat) : Int))), (3, .slot 13 (VP.bool ((((dg 10 y.natAbs).length : Nat) : Int) == 0))), (4, .slot 14 (VP.bool ((((dg 10 y.natAbs).length : Nat) : Int) == 0))), (5, .fp 15 2 1), (6, .slot 16 (Tz x)), (7, .slot 17 (VP.int .i64 (((dg 10 x.natAbs).length : Nat) : Int))), (8, .slot 18 (VP.bool ((((dg 10 x.natAbs).length : Nat) : Int) == 0))), (9, .slot 19 (VP.bool ((((dg 10 x.natAbs).length : Nat) : Int) == 0)))] [] [0, 1, 2] [] rfl rfl follow rfl ⟨
    .inl ⟨wants_plain rfl, does_field _ _ _ 1 ty_f1_collatorref01_Num rfl rfl rfl rfl rfl rfl rfl (pt_box (av_fs 1 rfl))⟩,
    .inl ⟨wants_plain rfl, does_loadOne _ ty_one___int rfl rfl rfl rfl rfl rfl (pt_fp (av_rs 0 rfl rfl)) (av_fs 1 rfl)⟩,
    .inl ⟨wants_plain rfl, does_len _ _ (by kernel_rfl) rfl rfl rfl rfl rfl (ar_tmp (av_rs 1 rfl rfl))⟩,
    .inl ⟨wants_plain rfl, does_cmp (m := (((dg 10 y.natAbs).length : Nat) : Int)) (n := 0) _ _ _ _ _ rfl rfl rfl rfl rfl rfl .i64 (ar_tmp (av_rs 2 rfl rfl)) (ar_const (fun _ => rfl))⟩,
    .inl ⟨wants_plain rfl, does_move _ (.inl rfl) rfl rfl rfl rfl (ar_tmp (av_rs 3 rfl rfl))⟩,
    .inl ⟨wants_guard false rfl rfl rfl (av_bool (len10_no h) (av_rs 4 rfl rfl)), does_field _ _ _ 1 ty_f1_collatorref01_Num rfl rfl rfl rfl rfl rfl rfl (pt_box (av_fs 0 rfl))⟩,
    .inl ⟨wants_guard false rfl rfl rfl (av_bool (len10_no h) (av_rs 4 rfl rfl)), does_loadOne _ ty_one___int rfl rfl rfl rfl rfl rfl (pt_fp (av_rs 5 rfl rfl)) (av_fs 0 rfl)⟩,
    .inl ⟨wants_guard false rfl rfl rfl (av_bool (len10_no h) (av_rs 4 rfl rfl)), does_len _ _ (by kernel_rfl) rfl rfl rfl rfl rfl (ar_tmp (av_rs 6 rfl rfl))⟩,
    .inl ⟨wants_guard false rfl rfl rfl (av_bool (len10_no h) (av_rs 4 rfl rfl)), does_cmp (m := (((dg 10 x.natAbs).length : Nat) : Int)) (n := 0) _ _ _ _ _ rfl rfl rfl rfl rfl rfl .i64 (ar_tmp (av_rs 7 rfl rfl)) (ar_const (fun _ => rfl))⟩,
    .inl ⟨wants_plain rfl, does_pick false _ _ _ rfl rfl rfl rfl rfl (ar_tmp (av_bool (len10_no h) (av_rs 4 rfl rfl))) (ar_tmp (av_rs 8 rfl rfl))⟩,
    trivial⟩ ?_
  refine nx_sub (fs' := [.box 2 94 [Bz x, Tz x], .box 3 94 [Bz y, Tz y], .box 4 192 [Bz 0, Tz 0, Bz 0, Tz 0], .slot 19 (VP.bool ((((dg 10 x.natAbs).length : Nat) : Int) == 0))]) [0, 1, 2, 12] rfl ?_
  refine nx_then ?_
  refine t_cond_te 3 rfl (len10_yes k) ?_
  refine t_seq ?_
  refine t_region (F := ⟨_, _, _, _⟩) [.box 2 94 [Bz x, Tz x], .box 3 94 [Bz y, Tz y], .slot 19 (VP.bool ((((dg 10 x.natAbs).length : Nat) : Int) == 0))] [(1, .box 4 192 [Bz 0, Tz 0, Bz 0, Tz 0])] [(0, .slot 20 (VP.agg [Bz 0, Tz 0, Bz 1, Tz 1])), (1, .box 4 192 [Bz 0, Tz 0, Bz 1, Tz 1])] [] [0, 1, 3] [2] rfl rfl follow rfl ⟨
    .inl ⟨wants_plain rfl, does_call (g_int 0 (by decide) (by decide)) rfl hb_collator_collatorref02_Int rfl rfl rfl rfl ⟨(ar_const (fun _ => rfl)), trivial⟩⟩,
    .inl ⟨wants_plain rfl, does_storeAgg 4 _ _ ty_agg_collatorref02_Frac rfl rfl rfl rfl rfl (pt_box (av_os 0 rfl rfl)) (av_os 0 rfl rfl) (ar_tmp (av_rs 0 rfl rfl))⟩,
    trivial⟩ ?_
  refine nx_sub (fs' := [.box 2 94 [Bz x, Tz x], .box 3 94 [Bz y, Tz y], .box 4 192 [Bz 0, Tz 0, Bz 1, Tz 1]]) [0, 1, 4] rfl ?_
  refine nx_then ?_
  refine t_ret ?_
  refine rt_then ?_
  exact rt_one rfl (res_agg 2 ty_agg_collatorref02_Frac rfl)
set_option maxRecDepth 100000 in
set_option maxHeartbeats 4000000 in
theorem g_make3 (x y : Int) (hx : L x ≤ 5000) (hy : L y ≤ 5000) (h : y ≠ 0) (k : x ≠ 0) (hn : y < 0) : Spec Try.prog 142 [(NUM x).p, (NUM y).p] (VP.agg [Bz (divZ (-x) (gcdZ (-x) (-y))), Tz (divZ (-x) (gcdZ (-x) (-y))), Bz (divZ (-y) (gcdZ (-x) (-y))), Tz (divZ (-y) (gcdZ (-x) (-y)))]) := by
  refine spec_of (xs := [NUM x, NUM y]) 45 [2, 3, 4, 5, 6, 7, 8, 9] Try.func142 rfl Try.ntmps142 rfl fun w0 => ?_
  refine t_seq ?_
  refine t_region (F := ⟨_, _, _, _⟩) [.slot 0 (NUM x), .slot 1 (NUM y)] [] [(0, .box 2 94 [Bz x, Tz x]), (1, .box 3 94 [Bz y, Tz y]), (2, .box 4 192 [Bz 0, Tz 0, Bz 0, Tz 0])] [] [0, 1] [] rfl rfl follow rfl ⟨
    .inl ⟨wants_plain rfl, does_box _ rfl rfl rfl rfl rfl (ar_tmp (av_fs 0 rfl))⟩,
    .inl ⟨wants_plain rfl, does_box _ rfl rfl rfl rfl rfl (ar_tmp (av_fs 1 rfl))⟩,
    .inl ⟨wants_plain rfl, does_alloc ty_zero_collatorref02_Frac rfl rfl rfl rfl rfl z_rfrac⟩,
    trivial⟩ ?_
  refine nx_sub (fs' := [.box 2 94 [Bz x, Tz x], .box 3 94 [Bz y, Tz y], .box 4 192 [Bz 0, Tz 0, Bz 0, Tz 0]]) [2, 3, 4] rfl ?_
  refine nx_then ?_
  refine t_seq ?_
  refine t_seq ?_
  refine t_region (F := ⟨_, _, _, _⟩) [.box 2 94 [Bz x, Tz x], .box 3 94 [Bz y, Tz y], .box 4 192 [Bz 0, Tz 0, Bz 0, Tz 0]] [] [(0, .fp 10 3 1), (1, .slot 11 (Tz y)), (2, .slot 12 (VP.int .i64 (((dg 10 y.natAbs).length : Nat) : Int))), (3, .slot 13 (VP.bool ((((dg 10 y.natAbs).length : Nat) : Int) == 0))), (4, .slot 14 (VP.bool ((((dg 10 y.natAbs).length : Nat) : Int) == 0))), (5, .fp 15 2 1), (6, .slot 16 (Tz x)), (7, .slot 17 (VP.int .i64 (((dg 10 x.natAbs).length : Nat) : Int))), (8, .slot 18 (VP.bool ((((dg 10 x.natAbs).length : Nat) : Int) == 0))), (9, .slot 19 (VP.bool ((((dg 10 x.natAbs).length : Nat) : Int) == 0)))] [] [0, 1, 2] [] rfl rfl follow rfl ⟨
    .inl ⟨wants_plain rfl, does_field _ _ _ 1 ty_f1_collatorref01_Num rfl rfl rfl rfl rfl rfl rfl (pt_box (av_fs 1 rfl))⟩,
    .inl ⟨wants_plain rfl, does_loadOne _ ty_one___int rfl rfl rfl rfl rfl rfl (pt_fp (av_rs 0 rfl rfl)) (av_fs 1 rfl)⟩,
    .inl ⟨wants_plain rfl, does_len _ _ (by kernel_rfl) rfl rfl rfl rfl rfl (ar_tmp (av_rs 1 rfl rfl))⟩,
    .inl ⟨wants_plain rfl, does_cmp (m := (((dg 10 y.natAbs).length : Nat) : Int)) (n := 0) _ _ _ _ _ rfl rfl rfl rfl rfl rfl .i64 (ar_tmp (av_rs 2 rfl rfl)) (ar_const (fun _ => rfl))⟩,
    .inl ⟨wants_plain rfl, does_move _ (.inl rfl) rfl rfl rfl rfl (ar_tmp (av_rs 3 rfl rfl))⟩,
    .inl ⟨wants_guard false rfl rfl rfl (av_bool (len10_no h) (av_rs 4 rfl rfl)), does_field _ _ _ 1 ty_f1_collatorref01_Num rfl rfl rfl rfl rfl rfl rfl (pt_box (av_fs 0 rfl))⟩,
    .inl ⟨wants_guard false rfl rfl rfl (av_bool (len10_no h) (av_rs 4 rfl rfl)), does_loadOne _ ty_one___int rfl rfl rfl rfl rfl rfl (pt_fp (av_rs 5 rfl rfl)) (av_fs 0 rfl)⟩,
    .inl ⟨wants_guard false rfl rfl rfl (av_bool (len10_no h) (av_rs 4 rfl rfl)), does_len _ _ (by kernel_rfl) rfl rfl rfl rfl rfl (ar_tmp (av_rs 6 rfl rfl))⟩,
    .inl ⟨wants_guard false rfl rfl rfl (av_bool (len10_no h) (av_rs 4 rfl rfl)), does_cmp (m := (((dg 10 x.natAbs).length : Nat) : Int)) (n := 0) _ _ _ _ _ rfl rfl rfl rfl rfl rfl .i64 (ar_tmp (av_rs 7 rfl rfl)) (ar_const (fun _ => rfl))⟩,
    .inl ⟨wants_plain rfl, does_pick false _ _ _ rfl rfl rfl rfl rfl (ar_tmp (av_bool (len10_no h) (av_rs 4 rfl rfl))) (ar_tmp (av_rs 8 rfl rfl))⟩,
    trivial⟩ ?_
  refine nx_sub (fs' := [.box 2 94 [Bz x, Tz x], .box 3 94 [Bz y, Tz y], .box 4 192 [Bz 0, Tz 0, Bz 0, Tz 0], .slot 19 (VP.bool ((((dg 10 x.natAbs).length : Nat) : Int) == 0))]) [0, 1, 2, 12] rfl ?_
  refine nx_then ?_
  refine t_cond_fe 3 rfl (len10_no k) ?_
  refine t_skip ?_
  refine nx_then ?_
  refine t_seq ?_
  refine t_seq ?_
  refine t_region (F := ⟨_, _, _, _⟩) [.box 2 94 [Bz x, Tz x], .box 3 94 [Bz y, Tz y], .box 4 192 [Bz 0, Tz 0, Bz 0, Tz 0], .slot 19 (VP.bool ((((dg 10 x.natAbs).length : Nat) : Int) == 0))] [] [(0, .fp 21 3 0), (1, .slot 22 (Bz y))] [] [0, 1, 2, 3] [] rfl rfl follow rfl ⟨
    .inl ⟨wants_plain rfl, does_field _ _ _ 0 ty_f0_collatorref01_Num rfl rfl rfl rfl rfl rfl rfl (pt_box (av_fs 1 rfl))⟩,
    .inl ⟨wants_plain rfl, does_loadOne _ ty_one_bool rfl rfl rfl rfl rfl rfl (pt_fp (av_rs 0 rfl rfl)) (av_fs 1 rfl)⟩,
    trivial⟩ ?_
  refine nx_sub (fs' := [.box 2 94 [Bz x, Tz x], .box 3 94 [Bz y, Tz y], .box 4 192 [Bz 0, Tz 0, Bz 0, Tz 0], .slot 22 (Bz y)]) [0, 1, 2, 5] rfl ?_
  refine nx_then ?_
  refine t_cond_te 3 rfl (decide_eq_true hn) ?_
  refine t_seq ?_
  refine t_region (F := ⟨_, _, _, _⟩) [.box 3 94 [Bz y, Tz y], .box 4 192 [Bz 0, Tz 0, Bz 0, Tz 0], .slot 22 (Bz y)] [(2, .box 2 94 [Bz x, Tz x])] [(0, .slot 23 (NUM x)), (1, .slot 24 (NUM (-x))), (2, .box 2 94 [Bz (-x), Tz (-x)])] [] [1, 2, 3] [0] rfl rfl follow rfl ⟨
    .inl ⟨wants_plain rfl, does_loadAgg _ ty_agg_collatorref01_Num rfl rfl rfl rfl rfl rfl (pt_box (av_os 0 rfl rfl)) (av_os 0 rfl rfl)⟩,
    .inl ⟨wants_plain rfl, does_call (r_neg x) rfl hb_collator_collatorref01_Neg rfl rfl rfl rfl ⟨(ar_tmp (av_rs 0 rfl rfl)), trivial⟩⟩,
    .inl ⟨wants_plain rfl, does_storeAgg 2 _ _ ty_agg_collatorref01_Num rfl rfl rfl rfl rfl (pt_box (av_os 0 rfl rfl)) (av_os 0 rfl rfl) (ar_tmp (av_rs 1 rfl rfl))⟩,
    trivial⟩ ?_
  refine nx_sub (fs' := [.box 3 94 [Bz y, Tz y], .box 4 192 [Bz 0, Tz 0, Bz 0, Tz 0], .box 2 94 [Bz (-x), Tz (-x)]]) [0, 1, 5] rfl ?_
  refine nx_then ?_
  refine t_region (F := ⟨_, _, _, _⟩) [.box 4 192 [Bz 0, Tz 0, Bz 0, Tz 0], .box 2 94 [Bz (-x), Tz (-x)]] [(2, .box 3 94 [Bz y, Tz y])] [(0, .slot 25 (NUM y)), (1, .slot 26 (NUM (-y))), (2, .box 3 94 [Bz (-y), Tz (-y)])] [] [1, 2] [0] rfl rfl follow rfl ⟨
    .inl ⟨wants_plain rfl, does_loadAgg _ ty_agg_collatorref01_Num rfl rfl rfl rfl rfl rfl (pt_box (av_os 0 rfl rfl)) (av_os 0 rfl rfl)⟩,
    .inl ⟨wants_plain rfl, does_call (r_neg y) rfl hb_collator_collatorref01_Neg rfl rfl rfl rfl ⟨(ar_tmp (av_rs 0 rfl rfl)), trivial⟩⟩,
    .inl ⟨wants_plain rfl, does_storeAgg 2 _ _ ty_agg_collatorref01_Num rfl rfl rfl rfl rfl (pt_box (av_os 0 rfl rfl)) (av_os 0 rfl rfl) (ar_tmp (av_rs 1 rfl rfl))⟩,
    trivial⟩ ?_
  refine nx_sub (fs' := [.box 4 192 [Bz 0, Tz 0, Bz 0, Tz 0], .box 2 94 [Bz (-x), Tz (-x)], .box 3 94 [Bz (-y), Tz (-y)]]) [0, 1, 4] rfl ?_
  refine nx_then ?_
  refine t_seq ?_
  refine t_region (F := ⟨_, _, _, _⟩) [.box 4 192 [Bz 0, Tz 0, Bz 0, Tz 0], .box 2 94 [Bz (-x), Tz (-x)], .box 3 94 [Bz (-y), Tz (-y)]] [] [(0, .slot 27 (NUM (-x))), (1, .slot 28 (NUM (-y))), (2, .slot 29 (NUM (gcdZ (-x) (-y)))), (3, .own 5 94 2), (4, .box 5 94 [Bz (gcdZ (-x) (-y)), Tz (gcdZ (-x) (-y))])] [] [0, 1, 2] [] rfl rfl follow rfl ⟨
    .inl ⟨wants_plain rfl, does_loadAgg _ ty_agg_collatorref01_Num rfl rfl rfl rfl rfl rfl (pt_box (av_fs 1 rfl)) (av_fs 1 rfl)⟩,
    .inl ⟨wants_plain rfl, does_loadAgg _ ty_agg_collatorref01_Num rfl rfl rfl rfl rfl rfl (pt_box (av_fs 2 rfl)) (av_fs 2 rfl)⟩,
    .inl ⟨wants_plain rfl, does_call (r_gcd (-x) (-y) (n10 (lneg hx) (by decide)) (n10 (lneg hy) (by decide))) rfl hb_collator_collatorref01_Gcd rfl rfl rfl rfl ⟨(ar_tmp (av_rs 0 rfl rfl)), (ar_tmp (av_rs 1 rfl rfl)), trivial⟩⟩,
    .inl ⟨wants_plain rfl, does_allocOwn [Bz 0, Tz 0] ty_zero_collatorref01_Num rfl rfl rfl rfl rfl z_num rfl⟩,
    .inl ⟨wants_plain rfl, does_storeNew 2 _ _ ty_agg_collatorref01_Num rfl rfl rfl rfl rfl (pt_own (av_rs 3 rfl rfl)) (av_rs 3 rfl rfl) (ar_tmp (av_rs 2 rfl rfl))⟩,
    trivial⟩ ?_
  refine nx_sub (fs' := [.box 4 192 [Bz 0, Tz 0, Bz 0, Tz 0], .box 2 94 [Bz (-x), Tz (-x)], .box 3 94 [Bz (-y), Tz (-y)], .box 5 94 [Bz (gcdZ (-x) (-y)), Tz (gcdZ (-x) (-y))]]) [0, 1, 2, 7] rfl ?_
  refine nx_then ?_
  refine t_seq ?_
  refine t_region (F := ⟨_, _, _, _⟩) [.box 4 192 [Bz 0, Tz 0, Bz 0, Tz 0], .box 2 94 [Bz (-x), Tz (-x)], .box 3 94 [Bz (-y), Tz (-y)], .box 5 94 [Bz (gcdZ (-x) (-y)), Tz (gcdZ (-x) (-y))]] [] [(0, .slot 31 (NUM (-x))), (1, .slot 32 (NUM (gcdZ (-x) (-y)))), (2, .slot 33 (VP.tup [NUM (divZ (-x) (gcdZ (-x) (-y))), NUM (modZ (-x) (gcdZ (-x) (-y)))])), (3, .slot 30 (VP.tup [NUM (divZ (-x) (gcdZ (-x) (-y))), NUM (modZ (-x) (gcdZ (-x) (-y)))])), (4, .slot 34 (NUM (divZ (-x) (gcdZ (-x) (-y))))), (5, .slot 35 (NUM (modZ (-x) (gcdZ (-x) (-y))))), (6, .own 6 94 2), (7, .own 7 94 2), (8, .box 6 94 [Bz (divZ (-x) (gcdZ (-x) (-y))), Tz (divZ (-x) (gcdZ (-x) (-y)))]), (9, .box 7 94 [Bz (modZ (-x) (gcdZ (-x) (-y))), Tz (modZ (-x) (gcdZ (-x) (-y)))])] [] [0, 1, 2, 3] [] rfl rfl follow rfl ⟨
    .inl ⟨wants_plain rfl, does_loadAgg _ ty_agg_collatorref01_Num rfl rfl rfl rfl rfl rfl (pt_box (av_fs 1 rfl)) (av_fs 1 rfl)⟩,
    .inl ⟨wants_plain rfl, does_loadAgg _ ty_agg_collatorref01_Num rfl rfl rfl rfl rfl rfl (pt_box (av_fs 3 rfl)) (av_fs 3 rfl)⟩,
    .inl ⟨wants_plain rfl, does_call (r_div (-x) (gcdZ (-x) (-y)) (n10 (lneg hx) (by decide)) (n10 (lgcd (lneg hx) (lneg hy)) (by decide))) rfl hb_collator_collatorref01_Div rfl rfl rfl rfl ⟨(ar_tmp (av_rs 0 rfl rfl)), (ar_tmp (av_rs 1 rfl rfl)), trivial⟩⟩,
    .inl ⟨wants_plain rfl, does_move _ (.inl rfl) rfl rfl rfl rfl (ar_tmp (av_rs 2 rfl rfl))⟩,
    .inl ⟨wants_plain rfl, does_extract (ps := [NUM (divZ (-x) (gcdZ (-x) (-y))), NUM (modZ (-x) (gcdZ (-x) (-y)))]) _ _ rfl rfl rfl rfl rfl (ar_tmp (av_rs 3 rfl rfl)) rfl⟩,
    .inl ⟨wants_plain rfl, does_extract (ps := [NUM (divZ (-x) (gcdZ (-x) (-y))), NUM (modZ (-x) (gcdZ (-x) (-y)))]) _ _ rfl rfl rfl rfl rfl (ar_tmp (av_rs 3 rfl rfl)) rfl⟩,
    .inl ⟨wants_plain rfl, does_allocOwn [Bz 0, Tz 0] ty_zero_collatorref01_Num rfl rfl rfl rfl rfl z_num rfl⟩,
    .inl ⟨wants_plain rfl, does_allocOwn [Bz 0, Tz 0] ty_zero_collatorref01_Num rfl rfl rfl rfl rfl z_num rfl⟩,
    .inl ⟨wants_plain rfl, does_storeNew 2 _ _ ty_agg_collatorref01_Num rfl rfl rfl rfl rfl (pt_own (av_rs 6 rfl rfl)) (av_rs 6 rfl rfl) (ar_tmp (av_rs 4 rfl rfl))⟩,
    .inl ⟨wants_plain rfl, does_storeNew 2 _ _ ty_agg_collatorref01_Num rfl rfl rfl rfl rfl (pt_own (av_rs 7 rfl rfl)) (av_rs 7 rfl rfl) (ar_tmp (av_rs 5 rfl rfl))⟩,
    trivial⟩ ?_
  refine nx_sub (fs' := [.box 4 192 [Bz 0, Tz 0, Bz 0, Tz 0], .box 3 94 [Bz (-y), Tz (-y)], .box 5 94 [Bz (gcdZ (-x) (-y)), Tz (gcdZ (-x) (-y))], .box 6 94 [Bz (divZ (-x) (gcdZ (-x) (-y))), Tz (divZ (-x) (gcdZ (-x) (-y)))]]) [0, 2, 3, 12] rfl ?_
  refine nx_then ?_
  refine t_seq ?_
  refine t_region (F := ⟨_, _, _, _⟩) [.box 4 192 [Bz 0, Tz 0, Bz 0, Tz 0], .box 3 94 [Bz (-y), Tz (-y)], .box 5 94 [Bz (gcdZ (-x) (-y)), Tz (gcdZ (-x) (-y))], .box 6 94 [Bz (divZ (-x) (gcdZ (-x) (-y))), Tz (divZ (-x) (gcdZ (-x) (-y)))]] [] [(0, .slot 37 (NUM (-y))), (1, .slot 38 (NUM (gcdZ (-x) (-y)))), (2, .slot 39 (VP.tup [NUM (divZ (-y) (gcdZ (-x) (-y))), NUM (modZ (-y) (gcdZ (-x) (-y)))])), (3, .slot 36 (VP.tup [NUM (divZ (-y) (gcdZ (-x) (-y))), NUM (modZ (-y) (gcdZ (-x) (-y)))])), (4, .slot 40 (NUM (divZ (-y) (gcdZ (-x) (-y))))), (5, .slot 41 (NUM (modZ (-y) (gcdZ (-x) (-y))))), (6, .own 8 94 2), (7, .own 9 94 2), (8, .box 8 94 [Bz (divZ (-y) (gcdZ (-x) (-y))), Tz (divZ (-y) (gcdZ (-x) (-y)))]), (9, .box 9 94 [Bz (modZ (-y) (gcdZ (-x) (-y))), Tz (modZ (-y) (gcdZ (-x) (-y)))])] [] [0, 1, 2, 3] [] rfl rfl follow rfl ⟨
    .inl ⟨wants_plain rfl, does_loadAgg _ ty_agg_collatorref01_Num rfl rfl rfl rfl rfl rfl (pt_box (av_fs 1 rfl)) (av_fs 1 rfl)⟩,
    .inl ⟨wants_plain rfl, does_loadAgg _ ty_agg_collatorref01_Num rfl rfl rfl rfl rfl rfl (pt_box (av_fs 2 rfl)) (av_fs 2 rfl)⟩,
    .inl ⟨wants_plain rfl, does_call (r_div (-y) (gcdZ (-x) (-y)) (n10 (lneg hy) (by decide)) (n10 (lgcd (lneg hx) (lneg hy)) (by decide))) rfl hb_collator_collatorref01_Div rfl rfl rfl rfl ⟨(ar_tmp (av_rs 0 rfl rfl)), (ar_tmp (av_rs 1 rfl rfl)), trivial⟩⟩,
    .inl ⟨wants_plain rfl, does_move _ (.inl rfl) rfl rfl rfl rfl (ar_tmp (av_rs 2 rfl rfl))⟩,
    .inl ⟨wants_plain rfl, does_extract (ps := [NUM (divZ (-y) (gcdZ (-x) (-y))), NUM (modZ (-y) (gcdZ (-x) (-y)))]) _ _ rfl rfl rfl rfl rfl (ar_tmp (av_rs 3 rfl rfl)) rfl⟩,
    .inl ⟨wants_plain rfl, does_extract (ps := [NUM (divZ (-y) (gcdZ (-x) (-y))), NUM (modZ (-y) (gcdZ (-x) (-y)))]) _ _ rfl rfl rfl rfl rfl (ar_tmp (av_rs 3 rfl rfl)) rfl⟩,
    .inl ⟨wants_plain rfl, does_allocOwn [Bz 0, Tz 0] ty_zero_collatorref01_Num rfl rfl rfl rfl rfl z_num rfl⟩,
    .inl ⟨wants_plain rfl, does_allocOwn [Bz 0, Tz 0] ty_zero_collatorref01_Num rfl rfl rfl rfl rfl z_num rfl⟩,
    .inl ⟨wants_plain rfl, does_storeNew 2 _ _ ty_agg_collatorref01_Num rfl rfl rfl rfl rfl (pt_own (av_rs 6 rfl rfl)) (av_rs 6 rfl rfl) (ar_tmp (av_rs 4 rfl rfl))⟩,
    .inl ⟨wants_plain rfl, does_storeNew 2 _ _ ty_agg_collatorref01_Num rfl rfl rfl rfl rfl (pt_own (av_rs 7 rfl rfl)) (av_rs 7 rfl rfl) (ar_tmp (av_rs 5 rfl rfl))⟩,
    trivial⟩ ?_
  refine nx_sub (fs' := [.box 4 192 [Bz 0, Tz 0, Bz 0, Tz 0], .box 6 94 [Bz (divZ (-x) (gcdZ (-x) (-y))), Tz (divZ (-x) (gcdZ (-x) (-y)))], .box 8 94 [Bz (divZ (-y) (gcdZ (-x) (-y))), Tz (divZ (-y) (gcdZ (-x) (-y)))]]) [0, 3, 12] rfl ?_
  refine nx_then ?_
  refine t_seq ?_
  refine t_region (F := ⟨_, _, _, _⟩) [.box 6 94 [Bz (divZ (-x) (gcdZ (-x) (-y))), Tz (divZ (-x) (gcdZ (-x) (-y)))], .box 8 94 [Bz (divZ (-y) (gcdZ (-x) (-y))), Tz (divZ (-y) (gcdZ (-x) (-y)))]] [(3, .box 4 192 [Bz 0, Tz 0, Bz 0, Tz 0])] [(0, .slot 42 (NUM (divZ (-x) (gcdZ (-x) (-y))))), (1, .slot 43 (NUM (divZ (-y) (gcdZ (-x) (-y))))), (2, .slot 44 (VP.agg [Bz (divZ (-x) (gcdZ (-x) (-y))), Tz (divZ (-x) (gcdZ (-x) (-y))), Bz (divZ (-y) (gcdZ (-x) (-y))), Tz (divZ (-y) (gcdZ (-x) (-y)))])), (3, .box 4 192 [Bz (divZ (-x) (gcdZ (-x) (-y))), Tz (divZ (-x) (gcdZ (-x) (-y))), Bz (divZ (-y) (gcdZ (-x) (-y))), Tz (divZ (-y) (gcdZ (-x) (-y)))])] [] [1, 2] [0] rfl rfl follow rfl ⟨
    .inl ⟨wants_plain rfl, does_loadAgg _ ty_agg_collatorref01_Num rfl rfl rfl rfl rfl rfl (pt_box (av_fs 0 rfl)) (av_fs 0 rfl)⟩,
    .inl ⟨wants_plain rfl, does_loadAgg _ ty_agg_collatorref01_Num rfl rfl rfl rfl rfl rfl (pt_box (av_fs 1 rfl)) (av_fs 1 rfl)⟩,
    .inl ⟨wants_plain rfl, does_build [Bz 0, Tz 0, Bz 0, Tz 0] ty_zero_collatorref02_Frac ty_pl_collatorref02_Frac rfl rfl rfl rfl rfl z_rfrac (.cons 0 [Bz (divZ (-x) (gcdZ (-x) (-y))), Tz (divZ (-x) (gcdZ (-x) (-y)))] rfl rfl (ar_cells_agg (ar_tmp (av_rs 0 rfl rfl))) (.cons 2 [Bz (divZ (-y) (gcdZ (-x) (-y))), Tz (divZ (-y) (gcdZ (-x) (-y)))] rfl rfl (ar_cells_agg (ar_tmp (av_rs 1 rfl rfl))) (.nil _)))⟩,
    .inl ⟨wants_plain rfl, does_storeAgg 4 _ _ ty_agg_collatorref02_Frac rfl rfl rfl rfl rfl (pt_box (av_os 0 rfl rfl)) (av_os 0 rfl rfl) (ar_tmp (av_rs 2 rfl rfl))⟩,
    trivial⟩ ?_
  refine nx_sub (fs' := [.box 4 192 [Bz (divZ (-x) (gcdZ (-x) (-y))), Tz (divZ (-x) (gcdZ (-x) (-y))), Bz (divZ (-y) (gcdZ (-x) (-y))), Tz (divZ (-y) (gcdZ (-x) (-y)))]]) [5] rfl ?_
  refine nx_then ?_
  refine t_ret ?_
  exact rt_one rfl (res_agg 0 ty_agg_collatorref02_Frac rfl)
set_option maxRecDepth 100000 in
set_option maxHeartbeats 4000000 in
theorem g_make4 (x y : Int) (hx : L x ≤ 5000) (hy : L y ≤ 5000) (h : y ≠ 0) (k : x ≠ 0) (hn : ¬ y < 0) : Spec Try.prog 142 [(NUM x).p, (NUM y).p] (VP.agg [Bz (divZ x (gcdZ x y)), Tz (divZ x (gcdZ x y)), Bz (divZ y (gcdZ x y)), Tz (divZ y (gcdZ x y))]) := by
  refine spec_of (xs := [NUM x, NUM y]) 45 [2, 3, 4, 5, 6, 7, 8, 9] Try.func142 rfl Try.ntmps142 rfl fun w0 => ?_
  refine t_seq ?_
  refine t_region (F := ⟨_, _, _, _⟩) [.slot 0 (NUM x), .slot 1 (NUM y)] [] [(0, .box 2 94 [Bz x, Tz x]), (1, .box 3 94 [Bz y, Tz y]), (2, .box 4 192 [Bz 0, Tz 0, Bz 0, Tz 0])] [] [0, 1] [] rfl rfl follow rfl ⟨
    .inl ⟨wants_plain rfl, does_box _ rfl rfl rfl rfl rfl (ar_tmp (av_fs 0 rfl))⟩,
    .inl ⟨wants_plain rfl, does_box _ rfl rfl rfl rfl rfl (ar_tmp (av_fs 1 rfl))⟩,
    .inl ⟨wants_plain rfl, does_alloc ty_zero_collatorref02_Frac rfl rfl rfl rfl rfl z_rfrac⟩,
    trivial⟩ ?_
  refine nx_sub (fs' := [.box 2 94 [Bz x, Tz x], .box 3 94 [Bz y, Tz y], .box 4 192 [Bz 0, Tz 0, Bz 0, Tz 0]]) [2, 3, 4] rfl ?_
  refine nx_then ?_
  refine t_seq ?_
  refine t_seq ?_
  refine t_region (F := ⟨_, _, _, _⟩) [.box 2 94 [Bz x, Tz x], .box 3 94 [Bz y, Tz y], .box 4 192 [Bz 0, Tz 0, Bz 0, Tz 0]] [] [(0, .fp 10 3 1), (1, .slot 11 (Tz y)), (2, .slot 12 (VP.int .i64 (((dg 10 y.natAbs).length : Nat) : Int))), (3, .slot 13 (VP.bool ((((dg 10 y.natAbs).length : Nat) : Int) == 0))), (4, .slot 14 (VP.bool ((((dg 10 y.natAbs).length : Nat) : Int) == 0))), (5, .fp 15 2 1), (6, .slot 16 (Tz x)), (7, .slot 17 (VP.int .i64 (((dg 10 x.natAbs).length : Nat) : Int))), (8, .slot 18 (VP.bool ((((dg 10 x.natAbs).length : Nat) : Int) == 0))), (9, .slot 19 (VP.bool ((((dg 10 x.natAbs).length : Nat) : Int) == 0)))] [] [0, 1, 2] [] rfl rfl follow rfl ⟨
    .inl ⟨wants_plain rfl, does_field _ _ _ 1 ty_f1_collatorref01_Num rfl rfl rfl rfl rfl rfl rfl (pt_box (av_fs 1 rfl))⟩,
    .inl ⟨wants_plain rfl, does_loadOne _ ty_one___int rfl rfl rfl rfl rfl rfl (pt_fp (av_rs 0 rfl rfl)) (av_fs 1 rfl)⟩,
    .inl ⟨wants_plain rfl, does_len _ _ (by kernel_rfl) rfl rfl rfl rfl rfl (ar_tmp (av_rs 1 rfl rfl))⟩,
    .inl ⟨wants_plain rfl, does_cmp (m := (((dg 10 y.natAbs).length : Nat) : Int)) (n := 0) _ _ _ _ _ rfl rfl rfl rfl rfl rfl .i64 (ar_tmp (av_rs 2 rfl rfl)) (ar_const (fun _ => rfl))⟩,
    .inl ⟨wants_plain rfl, does_move _ (.inl rfl) rfl rfl rfl rfl (ar_tmp (av_rs 3 rfl rfl))⟩,
    .inl ⟨wants_guard false rfl rfl rfl (av_bool (len10_no h) (av_rs 4 rfl rfl)), does_field _ _ _ 1 ty_f1_collatorref01_Num rfl rfl rfl rfl rfl rfl rfl (pt_box (av_fs 0 rfl))⟩,
    .inl ⟨wants_guard false rfl rfl rfl (av_bool (len10_no h) (av_rs 4 rfl rfl)), does_loadOne _ ty_one___int rfl rfl rfl rfl rfl rfl (pt_fp (av_rs 5 rfl rfl)) (av_fs 0 rfl)⟩,
    .inl ⟨wants_guard false rfl rfl rfl (av_bool (len10_no h) (av_rs 4 rfl rfl)), does_len _ _ (by kernel_rfl) rfl rfl rfl rfl rfl (ar_tmp (av_rs 6 rfl rfl))⟩,
    .inl ⟨wants_guard false rfl rfl rfl (av_bool (len10_no h) (av_rs 4 rfl rfl)), does_cmp (m := (((dg 10 x.natAbs).length : Nat) : Int)) (n := 0) _ _ _ _ _ rfl rfl rfl rfl rfl rfl .i64 (ar_tmp (av_rs 7 rfl rfl)) (ar_const (fun _ => rfl))⟩,
    .inl ⟨wants_plain rfl, does_pick false _ _ _ rfl rfl rfl rfl rfl (ar_tmp (av_bool (len10_no h) (av_rs 4 rfl rfl))) (ar_tmp (av_rs 8 rfl rfl))⟩,
    trivial⟩ ?_
  refine nx_sub (fs' := [.box 2 94 [Bz x, Tz x], .box 3 94 [Bz y, Tz y], .box 4 192 [Bz 0, Tz 0, Bz 0, Tz 0], .slot 19 (VP.bool ((((dg 10 x.natAbs).length : Nat) : Int) == 0))]) [0, 1, 2, 12] rfl ?_
  refine nx_then ?_
  refine t_cond_fe 3 rfl (len10_no k) ?_
  refine t_skip ?_
  refine nx_then ?_
  refine t_seq ?_
  refine t_seq ?_
  refine t_region (F := ⟨_, _, _, _⟩) [.box 2 94 [Bz x, Tz x], .box 3 94 [Bz y, Tz y], .box 4 192 [Bz 0, Tz 0, Bz 0, Tz 0], .slot 19 (VP.bool ((((dg 10 x.natAbs).length : Nat) : Int) == 0))] [] [(0, .fp 21 3 0), (1, .slot 22 (Bz y))] [] [0, 1, 2, 3] [] rfl rfl follow rfl ⟨
    .inl ⟨wants_plain rfl, does_field _ _ _ 0 ty_f0_collatorref01_Num rfl rfl rfl rfl rfl rfl rfl (pt_box (av_fs 1 rfl))⟩,
    .inl ⟨wants_plain rfl, does_loadOne _ ty_one_bool rfl rfl rfl rfl rfl rfl (pt_fp (av_rs 0 rfl rfl)) (av_fs 1 rfl)⟩,
    trivial⟩ ?_
  refine nx_sub (fs' := [.box 2 94 [Bz x, Tz x], .box 3 94 [Bz y, Tz y], .box 4 192 [Bz 0, Tz 0, Bz 0, Tz 0], .slot 22 (Bz y)]) [0, 1, 2, 5] rfl ?_
  refine nx_then ?_
  refine t_cond_fe 3 rfl (decide_eq_false hn) ?_
  refine t_skip ?_
  refine nx_then ?_
  refine t_seq ?_
  refine t_region (F := ⟨_, _, _, _⟩) [.box 2 94 [Bz x, Tz x], .box 3 94 [Bz y, Tz y], .box 4 192 [Bz 0, Tz 0, Bz 0, Tz 0], .slot 22 (Bz y)] [] [(0, .slot 27 (NUM x)), (1, .slot 28 (NUM y)), (2, .slot 29 (NUM (gcdZ x y))), (3, .own 5 94 2), (4, .box 5 94 [Bz (gcdZ x y), Tz (gcdZ x y)])] [] [0, 1, 2, 3] [] rfl rfl follow rfl ⟨
    .inl ⟨wants_plain rfl, does_loadAgg _ ty_agg_collatorref01_Num rfl rfl rfl rfl rfl rfl (pt_box (av_fs 0 rfl)) (av_fs 0 rfl)⟩,
    .inl ⟨wants_plain rfl, does_loadAgg _ ty_agg_collatorref01_Num rfl rfl rfl rfl rfl rfl (pt_box (av_fs 1 rfl)) (av_fs 1 rfl)⟩,
    .inl ⟨wants_plain rfl, does_call (r_gcd x y (n10 hx (by decide)) (n10 hy (by decide))) rfl hb_collator_collatorref01_Gcd rfl rfl rfl rfl ⟨(ar_tmp (av_rs 0 rfl rfl)), (ar_tmp (av_rs 1 rfl rfl)), trivial⟩⟩,
    .inl ⟨wants_plain rfl, does_allocOwn [Bz 0, Tz 0] ty_zero_collatorref01_Num rfl rfl rfl rfl rfl z_num rfl⟩,
    .inl ⟨wants_plain rfl, does_storeNew 2 _ _ ty_agg_collatorref01_Num rfl rfl rfl rfl rfl (pt_own (av_rs 3 rfl rfl)) (av_rs 3 rfl rfl) (ar_tmp (av_rs 2 rfl rfl))⟩,
    trivial⟩ ?_
  refine nx_sub (fs' := [.box 2 94 [Bz x, Tz x], .box 3 94 [Bz y, Tz y], .box 4 192 [Bz 0, Tz 0, Bz 0, Tz 0], .box 5 94 [Bz (gcdZ x y), Tz (gcdZ x y)]]) [0, 1, 2, 8] rfl ?_
  refine nx_then ?_
  refine t_seq ?_
  refine t_region (F := ⟨_, _, _, _⟩) [.box 2 94 [Bz x, Tz x], .box 3 94 [Bz y, Tz y], .box 4 192 [Bz 0, Tz 0, Bz 0, Tz 0], .box 5 94 [Bz (gcdZ x y), Tz (gcdZ x y)]] [] [(0, .slot 31 (NUM x)), (1, .slot 32 (NUM (gcdZ x y))), (2, .slot 33 (VP.tup [NUM (divZ x (gcdZ x y)), NUM (modZ x (gcdZ x y))])), (3, .slot 30 (VP.tup [NUM (divZ x (gcdZ x y)), NUM (modZ x (gcdZ x y))])), (4, .slot 34 (NUM (divZ x (gcdZ x y)))), (5, .slot 35 (NUM (modZ x (gcdZ x y)))), (6, .own 6 94 2), (7, .own 7 94 2), (8, .box 6 94 [Bz (divZ x (gcdZ x y)), Tz (divZ x (gcdZ x y))]), (9, .box 7 94 [Bz (modZ x (gcdZ x y)), Tz (modZ x (gcdZ x y))])] [] [0, 1, 2, 3] [] rfl rfl follow rfl ⟨
    .inl ⟨wants_plain rfl, does_loadAgg _ ty_agg_collatorref01_Num rfl rfl rfl rfl rfl rfl (pt_box (av_fs 0 rfl)) (av_fs 0 rfl)⟩,
    .inl ⟨wants_plain rfl, does_loadAgg _ ty_agg_collatorref01_Num rfl rfl rfl rfl rfl rfl (pt_box (av_fs 3 rfl)) (av_fs 3 rfl)⟩,
    .inl ⟨wants_plain rfl, does_call (r_div x (gcdZ x y) (n10 hx (by decide)) (n10 (lgcd hx hy) (by decide))) rfl hb_collator_collatorref01_Div rfl rfl rfl rfl ⟨(ar_tmp (av_rs 0 rfl rfl)), (ar_tmp (av_rs 1 rfl rfl)), trivial⟩⟩,
    .inl ⟨wants_plain rfl, does_move _ (.inl rfl) rfl rfl rfl rfl (ar_tmp (av_rs 2 rfl rfl))⟩,
    .inl ⟨wants_plain rfl, does_extract (ps := [NUM (divZ x (gcdZ x y)), NUM (modZ x (gcdZ x y))]) _ _ rfl rfl rfl rfl rfl (ar_tmp (av_rs 3 rfl rfl)) rfl⟩,
    .inl ⟨wants_plain rfl, does_extract (ps := [NUM (divZ x (gcdZ x y)), NUM (modZ x (gcdZ x y))]) _ _ rfl rfl rfl rfl rfl (ar_tmp (av_rs 3 rfl rfl)) rfl⟩,
    .inl ⟨wants_plain rfl, does_allocOwn [Bz 0, Tz 0] ty_zero_collatorref01_Num rfl rfl rfl rfl rfl z_num rfl⟩,
    .inl ⟨wants_plain rfl, does_allocOwn [Bz 0, Tz 0] ty_zero_collatorref01_Num rfl rfl rfl rfl rfl z_num rfl⟩,
    .inl ⟨wants_plain rfl, does_storeNew 2 _ _ ty_agg_collatorref01_Num rfl rfl rfl rfl rfl (pt_own (av_rs 6 rfl rfl)) (av_rs 6 rfl rfl) (ar_tmp (av_rs 4 rfl rfl))⟩,
    .inl ⟨wants_plain rfl, does_storeNew 2 _ _ ty_agg_collatorref01_Num rfl rfl rfl rfl rfl (pt_own (av_rs 7 rfl rfl)) (av_rs 7 rfl rfl) (ar_tmp (av_rs 5 rfl rfl))⟩,
    trivial⟩ ?_
  refine nx_sub (fs' := [.box 3 94 [Bz y, Tz y], .box 4 192 [Bz 0, Tz 0, Bz 0, Tz 0], .box 5 94 [Bz (gcdZ x y), Tz (gcdZ x y)], .box 6 94 [Bz (divZ x (gcdZ x y)), Tz (divZ x (gcdZ x y))]]) [1, 2, 3, 12] rfl ?_
  refine nx_then ?_
  refine t_seq ?_
  refine t_region (F := ⟨_, _, _, _⟩) [.box 3 94 [Bz y, Tz y], .box 4 192 [Bz 0, Tz 0, Bz 0, Tz 0], .box 5 94 [Bz (gcdZ x y), Tz (gcdZ x y)], .box 6 94 [Bz (divZ x (gcdZ x y)), Tz (divZ x (gcdZ x y))]] [] [(0, .slot 37 (NUM y)), (1, .slot 38 (NUM (gcdZ x y))), (2, .slot 39 (VP.tup [NUM (divZ y (gcdZ x y)), NUM (modZ y (gcdZ x y))])), (3, .slot 36 (VP.tup [NUM (divZ y (gcdZ x y)), NUM (modZ y (gcdZ x y))])), (4, .slot 40 (NUM (divZ y (gcdZ x y)))), (5, .slot 41 (NUM (modZ y (gcdZ x y)))), (6, .own 8 94 2), (7, .own 9 94 2), (8, .box 8 94 [Bz (divZ y (gcdZ x y)), Tz (divZ y (gcdZ x y))]), (9, .box 9 94 [Bz (modZ y (gcdZ x y)), Tz (modZ y (gcdZ x y))])] [] [0, 1, 2, 3] [] rfl rfl follow rfl ⟨
    .inl ⟨wants_plain rfl, does_loadAgg _ ty_agg_collatorref01_Num rfl rfl rfl rfl rfl rfl (pt_box (av_fs 0 rfl)) (av_fs 0 rfl)⟩,
    .inl ⟨wants_plain rfl, does_loadAgg _ ty_agg_collatorref01_Num rfl rfl rfl rfl rfl rfl (pt_box (av_fs 2 rfl)) (av_fs 2 rfl)⟩,
    .inl ⟨wants_plain rfl, does_call (r_div y (gcdZ x y) (n10 hy (by decide)) (n10 (lgcd hx hy) (by decide))) rfl hb_collator_collatorref01_Div rfl rfl rfl rfl ⟨(ar_tmp (av_rs 0 rfl rfl)), (ar_tmp (av_rs 1 rfl rfl)), trivial⟩⟩,
    .inl ⟨wants_plain rfl, does_move _ (.inl rfl) rfl rfl rfl rfl (ar_tmp (av_rs 2 rfl rfl))⟩,
    .inl ⟨wants_plain rfl, does_extract (ps := [NUM (divZ y (gcdZ x y)), NUM (modZ y (gcdZ x y))]) _ _ rfl rfl rfl rfl rfl (ar_tmp (av_rs 3 rfl rfl)) rfl⟩,
    .inl ⟨wants_plain rfl, does_extract (ps := [NUM (divZ y (gcdZ x y)), NUM (modZ y (gcdZ x y))]) _ _ rfl rfl rfl rfl rfl (ar_tmp (av_rs 3 rfl rfl)) rfl⟩,
    .inl ⟨wants_plain rfl, does_allocOwn [Bz 0, Tz 0] ty_zero_collatorref01_Num rfl rfl rfl rfl rfl z_num rfl⟩,
    .inl ⟨wants_plain rfl, does_allocOwn [Bz 0, Tz 0] ty_zero_collatorref01_Num rfl rfl rfl rfl rfl z_num rfl⟩,
    .inl ⟨wants_plain rfl, does_storeNew 2 _ _ ty_agg_collatorref01_Num rfl rfl rfl rfl rfl (pt_own (av_rs 6 rfl rfl)) (av_rs 6 rfl rfl) (ar_tmp (av_rs 4 rfl rfl))⟩,
    .inl ⟨wants_plain rfl, does_storeNew 2 _ _ ty_agg_collatorref01_Num rfl rfl rfl rfl rfl (pt_own (av_rs 7 rfl rfl)) (av_rs 7 rfl rfl) (ar_tmp (av_rs 5 rfl rfl))⟩,
    trivial⟩ ?_
  refine nx_sub (fs' := [.box 4 192 [Bz 0, Tz 0, Bz 0, Tz 0], .box 6 94 [Bz (divZ x (gcdZ x y)), Tz (divZ x (gcdZ x y))], .box 8 94 [Bz (divZ y (gcdZ x y)), Tz (divZ y (gcdZ x y))]]) [1, 3, 12] rfl ?_
  refine nx_then ?_
  refine t_seq ?_
  refine t_region (F := ⟨_, _, _, _⟩) [.box 6 94 [Bz (divZ x (gcdZ x y)), Tz (divZ x (gcdZ x y))], .box 8 94 [Bz (divZ y (gcdZ x y)), Tz (divZ y (gcdZ x y))]] [(3, .box 4 192 [Bz 0, Tz 0, Bz 0, Tz 0])] [(0, .slot 42 (NUM (divZ x (gcdZ x y)))), (1, .slot 43 (NUM (divZ y (gcdZ x y)))), (2, .slot 44 (VP.agg [Bz (divZ x (gcdZ x y)), Tz (divZ x (gcdZ x y)), Bz (divZ y (gcdZ x y)), Tz (divZ y (gcdZ x y))])), (3, .box 4 192 [Bz (divZ x (gcdZ x y)), Tz (divZ x (gcdZ x y)), Bz (divZ y (gcdZ x y)), Tz (divZ y (gcdZ x y))])] [] [1, 2] [0] rfl rfl follow rfl ⟨
    .inl ⟨wants_plain rfl, does_loadAgg _ ty_agg_collatorref01_Num rfl rfl rfl rfl rfl rfl (pt_box (av_fs 0 rfl)) (av_fs 0 rfl)⟩,
    .inl ⟨wants_plain rfl, does_loadAgg _ ty_agg_collatorref01_Num rfl rfl rfl rfl rfl rfl (pt_box (av_fs 1 rfl)) (av_fs 1 rfl)⟩,
    .inl ⟨wants_plain rfl, does_build [Bz 0, Tz 0, Bz 0, Tz 0] ty_zero_collatorref02_Frac ty_pl_collatorref02_Frac rfl rfl rfl rfl rfl z_rfrac (.cons 0 [Bz (divZ x (gcdZ x y)), Tz (divZ x (gcdZ x y))] rfl rfl (ar_cells_agg (ar_tmp (av_rs 0 rfl rfl))) (.cons 2 [Bz (divZ y (gcdZ x y)), Tz (divZ y (gcdZ x y))] rfl rfl (ar_cells_agg (ar_tmp (av_rs 1 rfl rfl))) (.nil _)))⟩,
    .inl ⟨wants_plain rfl, does_storeAgg 4 _ _ ty_agg_collatorref02_Frac rfl rfl rfl rfl rfl (pt_box (av_os 0 rfl rfl)) (av_os 0 rfl rfl) (ar_tmp (av_rs 2 rfl rfl))⟩,
    trivial⟩ ?_
  refine nx_sub (fs' := [.box 4 192 [Bz (divZ x (gcdZ x y)), Tz (divZ x (gcdZ x y)), Bz (divZ y (gcdZ x y)), Tz (divZ y (gcdZ x y))]]) [5] rfl ?_
  refine nx_then ?_
  refine t_ret ?_
  exact rt_one rfl (res_agg 0 ty_agg_collatorref02_Frac rfl)
theorem g_make (x y : Int) (hx : L x ≤ 5000) (hy : L y ≤ 5000) : Spec Try.prog 142 [(NUM x).p, (NUM y).p] (VP.agg [Bz (rmO x y), Tz (rmO x y), Bz (rmD x y), Tz (rmD x y)]) := by
  by_cases h : y = 0
  · rw [show rmO x y = 0 from if_pos (.inr h), show rmD x y = 1 from if_pos (.inr h)]; exact g_make1 x y hx hy h
  · by_cases k : x = 0
    · rw [show rmO x y = 0 from if_pos (.inl k), show rmD x y = 1 from if_pos (.inl k)]; exact g_make2 x y hx hy h k
    · have hxy : ¬ (x = 0 ∨ y = 0) := by omega
      by_cases hn : y < 0
      · rw [show rmO x y = divZ (-x) (gcdZ (-x) (-y)) from by unfold rmO; rw [if_neg hxy, if_pos hn], show rmD x y = divZ (-y) (gcdZ (-x) (-y)) from by unfold rmD; rw [if_neg hxy, if_pos hn]]; exact g_make3 x y hx hy h k hn
      · rw [show rmO x y = divZ x (gcdZ x y) from by unfold rmO; rw [if_neg hxy, if_neg hn], show rmD x y = divZ y (gcdZ x y) from by unfold rmD; rw [if_neg hxy, if_neg hn]]; exact g_make4 x y hx hy h k hn
set_option maxRecDepth 100000 in
set_option maxHeartbeats 4000000 in
theorem g_form1 (p q : Int) (hp : L p ≤ 1000) (hq : L q ≤ 1000) (h : q = 1) : Spec Try.prog 141 [(VP.agg [Bz p, Tz p, Bz q, Tz q]).p] (VP.agg [Bz p, Dz p, Bz 0, Dz 0]) := by
  refine spec_of (xs := [VP.agg [Bz p, Tz p, Bz q, Tz q]]) 18 [1, 2, 3] Try.func141 rfl Try.ntmps141 rfl fun w0 => ?_
  refine t_seq ?_
  refine t_region (F := ⟨_, _, _, _⟩) [.slot 0 (VP.agg [Bz p, Tz p, Bz q, Tz q])] [] [(0, .box 1 192 [Bz p, Tz p, Bz q, Tz q]), (1, .box 2 26 [Bz 0, Dz 0, Bz 0, Dz 0])] [] [0] [] rfl rfl follow rfl ⟨
    .inl ⟨wants_plain rfl, does_box _ rfl rfl rfl rfl rfl (ar_tmp (av_fs 0 rfl))⟩,
    .inl ⟨wants_plain rfl, does_alloc ty_zero_api_Frac rfl rfl rfl rfl rfl z_frac⟩,
    trivial⟩ ?_
  refine nx_sub (fs' := [.box 1 192 [Bz p, Tz p, Bz q, Tz q], .box 2 26 [Bz 0, Dz 0, Bz 0, Dz 0]]) [1, 2] rfl ?_
  refine nx_then ?_
  refine t_seq ?_
  refine t_region (F := ⟨_, _, _, _⟩) [.box 1 192 [Bz p, Tz p, Bz q, Tz q], .box 2 26 [Bz 0, Dz 0, Bz 0, Dz 0]] [] [(0, .fp 4 1 0), (1, .slot 5 (NUM p)), (2, .slot 6 (INT p)), (3, .slot 7 (VP.agg [Bz p, Dz p, Bz 0, Dz 0])), (4, .own 3 26 4), (5, .box 3 26 [Bz p, Dz p, Bz 0, Dz 0])] [] [0, 1] [] rfl rfl follow rfl ⟨
    .inl ⟨wants_plain rfl, does_field _ _ _ 0 ty_f0_collatorref02_Frac rfl rfl rfl rfl rfl rfl rfl (pt_box (av_fs 0 rfl))⟩,
    .inl ⟨wants_plain rfl, does_loadAgg _ ty_agg_collatorref01_Num rfl rfl rfl rfl rfl rfl (pt_fp (av_rs 0 rfl rfl)) (av_fs 0 rfl)⟩,
    .inl ⟨wants_plain rfl, does_call (r_form p (n10 hp (by decide))) rfl hb_collator_collatorref01_Form rfl rfl rfl rfl ⟨(ar_tmp (av_rs 1 rfl rfl)), trivial⟩⟩,
    .inl ⟨wants_plain rfl, does_build [Bz 0, Dz 0, Bz 0, Dz 0] ty_zero_api_Frac ty_pl_api_Frac rfl rfl rfl rfl rfl z_frac (.cons 0 [Bz p, Dz p] rfl rfl (ar_cells_agg (ar_tmp (av_rs 2 rfl rfl))) (.nil _))⟩,
    .inl ⟨wants_plain rfl, does_allocOwn [Bz 0, Dz 0, Bz 0, Dz 0] ty_zero_api_Frac rfl rfl rfl rfl rfl z_frac rfl⟩,
    .inl ⟨wants_plain rfl, does_storeNew 4 _ _ ty_agg_api_Frac rfl rfl rfl rfl rfl (pt_own (av_rs 4 rfl rfl)) (av_rs 4 rfl rfl) (ar_tmp (av_rs 3 rfl rfl))⟩,
    trivial⟩ ?_
  refine nx_sub (fs' := [.box 1 192 [Bz p, Tz p, Bz q, Tz q], .box 2 26 [Bz 0, Dz 0, Bz 0, Dz 0], .box 3 26 [Bz p, Dz p, Bz 0, Dz 0]]) [0, 1, 7] rfl ?_
  refine nx_then ?_
  refine t_seq ?_
  refine t_seq ?_
  refine t_region (F := ⟨_, _, _, _⟩) [.box 1 192 [Bz p, Tz p, Bz q, Tz q], .box 2 26 [Bz 0, Dz 0, Bz 0, Dz 0], .box 3 26 [Bz p, Dz p, Bz 0, Dz 0]] [] [(0, .fp 8 1 2), (1, .slot 9 (NUM q)), (2, .slot 10 (NUM 1)), (3, .slot 11 (VP.int .i64 (cmpZ q 1))), (4, .slot 12 (VP.bool ((cmpZ q 1) != 0)))] [] [0, 1, 2] [] rfl rfl follow rfl ⟨
    .inl ⟨wants_plain rfl, does_field _ _ _ 2 ty_f1_collatorref02_Frac rfl rfl rfl rfl rfl rfl rfl (pt_box (av_fs 0 rfl))⟩,
    .inl ⟨wants_plain rfl, does_loadAgg _ ty_agg_collatorref01_Num rfl rfl rfl rfl rfl rfl (pt_fp (av_rs 0 rfl rfl)) (av_fs 0 rfl)⟩,
    .inl ⟨wants_plain rfl, does_call (r_int 1 (by decide) (by decide)) rfl hb_collator_collatorref01_Int rfl rfl rfl rfl ⟨(ar_const (fun _ => rfl)), trivial⟩⟩,
    .inl ⟨wants_plain rfl, does_call (r_cmp q 1 (n10 hq (by decide)) (n10 lone (by decide))) rfl hb_collator_collatorref01_Cmp rfl rfl rfl rfl ⟨(ar_tmp (av_rs 1 rfl rfl)), (ar_tmp (av_rs 2 rfl rfl)), trivial⟩⟩,
    .inl ⟨wants_plain rfl, does_cmp (m := (cmpZ q 1)) (n := 0) _ _ _ _ _ rfl rfl rfl rfl rfl rfl .i64 (ar_tmp (av_rs 3 rfl rfl)) (ar_const (fun _ => rfl))⟩,
    trivial⟩ ?_
  refine nx_sub (fs' := [.box 1 192 [Bz p, Tz p, Bz q, Tz q], .box 2 26 [Bz 0, Dz 0, Bz 0, Dz 0], .box 3 26 [Bz p, Dz p, Bz 0, Dz 0], .slot 12 (VP.bool ((cmpZ q 1) != 0))]) [0, 1, 2, 7] rfl ?_
  refine nx_then ?_
  refine t_cond_fe 3 rfl (cmp_one' h) ?_
  refine t_skip ?_
  refine nx_then ?_
  refine t_seq ?_
  refine t_region (F := ⟨_, _, _, _⟩) [.box 1 192 [Bz p, Tz p, Bz q, Tz q], .box 3 26 [Bz p, Dz p, Bz 0, Dz 0], .slot 12 (VP.bool ((cmpZ q 1) != 0))] [(1, .box 2 26 [Bz 0, Dz 0, Bz 0, Dz 0])] [(0, .slot 17 (VP.agg [Bz p, Dz p, Bz 0, Dz 0])), (1, .box 2 26 [Bz p, Dz p, Bz 0, Dz 0])] [] [0, 2, 3] [1] rfl rfl follow rfl ⟨
    .inl ⟨wants_plain rfl, does_loadAgg _ ty_agg_api_Frac rfl rfl rfl rfl rfl rfl (pt_box (av_fs 1 rfl)) (av_fs 1 rfl)⟩,
    .inl ⟨wants_plain rfl, does_storeAgg 4 _ _ ty_agg_api_Frac rfl rfl rfl rfl rfl (pt_box (av_os 0 rfl rfl)) (av_os 0 rfl rfl) (ar_tmp (av_rs 0 rfl rfl))⟩,
    trivial⟩ ?_
  refine nx_sub (fs' := [.box 2 26 [Bz p, Dz p, Bz 0, Dz 0]]) [4] rfl ?_
  refine nx_then ?_
  refine t_ret ?_
  exact rt_one rfl (res_agg 0 ty_agg_api_Frac rfl)
set_option maxRecDepth 100000 in
set_option maxHeartbeats 4000000 in
theorem g_form2 (p q : Int) (hp : L p ≤ 1000) (hq : L q ≤ 1000) (h : q ≠ 1) : Spec Try.prog 141 [(VP.agg [Bz p, Tz p, Bz q, Tz q]).p] (VP.agg [Bz p, Dz p, Bz q, Dz q]) := by
  refine spec_of (xs := [VP.agg [Bz p, Tz p, Bz q, Tz q]]) 18 [1, 2, 3] Try.func141 rfl Try.ntmps141 rfl fun w0 => ?_
  refine t_seq ?_
  refine t_region (F := ⟨_, _, _, _⟩) [.slot 0 (VP.agg [Bz p, Tz p, Bz q, Tz q])] [] [(0, .box 1 192 [Bz p, Tz p, Bz q, Tz q]), (1, .box 2 26 [Bz 0, Dz 0, Bz 0, Dz 0])] [] [0] [] rfl rfl follow rfl ⟨
    .inl ⟨wants_plain rfl, does_box _ rfl rfl rfl rfl rfl (ar_tmp (av_fs 0 rfl))⟩,
    .inl ⟨wants_plain rfl, does_alloc ty_zero_api_Frac rfl rfl rfl rfl rfl z_frac⟩,
    trivial⟩ ?_
  refine nx_sub (fs' := [.box 1 192 [Bz p, Tz p, Bz q, Tz q], .box 2 26 [Bz 0, Dz 0, Bz 0, Dz 0]]) [1, 2] rfl ?_
  refine nx_then ?_
  refine t_seq ?_
  refine t_region (F := ⟨_, _, _, _⟩) [.box 1 192 [Bz p, Tz p, Bz q, Tz q], .box 2 26 [Bz 0, Dz 0, Bz 0, Dz 0]] [] [(0, .fp 4 1 0), (1, .slot 5 (NUM p)), (2, .slot 6 (INT p)), (3, .slot 7 (VP.agg [Bz p, Dz p, Bz 0, Dz 0])), (4, .own 3 26 4), (5, .box 3 26 [Bz p, Dz p, Bz 0, Dz 0])] [] [0, 1] [] rfl rfl follow rfl ⟨
    .inl ⟨wants_plain rfl, does_field _ _ _ 0 ty_f0_collatorref02_Frac rfl rfl rfl rfl rfl rfl rfl (pt_box (av_fs 0 rfl))⟩,
    .inl ⟨wants_plain rfl, does_loadAgg _ ty_agg_collatorref01_Num rfl rfl rfl rfl rfl rfl (pt_fp (av_rs 0 rfl rfl)) (av_fs 0 rfl)⟩,
    .inl ⟨wants_plain rfl, does_call (r_form p (n10 hp (by decide))) rfl hb_collator_collatorref01_Form rfl rfl rfl rfl ⟨(ar_tmp (av_rs 1 rfl rfl)), trivial⟩⟩,
    .inl ⟨wants_plain rfl, does_build [Bz 0, Dz 0, Bz 0, Dz 0] ty_zero_api_Frac ty_pl_api_Frac rfl rfl rfl rfl rfl z_frac (.cons 0 [Bz p, Dz p] rfl rfl (ar_cells_agg (ar_tmp (av_rs 2 rfl rfl))) (.nil _))⟩,
    .inl ⟨wants_plain rfl, does_allocOwn [Bz 0, Dz 0, Bz 0, Dz 0] ty_zero_api_Frac rfl rfl rfl rfl rfl z_frac rfl⟩,
    .inl ⟨wants_plain rfl, does_storeNew 4 _ _ ty_agg_api_Frac rfl rfl rfl rfl rfl (pt_own (av_rs 4 rfl rfl)) (av_rs 4 rfl rfl) (ar_tmp (av_rs 3 rfl rfl))⟩,
    trivial⟩ ?_
  refine nx_sub (fs' := [.box 1 192 [Bz p, Tz p, Bz q, Tz q], .box 2 26 [Bz 0, Dz 0, Bz 0, Dz 0], .box 3 26 [Bz p, Dz p, Bz 0, Dz 0]]) [0, 1, 7] rfl ?_
  refine nx_then ?_
  refine t_seq ?_
  refine t_seq ?_
  refine t_region (F := ⟨_, _, _, _⟩) [.box 1 192 [Bz p, Tz p, Bz q, Tz q], .box 2 26 [Bz 0, Dz 0, Bz 0, Dz 0], .box 3 26 [Bz p, Dz p, Bz 0, Dz 0]] [] [(0, .fp 8 1 2), (1, .slot 9 (NUM q)), (2, .slot 10 (NUM 1)), (3, .slot 11 (VP.int .i64 (cmpZ q 1))), (4, .slot 12 (VP.bool ((cmpZ q 1) != 0)))] [] [0, 1, 2] [] rfl rfl follow rfl ⟨
    .inl ⟨wants_plain rfl, does_field _ _ _ 2 ty_f1_collatorref02_Frac rfl rfl rfl rfl rfl rfl rfl (pt_box (av_fs 0 rfl))⟩,
    .inl ⟨wants_plain rfl, does_loadAgg _ ty_agg_collatorref01_Num rfl rfl rfl rfl rfl rfl (pt_fp (av_rs 0 rfl rfl)) (av_fs 0 rfl)⟩,
    .inl ⟨wants_plain rfl, does_call (r_int 1 (by decide) (by decide)) rfl hb_collator_collatorref01_Int rfl rfl rfl rfl ⟨(ar_const (fun _ => rfl)), trivial⟩⟩,
    .inl ⟨wants_plain rfl, does_call (r_cmp q 1 (n10 hq (by decide)) (n10 lone (by decide))) rfl hb_collator_collatorref01_Cmp rfl rfl rfl rfl ⟨(ar_tmp (av_rs 1 rfl rfl)), (ar_tmp (av_rs 2 rfl rfl)), trivial⟩⟩,
    .inl ⟨wants_plain rfl, does_cmp (m := (cmpZ q 1)) (n := 0) _ _ _ _ _ rfl rfl rfl rfl rfl rfl .i64 (ar_tmp (av_rs 3 rfl rfl)) (ar_const (fun _ => rfl))⟩,
    trivial⟩ ?_
  refine nx_sub (fs' := [.box 1 192 [Bz p, Tz p, Bz q, Tz q], .box 2 26 [Bz 0, Dz 0, Bz 0, Dz 0], .box 3 26 [Bz p, Dz p, Bz 0, Dz 0], .slot 12 (VP.bool ((cmpZ q 1) != 0))]) [0, 1, 2, 7] rfl ?_
  refine nx_then ?_
  refine t_cond_te 3 rfl (cmp_two' h) ?_
  refine t_region (F := ⟨_, _, _, _⟩) [.box 1 192 [Bz p, Tz p, Bz q, Tz q], .box 2 26 [Bz 0, Dz 0, Bz 0, Dz 0], .slot 12 (VP.bool ((cmpZ q 1) != 0))] [(4, .box 3 26 [Bz p, Dz p, Bz 0, Dz 0])] [(0, .fp 13 1 2), (1, .slot 14 (NUM q)), (2, .slot 15 (INT q)), (3, .fp 16 3 2), (4, .box 3 26 [Bz p, Dz p, Bz q, Dz q])] [] [0, 1, 3] [2] rfl rfl follow rfl ⟨
    .inl ⟨wants_plain rfl, does_field _ _ _ 2 ty_f1_collatorref02_Frac rfl rfl rfl rfl rfl rfl rfl (pt_box (av_fs 0 rfl))⟩,
    .inl ⟨wants_plain rfl, does_loadAgg _ ty_agg_collatorref01_Num rfl rfl rfl rfl rfl rfl (pt_fp (av_rs 0 rfl rfl)) (av_fs 0 rfl)⟩,
    .inl ⟨wants_plain rfl, does_call (r_form q (n10 hq (by decide))) rfl hb_collator_collatorref01_Form rfl rfl rfl rfl ⟨(ar_tmp (av_rs 1 rfl rfl)), trivial⟩⟩,
    .inl ⟨wants_plain rfl, does_field _ _ _ 2 ty_f1_api_Frac rfl rfl rfl rfl rfl rfl rfl (pt_box (av_os 0 rfl rfl))⟩,
    .inl ⟨wants_plain rfl, does_storeAgg 2 _ _ ty_agg_api_Int rfl rfl rfl rfl rfl (pt_fp (av_rs 3 rfl rfl)) (av_os 0 rfl rfl) (ar_tmp (av_rs 2 rfl rfl))⟩,
    trivial⟩ ?_
  refine nx_sub (fs' := [.box 2 26 [Bz 0, Dz 0, Bz 0, Dz 0], .box 3 26 [Bz p, Dz p, Bz q, Dz q]]) [1, 7] rfl ?_
  refine nx_then ?_
  refine t_seq ?_
  refine t_region (F := ⟨_, _, _, _⟩) [.box 3 26 [Bz p, Dz p, Bz q, Dz q]] [(1, .box 2 26 [Bz 0, Dz 0, Bz 0, Dz 0])] [(0, .slot 17 (VP.agg [Bz p, Dz p, Bz q, Dz q])), (1, .box 2 26 [Bz p, Dz p, Bz q, Dz q])] [] [1] [0] rfl rfl follow rfl ⟨
    .inl ⟨wants_plain rfl, does_loadAgg _ ty_agg_api_Frac rfl rfl rfl rfl rfl rfl (pt_box (av_fs 0 rfl)) (av_fs 0 rfl)⟩,
    .inl ⟨wants_plain rfl, does_storeAgg 4 _ _ ty_agg_api_Frac rfl rfl rfl rfl rfl (pt_box (av_os 0 rfl rfl)) (av_os 0 rfl rfl) (ar_tmp (av_rs 0 rfl rfl))⟩,
    trivial⟩ ?_
  refine nx_sub (fs' := [.box 2 26 [Bz p, Dz p, Bz q, Dz q]]) [2] rfl ?_
  refine nx_then ?_
  refine t_ret ?_
  exact rt_one rfl (res_agg 0 ty_agg_api_Frac rfl)
theorem g_form (p q : Int) (hp : L p ≤ 1000) (hq : L q ≤ 1000) : Spec Try.prog 141 [(VP.agg [Bz p, Tz p, Bz q, Tz q]).p] (VP.agg [Bz p, Dz p, Bz (fU q), Dz (fU q)]) := by
  by_cases h : q = 1
  · rw [show fU q = 0 from if_pos h]; exact g_form1 p q hp hq h
  · rw [show fU q = q from if_neg h]; exact g_form2 p q hp hq h
set_option maxRecDepth 100000 in
set_option maxHeartbeats 4000000 in
theorem g_same1 (p q r s : Int) (hp : L p ≤ 100000) (hq : L q ≤ 100000) (hr : L r ≤ 100000) (hs : L s ≤ 100000) (h : p ≠ r) : Spec Try.prog 17 [(VP.agg [Bz p, Dz p, Bz q, Dz q]).p, (VP.agg [Bz r, Dz r, Bz s, Dz s]).p] (VP.bool false) := by
  refine spec_of (xs := [VP.agg [Bz p, Dz p, Bz q, Dz q], VP.agg [Bz r, Dz r, Bz s, Dz s]]) 17 [2, 3] Try.func17 rfl Try.ntmps17 rfl fun w0 => ?_
  refine t_seq ?_
  refine t_region (F := ⟨_, _, _, _⟩) [.slot 0 (VP.agg [Bz p, Dz p, Bz q, Dz q]), .slot 1 (VP.agg [Bz r, Dz r, Bz s, Dz s])] [] [(0, .box 2 26 [Bz p, Dz p, Bz q, Dz q]), (1, .box 3 26 [Bz r, Dz r, Bz s, Dz s]), (2, .slot 4 (VP.bool false))] [] [0, 1] [] rfl rfl follow rfl ⟨
    .inl ⟨wants_plain rfl, does_box _ rfl rfl rfl rfl rfl (ar_tmp (av_fs 0 rfl))⟩,
    .inl ⟨wants_plain rfl, does_box _ rfl rfl rfl rfl rfl (ar_tmp (av_fs 1 rfl))⟩,
    .inl ⟨wants_plain rfl, does_move _ (.inr rfl) rfl rfl rfl rfl (ar_const (fun _ => rfl))⟩,
    trivial⟩ ?_
  refine nx_sub (fs' := [.box 2 26 [Bz p, Dz p, Bz q, Dz q], .box 3 26 [Bz r, Dz r, Bz s, Dz s], .slot 4 (VP.bool false)]) [2, 3, 4] rfl ?_
  refine nx_then ?_
  refine t_seq ?_
  refine t_region (F := ⟨_, _, _, _⟩) [.box 2 26 [Bz p, Dz p, Bz q, Dz q], .box 3 26 [Bz r, Dz r, Bz s, Dz s]] [(12, .slot 4 (VP.bool false))] [(0, .fp 5 2 0), (1, .slot 6 (INT p)), (2, .fp 7 3 0), (3, .slot 8 (INT r)), (4, .slot 9 (VP.bool (decide (p = r)))), (5, .slot 10 (VP.bool (decide (p = r)))), (6, .slot 11 (VP.undef)), (7, .slot 12 (VP.undef)), (8, .slot 13 (VP.undef)), (9, .slot 14 (VP.undef)), (10, .slot 15 (VP.undef)), (11, .slot 16 (VP.bool false)), (12, .slot 4 (VP.bool false))] [] [0, 1] [2] rfl rfl follow rfl ⟨
    .inl ⟨wants_plain rfl, does_field _ _ _ 0 ty_f0_api_Frac rfl rfl rfl rfl rfl rfl rfl (pt_box (av_fs 0 rfl))⟩,
    .inl ⟨wants_plain rfl, does_loadAgg _ ty_agg_api_Int rfl rfl rfl rfl rfl rfl (pt_fp (av_rs 0 rfl rfl)) (av_fs 0 rfl)⟩,
    .inl ⟨wants_plain rfl, does_field _ _ _ 0 ty_f0_api_Frac rfl rfl rfl rfl rfl rfl rfl (pt_box (av_fs 1 rfl))⟩,
    .inl ⟨wants_plain rfl, does_loadAgg _ ty_agg_api_Int rfl rfl rfl rfl rfl rfl (pt_fp (av_rs 2 rfl rfl)) (av_fs 1 rfl)⟩,
    .inl ⟨wants_plain rfl, does_call (r_same p r hp hr) rfl hb_collator_collatorref01_Same rfl rfl rfl rfl ⟨(ar_tmp (av_rs 1 rfl rfl)), (ar_tmp (av_rs 3 rfl rfl)), trivial⟩⟩,
    .inl ⟨wants_plain rfl, does_move _ (.inl rfl) rfl rfl rfl rfl (ar_tmp (av_rs 4 rfl rfl))⟩,
    .inr (skips_guardU false rfl rfl rfl (av_bool (decide_eq_false h) (av_rs 5 rfl rfl)) rfl rfl rfl rfl),
    .inr (skips_guardU false rfl rfl rfl (av_bool (decide_eq_false h) (av_rs 5 rfl rfl)) rfl rfl rfl rfl),
    .inr (skips_guardU false rfl rfl rfl (av_bool (decide_eq_false h) (av_rs 5 rfl rfl)) rfl rfl rfl rfl),
    .inr (skips_guardU false rfl rfl rfl (av_bool (decide_eq_false h) (av_rs 5 rfl rfl)) rfl rfl rfl rfl),
    .inr (skips_guardU false rfl rfl rfl (av_bool (decide_eq_false h) (av_rs 5 rfl rfl)) rfl rfl rfl rfl),
    .inl ⟨wants_plain rfl, does_pick false _ _ _ rfl rfl rfl rfl rfl (ar_tmp (av_bool (decide_eq_false h) (av_rs 5 rfl rfl))) (ar_const (fun _ => rfl))⟩,
    .inl ⟨wants_plain rfl, does_move _ (.inr rfl) rfl rfl rfl rfl (ar_tmp (av_rs 11 rfl rfl))⟩,
    trivial⟩ ?_
  refine nx_sub (fs' := [.slot 4 (VP.bool false)]) [14] rfl ?_
  refine nx_then ?_
  refine t_ret ?_
  exact rt_one rfl (res_tmp 0 rfl)
set_option maxRecDepth 100000 in
set_option maxHeartbeats 4000000 in
theorem g_same2 (p q r s : Int) (hp : L p ≤ 100000) (hq : L q ≤ 100000) (hr : L r ≤ 100000) (hs : L s ≤ 100000) (h : p = r) : Spec Try.prog 17 [(VP.agg [Bz p, Dz p, Bz q, Dz q]).p, (VP.agg [Bz r, Dz r, Bz s, Dz s]).p] (VP.bool (decide (q = s))) := by
  refine spec_of (xs := [VP.agg [Bz p, Dz p, Bz q, Dz q], VP.agg [Bz r, Dz r, Bz s, Dz s]]) 17 [2, 3] Try.func17 rfl Try.ntmps17 rfl fun w0 => ?_
  refine t_seq ?_
  refine t_region (F := ⟨_, _, _, _⟩) [.slot 0 (VP.agg [Bz p, Dz p, Bz q, Dz q]), .slot 1 (VP.agg [Bz r, Dz r, Bz s, Dz s])] [] [(0, .box 2 26 [Bz p, Dz p, Bz q, Dz q]), (1, .box 3 26 [Bz r, Dz r, Bz s, Dz s]), (2, .slot 4 (VP.bool false))] [] [0, 1] [] rfl rfl follow rfl ⟨
    .inl ⟨wants_plain rfl, does_box _ rfl rfl rfl rfl rfl (ar_tmp (av_fs 0 rfl))⟩,
    .inl ⟨wants_plain rfl, does_box _ rfl rfl rfl rfl rfl (ar_tmp (av_fs 1 rfl))⟩,
    .inl ⟨wants_plain rfl, does_move _ (.inr rfl) rfl rfl rfl rfl (ar_const (fun _ => rfl))⟩,
    trivial⟩ ?_
  refine nx_sub (fs' := [.box 2 26 [Bz p, Dz p, Bz q, Dz q], .box 3 26 [Bz r, Dz r, Bz s, Dz s], .slot 4 (VP.bool false)]) [2, 3, 4] rfl ?_
  refine nx_then ?_
  refine t_seq ?_
  refine t_region (F := ⟨_, _, _, _⟩) [.box 2 26 [Bz p, Dz p, Bz q, Dz q], .box 3 26 [Bz r, Dz r, Bz s, Dz s]] [(12, .slot 4 (VP.bool false))] [(0, .fp 5 2 0), (1, .slot 6 (INT p)), (2, .fp 7 3 0), (3, .slot 8 (INT r)), (4, .slot 9 (VP.bool (decide (p = r)))), (5, .slot 10 (VP.bool (decide (p = r)))), (6, .fp 11 2 2), (7, .slot 12 (INT q)), (8, .fp 13 3 2), (9, .slot 14 (INT s)), (10, .slot 15 (VP.bool (decide (q = s)))), (11, .slot 16 (VP.bool (decide (q = s)))), (12, .slot 4 (VP.bool (decide (q = s))))] [] [0, 1] [2] rfl rfl follow rfl ⟨
    .inl ⟨wants_plain rfl, does_field _ _ _ 0 ty_f0_api_Frac rfl rfl rfl rfl rfl rfl rfl (pt_box (av_fs 0 rfl))⟩,
    .inl ⟨wants_plain rfl, does_loadAgg _ ty_agg_api_Int rfl rfl rfl rfl rfl rfl (pt_fp (av_rs 0 rfl rfl)) (av_fs 0 rfl)⟩,
    .inl ⟨wants_plain rfl, does_field _ _ _ 0 ty_f0_api_Frac rfl rfl rfl rfl rfl rfl rfl (pt_box (av_fs 1 rfl))⟩,
    .inl ⟨wants_plain rfl, does_loadAgg _ ty_agg_api_Int rfl rfl rfl rfl rfl rfl (pt_fp (av_rs 2 rfl rfl)) (av_fs 1 rfl)⟩,
    .inl ⟨wants_plain rfl, does_call (r_same p r hp hr) rfl hb_collator_collatorref01_Same rfl rfl rfl rfl ⟨(ar_tmp (av_rs 1 rfl rfl)), (ar_tmp (av_rs 3 rfl rfl)), trivial⟩⟩,
    .inl ⟨wants_plain rfl, does_move _ (.inl rfl) rfl rfl rfl rfl (ar_tmp (av_rs 4 rfl rfl))⟩,
    .inl ⟨wants_guard true rfl rfl rfl (av_bool (decide_eq_true h) (av_rs 5 rfl rfl)), does_field _ _ _ 2 ty_f1_api_Frac rfl rfl rfl rfl rfl rfl rfl (pt_box (av_fs 0 rfl))⟩,
    .inl ⟨wants_guard true rfl rfl rfl (av_bool (decide_eq_true h) (av_rs 5 rfl rfl)), does_loadAgg _ ty_agg_api_Int rfl rfl rfl rfl rfl rfl (pt_fp (av_rs 6 rfl rfl)) (av_fs 0 rfl)⟩,
    .inl ⟨wants_guard true rfl rfl rfl (av_bool (decide_eq_true h) (av_rs 5 rfl rfl)), does_field _ _ _ 2 ty_f1_api_Frac rfl rfl rfl rfl rfl rfl rfl (pt_box (av_fs 1 rfl))⟩,
    .inl ⟨wants_guard true rfl rfl rfl (av_bool (decide_eq_true h) (av_rs 5 rfl rfl)), does_loadAgg _ ty_agg_api_Int rfl rfl rfl rfl rfl rfl (pt_fp (av_rs 8 rfl rfl)) (av_fs 1 rfl)⟩,
    .inl ⟨wants_guard true rfl rfl rfl (av_bool (decide_eq_true h) (av_rs 5 rfl rfl)), does_call (r_same q s hq hs) rfl hb_collator_collatorref01_Same rfl rfl rfl rfl ⟨(ar_tmp (av_rs 7 rfl rfl)), (ar_tmp (av_rs 9 rfl rfl)), trivial⟩⟩,
    .inl ⟨wants_plain rfl, does_pick true _ _ _ rfl rfl rfl rfl rfl (ar_tmp (av_bool (decide_eq_true h) (av_rs 5 rfl rfl))) (ar_tmp (av_rs 10 rfl rfl))⟩,
    .inl ⟨wants_plain rfl, does_move _ (.inr rfl) rfl rfl rfl rfl (ar_tmp (av_rs 11 rfl rfl))⟩,
    trivial⟩ ?_
  refine nx_sub (fs' := [.slot 4 (VP.bool (decide (q = s)))]) [14] rfl ?_
  refine nx_then ?_
  refine t_ret ?_
  exact rt_one rfl (res_tmp 0 rfl)
theorem g_same (p q r s : Int) (hp : L p ≤ 100000) (hq : L q ≤ 100000) (hr : L r ≤ 100000) (hs : L s ≤ 100000) : Spec Try.prog 17 [(VP.agg [Bz p, Dz p, Bz q, Dz q]).p, (VP.agg [Bz r, Dz r, Bz s, Dz s]).p] (VP.bool (decide (p = r ∧ q = s))) := by
  by_cases h : p = r
  · rw [show decide (p = r ∧ q = s) = decide (q = s) from by simp [h]]; exact g_same2 p q r s hp hq hr hs h
  · rw [show decide (p = r ∧ q = s) = false from by simp [h]]; exact g_same1 p q r s hp hq hr hs h
set_option maxRecDepth 100000 in
set_option maxHeartbeats 4000000 in
theorem g_right1 (p q : Int) (hp : L p ≤ 1000) (hq : L q ≤ 1000) (h : q < 0) : Spec Try.prog 74 [(VP.agg [Bz p, Dz p, Bz q, Dz q]).p] (VP.bool false) := by
  refine spec_of (xs := [VP.agg [Bz p, Dz p, Bz q, Dz q]]) 29 [1, 3] Try.func74 rfl Try.ntmps74 rfl fun w0 => ?_
  refine t_seq ?_
  refine t_region (F := ⟨_, _, _, _⟩) [.slot 0 (VP.agg [Bz p, Dz p, Bz q, Dz q])] [] [(0, .box 1 26 [Bz p, Dz p, Bz q, Dz q]), (1, .slot 2 (VP.bool false))] [] [0] [] rfl rfl follow rfl ⟨
    .inl ⟨wants_plain rfl, does_box _ rfl rfl rfl rfl rfl (ar_tmp (av_fs 0 rfl))⟩,
    .inl ⟨wants_plain rfl, does_move _ (.inr rfl) rfl rfl rfl rfl (ar_const (fun _ => rfl))⟩,
    trivial⟩ ?_
  refine nx_sub (fs' := [.box 1 26 [Bz p, Dz p, Bz q, Dz q], .slot 2 (VP.bool false)]) [1, 2] rfl ?_
  refine nx_then ?_
  refine t_seq ?_
  refine t_seq ?_
  refine t_region (F := ⟨_, _, _, _⟩) [.box 1 26 [Bz p, Dz p, Bz q, Dz q], .slot 2 (VP.bool false)] [] [(0, .fp 4 1 0), (1, .slot 5 (INT p)), (2, .slot 6 (VP.bool true)), (3, .slot 7 (VP.bool false)), (4, .slot 8 (VP.bool false)), (5, .fp 9 1 2), (6, .slot 10 (INT q)), (7, .slot 11 (VP.bool true)), (8, .slot 12 (VP.bool false)), (9, .slot 13 (VP.bool false)), (10, .slot 14 (VP.bool false)), (11, .fp 15 1 2), (12, .fp 16 1 2), (13, .slot 17 (Bz q)), (14, .slot 18 (Bz q))] [] [0, 1] [] rfl rfl follow rfl ⟨
    .inl ⟨wants_plain rfl, does_field _ _ _ 0 ty_f0_api_Frac rfl rfl rfl rfl rfl rfl rfl (pt_box (av_fs 0 rfl))⟩,
    .inl ⟨wants_plain rfl, does_loadAgg _ ty_agg_api_Int rfl rfl rfl rfl rfl rfl (pt_fp (av_rs 0 rfl rfl)) (av_fs 0 rfl)⟩,
    .inl ⟨wants_plain rfl, does_call (r_right p (lle hp (by decide))) rfl hb_collator_collatorref01_Right rfl rfl rfl rfl ⟨(ar_tmp (av_rs 1 rfl rfl)), trivial⟩⟩,
    .inl ⟨wants_plain rfl, does_not true _ _ rfl rfl rfl rfl rfl (ar_tmp (av_rs 2 rfl rfl))⟩,
    .inl ⟨wants_plain rfl, does_move _ (.inl rfl) rfl rfl rfl rfl (ar_tmp (av_rs 3 rfl rfl))⟩,
    .inl ⟨wants_guard false rfl rfl rfl (av_rs 4 rfl rfl), does_field _ _ _ 2 ty_f1_api_Frac rfl rfl rfl rfl rfl rfl rfl (pt_box (av_fs 0 rfl))⟩,
    .inl ⟨wants_guard false rfl rfl rfl (av_rs 4 rfl rfl), does_loadAgg _ ty_agg_api_Int rfl rfl rfl rfl rfl rfl (pt_fp (av_rs 5 rfl rfl)) (av_fs 0 rfl)⟩,
    .inl ⟨wants_guard false rfl rfl rfl (av_rs 4 rfl rfl), does_call (r_right q (lle hq (by decide))) rfl hb_collator_collatorref01_Right rfl rfl rfl rfl ⟨(ar_tmp (av_rs 6 rfl rfl)), trivial⟩⟩,
    .inl ⟨wants_guard false rfl rfl rfl (av_rs 4 rfl rfl), does_not true _ _ rfl rfl rfl rfl rfl (ar_tmp (av_rs 7 rfl rfl))⟩,
    .inl ⟨wants_plain rfl, does_pick false _ _ _ rfl rfl rfl rfl rfl (ar_tmp (av_rs 4 rfl rfl)) (ar_tmp (av_rs 8 rfl rfl))⟩,
    .inl ⟨wants_plain rfl, does_move _ (.inl rfl) rfl rfl rfl rfl (ar_tmp (av_rs 9 rfl rfl))⟩,
    .inl ⟨wants_guard false rfl rfl rfl (av_rs 10 rfl rfl), does_field _ _ _ 2 ty_f1_api_Frac rfl rfl rfl rfl rfl rfl rfl (pt_box (av_fs 0 rfl))⟩,
    .inl ⟨wants_guard false rfl rfl rfl (av_rs 10 rfl rfl), does_field _ _ _ 0 ty_f0_api_Int rfl rfl rfl rfl rfl rfl rfl (pt_fp (av_rs 11 rfl rfl))⟩,
    .inl ⟨wants_guard false rfl rfl rfl (av_rs 10 rfl rfl), does_loadOne _ ty_one_bool rfl rfl rfl rfl rfl rfl (pt_fp (av_rs 12 rfl rfl)) (av_fs 0 rfl)⟩,
    .inl ⟨wants_plain rfl, does_pick false _ _ _ rfl rfl rfl rfl rfl (ar_tmp (av_rs 10 rfl rfl)) (ar_tmp (av_rs 13 rfl rfl))⟩,
    trivial⟩ ?_
  refine nx_sub (fs' := [.box 1 26 [Bz p, Dz p, Bz q, Dz q], .slot 2 (VP.bool false), .slot 18 (Bz q)]) [0, 1, 16] rfl ?_
  refine nx_then ?_
  refine t_cond_te 2 rfl (decide_eq_true h) ?_
  refine t_seq ?_
  refine t_region (F := ⟨_, _, _, _⟩) [.box 1 26 [Bz p, Dz p, Bz q, Dz q], .slot 18 (Bz q)] [(0, .slot 2 (VP.bool false))] [(0, .slot 2 (VP.bool false))] [] [0, 2] [1] rfl rfl follow rfl ⟨
    .inl ⟨wants_plain rfl, does_move _ (.inr rfl) rfl rfl rfl rfl (ar_const (fun _ => rfl))⟩,
    trivial⟩ ?_
  refine nx_sub (fs' := [.box 1 26 [Bz p, Dz p, Bz q, Dz q], .slot 2 (VP.bool false)]) [0, 2] rfl ?_
  refine nx_then ?_
  refine t_ret ?_
  refine rt_then ?_
  exact rt_one rfl (res_tmp 1 rfl)
set_option maxRecDepth 100000 in
set_option maxHeartbeats 4000000 in
theorem g_right2 (p q : Int) (hp : L p ≤ 1000) (hq : L q ≤ 1000) (h : ¬ q < 0) : Spec Try.prog 74 [(VP.agg [Bz p, Dz p, Bz q, Dz q]).p] (VP.bool (decide (p = rmO p (und q) ∧ q = fU (rmD p (und q))))) := by
  refine spec_of (xs := [VP.agg [Bz p, Dz p, Bz q, Dz q]]) 29 [1, 3] Try.func74 rfl Try.ntmps74 rfl fun w0 => ?_
  refine t_seq ?_
  refine t_region (F := ⟨_, _, _, _⟩) [.slot 0 (VP.agg [Bz p, Dz p, Bz q, Dz q])] [] [(0, .box 1 26 [Bz p, Dz p, Bz q, Dz q]), (1, .slot 2 (VP.bool false))] [] [0] [] rfl rfl follow rfl ⟨
    .inl ⟨wants_plain rfl, does_box _ rfl rfl rfl rfl rfl (ar_tmp (av_fs 0 rfl))⟩,
    .inl ⟨wants_plain rfl, does_move _ (.inr rfl) rfl rfl rfl rfl (ar_const (fun _ => rfl))⟩,
    trivial⟩ ?_
  refine nx_sub (fs' := [.box 1 26 [Bz p, Dz p, Bz q, Dz q], .slot 2 (VP.bool false)]) [1, 2] rfl ?_
  refine nx_then ?_
  refine t_seq ?_
  refine t_seq ?_
  refine t_region (F := ⟨_, _, _, _⟩) [.box 1 26 [Bz p, Dz p, Bz q, Dz q], .slot 2 (VP.bool false)] [] [(0, .fp 4 1 0), (1, .slot 5 (INT p)), (2, .slot 6 (VP.bool true)), (3, .slot 7 (VP.bool false)), (4, .slot 8 (VP.bool false)), (5, .fp 9 1 2), (6, .slot 10 (INT q)), (7, .slot 11 (VP.bool true)), (8, .slot 12 (VP.bool false)), (9, .slot 13 (VP.bool false)), (10, .slot 14 (VP.bool false)), (11, .fp 15 1 2), (12, .fp 16 1 2), (13, .slot 17 (Bz q)), (14, .slot 18 (Bz q))] [] [0, 1] [] rfl rfl follow rfl ⟨
    .inl ⟨wants_plain rfl, does_field _ _ _ 0 ty_f0_api_Frac rfl rfl rfl rfl rfl rfl rfl (pt_box (av_fs 0 rfl))⟩,
    .inl ⟨wants_plain rfl, does_loadAgg _ ty_agg_api_Int rfl rfl rfl rfl rfl rfl (pt_fp (av_rs 0 rfl rfl)) (av_fs 0 rfl)⟩,
    .inl ⟨wants_plain rfl, does_call (r_right p (lle hp (by decide))) rfl hb_collator_collatorref01_Right rfl rfl rfl rfl ⟨(ar_tmp (av_rs 1 rfl rfl)), trivial⟩⟩,
    .inl ⟨wants_plain rfl, does_not true _ _ rfl rfl rfl rfl rfl (ar_tmp (av_rs 2 rfl rfl))⟩,
    .inl ⟨wants_plain rfl, does_move _ (.inl rfl) rfl rfl rfl rfl (ar_tmp (av_rs 3 rfl rfl))⟩,
    .inl ⟨wants_guard false rfl rfl rfl (av_rs 4 rfl rfl), does_field _ _ _ 2 ty_f1_api_Frac rfl rfl rfl rfl rfl rfl rfl (pt_box (av_fs 0 rfl))⟩,
    .inl ⟨wants_guard false rfl rfl rfl (av_rs 4 rfl rfl), does_loadAgg _ ty_agg_api_Int rfl rfl rfl rfl rfl rfl (pt_fp (av_rs 5 rfl rfl)) (av_fs 0 rfl)⟩,
    .inl ⟨wants_guard false rfl rfl rfl (av_rs 4 rfl rfl), does_call (r_right q (lle hq (by decide))) rfl hb_collator_collatorref01_Right rfl rfl rfl rfl ⟨(ar_tmp (av_rs 6 rfl rfl)), trivial⟩⟩,
    .inl ⟨wants_guard false rfl rfl rfl (av_rs 4 rfl rfl), does_not true _ _ rfl rfl rfl rfl rfl (ar_tmp (av_rs 7 rfl rfl))⟩,
    .inl ⟨wants_plain rfl, does_pick false _ _ _ rfl rfl rfl rfl rfl (ar_tmp (av_rs 4 rfl rfl)) (ar_tmp (av_rs 8 rfl rfl))⟩,
    .inl ⟨wants_plain rfl, does_move _ (.inl rfl) rfl rfl rfl rfl (ar_tmp (av_rs 9 rfl rfl))⟩,
    .inl ⟨wants_guard false rfl rfl rfl (av_rs 10 rfl rfl), does_field _ _ _ 2 ty_f1_api_Frac rfl rfl rfl rfl rfl rfl rfl (pt_box (av_fs 0 rfl))⟩,
    .inl ⟨wants_guard false rfl rfl rfl (av_rs 10 rfl rfl), does_field _ _ _ 0 ty_f0_api_Int rfl rfl rfl rfl rfl rfl rfl (pt_fp (av_rs 11 rfl rfl))⟩,
    .inl ⟨wants_guard false rfl rfl rfl (av_rs 10 rfl rfl), does_loadOne _ ty_one_bool rfl rfl rfl rfl rfl rfl (pt_fp (av_rs 12 rfl rfl)) (av_fs 0 rfl)⟩,
    .inl ⟨wants_plain rfl, does_pick false _ _ _ rfl rfl rfl rfl rfl (ar_tmp (av_rs 10 rfl rfl)) (ar_tmp (av_rs 13 rfl rfl))⟩,
    trivial⟩ ?_
  refine nx_sub (fs' := [.box 1 26 [Bz p, Dz p, Bz q, Dz q], .slot 2 (VP.bool false), .slot 18 (Bz q)]) [0, 1, 16] rfl ?_
  refine nx_then ?_
  refine t_cond_fe 2 rfl (decide_eq_false h) ?_
  refine t_skip ?_
  refine nx_then ?_
  refine t_seq ?_
  refine t_region (F := ⟨_, _, _, _⟩) [.box 1 26 [Bz p, Dz p, Bz q, Dz q], .slot 2 (VP.bool false), .slot 18 (Bz q)] [] [(0, .slot 19 (VP.agg [Bz p, Dz p, Bz q, Dz q])), (1, .slot 20 (VP.agg [Bz p, Tz p, Bz (und q), Tz (und q)])), (2, .own 3 192 4), (3, .box 3 192 [Bz p, Tz p, Bz (und q), Tz (und q)])] [] [0, 1, 2] [] rfl rfl follow rfl ⟨
    .inl ⟨wants_plain rfl, does_loadAgg _ ty_agg_api_Frac rfl rfl rfl rfl rfl rfl (pt_box (av_fs 0 rfl)) (av_fs 0 rfl)⟩,
    .inl ⟨wants_plain rfl, does_call (g_of p q hp hq) rfl hb_collator_collatorref02_Of rfl rfl rfl rfl ⟨(ar_tmp (av_rs 0 rfl rfl)), trivial⟩⟩,
    .inl ⟨wants_plain rfl, does_allocOwn [Bz 0, Tz 0, Bz 0, Tz 0] ty_zero_collatorref02_Frac rfl rfl rfl rfl rfl z_rfrac rfl⟩,
    .inl ⟨wants_plain rfl, does_storeNew 4 _ _ ty_agg_collatorref02_Frac rfl rfl rfl rfl rfl (pt_own (av_rs 2 rfl rfl)) (av_rs 2 rfl rfl) (ar_tmp (av_rs 1 rfl rfl))⟩,
    trivial⟩ ?_
  refine nx_sub (fs' := [.box 1 26 [Bz p, Dz p, Bz q, Dz q], .slot 2 (VP.bool false), .box 3 192 [Bz p, Tz p, Bz (und q), Tz (und q)]]) [0, 1, 6] rfl ?_
  refine nx_then ?_
  refine t_seq ?_
  refine t_region (F := ⟨_, _, _, _⟩) [.box 1 26 [Bz p, Dz p, Bz q, Dz q], .box 3 192 [Bz p, Tz p, Bz (und q), Tz (und q)]] [(8, .slot 2 (VP.bool false))] [(0, .slot 21 (VP.agg [Bz p, Dz p, Bz q, Dz q])), (1, .fp 22 3 0), (2, .slot 23 (NUM p)), (3, .fp 24 3 2), (4, .slot 25 (NUM (und q))), (5, .slot 26 (VP.agg [Bz (rmO p (und q)), Tz (rmO p (und q)), Bz (rmD p (und q)), Tz (rmD p (und q))])), (6, .slot 27 (VP.agg [Bz (rmO p (und q)), Dz (rmO p (und q)), Bz (fU (rmD p (und q))), Dz (fU (rmD p (und q)))])), (7, .slot 28 (VP.bool (decide (p = (rmO p (und q)) ∧ q = (fU (rmD p (und q))))))), (8, .slot 2 (VP.bool (decide (p = (rmO p (und q)) ∧ q = (fU (rmD p (und q)))))))] [] [0, 2] [1] rfl rfl follow rfl ⟨
    .inl ⟨wants_plain rfl, does_loadAgg _ ty_agg_api_Frac rfl rfl rfl rfl rfl rfl (pt_box (av_fs 0 rfl)) (av_fs 0 rfl)⟩,
    .inl ⟨wants_plain rfl, does_field _ _ _ 0 ty_f0_collatorref02_Frac rfl rfl rfl rfl rfl rfl rfl (pt_box (av_fs 1 rfl))⟩,
    .inl ⟨wants_plain rfl, does_loadAgg _ ty_agg_collatorref01_Num rfl rfl rfl rfl rfl rfl (pt_fp (av_rs 1 rfl rfl)) (av_fs 1 rfl)⟩,
    .inl ⟨wants_plain rfl, does_field _ _ _ 2 ty_f1_collatorref02_Frac rfl rfl rfl rfl rfl rfl rfl (pt_box (av_fs 1 rfl))⟩,
    .inl ⟨wants_plain rfl, does_loadAgg _ ty_agg_collatorref01_Num rfl rfl rfl rfl rfl rfl (pt_fp (av_rs 3 rfl rfl)) (av_fs 1 rfl)⟩,
    .inl ⟨wants_plain rfl, does_call (g_make p (und q) (lle hp (by decide)) (lle (lund hq (by decide)) (by decide))) rfl hb_collator_collatorref02_Make rfl rfl rfl rfl ⟨(ar_tmp (av_rs 2 rfl rfl)), (ar_tmp (av_rs 4 rfl rfl)), trivial⟩⟩,
    .inl ⟨wants_plain rfl, does_call (g_form (rmO p (und q)) (rmD p (und q)) (lrmO (y := (und q)) hp) (lrmD (x := p) (lund hq (by decide)) (by decide))) rfl hb_collator_collatorref02_Form rfl rfl rfl rfl ⟨(ar_tmp (av_rs 5 rfl rfl)), trivial⟩⟩,
    .inl ⟨wants_plain rfl, does_call (g_same p q (rmO p (und q)) (fU (rmD p (und q))) (lle hp (by decide)) (lle hq (by decide)) (lle (lrmO (y := (und q)) hp) (by decide)) (lle (lfU (lrmD (x := p) (lund hq (by decide)) (by decide))) (by decide))) rfl hb_collator_collatorref02_Same rfl rfl rfl rfl ⟨(ar_tmp (av_rs 0 rfl rfl)), (ar_tmp (av_rs 6 rfl rfl)), trivial⟩⟩,
    .inl ⟨wants_plain rfl, does_move _ (.inr rfl) rfl rfl rfl rfl (ar_tmp (av_rs 7 rfl rfl))⟩,
    trivial⟩ ?_
  refine nx_sub (fs' := [.slot 2 (VP.bool (decide (p = (rmO p (und q)) ∧ q = (fU (rmD p (und q))))))]) [10] rfl ?_
  refine nx_then ?_
  refine t_ret ?_
  exact rt_one rfl (res_tmpb 0 rfl rfl)
theorem g_right (p q : Int) (hp : L p ≤ 1000) (hq : L q ≤ 1000) : Spec Try.prog 74 [(VP.agg [Bz p, Dz p, Bz q, Dz q]).p] (VP.bool (rightF p q)) := by
  unfold rightF
  by_cases h : q < 0
  · rw [decide_eq_true h]; exact g_right1 p q hp hq h
  · rw [decide_eq_false h]; exact g_right2 p q hp hq h
end Go.Proofs.Ytmlnpagkabmmpaa

/- Fractions: plain laws: a fraction in its one form is a rational number. -/
namespace Go.Proofs.Ytmlnpagkabmmpaa
open Go.RowKit

theorem gcd_pos {x y : Int} (hy : y ≠ 0) : gcdZ x y ≠ 0 := by
  intro h0
  unfold gcdZ at h0
  have h2 : Nat.gcd x.natAbs y.natAbs = 0 := by omega
  have := Nat.eq_zero_of_gcd_eq_zero_right h2
  omega
theorem gcd_l (x y : Int) : gcdZ x y ∣ x := Int.ofNat_dvd_left.2 (Nat.gcd_dvd_left _ _)
theorem gcd_r (x y : Int) : gcdZ x y ∣ y := Int.ofNat_dvd_left.2 (Nat.gcd_dvd_right _ _)
theorem gcd_int (x y : Int) : ((y.gcd x : Nat) : Int) = gcdZ x y := by unfold gcdZ Int.gcd; rw [Nat.gcd_comm]
theorem mkO_num (x y : Int) : mkO x y = (Rat.divInt x y).num := by
  rw [Rat.num_divInt, gcd_int]
  unfold mkO
  by_cases h : x = 0 ∨ y = 0
  · rw [if_pos h]
    rcases h with rfl | rfl
    · simp
    · simp
  · rw [if_neg h]
    have hy : y ≠ 0 := fun e => h (.inr e)
    have hg := gcd_pos (x := x) hy
    by_cases hn : y < 0
    · rw [if_pos hn, Int.sign_eq_neg_one_of_neg hn]
      unfold divZ
      rw [if_neg (by omega), Int.ediv_neg, Int.neg_one_mul, Int.neg_ediv_of_dvd (gcd_l x y)]
    · rw [if_neg hn, Int.sign_eq_one_of_pos (by omega), Int.one_mul]
      unfold divZ
      rw [if_neg hg]
theorem mkD_den (x y : Int) (hx : ¬ (x = 0 ∨ y = 0)) : mkD x y = ((Rat.divInt x y).den : Nat) := by
  have hy : y ≠ 0 := fun e => hx (.inr e)
  rw [Rat.den_divInt, if_neg hy]
  have hg := gcd_pos (x := x) hy
  have hgi := gcd_int x y
  have e : ((y.natAbs / y.gcd x : Nat) : Int) = (y.natAbs : Int) / gcdZ x y := by rw [← hgi]; rfl
  rw [e]
  unfold mkD divZ
  by_cases hn : y < 0
  · rw [if_pos hn, if_neg (by omega), Int.ediv_neg, ← Int.neg_ediv_of_dvd (gcd_r x y)]
    congr 1; omega
  · rw [if_neg hn, if_neg hg]
    congr 1; omega
/-- the number under, 1 told as 0 -/
def fD (n : Nat) : Int := fU (n : Int)
theorem mkU_den (x y : Int) : mkU x y = fD (Rat.divInt x y).den := by
  unfold mkU fD fU
  by_cases h : x = 0 ∨ y = 0
  · rw [if_pos h]
    have : (Rat.divInt x y).den = 1 := by
      rw [Rat.den_divInt]
      rcases h with rfl | rfl
      · by_cases hy : y = 0
        · rw [if_pos hy]
        · rw [if_neg hy, Int.gcd_zero]; exact Nat.div_self (by omega)
      · rw [if_pos rfl]
    rw [this]; rfl
  · rw [if_neg h, mkD_den x y h]
theorem und_fD {n : Nat} (h : n ≠ 0) : und (fD n) = (n : Int) := by
  unfold und fD fU
  by_cases h1 : (n : Int) = 1
  · rw [if_pos h1, if_pos rfl]; omega
  · rw [if_neg h1, if_neg (by omega)]
theorem gcdZ_neg (x y : Int) : gcdZ (-x) (-y) = gcdZ x y := by unfold gcdZ; rw [Int.natAbs_neg, Int.natAbs_neg]
theorem rmO_num (x y : Int) : rmO x y = (Rat.divInt x y).num := by
  rw [← mkO_num]
  unfold rmO mkO
  by_cases h : x = 0 ∨ y = 0
  · rw [if_pos h, if_pos h]
  · rw [if_neg h, if_neg h]
    have hy : y ≠ 0 := fun e => h (.inr e)
    have hg := gcd_pos (x := x) hy
    by_cases hn : y < 0
    · rw [if_pos hn, if_pos hn, gcdZ_neg]
      unfold divZ
      rw [if_neg hg, if_neg (by omega), Int.ediv_neg, Int.neg_ediv_of_dvd (gcd_l x y)]
    · rw [if_neg hn, if_neg hn]
theorem rmD_den (x y : Int) : rmD x y = ((Rat.divInt x y).den : Nat) := by
  by_cases h : x = 0 ∨ y = 0
  · have h2 := mkU_den x y
    unfold mkU at h2
    rw [if_pos h] at h2
    unfold rmD
    rw [if_pos h]
    have h3 := und_fD (Rat.divInt x y).den_nz
    rw [← h2] at h3
    exact h3
  · rw [← mkD_den x y h]
    unfold rmD mkD
    rw [if_neg h]
    have hy : y ≠ 0 := fun e => h (.inr e)
    have hg := gcd_pos (x := x) hy
    by_cases hn : y < 0
    · rw [if_pos hn, if_pos hn, gcdZ_neg]
      unfold divZ
      rw [if_neg hg, if_neg (by omega), Int.ediv_neg, Int.neg_ediv_of_dvd (gcd_r x y)]
    · rw [if_neg hn, if_neg hn]

/-- a fraction that may be is a rational number's one form -/
theorem rightF_rat {p q : Int} (h : rightF p q = true) : ∃ r : Rat, p = r.num ∧ q = fD r.den := by
  unfold rightF at h
  rw [Bool.and_eq_true, decide_eq_true_eq] at h
  refine ⟨Rat.divInt p (und q), ?_, ?_⟩
  · rw [← rmO_num]; exact h.2.1
  · unfold fD; rw [← rmD_den]; exact h.2.2
theorem divInt_self (r : Rat) : Rat.divInt r.num (r.den : Int) = r := Rat.num_divInt_den r
theorem rat_rightF (r : Rat) : rightF r.num (fD r.den) = true := by
  unfold rightF
  rw [Bool.and_eq_true, decide_eq_true_eq, und_fD r.den_nz, rmO_num, rmD_den, divInt_self]
  refine ⟨?_, rfl, rfl⟩
  have : ¬ fD r.den < 0 := by unfold fD fU; split <;> omega
  simp [this]
def cmpR (a b : Rat) : Int := if a < b then -1 else if a = b then 0 else 1
theorem num_eq {a b : Rat} : a.num * (b.den : Int) = b.num * (a.den : Int) ↔ a = b := by
  constructor
  · intro h
    have h1 : ¬ a < b := fun hl => by rw [Rat.lt_iff] at hl; omega
    have h2 : ¬ b < a := fun hl => by rw [Rat.lt_iff] at hl; omega
    rw [Rat.not_lt] at h1 h2
    exact Rat.le_antisymm h2 h1
  · rintro rfl; rfl
theorem cmp_rat (a b : Rat) : cmpZ (a.num * (b.den : Int)) (b.num * (a.den : Int)) = cmpR a b := by
  unfold cmpZ cmpR
  have hi := Rat.lt_iff a b
  by_cases h : a < b
  · rw [if_pos h, if_pos (hi.1 h)]
  · rw [if_neg h, if_neg (fun k => h (hi.2 k))]
    by_cases h2 : a = b
    · rw [if_pos h2, if_pos (num_eq.2 h2)]
    · rw [if_neg h2, if_neg (fun h3 => h2 (num_eq.1 h3))]
theorem den_ne (r : Rat) : (r.den : Int) ≠ 0 := by have := r.den_nz; omega
theorem add_rat (a b : Rat) : Rat.divInt (a.num * (b.den : Int) + b.num * (a.den : Int)) ((a.den : Int) * (b.den : Int)) = a + b := by
  rw [← Rat.divInt_add_divInt _ _ (den_ne a) (den_ne b), divInt_self, divInt_self]
theorem mul_rat (a b : Rat) : Rat.divInt (a.num * b.num) ((a.den : Int) * (b.den : Int)) = a * b := by
  rw [← Rat.divInt_mul_divInt, divInt_self, divInt_self]
theorem neg_rat (a : Rat) : Rat.divInt (-a.num) (a.den : Int) = -a := by
  rw [← Rat.neg_divInt, divInt_self]
theorem div_rat (a b : Rat) : Rat.divInt (a.num * (b.den : Int)) (b.num * (a.den : Int)) = a / b := by
  rw [Rat.div_def, Rat.inv_def, Int.mul_comm b.num]
  conv => rhs; lhs; rw [← divInt_self a]
  rw [Rat.divInt_mul_divInt]
theorem div_rat' (a b : Rat) : Rat.divInt (a.num * (b.den : Int)) ((a.den : Int) * b.num) = a / b := by
  rw [Int.mul_comm (a.den : Int)]; exact div_rat a b
theorem int_rat (n : Int) : Rat.divInt n 1 = (n : Rat) := by
  have := divInt_self (n : Rat)
  rw [Rat.num_intCast, Rat.den_intCast] at this
  exact this
theorem floor_rat (a : Rat) : divZ a.num (a.den : Int) = a.floor := by
  unfold divZ Rat.floor
  rw [if_neg (den_ne a)]
  split
  · rename_i h; rw [h]; simp
  · rfl
theorem mod_rat (a : Rat) : decide (modZ a.num (a.den : Int) = 0) = decide ((a.floor : Rat) = a) := by
  unfold modZ
  rw [if_neg (den_ne a), Bool.eq_iff_iff, decide_eq_true_eq, decide_eq_true_eq]
  constructor
  · intro h
    have hd : (a.den : Int) ∣ a.num := Int.dvd_of_emod_eq_zero h
    have hg : a.num.natAbs.gcd a.den = 1 := a.reduced
    have h1 : a.den = 1 := by
      have h2 : a.den ∣ a.num.natAbs := Int.ofNat_dvd_left.1 hd
      have h3 := Nat.dvd_gcd h2 (Nat.dvd_refl a.den)
      rw [hg] at h3
      exact Nat.dvd_one.1 h3
    have h4 : a.floor = a.num := by unfold Rat.floor; rw [if_pos h1]
    rw [h4]
    apply Rat.ext
    · rw [Rat.num_intCast]
    · rw [Rat.den_intCast, h1]
  · intro h
    have h1 : a.den = 1 := by rw [← h, Rat.den_intCast]
    rw [h1]
    exact Int.emod_one _
end Go.Proofs.Ytmlnpagkabmmpaa

/- Fractions as rational numbers: what the functions do. -/
namespace Go.Proofs.Ytmlnpagkabmmpaa
open Go.RowKit
abbrev RAT (a : Rat) : VP := VP.agg [Bz a.num, Dz a.num, Bz (fD a.den), Dz (fD a.den)]
abbrev RRAT (a : Rat) : VP := VP.agg [Bz a.num, Tz a.num, Bz (a.den : Int), Tz (a.den : Int)]
/-- how many digits a fraction's numbers have -/
def LR (a : Rat) (n : Nat) : Prop := L a.num ≤ n ∧ L (a.den : Int) ≤ n
theorem LR.u {a : Rat} {n : Nat} (h : LR a n) : L (fD a.den) ≤ n := lfU h.2
theorem LR.le {a : Rat} {m n : Nat} (h : LR a m) (k : m ≤ n) : LR a n := ⟨Nat.le_trans h.1 k, Nat.le_trans h.2 k⟩
theorem lnum {x y : Int} {m : Nat} (h : L x ≤ m) : L (Rat.divInt x y).num ≤ m := by rw [← mkO_num]; exact lmkO h
theorem lden {x y : Int} {m : Nat} (h : L y ≤ m) (h1 : 1 ≤ m) : L ((Rat.divInt x y).den : Int) ≤ m := by rw [← rmD_den]; exact lrmD h h1
theorem LR.div {x y : Int} {m : Nat} (h : L x ≤ m) (k : L y ≤ m) (h1 : 1 ≤ m) : LR (Rat.divInt x y) m := ⟨lnum h, lden k h1⟩
theorem lradd {a b : Rat} {m n : Nat} (h : LR a m) (k : LR b n) : LR (a + b) (m + n + (m + n) + 1) := by
  rw [← add_rat]
  exact LR.div (Nat.le_trans (ladd (lmul h.1 k.2) (lmul k.1 h.2)) (by omega)) (Nat.le_trans (lmul h.2 k.2) (by omega)) (by omega)
theorem lrmul {a b : Rat} {m n : Nat} (h : LR a m) (k : LR b n) : LR (a * b) (m + n + 1) := by
  rw [← mul_rat]
  exact LR.div (Nat.le_trans (lmul h.1 k.1) (by omega)) (Nat.le_trans (lmul h.2 k.2) (by omega)) (by omega)
theorem lrdiv {a b : Rat} {m n : Nat} (h : LR a m) (k : LR b n) : LR (a / b) (m + n + 1) := by
  rw [← div_rat]
  exact LR.div (Nat.le_trans (lmul h.1 k.2) (by omega)) (Nat.le_trans (lmul k.1 h.2) (by omega)) (by omega)
theorem lrneg {a : Rat} {m : Nat} (h : LR a m) : LR (-a) m := ⟨by rw [Rat.neg_num]; exact lneg h.1, h.2⟩
theorem lrint {n : Int} {m : Nat} (h : L n ≤ m) (h1 : 1 ≤ m) : LR (n : Rat) m := ⟨by rw [Rat.num_intCast]; exact h, by rw [Rat.den_intCast]; exact Nat.le_trans lone h1⟩
theorem lrfloor {a : Rat} {m : Nat} (h : LR a m) : L a.floor ≤ m := by rw [← floor_rat]; exact ldiv h.1
theorem lrzero : LR 0 1 := ⟨Nat.zero_le _, lone⟩

section
variable (a b : Rat)
theorem q_make (x y : Int) (hx : L x ≤ 30000) (hy : L y ≤ 30000) : Spec Try.prog 70 [(INT x).p, (INT y).p] (RAT (Rat.divInt x y)) := by
  have h := f_make x y hx hy
  rw [mkO_num, mkU_den] at h; exact h
theorem q_of (n : Int) (h1 : L n ≤ 1000) : Spec Try.prog 23 [(INT n).p] (RAT (n : Rat)) := by
  have h := f_of n h1
  rw [mkO_num, mkU_den, int_rat] at h; exact h
theorem q_add (ha : LR a 1000) (hb : LR b 1000) : Spec Try.prog 18 [(RAT a).p, (RAT b).p] (RAT (a + b)) := by
  have h := f_add a.num (fD a.den) b.num (fD b.den) ha.1 ha.u hb.1 hb.u
  rw [und_fD a.den_nz, und_fD b.den_nz, mkO_num, mkU_den, add_rat] at h; exact h
theorem q_mul (ha : LR a 1000) (hb : LR b 1000) : Spec Try.prog 19 [(RAT a).p, (RAT b).p] (RAT (a * b)) := by
  have h := f_mul a.num (fD a.den) b.num (fD b.den) ha.1 ha.u hb.1 hb.u
  rw [und_fD a.den_nz, und_fD b.den_nz, mkO_num, mkU_den, mul_rat] at h; exact h
theorem q_div (ha : LR a 1000) (hb : LR b 1000) : Spec Try.prog 21 [(RAT a).p, (RAT b).p] (RAT (a / b)) := by
  have h := f_div a.num (fD a.den) b.num (fD b.den) ha.1 ha.u hb.1 hb.u
  rw [und_fD a.den_nz, und_fD b.den_nz, mkO_num, mkU_den, div_rat] at h; exact h
theorem q_neg (ha : LR a 1000) : Spec Try.prog 20 [(RAT a).p] (RAT (-a)) := by
  have h := f_neg a.num (fD a.den) ha.1 ha.u
  rw [und_fD a.den_nz, mkO_num, mkU_den, neg_rat] at h; exact h
theorem q_cmp (ha : LR a 1000) (hb : LR b 1000) : Spec Try.prog 24 [(RAT a).p, (RAT b).p] (VP.int .i64 (cmpR a b)) := by
  have h := f_cmp a.num (fD a.den) b.num (fD b.den) ha.1 ha.u hb.1 hb.u
  rw [und_fD a.den_nz, und_fD b.den_nz, cmp_rat] at h; exact h
theorem q_floor (ha : LR a 1000) : Spec Try.prog 22 [(RAT a).p] (VP.tup [INT a.floor, VP.bool (decide ((a.floor : Rat) = a))]) := by
  have h := f_floor a.num (fD a.den) ha.1 ha.u
  rw [und_fD a.den_nz, mod_rat, floor_rat] at h; exact h
/-- a fraction's text -/
def qtxt (a : Rat) : ByteArray := rtxt a.num (a.den : Int)
theorem ftxt_rat : ftxt a.num (fD a.den) = qtxt a := by
  unfold ftxt qtxt rtxt fD fU
  by_cases h : (a.den : Int) = 1
  · rw [if_pos h, if_pos rfl, if_pos h]
  · rw [if_neg h, if_neg (den_ne a), if_neg h]
theorem q_text (ha : LR a 1000) : Spec Try.prog 71 [(RAT a).p] (VP.str (qtxt a)) := by
  have h := f_text a.num (fD a.den) ha.1 ha.u
  rw [ftxt_rat] at h; exact h

theorem w_of (ha : LR a 1000) : Spec Try.prog 140 [(RAT a).p] (RRAT a) := by
  have h := g_of a.num (fD a.den) ha.1 ha.u
  rw [und_fD a.den_nz] at h; exact h
theorem w_make (x y : Int) (hx : L x ≤ 5000) (hy : L y ≤ 5000) : Spec Try.prog 142 [(NUM x).p, (NUM y).p] (RRAT (Rat.divInt x y)) := by
  have h := g_make x y hx hy
  rw [rmO_num, rmD_den] at h; exact h
theorem w_form (ha : LR a 1000) : Spec Try.prog 141 [(RRAT a).p] (RAT a) := g_form a.num (a.den : Int) ha.1 ha.2
theorem fD_inj {m n : Nat} (hm : m ≠ 0) (hn : n ≠ 0) (h : fD m = fD n) : m = n := by
  have h1 := und_fD hm
  have h2 := und_fD hn
  rw [h] at h1
  omega
theorem w_same (ha : LR a 1000) (hb : LR b 1000) : Spec Try.prog 17 [(RAT a).p, (RAT b).p] (VP.bool (decide (a = b))) := by
  have h := g_same a.num (fD a.den) b.num (fD b.den) (lle ha.1 (by decide)) (lle ha.u (by decide)) (lle hb.1 (by decide)) (lle hb.u (by decide))
  have e : decide (a.num = b.num ∧ fD a.den = fD b.den) = decide (a = b) := by
    rw [Bool.eq_iff_iff, decide_eq_true_eq, decide_eq_true_eq]
    constructor
    · rintro ⟨h1, h2⟩; exact Rat.ext h1 (fD_inj a.den_nz b.den_nz h2)
    · rintro rfl; exact ⟨rfl, rfl⟩
  rw [e] at h; exact h
theorem w_same1 (ha : LR a 1000) : Spec Try.prog 17 [(RAT a).p, (RAT a).p] (VP.bool true) := by
  have h := w_same a a ha ha
  rwa [decide_eq_true rfl] at h
end
end Go.Proofs.Ytmlnpagkabmmpaa

/- Fractions: which are looked at. -/
namespace Go.Proofs.Ytmlnpagkabmmpaa
open Go.RowKit
theorem gt5_yes {p : Int} (h : 5 < L p) : decide ((((dg BB p.natAbs).length : Nat) : Int) > 5) = true := by unfold L at h; rw [decide_eq_true_eq]; omega
theorem gt5_no {p : Int} (h : L p ≤ 5) : decide ((((dg BB p.natAbs).length : Nat) : Int) > 5) = false := by unfold L at h; rw [decide_eq_false_iff_not]; omega
end Go.Proofs.Ytmlnpagkabmmpaa

/- Fractions: what comes in; the law's shared parts. -/
namespace Go.Proofs.Ytmlnpagkabmmpaa
open Go.RowKit

/-- a fraction as it came in -/
abbrev FRaw := Raw × Raw
abbrev FRAW (x : FRaw) : VP := VP.agg [VP.bool x.1.1, VP.nums .u32 x.1.2, VP.bool x.2.1, VP.nums .u32 x.2.2]
def fcells : List FRaw → List VP
  | [] => []
  | x :: r => VP.bool x.1.1 :: VP.nums .u32 x.1.2 :: VP.bool x.2.1 :: VP.nums .u32 x.2.2 :: fcells r
def FRaw.ok (x : FRaw) : Prop := x.1.ok ∧ x.2.ok
theorem typed_aint {w : World} {n : Nat} {cs : List Value} (h : Typed Try.prog w n 24 cs) : ∃ x : Raw, x.ok ∧ All2 [VP.bool x.1, VP.nums .u32 x.2] cs w := by
  obtain ⟨m, hl, hf⟩ := h.struct Try.underlying24
  rw [cells_aint] at hl
  obtain ⟨u0, u1, rfl⟩ := two_of hl
  have f0 := hf _ (List.mem_cons_self ..)
  have f1 := hf _ (List.mem_cons_of_mem _ (List.mem_cons_self ..))
  simp only at f0 f1
  rw [cells_bool] at f0
  rw [cells_u32s] at f1
  obtain ⟨s, hs⟩ := f0.bool Try.underlying4
  obtain ⟨a, l, c, hc, h1, h2, h3, h4⟩ := typed_u32s f1
  have e0 : u0 = .bool s := by simpa using hs
  have e1 : u1 = .slice a l.length c := by simpa using hc
  subst e0 e1
  exact ⟨(s, l), h3, rfl, ⟨a, c, rfl, h1, h2, h4⟩, trivial⟩
theorem cells_frac : Try.prog.cellsOf 26 = 4 := by kernel_rfl
theorem four_of {α : Type} {l : List α} (h : l.length = 4) : ∃ a b c d, l = [a, b, c, d] := by
  match l, h with
  | [a, b, c, d], _ => exact ⟨a, b, c, d, rfl⟩
theorem arg_frac {w : World} {v : Value} (h : Arg Try.prog w 26 v) : ∃ x : FRaw, x.ok ∧ (FRAW x).p v w := by
  obtain ⟨cs, m, rfl, hl, hf⟩ := h.struct Try.underlying26
  rw [cells_frac] at hl
  obtain ⟨u0, u1, u2, u3, rfl⟩ := four_of hl
  have f0 := hf _ (List.mem_cons_self ..)
  have f1 := hf _ (List.mem_cons_of_mem _ (List.mem_cons_self ..))
  simp only at f0 f1
  rw [cells_aint] at f0 f1
  obtain ⟨x, hx, p1⟩ := typed_aint f0
  obtain ⟨y, hy, p2⟩ := typed_aint f1
  exact ⟨(x, y), ⟨hx, hy⟩, [u0, u1, u2, u3], rfl, p1.1, p1.2.1, p2.1, p2.2.1, trivial⟩
theorem z_frac_2 (w : World) : All2 [Bz 0, Dz 0, Bz 0, Dz 0, Bz 0, Dz 0, Bz 0, Dz 0] [.bool false, .slice none 0 0, .bool false, .slice none 0 0, .bool false, .slice none 0 0, .bool false, .slice none 0 0] w := ⟨rfl, nums_nil _ _, rfl, nums_nil _ _, rfl, nums_nil _ _, rfl, nums_nil _ _, trivial⟩
theorem z_frac_3 (w : World) : All2 [Bz 0, Dz 0, Bz 0, Dz 0, Bz 0, Dz 0, Bz 0, Dz 0, Bz 0, Dz 0, Bz 0, Dz 0] [.bool false, .slice none 0 0, .bool false, .slice none 0 0, .bool false, .slice none 0 0, .bool false, .slice none 0 0, .bool false, .slice none 0 0, .bool false, .slice none 0 0] w := ⟨rfl, nums_nil _ _, rfl, nums_nil _ _, rfl, nums_nil _ _, rfl, nums_nil _ _, rfl, nums_nil _ _, rfl, nums_nil _ _, trivial⟩

/-- what a fraction that came in is: odd in one of four ways, or a rational number -/
inductive FSt (x : FRaw) : Prop where
  | a (h : [x.1, x.2].any oddP = true)
  | b (p q : Int) (e : x = (raw p, raw q)) (hp : L p ≤ 10) (hq : L q ≤ 10) (hb : 5 < L p)
  | c (p q : Int) (e : x = (raw p, raw q)) (hp : L p ≤ 5) (hq : L q ≤ 10) (hb : 5 < L q)
  | d (p q : Int) (e : x = (raw p, raw q)) (hp : L p ≤ 5) (hq : L q ≤ 5) (hb : rightF p q = false)
  | e (r : Rat) (e : x = (raw r.num, raw (fD r.den))) (h : LR r 5)
theorem fst (x : FRaw) : FSt x := by
  cases h : [x.1, x.2].any oddP
  · have hall := List.any_eq_false.1 h
    obtain ⟨p, l1, e1⟩ := raw_right (x := x.1) (by simpa using hall x.1 (by simp))
    obtain ⟨q, l2, e2⟩ := raw_right (x := x.2) (by simpa using hall x.2 (by simp))
    have e : x = (raw p, raw q) := Prod.ext e1 e2
    by_cases g1 : 5 < L p
    · exact .b p q e l1 l2 g1
    · by_cases g2 : 5 < L q
      · exact .c p q e (by omega) l2 g2
      · cases g3 : rightF p q
        · exact .d p q e (by omega) (by omega) g3
        · obtain ⟨r, h1, h2⟩ := rightF_rat g3
          subst h1 h2
          refine .e r e ⟨by omega, ?_⟩
          by_cases h1 : (r.den : Int) = 1
          · rw [h1]; exact Nat.le_trans lone (by decide)
          · have : fD r.den = (r.den : Int) := by unfold fD fU; rw [if_neg h1]
            rw [← this]; omega
  · exact .a h
abbrev Odd2 (x y : FRaw) (b : Bool) : Prop := Spec Try.prog 16 [isRows 2 (fcells [x, y])] (VP.bool b)
abbrev Odd3 (x y z : FRaw) (b : Bool) : Prop := Spec Try.prog 16 [isRows 3 (fcells [x, y, z])] (VP.bool b)
theorem sp2_1 : ((qtxt (Rat.divInt 6 (-4))).toList == (ByteArray.mk #[45, 51, 47, 50]).toList) = true := by
  rw [show qtxt (Rat.divInt 6 (-4)) = (ByteArray.mk #[45, 51, 47, 50]) from by rfl]; exact beq_self_eq_true _
theorem sp2_2 : ((txt ((Rat.divInt 6 (-4)).floor)).toList == (ByteArray.mk #[45, 50]).toList) = true := by
  rw [show txt ((Rat.divInt 6 (-4)).floor) = (ByteArray.mk #[45, 50]) from by rfl]; exact beq_self_eq_true _
theorem sp2_3 : (decide (((Rat.divInt 6 (-4)).floor : Rat) = (Rat.divInt 6 (-4)))) = false := by decide +kernel
set_option maxRecDepth 100000 in
set_option maxHeartbeats 4000000 in
theorem sp2_spec  : Spec Try.prog 15 [] (VP.bool true) := by
  refine spec_of (xs := []) 24 [1, 2] Try.func15 rfl Try.ntmps15 rfl fun w0 => ?_
  refine t_seq ?_
  refine t_region (F := ⟨_, _, _, _⟩) [] [] [(0, .slot 0 (VP.bool false))] [] [] [] rfl rfl follow rfl ⟨
    .inl ⟨wants_plain rfl, does_move _ (.inr rfl) rfl rfl rfl rfl (ar_const (fun _ => rfl))⟩,
    trivial⟩ ?_
  refine nx_sub (fs' := [.slot 0 (VP.bool false)]) [0] rfl ?_
  refine nx_then ?_
  refine t_seq ?_
  refine t_region (F := ⟨_, _, _, _⟩) [.slot 0 (VP.bool false)] [] [(0, .slot 4 (INT 6)), (1, .slot 5 (INT (-4))), (2, .slot 6 (RAT (Rat.divInt 6 (-4)))), (3, .own 1 26 4), (4, .box 1 26 [Bz ((Rat.divInt 6 (-4)).num), Dz ((Rat.divInt 6 (-4)).num), Bz (fD (Rat.divInt 6 (-4)).den), Dz (fD (Rat.divInt 6 (-4)).den)])] [] [0] [] rfl rfl follow rfl ⟨
    .inl ⟨wants_plain rfl, does_call (s_of 6 (by decide) (by decide)) rfl hb_collator_whole_Of rfl rfl rfl rfl ⟨(ar_const (fun _ => rfl)), trivial⟩⟩,
    .inl ⟨wants_plain rfl, does_call (s_of (-4) (by decide) (by decide)) rfl hb_collator_whole_Of rfl rfl rfl rfl ⟨(ar_const (fun _ => rfl)), trivial⟩⟩,
    .inl ⟨wants_plain rfl, does_call (q_make 6 (-4) (lle (lsmall 6 (by decide)) (by decide)) (lle (lsmall (-4) (by decide)) (by decide))) rfl hb_collator_frac_Make rfl rfl rfl rfl ⟨(ar_tmp (av_rs 0 rfl rfl)), (ar_tmp (av_rs 1 rfl rfl)), trivial⟩⟩,
    .inl ⟨wants_plain rfl, does_allocOwn [Bz 0, Dz 0, Bz 0, Dz 0] ty_zero_api_Frac rfl rfl rfl rfl rfl z_frac rfl⟩,
    .inl ⟨wants_plain rfl, does_storeNew 4 _ _ ty_agg_api_Frac rfl rfl rfl rfl rfl (pt_own (av_rs 3 rfl rfl)) (av_rs 3 rfl rfl) (ar_tmp (av_rs 2 rfl rfl))⟩,
    trivial⟩ ?_
  refine nx_sub (fs' := [.slot 0 (VP.bool false), .box 1 26 [Bz ((Rat.divInt 6 (-4)).num), Dz ((Rat.divInt 6 (-4)).num), Bz (fD (Rat.divInt 6 (-4)).den), Dz (fD (Rat.divInt 6 (-4)).den)]]) [0, 5] rfl ?_
  refine nx_then ?_
  refine t_seq ?_
  refine t_region (F := ⟨_, _, _, _⟩) [.slot 0 (VP.bool false), .box 1 26 [Bz ((Rat.divInt 6 (-4)).num), Dz ((Rat.divInt 6 (-4)).num), Bz (fD (Rat.divInt 6 (-4)).den), Dz (fD (Rat.divInt 6 (-4)).den)]] [] [(0, .slot 8 (RAT (Rat.divInt 6 (-4)))), (1, .slot 9 (VP.tup [INT ((Rat.divInt 6 (-4)).floor), VP.bool (decide (((Rat.divInt 6 (-4)).floor : Rat) = (Rat.divInt 6 (-4))))])), (2, .slot 7 (VP.tup [INT ((Rat.divInt 6 (-4)).floor), VP.bool (decide (((Rat.divInt 6 (-4)).floor : Rat) = (Rat.divInt 6 (-4))))])), (3, .slot 10 (INT ((Rat.divInt 6 (-4)).floor))), (4, .slot 11 (VP.bool (decide (((Rat.divInt 6 (-4)).floor : Rat) = (Rat.divInt 6 (-4)))))), (5, .own 2 24 2), (6, .box 2 24 [Bz ((Rat.divInt 6 (-4)).floor), Dz ((Rat.divInt 6 (-4)).floor)]), (7, .slot 3 (VP.bool (decide (((Rat.divInt 6 (-4)).floor : Rat) = (Rat.divInt 6 (-4))))))] [] [0, 1] [] rfl rfl follow rfl ⟨
    .inl ⟨wants_plain rfl, does_loadAgg _ ty_agg_api_Frac rfl rfl rfl rfl rfl rfl (pt_box (av_fs 1 rfl)) (av_fs 1 rfl)⟩,
    .inl ⟨wants_plain rfl, does_call (q_floor (Rat.divInt 6 (-4)) (LR.le (LR.div (lsmall 6 (by decide)) (lsmall (-4) (by decide)) (by decide)) (by decide))) rfl hb_collator_frac_Floor rfl rfl rfl rfl ⟨(ar_tmp (av_rs 0 rfl rfl)), trivial⟩⟩,
    .inl ⟨wants_plain rfl, does_move _ (.inl rfl) rfl rfl rfl rfl (ar_tmp (av_rs 1 rfl rfl))⟩,
    .inl ⟨wants_plain rfl, does_extract (ps := [INT ((Rat.divInt 6 (-4)).floor), VP.bool (decide (((Rat.divInt 6 (-4)).floor : Rat) = (Rat.divInt 6 (-4))))]) _ _ rfl rfl rfl rfl rfl (ar_tmp (av_rs 2 rfl rfl)) rfl⟩,
    .inl ⟨wants_plain rfl, does_extract (ps := [INT ((Rat.divInt 6 (-4)).floor), VP.bool (decide (((Rat.divInt 6 (-4)).floor : Rat) = (Rat.divInt 6 (-4))))]) _ _ rfl rfl rfl rfl rfl (ar_tmp (av_rs 2 rfl rfl)) rfl⟩,
    .inl ⟨wants_plain rfl, does_allocOwn [Bz 0, Dz 0] ty_zero_api_Int rfl rfl rfl rfl rfl z_int rfl⟩,
    .inl ⟨wants_plain rfl, does_storeNew 2 _ _ ty_agg_api_Int rfl rfl rfl rfl rfl (pt_own (av_rs 5 rfl rfl)) (av_rs 5 rfl rfl) (ar_tmp (av_rs 3 rfl rfl))⟩,
    .inl ⟨wants_plain rfl, does_move _ (.inr rfl) rfl rfl rfl rfl (ar_tmp (av_rs 4 rfl rfl))⟩,
    trivial⟩ ?_
  refine nx_sub (fs' := [.slot 0 (VP.bool false), .box 1 26 [Bz ((Rat.divInt 6 (-4)).num), Dz ((Rat.divInt 6 (-4)).num), Bz (fD (Rat.divInt 6 (-4)).den), Dz (fD (Rat.divInt 6 (-4)).den)], .box 2 24 [Bz ((Rat.divInt 6 (-4)).floor), Dz ((Rat.divInt 6 (-4)).floor)], .slot 3 (VP.bool (decide (((Rat.divInt 6 (-4)).floor : Rat) = (Rat.divInt 6 (-4)))))]) [0, 1, 8, 9] rfl ?_
  refine nx_then ?_
  refine t_seq ?_
  refine t_region (F := ⟨_, _, _, _⟩) [.box 1 26 [Bz ((Rat.divInt 6 (-4)).num), Dz ((Rat.divInt 6 (-4)).num), Bz (fD (Rat.divInt 6 (-4)).den), Dz (fD (Rat.divInt 6 (-4)).den)], .box 2 24 [Bz ((Rat.divInt 6 (-4)).floor), Dz ((Rat.divInt 6 (-4)).floor)], .slot 3 (VP.bool (decide (((Rat.divInt 6 (-4)).floor : Rat) = (Rat.divInt 6 (-4)))))] [(12, .slot 0 (VP.bool false))] [(0, .slot 12 (RAT (Rat.divInt 6 (-4)))), (1, .slot 13 (VP.str (qtxt (Rat.divInt 6 (-4))))), (2, .slot 14 (VP.bool ((qtxt (Rat.divInt 6 (-4))).toList == (ByteArray.mk #[45, 51, 47, 50]).toList))), (3, .slot 15 (VP.bool ((qtxt (Rat.divInt 6 (-4))).toList == (ByteArray.mk #[45, 51, 47, 50]).toList))), (4, .slot 16 (INT ((Rat.divInt 6 (-4)).floor))), (5, .slot 17 (VP.str (txt ((Rat.divInt 6 (-4)).floor)))), (6, .slot 18 (VP.bool ((txt ((Rat.divInt 6 (-4)).floor)).toList == (ByteArray.mk #[45, 50]).toList))), (7, .slot 19 (VP.bool ((txt ((Rat.divInt 6 (-4)).floor)).toList == (ByteArray.mk #[45, 50]).toList))), (8, .slot 20 (VP.bool ((txt ((Rat.divInt 6 (-4)).floor)).toList == (ByteArray.mk #[45, 50]).toList))), (9, .slot 21 (VP.bool (decide (((Rat.divInt 6 (-4)).floor : Rat) = (Rat.divInt 6 (-4)))))), (10, .slot 22 (VP.bool true)), (11, .slot 23 (VP.bool true)), (12, .slot 0 (VP.bool true))] [] [1, 2, 3] [0] rfl rfl follow rfl ⟨
    .inl ⟨wants_plain rfl, does_loadAgg _ ty_agg_api_Frac rfl rfl rfl rfl rfl rfl (pt_box (av_fs 0 rfl)) (av_fs 0 rfl)⟩,
    .inl ⟨wants_plain rfl, does_call (q_text (Rat.divInt 6 (-4)) (LR.le (LR.div (lsmall 6 (by decide)) (lsmall (-4) (by decide)) (by decide)) (by decide))) rfl hb_collator_frac_Text rfl rfl rfl rfl ⟨(ar_tmp (av_rs 0 rfl rfl)), trivial⟩⟩,
    .inl ⟨wants_plain rfl, does_eqStr (u := (qtxt (Rat.divInt 6 (-4)))) (v := (ByteArray.mk #[45, 51, 47, 50])) _ _ _ _ _ rfl rfl rfl rfl rfl rfl (ar_tmp (av_rs 1 rfl rfl)) (ar_const (fun _ => rfl))⟩,
    .inl ⟨wants_plain rfl, does_move _ (.inl rfl) rfl rfl rfl rfl (ar_tmp (av_rs 2 rfl rfl))⟩,
    .inl ⟨wants_guard true rfl rfl rfl (av_bool sp2_1 (av_rs 3 rfl rfl)), does_loadAgg _ ty_agg_api_Int rfl rfl rfl rfl rfl rfl (pt_box (av_fs 1 rfl)) (av_fs 1 rfl)⟩,
    .inl ⟨wants_guard true rfl rfl rfl (av_bool sp2_1 (av_rs 3 rfl rfl)), does_call (s_text ((Rat.divInt 6 (-4)).floor) (lle (lrfloor (LR.div (lsmall 6 (by decide)) (lsmall (-4) (by decide)) (by decide))) (by decide))) rfl hb_collator_whole_Text rfl rfl rfl rfl ⟨(ar_tmp (av_rs 4 rfl rfl)), trivial⟩⟩,
    .inl ⟨wants_guard true rfl rfl rfl (av_bool sp2_1 (av_rs 3 rfl rfl)), does_eqStr (u := (txt ((Rat.divInt 6 (-4)).floor))) (v := (ByteArray.mk #[45, 50])) _ _ _ _ _ rfl rfl rfl rfl rfl rfl (ar_tmp (av_rs 5 rfl rfl)) (ar_const (fun _ => rfl))⟩,
    .inl ⟨wants_plain rfl, does_pick true _ _ _ rfl rfl rfl rfl rfl (ar_tmp (av_bool sp2_1 (av_rs 3 rfl rfl))) (ar_tmp (av_rs 6 rfl rfl))⟩,
    .inl ⟨wants_plain rfl, does_move _ (.inl rfl) rfl rfl rfl rfl (ar_tmp (av_rs 7 rfl rfl))⟩,
    .inl ⟨wants_guard true rfl rfl rfl (av_bool sp2_2 (av_rs 8 rfl rfl)), does_move _ (.inl rfl) rfl rfl rfl rfl (ar_tmp (av_fs 2 rfl))⟩,
    .inl ⟨wants_guard true rfl rfl rfl (av_bool sp2_2 (av_rs 8 rfl rfl)), does_not false _ _ rfl rfl rfl rfl rfl (ar_tmp (av_bool sp2_3 (av_rs 9 rfl rfl)))⟩,
    .inl ⟨wants_plain rfl, does_pick true _ _ _ rfl rfl rfl rfl rfl (ar_tmp (av_bool sp2_2 (av_rs 8 rfl rfl))) (ar_tmp (av_rs 10 rfl rfl))⟩,
    .inl ⟨wants_plain rfl, does_move _ (.inr rfl) rfl rfl rfl rfl (ar_tmp (av_rs 11 rfl rfl))⟩,
    trivial⟩ ?_
  refine nx_sub (fs' := [.slot 0 (VP.bool true)]) [15] rfl ?_
  refine nx_then ?_
  refine t_ret ?_
  exact rt_one rfl (res_tmp 0 rfl)
end Go.Proofs.Ytmlnpagkabmmpaa
