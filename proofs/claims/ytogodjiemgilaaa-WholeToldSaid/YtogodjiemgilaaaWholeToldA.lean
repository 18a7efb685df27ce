/- WholeTold: the walks, in the logic over slots and boxes. -/
import Derived.Test.YtogodjiemgilaaaSpecB
namespace Go.Proofs.Ytogodjiemgilaaa
open Go.RowKit
set_option maxRecDepth 100000 in
set_option maxHeartbeats 4000000 in
theorem told_even (x y : Int) (h1 : L x ≤ 10) (h2 : L y ≤ 10) : Spec Try.prog 7 [(INT x).p, (INT y).p] (VP.bool true) := by
  refine spec_of (xs := [INT x, INT y]) 97 [2, 3, 5, 6, 7, 8, 9, 10] Try.func7 rfl Try.ntmps7 rfl fun w0 => ?_
  refine t_seq ?_
  refine t_region (F := ⟨_, _, _, _⟩) [.slot 0 (INT x), .slot 1 (INT y)] [] [(0, .box 2 69 [Bz x, Dz x]), (1, .box 3 69 [Bz y, Dz y]), (2, .slot 4 (VP.bool false))] [0, 1] [] rfl rfl follow rfl ⟨
    .inl ⟨wants_plain rfl, does_box _ rfl rfl rfl rfl rfl (ar_tmp (av_fs 0 rfl))⟩,
    .inl ⟨wants_plain rfl, does_box _ rfl rfl rfl rfl rfl (ar_tmp (av_fs 1 rfl))⟩,
    .inl ⟨wants_plain rfl, does_move _ (.inr rfl) rfl rfl rfl rfl (ar_const (fun _ => rfl))⟩,
    trivial⟩ ?_
  refine nx_sub (fs' := [.box 2 69 [Bz x, Dz x], .box 3 69 [Bz y, Dz y], .slot 4 (VP.bool false)]) [2, 3, 4] rfl ?_
  refine nx_then ?_
  refine t_seq ?_
  refine t_seq ?_
  refine t_region (F := ⟨_, _, _, _⟩) [.box 2 69 [Bz x, Dz x], .box 3 69 [Bz y, Dz y], .slot 4 (VP.bool false)] [] [(0, .slot 11 (VP.bool true)), (1, .slot 12 (VP.bool false))] [0, 1, 2] [] rfl rfl follow rfl ⟨
    .inl ⟨wants_plain rfl, does_call sp1_spec rfl hb_collator_collatorlaw01_speaks rfl rfl rfl rfl trivial⟩,
    .inl ⟨wants_plain rfl, does_not true _ _ rfl rfl rfl rfl rfl (ar_tmp (av_rs 0 rfl rfl))⟩,
    trivial⟩ ?_
  refine nx_sub (fs' := [.box 2 69 [Bz x, Dz x], .box 3 69 [Bz y, Dz y], .slot 4 (VP.bool false), .slot 12 (VP.bool false)]) [0, 1, 2, 4] rfl ?_
  refine nx_then ?_
  refine t_cond_f 3 rfl ?_
  refine t_skip ?_
  refine nx_then ?_
  refine t_seq ?_
  refine t_seq ?_
  refine t_region (F := ⟨_, _, _, _⟩) [.box 2 69 [Bz x, Dz x], .box 3 69 [Bz y, Dz y], .slot 4 (VP.bool false), .slot 12 (VP.bool false)] [] [(0, .slot 13 (INT x)), (1, .slot 14 (INT y)), (2, .arr 15 69 2 [Bz x, Dz x, Bz y, Dz y]), (3, .slot 16 (VP.bool false))] [0, 1, 2, 3] [] rfl rfl follow rfl ⟨
    .inl ⟨wants_plain rfl, does_loadAgg _ ty_agg_api_Int rfl rfl rfl rfl rfl rfl (pt_box (av_fs 0 rfl)) (av_fs 0 rfl)⟩,
    .inl ⟨wants_plain rfl, does_loadAgg _ ty_agg_api_Int rfl rfl rfl rfl rfl rfl (pt_box (av_fs 1 rfl)) (av_fs 1 rfl)⟩,
    .inl ⟨wants_plain rfl, does_buildSlice (sz := 2) [Bz 0, Dz 0, Bz 0, Dz 0] ty_zero_api_Int (by kernel_rfl) (fun w => run_sizeAgg ty_agg_api_Int w) rfl rfl rfl rfl rfl rfl (by kernel_rfl) (fun w => by exact z_int_2 w) (.cons 0 [Bz x, Dz x] rfl rfl (ar_cells_agg (ar_tmp (av_rs 0 rfl rfl))) (.cons 2 [Bz y, Dz y] rfl rfl (ar_cells_agg (ar_tmp (av_rs 1 rfl rfl))) (.nil _)))⟩,
    .inl ⟨wants_plain rfl, does_call (s_even2 x y h1 h2) rfl hb_collator_collatorlaw01_Odd rfl rfl rfl rfl ⟨(ar_arr (av_rs 2 rfl rfl)), trivial⟩⟩,
    trivial⟩ ?_
  refine nx_sub (fs' := [.box 2 69 [Bz x, Dz x], .box 3 69 [Bz y, Dz y], .slot 4 (VP.bool false), .slot 16 (VP.bool false)]) [0, 1, 2, 7] rfl ?_
  refine nx_then ?_
  refine t_cond_f 3 rfl ?_
  refine t_skip ?_
  refine nx_then ?_
  refine t_seq ?_
  refine t_region (F := ⟨_, _, _, _⟩) [.box 2 69 [Bz x, Dz x], .box 3 69 [Bz y, Dz y], .slot 4 (VP.bool false), .slot 16 (VP.bool false)] [] [(0, .slot 17 (INT x)), (1, .slot 18 (NUM x)), (2, .slot 19 (INT y)), (3, .slot 20 (NUM y)), (4, .own 5 72 2), (5, .own 6 72 2), (6, .box 5 72 [Bz x, Tz x]), (7, .box 6 72 [Bz y, Tz y])] [0, 1, 2, 3] [] rfl rfl follow rfl ⟨
    .inl ⟨wants_plain rfl, does_loadAgg _ ty_agg_api_Int rfl rfl rfl rfl rfl rfl (pt_box (av_fs 0 rfl)) (av_fs 0 rfl)⟩,
    .inl ⟨wants_plain rfl, does_call (r_of x (lle h1 (by decide))) rfl hb_collator_collatorref01_Of rfl rfl rfl rfl ⟨(ar_tmp (av_rs 0 rfl rfl)), trivial⟩⟩,
    .inl ⟨wants_plain rfl, does_loadAgg _ ty_agg_api_Int rfl rfl rfl rfl rfl rfl (pt_box (av_fs 1 rfl)) (av_fs 1 rfl)⟩,
    .inl ⟨wants_plain rfl, does_call (r_of y (lle h2 (by decide))) rfl hb_collator_collatorref01_Of rfl rfl rfl rfl ⟨(ar_tmp (av_rs 2 rfl rfl)), trivial⟩⟩,
    .inl ⟨wants_plain rfl, does_allocOwn [Bz 0, Tz 0] ty_zero_collatorref01_Num rfl rfl rfl rfl rfl z_num rfl⟩,
    .inl ⟨wants_plain rfl, does_allocOwn [Bz 0, Tz 0] ty_zero_collatorref01_Num rfl rfl rfl rfl rfl z_num rfl⟩,
    .inl ⟨wants_plain rfl, does_storeNew 2 _ _ ty_agg_collatorref01_Num rfl rfl rfl rfl rfl (pt_own (av_rs 4 rfl rfl)) (av_rs 4 rfl rfl) (ar_tmp (av_rs 1 rfl rfl))⟩,
    .inl ⟨wants_plain rfl, does_storeNew 2 _ _ ty_agg_collatorref01_Num rfl rfl rfl rfl rfl (pt_own (av_rs 5 rfl rfl)) (av_rs 5 rfl rfl) (ar_tmp (av_rs 3 rfl rfl))⟩,
    trivial⟩ ?_
  refine nx_sub (fs' := [.box 2 69 [Bz x, Dz x], .box 3 69 [Bz y, Dz y], .slot 4 (VP.bool false), .box 5 72 [Bz x, Tz x], .box 6 72 [Bz y, Tz y]]) [0, 1, 2, 10, 11] rfl ?_
  refine nx_then ?_
  refine t_seq ?_
  refine t_region (F := ⟨_, _, _, _⟩) [.box 2 69 [Bz x, Dz x], .box 3 69 [Bz y, Dz y], .slot 4 (VP.bool false), .box 5 72 [Bz x, Tz x], .box 6 72 [Bz y, Tz y]] [] [(0, .slot 22 (INT x)), (1, .slot 23 (INT y)), (2, .slot 24 (VP.tup [INT (divZ x y), INT (modZ x y)])), (3, .slot 21 (VP.tup [INT (divZ x y), INT (modZ x y)])), (4, .slot 25 (INT (divZ x y))), (5, .slot 26 (INT (modZ x y))), (6, .own 7 69 2), (7, .own 8 69 2), (8, .box 7 69 [Bz (divZ x y), Dz (divZ x y)]), (9, .box 8 69 [Bz (modZ x y), Dz (modZ x y)])] [0, 1, 2, 3, 4] [] rfl rfl follow rfl ⟨
    .inl ⟨wants_plain rfl, does_loadAgg _ ty_agg_api_Int rfl rfl rfl rfl rfl rfl (pt_box (av_fs 0 rfl)) (av_fs 0 rfl)⟩,
    .inl ⟨wants_plain rfl, does_loadAgg _ ty_agg_api_Int rfl rfl rfl rfl rfl rfl (pt_box (av_fs 1 rfl)) (av_fs 1 rfl)⟩,
    .inl ⟨wants_plain rfl, does_call (s_div x y (lle h1 (by decide)) (lle h2 (by decide))) rfl hb_collator_whole_Div rfl rfl rfl rfl ⟨(ar_tmp (av_rs 0 rfl rfl)), (ar_tmp (av_rs 1 rfl rfl)), trivial⟩⟩,
    .inl ⟨wants_plain rfl, does_move _ (.inl rfl) rfl rfl rfl rfl (ar_tmp (av_rs 2 rfl rfl))⟩,
    .inl ⟨wants_plain rfl, does_extract (ps := [INT (divZ x y), INT (modZ x y)]) _ _ rfl rfl rfl rfl rfl (ar_tmp (av_rs 3 rfl rfl)) rfl⟩,
    .inl ⟨wants_plain rfl, does_extract (ps := [INT (divZ x y), INT (modZ x y)]) _ _ rfl rfl rfl rfl rfl (ar_tmp (av_rs 3 rfl rfl)) rfl⟩,
    .inl ⟨wants_plain rfl, does_allocOwn [Bz 0, Dz 0] ty_zero_api_Int rfl rfl rfl rfl rfl z_int rfl⟩,
    .inl ⟨wants_plain rfl, does_allocOwn [Bz 0, Dz 0] ty_zero_api_Int rfl rfl rfl rfl rfl z_int rfl⟩,
    .inl ⟨wants_plain rfl, does_storeNew 2 _ _ ty_agg_api_Int rfl rfl rfl rfl rfl (pt_own (av_rs 6 rfl rfl)) (av_rs 6 rfl rfl) (ar_tmp (av_rs 4 rfl rfl))⟩,
    .inl ⟨wants_plain rfl, does_storeNew 2 _ _ ty_agg_api_Int rfl rfl rfl rfl rfl (pt_own (av_rs 7 rfl rfl)) (av_rs 7 rfl rfl) (ar_tmp (av_rs 5 rfl rfl))⟩,
    trivial⟩ ?_
  refine nx_sub (fs' := [.box 2 69 [Bz x, Dz x], .box 3 69 [Bz y, Dz y], .slot 4 (VP.bool false), .box 5 72 [Bz x, Tz x], .box 6 72 [Bz y, Tz y], .box 7 69 [Bz (divZ x y), Dz (divZ x y)], .box 8 69 [Bz (modZ x y), Dz (modZ x y)]]) [0, 1, 2, 3, 4, 13, 14] rfl ?_
  refine nx_then ?_
  refine t_seq ?_
  refine t_region (F := ⟨_, _, _, _⟩) [.box 2 69 [Bz x, Dz x], .box 3 69 [Bz y, Dz y], .slot 4 (VP.bool false), .box 5 72 [Bz x, Tz x], .box 6 72 [Bz y, Tz y], .box 7 69 [Bz (divZ x y), Dz (divZ x y)], .box 8 69 [Bz (modZ x y), Dz (modZ x y)]] [] [(0, .slot 28 (NUM x)), (1, .slot 29 (NUM y)), (2, .slot 30 (VP.tup [NUM (divZ x y), NUM (modZ x y)])), (3, .slot 27 (VP.tup [NUM (divZ x y), NUM (modZ x y)])), (4, .slot 31 (NUM (divZ x y))), (5, .slot 32 (NUM (modZ x y))), (6, .own 9 72 2), (7, .own 10 72 2), (8, .box 9 72 [Bz (divZ x y), Tz (divZ x y)]), (9, .box 10 72 [Bz (modZ x y), Tz (modZ x y)])] [0, 1, 2, 3, 4, 5, 6] [] rfl rfl follow rfl ⟨
    .inl ⟨wants_plain rfl, does_loadAgg _ ty_agg_collatorref01_Num rfl rfl rfl rfl rfl rfl (pt_box (av_fs 3 rfl)) (av_fs 3 rfl)⟩,
    .inl ⟨wants_plain rfl, does_loadAgg _ ty_agg_collatorref01_Num rfl rfl rfl rfl rfl rfl (pt_box (av_fs 4 rfl)) (av_fs 4 rfl)⟩,
    .inl ⟨wants_plain rfl, does_call (r_div x y (n10 h1 (by decide)) (n10 h2 (by decide))) rfl hb_collator_collatorref01_Div rfl rfl rfl rfl ⟨(ar_tmp (av_rs 0 rfl rfl)), (ar_tmp (av_rs 1 rfl rfl)), trivial⟩⟩,
    .inl ⟨wants_plain rfl, does_move _ (.inl rfl) rfl rfl rfl rfl (ar_tmp (av_rs 2 rfl rfl))⟩,
    .inl ⟨wants_plain rfl, does_extract (ps := [NUM (divZ x y), NUM (modZ x y)]) _ _ rfl rfl rfl rfl rfl (ar_tmp (av_rs 3 rfl rfl)) rfl⟩,
    .inl ⟨wants_plain rfl, does_extract (ps := [NUM (divZ x y), NUM (modZ x y)]) _ _ rfl rfl rfl rfl rfl (ar_tmp (av_rs 3 rfl rfl)) rfl⟩,
    .inl ⟨wants_plain rfl, does_allocOwn [Bz 0, Tz 0] ty_zero_collatorref01_Num rfl rfl rfl rfl rfl z_num rfl⟩,
    .inl ⟨wants_plain rfl, does_allocOwn [Bz 0, Tz 0] ty_zero_collatorref01_Num rfl rfl rfl rfl rfl z_num rfl⟩,
    .inl ⟨wants_plain rfl, does_storeNew 2 _ _ ty_agg_collatorref01_Num rfl rfl rfl rfl rfl (pt_own (av_rs 6 rfl rfl)) (av_rs 6 rfl rfl) (ar_tmp (av_rs 4 rfl rfl))⟩,
    .inl ⟨wants_plain rfl, does_storeNew 2 _ _ ty_agg_collatorref01_Num rfl rfl rfl rfl rfl (pt_own (av_rs 7 rfl rfl)) (av_rs 7 rfl rfl) (ar_tmp (av_rs 5 rfl rfl))⟩,
    trivial⟩ ?_
  refine nx_sub (fs' := [.box 2 69 [Bz x, Dz x], .box 3 69 [Bz y, Dz y], .slot 4 (VP.bool false), .box 5 72 [Bz x, Tz x], .box 6 72 [Bz y, Tz y], .box 7 69 [Bz (divZ x y), Dz (divZ x y)], .box 8 69 [Bz (modZ x y), Dz (modZ x y)], .box 9 72 [Bz (divZ x y), Tz (divZ x y)], .box 10 72 [Bz (modZ x y), Tz (modZ x y)]]) [0, 1, 2, 3, 4, 5, 6, 15, 16] rfl ?_
  refine nx_then ?_
  refine t_seq ?_
  refine t_region (F := ⟨_, _, _, _⟩) [.box 2 69 [Bz x, Dz x], .box 3 69 [Bz y, Dz y], .box 5 72 [Bz x, Tz x], .box 6 72 [Bz y, Tz y], .box 7 69 [Bz (divZ x y), Dz (divZ x y)], .box 8 69 [Bz (modZ x y), Dz (modZ x y)], .box 9 72 [Bz (divZ x y), Tz (divZ x y)], .box 10 72 [Bz (modZ x y), Tz (modZ x y)]] [(64, .slot 4 (VP.bool false))] [(0, .slot 33 (INT x)), (1, .slot 34 (INT y)), (2, .slot 35 (INT (x + y))), (3, .slot 36 (NUM x)), (4, .slot 37 (NUM y)), (5, .slot 38 (NUM (x + y))), (6, .slot 39 (INT (x + y))), (7, .slot 40 (VP.bool true)), (8, .slot 41 (VP.bool true)), (9, .slot 42 (INT x)), (10, .slot 43 (INT y)), (11, .slot 44 (INT (x * y))), (12, .slot 45 (NUM x)), (13, .slot 46 (NUM y)), (14, .slot 47 (NUM (x * y))), (15, .slot 48 (INT (x * y))), (16, .slot 49 (VP.bool true)), (17, .slot 50 (VP.bool true)), (18, .slot 51 (VP.bool true)), (19, .slot 52 (INT x)), (20, .slot 53 (INT (-x))), (21, .slot 54 (NUM x)), (22, .slot 55 (NUM (-x))), (23, .slot 56 (INT (-x))), (24, .slot 57 (VP.bool true)), (25, .slot 58 (VP.bool true)), (26, .slot 59 (VP.bool true)), (27, .slot 60 (INT (divZ x y))), (28, .slot 61 (NUM (divZ x y))), (29, .slot 62 (INT (divZ x y))), (30, .slot 63 (VP.bool true)), (31, .slot 64 (VP.bool true)), (32, .slot 65 (VP.bool true)), (33, .slot 66 (INT (modZ x y))), (34, .slot 67 (NUM (modZ x y))), (35, .slot 68 (INT (modZ x y))), (36, .slot 69 (VP.bool true)), (37, .slot 70 (VP.bool true)), (38, .slot 71 (VP.bool true)), (39, .slot 72 (INT x)), (40, .slot 73 (INT y)), (41, .slot 74 (INT (gcdZ x y))), (42, .slot 75 (NUM x)), (43, .slot 76 (NUM y)), (44, .slot 77 (NUM (gcdZ x y))), (45, .slot 78 (INT (gcdZ x y))), (46, .slot 79 (VP.bool true)), (47, .slot 80 (VP.bool true)), (48, .slot 81 (VP.bool true)), (49, .slot 82 (INT x)), (50, .slot 83 (INT y)), (51, .slot 84 (VP.int .i64 (cmpZ x y))), (52, .slot 85 (NUM x)), (53, .slot 86 (NUM y)), (54, .slot 87 (VP.int .i64 (cmpZ x y))), (55, .slot 88 (VP.bool ((cmpZ x y) == (cmpZ x y)))), (56, .slot 89 (VP.bool ((cmpZ x y) == (cmpZ x y)))), (57, .slot 90 (VP.bool ((cmpZ x y) == (cmpZ x y)))), (58, .slot 91 (INT x)), (59, .slot 92 (VP.str (txt x))), (60, .slot 93 (NUM x)), (61, .slot 94 (VP.str (txt x))), (62, .slot 95 (VP.bool ((txt x).toList == (txt x).toList))), (63, .slot 96 (VP.bool ((txt x).toList == (txt x).toList))), (64, .slot 4 (VP.bool ((txt x).toList == (txt x).toList)))] [0, 1, 3, 4, 5, 6, 7, 8] [2] rfl rfl follow rfl ⟨
    .inl ⟨wants_plain rfl, does_loadAgg _ ty_agg_api_Int rfl rfl rfl rfl rfl rfl (pt_box (av_fs 0 rfl)) (av_fs 0 rfl)⟩,
    .inl ⟨wants_plain rfl, does_loadAgg _ ty_agg_api_Int rfl rfl rfl rfl rfl rfl (pt_box (av_fs 1 rfl)) (av_fs 1 rfl)⟩,
    .inl ⟨wants_plain rfl, does_call (s_add x y (lle h1 (by decide)) (lle h2 (by decide))) rfl hb_collator_whole_Add rfl rfl rfl rfl ⟨(ar_tmp (av_rs 0 rfl rfl)), (ar_tmp (av_rs 1 rfl rfl)), trivial⟩⟩,
    .inl ⟨wants_plain rfl, does_loadAgg _ ty_agg_collatorref01_Num rfl rfl rfl rfl rfl rfl (pt_box (av_fs 2 rfl)) (av_fs 2 rfl)⟩,
    .inl ⟨wants_plain rfl, does_loadAgg _ ty_agg_collatorref01_Num rfl rfl rfl rfl rfl rfl (pt_box (av_fs 3 rfl)) (av_fs 3 rfl)⟩,
    .inl ⟨wants_plain rfl, does_call (r_add x y (n10 h1 (by decide)) (n10 h2 (by decide))) rfl hb_collator_collatorref01_Add rfl rfl rfl rfl ⟨(ar_tmp (av_rs 3 rfl rfl)), (ar_tmp (av_rs 4 rfl rfl)), trivial⟩⟩,
    .inl ⟨wants_plain rfl, does_call (r_form (x + y) (n10 (ladd h1 h2) (by decide))) rfl hb_collator_collatorref01_Form rfl rfl rfl rfl ⟨(ar_tmp (av_rs 5 rfl rfl)), trivial⟩⟩,
    .inl ⟨wants_plain rfl, does_call (r_same1 (x + y) (lle (ladd h1 h2) (by decide))) rfl hb_collator_collatorref01_Same rfl rfl rfl rfl ⟨(ar_tmp (av_rs 2 rfl rfl)), (ar_tmp (av_rs 6 rfl rfl)), trivial⟩⟩,
    .inl ⟨wants_plain rfl, does_move _ (.inl rfl) rfl rfl rfl rfl (ar_tmp (av_rs 7 rfl rfl))⟩,
    .inl ⟨wants_guard true rfl rfl rfl (av_rs 8 rfl rfl), does_loadAgg _ ty_agg_api_Int rfl rfl rfl rfl rfl rfl (pt_box (av_fs 0 rfl)) (av_fs 0 rfl)⟩,
    .inl ⟨wants_guard true rfl rfl rfl (av_rs 8 rfl rfl), does_loadAgg _ ty_agg_api_Int rfl rfl rfl rfl rfl rfl (pt_box (av_fs 1 rfl)) (av_fs 1 rfl)⟩,
    .inl ⟨wants_guard true rfl rfl rfl (av_rs 8 rfl rfl), does_call (s_mul x y (lle h1 (by decide)) (lle h2 (by decide))) rfl hb_collator_whole_Mul rfl rfl rfl rfl ⟨(ar_tmp (av_rs 9 rfl rfl)), (ar_tmp (av_rs 10 rfl rfl)), trivial⟩⟩,
    .inl ⟨wants_guard true rfl rfl rfl (av_rs 8 rfl rfl), does_loadAgg _ ty_agg_collatorref01_Num rfl rfl rfl rfl rfl rfl (pt_box (av_fs 2 rfl)) (av_fs 2 rfl)⟩,
    .inl ⟨wants_guard true rfl rfl rfl (av_rs 8 rfl rfl), does_loadAgg _ ty_agg_collatorref01_Num rfl rfl rfl rfl rfl rfl (pt_box (av_fs 3 rfl)) (av_fs 3 rfl)⟩,
    .inl ⟨wants_guard true rfl rfl rfl (av_rs 8 rfl rfl), does_call (r_mul x y (n10 h1 (by decide)) (n10 h2 (by decide))) rfl hb_collator_collatorref01_Mul rfl rfl rfl rfl ⟨(ar_tmp (av_rs 12 rfl rfl)), (ar_tmp (av_rs 13 rfl rfl)), trivial⟩⟩,
    .inl ⟨wants_guard true rfl rfl rfl (av_rs 8 rfl rfl), does_call (r_form (x * y) (n10 (lmul h1 h2) (by decide))) rfl hb_collator_collatorref01_Form rfl rfl rfl rfl ⟨(ar_tmp (av_rs 14 rfl rfl)), trivial⟩⟩,
    .inl ⟨wants_guard true rfl rfl rfl (av_rs 8 rfl rfl), does_call (r_same1 (x * y) (lle (lmul h1 h2) (by decide))) rfl hb_collator_collatorref01_Same rfl rfl rfl rfl ⟨(ar_tmp (av_rs 11 rfl rfl)), (ar_tmp (av_rs 15 rfl rfl)), trivial⟩⟩,
    .inl ⟨wants_plain rfl, does_pick true _ _ _ rfl rfl rfl rfl rfl (ar_tmp (av_rs 8 rfl rfl)) (ar_tmp (av_rs 16 rfl rfl))⟩,
    .inl ⟨wants_plain rfl, does_move _ (.inl rfl) rfl rfl rfl rfl (ar_tmp (av_rs 17 rfl rfl))⟩,
    .inl ⟨wants_guard true rfl rfl rfl (av_rs 18 rfl rfl), does_loadAgg _ ty_agg_api_Int rfl rfl rfl rfl rfl rfl (pt_box (av_fs 0 rfl)) (av_fs 0 rfl)⟩,
    .inl ⟨wants_guard true rfl rfl rfl (av_rs 18 rfl rfl), does_call (s_neg x (lle h1 (by decide))) rfl hb_collator_whole_Neg rfl rfl rfl rfl ⟨(ar_tmp (av_rs 19 rfl rfl)), trivial⟩⟩,
    .inl ⟨wants_guard true rfl rfl rfl (av_rs 18 rfl rfl), does_loadAgg _ ty_agg_collatorref01_Num rfl rfl rfl rfl rfl rfl (pt_box (av_fs 2 rfl)) (av_fs 2 rfl)⟩,
    .inl ⟨wants_guard true rfl rfl rfl (av_rs 18 rfl rfl), does_call (r_neg x) rfl hb_collator_collatorref01_Neg rfl rfl rfl rfl ⟨(ar_tmp (av_rs 21 rfl rfl)), trivial⟩⟩,
    .inl ⟨wants_guard true rfl rfl rfl (av_rs 18 rfl rfl), does_call (r_form (-x) (n10 (lneg h1) (by decide))) rfl hb_collator_collatorref01_Form rfl rfl rfl rfl ⟨(ar_tmp (av_rs 22 rfl rfl)), trivial⟩⟩,
    .inl ⟨wants_guard true rfl rfl rfl (av_rs 18 rfl rfl), does_call (r_same1 (-x) (lle (lneg h1) (by decide))) rfl hb_collator_collatorref01_Same rfl rfl rfl rfl ⟨(ar_tmp (av_rs 20 rfl rfl)), (ar_tmp (av_rs 23 rfl rfl)), trivial⟩⟩,
    .inl ⟨wants_plain rfl, does_pick true _ _ _ rfl rfl rfl rfl rfl (ar_tmp (av_rs 18 rfl rfl)) (ar_tmp (av_rs 24 rfl rfl))⟩,
    .inl ⟨wants_plain rfl, does_move _ (.inl rfl) rfl rfl rfl rfl (ar_tmp (av_rs 25 rfl rfl))⟩,
    .inl ⟨wants_guard true rfl rfl rfl (av_rs 26 rfl rfl), does_loadAgg _ ty_agg_api_Int rfl rfl rfl rfl rfl rfl (pt_box (av_fs 4 rfl)) (av_fs 4 rfl)⟩,
    .inl ⟨wants_guard true rfl rfl rfl (av_rs 26 rfl rfl), does_loadAgg _ ty_agg_collatorref01_Num rfl rfl rfl rfl rfl rfl (pt_box (av_fs 6 rfl)) (av_fs 6 rfl)⟩,
    .inl ⟨wants_guard true rfl rfl rfl (av_rs 26 rfl rfl), does_call (r_form (divZ x y) (n10 (ldiv h1) (by decide))) rfl hb_collator_collatorref01_Form rfl rfl rfl rfl ⟨(ar_tmp (av_rs 28 rfl rfl)), trivial⟩⟩,
    .inl ⟨wants_guard true rfl rfl rfl (av_rs 26 rfl rfl), does_call (r_same1 (divZ x y) (lle (ldiv h1) (by decide))) rfl hb_collator_collatorref01_Same rfl rfl rfl rfl ⟨(ar_tmp (av_rs 27 rfl rfl)), (ar_tmp (av_rs 29 rfl rfl)), trivial⟩⟩,
    .inl ⟨wants_plain rfl, does_pick true _ _ _ rfl rfl rfl rfl rfl (ar_tmp (av_rs 26 rfl rfl)) (ar_tmp (av_rs 30 rfl rfl))⟩,
    .inl ⟨wants_plain rfl, does_move _ (.inl rfl) rfl rfl rfl rfl (ar_tmp (av_rs 31 rfl rfl))⟩,
    .inl ⟨wants_guard true rfl rfl rfl (av_rs 32 rfl rfl), does_loadAgg _ ty_agg_api_Int rfl rfl rfl rfl rfl rfl (pt_box (av_fs 5 rfl)) (av_fs 5 rfl)⟩,
    .inl ⟨wants_guard true rfl rfl rfl (av_rs 32 rfl rfl), does_loadAgg _ ty_agg_collatorref01_Num rfl rfl rfl rfl rfl rfl (pt_box (av_fs 7 rfl)) (av_fs 7 rfl)⟩,
    .inl ⟨wants_guard true rfl rfl rfl (av_rs 32 rfl rfl), does_call (r_form (modZ x y) (n10 (lmod h2) (by decide))) rfl hb_collator_collatorref01_Form rfl rfl rfl rfl ⟨(ar_tmp (av_rs 34 rfl rfl)), trivial⟩⟩,
    .inl ⟨wants_guard true rfl rfl rfl (av_rs 32 rfl rfl), does_call (r_same1 (modZ x y) (lle (lmod h2) (by decide))) rfl hb_collator_collatorref01_Same rfl rfl rfl rfl ⟨(ar_tmp (av_rs 33 rfl rfl)), (ar_tmp (av_rs 35 rfl rfl)), trivial⟩⟩,
    .inl ⟨wants_plain rfl, does_pick true _ _ _ rfl rfl rfl rfl rfl (ar_tmp (av_rs 32 rfl rfl)) (ar_tmp (av_rs 36 rfl rfl))⟩,
    .inl ⟨wants_plain rfl, does_move _ (.inl rfl) rfl rfl rfl rfl (ar_tmp (av_rs 37 rfl rfl))⟩,
    .inl ⟨wants_guard true rfl rfl rfl (av_rs 38 rfl rfl), does_loadAgg _ ty_agg_api_Int rfl rfl rfl rfl rfl rfl (pt_box (av_fs 0 rfl)) (av_fs 0 rfl)⟩,
    .inl ⟨wants_guard true rfl rfl rfl (av_rs 38 rfl rfl), does_loadAgg _ ty_agg_api_Int rfl rfl rfl rfl rfl rfl (pt_box (av_fs 1 rfl)) (av_fs 1 rfl)⟩,
    .inl ⟨wants_guard true rfl rfl rfl (av_rs 38 rfl rfl), does_call (s_gcd x y (lle h1 (by decide)) (lle h2 (by decide))) rfl hb_collator_whole_Gcd rfl rfl rfl rfl ⟨(ar_tmp (av_rs 39 rfl rfl)), (ar_tmp (av_rs 40 rfl rfl)), trivial⟩⟩,
    .inl ⟨wants_guard true rfl rfl rfl (av_rs 38 rfl rfl), does_loadAgg _ ty_agg_collatorref01_Num rfl rfl rfl rfl rfl rfl (pt_box (av_fs 2 rfl)) (av_fs 2 rfl)⟩,
    .inl ⟨wants_guard true rfl rfl rfl (av_rs 38 rfl rfl), does_loadAgg _ ty_agg_collatorref01_Num rfl rfl rfl rfl rfl rfl (pt_box (av_fs 3 rfl)) (av_fs 3 rfl)⟩,
    .inl ⟨wants_guard true rfl rfl rfl (av_rs 38 rfl rfl), does_call (r_gcd x y (n10 h1 (by decide)) (n10 h2 (by decide))) rfl hb_collator_collatorref01_Gcd rfl rfl rfl rfl ⟨(ar_tmp (av_rs 42 rfl rfl)), (ar_tmp (av_rs 43 rfl rfl)), trivial⟩⟩,
    .inl ⟨wants_guard true rfl rfl rfl (av_rs 38 rfl rfl), does_call (r_form (gcdZ x y) (n10 (lgcd h1 h2) (by decide))) rfl hb_collator_collatorref01_Form rfl rfl rfl rfl ⟨(ar_tmp (av_rs 44 rfl rfl)), trivial⟩⟩,
    .inl ⟨wants_guard true rfl rfl rfl (av_rs 38 rfl rfl), does_call (r_same1 (gcdZ x y) (lle (lgcd h1 h2) (by decide))) rfl hb_collator_collatorref01_Same rfl rfl rfl rfl ⟨(ar_tmp (av_rs 41 rfl rfl)), (ar_tmp (av_rs 45 rfl rfl)), trivial⟩⟩,
    .inl ⟨wants_plain rfl, does_pick true _ _ _ rfl rfl rfl rfl rfl (ar_tmp (av_rs 38 rfl rfl)) (ar_tmp (av_rs 46 rfl rfl))⟩,
    .inl ⟨wants_plain rfl, does_move _ (.inl rfl) rfl rfl rfl rfl (ar_tmp (av_rs 47 rfl rfl))⟩,
    .inl ⟨wants_guard true rfl rfl rfl (av_rs 48 rfl rfl), does_loadAgg _ ty_agg_api_Int rfl rfl rfl rfl rfl rfl (pt_box (av_fs 0 rfl)) (av_fs 0 rfl)⟩,
    .inl ⟨wants_guard true rfl rfl rfl (av_rs 48 rfl rfl), does_loadAgg _ ty_agg_api_Int rfl rfl rfl rfl rfl rfl (pt_box (av_fs 1 rfl)) (av_fs 1 rfl)⟩,
    .inl ⟨wants_guard true rfl rfl rfl (av_rs 48 rfl rfl), does_call (s_cmp x y (lle h1 (by decide)) (lle h2 (by decide))) rfl hb_collator_whole_Cmp rfl rfl rfl rfl ⟨(ar_tmp (av_rs 49 rfl rfl)), (ar_tmp (av_rs 50 rfl rfl)), trivial⟩⟩,
    .inl ⟨wants_guard true rfl rfl rfl (av_rs 48 rfl rfl), does_loadAgg _ ty_agg_collatorref01_Num rfl rfl rfl rfl rfl rfl (pt_box (av_fs 2 rfl)) (av_fs 2 rfl)⟩,
    .inl ⟨wants_guard true rfl rfl rfl (av_rs 48 rfl rfl), does_loadAgg _ ty_agg_collatorref01_Num rfl rfl rfl rfl rfl rfl (pt_box (av_fs 3 rfl)) (av_fs 3 rfl)⟩,
    .inl ⟨wants_guard true rfl rfl rfl (av_rs 48 rfl rfl), does_call (r_cmp x y (n10 h1 (by decide)) (n10 h2 (by decide))) rfl hb_collator_collatorref01_Cmp rfl rfl rfl rfl ⟨(ar_tmp (av_rs 52 rfl rfl)), (ar_tmp (av_rs 53 rfl rfl)), trivial⟩⟩,
    .inl ⟨wants_guard true rfl rfl rfl (av_rs 48 rfl rfl), does_cmp (m := (cmpZ x y)) (n := (cmpZ x y)) _ _ _ _ _ rfl rfl rfl rfl rfl rfl .i64 (ar_tmp (av_rs 51 rfl rfl)) (ar_tmp (av_rs 54 rfl rfl))⟩,
    .inl ⟨wants_plain rfl, does_pick true _ _ _ rfl rfl rfl rfl rfl (ar_tmp (av_rs 48 rfl rfl)) (ar_tmp (av_rs 55 rfl rfl))⟩,
    .inl ⟨wants_plain rfl, does_move _ (.inl rfl) rfl rfl rfl rfl (ar_tmp (av_rs 56 rfl rfl))⟩,
    .inl ⟨wants_guard true rfl rfl rfl (av_bool (beq_self_eq_true _) (av_rs 57 rfl rfl)), does_loadAgg _ ty_agg_api_Int rfl rfl rfl rfl rfl rfl (pt_box (av_fs 0 rfl)) (av_fs 0 rfl)⟩,
    .inl ⟨wants_guard true rfl rfl rfl (av_bool (beq_self_eq_true _) (av_rs 57 rfl rfl)), does_call (s_text x (lle h1 (by decide))) rfl hb_collator_whole_Text rfl rfl rfl rfl ⟨(ar_tmp (av_rs 58 rfl rfl)), trivial⟩⟩,
    .inl ⟨wants_guard true rfl rfl rfl (av_bool (beq_self_eq_true _) (av_rs 57 rfl rfl)), does_loadAgg _ ty_agg_collatorref01_Num rfl rfl rfl rfl rfl rfl (pt_box (av_fs 2 rfl)) (av_fs 2 rfl)⟩,
    .inl ⟨wants_guard true rfl rfl rfl (av_bool (beq_self_eq_true _) (av_rs 57 rfl rfl)), does_call (r_text x (n10 h1 (by decide))) rfl hb_collator_collatorref01_Text rfl rfl rfl rfl ⟨(ar_tmp (av_rs 60 rfl rfl)), trivial⟩⟩,
    .inl ⟨wants_guard true rfl rfl rfl (av_bool (beq_self_eq_true _) (av_rs 57 rfl rfl)), does_eqStr (u := (txt x)) (v := (txt x)) _ _ _ _ _ rfl rfl rfl rfl rfl rfl (ar_tmp (av_rs 59 rfl rfl)) (ar_tmp (av_rs 61 rfl rfl))⟩,
    .inl ⟨wants_plain rfl, does_pick true _ _ _ rfl rfl rfl rfl rfl (ar_tmp (av_bool (beq_self_eq_true _) (av_rs 57 rfl rfl))) (ar_tmp (av_rs 62 rfl rfl))⟩,
    .inl ⟨wants_plain rfl, does_move _ (.inr rfl) rfl rfl rfl rfl (ar_tmp (av_rs 63 rfl rfl))⟩,
    trivial⟩ ?_
  refine nx_sub (fs' := [.slot 4 (VP.bool ((txt x).toList == (txt x).toList))]) [72] rfl ?_
  refine nx_then ?_
  refine t_ret ?_
  exact rt_one rfl (res_tmpb 0 rfl (beq_self_eq_true _))
set_option maxRecDepth 100000 in
set_option maxHeartbeats 4000000 in
theorem told_odd (x y : Raw) (hx : x.ok) (hy : y.ok) (ho : [x, y].any oddP = true) : Spec Try.prog 7 [(VP.agg [VP.bool x.1, VP.nums .u32 x.2]).p, (VP.agg [VP.bool y.1, VP.nums .u32 y.2]).p] (VP.bool true) := by
  refine spec_of (xs := [VP.agg [VP.bool x.1, VP.nums .u32 x.2], VP.agg [VP.bool y.1, VP.nums .u32 y.2]]) 97 [2, 3, 5, 6, 7, 8, 9, 10] Try.func7 rfl Try.ntmps7 rfl fun w0 => ?_
  refine t_seq ?_
  refine t_region (F := ⟨_, _, _, _⟩) [.slot 0 (VP.agg [VP.bool x.1, VP.nums .u32 x.2]), .slot 1 (VP.agg [VP.bool y.1, VP.nums .u32 y.2])] [] [(0, .box 2 69 [VP.bool x.1, VP.nums .u32 x.2]), (1, .box 3 69 [VP.bool y.1, VP.nums .u32 y.2]), (2, .slot 4 (VP.bool false))] [0, 1] [] rfl rfl follow rfl ⟨
    .inl ⟨wants_plain rfl, does_box _ rfl rfl rfl rfl rfl (ar_tmp (av_fs 0 rfl))⟩,
    .inl ⟨wants_plain rfl, does_box _ rfl rfl rfl rfl rfl (ar_tmp (av_fs 1 rfl))⟩,
    .inl ⟨wants_plain rfl, does_move _ (.inr rfl) rfl rfl rfl rfl (ar_const (fun _ => rfl))⟩,
    trivial⟩ ?_
  refine nx_sub (fs' := [.box 2 69 [VP.bool x.1, VP.nums .u32 x.2], .box 3 69 [VP.bool y.1, VP.nums .u32 y.2], .slot 4 (VP.bool false)]) [2, 3, 4] rfl ?_
  refine nx_then ?_
  refine t_seq ?_
  refine t_seq ?_
  refine t_region (F := ⟨_, _, _, _⟩) [.box 2 69 [VP.bool x.1, VP.nums .u32 x.2], .box 3 69 [VP.bool y.1, VP.nums .u32 y.2], .slot 4 (VP.bool false)] [] [(0, .slot 11 (VP.bool true)), (1, .slot 12 (VP.bool false))] [0, 1, 2] [] rfl rfl follow rfl ⟨
    .inl ⟨wants_plain rfl, does_call sp1_spec rfl hb_collator_collatorlaw01_speaks rfl rfl rfl rfl trivial⟩,
    .inl ⟨wants_plain rfl, does_not true _ _ rfl rfl rfl rfl rfl (ar_tmp (av_rs 0 rfl rfl))⟩,
    trivial⟩ ?_
  refine nx_sub (fs' := [.box 2 69 [VP.bool x.1, VP.nums .u32 x.2], .box 3 69 [VP.bool y.1, VP.nums .u32 y.2], .slot 4 (VP.bool false), .slot 12 (VP.bool false)]) [0, 1, 2, 4] rfl ?_
  refine nx_then ?_
  refine t_cond_f 3 rfl ?_
  refine t_skip ?_
  refine nx_then ?_
  refine t_seq ?_
  refine t_seq ?_
  refine t_region (F := ⟨_, _, _, _⟩) [.box 2 69 [VP.bool x.1, VP.nums .u32 x.2], .box 3 69 [VP.bool y.1, VP.nums .u32 y.2], .slot 4 (VP.bool false), .slot 12 (VP.bool false)] [] [(0, .slot 13 (VP.agg [VP.bool x.1, VP.nums .u32 x.2])), (1, .slot 14 (VP.agg [VP.bool y.1, VP.nums .u32 y.2])), (2, .arr 15 69 2 [VP.bool x.1, VP.nums .u32 x.2, VP.bool y.1, VP.nums .u32 y.2]), (3, .slot 16 (VP.bool true))] [0, 1, 2, 3] [] rfl rfl follow rfl ⟨
    .inl ⟨wants_plain rfl, does_loadAgg _ ty_agg_api_Int rfl rfl rfl rfl rfl rfl (pt_box (av_fs 0 rfl)) (av_fs 0 rfl)⟩,
    .inl ⟨wants_plain rfl, does_loadAgg _ ty_agg_api_Int rfl rfl rfl rfl rfl rfl (pt_box (av_fs 1 rfl)) (av_fs 1 rfl)⟩,
    .inl ⟨wants_plain rfl, does_buildSlice (sz := 2) [Bz 0, Dz 0, Bz 0, Dz 0] ty_zero_api_Int (by kernel_rfl) (fun w => run_sizeAgg ty_agg_api_Int w) rfl rfl rfl rfl rfl rfl (by kernel_rfl) (fun w => by exact z_int_2 w) (.cons 0 [VP.bool x.1, VP.nums .u32 x.2] rfl rfl (ar_cells_agg (ar_tmp (av_rs 0 rfl rfl))) (.cons 2 [VP.bool y.1, VP.nums .u32 y.2] rfl rfl (ar_cells_agg (ar_tmp (av_rs 1 rfl rfl))) (.nil _)))⟩,
    .inl ⟨wants_plain rfl, does_call (s_odd2 x y hx hy ho) rfl hb_collator_collatorlaw01_Odd rfl rfl rfl rfl ⟨(ar_arr (av_rs 2 rfl rfl)), trivial⟩⟩,
    trivial⟩ ?_
  refine nx_sub (fs' := [.box 2 69 [VP.bool x.1, VP.nums .u32 x.2], .box 3 69 [VP.bool y.1, VP.nums .u32 y.2], .slot 4 (VP.bool false), .slot 16 (VP.bool true)]) [0, 1, 2, 7] rfl ?_
  refine nx_then ?_
  refine t_cond_t 3 rfl ?_
  refine t_seq ?_
  refine t_region (F := ⟨_, _, _, _⟩) [.box 2 69 [VP.bool x.1, VP.nums .u32 x.2], .box 3 69 [VP.bool y.1, VP.nums .u32 y.2], .slot 16 (VP.bool true)] [(0, .slot 4 (VP.bool false))] [(0, .slot 4 (VP.bool true))] [0, 1, 3] [2] rfl rfl follow rfl ⟨
    .inl ⟨wants_plain rfl, does_move _ (.inr rfl) rfl rfl rfl rfl (ar_const (fun _ => rfl))⟩,
    trivial⟩ ?_
  refine nx_sub (fs' := [.box 2 69 [VP.bool x.1, VP.nums .u32 x.2], .box 3 69 [VP.bool y.1, VP.nums .u32 y.2], .slot 4 (VP.bool true)]) [0, 1, 3] rfl ?_
  refine nx_then ?_
  refine t_ret ?_
  refine rt_then ?_
  exact rt_one rfl (res_tmp 2 rfl)
theorem wtold_all (W : World) (v1 v2 : Value) (x y : Raw) (hx : x.ok) (hy : y.ok) (p1 : (RAW x).p v1 W) (p2 : (RAW y).p v2 W) :
    Calls Try.prog 7 #[v1, v2] W fun e W' => e = .returned (.bool true) ∧ Ext W W' := by
  cases ho : [x, y].any oddP
  · have hall := List.any_eq_false.1 ho
    obtain ⟨z1, l1, rfl⟩ := raw_right (by simpa using hall x (by simp))
    obtain ⟨z2, l2, rfl⟩ := raw_right (by simpa using hall y (by simp))
    exact ((told_even z1 z2 l1 l2).call2 p1 p2).mono fun e w' h => true_of h
  · exact ((told_odd x y hx hy ho).call2 p1 p2).mono fun e w' h => true_of h
end Go.Proofs.Ytogodjiemgilaaa
