/- Part of the proof that a law returns true for all that comes in, and that what came in reads as it did. No condition. -/
import Derived.Test.YtogodjiemgilaaaMgB1
/- FracTold: the walks. -/
namespace Go.Proofs.Ytogodjiemgilaaa
open Go.RowKit
set_option maxRecDepth 100000 in
set_option maxHeartbeats 4000000 in
theorem ftold_even (a b : Rat) (ha : LR a 5) (hb : LR b 5) (HO : Spec Try.prog 73 [isRows 2 [Bz a.num, Dz a.num, Bz (fD a.den), Dz (fD a.den), Bz b.num, Dz b.num, Bz (fD b.den), Dz (fD b.den)]] (VP.bool false)) : Spec Try.prog 14 [(RAT a).p, (RAT b).p] (VP.bool true) := by
  refine spec_of (xs := [RAT a, RAT b]) 94 [2, 3, 5, 6, 7, 9] Try.func14 rfl Try.ntmps14 rfl fun w0 => ?_
  refine t_seq ?_
  refine t_region (F := ⟨_, _, _, _⟩) [.slot 0 (RAT a), .slot 1 (RAT b)] [] [(0, .box 2 100 [Bz a.num, Dz a.num, Bz (fD a.den), Dz (fD a.den)]), (1, .box 3 100 [Bz b.num, Dz b.num, Bz (fD b.den), Dz (fD b.den)]), (2, .slot 4 (VP.bool false))] [0, 1] [] rfl rfl follow rfl ⟨
    .inl ⟨wants_plain rfl, does_box _ rfl rfl rfl rfl rfl (ar_tmp (av_fs 0 rfl))⟩,
    .inl ⟨wants_plain rfl, does_box _ rfl rfl rfl rfl rfl (ar_tmp (av_fs 1 rfl))⟩,
    .inl ⟨wants_plain rfl, does_move _ (.inr rfl) rfl rfl rfl rfl (ar_const (fun _ => rfl))⟩,
    trivial⟩ ?_
  refine nx_sub (fs' := [.box 2 100 [Bz a.num, Dz a.num, Bz (fD a.den), Dz (fD a.den)], .box 3 100 [Bz b.num, Dz b.num, Bz (fD b.den), Dz (fD b.den)], .slot 4 (VP.bool false)]) [2, 3, 4] rfl ?_
  refine nx_then ?_
  refine t_seq ?_
  refine t_seq ?_
  refine t_region (F := ⟨_, _, _, _⟩) [.box 2 100 [Bz a.num, Dz a.num, Bz (fD a.den), Dz (fD a.den)], .box 3 100 [Bz b.num, Dz b.num, Bz (fD b.den), Dz (fD b.den)], .slot 4 (VP.bool false)] [] [(0, .slot 11 (VP.bool true)), (1, .slot 12 (VP.bool false))] [0, 1, 2] [] rfl rfl follow rfl ⟨
    .inl ⟨wants_plain rfl, does_call sp2_spec rfl hb_collator_collatorlaw02_speaks rfl rfl rfl rfl trivial⟩,
    .inl ⟨wants_plain rfl, does_not true _ _ rfl rfl rfl rfl rfl (ar_tmp (av_rs 0 rfl rfl))⟩,
    trivial⟩ ?_
  refine nx_sub (fs' := [.box 2 100 [Bz a.num, Dz a.num, Bz (fD a.den), Dz (fD a.den)], .box 3 100 [Bz b.num, Dz b.num, Bz (fD b.den), Dz (fD b.den)], .slot 4 (VP.bool false), .slot 12 (VP.bool false)]) [0, 1, 2, 4] rfl ?_
  refine nx_then ?_
  refine t_cond_f 3 rfl ?_
  refine t_skip ?_
  refine nx_then ?_
  refine t_seq ?_
  refine t_seq ?_
  refine t_region (F := ⟨_, _, _, _⟩) [.box 2 100 [Bz a.num, Dz a.num, Bz (fD a.den), Dz (fD a.den)], .box 3 100 [Bz b.num, Dz b.num, Bz (fD b.den), Dz (fD b.den)], .slot 4 (VP.bool false), .slot 12 (VP.bool false)] [] [(0, .slot 13 (RAT a)), (1, .slot 14 (RAT b)), (2, .arr 15 100 2 [Bz a.num, Dz a.num, Bz (fD a.den), Dz (fD a.den), Bz b.num, Dz b.num, Bz (fD b.den), Dz (fD b.den)]), (3, .slot 16 (VP.bool false))] [0, 1, 2, 3] [] rfl rfl follow rfl ⟨
    .inl ⟨wants_plain rfl, does_loadAgg _ ty_agg_api_Frac rfl rfl rfl rfl rfl rfl (pt_box (av_fs 0 rfl)) (av_fs 0 rfl)⟩,
    .inl ⟨wants_plain rfl, does_loadAgg _ ty_agg_api_Frac rfl rfl rfl rfl rfl rfl (pt_box (av_fs 1 rfl)) (av_fs 1 rfl)⟩,
    .inl ⟨wants_plain rfl, does_buildSlice (sz := 4) [Bz 0, Dz 0, Bz 0, Dz 0, Bz 0, Dz 0, Bz 0, Dz 0] ty_zero_api_Frac (by kernel_rfl) (fun w => run_sizeAgg ty_agg_api_Frac w) rfl rfl rfl rfl rfl rfl (by kernel_rfl) (fun w => by exact z_frac_2 w) (.cons 0 [Bz a.num, Dz a.num, Bz (fD a.den), Dz (fD a.den)] rfl rfl (ar_cells_agg (ar_tmp (av_rs 0 rfl rfl))) (.cons 4 [Bz b.num, Dz b.num, Bz (fD b.den), Dz (fD b.den)] rfl rfl (ar_cells_agg (ar_tmp (av_rs 1 rfl rfl))) (.nil _)))⟩,
    .inl ⟨wants_plain rfl, does_call HO rfl hb_collator_collatorlaw02_Odd rfl rfl rfl rfl ⟨(ar_arr_rows (by simp [maxLen]) (av_rs 2 rfl rfl)), trivial⟩⟩,
    trivial⟩ ?_
  refine nx_sub (fs' := [.box 2 100 [Bz a.num, Dz a.num, Bz (fD a.den), Dz (fD a.den)], .box 3 100 [Bz b.num, Dz b.num, Bz (fD b.den), Dz (fD b.den)], .slot 4 (VP.bool false), .slot 16 (VP.bool false)]) [0, 1, 2, 7] rfl ?_
  refine nx_then ?_
  refine t_cond_f 3 rfl ?_
  refine t_skip ?_
  refine nx_then ?_
  refine t_seq ?_
  refine t_region (F := ⟨_, _, _, _⟩) [.box 2 100 [Bz a.num, Dz a.num, Bz (fD a.den), Dz (fD a.den)], .box 3 100 [Bz b.num, Dz b.num, Bz (fD b.den), Dz (fD b.den)], .slot 4 (VP.bool false), .slot 16 (VP.bool false)] [] [(0, .slot 17 (RAT a)), (1, .slot 18 (RRAT a)), (2, .slot 19 (RAT b)), (3, .slot 20 (RRAT b)), (4, .own 5 130 4), (5, .own 6 130 4), (6, .box 5 130 [Bz a.num, Tz a.num, Bz (a.den : Int), Tz (a.den : Int)]), (7, .box 6 130 [Bz b.num, Tz b.num, Bz (b.den : Int), Tz (b.den : Int)])] [0, 1, 2, 3] [] rfl rfl follow rfl ⟨
    .inl ⟨wants_plain rfl, does_loadAgg _ ty_agg_api_Frac rfl rfl rfl rfl rfl rfl (pt_box (av_fs 0 rfl)) (av_fs 0 rfl)⟩,
    .inl ⟨wants_plain rfl, does_call (w_of a (LR.le ha (by decide))) rfl hb_collator_collatorref02_Of rfl rfl rfl rfl ⟨(ar_tmp (av_rs 0 rfl rfl)), trivial⟩⟩,
    .inl ⟨wants_plain rfl, does_loadAgg _ ty_agg_api_Frac rfl rfl rfl rfl rfl rfl (pt_box (av_fs 1 rfl)) (av_fs 1 rfl)⟩,
    .inl ⟨wants_plain rfl, does_call (w_of b (LR.le hb (by decide))) rfl hb_collator_collatorref02_Of rfl rfl rfl rfl ⟨(ar_tmp (av_rs 2 rfl rfl)), trivial⟩⟩,
    .inl ⟨wants_plain rfl, does_allocOwn [Bz 0, Tz 0, Bz 0, Tz 0] ty_zero_collatorref02_Frac rfl rfl rfl rfl rfl z_rfrac rfl⟩,
    .inl ⟨wants_plain rfl, does_allocOwn [Bz 0, Tz 0, Bz 0, Tz 0] ty_zero_collatorref02_Frac rfl rfl rfl rfl rfl z_rfrac rfl⟩,
    .inl ⟨wants_plain rfl, does_storeNew 4 _ _ ty_agg_collatorref02_Frac rfl rfl rfl rfl rfl (pt_own (av_rs 4 rfl rfl)) (av_rs 4 rfl rfl) (ar_tmp (av_rs 1 rfl rfl))⟩,
    .inl ⟨wants_plain rfl, does_storeNew 4 _ _ ty_agg_collatorref02_Frac rfl rfl rfl rfl rfl (pt_own (av_rs 5 rfl rfl)) (av_rs 5 rfl rfl) (ar_tmp (av_rs 3 rfl rfl))⟩,
    trivial⟩ ?_
  refine nx_sub (fs' := [.box 2 100 [Bz a.num, Dz a.num, Bz (fD a.den), Dz (fD a.den)], .box 3 100 [Bz b.num, Dz b.num, Bz (fD b.den), Dz (fD b.den)], .slot 4 (VP.bool false), .box 5 130 [Bz a.num, Tz a.num, Bz (a.den : Int), Tz (a.den : Int)], .box 6 130 [Bz b.num, Tz b.num, Bz (b.den : Int), Tz (b.den : Int)]]) [0, 1, 2, 10, 11] rfl ?_
  refine nx_then ?_
  refine t_seq ?_
  refine t_region (F := ⟨_, _, _, _⟩) [.box 2 100 [Bz a.num, Dz a.num, Bz (fD a.den), Dz (fD a.den)], .box 3 100 [Bz b.num, Dz b.num, Bz (fD b.den), Dz (fD b.den)], .slot 4 (VP.bool false), .box 5 130 [Bz a.num, Tz a.num, Bz (a.den : Int), Tz (a.den : Int)], .box 6 130 [Bz b.num, Tz b.num, Bz (b.den : Int), Tz (b.den : Int)]] [] [(0, .slot 22 (RAT a)), (1, .slot 23 (VP.tup [INT (a.floor), VP.bool (decide ((a.floor : Rat) = a))])), (2, .slot 21 (VP.tup [INT (a.floor), VP.bool (decide ((a.floor : Rat) = a))])), (3, .slot 24 (INT (a.floor))), (4, .slot 25 (VP.bool (decide ((a.floor : Rat) = a)))), (5, .own 7 69 2), (6, .box 7 69 [Bz (a.floor), Dz (a.floor)]), (7, .slot 8 (VP.bool (decide ((a.floor : Rat) = a))))] [0, 1, 2, 3, 4] [] rfl rfl follow rfl ⟨
    .inl ⟨wants_plain rfl, does_loadAgg _ ty_agg_api_Frac rfl rfl rfl rfl rfl rfl (pt_box (av_fs 0 rfl)) (av_fs 0 rfl)⟩,
    .inl ⟨wants_plain rfl, does_call (q_floor a (LR.le ha (by decide))) rfl hb_collator_frac_Floor rfl rfl rfl rfl ⟨(ar_tmp (av_rs 0 rfl rfl)), trivial⟩⟩,
    .inl ⟨wants_plain rfl, does_move _ (.inl rfl) rfl rfl rfl rfl (ar_tmp (av_rs 1 rfl rfl))⟩,
    .inl ⟨wants_plain rfl, does_extract (ps := [INT (a.floor), VP.bool (decide ((a.floor : Rat) = a))]) _ _ rfl rfl rfl rfl rfl (ar_tmp (av_rs 2 rfl rfl)) rfl⟩,
    .inl ⟨wants_plain rfl, does_extract (ps := [INT (a.floor), VP.bool (decide ((a.floor : Rat) = a))]) _ _ rfl rfl rfl rfl rfl (ar_tmp (av_rs 2 rfl rfl)) rfl⟩,
    .inl ⟨wants_plain rfl, does_allocOwn [Bz 0, Dz 0] ty_zero_api_Int rfl rfl rfl rfl rfl z_int rfl⟩,
    .inl ⟨wants_plain rfl, does_storeNew 2 _ _ ty_agg_api_Int rfl rfl rfl rfl rfl (pt_own (av_rs 5 rfl rfl)) (av_rs 5 rfl rfl) (ar_tmp (av_rs 3 rfl rfl))⟩,
    .inl ⟨wants_plain rfl, does_move _ (.inr rfl) rfl rfl rfl rfl (ar_tmp (av_rs 4 rfl rfl))⟩,
    trivial⟩ ?_
  refine nx_sub (fs' := [.box 2 100 [Bz a.num, Dz a.num, Bz (fD a.den), Dz (fD a.den)], .box 3 100 [Bz b.num, Dz b.num, Bz (fD b.den), Dz (fD b.den)], .slot 4 (VP.bool false), .box 5 130 [Bz a.num, Tz a.num, Bz (a.den : Int), Tz (a.den : Int)], .box 6 130 [Bz b.num, Tz b.num, Bz (b.den : Int), Tz (b.den : Int)], .box 7 69 [Bz (a.floor), Dz (a.floor)], .slot 8 (VP.bool (decide ((a.floor : Rat) = a)))]) [0, 1, 2, 3, 4, 11, 12] rfl ?_
  refine nx_then ?_
  refine t_seq ?_
  refine t_region (F := ⟨_, _, _, _⟩) [.box 2 100 [Bz a.num, Dz a.num, Bz (fD a.den), Dz (fD a.den)], .box 3 100 [Bz b.num, Dz b.num, Bz (fD b.den), Dz (fD b.den)], .slot 4 (VP.bool false), .box 5 130 [Bz a.num, Tz a.num, Bz (a.den : Int), Tz (a.den : Int)], .box 6 130 [Bz b.num, Tz b.num, Bz (b.den : Int), Tz (b.den : Int)], .box 7 69 [Bz (a.floor), Dz (a.floor)], .slot 8 (VP.bool (decide ((a.floor : Rat) = a)))] [] [(0, .slot 27 (RRAT a)), (1, .slot 28 (VP.tup [NUM (a.floor), VP.bool (decide ((a.floor : Rat) = a))])), (2, .slot 26 (VP.tup [NUM (a.floor), VP.bool (decide ((a.floor : Rat) = a))])), (3, .slot 29 (NUM (a.floor))), (4, .slot 30 (VP.bool (decide ((a.floor : Rat) = a)))), (5, .own 9 72 2), (6, .box 9 72 [Bz (a.floor), Tz (a.floor)]), (7, .slot 10 (VP.bool (decide ((a.floor : Rat) = a))))] [0, 1, 2, 3, 4, 5, 6] [] rfl rfl follow rfl ⟨
    .inl ⟨wants_plain rfl, does_loadAgg _ ty_agg_collatorref02_Frac rfl rfl rfl rfl rfl rfl (pt_box (av_fs 3 rfl)) (av_fs 3 rfl)⟩,
    .inl ⟨wants_plain rfl, does_call (w_floor a (LR.le ha (by decide))) rfl hb_collator_collatorref02_Floor rfl rfl rfl rfl ⟨(ar_tmp (av_rs 0 rfl rfl)), trivial⟩⟩,
    .inl ⟨wants_plain rfl, does_move _ (.inl rfl) rfl rfl rfl rfl (ar_tmp (av_rs 1 rfl rfl))⟩,
    .inl ⟨wants_plain rfl, does_extract (ps := [NUM (a.floor), VP.bool (decide ((a.floor : Rat) = a))]) _ _ rfl rfl rfl rfl rfl (ar_tmp (av_rs 2 rfl rfl)) rfl⟩,
    .inl ⟨wants_plain rfl, does_extract (ps := [NUM (a.floor), VP.bool (decide ((a.floor : Rat) = a))]) _ _ rfl rfl rfl rfl rfl (ar_tmp (av_rs 2 rfl rfl)) rfl⟩,
    .inl ⟨wants_plain rfl, does_allocOwn [Bz 0, Tz 0] ty_zero_collatorref01_Num rfl rfl rfl rfl rfl z_num rfl⟩,
    .inl ⟨wants_plain rfl, does_storeNew 2 _ _ ty_agg_collatorref01_Num rfl rfl rfl rfl rfl (pt_own (av_rs 5 rfl rfl)) (av_rs 5 rfl rfl) (ar_tmp (av_rs 3 rfl rfl))⟩,
    .inl ⟨wants_plain rfl, does_move _ (.inr rfl) rfl rfl rfl rfl (ar_tmp (av_rs 4 rfl rfl))⟩,
    trivial⟩ ?_
  refine nx_sub (fs' := [.box 2 100 [Bz a.num, Dz a.num, Bz (fD a.den), Dz (fD a.den)], .box 3 100 [Bz b.num, Dz b.num, Bz (fD b.den), Dz (fD b.den)], .slot 4 (VP.bool false), .box 5 130 [Bz a.num, Tz a.num, Bz (a.den : Int), Tz (a.den : Int)], .box 6 130 [Bz b.num, Tz b.num, Bz (b.den : Int), Tz (b.den : Int)], .box 7 69 [Bz (a.floor), Dz (a.floor)], .slot 8 (VP.bool (decide ((a.floor : Rat) = a))), .box 9 72 [Bz (a.floor), Tz (a.floor)], .slot 10 (VP.bool (decide ((a.floor : Rat) = a)))]) [0, 1, 2, 3, 4, 5, 6, 13, 14] rfl ?_
  refine nx_then ?_
  refine t_seq ?_
  refine t_region (F := ⟨_, _, _, _⟩) [.box 2 100 [Bz a.num, Dz a.num, Bz (fD a.den), Dz (fD a.den)], .box 3 100 [Bz b.num, Dz b.num, Bz (fD b.den), Dz (fD b.den)], .box 5 130 [Bz a.num, Tz a.num, Bz (a.den : Int), Tz (a.den : Int)], .box 6 130 [Bz b.num, Tz b.num, Bz (b.den : Int), Tz (b.den : Int)], .box 7 69 [Bz (a.floor), Dz (a.floor)], .slot 8 (VP.bool (decide ((a.floor : Rat) = a))), .box 9 72 [Bz (a.floor), Tz (a.floor)], .slot 10 (VP.bool (decide ((a.floor : Rat) = a)))] [(63, .slot 4 (VP.bool false))] [(0, .slot 31 (RAT a)), (1, .slot 32 (RAT b)), (2, .slot 33 (RAT (a + b))), (3, .slot 34 (RRAT a)), (4, .slot 35 (RRAT b)), (5, .slot 36 (RRAT (a + b))), (6, .slot 37 (RAT (a + b))), (7, .slot 38 (VP.bool true)), (8, .slot 39 (VP.bool true)), (9, .slot 40 (RAT a)), (10, .slot 41 (RAT b)), (11, .slot 42 (RAT (a * b))), (12, .slot 43 (RRAT a)), (13, .slot 44 (RRAT b)), (14, .slot 45 (RRAT (a * b))), (15, .slot 46 (RAT (a * b))), (16, .slot 47 (VP.bool true)), (17, .slot 48 (VP.bool true)), (18, .slot 49 (VP.bool true)), (19, .slot 50 (RAT a)), (20, .slot 51 (RAT b)), (21, .slot 52 (RAT (a / b))), (22, .slot 53 (RRAT a)), (23, .slot 54 (RRAT b)), (24, .slot 55 (RRAT (a / b))), (25, .slot 56 (RAT (a / b))), (26, .slot 57 (VP.bool true)), (27, .slot 58 (VP.bool true)), (28, .slot 59 (VP.bool true)), (29, .slot 60 (RAT a)), (30, .slot 61 (RAT (-a))), (31, .slot 62 (RRAT a)), (32, .slot 63 (RRAT (-a))), (33, .slot 64 (RAT (-a))), (34, .slot 65 (VP.bool true)), (35, .slot 66 (VP.bool true)), (36, .slot 67 (VP.bool true)), (37, .slot 68 (RAT a)), (38, .slot 69 (RAT b)), (39, .slot 70 (VP.int .i64 (cmpR a b))), (40, .slot 71 (RRAT a)), (41, .slot 72 (RRAT b)), (42, .slot 73 (VP.int .i64 (cmpR a b))), (43, .slot 74 (VP.bool ((cmpR a b) == (cmpR a b)))), (44, .slot 75 (VP.bool ((cmpR a b) == (cmpR a b)))), (45, .slot 76 (VP.bool ((cmpR a b) == (cmpR a b)))), (46, .slot 77 (RAT a)), (47, .slot 78 (VP.str (qtxt a))), (48, .slot 79 (RRAT a)), (49, .slot 80 (VP.str (qtxt a))), (50, .slot 81 (VP.bool ((qtxt a).toList == (qtxt a).toList))), (51, .slot 82 (VP.bool ((qtxt a).toList == (qtxt a).toList))), (52, .slot 83 (VP.bool ((qtxt a).toList == (qtxt a).toList))), (53, .slot 84 (INT (a.floor))), (54, .slot 85 (NUM (a.floor))), (55, .slot 86 (INT (a.floor))), (56, .slot 87 (VP.bool true)), (57, .slot 88 (VP.bool true)), (58, .slot 89 (VP.bool true)), (59, .slot 90 (VP.bool (decide ((a.floor : Rat) = a)))), (60, .slot 91 (VP.bool (decide ((a.floor : Rat) = a)))), (61, .slot 92 (VP.bool ((decide ((a.floor : Rat) = a)) == (decide ((a.floor : Rat) = a))))), (62, .slot 93 (VP.bool ((decide ((a.floor : Rat) = a)) == (decide ((a.floor : Rat) = a))))), (63, .slot 4 (VP.bool ((decide ((a.floor : Rat) = a)) == (decide ((a.floor : Rat) = a)))))] [0, 1, 3, 4, 5, 6, 7, 8] [2] rfl rfl follow rfl ⟨
    .inl ⟨wants_plain rfl, does_loadAgg _ ty_agg_api_Frac rfl rfl rfl rfl rfl rfl (pt_box (av_fs 0 rfl)) (av_fs 0 rfl)⟩,
    .inl ⟨wants_plain rfl, does_loadAgg _ ty_agg_api_Frac rfl rfl rfl rfl rfl rfl (pt_box (av_fs 1 rfl)) (av_fs 1 rfl)⟩,
    .inl ⟨wants_plain rfl, does_call (q_add a b (LR.le ha (by decide)) (LR.le hb (by decide))) rfl hb_collator_frac_Add rfl rfl rfl rfl ⟨(ar_tmp (av_rs 0 rfl rfl)), (ar_tmp (av_rs 1 rfl rfl)), trivial⟩⟩,
    .inl ⟨wants_plain rfl, does_loadAgg _ ty_agg_collatorref02_Frac rfl rfl rfl rfl rfl rfl (pt_box (av_fs 2 rfl)) (av_fs 2 rfl)⟩,
    .inl ⟨wants_plain rfl, does_loadAgg _ ty_agg_collatorref02_Frac rfl rfl rfl rfl rfl rfl (pt_box (av_fs 3 rfl)) (av_fs 3 rfl)⟩,
    .inl ⟨wants_plain rfl, does_call (w_add a b (LR.le ha (by decide)) (LR.le hb (by decide))) rfl hb_collator_collatorref02_Add rfl rfl rfl rfl ⟨(ar_tmp (av_rs 3 rfl rfl)), (ar_tmp (av_rs 4 rfl rfl)), trivial⟩⟩,
    .inl ⟨wants_plain rfl, does_call (w_form (a + b) (LR.le (lradd ha hb) (by decide))) rfl hb_collator_collatorref02_Form rfl rfl rfl rfl ⟨(ar_tmp (av_rs 5 rfl rfl)), trivial⟩⟩,
    .inl ⟨wants_plain rfl, does_call (w_same1 (a + b) (LR.le (lradd ha hb) (by decide))) rfl hb_collator_collatorref02_Same rfl rfl rfl rfl ⟨(ar_tmp (av_rs 2 rfl rfl)), (ar_tmp (av_rs 6 rfl rfl)), trivial⟩⟩,
    .inl ⟨wants_plain rfl, does_move _ (.inl rfl) rfl rfl rfl rfl (ar_tmp (av_rs 7 rfl rfl))⟩,
    .inl ⟨wants_guard true rfl rfl rfl (av_rs 8 rfl rfl), does_loadAgg _ ty_agg_api_Frac rfl rfl rfl rfl rfl rfl (pt_box (av_fs 0 rfl)) (av_fs 0 rfl)⟩,
    .inl ⟨wants_guard true rfl rfl rfl (av_rs 8 rfl rfl), does_loadAgg _ ty_agg_api_Frac rfl rfl rfl rfl rfl rfl (pt_box (av_fs 1 rfl)) (av_fs 1 rfl)⟩,
    .inl ⟨wants_guard true rfl rfl rfl (av_rs 8 rfl rfl), does_call (q_mul a b (LR.le ha (by decide)) (LR.le hb (by decide))) rfl hb_collator_frac_Mul rfl rfl rfl rfl ⟨(ar_tmp (av_rs 9 rfl rfl)), (ar_tmp (av_rs 10 rfl rfl)), trivial⟩⟩,
    .inl ⟨wants_guard true rfl rfl rfl (av_rs 8 rfl rfl), does_loadAgg _ ty_agg_collatorref02_Frac rfl rfl rfl rfl rfl rfl (pt_box (av_fs 2 rfl)) (av_fs 2 rfl)⟩,
    .inl ⟨wants_guard true rfl rfl rfl (av_rs 8 rfl rfl), does_loadAgg _ ty_agg_collatorref02_Frac rfl rfl rfl rfl rfl rfl (pt_box (av_fs 3 rfl)) (av_fs 3 rfl)⟩,
    .inl ⟨wants_guard true rfl rfl rfl (av_rs 8 rfl rfl), does_call (w_mul a b (LR.le ha (by decide)) (LR.le hb (by decide))) rfl hb_collator_collatorref02_Mul rfl rfl rfl rfl ⟨(ar_tmp (av_rs 12 rfl rfl)), (ar_tmp (av_rs 13 rfl rfl)), trivial⟩⟩,
    .inl ⟨wants_guard true rfl rfl rfl (av_rs 8 rfl rfl), does_call (w_form (a * b) (LR.le (lrmul ha hb) (by decide))) rfl hb_collator_collatorref02_Form rfl rfl rfl rfl ⟨(ar_tmp (av_rs 14 rfl rfl)), trivial⟩⟩,
    .inl ⟨wants_guard true rfl rfl rfl (av_rs 8 rfl rfl), does_call (w_same1 (a * b) (LR.le (lrmul ha hb) (by decide))) rfl hb_collator_collatorref02_Same rfl rfl rfl rfl ⟨(ar_tmp (av_rs 11 rfl rfl)), (ar_tmp (av_rs 15 rfl rfl)), trivial⟩⟩,
    .inl ⟨wants_plain rfl, does_pick true _ _ _ rfl rfl rfl rfl rfl (ar_tmp (av_rs 8 rfl rfl)) (ar_tmp (av_rs 16 rfl rfl))⟩,
    .inl ⟨wants_plain rfl, does_move _ (.inl rfl) rfl rfl rfl rfl (ar_tmp (av_rs 17 rfl rfl))⟩,
    .inl ⟨wants_guard true rfl rfl rfl (av_rs 18 rfl rfl), does_loadAgg _ ty_agg_api_Frac rfl rfl rfl rfl rfl rfl (pt_box (av_fs 0 rfl)) (av_fs 0 rfl)⟩,
    .inl ⟨wants_guard true rfl rfl rfl (av_rs 18 rfl rfl), does_loadAgg _ ty_agg_api_Frac rfl rfl rfl rfl rfl rfl (pt_box (av_fs 1 rfl)) (av_fs 1 rfl)⟩,
    .inl ⟨wants_guard true rfl rfl rfl (av_rs 18 rfl rfl), does_call (q_div a b (LR.le ha (by decide)) (LR.le hb (by decide))) rfl hb_collator_frac_Div rfl rfl rfl rfl ⟨(ar_tmp (av_rs 19 rfl rfl)), (ar_tmp (av_rs 20 rfl rfl)), trivial⟩⟩,
    .inl ⟨wants_guard true rfl rfl rfl (av_rs 18 rfl rfl), does_loadAgg _ ty_agg_collatorref02_Frac rfl rfl rfl rfl rfl rfl (pt_box (av_fs 2 rfl)) (av_fs 2 rfl)⟩,
    .inl ⟨wants_guard true rfl rfl rfl (av_rs 18 rfl rfl), does_loadAgg _ ty_agg_collatorref02_Frac rfl rfl rfl rfl rfl rfl (pt_box (av_fs 3 rfl)) (av_fs 3 rfl)⟩,
    .inl ⟨wants_guard true rfl rfl rfl (av_rs 18 rfl rfl), does_call (w_div a b (LR.le ha (by decide)) (LR.le hb (by decide))) rfl hb_collator_collatorref02_Div rfl rfl rfl rfl ⟨(ar_tmp (av_rs 22 rfl rfl)), (ar_tmp (av_rs 23 rfl rfl)), trivial⟩⟩,
    .inl ⟨wants_guard true rfl rfl rfl (av_rs 18 rfl rfl), does_call (w_form (a / b) (LR.le (lrdiv ha hb) (by decide))) rfl hb_collator_collatorref02_Form rfl rfl rfl rfl ⟨(ar_tmp (av_rs 24 rfl rfl)), trivial⟩⟩,
    .inl ⟨wants_guard true rfl rfl rfl (av_rs 18 rfl rfl), does_call (w_same1 (a / b) (LR.le (lrdiv ha hb) (by decide))) rfl hb_collator_collatorref02_Same rfl rfl rfl rfl ⟨(ar_tmp (av_rs 21 rfl rfl)), (ar_tmp (av_rs 25 rfl rfl)), trivial⟩⟩,
    .inl ⟨wants_plain rfl, does_pick true _ _ _ rfl rfl rfl rfl rfl (ar_tmp (av_rs 18 rfl rfl)) (ar_tmp (av_rs 26 rfl rfl))⟩,
    .inl ⟨wants_plain rfl, does_move _ (.inl rfl) rfl rfl rfl rfl (ar_tmp (av_rs 27 rfl rfl))⟩,
    .inl ⟨wants_guard true rfl rfl rfl (av_rs 28 rfl rfl), does_loadAgg _ ty_agg_api_Frac rfl rfl rfl rfl rfl rfl (pt_box (av_fs 0 rfl)) (av_fs 0 rfl)⟩,
    .inl ⟨wants_guard true rfl rfl rfl (av_rs 28 rfl rfl), does_call (q_neg a (LR.le ha (by decide))) rfl hb_collator_frac_Neg rfl rfl rfl rfl ⟨(ar_tmp (av_rs 29 rfl rfl)), trivial⟩⟩,
    .inl ⟨wants_guard true rfl rfl rfl (av_rs 28 rfl rfl), does_loadAgg _ ty_agg_collatorref02_Frac rfl rfl rfl rfl rfl rfl (pt_box (av_fs 2 rfl)) (av_fs 2 rfl)⟩,
    .inl ⟨wants_guard true rfl rfl rfl (av_rs 28 rfl rfl), does_call (w_neg a (LR.le ha (by decide))) rfl hb_collator_collatorref02_Neg rfl rfl rfl rfl ⟨(ar_tmp (av_rs 31 rfl rfl)), trivial⟩⟩,
    .inl ⟨wants_guard true rfl rfl rfl (av_rs 28 rfl rfl), does_call (w_form (-a) (LR.le (lrneg ha) (by decide))) rfl hb_collator_collatorref02_Form rfl rfl rfl rfl ⟨(ar_tmp (av_rs 32 rfl rfl)), trivial⟩⟩,
    .inl ⟨wants_guard true rfl rfl rfl (av_rs 28 rfl rfl), does_call (w_same1 (-a) (LR.le (lrneg ha) (by decide))) rfl hb_collator_collatorref02_Same rfl rfl rfl rfl ⟨(ar_tmp (av_rs 30 rfl rfl)), (ar_tmp (av_rs 33 rfl rfl)), trivial⟩⟩,
    .inl ⟨wants_plain rfl, does_pick true _ _ _ rfl rfl rfl rfl rfl (ar_tmp (av_rs 28 rfl rfl)) (ar_tmp (av_rs 34 rfl rfl))⟩,
    .inl ⟨wants_plain rfl, does_move _ (.inl rfl) rfl rfl rfl rfl (ar_tmp (av_rs 35 rfl rfl))⟩,
    .inl ⟨wants_guard true rfl rfl rfl (av_rs 36 rfl rfl), does_loadAgg _ ty_agg_api_Frac rfl rfl rfl rfl rfl rfl (pt_box (av_fs 0 rfl)) (av_fs 0 rfl)⟩,
    .inl ⟨wants_guard true rfl rfl rfl (av_rs 36 rfl rfl), does_loadAgg _ ty_agg_api_Frac rfl rfl rfl rfl rfl rfl (pt_box (av_fs 1 rfl)) (av_fs 1 rfl)⟩,
    .inl ⟨wants_guard true rfl rfl rfl (av_rs 36 rfl rfl), does_call (q_cmp a b (LR.le ha (by decide)) (LR.le hb (by decide))) rfl hb_collator_frac_Cmp rfl rfl rfl rfl ⟨(ar_tmp (av_rs 37 rfl rfl)), (ar_tmp (av_rs 38 rfl rfl)), trivial⟩⟩,
    .inl ⟨wants_guard true rfl rfl rfl (av_rs 36 rfl rfl), does_loadAgg _ ty_agg_collatorref02_Frac rfl rfl rfl rfl rfl rfl (pt_box (av_fs 2 rfl)) (av_fs 2 rfl)⟩,
    .inl ⟨wants_guard true rfl rfl rfl (av_rs 36 rfl rfl), does_loadAgg _ ty_agg_collatorref02_Frac rfl rfl rfl rfl rfl rfl (pt_box (av_fs 3 rfl)) (av_fs 3 rfl)⟩,
    .inl ⟨wants_guard true rfl rfl rfl (av_rs 36 rfl rfl), does_call (w_cmp a b (LR.le ha (by decide)) (LR.le hb (by decide))) rfl hb_collator_collatorref02_Cmp rfl rfl rfl rfl ⟨(ar_tmp (av_rs 40 rfl rfl)), (ar_tmp (av_rs 41 rfl rfl)), trivial⟩⟩,
    .inl ⟨wants_guard true rfl rfl rfl (av_rs 36 rfl rfl), does_cmp (m := (cmpR a b)) (n := (cmpR a b)) _ _ _ _ _ rfl rfl rfl rfl rfl rfl .i64 (ar_tmp (av_rs 39 rfl rfl)) (ar_tmp (av_rs 42 rfl rfl))⟩,
    .inl ⟨wants_plain rfl, does_pick true _ _ _ rfl rfl rfl rfl rfl (ar_tmp (av_rs 36 rfl rfl)) (ar_tmp (av_rs 43 rfl rfl))⟩,
    .inl ⟨wants_plain rfl, does_move _ (.inl rfl) rfl rfl rfl rfl (ar_tmp (av_rs 44 rfl rfl))⟩,
    .inl ⟨wants_guard true rfl rfl rfl (av_bool (beq_self_eq_true _) (av_rs 45 rfl rfl)), does_loadAgg _ ty_agg_api_Frac rfl rfl rfl rfl rfl rfl (pt_box (av_fs 0 rfl)) (av_fs 0 rfl)⟩,
    .inl ⟨wants_guard true rfl rfl rfl (av_bool (beq_self_eq_true _) (av_rs 45 rfl rfl)), does_call (q_text a (LR.le ha (by decide))) rfl hb_collator_frac_Text rfl rfl rfl rfl ⟨(ar_tmp (av_rs 46 rfl rfl)), trivial⟩⟩,
    .inl ⟨wants_guard true rfl rfl rfl (av_bool (beq_self_eq_true _) (av_rs 45 rfl rfl)), does_loadAgg _ ty_agg_collatorref02_Frac rfl rfl rfl rfl rfl rfl (pt_box (av_fs 2 rfl)) (av_fs 2 rfl)⟩,
    .inl ⟨wants_guard true rfl rfl rfl (av_bool (beq_self_eq_true _) (av_rs 45 rfl rfl)), does_call (w_text a (LR.le ha (by decide))) rfl hb_collator_collatorref02_Text rfl rfl rfl rfl ⟨(ar_tmp (av_rs 48 rfl rfl)), trivial⟩⟩,
    .inl ⟨wants_guard true rfl rfl rfl (av_bool (beq_self_eq_true _) (av_rs 45 rfl rfl)), does_eqStr (u := (qtxt a)) (v := (qtxt a)) _ _ _ _ _ rfl rfl rfl rfl rfl rfl (ar_tmp (av_rs 47 rfl rfl)) (ar_tmp (av_rs 49 rfl rfl))⟩,
    .inl ⟨wants_plain rfl, does_pick true _ _ _ rfl rfl rfl rfl rfl (ar_tmp (av_bool (beq_self_eq_true _) (av_rs 45 rfl rfl))) (ar_tmp (av_rs 50 rfl rfl))⟩,
    .inl ⟨wants_plain rfl, does_move _ (.inl rfl) rfl rfl rfl rfl (ar_tmp (av_rs 51 rfl rfl))⟩,
    .inl ⟨wants_guard true rfl rfl rfl (av_bool (beq_self_eq_true _) (av_rs 52 rfl rfl)), does_loadAgg _ ty_agg_api_Int rfl rfl rfl rfl rfl rfl (pt_box (av_fs 4 rfl)) (av_fs 4 rfl)⟩,
    .inl ⟨wants_guard true rfl rfl rfl (av_bool (beq_self_eq_true _) (av_rs 52 rfl rfl)), does_loadAgg _ ty_agg_collatorref01_Num rfl rfl rfl rfl rfl rfl (pt_box (av_fs 6 rfl)) (av_fs 6 rfl)⟩,
    .inl ⟨wants_guard true rfl rfl rfl (av_bool (beq_self_eq_true _) (av_rs 52 rfl rfl)), does_call (r_form (a.floor) (n10 (lrfloor ha) (by decide))) rfl hb_collator_collatorref01_Form rfl rfl rfl rfl ⟨(ar_tmp (av_rs 54 rfl rfl)), trivial⟩⟩,
    .inl ⟨wants_guard true rfl rfl rfl (av_bool (beq_self_eq_true _) (av_rs 52 rfl rfl)), does_call (r_same1 (a.floor) (lle (lrfloor ha) (by decide))) rfl hb_collator_collatorref01_Same rfl rfl rfl rfl ⟨(ar_tmp (av_rs 53 rfl rfl)), (ar_tmp (av_rs 55 rfl rfl)), trivial⟩⟩,
    .inl ⟨wants_plain rfl, does_pick true _ _ _ rfl rfl rfl rfl rfl (ar_tmp (av_bool (beq_self_eq_true _) (av_rs 52 rfl rfl))) (ar_tmp (av_rs 56 rfl rfl))⟩,
    .inl ⟨wants_plain rfl, does_move _ (.inl rfl) rfl rfl rfl rfl (ar_tmp (av_rs 57 rfl rfl))⟩,
    .inl ⟨wants_guard true rfl rfl rfl (av_rs 58 rfl rfl), does_move _ (.inl rfl) rfl rfl rfl rfl (ar_tmp (av_fs 5 rfl))⟩,
    .inl ⟨wants_guard true rfl rfl rfl (av_rs 58 rfl rfl), does_move _ (.inl rfl) rfl rfl rfl rfl (ar_tmp (av_fs 7 rfl))⟩,
    .inl ⟨wants_guard true rfl rfl rfl (av_rs 58 rfl rfl), does_eqBool (u := (decide ((a.floor : Rat) = a))) (v := (decide ((a.floor : Rat) = a))) _ _ _ _ _ (by kernel_rfl) rfl rfl rfl rfl rfl rfl (ar_tmp (av_rs 59 rfl rfl)) (ar_tmp (av_rs 60 rfl rfl))⟩,
    .inl ⟨wants_plain rfl, does_pick true _ _ _ rfl rfl rfl rfl rfl (ar_tmp (av_rs 58 rfl rfl)) (ar_tmp (av_rs 61 rfl rfl))⟩,
    .inl ⟨wants_plain rfl, does_move _ (.inr rfl) rfl rfl rfl rfl (ar_tmp (av_rs 62 rfl rfl))⟩,
    trivial⟩ ?_
  refine nx_sub (fs' := [.slot 4 (VP.bool ((decide ((a.floor : Rat) = a)) == (decide ((a.floor : Rat) = a))))]) [71] rfl ?_
  refine nx_then ?_
  refine t_ret ?_
  exact rt_one rfl (res_tmpb 0 rfl (beq_self_eq_true _))
set_option maxRecDepth 100000 in
set_option maxHeartbeats 4000000 in
theorem ftold_odd (x y : Raw × Raw) (HO : Spec Try.prog 73 [isRows 2 (fcells [x, y])] (VP.bool true)) : Spec Try.prog 14 [(VP.agg [VP.bool x.1.1, VP.nums .u32 x.1.2, VP.bool x.2.1, VP.nums .u32 x.2.2]).p, (VP.agg [VP.bool y.1.1, VP.nums .u32 y.1.2, VP.bool y.2.1, VP.nums .u32 y.2.2]).p] (VP.bool true) := by
  refine spec_of (xs := [VP.agg [VP.bool x.1.1, VP.nums .u32 x.1.2, VP.bool x.2.1, VP.nums .u32 x.2.2], VP.agg [VP.bool y.1.1, VP.nums .u32 y.1.2, VP.bool y.2.1, VP.nums .u32 y.2.2]]) 94 [2, 3, 5, 6, 7, 9] Try.func14 rfl Try.ntmps14 rfl fun w0 => ?_
  refine t_seq ?_
  refine t_region (F := ⟨_, _, _, _⟩) [.slot 0 (VP.agg [VP.bool x.1.1, VP.nums .u32 x.1.2, VP.bool x.2.1, VP.nums .u32 x.2.2]), .slot 1 (VP.agg [VP.bool y.1.1, VP.nums .u32 y.1.2, VP.bool y.2.1, VP.nums .u32 y.2.2])] [] [(0, .box 2 100 [VP.bool x.1.1, VP.nums .u32 x.1.2, VP.bool x.2.1, VP.nums .u32 x.2.2]), (1, .box 3 100 [VP.bool y.1.1, VP.nums .u32 y.1.2, VP.bool y.2.1, VP.nums .u32 y.2.2]), (2, .slot 4 (VP.bool false))] [0, 1] [] rfl rfl follow rfl ⟨
    .inl ⟨wants_plain rfl, does_box _ rfl rfl rfl rfl rfl (ar_tmp (av_fs 0 rfl))⟩,
    .inl ⟨wants_plain rfl, does_box _ rfl rfl rfl rfl rfl (ar_tmp (av_fs 1 rfl))⟩,
    .inl ⟨wants_plain rfl, does_move _ (.inr rfl) rfl rfl rfl rfl (ar_const (fun _ => rfl))⟩,
    trivial⟩ ?_
  refine nx_sub (fs' := [.box 2 100 [VP.bool x.1.1, VP.nums .u32 x.1.2, VP.bool x.2.1, VP.nums .u32 x.2.2], .box 3 100 [VP.bool y.1.1, VP.nums .u32 y.1.2, VP.bool y.2.1, VP.nums .u32 y.2.2], .slot 4 (VP.bool false)]) [2, 3, 4] rfl ?_
  refine nx_then ?_
  refine t_seq ?_
  refine t_seq ?_
  refine t_region (F := ⟨_, _, _, _⟩) [.box 2 100 [VP.bool x.1.1, VP.nums .u32 x.1.2, VP.bool x.2.1, VP.nums .u32 x.2.2], .box 3 100 [VP.bool y.1.1, VP.nums .u32 y.1.2, VP.bool y.2.1, VP.nums .u32 y.2.2], .slot 4 (VP.bool false)] [] [(0, .slot 11 (VP.bool true)), (1, .slot 12 (VP.bool false))] [0, 1, 2] [] rfl rfl follow rfl ⟨
    .inl ⟨wants_plain rfl, does_call sp2_spec rfl hb_collator_collatorlaw02_speaks rfl rfl rfl rfl trivial⟩,
    .inl ⟨wants_plain rfl, does_not true _ _ rfl rfl rfl rfl rfl (ar_tmp (av_rs 0 rfl rfl))⟩,
    trivial⟩ ?_
  refine nx_sub (fs' := [.box 2 100 [VP.bool x.1.1, VP.nums .u32 x.1.2, VP.bool x.2.1, VP.nums .u32 x.2.2], .box 3 100 [VP.bool y.1.1, VP.nums .u32 y.1.2, VP.bool y.2.1, VP.nums .u32 y.2.2], .slot 4 (VP.bool false), .slot 12 (VP.bool false)]) [0, 1, 2, 4] rfl ?_
  refine nx_then ?_
  refine t_cond_f 3 rfl ?_
  refine t_skip ?_
  refine nx_then ?_
  refine t_seq ?_
  refine t_seq ?_
  refine t_region (F := ⟨_, _, _, _⟩) [.box 2 100 [VP.bool x.1.1, VP.nums .u32 x.1.2, VP.bool x.2.1, VP.nums .u32 x.2.2], .box 3 100 [VP.bool y.1.1, VP.nums .u32 y.1.2, VP.bool y.2.1, VP.nums .u32 y.2.2], .slot 4 (VP.bool false), .slot 12 (VP.bool false)] [] [(0, .slot 13 (VP.agg [VP.bool x.1.1, VP.nums .u32 x.1.2, VP.bool x.2.1, VP.nums .u32 x.2.2])), (1, .slot 14 (VP.agg [VP.bool y.1.1, VP.nums .u32 y.1.2, VP.bool y.2.1, VP.nums .u32 y.2.2])), (2, .arr 15 100 2 [VP.bool x.1.1, VP.nums .u32 x.1.2, VP.bool x.2.1, VP.nums .u32 x.2.2, VP.bool y.1.1, VP.nums .u32 y.1.2, VP.bool y.2.1, VP.nums .u32 y.2.2]), (3, .slot 16 (VP.bool true))] [0, 1, 2, 3] [] rfl rfl follow rfl ⟨
    .inl ⟨wants_plain rfl, does_loadAgg _ ty_agg_api_Frac rfl rfl rfl rfl rfl rfl (pt_box (av_fs 0 rfl)) (av_fs 0 rfl)⟩,
    .inl ⟨wants_plain rfl, does_loadAgg _ ty_agg_api_Frac rfl rfl rfl rfl rfl rfl (pt_box (av_fs 1 rfl)) (av_fs 1 rfl)⟩,
    .inl ⟨wants_plain rfl, does_buildSlice (sz := 4) [Bz 0, Dz 0, Bz 0, Dz 0, Bz 0, Dz 0, Bz 0, Dz 0] ty_zero_api_Frac (by kernel_rfl) (fun w => run_sizeAgg ty_agg_api_Frac w) rfl rfl rfl rfl rfl rfl (by kernel_rfl) (fun w => by exact z_frac_2 w) (.cons 0 [VP.bool x.1.1, VP.nums .u32 x.1.2, VP.bool x.2.1, VP.nums .u32 x.2.2] rfl rfl (ar_cells_agg (ar_tmp (av_rs 0 rfl rfl))) (.cons 4 [VP.bool y.1.1, VP.nums .u32 y.1.2, VP.bool y.2.1, VP.nums .u32 y.2.2] rfl rfl (ar_cells_agg (ar_tmp (av_rs 1 rfl rfl))) (.nil _)))⟩,
    .inl ⟨wants_plain rfl, does_call HO rfl hb_collator_collatorlaw02_Odd rfl rfl rfl rfl ⟨(ar_arr_rows (by simp [maxLen]) (av_rs 2 rfl rfl)), trivial⟩⟩,
    trivial⟩ ?_
  refine nx_sub (fs' := [.box 2 100 [VP.bool x.1.1, VP.nums .u32 x.1.2, VP.bool x.2.1, VP.nums .u32 x.2.2], .box 3 100 [VP.bool y.1.1, VP.nums .u32 y.1.2, VP.bool y.2.1, VP.nums .u32 y.2.2], .slot 4 (VP.bool false), .slot 16 (VP.bool true)]) [0, 1, 2, 7] rfl ?_
  refine nx_then ?_
  refine t_cond_t 3 rfl ?_
  refine t_seq ?_
  refine t_region (F := ⟨_, _, _, _⟩) [.box 2 100 [VP.bool x.1.1, VP.nums .u32 x.1.2, VP.bool x.2.1, VP.nums .u32 x.2.2], .box 3 100 [VP.bool y.1.1, VP.nums .u32 y.1.2, VP.bool y.2.1, VP.nums .u32 y.2.2], .slot 16 (VP.bool true)] [(0, .slot 4 (VP.bool false))] [(0, .slot 4 (VP.bool true))] [0, 1, 3] [2] rfl rfl follow rfl ⟨
    .inl ⟨wants_plain rfl, does_move _ (.inr rfl) rfl rfl rfl rfl (ar_const (fun _ => rfl))⟩,
    trivial⟩ ?_
  refine nx_sub (fs' := [.box 2 100 [VP.bool x.1.1, VP.nums .u32 x.1.2, VP.bool x.2.1, VP.nums .u32 x.2.2], .box 3 100 [VP.bool y.1.1, VP.nums .u32 y.1.2, VP.bool y.2.1, VP.nums .u32 y.2.2], .slot 4 (VP.bool true)]) [0, 1, 3] rfl ?_
  refine nx_then ?_
  refine t_ret ?_
  refine rt_then ?_
  exact rt_one rfl (res_tmp 2 rfl)
end Go.Proofs.Ytogodjiemgilaaa

/- Fractions: which are looked at. -/
namespace Go.Proofs.Ytogodjiemgilaaa
open Go.RowKit
abbrev fodd2_A_c (x0 y0 : Raw) (x1 y1 : Raw) : List VP := [VP.bool x0.1, VP.nums .u32 x0.2, VP.bool y0.1, VP.nums .u32 y0.2, VP.bool x1.1, VP.nums .u32 x1.2, VP.bool y1.1, VP.nums .u32 y1.2]
set_option maxRecDepth 100000 in
set_option maxHeartbeats 4000000 in
theorem fodd2_A (x0 y0 : Raw) (hx0 : x0.ok) (hy0 : y0.ok) (ho : [x0, y0].any oddP = true) (x1 y1 : Raw) : Spec Try.prog 73 [isRows 2 (fodd2_A_c x0 y0 x1 y1)] (VP.bool true) := by
  refine spec_ofP (xs := [.rows 2 (fodd2_A_c x0 y0 x1 y1)]) 37 [4] Try.func73 rfl Try.ntmps73 rfl fun w0 => ?_
  refine t_seq ?_
  refine t_region (F := ⟨_, _, _, _⟩) [.rows 0 2 (fodd2_A_c x0 y0 x1 y1)] [] [(0, .slot 2 (VP.bool false))] [0] [] rfl rfl follow rfl ⟨
    .inl ⟨wants_plain rfl, does_move _ (.inr rfl) rfl rfl rfl rfl (ar_const (fun _ => rfl))⟩,
    trivial⟩ ?_
  refine nx_sub (fs' := [.rows 0 2 (fodd2_A_c x0 y0 x1 y1), .slot 2 (VP.bool false)]) [0, 1] rfl ?_
  refine nx_then ?_
  refine t_seq ?_
  refine t_seq ?_
  refine t_region (F := ⟨_, _, _, _⟩) [.rows 0 2 (fodd2_A_c x0 y0 x1 y1), .slot 2 (VP.bool false)] [] [(0, .rows 5 2 (fodd2_A_c x0 y0 x1 y1)), (1, .slot 6 (VP.int .i64 ((2 : Nat) : Int))), (2, .slot 7 (VP.int .i64 0))] [0, 1] [] rfl rfl follow rfl ⟨
    .inl ⟨wants_plain rfl, does_moveRows _ (.inl rfl) rfl rfl rfl rfl rfl (av_fs 0 rfl)⟩,
    .inl ⟨wants_plain rfl, does_lenRows _ _ rfl (by kernel_rfl) rfl rfl rfl rfl rfl (av_rs 0 rfl rfl)⟩,
    .inl ⟨wants_plain rfl, does_move _ (.inl rfl) rfl rfl rfl rfl (ar_const (fun _ => rfl))⟩,
    trivial⟩ ?_
  refine nx_sub (fs' := [.slot 2 (VP.bool false), .rows 5 2 (fodd2_A_c x0 y0 x1 y1), .slot 6 (VP.int .i64 ((2 : Nat) : Int)), .slot 7 (VP.int .i64 0)]) [1, 2, 3, 4] rfl ?_
  refine nx_then ?_
  refine t_block ?_
  refine t_loop (σ := {k : Nat // k ≤ 0}) (fun s => [.rows 5 2 (fodd2_A_c x0 y0 x1 y1), .slot 6 (VP.int .i64 ((2 : Nat) : Int)), .slot 7 (VP.int .i64 ((s.1 : Nat) : Int))]) (fun s => 2 - s.1) (⟨0, by decide⟩) [1, 2, 3] rfl ?_
  intro s
  obtain ⟨k, hk⟩ := s
  rcases (show k = 0 ∨ False by omega) with rfl | hF
  case inr => exact hF.elim
  case inl =>
    refine t_seq ?_
    refine t_region (F := ⟨_, _, _, _⟩) [.rows 5 2 (fodd2_A_c x0 y0 x1 y1), .slot 6 (VP.int .i64 ((2 : Nat) : Int)), .slot 7 (VP.int .i64 ((0 : Nat) : Int))] [] [(0, .slot 8 (VP.bool (decide (((0 : Nat) : Int) < ((2 : Nat) : Int)))))] [0, 1, 2] [] rfl rfl follow rfl ⟨
      .inl ⟨wants_plain rfl, does_cmp (m := ((0 : Nat) : Int)) (n := ((2 : Nat) : Int)) _ _ _ _ _ rfl rfl rfl rfl rfl rfl .i64 (ar_tmp (av_fs 2 rfl)) (ar_tmp (av_fs 1 rfl))⟩,
      trivial⟩ ?_
    refine nx_sub (fs' := [.rows 5 2 (fodd2_A_c x0 y0 x1 y1), .slot 6 (VP.int .i64 ((2 : Nat) : Int)), .slot 7 (VP.int .i64 ((0 : Nat) : Int)), .slot 8 (VP.bool (decide (((0 : Nat) : Int) < ((2 : Nat) : Int))))]) [0, 1, 2, 3] rfl ?_
    refine nx_then ?_
    refine t_seq ?_
    refine t_cond_te 3 rfl rfl ?_
    refine t_skip ?_
    refine nx_then ?_
    refine t_seq ?_
    refine t_block ?_
    refine t_seq ?_
    refine t_region (F := ⟨_, _, _, _⟩) [.rows 5 2 (fodd2_A_c x0 y0 x1 y1), .slot 6 (VP.int .i64 ((2 : Nat) : Int)), .slot 7 (VP.int .i64 ((0 : Nat) : Int)), .slot 8 (VP.bool (decide (((0 : Nat) : Int) < ((2 : Nat) : Int))))] [] [(0, .rp 9 5 0), (1, .slot 10 (VP.agg [VP.bool x0.1, VP.nums .u32 x0.2, VP.bool y0.1, VP.nums .u32 y0.2])), (2, .own 4 100 4), (3, .box 4 100 [VP.bool x0.1, VP.nums .u32 x0.2, VP.bool y0.1, VP.nums .u32 y0.2])] [0, 1, 2, 3] [] rfl rfl follow rfl ⟨
      .inl ⟨wants_plain rfl, does_indexRows (m := 0) (sz := 4) _ _ rfl Try.underlying178 (fun w => run_sizeAgg ty_agg_api_Frac w) rfl rfl rfl rfl rfl rfl (by decide) rfl (av_fs 0 rfl) (ar_tmp (av_fs 2 rfl))⟩,
      .inl ⟨wants_plain rfl, does_loadRows _ rfl ty_agg_api_Frac rfl rfl rfl rfl rfl rfl rfl (av_rs 0 rfl rfl) (av_fs 0 rfl)⟩,
      .inl ⟨wants_plain rfl, does_allocOwn [Bz 0, Dz 0, Bz 0, Dz 0] ty_zero_api_Frac rfl rfl rfl rfl rfl z_frac rfl⟩,
      .inl ⟨wants_plain rfl, does_storeNew 4 _ _ ty_agg_api_Frac rfl rfl rfl rfl rfl (pt_own (av_rs 2 rfl rfl)) (av_rs 2 rfl rfl) (ar_tmp (av_rs 1 rfl rfl))⟩,
      trivial⟩ ?_
    refine nx_sub (fs' := [.rows 5 2 (fodd2_A_c x0 y0 x1 y1), .slot 6 (VP.int .i64 ((2 : Nat) : Int)), .slot 7 (VP.int .i64 ((0 : Nat) : Int)), .slot 8 (VP.bool (decide (((0 : Nat) : Int) < ((2 : Nat) : Int)))), .rp 9 5 0, .slot 10 (VP.agg [VP.bool x0.1, VP.nums .u32 x0.2, VP.bool y0.1, VP.nums .u32 y0.2]), .box 4 100 [VP.bool x0.1, VP.nums .u32 x0.2, VP.bool y0.1, VP.nums .u32 y0.2]]) [0, 1, 2, 3, 4, 5, 7] rfl ?_
    refine nx_then ?_
    refine t_seq ?_
    refine t_region (F := ⟨_, _, _, _⟩) [.rows 5 2 (fodd2_A_c x0 y0 x1 y1), .slot 6 (VP.int .i64 ((2 : Nat) : Int)), .slot 7 (VP.int .i64 ((0 : Nat) : Int)), .slot 8 (VP.bool (decide (((0 : Nat) : Int) < ((2 : Nat) : Int)))), .rp 9 5 0, .slot 10 (VP.agg [VP.bool x0.1, VP.nums .u32 x0.2, VP.bool y0.1, VP.nums .u32 y0.2]), .box 4 100 [VP.bool x0.1, VP.nums .u32 x0.2, VP.bool y0.1, VP.nums .u32 y0.2]] [] [(0, .fp 11 4 0), (1, .slot 12 (VP.agg [VP.bool x0.1, VP.nums .u32 x0.2])), (2, .fp 13 4 2), (3, .slot 14 (VP.agg [VP.bool y0.1, VP.nums .u32 y0.2])), (4, .arr 15 69 2 [VP.bool x0.1, VP.nums .u32 x0.2, VP.bool y0.1, VP.nums .u32 y0.2]), (5, .slot 16 (VP.bool true)), (6, .slot 17 (VP.bool true)), (12, .slot 23 (VP.bool true)), (13, .slot 24 (VP.bool true)), (19, .slot 30 (VP.bool true)), (20, .slot 31 (VP.bool true)), (24, .slot 35 (VP.bool true))] [0, 1, 2, 3, 4, 5, 6] [] rfl rfl follow rfl ⟨
      .inl ⟨wants_plain rfl, does_field _ _ _ 0 ty_f0_api_Frac rfl rfl rfl rfl rfl rfl rfl (pt_box (av_fs 6 rfl))⟩,
      .inl ⟨wants_plain rfl, does_loadAgg _ ty_agg_api_Int rfl rfl rfl rfl rfl rfl (pt_fp (av_rs 0 rfl rfl)) (av_fs 6 rfl)⟩,
      .inl ⟨wants_plain rfl, does_field _ _ _ 2 ty_f1_api_Frac rfl rfl rfl rfl rfl rfl rfl (pt_box (av_fs 6 rfl))⟩,
      .inl ⟨wants_plain rfl, does_loadAgg _ ty_agg_api_Int rfl rfl rfl rfl rfl rfl (pt_fp (av_rs 2 rfl rfl)) (av_fs 6 rfl)⟩,
      .inl ⟨wants_plain rfl, does_buildSlice (sz := 2) [Bz 0, Dz 0, Bz 0, Dz 0] ty_zero_api_Int (by kernel_rfl) (fun w => run_sizeAgg ty_agg_api_Int w) rfl rfl rfl rfl rfl rfl (by kernel_rfl) (fun w => by exact z_int_2 w) (.cons 0 [VP.bool x0.1, VP.nums .u32 x0.2] rfl rfl (ar_cells_agg (ar_tmp (av_rs 1 rfl rfl))) (.cons 2 [VP.bool y0.1, VP.nums .u32 y0.2] rfl rfl (ar_cells_agg (ar_tmp (av_rs 3 rfl rfl))) (.nil _)))⟩,
      .inl ⟨wants_plain rfl, does_call (s_odd2 x0 y0 hx0 hy0 ho) rfl hb_collator_collatorlaw01_Odd rfl rfl rfl rfl ⟨(ar_arr (av_rs 4 rfl rfl)), trivial⟩⟩,
      .inl ⟨wants_plain rfl, does_move _ (.inl rfl) rfl rfl rfl rfl (ar_tmp (av_rs 5 rfl rfl))⟩,
      .inr (skips_guard true rfl rfl rfl (av_rs 6 rfl rfl) rfl rfl rfl rfl),
      .inr (skips_guard true rfl rfl rfl (av_rs 6 rfl rfl) rfl rfl rfl rfl),
      .inr (skips_guard true rfl rfl rfl (av_rs 6 rfl rfl) rfl rfl rfl rfl),
      .inr (skips_guard true rfl rfl rfl (av_rs 6 rfl rfl) rfl rfl rfl rfl),
      .inr (skips_guard true rfl rfl rfl (av_rs 6 rfl rfl) rfl rfl rfl rfl),
      .inl ⟨wants_plain rfl, does_pick true _ _ _ rfl rfl rfl rfl rfl (ar_tmp (av_rs 6 rfl rfl)) (ar_const (fun _ => rfl))⟩,
      .inl ⟨wants_plain rfl, does_move _ (.inl rfl) rfl rfl rfl rfl (ar_tmp (av_rs 7 rfl rfl))⟩,
      .inr (skips_guard true rfl rfl rfl (av_rs 8 rfl rfl) rfl rfl rfl rfl),
      .inr (skips_guard true rfl rfl rfl (av_rs 8 rfl rfl) rfl rfl rfl rfl),
      .inr (skips_guard true rfl rfl rfl (av_rs 8 rfl rfl) rfl rfl rfl rfl),
      .inr (skips_guard true rfl rfl rfl (av_rs 8 rfl rfl) rfl rfl rfl rfl),
      .inr (skips_guard true rfl rfl rfl (av_rs 8 rfl rfl) rfl rfl rfl rfl),
      .inl ⟨wants_plain rfl, does_pick true _ _ _ rfl rfl rfl rfl rfl (ar_tmp (av_rs 8 rfl rfl)) (ar_const (fun _ => rfl))⟩,
      .inl ⟨wants_plain rfl, does_move _ (.inl rfl) rfl rfl rfl rfl (ar_tmp (av_rs 9 rfl rfl))⟩,
      .inr (skips_guard true rfl rfl rfl (av_rs 10 rfl rfl) rfl rfl rfl rfl),
      .inr (skips_guard true rfl rfl rfl (av_rs 10 rfl rfl) rfl rfl rfl rfl),
      .inr (skips_guard true rfl rfl rfl (av_rs 10 rfl rfl) rfl rfl rfl rfl),
      .inl ⟨wants_plain rfl, does_pick true _ _ _ rfl rfl rfl rfl rfl (ar_tmp (av_rs 10 rfl rfl)) (ar_const (fun _ => rfl))⟩,
      trivial⟩ ?_
    refine nx_sub (fs' := [.rows 5 2 (fodd2_A_c x0 y0 x1 y1), .slot 6 (VP.int .i64 ((2 : Nat) : Int)), .slot 7 (VP.int .i64 ((0 : Nat) : Int)), .slot 8 (VP.bool (decide (((0 : Nat) : Int) < ((2 : Nat) : Int)))), .rp 9 5 0, .slot 10 (VP.agg [VP.bool x0.1, VP.nums .u32 x0.2, VP.bool y0.1, VP.nums .u32 y0.2]), .box 4 100 [VP.bool x0.1, VP.nums .u32 x0.2, VP.bool y0.1, VP.nums .u32 y0.2], .fp 11 4 0, .slot 12 (VP.agg [VP.bool x0.1, VP.nums .u32 x0.2]), .fp 13 4 2, .slot 14 (VP.agg [VP.bool y0.1, VP.nums .u32 y0.2]), .arr 15 69 2 [VP.bool x0.1, VP.nums .u32 x0.2, VP.bool y0.1, VP.nums .u32 y0.2], .slot 16 (VP.bool true), .slot 17 (VP.bool true), .slot 23 (VP.bool true), .slot 24 (VP.bool true), .slot 30 (VP.bool true), .slot 31 (VP.bool true), .slot 35 (VP.bool true)]) [0, 1, 2, 3, 4, 5, 6, 7, 8, 9, 10, 11, 12, 13, 14, 15, 16, 17, 18] rfl ?_
    refine nx_then ?_
    refine t_cond_t 18 rfl ?_
    refine t_seq ?_
    refine t_region (F := ⟨_, _, _, _⟩) [.rows 5 2 (fodd2_A_c x0 y0 x1 y1), .slot 6 (VP.int .i64 ((2 : Nat) : Int)), .slot 7 (VP.int .i64 ((0 : Nat) : Int)), .slot 8 (VP.bool (decide (((0 : Nat) : Int) < ((2 : Nat) : Int)))), .rp 9 5 0, .slot 10 (VP.agg [VP.bool x0.1, VP.nums .u32 x0.2, VP.bool y0.1, VP.nums .u32 y0.2]), .box 4 100 [VP.bool x0.1, VP.nums .u32 x0.2, VP.bool y0.1, VP.nums .u32 y0.2], .fp 11 4 0, .slot 12 (VP.agg [VP.bool x0.1, VP.nums .u32 x0.2]), .fp 13 4 2, .slot 14 (VP.agg [VP.bool y0.1, VP.nums .u32 y0.2]), .arr 15 69 2 [VP.bool x0.1, VP.nums .u32 x0.2, VP.bool y0.1, VP.nums .u32 y0.2], .slot 16 (VP.bool true), .slot 17 (VP.bool true), .slot 23 (VP.bool true), .slot 24 (VP.bool true), .slot 30 (VP.bool true), .slot 31 (VP.bool true), .slot 35 (VP.bool true)] [] [(0, .slot 2 (VP.bool true))] [0, 1, 2, 3, 4, 5, 6, 7, 8, 9, 10, 11, 12, 13, 14, 15, 16, 17, 18] [] rfl rfl follow rfl ⟨
      .inl ⟨wants_plain rfl, does_move _ (.inr rfl) rfl rfl rfl rfl (ar_const (fun _ => rfl))⟩,
      trivial⟩ ?_
    refine nx_sub (fs' := [.rows 5 2 (fodd2_A_c x0 y0 x1 y1), .slot 6 (VP.int .i64 ((2 : Nat) : Int)), .slot 7 (VP.int .i64 ((0 : Nat) : Int)), .slot 8 (VP.bool (decide (((0 : Nat) : Int) < ((2 : Nat) : Int)))), .rp 9 5 0, .slot 10 (VP.agg [VP.bool x0.1, VP.nums .u32 x0.2, VP.bool y0.1, VP.nums .u32 y0.2]), .box 4 100 [VP.bool x0.1, VP.nums .u32 x0.2, VP.bool y0.1, VP.nums .u32 y0.2], .fp 11 4 0, .slot 12 (VP.agg [VP.bool x0.1, VP.nums .u32 x0.2]), .fp 13 4 2, .slot 14 (VP.agg [VP.bool y0.1, VP.nums .u32 y0.2]), .arr 15 69 2 [VP.bool x0.1, VP.nums .u32 x0.2, VP.bool y0.1, VP.nums .u32 y0.2], .slot 16 (VP.bool true), .slot 17 (VP.bool true), .slot 23 (VP.bool true), .slot 24 (VP.bool true), .slot 30 (VP.bool true), .slot 31 (VP.bool true), .slot 35 (VP.bool true), .slot 2 (VP.bool true)]) [0, 1, 2, 3, 4, 5, 6, 7, 8, 9, 10, 11, 12, 13, 14, 15, 16, 17, 18, 19] rfl ?_
    refine nx_then ?_
    refine t_ret ?_
    refine rt_block ?_
    refine rt_then ?_
    refine rt_then ?_
    refine rt_block ?_
    refine rt_then ?_
    exact rt_one rfl (res_tmp 19 rfl)
abbrev fodd2_B_c (p0 q0 : Int) (x1 y1 : Raw) : List VP := [Bz p0, Dz p0, Bz q0, Dz q0, VP.bool x1.1, VP.nums .u32 x1.2, VP.bool y1.1, VP.nums .u32 y1.2]
set_option maxRecDepth 100000 in
set_option maxHeartbeats 4000000 in
theorem fodd2_B (p0 q0 : Int) (hp0 : L p0 ≤ 10) (hq0 : L q0 ≤ 10) (hb0 : 5 < L p0) (x1 y1 : Raw) : Spec Try.prog 73 [isRows 2 (fodd2_B_c p0 q0 x1 y1)] (VP.bool true) := by
  refine spec_ofP (xs := [.rows 2 (fodd2_B_c p0 q0 x1 y1)]) 37 [4] Try.func73 rfl Try.ntmps73 rfl fun w0 => ?_
  refine t_seq ?_
  refine t_region (F := ⟨_, _, _, _⟩) [.rows 0 2 (fodd2_B_c p0 q0 x1 y1)] [] [(0, .slot 2 (VP.bool false))] [0] [] rfl rfl follow rfl ⟨
    .inl ⟨wants_plain rfl, does_move _ (.inr rfl) rfl rfl rfl rfl (ar_const (fun _ => rfl))⟩,
    trivial⟩ ?_
  refine nx_sub (fs' := [.rows 0 2 (fodd2_B_c p0 q0 x1 y1), .slot 2 (VP.bool false)]) [0, 1] rfl ?_
  refine nx_then ?_
  refine t_seq ?_
  refine t_seq ?_
  refine t_region (F := ⟨_, _, _, _⟩) [.rows 0 2 (fodd2_B_c p0 q0 x1 y1), .slot 2 (VP.bool false)] [] [(0, .rows 5 2 (fodd2_B_c p0 q0 x1 y1)), (1, .slot 6 (VP.int .i64 ((2 : Nat) : Int))), (2, .slot 7 (VP.int .i64 0))] [0, 1] [] rfl rfl follow rfl ⟨
    .inl ⟨wants_plain rfl, does_moveRows _ (.inl rfl) rfl rfl rfl rfl rfl (av_fs 0 rfl)⟩,
    .inl ⟨wants_plain rfl, does_lenRows _ _ rfl (by kernel_rfl) rfl rfl rfl rfl rfl (av_rs 0 rfl rfl)⟩,
    .inl ⟨wants_plain rfl, does_move _ (.inl rfl) rfl rfl rfl rfl (ar_const (fun _ => rfl))⟩,
    trivial⟩ ?_
  refine nx_sub (fs' := [.slot 2 (VP.bool false), .rows 5 2 (fodd2_B_c p0 q0 x1 y1), .slot 6 (VP.int .i64 ((2 : Nat) : Int)), .slot 7 (VP.int .i64 0)]) [1, 2, 3, 4] rfl ?_
  refine nx_then ?_
  refine t_block ?_
  refine t_loop (σ := {k : Nat // k ≤ 0}) (fun s => [.rows 5 2 (fodd2_B_c p0 q0 x1 y1), .slot 6 (VP.int .i64 ((2 : Nat) : Int)), .slot 7 (VP.int .i64 ((s.1 : Nat) : Int))]) (fun s => 2 - s.1) (⟨0, by decide⟩) [1, 2, 3] rfl ?_
  intro s
  obtain ⟨k, hk⟩ := s
  rcases (show k = 0 ∨ False by omega) with rfl | hF
  case inr => exact hF.elim
  case inl =>
    refine t_seq ?_
    refine t_region (F := ⟨_, _, _, _⟩) [.rows 5 2 (fodd2_B_c p0 q0 x1 y1), .slot 6 (VP.int .i64 ((2 : Nat) : Int)), .slot 7 (VP.int .i64 ((0 : Nat) : Int))] [] [(0, .slot 8 (VP.bool (decide (((0 : Nat) : Int) < ((2 : Nat) : Int)))))] [0, 1, 2] [] rfl rfl follow rfl ⟨
      .inl ⟨wants_plain rfl, does_cmp (m := ((0 : Nat) : Int)) (n := ((2 : Nat) : Int)) _ _ _ _ _ rfl rfl rfl rfl rfl rfl .i64 (ar_tmp (av_fs 2 rfl)) (ar_tmp (av_fs 1 rfl))⟩,
      trivial⟩ ?_
    refine nx_sub (fs' := [.rows 5 2 (fodd2_B_c p0 q0 x1 y1), .slot 6 (VP.int .i64 ((2 : Nat) : Int)), .slot 7 (VP.int .i64 ((0 : Nat) : Int)), .slot 8 (VP.bool (decide (((0 : Nat) : Int) < ((2 : Nat) : Int))))]) [0, 1, 2, 3] rfl ?_
    refine nx_then ?_
    refine t_seq ?_
    refine t_cond_te 3 rfl rfl ?_
    refine t_skip ?_
    refine nx_then ?_
    refine t_seq ?_
    refine t_block ?_
    refine t_seq ?_
    refine t_region (F := ⟨_, _, _, _⟩) [.rows 5 2 (fodd2_B_c p0 q0 x1 y1), .slot 6 (VP.int .i64 ((2 : Nat) : Int)), .slot 7 (VP.int .i64 ((0 : Nat) : Int)), .slot 8 (VP.bool (decide (((0 : Nat) : Int) < ((2 : Nat) : Int))))] [] [(0, .rp 9 5 0), (1, .slot 10 (VP.agg [Bz p0, Dz p0, Bz q0, Dz q0])), (2, .own 4 100 4), (3, .box 4 100 [Bz p0, Dz p0, Bz q0, Dz q0])] [0, 1, 2, 3] [] rfl rfl follow rfl ⟨
      .inl ⟨wants_plain rfl, does_indexRows (m := 0) (sz := 4) _ _ rfl Try.underlying178 (fun w => run_sizeAgg ty_agg_api_Frac w) rfl rfl rfl rfl rfl rfl (by decide) rfl (av_fs 0 rfl) (ar_tmp (av_fs 2 rfl))⟩,
      .inl ⟨wants_plain rfl, does_loadRows _ rfl ty_agg_api_Frac rfl rfl rfl rfl rfl rfl rfl (av_rs 0 rfl rfl) (av_fs 0 rfl)⟩,
      .inl ⟨wants_plain rfl, does_allocOwn [Bz 0, Dz 0, Bz 0, Dz 0] ty_zero_api_Frac rfl rfl rfl rfl rfl z_frac rfl⟩,
      .inl ⟨wants_plain rfl, does_storeNew 4 _ _ ty_agg_api_Frac rfl rfl rfl rfl rfl (pt_own (av_rs 2 rfl rfl)) (av_rs 2 rfl rfl) (ar_tmp (av_rs 1 rfl rfl))⟩,
      trivial⟩ ?_
    refine nx_sub (fs' := [.rows 5 2 (fodd2_B_c p0 q0 x1 y1), .slot 6 (VP.int .i64 ((2 : Nat) : Int)), .slot 7 (VP.int .i64 ((0 : Nat) : Int)), .slot 8 (VP.bool (decide (((0 : Nat) : Int) < ((2 : Nat) : Int)))), .rp 9 5 0, .slot 10 (VP.agg [Bz p0, Dz p0, Bz q0, Dz q0]), .box 4 100 [Bz p0, Dz p0, Bz q0, Dz q0]]) [0, 1, 2, 3, 4, 5, 7] rfl ?_
    refine nx_then ?_
    refine t_seq ?_
    refine t_region (F := ⟨_, _, _, _⟩) [.rows 5 2 (fodd2_B_c p0 q0 x1 y1), .slot 6 (VP.int .i64 ((2 : Nat) : Int)), .slot 7 (VP.int .i64 ((0 : Nat) : Int)), .slot 8 (VP.bool (decide (((0 : Nat) : Int) < ((2 : Nat) : Int)))), .rp 9 5 0, .slot 10 (VP.agg [Bz p0, Dz p0, Bz q0, Dz q0]), .box 4 100 [Bz p0, Dz p0, Bz q0, Dz q0]] [] [(0, .fp 11 4 0), (1, .slot 12 (INT p0)), (2, .fp 13 4 2), (3, .slot 14 (INT q0)), (4, .arr 15 69 2 [Bz p0, Dz p0, Bz q0, Dz q0]), (5, .slot 16 (VP.bool false)), (6, .slot 17 (VP.bool false)), (7, .fp 18 4 0), (8, .fp 19 4 1), (9, .slot 20 (Dz p0)), (10, .slot 21 (VP.int .i64 (((dg BB p0.natAbs).length : Nat) : Int))), (11, .slot 22 (VP.bool (decide ((((dg BB p0.natAbs).length : Nat) : Int) > 5)))), (12, .slot 23 (VP.bool (decide ((((dg BB p0.natAbs).length : Nat) : Int) > 5)))), (13, .slot 24 (VP.bool (decide ((((dg BB p0.natAbs).length : Nat) : Int) > 5)))), (19, .slot 30 (VP.bool true)), (20, .slot 31 (VP.bool true)), (24, .slot 35 (VP.bool true))] [0, 1, 2, 3, 4, 5, 6] [] rfl rfl follow rfl ⟨
      .inl ⟨wants_plain rfl, does_field _ _ _ 0 ty_f0_api_Frac rfl rfl rfl rfl rfl rfl rfl (pt_box (av_fs 6 rfl))⟩,
      .inl ⟨wants_plain rfl, does_loadAgg _ ty_agg_api_Int rfl rfl rfl rfl rfl rfl (pt_fp (av_rs 0 rfl rfl)) (av_fs 6 rfl)⟩,
      .inl ⟨wants_plain rfl, does_field _ _ _ 2 ty_f1_api_Frac rfl rfl rfl rfl rfl rfl rfl (pt_box (av_fs 6 rfl))⟩,
      .inl ⟨wants_plain rfl, does_loadAgg _ ty_agg_api_Int rfl rfl rfl rfl rfl rfl (pt_fp (av_rs 2 rfl rfl)) (av_fs 6 rfl)⟩,
      .inl ⟨wants_plain rfl, does_buildSlice (sz := 2) [Bz 0, Dz 0, Bz 0, Dz 0] ty_zero_api_Int (by kernel_rfl) (fun w => run_sizeAgg ty_agg_api_Int w) rfl rfl rfl rfl rfl rfl (by kernel_rfl) (fun w => by exact z_int_2 w) (.cons 0 [Bz p0, Dz p0] rfl rfl (ar_cells_agg (ar_tmp (av_rs 1 rfl rfl))) (.cons 2 [Bz q0, Dz q0] rfl rfl (ar_cells_agg (ar_tmp (av_rs 3 rfl rfl))) (.nil _)))⟩,
      .inl ⟨wants_plain rfl, does_call (s_even2 p0 q0 hp0 hq0) rfl hb_collator_collatorlaw01_Odd rfl rfl rfl rfl ⟨(ar_arr (av_rs 4 rfl rfl)), trivial⟩⟩,
      .inl ⟨wants_plain rfl, does_move _ (.inl rfl) rfl rfl rfl rfl (ar_tmp (av_rs 5 rfl rfl))⟩,
      .inl ⟨wants_guard false rfl rfl rfl (av_rs 6 rfl rfl), does_field _ _ _ 0 ty_f0_api_Frac rfl rfl rfl rfl rfl rfl rfl (pt_box (av_fs 6 rfl))⟩,
      .inl ⟨wants_guard false rfl rfl rfl (av_rs 6 rfl rfl), does_field _ _ _ 1 ty_f1_api_Int rfl rfl rfl rfl rfl rfl rfl (pt_fp (av_rs 7 rfl rfl))⟩,
      .inl ⟨wants_guard false rfl rfl rfl (av_rs 6 rfl rfl), does_loadOne _ ty_one___uint32 rfl rfl rfl rfl rfl rfl (pt_fp (av_rs 8 rfl rfl)) (av_fs 6 rfl)⟩,
      .inl ⟨wants_guard false rfl rfl rfl (av_rs 6 rfl rfl), does_len _ _ (by kernel_rfl) rfl rfl rfl rfl rfl (ar_tmp (av_rs 9 rfl rfl))⟩,
      .inl ⟨wants_guard false rfl rfl rfl (av_rs 6 rfl rfl), does_cmp (m := (((dg BB p0.natAbs).length : Nat) : Int)) (n := 5) _ _ _ _ _ rfl rfl rfl rfl rfl rfl .i64 (ar_tmp (av_rs 10 rfl rfl)) (ar_const (fun _ => rfl))⟩,
      .inl ⟨wants_plain rfl, does_pick false _ _ _ rfl rfl rfl rfl rfl (ar_tmp (av_rs 6 rfl rfl)) (ar_tmp (av_rs 11 rfl rfl))⟩,
      .inl ⟨wants_plain rfl, does_move _ (.inl rfl) rfl rfl rfl rfl (ar_tmp (av_rs 12 rfl rfl))⟩,
      .inr (skips_guard true rfl rfl rfl (av_bool (gt5_yes hb0) (av_rs 13 rfl rfl)) rfl rfl rfl rfl),
      .inr (skips_guard true rfl rfl rfl (av_bool (gt5_yes hb0) (av_rs 13 rfl rfl)) rfl rfl rfl rfl),
      .inr (skips_guard true rfl rfl rfl (av_bool (gt5_yes hb0) (av_rs 13 rfl rfl)) rfl rfl rfl rfl),
      .inr (skips_guard true rfl rfl rfl (av_bool (gt5_yes hb0) (av_rs 13 rfl rfl)) rfl rfl rfl rfl),
      .inr (skips_guard true rfl rfl rfl (av_bool (gt5_yes hb0) (av_rs 13 rfl rfl)) rfl rfl rfl rfl),
      .inl ⟨wants_plain rfl, does_pick true _ _ _ rfl rfl rfl rfl rfl (ar_tmp (av_bool (gt5_yes hb0) (av_rs 13 rfl rfl))) (ar_const (fun _ => rfl))⟩,
      .inl ⟨wants_plain rfl, does_move _ (.inl rfl) rfl rfl rfl rfl (ar_tmp (av_rs 14 rfl rfl))⟩,
      .inr (skips_guard true rfl rfl rfl (av_rs 15 rfl rfl) rfl rfl rfl rfl),
      .inr (skips_guard true rfl rfl rfl (av_rs 15 rfl rfl) rfl rfl rfl rfl),
      .inr (skips_guard true rfl rfl rfl (av_rs 15 rfl rfl) rfl rfl rfl rfl),
      .inl ⟨wants_plain rfl, does_pick true _ _ _ rfl rfl rfl rfl rfl (ar_tmp (av_rs 15 rfl rfl)) (ar_const (fun _ => rfl))⟩,
      trivial⟩ ?_
    refine nx_sub (fs' := [.rows 5 2 (fodd2_B_c p0 q0 x1 y1), .slot 6 (VP.int .i64 ((2 : Nat) : Int)), .slot 7 (VP.int .i64 ((0 : Nat) : Int)), .slot 8 (VP.bool (decide (((0 : Nat) : Int) < ((2 : Nat) : Int)))), .rp 9 5 0, .slot 10 (VP.agg [Bz p0, Dz p0, Bz q0, Dz q0]), .box 4 100 [Bz p0, Dz p0, Bz q0, Dz q0], .fp 11 4 0, .slot 12 (INT p0), .fp 13 4 2, .slot 14 (INT q0), .arr 15 69 2 [Bz p0, Dz p0, Bz q0, Dz q0], .slot 16 (VP.bool false), .slot 17 (VP.bool false), .fp 18 4 0, .fp 19 4 1, .slot 20 (Dz p0), .slot 21 (VP.int .i64 (((dg BB p0.natAbs).length : Nat) : Int)), .slot 22 (VP.bool (decide ((((dg BB p0.natAbs).length : Nat) : Int) > 5))), .slot 23 (VP.bool (decide ((((dg BB p0.natAbs).length : Nat) : Int) > 5))), .slot 24 (VP.bool (decide ((((dg BB p0.natAbs).length : Nat) : Int) > 5))), .slot 30 (VP.bool true), .slot 31 (VP.bool true), .slot 35 (VP.bool true)]) [0, 1, 2, 3, 4, 5, 6, 7, 8, 9, 10, 11, 12, 13, 14, 15, 16, 17, 18, 19, 20, 21, 22, 23] rfl ?_
    refine nx_then ?_
    refine t_cond_t 23 rfl ?_
    refine t_seq ?_
    refine t_region (F := ⟨_, _, _, _⟩) [.rows 5 2 (fodd2_B_c p0 q0 x1 y1), .slot 6 (VP.int .i64 ((2 : Nat) : Int)), .slot 7 (VP.int .i64 ((0 : Nat) : Int)), .slot 8 (VP.bool (decide (((0 : Nat) : Int) < ((2 : Nat) : Int)))), .rp 9 5 0, .slot 10 (VP.agg [Bz p0, Dz p0, Bz q0, Dz q0]), .box 4 100 [Bz p0, Dz p0, Bz q0, Dz q0], .fp 11 4 0, .slot 12 (INT p0), .fp 13 4 2, .slot 14 (INT q0), .arr 15 69 2 [Bz p0, Dz p0, Bz q0, Dz q0], .slot 16 (VP.bool false), .slot 17 (VP.bool false), .fp 18 4 0, .fp 19 4 1, .slot 20 (Dz p0), .slot 21 (VP.int .i64 (((dg BB p0.natAbs).length : Nat) : Int)), .slot 22 (VP.bool (decide ((((dg BB p0.natAbs).length : Nat) : Int) > 5))), .slot 23 (VP.bool (decide ((((dg BB p0.natAbs).length : Nat) : Int) > 5))), .slot 24 (VP.bool (decide ((((dg BB p0.natAbs).length : Nat) : Int) > 5))), .slot 30 (VP.bool true), .slot 31 (VP.bool true), .slot 35 (VP.bool true)] [] [(0, .slot 2 (VP.bool true))] [0, 1, 2, 3, 4, 5, 6, 7, 8, 9, 10, 11, 12, 13, 14, 15, 16, 17, 18, 19, 20, 21, 22, 23] [] rfl rfl follow rfl ⟨
      .inl ⟨wants_plain rfl, does_move _ (.inr rfl) rfl rfl rfl rfl (ar_const (fun _ => rfl))⟩,
      trivial⟩ ?_
    refine nx_sub (fs' := [.rows 5 2 (fodd2_B_c p0 q0 x1 y1), .slot 6 (VP.int .i64 ((2 : Nat) : Int)), .slot 7 (VP.int .i64 ((0 : Nat) : Int)), .slot 8 (VP.bool (decide (((0 : Nat) : Int) < ((2 : Nat) : Int)))), .rp 9 5 0, .slot 10 (VP.agg [Bz p0, Dz p0, Bz q0, Dz q0]), .box 4 100 [Bz p0, Dz p0, Bz q0, Dz q0], .fp 11 4 0, .slot 12 (INT p0), .fp 13 4 2, .slot 14 (INT q0), .arr 15 69 2 [Bz p0, Dz p0, Bz q0, Dz q0], .slot 16 (VP.bool false), .slot 17 (VP.bool false), .fp 18 4 0, .fp 19 4 1, .slot 20 (Dz p0), .slot 21 (VP.int .i64 (((dg BB p0.natAbs).length : Nat) : Int)), .slot 22 (VP.bool (decide ((((dg BB p0.natAbs).length : Nat) : Int) > 5))), .slot 23 (VP.bool (decide ((((dg BB p0.natAbs).length : Nat) : Int) > 5))), .slot 24 (VP.bool (decide ((((dg BB p0.natAbs).length : Nat) : Int) > 5))), .slot 30 (VP.bool true), .slot 31 (VP.bool true), .slot 35 (VP.bool true), .slot 2 (VP.bool true)]) [0, 1, 2, 3, 4, 5, 6, 7, 8, 9, 10, 11, 12, 13, 14, 15, 16, 17, 18, 19, 20, 21, 22, 23, 24] rfl ?_
    refine nx_then ?_
    refine t_ret ?_
    refine rt_block ?_
    refine rt_then ?_
    refine rt_then ?_
    refine rt_block ?_
    refine rt_then ?_
    exact rt_one rfl (res_tmp 24 rfl)
abbrev fodd2_C_c (p0 q0 : Int) (x1 y1 : Raw) : List VP := [Bz p0, Dz p0, Bz q0, Dz q0, VP.bool x1.1, VP.nums .u32 x1.2, VP.bool y1.1, VP.nums .u32 y1.2]
set_option maxRecDepth 100000 in
set_option maxHeartbeats 4000000 in
theorem fodd2_C (p0 q0 : Int) (hp0 : L p0 ≤ 5) (hq0 : L q0 ≤ 10) (hb0 : 5 < L q0) (x1 y1 : Raw) : Spec Try.prog 73 [isRows 2 (fodd2_C_c p0 q0 x1 y1)] (VP.bool true) := by
  refine spec_ofP (xs := [.rows 2 (fodd2_C_c p0 q0 x1 y1)]) 37 [4] Try.func73 rfl Try.ntmps73 rfl fun w0 => ?_
  refine t_seq ?_
  refine t_region (F := ⟨_, _, _, _⟩) [.rows 0 2 (fodd2_C_c p0 q0 x1 y1)] [] [(0, .slot 2 (VP.bool false))] [0] [] rfl rfl follow rfl ⟨
    .inl ⟨wants_plain rfl, does_move _ (.inr rfl) rfl rfl rfl rfl (ar_const (fun _ => rfl))⟩,
    trivial⟩ ?_
  refine nx_sub (fs' := [.rows 0 2 (fodd2_C_c p0 q0 x1 y1), .slot 2 (VP.bool false)]) [0, 1] rfl ?_
  refine nx_then ?_
  refine t_seq ?_
  refine t_seq ?_
  refine t_region (F := ⟨_, _, _, _⟩) [.rows 0 2 (fodd2_C_c p0 q0 x1 y1), .slot 2 (VP.bool false)] [] [(0, .rows 5 2 (fodd2_C_c p0 q0 x1 y1)), (1, .slot 6 (VP.int .i64 ((2 : Nat) : Int))), (2, .slot 7 (VP.int .i64 0))] [0, 1] [] rfl rfl follow rfl ⟨
    .inl ⟨wants_plain rfl, does_moveRows _ (.inl rfl) rfl rfl rfl rfl rfl (av_fs 0 rfl)⟩,
    .inl ⟨wants_plain rfl, does_lenRows _ _ rfl (by kernel_rfl) rfl rfl rfl rfl rfl (av_rs 0 rfl rfl)⟩,
    .inl ⟨wants_plain rfl, does_move _ (.inl rfl) rfl rfl rfl rfl (ar_const (fun _ => rfl))⟩,
    trivial⟩ ?_
  refine nx_sub (fs' := [.slot 2 (VP.bool false), .rows 5 2 (fodd2_C_c p0 q0 x1 y1), .slot 6 (VP.int .i64 ((2 : Nat) : Int)), .slot 7 (VP.int .i64 0)]) [1, 2, 3, 4] rfl ?_
  refine nx_then ?_
  refine t_block ?_
  refine t_loop (σ := {k : Nat // k ≤ 0}) (fun s => [.rows 5 2 (fodd2_C_c p0 q0 x1 y1), .slot 6 (VP.int .i64 ((2 : Nat) : Int)), .slot 7 (VP.int .i64 ((s.1 : Nat) : Int))]) (fun s => 2 - s.1) (⟨0, by decide⟩) [1, 2, 3] rfl ?_
  intro s
  obtain ⟨k, hk⟩ := s
  rcases (show k = 0 ∨ False by omega) with rfl | hF
  case inr => exact hF.elim
  case inl =>
    refine t_seq ?_
    refine t_region (F := ⟨_, _, _, _⟩) [.rows 5 2 (fodd2_C_c p0 q0 x1 y1), .slot 6 (VP.int .i64 ((2 : Nat) : Int)), .slot 7 (VP.int .i64 ((0 : Nat) : Int))] [] [(0, .slot 8 (VP.bool (decide (((0 : Nat) : Int) < ((2 : Nat) : Int)))))] [0, 1, 2] [] rfl rfl follow rfl ⟨
      .inl ⟨wants_plain rfl, does_cmp (m := ((0 : Nat) : Int)) (n := ((2 : Nat) : Int)) _ _ _ _ _ rfl rfl rfl rfl rfl rfl .i64 (ar_tmp (av_fs 2 rfl)) (ar_tmp (av_fs 1 rfl))⟩,
      trivial⟩ ?_
    refine nx_sub (fs' := [.rows 5 2 (fodd2_C_c p0 q0 x1 y1), .slot 6 (VP.int .i64 ((2 : Nat) : Int)), .slot 7 (VP.int .i64 ((0 : Nat) : Int)), .slot 8 (VP.bool (decide (((0 : Nat) : Int) < ((2 : Nat) : Int))))]) [0, 1, 2, 3] rfl ?_
    refine nx_then ?_
    refine t_seq ?_
    refine t_cond_te 3 rfl rfl ?_
    refine t_skip ?_
    refine nx_then ?_
    refine t_seq ?_
    refine t_block ?_
    refine t_seq ?_
    refine t_region (F := ⟨_, _, _, _⟩) [.rows 5 2 (fodd2_C_c p0 q0 x1 y1), .slot 6 (VP.int .i64 ((2 : Nat) : Int)), .slot 7 (VP.int .i64 ((0 : Nat) : Int)), .slot 8 (VP.bool (decide (((0 : Nat) : Int) < ((2 : Nat) : Int))))] [] [(0, .rp 9 5 0), (1, .slot 10 (VP.agg [Bz p0, Dz p0, Bz q0, Dz q0])), (2, .own 4 100 4), (3, .box 4 100 [Bz p0, Dz p0, Bz q0, Dz q0])] [0, 1, 2, 3] [] rfl rfl follow rfl ⟨
      .inl ⟨wants_plain rfl, does_indexRows (m := 0) (sz := 4) _ _ rfl Try.underlying178 (fun w => run_sizeAgg ty_agg_api_Frac w) rfl rfl rfl rfl rfl rfl (by decide) rfl (av_fs 0 rfl) (ar_tmp (av_fs 2 rfl))⟩,
      .inl ⟨wants_plain rfl, does_loadRows _ rfl ty_agg_api_Frac rfl rfl rfl rfl rfl rfl rfl (av_rs 0 rfl rfl) (av_fs 0 rfl)⟩,
      .inl ⟨wants_plain rfl, does_allocOwn [Bz 0, Dz 0, Bz 0, Dz 0] ty_zero_api_Frac rfl rfl rfl rfl rfl z_frac rfl⟩,
      .inl ⟨wants_plain rfl, does_storeNew 4 _ _ ty_agg_api_Frac rfl rfl rfl rfl rfl (pt_own (av_rs 2 rfl rfl)) (av_rs 2 rfl rfl) (ar_tmp (av_rs 1 rfl rfl))⟩,
      trivial⟩ ?_
    refine nx_sub (fs' := [.rows 5 2 (fodd2_C_c p0 q0 x1 y1), .slot 6 (VP.int .i64 ((2 : Nat) : Int)), .slot 7 (VP.int .i64 ((0 : Nat) : Int)), .slot 8 (VP.bool (decide (((0 : Nat) : Int) < ((2 : Nat) : Int)))), .rp 9 5 0, .slot 10 (VP.agg [Bz p0, Dz p0, Bz q0, Dz q0]), .box 4 100 [Bz p0, Dz p0, Bz q0, Dz q0]]) [0, 1, 2, 3, 4, 5, 7] rfl ?_
    refine nx_then ?_
    refine t_seq ?_
    refine t_region (F := ⟨_, _, _, _⟩) [.rows 5 2 (fodd2_C_c p0 q0 x1 y1), .slot 6 (VP.int .i64 ((2 : Nat) : Int)), .slot 7 (VP.int .i64 ((0 : Nat) : Int)), .slot 8 (VP.bool (decide (((0 : Nat) : Int) < ((2 : Nat) : Int)))), .rp 9 5 0, .slot 10 (VP.agg [Bz p0, Dz p0, Bz q0, Dz q0]), .box 4 100 [Bz p0, Dz p0, Bz q0, Dz q0]] [] [(0, .fp 11 4 0), (1, .slot 12 (INT p0)), (2, .fp 13 4 2), (3, .slot 14 (INT q0)), (4, .arr 15 69 2 [Bz p0, Dz p0, Bz q0, Dz q0]), (5, .slot 16 (VP.bool false)), (6, .slot 17 (VP.bool false)), (7, .fp 18 4 0), (8, .fp 19 4 1), (9, .slot 20 (Dz p0)), (10, .slot 21 (VP.int .i64 (((dg BB p0.natAbs).length : Nat) : Int))), (11, .slot 22 (VP.bool (decide ((((dg BB p0.natAbs).length : Nat) : Int) > 5)))), (12, .slot 23 (VP.bool (decide ((((dg BB p0.natAbs).length : Nat) : Int) > 5)))), (13, .slot 24 (VP.bool (decide ((((dg BB p0.natAbs).length : Nat) : Int) > 5)))), (14, .fp 25 4 2), (15, .fp 26 4 3), (16, .slot 27 (Dz q0)), (17, .slot 28 (VP.int .i64 (((dg BB q0.natAbs).length : Nat) : Int))), (18, .slot 29 (VP.bool (decide ((((dg BB q0.natAbs).length : Nat) : Int) > 5)))), (19, .slot 30 (VP.bool (decide ((((dg BB q0.natAbs).length : Nat) : Int) > 5)))), (20, .slot 31 (VP.bool (decide ((((dg BB q0.natAbs).length : Nat) : Int) > 5)))), (24, .slot 35 (VP.bool true))] [0, 1, 2, 3, 4, 5, 6] [] rfl rfl follow rfl ⟨
      .inl ⟨wants_plain rfl, does_field _ _ _ 0 ty_f0_api_Frac rfl rfl rfl rfl rfl rfl rfl (pt_box (av_fs 6 rfl))⟩,
      .inl ⟨wants_plain rfl, does_loadAgg _ ty_agg_api_Int rfl rfl rfl rfl rfl rfl (pt_fp (av_rs 0 rfl rfl)) (av_fs 6 rfl)⟩,
      .inl ⟨wants_plain rfl, does_field _ _ _ 2 ty_f1_api_Frac rfl rfl rfl rfl rfl rfl rfl (pt_box (av_fs 6 rfl))⟩,
      .inl ⟨wants_plain rfl, does_loadAgg _ ty_agg_api_Int rfl rfl rfl rfl rfl rfl (pt_fp (av_rs 2 rfl rfl)) (av_fs 6 rfl)⟩,
      .inl ⟨wants_plain rfl, does_buildSlice (sz := 2) [Bz 0, Dz 0, Bz 0, Dz 0] ty_zero_api_Int (by kernel_rfl) (fun w => run_sizeAgg ty_agg_api_Int w) rfl rfl rfl rfl rfl rfl (by kernel_rfl) (fun w => by exact z_int_2 w) (.cons 0 [Bz p0, Dz p0] rfl rfl (ar_cells_agg (ar_tmp (av_rs 1 rfl rfl))) (.cons 2 [Bz q0, Dz q0] rfl rfl (ar_cells_agg (ar_tmp (av_rs 3 rfl rfl))) (.nil _)))⟩,
      .inl ⟨wants_plain rfl, does_call (s_even2 p0 q0 (lle hp0 (by decide)) hq0) rfl hb_collator_collatorlaw01_Odd rfl rfl rfl rfl ⟨(ar_arr (av_rs 4 rfl rfl)), trivial⟩⟩,
      .inl ⟨wants_plain rfl, does_move _ (.inl rfl) rfl rfl rfl rfl (ar_tmp (av_rs 5 rfl rfl))⟩,
      .inl ⟨wants_guard false rfl rfl rfl (av_rs 6 rfl rfl), does_field _ _ _ 0 ty_f0_api_Frac rfl rfl rfl rfl rfl rfl rfl (pt_box (av_fs 6 rfl))⟩,
      .inl ⟨wants_guard false rfl rfl rfl (av_rs 6 rfl rfl), does_field _ _ _ 1 ty_f1_api_Int rfl rfl rfl rfl rfl rfl rfl (pt_fp (av_rs 7 rfl rfl))⟩,
      .inl ⟨wants_guard false rfl rfl rfl (av_rs 6 rfl rfl), does_loadOne _ ty_one___uint32 rfl rfl rfl rfl rfl rfl (pt_fp (av_rs 8 rfl rfl)) (av_fs 6 rfl)⟩,
      .inl ⟨wants_guard false rfl rfl rfl (av_rs 6 rfl rfl), does_len _ _ (by kernel_rfl) rfl rfl rfl rfl rfl (ar_tmp (av_rs 9 rfl rfl))⟩,
      .inl ⟨wants_guard false rfl rfl rfl (av_rs 6 rfl rfl), does_cmp (m := (((dg BB p0.natAbs).length : Nat) : Int)) (n := 5) _ _ _ _ _ rfl rfl rfl rfl rfl rfl .i64 (ar_tmp (av_rs 10 rfl rfl)) (ar_const (fun _ => rfl))⟩,
      .inl ⟨wants_plain rfl, does_pick false _ _ _ rfl rfl rfl rfl rfl (ar_tmp (av_rs 6 rfl rfl)) (ar_tmp (av_rs 11 rfl rfl))⟩,
      .inl ⟨wants_plain rfl, does_move _ (.inl rfl) rfl rfl rfl rfl (ar_tmp (av_rs 12 rfl rfl))⟩,
      .inl ⟨wants_guard false rfl rfl rfl (av_bool (gt5_no hp0) (av_rs 13 rfl rfl)), does_field _ _ _ 2 ty_f1_api_Frac rfl rfl rfl rfl rfl rfl rfl (pt_box (av_fs 6 rfl))⟩,
      .inl ⟨wants_guard false rfl rfl rfl (av_bool (gt5_no hp0) (av_rs 13 rfl rfl)), does_field _ _ _ 1 ty_f1_api_Int rfl rfl rfl rfl rfl rfl rfl (pt_fp (av_rs 14 rfl rfl))⟩,
      .inl ⟨wants_guard false rfl rfl rfl (av_bool (gt5_no hp0) (av_rs 13 rfl rfl)), does_loadOne _ ty_one___uint32 rfl rfl rfl rfl rfl rfl (pt_fp (av_rs 15 rfl rfl)) (av_fs 6 rfl)⟩,
      .inl ⟨wants_guard false rfl rfl rfl (av_bool (gt5_no hp0) (av_rs 13 rfl rfl)), does_len _ _ (by kernel_rfl) rfl rfl rfl rfl rfl (ar_tmp (av_rs 16 rfl rfl))⟩,
      .inl ⟨wants_guard false rfl rfl rfl (av_bool (gt5_no hp0) (av_rs 13 rfl rfl)), does_cmp (m := (((dg BB q0.natAbs).length : Nat) : Int)) (n := 5) _ _ _ _ _ rfl rfl rfl rfl rfl rfl .i64 (ar_tmp (av_rs 17 rfl rfl)) (ar_const (fun _ => rfl))⟩,
      .inl ⟨wants_plain rfl, does_pick false _ _ _ rfl rfl rfl rfl rfl (ar_tmp (av_bool (gt5_no hp0) (av_rs 13 rfl rfl))) (ar_tmp (av_rs 18 rfl rfl))⟩,
      .inl ⟨wants_plain rfl, does_move _ (.inl rfl) rfl rfl rfl rfl (ar_tmp (av_rs 19 rfl rfl))⟩,
      .inr (skips_guard true rfl rfl rfl (av_bool (gt5_yes hb0) (av_rs 20 rfl rfl)) rfl rfl rfl rfl),
      .inr (skips_guard true rfl rfl rfl (av_bool (gt5_yes hb0) (av_rs 20 rfl rfl)) rfl rfl rfl rfl),
      .inr (skips_guard true rfl rfl rfl (av_bool (gt5_yes hb0) (av_rs 20 rfl rfl)) rfl rfl rfl rfl),
      .inl ⟨wants_plain rfl, does_pick true _ _ _ rfl rfl rfl rfl rfl (ar_tmp (av_bool (gt5_yes hb0) (av_rs 20 rfl rfl))) (ar_const (fun _ => rfl))⟩,
      trivial⟩ ?_
    refine nx_sub (fs' := [.rows 5 2 (fodd2_C_c p0 q0 x1 y1), .slot 6 (VP.int .i64 ((2 : Nat) : Int)), .slot 7 (VP.int .i64 ((0 : Nat) : Int)), .slot 8 (VP.bool (decide (((0 : Nat) : Int) < ((2 : Nat) : Int)))), .rp 9 5 0, .slot 10 (VP.agg [Bz p0, Dz p0, Bz q0, Dz q0]), .box 4 100 [Bz p0, Dz p0, Bz q0, Dz q0], .fp 11 4 0, .slot 12 (INT p0), .fp 13 4 2, .slot 14 (INT q0), .arr 15 69 2 [Bz p0, Dz p0, Bz q0, Dz q0], .slot 16 (VP.bool false), .slot 17 (VP.bool false), .fp 18 4 0, .fp 19 4 1, .slot 20 (Dz p0), .slot 21 (VP.int .i64 (((dg BB p0.natAbs).length : Nat) : Int)), .slot 22 (VP.bool (decide ((((dg BB p0.natAbs).length : Nat) : Int) > 5))), .slot 23 (VP.bool (decide ((((dg BB p0.natAbs).length : Nat) : Int) > 5))), .slot 24 (VP.bool (decide ((((dg BB p0.natAbs).length : Nat) : Int) > 5))), .fp 25 4 2, .fp 26 4 3, .slot 27 (Dz q0), .slot 28 (VP.int .i64 (((dg BB q0.natAbs).length : Nat) : Int)), .slot 29 (VP.bool (decide ((((dg BB q0.natAbs).length : Nat) : Int) > 5))), .slot 30 (VP.bool (decide ((((dg BB q0.natAbs).length : Nat) : Int) > 5))), .slot 31 (VP.bool (decide ((((dg BB q0.natAbs).length : Nat) : Int) > 5))), .slot 35 (VP.bool true)]) [0, 1, 2, 3, 4, 5, 6, 7, 8, 9, 10, 11, 12, 13, 14, 15, 16, 17, 18, 19, 20, 21, 22, 23, 24, 25, 26, 27, 28] rfl ?_
    refine nx_then ?_
    refine t_cond_t 28 rfl ?_
    refine t_seq ?_
    refine t_region (F := ⟨_, _, _, _⟩) [.rows 5 2 (fodd2_C_c p0 q0 x1 y1), .slot 6 (VP.int .i64 ((2 : Nat) : Int)), .slot 7 (VP.int .i64 ((0 : Nat) : Int)), .slot 8 (VP.bool (decide (((0 : Nat) : Int) < ((2 : Nat) : Int)))), .rp 9 5 0, .slot 10 (VP.agg [Bz p0, Dz p0, Bz q0, Dz q0]), .box 4 100 [Bz p0, Dz p0, Bz q0, Dz q0], .fp 11 4 0, .slot 12 (INT p0), .fp 13 4 2, .slot 14 (INT q0), .arr 15 69 2 [Bz p0, Dz p0, Bz q0, Dz q0], .slot 16 (VP.bool false), .slot 17 (VP.bool false), .fp 18 4 0, .fp 19 4 1, .slot 20 (Dz p0), .slot 21 (VP.int .i64 (((dg BB p0.natAbs).length : Nat) : Int)), .slot 22 (VP.bool (decide ((((dg BB p0.natAbs).length : Nat) : Int) > 5))), .slot 23 (VP.bool (decide ((((dg BB p0.natAbs).length : Nat) : Int) > 5))), .slot 24 (VP.bool (decide ((((dg BB p0.natAbs).length : Nat) : Int) > 5))), .fp 25 4 2, .fp 26 4 3, .slot 27 (Dz q0), .slot 28 (VP.int .i64 (((dg BB q0.natAbs).length : Nat) : Int)), .slot 29 (VP.bool (decide ((((dg BB q0.natAbs).length : Nat) : Int) > 5))), .slot 30 (VP.bool (decide ((((dg BB q0.natAbs).length : Nat) : Int) > 5))), .slot 31 (VP.bool (decide ((((dg BB q0.natAbs).length : Nat) : Int) > 5))), .slot 35 (VP.bool true)] [] [(0, .slot 2 (VP.bool true))] [0, 1, 2, 3, 4, 5, 6, 7, 8, 9, 10, 11, 12, 13, 14, 15, 16, 17, 18, 19, 20, 21, 22, 23, 24, 25, 26, 27, 28] [] rfl rfl follow rfl ⟨
      .inl ⟨wants_plain rfl, does_move _ (.inr rfl) rfl rfl rfl rfl (ar_const (fun _ => rfl))⟩,
      trivial⟩ ?_
    refine nx_sub (fs' := [.rows 5 2 (fodd2_C_c p0 q0 x1 y1), .slot 6 (VP.int .i64 ((2 : Nat) : Int)), .slot 7 (VP.int .i64 ((0 : Nat) : Int)), .slot 8 (VP.bool (decide (((0 : Nat) : Int) < ((2 : Nat) : Int)))), .rp 9 5 0, .slot 10 (VP.agg [Bz p0, Dz p0, Bz q0, Dz q0]), .box 4 100 [Bz p0, Dz p0, Bz q0, Dz q0], .fp 11 4 0, .slot 12 (INT p0), .fp 13 4 2, .slot 14 (INT q0), .arr 15 69 2 [Bz p0, Dz p0, Bz q0, Dz q0], .slot 16 (VP.bool false), .slot 17 (VP.bool false), .fp 18 4 0, .fp 19 4 1, .slot 20 (Dz p0), .slot 21 (VP.int .i64 (((dg BB p0.natAbs).length : Nat) : Int)), .slot 22 (VP.bool (decide ((((dg BB p0.natAbs).length : Nat) : Int) > 5))), .slot 23 (VP.bool (decide ((((dg BB p0.natAbs).length : Nat) : Int) > 5))), .slot 24 (VP.bool (decide ((((dg BB p0.natAbs).length : Nat) : Int) > 5))), .fp 25 4 2, .fp 26 4 3, .slot 27 (Dz q0), .slot 28 (VP.int .i64 (((dg BB q0.natAbs).length : Nat) : Int)), .slot 29 (VP.bool (decide ((((dg BB q0.natAbs).length : Nat) : Int) > 5))), .slot 30 (VP.bool (decide ((((dg BB q0.natAbs).length : Nat) : Int) > 5))), .slot 31 (VP.bool (decide ((((dg BB q0.natAbs).length : Nat) : Int) > 5))), .slot 35 (VP.bool true), .slot 2 (VP.bool true)]) [0, 1, 2, 3, 4, 5, 6, 7, 8, 9, 10, 11, 12, 13, 14, 15, 16, 17, 18, 19, 20, 21, 22, 23, 24, 25, 26, 27, 28, 29] rfl ?_
    refine nx_then ?_
    refine t_ret ?_
    refine rt_block ?_
    refine rt_then ?_
    refine rt_then ?_
    refine rt_block ?_
    refine rt_then ?_
    exact rt_one rfl (res_tmp 29 rfl)
abbrev fodd2_D_c (p0 q0 : Int) (x1 y1 : Raw) : List VP := [Bz p0, Dz p0, Bz q0, Dz q0, VP.bool x1.1, VP.nums .u32 x1.2, VP.bool y1.1, VP.nums .u32 y1.2]
set_option maxRecDepth 100000 in
set_option maxHeartbeats 4000000 in
theorem fodd2_D (p0 q0 : Int) (hp0 : L p0 ≤ 5) (hq0 : L q0 ≤ 5) (hb0 : rightF p0 q0 = false) (x1 y1 : Raw) : Spec Try.prog 73 [isRows 2 (fodd2_D_c p0 q0 x1 y1)] (VP.bool true) := by
  refine spec_ofP (xs := [.rows 2 (fodd2_D_c p0 q0 x1 y1)]) 37 [4] Try.func73 rfl Try.ntmps73 rfl fun w0 => ?_
  refine t_seq ?_
  refine t_region (F := ⟨_, _, _, _⟩) [.rows 0 2 (fodd2_D_c p0 q0 x1 y1)] [] [(0, .slot 2 (VP.bool false))] [0] [] rfl rfl follow rfl ⟨
    .inl ⟨wants_plain rfl, does_move _ (.inr rfl) rfl rfl rfl rfl (ar_const (fun _ => rfl))⟩,
    trivial⟩ ?_
  refine nx_sub (fs' := [.rows 0 2 (fodd2_D_c p0 q0 x1 y1), .slot 2 (VP.bool false)]) [0, 1] rfl ?_
  refine nx_then ?_
  refine t_seq ?_
  refine t_seq ?_
  refine t_region (F := ⟨_, _, _, _⟩) [.rows 0 2 (fodd2_D_c p0 q0 x1 y1), .slot 2 (VP.bool false)] [] [(0, .rows 5 2 (fodd2_D_c p0 q0 x1 y1)), (1, .slot 6 (VP.int .i64 ((2 : Nat) : Int))), (2, .slot 7 (VP.int .i64 0))] [0, 1] [] rfl rfl follow rfl ⟨
    .inl ⟨wants_plain rfl, does_moveRows _ (.inl rfl) rfl rfl rfl rfl rfl (av_fs 0 rfl)⟩,
    .inl ⟨wants_plain rfl, does_lenRows _ _ rfl (by kernel_rfl) rfl rfl rfl rfl rfl (av_rs 0 rfl rfl)⟩,
    .inl ⟨wants_plain rfl, does_move _ (.inl rfl) rfl rfl rfl rfl (ar_const (fun _ => rfl))⟩,
    trivial⟩ ?_
  refine nx_sub (fs' := [.slot 2 (VP.bool false), .rows 5 2 (fodd2_D_c p0 q0 x1 y1), .slot 6 (VP.int .i64 ((2 : Nat) : Int)), .slot 7 (VP.int .i64 0)]) [1, 2, 3, 4] rfl ?_
  refine nx_then ?_
  refine t_block ?_
  refine t_loop (σ := {k : Nat // k ≤ 0}) (fun s => [.rows 5 2 (fodd2_D_c p0 q0 x1 y1), .slot 6 (VP.int .i64 ((2 : Nat) : Int)), .slot 7 (VP.int .i64 ((s.1 : Nat) : Int))]) (fun s => 2 - s.1) (⟨0, by decide⟩) [1, 2, 3] rfl ?_
  intro s
  obtain ⟨k, hk⟩ := s
  rcases (show k = 0 ∨ False by omega) with rfl | hF
  case inr => exact hF.elim
  case inl =>
    refine t_seq ?_
    refine t_region (F := ⟨_, _, _, _⟩) [.rows 5 2 (fodd2_D_c p0 q0 x1 y1), .slot 6 (VP.int .i64 ((2 : Nat) : Int)), .slot 7 (VP.int .i64 ((0 : Nat) : Int))] [] [(0, .slot 8 (VP.bool (decide (((0 : Nat) : Int) < ((2 : Nat) : Int)))))] [0, 1, 2] [] rfl rfl follow rfl ⟨
      .inl ⟨wants_plain rfl, does_cmp (m := ((0 : Nat) : Int)) (n := ((2 : Nat) : Int)) _ _ _ _ _ rfl rfl rfl rfl rfl rfl .i64 (ar_tmp (av_fs 2 rfl)) (ar_tmp (av_fs 1 rfl))⟩,
      trivial⟩ ?_
    refine nx_sub (fs' := [.rows 5 2 (fodd2_D_c p0 q0 x1 y1), .slot 6 (VP.int .i64 ((2 : Nat) : Int)), .slot 7 (VP.int .i64 ((0 : Nat) : Int)), .slot 8 (VP.bool (decide (((0 : Nat) : Int) < ((2 : Nat) : Int))))]) [0, 1, 2, 3] rfl ?_
    refine nx_then ?_
    refine t_seq ?_
    refine t_cond_te 3 rfl rfl ?_
    refine t_skip ?_
    refine nx_then ?_
    refine t_seq ?_
    refine t_block ?_
    refine t_seq ?_
    refine t_region (F := ⟨_, _, _, _⟩) [.rows 5 2 (fodd2_D_c p0 q0 x1 y1), .slot 6 (VP.int .i64 ((2 : Nat) : Int)), .slot 7 (VP.int .i64 ((0 : Nat) : Int)), .slot 8 (VP.bool (decide (((0 : Nat) : Int) < ((2 : Nat) : Int))))] [] [(0, .rp 9 5 0), (1, .slot 10 (VP.agg [Bz p0, Dz p0, Bz q0, Dz q0])), (2, .own 4 100 4), (3, .box 4 100 [Bz p0, Dz p0, Bz q0, Dz q0])] [0, 1, 2, 3] [] rfl rfl follow rfl ⟨
      .inl ⟨wants_plain rfl, does_indexRows (m := 0) (sz := 4) _ _ rfl Try.underlying178 (fun w => run_sizeAgg ty_agg_api_Frac w) rfl rfl rfl rfl rfl rfl (by decide) rfl (av_fs 0 rfl) (ar_tmp (av_fs 2 rfl))⟩,
      .inl ⟨wants_plain rfl, does_loadRows _ rfl ty_agg_api_Frac rfl rfl rfl rfl rfl rfl rfl (av_rs 0 rfl rfl) (av_fs 0 rfl)⟩,
      .inl ⟨wants_plain rfl, does_allocOwn [Bz 0, Dz 0, Bz 0, Dz 0] ty_zero_api_Frac rfl rfl rfl rfl rfl z_frac rfl⟩,
      .inl ⟨wants_plain rfl, does_storeNew 4 _ _ ty_agg_api_Frac rfl rfl rfl rfl rfl (pt_own (av_rs 2 rfl rfl)) (av_rs 2 rfl rfl) (ar_tmp (av_rs 1 rfl rfl))⟩,
      trivial⟩ ?_
    refine nx_sub (fs' := [.rows 5 2 (fodd2_D_c p0 q0 x1 y1), .slot 6 (VP.int .i64 ((2 : Nat) : Int)), .slot 7 (VP.int .i64 ((0 : Nat) : Int)), .slot 8 (VP.bool (decide (((0 : Nat) : Int) < ((2 : Nat) : Int)))), .rp 9 5 0, .slot 10 (VP.agg [Bz p0, Dz p0, Bz q0, Dz q0]), .box 4 100 [Bz p0, Dz p0, Bz q0, Dz q0]]) [0, 1, 2, 3, 4, 5, 7] rfl ?_
    refine nx_then ?_
    refine t_seq ?_
    refine t_region (F := ⟨_, _, _, _⟩) [.rows 5 2 (fodd2_D_c p0 q0 x1 y1), .slot 6 (VP.int .i64 ((2 : Nat) : Int)), .slot 7 (VP.int .i64 ((0 : Nat) : Int)), .slot 8 (VP.bool (decide (((0 : Nat) : Int) < ((2 : Nat) : Int)))), .rp 9 5 0, .slot 10 (VP.agg [Bz p0, Dz p0, Bz q0, Dz q0]), .box 4 100 [Bz p0, Dz p0, Bz q0, Dz q0]] [] [(0, .fp 11 4 0), (1, .slot 12 (INT p0)), (2, .fp 13 4 2), (3, .slot 14 (INT q0)), (4, .arr 15 69 2 [Bz p0, Dz p0, Bz q0, Dz q0]), (5, .slot 16 (VP.bool false)), (6, .slot 17 (VP.bool false)), (7, .fp 18 4 0), (8, .fp 19 4 1), (9, .slot 20 (Dz p0)), (10, .slot 21 (VP.int .i64 (((dg BB p0.natAbs).length : Nat) : Int))), (11, .slot 22 (VP.bool (decide ((((dg BB p0.natAbs).length : Nat) : Int) > 5)))), (12, .slot 23 (VP.bool (decide ((((dg BB p0.natAbs).length : Nat) : Int) > 5)))), (13, .slot 24 (VP.bool (decide ((((dg BB p0.natAbs).length : Nat) : Int) > 5)))), (14, .fp 25 4 2), (15, .fp 26 4 3), (16, .slot 27 (Dz q0)), (17, .slot 28 (VP.int .i64 (((dg BB q0.natAbs).length : Nat) : Int))), (18, .slot 29 (VP.bool (decide ((((dg BB q0.natAbs).length : Nat) : Int) > 5)))), (19, .slot 30 (VP.bool (decide ((((dg BB q0.natAbs).length : Nat) : Int) > 5)))), (20, .slot 31 (VP.bool (decide ((((dg BB q0.natAbs).length : Nat) : Int) > 5)))), (21, .slot 32 (VP.agg [Bz p0, Dz p0, Bz q0, Dz q0])), (22, .slot 33 (VP.bool (rightF p0 q0))), (23, .slot 34 (VP.bool true)), (24, .slot 35 (VP.bool true))] [0, 1, 2, 3, 4, 5, 6] [] rfl rfl follow rfl ⟨
      .inl ⟨wants_plain rfl, does_field _ _ _ 0 ty_f0_api_Frac rfl rfl rfl rfl rfl rfl rfl (pt_box (av_fs 6 rfl))⟩,
      .inl ⟨wants_plain rfl, does_loadAgg _ ty_agg_api_Int rfl rfl rfl rfl rfl rfl (pt_fp (av_rs 0 rfl rfl)) (av_fs 6 rfl)⟩,
      .inl ⟨wants_plain rfl, does_field _ _ _ 2 ty_f1_api_Frac rfl rfl rfl rfl rfl rfl rfl (pt_box (av_fs 6 rfl))⟩,
      .inl ⟨wants_plain rfl, does_loadAgg _ ty_agg_api_Int rfl rfl rfl rfl rfl rfl (pt_fp (av_rs 2 rfl rfl)) (av_fs 6 rfl)⟩,
      .inl ⟨wants_plain rfl, does_buildSlice (sz := 2) [Bz 0, Dz 0, Bz 0, Dz 0] ty_zero_api_Int (by kernel_rfl) (fun w => run_sizeAgg ty_agg_api_Int w) rfl rfl rfl rfl rfl rfl (by kernel_rfl) (fun w => by exact z_int_2 w) (.cons 0 [Bz p0, Dz p0] rfl rfl (ar_cells_agg (ar_tmp (av_rs 1 rfl rfl))) (.cons 2 [Bz q0, Dz q0] rfl rfl (ar_cells_agg (ar_tmp (av_rs 3 rfl rfl))) (.nil _)))⟩,
      .inl ⟨wants_plain rfl, does_call (s_even2 p0 q0 (lle hp0 (by decide)) (lle hq0 (by decide))) rfl hb_collator_collatorlaw01_Odd rfl rfl rfl rfl ⟨(ar_arr (av_rs 4 rfl rfl)), trivial⟩⟩,
      .inl ⟨wants_plain rfl, does_move _ (.inl rfl) rfl rfl rfl rfl (ar_tmp (av_rs 5 rfl rfl))⟩,
      .inl ⟨wants_guard false rfl rfl rfl (av_rs 6 rfl rfl), does_field _ _ _ 0 ty_f0_api_Frac rfl rfl rfl rfl rfl rfl rfl (pt_box (av_fs 6 rfl))⟩,
      .inl ⟨wants_guard false rfl rfl rfl (av_rs 6 rfl rfl), does_field _ _ _ 1 ty_f1_api_Int rfl rfl rfl rfl rfl rfl rfl (pt_fp (av_rs 7 rfl rfl))⟩,
      .inl ⟨wants_guard false rfl rfl rfl (av_rs 6 rfl rfl), does_loadOne _ ty_one___uint32 rfl rfl rfl rfl rfl rfl (pt_fp (av_rs 8 rfl rfl)) (av_fs 6 rfl)⟩,
      .inl ⟨wants_guard false rfl rfl rfl (av_rs 6 rfl rfl), does_len _ _ (by kernel_rfl) rfl rfl rfl rfl rfl (ar_tmp (av_rs 9 rfl rfl))⟩,
      .inl ⟨wants_guard false rfl rfl rfl (av_rs 6 rfl rfl), does_cmp (m := (((dg BB p0.natAbs).length : Nat) : Int)) (n := 5) _ _ _ _ _ rfl rfl rfl rfl rfl rfl .i64 (ar_tmp (av_rs 10 rfl rfl)) (ar_const (fun _ => rfl))⟩,
      .inl ⟨wants_plain rfl, does_pick false _ _ _ rfl rfl rfl rfl rfl (ar_tmp (av_rs 6 rfl rfl)) (ar_tmp (av_rs 11 rfl rfl))⟩,
      .inl ⟨wants_plain rfl, does_move _ (.inl rfl) rfl rfl rfl rfl (ar_tmp (av_rs 12 rfl rfl))⟩,
      .inl ⟨wants_guard false rfl rfl rfl (av_bool (gt5_no hp0) (av_rs 13 rfl rfl)), does_field _ _ _ 2 ty_f1_api_Frac rfl rfl rfl rfl rfl rfl rfl (pt_box (av_fs 6 rfl))⟩,
      .inl ⟨wants_guard false rfl rfl rfl (av_bool (gt5_no hp0) (av_rs 13 rfl rfl)), does_field _ _ _ 1 ty_f1_api_Int rfl rfl rfl rfl rfl rfl rfl (pt_fp (av_rs 14 rfl rfl))⟩,
      .inl ⟨wants_guard false rfl rfl rfl (av_bool (gt5_no hp0) (av_rs 13 rfl rfl)), does_loadOne _ ty_one___uint32 rfl rfl rfl rfl rfl rfl (pt_fp (av_rs 15 rfl rfl)) (av_fs 6 rfl)⟩,
      .inl ⟨wants_guard false rfl rfl rfl (av_bool (gt5_no hp0) (av_rs 13 rfl rfl)), does_len _ _ (by kernel_rfl) rfl rfl rfl rfl rfl (ar_tmp (av_rs 16 rfl rfl))⟩,
      .inl ⟨wants_guard false rfl rfl rfl (av_bool (gt5_no hp0) (av_rs 13 rfl rfl)), does_cmp (m := (((dg BB q0.natAbs).length : Nat) : Int)) (n := 5) _ _ _ _ _ rfl rfl rfl rfl rfl rfl .i64 (ar_tmp (av_rs 17 rfl rfl)) (ar_const (fun _ => rfl))⟩,
      .inl ⟨wants_plain rfl, does_pick false _ _ _ rfl rfl rfl rfl rfl (ar_tmp (av_bool (gt5_no hp0) (av_rs 13 rfl rfl))) (ar_tmp (av_rs 18 rfl rfl))⟩,
      .inl ⟨wants_plain rfl, does_move _ (.inl rfl) rfl rfl rfl rfl (ar_tmp (av_rs 19 rfl rfl))⟩,
      .inl ⟨wants_guard false rfl rfl rfl (av_bool (gt5_no hq0) (av_rs 20 rfl rfl)), does_loadAgg _ ty_agg_api_Frac rfl rfl rfl rfl rfl rfl (pt_box (av_fs 6 rfl)) (av_fs 6 rfl)⟩,
      .inl ⟨wants_guard false rfl rfl rfl (av_bool (gt5_no hq0) (av_rs 20 rfl rfl)), does_call (g_right p0 q0 (lle hp0 (by decide)) (lle hq0 (by decide))) rfl hb_collator_collatorref02_Right rfl rfl rfl rfl ⟨(ar_tmp (av_rs 21 rfl rfl)), trivial⟩⟩,
      .inl ⟨wants_guard false rfl rfl rfl (av_bool (gt5_no hq0) (av_rs 20 rfl rfl)), does_not false _ _ rfl rfl rfl rfl rfl (ar_tmp (av_bool hb0 (av_rs 22 rfl rfl)))⟩,
      .inl ⟨wants_plain rfl, does_pick false _ _ _ rfl rfl rfl rfl rfl (ar_tmp (av_bool (gt5_no hq0) (av_rs 20 rfl rfl))) (ar_tmp (av_rs 23 rfl rfl))⟩,
      trivial⟩ ?_
    refine nx_sub (fs' := [.rows 5 2 (fodd2_D_c p0 q0 x1 y1), .slot 6 (VP.int .i64 ((2 : Nat) : Int)), .slot 7 (VP.int .i64 ((0 : Nat) : Int)), .slot 8 (VP.bool (decide (((0 : Nat) : Int) < ((2 : Nat) : Int)))), .rp 9 5 0, .slot 10 (VP.agg [Bz p0, Dz p0, Bz q0, Dz q0]), .box 4 100 [Bz p0, Dz p0, Bz q0, Dz q0], .fp 11 4 0, .slot 12 (INT p0), .fp 13 4 2, .slot 14 (INT q0), .arr 15 69 2 [Bz p0, Dz p0, Bz q0, Dz q0], .slot 16 (VP.bool false), .slot 17 (VP.bool false), .fp 18 4 0, .fp 19 4 1, .slot 20 (Dz p0), .slot 21 (VP.int .i64 (((dg BB p0.natAbs).length : Nat) : Int)), .slot 22 (VP.bool (decide ((((dg BB p0.natAbs).length : Nat) : Int) > 5))), .slot 23 (VP.bool (decide ((((dg BB p0.natAbs).length : Nat) : Int) > 5))), .slot 24 (VP.bool (decide ((((dg BB p0.natAbs).length : Nat) : Int) > 5))), .fp 25 4 2, .fp 26 4 3, .slot 27 (Dz q0), .slot 28 (VP.int .i64 (((dg BB q0.natAbs).length : Nat) : Int)), .slot 29 (VP.bool (decide ((((dg BB q0.natAbs).length : Nat) : Int) > 5))), .slot 30 (VP.bool (decide ((((dg BB q0.natAbs).length : Nat) : Int) > 5))), .slot 31 (VP.bool (decide ((((dg BB q0.natAbs).length : Nat) : Int) > 5))), .slot 32 (VP.agg [Bz p0, Dz p0, Bz q0, Dz q0]), .slot 33 (VP.bool (rightF p0 q0)), .slot 34 (VP.bool true), .slot 35 (VP.bool true)]) [0, 1, 2, 3, 4, 5, 6, 7, 8, 9, 10, 11, 12, 13, 14, 15, 16, 17, 18, 19, 20, 21, 22, 23, 24, 25, 26, 27, 28, 29, 30, 31] rfl ?_
    refine nx_then ?_
    refine t_cond_t 31 rfl ?_
    refine t_seq ?_
    refine t_region (F := ⟨_, _, _, _⟩) [.rows 5 2 (fodd2_D_c p0 q0 x1 y1), .slot 6 (VP.int .i64 ((2 : Nat) : Int)), .slot 7 (VP.int .i64 ((0 : Nat) : Int)), .slot 8 (VP.bool (decide (((0 : Nat) : Int) < ((2 : Nat) : Int)))), .rp 9 5 0, .slot 10 (VP.agg [Bz p0, Dz p0, Bz q0, Dz q0]), .box 4 100 [Bz p0, Dz p0, Bz q0, Dz q0], .fp 11 4 0, .slot 12 (INT p0), .fp 13 4 2, .slot 14 (INT q0), .arr 15 69 2 [Bz p0, Dz p0, Bz q0, Dz q0], .slot 16 (VP.bool false), .slot 17 (VP.bool false), .fp 18 4 0, .fp 19 4 1, .slot 20 (Dz p0), .slot 21 (VP.int .i64 (((dg BB p0.natAbs).length : Nat) : Int)), .slot 22 (VP.bool (decide ((((dg BB p0.natAbs).length : Nat) : Int) > 5))), .slot 23 (VP.bool (decide ((((dg BB p0.natAbs).length : Nat) : Int) > 5))), .slot 24 (VP.bool (decide ((((dg BB p0.natAbs).length : Nat) : Int) > 5))), .fp 25 4 2, .fp 26 4 3, .slot 27 (Dz q0), .slot 28 (VP.int .i64 (((dg BB q0.natAbs).length : Nat) : Int)), .slot 29 (VP.bool (decide ((((dg BB q0.natAbs).length : Nat) : Int) > 5))), .slot 30 (VP.bool (decide ((((dg BB q0.natAbs).length : Nat) : Int) > 5))), .slot 31 (VP.bool (decide ((((dg BB q0.natAbs).length : Nat) : Int) > 5))), .slot 32 (VP.agg [Bz p0, Dz p0, Bz q0, Dz q0]), .slot 33 (VP.bool (rightF p0 q0)), .slot 34 (VP.bool true), .slot 35 (VP.bool true)] [] [(0, .slot 2 (VP.bool true))] [0, 1, 2, 3, 4, 5, 6, 7, 8, 9, 10, 11, 12, 13, 14, 15, 16, 17, 18, 19, 20, 21, 22, 23, 24, 25, 26, 27, 28, 29, 30, 31] [] rfl rfl follow rfl ⟨
      .inl ⟨wants_plain rfl, does_move _ (.inr rfl) rfl rfl rfl rfl (ar_const (fun _ => rfl))⟩,
      trivial⟩ ?_
    refine nx_sub (fs' := [.rows 5 2 (fodd2_D_c p0 q0 x1 y1), .slot 6 (VP.int .i64 ((2 : Nat) : Int)), .slot 7 (VP.int .i64 ((0 : Nat) : Int)), .slot 8 (VP.bool (decide (((0 : Nat) : Int) < ((2 : Nat) : Int)))), .rp 9 5 0, .slot 10 (VP.agg [Bz p0, Dz p0, Bz q0, Dz q0]), .box 4 100 [Bz p0, Dz p0, Bz q0, Dz q0], .fp 11 4 0, .slot 12 (INT p0), .fp 13 4 2, .slot 14 (INT q0), .arr 15 69 2 [Bz p0, Dz p0, Bz q0, Dz q0], .slot 16 (VP.bool false), .slot 17 (VP.bool false), .fp 18 4 0, .fp 19 4 1, .slot 20 (Dz p0), .slot 21 (VP.int .i64 (((dg BB p0.natAbs).length : Nat) : Int)), .slot 22 (VP.bool (decide ((((dg BB p0.natAbs).length : Nat) : Int) > 5))), .slot 23 (VP.bool (decide ((((dg BB p0.natAbs).length : Nat) : Int) > 5))), .slot 24 (VP.bool (decide ((((dg BB p0.natAbs).length : Nat) : Int) > 5))), .fp 25 4 2, .fp 26 4 3, .slot 27 (Dz q0), .slot 28 (VP.int .i64 (((dg BB q0.natAbs).length : Nat) : Int)), .slot 29 (VP.bool (decide ((((dg BB q0.natAbs).length : Nat) : Int) > 5))), .slot 30 (VP.bool (decide ((((dg BB q0.natAbs).length : Nat) : Int) > 5))), .slot 31 (VP.bool (decide ((((dg BB q0.natAbs).length : Nat) : Int) > 5))), .slot 32 (VP.agg [Bz p0, Dz p0, Bz q0, Dz q0]), .slot 33 (VP.bool (rightF p0 q0)), .slot 34 (VP.bool true), .slot 35 (VP.bool true), .slot 2 (VP.bool true)]) [0, 1, 2, 3, 4, 5, 6, 7, 8, 9, 10, 11, 12, 13, 14, 15, 16, 17, 18, 19, 20, 21, 22, 23, 24, 25, 26, 27, 28, 29, 30, 31, 32] rfl ?_
    refine nx_then ?_
    refine t_ret ?_
    refine rt_block ?_
    refine rt_then ?_
    refine rt_then ?_
    refine rt_block ?_
    refine rt_then ?_
    exact rt_one rfl (res_tmp 32 rfl)
abbrev fodd2_EA_c (p0 q0 : Int) (x1 y1 : Raw) : List VP := [Bz p0, Dz p0, Bz q0, Dz q0, VP.bool x1.1, VP.nums .u32 x1.2, VP.bool y1.1, VP.nums .u32 y1.2]
set_option maxRecDepth 100000 in
set_option maxHeartbeats 4000000 in
theorem fodd2_EA (p0 q0 : Int) (hp0 : L p0 ≤ 5) (hq0 : L q0 ≤ 5) (hb0 : rightF p0 q0 = true) (x1 y1 : Raw) (hx1 : x1.ok) (hy1 : y1.ok) (ho : [x1, y1].any oddP = true) : Spec Try.prog 73 [isRows 2 (fodd2_EA_c p0 q0 x1 y1)] (VP.bool true) := by
  refine spec_ofP (xs := [.rows 2 (fodd2_EA_c p0 q0 x1 y1)]) 37 [4] Try.func73 rfl Try.ntmps73 rfl fun w0 => ?_
  refine t_seq ?_
  refine t_region (F := ⟨_, _, _, _⟩) [.rows 0 2 (fodd2_EA_c p0 q0 x1 y1)] [] [(0, .slot 2 (VP.bool false))] [0] [] rfl rfl follow rfl ⟨
    .inl ⟨wants_plain rfl, does_move _ (.inr rfl) rfl rfl rfl rfl (ar_const (fun _ => rfl))⟩,
    trivial⟩ ?_
  refine nx_sub (fs' := [.rows 0 2 (fodd2_EA_c p0 q0 x1 y1), .slot 2 (VP.bool false)]) [0, 1] rfl ?_
  refine nx_then ?_
  refine t_seq ?_
  refine t_seq ?_
  refine t_region (F := ⟨_, _, _, _⟩) [.rows 0 2 (fodd2_EA_c p0 q0 x1 y1), .slot 2 (VP.bool false)] [] [(0, .rows 5 2 (fodd2_EA_c p0 q0 x1 y1)), (1, .slot 6 (VP.int .i64 ((2 : Nat) : Int))), (2, .slot 7 (VP.int .i64 0))] [0, 1] [] rfl rfl follow rfl ⟨
    .inl ⟨wants_plain rfl, does_moveRows _ (.inl rfl) rfl rfl rfl rfl rfl (av_fs 0 rfl)⟩,
    .inl ⟨wants_plain rfl, does_lenRows _ _ rfl (by kernel_rfl) rfl rfl rfl rfl rfl (av_rs 0 rfl rfl)⟩,
    .inl ⟨wants_plain rfl, does_move _ (.inl rfl) rfl rfl rfl rfl (ar_const (fun _ => rfl))⟩,
    trivial⟩ ?_
  refine nx_sub (fs' := [.slot 2 (VP.bool false), .rows 5 2 (fodd2_EA_c p0 q0 x1 y1), .slot 6 (VP.int .i64 ((2 : Nat) : Int)), .slot 7 (VP.int .i64 0)]) [1, 2, 3, 4] rfl ?_
  refine nx_then ?_
  refine t_block ?_
  refine t_loop (σ := {k : Nat // k ≤ 1}) (fun s => [.rows 5 2 (fodd2_EA_c p0 q0 x1 y1), .slot 6 (VP.int .i64 ((2 : Nat) : Int)), .slot 7 (VP.int .i64 ((s.1 : Nat) : Int))]) (fun s => 2 - s.1) (⟨0, by decide⟩) [1, 2, 3] rfl ?_
  intro s
  obtain ⟨k, hk⟩ := s
  have hc : k = 0 ∨ k = 1 := by omega
  rcases hc with rfl | rfl
  case inl =>
    refine t_seq ?_
    refine t_region (F := ⟨_, _, _, _⟩) [.rows 5 2 (fodd2_EA_c p0 q0 x1 y1), .slot 6 (VP.int .i64 ((2 : Nat) : Int)), .slot 7 (VP.int .i64 ((0 : Nat) : Int))] [] [(0, .slot 8 (VP.bool (decide (((0 : Nat) : Int) < ((2 : Nat) : Int)))))] [0, 1, 2] [] rfl rfl follow rfl ⟨
      .inl ⟨wants_plain rfl, does_cmp (m := ((0 : Nat) : Int)) (n := ((2 : Nat) : Int)) _ _ _ _ _ rfl rfl rfl rfl rfl rfl .i64 (ar_tmp (av_fs 2 rfl)) (ar_tmp (av_fs 1 rfl))⟩,
      trivial⟩ ?_
    refine nx_sub (fs' := [.rows 5 2 (fodd2_EA_c p0 q0 x1 y1), .slot 6 (VP.int .i64 ((2 : Nat) : Int)), .slot 7 (VP.int .i64 ((0 : Nat) : Int)), .slot 8 (VP.bool (decide (((0 : Nat) : Int) < ((2 : Nat) : Int))))]) [0, 1, 2, 3] rfl ?_
    refine nx_then ?_
    refine t_seq ?_
    refine t_cond_te 3 rfl rfl ?_
    refine t_skip ?_
    refine nx_then ?_
    refine t_seq ?_
    refine t_block ?_
    refine t_seq ?_
    refine t_region (F := ⟨_, _, _, _⟩) [.rows 5 2 (fodd2_EA_c p0 q0 x1 y1), .slot 6 (VP.int .i64 ((2 : Nat) : Int)), .slot 7 (VP.int .i64 ((0 : Nat) : Int)), .slot 8 (VP.bool (decide (((0 : Nat) : Int) < ((2 : Nat) : Int))))] [] [(0, .rp 9 5 0), (1, .slot 10 (VP.agg [Bz p0, Dz p0, Bz q0, Dz q0])), (2, .own 4 100 4), (3, .box 4 100 [Bz p0, Dz p0, Bz q0, Dz q0])] [0, 1, 2, 3] [] rfl rfl follow rfl ⟨
      .inl ⟨wants_plain rfl, does_indexRows (m := 0) (sz := 4) _ _ rfl Try.underlying178 (fun w => run_sizeAgg ty_agg_api_Frac w) rfl rfl rfl rfl rfl rfl (by decide) rfl (av_fs 0 rfl) (ar_tmp (av_fs 2 rfl))⟩,
      .inl ⟨wants_plain rfl, does_loadRows _ rfl ty_agg_api_Frac rfl rfl rfl rfl rfl rfl rfl (av_rs 0 rfl rfl) (av_fs 0 rfl)⟩,
      .inl ⟨wants_plain rfl, does_allocOwn [Bz 0, Dz 0, Bz 0, Dz 0] ty_zero_api_Frac rfl rfl rfl rfl rfl z_frac rfl⟩,
      .inl ⟨wants_plain rfl, does_storeNew 4 _ _ ty_agg_api_Frac rfl rfl rfl rfl rfl (pt_own (av_rs 2 rfl rfl)) (av_rs 2 rfl rfl) (ar_tmp (av_rs 1 rfl rfl))⟩,
      trivial⟩ ?_
    refine nx_sub (fs' := [.rows 5 2 (fodd2_EA_c p0 q0 x1 y1), .slot 6 (VP.int .i64 ((2 : Nat) : Int)), .slot 7 (VP.int .i64 ((0 : Nat) : Int)), .slot 8 (VP.bool (decide (((0 : Nat) : Int) < ((2 : Nat) : Int)))), .rp 9 5 0, .slot 10 (VP.agg [Bz p0, Dz p0, Bz q0, Dz q0]), .box 4 100 [Bz p0, Dz p0, Bz q0, Dz q0]]) [0, 1, 2, 3, 4, 5, 7] rfl ?_
    refine nx_then ?_
    refine t_seq ?_
    refine t_region (F := ⟨_, _, _, _⟩) [.rows 5 2 (fodd2_EA_c p0 q0 x1 y1), .slot 6 (VP.int .i64 ((2 : Nat) : Int)), .slot 7 (VP.int .i64 ((0 : Nat) : Int)), .slot 8 (VP.bool (decide (((0 : Nat) : Int) < ((2 : Nat) : Int)))), .rp 9 5 0, .slot 10 (VP.agg [Bz p0, Dz p0, Bz q0, Dz q0]), .box 4 100 [Bz p0, Dz p0, Bz q0, Dz q0]] [] [(0, .fp 11 4 0), (1, .slot 12 (INT p0)), (2, .fp 13 4 2), (3, .slot 14 (INT q0)), (4, .arr 15 69 2 [Bz p0, Dz p0, Bz q0, Dz q0]), (5, .slot 16 (VP.bool false)), (6, .slot 17 (VP.bool false)), (7, .fp 18 4 0), (8, .fp 19 4 1), (9, .slot 20 (Dz p0)), (10, .slot 21 (VP.int .i64 (((dg BB p0.natAbs).length : Nat) : Int))), (11, .slot 22 (VP.bool (decide ((((dg BB p0.natAbs).length : Nat) : Int) > 5)))), (12, .slot 23 (VP.bool (decide ((((dg BB p0.natAbs).length : Nat) : Int) > 5)))), (13, .slot 24 (VP.bool (decide ((((dg BB p0.natAbs).length : Nat) : Int) > 5)))), (14, .fp 25 4 2), (15, .fp 26 4 3), (16, .slot 27 (Dz q0)), (17, .slot 28 (VP.int .i64 (((dg BB q0.natAbs).length : Nat) : Int))), (18, .slot 29 (VP.bool (decide ((((dg BB q0.natAbs).length : Nat) : Int) > 5)))), (19, .slot 30 (VP.bool (decide ((((dg BB q0.natAbs).length : Nat) : Int) > 5)))), (20, .slot 31 (VP.bool (decide ((((dg BB q0.natAbs).length : Nat) : Int) > 5)))), (21, .slot 32 (VP.agg [Bz p0, Dz p0, Bz q0, Dz q0])), (22, .slot 33 (VP.bool (rightF p0 q0))), (23, .slot 34 (VP.bool false)), (24, .slot 35 (VP.bool false))] [0, 1, 2, 3, 4, 5, 6] [] rfl rfl follow rfl ⟨
      .inl ⟨wants_plain rfl, does_field _ _ _ 0 ty_f0_api_Frac rfl rfl rfl rfl rfl rfl rfl (pt_box (av_fs 6 rfl))⟩,
      .inl ⟨wants_plain rfl, does_loadAgg _ ty_agg_api_Int rfl rfl rfl rfl rfl rfl (pt_fp (av_rs 0 rfl rfl)) (av_fs 6 rfl)⟩,
      .inl ⟨wants_plain rfl, does_field _ _ _ 2 ty_f1_api_Frac rfl rfl rfl rfl rfl rfl rfl (pt_box (av_fs 6 rfl))⟩,
      .inl ⟨wants_plain rfl, does_loadAgg _ ty_agg_api_Int rfl rfl rfl rfl rfl rfl (pt_fp (av_rs 2 rfl rfl)) (av_fs 6 rfl)⟩,
      .inl ⟨wants_plain rfl, does_buildSlice (sz := 2) [Bz 0, Dz 0, Bz 0, Dz 0] ty_zero_api_Int (by kernel_rfl) (fun w => run_sizeAgg ty_agg_api_Int w) rfl rfl rfl rfl rfl rfl (by kernel_rfl) (fun w => by exact z_int_2 w) (.cons 0 [Bz p0, Dz p0] rfl rfl (ar_cells_agg (ar_tmp (av_rs 1 rfl rfl))) (.cons 2 [Bz q0, Dz q0] rfl rfl (ar_cells_agg (ar_tmp (av_rs 3 rfl rfl))) (.nil _)))⟩,
      .inl ⟨wants_plain rfl, does_call (s_even2 p0 q0 (lle hp0 (by decide)) (lle hq0 (by decide))) rfl hb_collator_collatorlaw01_Odd rfl rfl rfl rfl ⟨(ar_arr (av_rs 4 rfl rfl)), trivial⟩⟩,
      .inl ⟨wants_plain rfl, does_move _ (.inl rfl) rfl rfl rfl rfl (ar_tmp (av_rs 5 rfl rfl))⟩,
      .inl ⟨wants_guard false rfl rfl rfl (av_rs 6 rfl rfl), does_field _ _ _ 0 ty_f0_api_Frac rfl rfl rfl rfl rfl rfl rfl (pt_box (av_fs 6 rfl))⟩,
      .inl ⟨wants_guard false rfl rfl rfl (av_rs 6 rfl rfl), does_field _ _ _ 1 ty_f1_api_Int rfl rfl rfl rfl rfl rfl rfl (pt_fp (av_rs 7 rfl rfl))⟩,
      .inl ⟨wants_guard false rfl rfl rfl (av_rs 6 rfl rfl), does_loadOne _ ty_one___uint32 rfl rfl rfl rfl rfl rfl (pt_fp (av_rs 8 rfl rfl)) (av_fs 6 rfl)⟩,
      .inl ⟨wants_guard false rfl rfl rfl (av_rs 6 rfl rfl), does_len _ _ (by kernel_rfl) rfl rfl rfl rfl rfl (ar_tmp (av_rs 9 rfl rfl))⟩,
      .inl ⟨wants_guard false rfl rfl rfl (av_rs 6 rfl rfl), does_cmp (m := (((dg BB p0.natAbs).length : Nat) : Int)) (n := 5) _ _ _ _ _ rfl rfl rfl rfl rfl rfl .i64 (ar_tmp (av_rs 10 rfl rfl)) (ar_const (fun _ => rfl))⟩,
      .inl ⟨wants_plain rfl, does_pick false _ _ _ rfl rfl rfl rfl rfl (ar_tmp (av_rs 6 rfl rfl)) (ar_tmp (av_rs 11 rfl rfl))⟩,
      .inl ⟨wants_plain rfl, does_move _ (.inl rfl) rfl rfl rfl rfl (ar_tmp (av_rs 12 rfl rfl))⟩,
      .inl ⟨wants_guard false rfl rfl rfl (av_bool (gt5_no hp0) (av_rs 13 rfl rfl)), does_field _ _ _ 2 ty_f1_api_Frac rfl rfl rfl rfl rfl rfl rfl (pt_box (av_fs 6 rfl))⟩,
      .inl ⟨wants_guard false rfl rfl rfl (av_bool (gt5_no hp0) (av_rs 13 rfl rfl)), does_field _ _ _ 1 ty_f1_api_Int rfl rfl rfl rfl rfl rfl rfl (pt_fp (av_rs 14 rfl rfl))⟩,
      .inl ⟨wants_guard false rfl rfl rfl (av_bool (gt5_no hp0) (av_rs 13 rfl rfl)), does_loadOne _ ty_one___uint32 rfl rfl rfl rfl rfl rfl (pt_fp (av_rs 15 rfl rfl)) (av_fs 6 rfl)⟩,
      .inl ⟨wants_guard false rfl rfl rfl (av_bool (gt5_no hp0) (av_rs 13 rfl rfl)), does_len _ _ (by kernel_rfl) rfl rfl rfl rfl rfl (ar_tmp (av_rs 16 rfl rfl))⟩,
      .inl ⟨wants_guard false rfl rfl rfl (av_bool (gt5_no hp0) (av_rs 13 rfl rfl)), does_cmp (m := (((dg BB q0.natAbs).length : Nat) : Int)) (n := 5) _ _ _ _ _ rfl rfl rfl rfl rfl rfl .i64 (ar_tmp (av_rs 17 rfl rfl)) (ar_const (fun _ => rfl))⟩,
      .inl ⟨wants_plain rfl, does_pick false _ _ _ rfl rfl rfl rfl rfl (ar_tmp (av_bool (gt5_no hp0) (av_rs 13 rfl rfl))) (ar_tmp (av_rs 18 rfl rfl))⟩,
      .inl ⟨wants_plain rfl, does_move _ (.inl rfl) rfl rfl rfl rfl (ar_tmp (av_rs 19 rfl rfl))⟩,
      .inl ⟨wants_guard false rfl rfl rfl (av_bool (gt5_no hq0) (av_rs 20 rfl rfl)), does_loadAgg _ ty_agg_api_Frac rfl rfl rfl rfl rfl rfl (pt_box (av_fs 6 rfl)) (av_fs 6 rfl)⟩,
      .inl ⟨wants_guard false rfl rfl rfl (av_bool (gt5_no hq0) (av_rs 20 rfl rfl)), does_call (g_right p0 q0 (lle hp0 (by decide)) (lle hq0 (by decide))) rfl hb_collator_collatorref02_Right rfl rfl rfl rfl ⟨(ar_tmp (av_rs 21 rfl rfl)), trivial⟩⟩,
      .inl ⟨wants_guard false rfl rfl rfl (av_bool (gt5_no hq0) (av_rs 20 rfl rfl)), does_not true _ _ rfl rfl rfl rfl rfl (ar_tmp (av_bool hb0 (av_rs 22 rfl rfl)))⟩,
      .inl ⟨wants_plain rfl, does_pick false _ _ _ rfl rfl rfl rfl rfl (ar_tmp (av_bool (gt5_no hq0) (av_rs 20 rfl rfl))) (ar_tmp (av_rs 23 rfl rfl))⟩,
      trivial⟩ ?_
    refine nx_sub (fs' := [.rows 5 2 (fodd2_EA_c p0 q0 x1 y1), .slot 6 (VP.int .i64 ((2 : Nat) : Int)), .slot 7 (VP.int .i64 ((0 : Nat) : Int)), .slot 8 (VP.bool (decide (((0 : Nat) : Int) < ((2 : Nat) : Int)))), .rp 9 5 0, .slot 10 (VP.agg [Bz p0, Dz p0, Bz q0, Dz q0]), .box 4 100 [Bz p0, Dz p0, Bz q0, Dz q0], .fp 11 4 0, .slot 12 (INT p0), .fp 13 4 2, .slot 14 (INT q0), .arr 15 69 2 [Bz p0, Dz p0, Bz q0, Dz q0], .slot 16 (VP.bool false), .slot 17 (VP.bool false), .fp 18 4 0, .fp 19 4 1, .slot 20 (Dz p0), .slot 21 (VP.int .i64 (((dg BB p0.natAbs).length : Nat) : Int)), .slot 22 (VP.bool (decide ((((dg BB p0.natAbs).length : Nat) : Int) > 5))), .slot 23 (VP.bool (decide ((((dg BB p0.natAbs).length : Nat) : Int) > 5))), .slot 24 (VP.bool (decide ((((dg BB p0.natAbs).length : Nat) : Int) > 5))), .fp 25 4 2, .fp 26 4 3, .slot 27 (Dz q0), .slot 28 (VP.int .i64 (((dg BB q0.natAbs).length : Nat) : Int)), .slot 29 (VP.bool (decide ((((dg BB q0.natAbs).length : Nat) : Int) > 5))), .slot 30 (VP.bool (decide ((((dg BB q0.natAbs).length : Nat) : Int) > 5))), .slot 31 (VP.bool (decide ((((dg BB q0.natAbs).length : Nat) : Int) > 5))), .slot 32 (VP.agg [Bz p0, Dz p0, Bz q0, Dz q0]), .slot 33 (VP.bool (rightF p0 q0)), .slot 34 (VP.bool false), .slot 35 (VP.bool false)]) [0, 1, 2, 3, 4, 5, 6, 7, 8, 9, 10, 11, 12, 13, 14, 15, 16, 17, 18, 19, 20, 21, 22, 23, 24, 25, 26, 27, 28, 29, 30, 31] rfl ?_
    refine nx_then ?_
    refine t_cond_f 31 rfl ?_
    refine t_skip ?_
    refine nx_block ?_
    refine nx_then ?_
    refine t_region (F := ⟨_, _, _, _⟩) [.rows 5 2 (fodd2_EA_c p0 q0 x1 y1), .slot 6 (VP.int .i64 ((2 : Nat) : Int)), .slot 8 (VP.bool (decide (((0 : Nat) : Int) < ((2 : Nat) : Int)))), .rp 9 5 0, .slot 10 (VP.agg [Bz p0, Dz p0, Bz q0, Dz q0]), .box 4 100 [Bz p0, Dz p0, Bz q0, Dz q0], .fp 11 4 0, .slot 12 (INT p0), .fp 13 4 2, .slot 14 (INT q0), .arr 15 69 2 [Bz p0, Dz p0, Bz q0, Dz q0], .slot 16 (VP.bool false), .slot 17 (VP.bool false), .fp 18 4 0, .fp 19 4 1, .slot 20 (Dz p0), .slot 21 (VP.int .i64 (((dg BB p0.natAbs).length : Nat) : Int)), .slot 22 (VP.bool (decide ((((dg BB p0.natAbs).length : Nat) : Int) > 5))), .slot 23 (VP.bool (decide ((((dg BB p0.natAbs).length : Nat) : Int) > 5))), .slot 24 (VP.bool (decide ((((dg BB p0.natAbs).length : Nat) : Int) > 5))), .fp 25 4 2, .fp 26 4 3, .slot 27 (Dz q0), .slot 28 (VP.int .i64 (((dg BB q0.natAbs).length : Nat) : Int)), .slot 29 (VP.bool (decide ((((dg BB q0.natAbs).length : Nat) : Int) > 5))), .slot 30 (VP.bool (decide ((((dg BB q0.natAbs).length : Nat) : Int) > 5))), .slot 31 (VP.bool (decide ((((dg BB q0.natAbs).length : Nat) : Int) > 5))), .slot 32 (VP.agg [Bz p0, Dz p0, Bz q0, Dz q0]), .slot 33 (VP.bool (rightF p0 q0)), .slot 34 (VP.bool false), .slot 35 (VP.bool false)] [(1, .slot 7 (VP.int .i64 ((0 : Nat) : Int)))] [(0, .slot 36 (VP.int .i64 ((1 : Nat) : Int))), (1, .slot 7 (VP.int .i64 ((1 : Nat) : Int)))] [0, 1, 3, 4, 5, 6, 7, 8, 9, 10, 11, 12, 13, 14, 15, 16, 17, 18, 19, 20, 21, 22, 23, 24, 25, 26, 27, 28, 29, 30, 31] [2] rfl rfl follow rfl ⟨
      .inl ⟨wants_plain rfl, does_addInt (m := ((0 : Nat) : Int)) (n := 1) _ _ _ _ rfl rfl rfl rfl rfl (by omega) (ar_tmp (av_os 0 rfl rfl)) (ar_const (fun _ => rfl))⟩,
      .inl ⟨wants_plain rfl, does_move _ (.inl rfl) rfl rfl rfl rfl (ar_tmp (av_rs 0 rfl rfl))⟩,
      trivial⟩ ?_
    refine nx_sub (fs' := [.rows 5 2 (fodd2_EA_c p0 q0 x1 y1), .slot 6 (VP.int .i64 ((2 : Nat) : Int)), .slot 8 (VP.bool (decide (((0 : Nat) : Int) < ((2 : Nat) : Int)))), .rp 9 5 0, .slot 10 (VP.agg [Bz p0, Dz p0, Bz q0, Dz q0]), .box 4 100 [Bz p0, Dz p0, Bz q0, Dz q0], .fp 11 4 0, .slot 12 (INT p0), .fp 13 4 2, .slot 14 (INT q0), .arr 15 69 2 [Bz p0, Dz p0, Bz q0, Dz q0], .slot 16 (VP.bool false), .slot 17 (VP.bool false), .fp 18 4 0, .fp 19 4 1, .slot 20 (Dz p0), .slot 21 (VP.int .i64 (((dg BB p0.natAbs).length : Nat) : Int)), .slot 22 (VP.bool (decide ((((dg BB p0.natAbs).length : Nat) : Int) > 5))), .slot 23 (VP.bool (decide ((((dg BB p0.natAbs).length : Nat) : Int) > 5))), .slot 24 (VP.bool (decide ((((dg BB p0.natAbs).length : Nat) : Int) > 5))), .fp 25 4 2, .fp 26 4 3, .slot 27 (Dz q0), .slot 28 (VP.int .i64 (((dg BB q0.natAbs).length : Nat) : Int)), .slot 29 (VP.bool (decide ((((dg BB q0.natAbs).length : Nat) : Int) > 5))), .slot 30 (VP.bool (decide ((((dg BB q0.natAbs).length : Nat) : Int) > 5))), .slot 31 (VP.bool (decide ((((dg BB q0.natAbs).length : Nat) : Int) > 5))), .slot 32 (VP.agg [Bz p0, Dz p0, Bz q0, Dz q0]), .slot 33 (VP.bool (rightF p0 q0)), .slot 34 (VP.bool false), .slot 35 (VP.bool false), .slot 36 (VP.int .i64 ((1 : Nat) : Int)), .slot 7 (VP.int .i64 ((1 : Nat) : Int))]) [0, 1, 2, 3, 4, 5, 6, 7, 8, 9, 10, 11, 12, 13, 14, 15, 16, 17, 18, 19, 20, 21, 22, 23, 24, 25, 26, 27, 28, 29, 30, 31, 32] rfl ?_
    exact nx_round ⟨1, by decide⟩ (by show 2 - 1 < 2 - 0; decide) [0, 1, 32] rfl
  case inr =>
    refine t_seq ?_
    refine t_region (F := ⟨_, _, _, _⟩) [.rows 5 2 (fodd2_EA_c p0 q0 x1 y1), .slot 6 (VP.int .i64 ((2 : Nat) : Int)), .slot 7 (VP.int .i64 ((1 : Nat) : Int))] [] [(0, .slot 8 (VP.bool (decide (((1 : Nat) : Int) < ((2 : Nat) : Int)))))] [0, 1, 2] [] rfl rfl follow rfl ⟨
      .inl ⟨wants_plain rfl, does_cmp (m := ((1 : Nat) : Int)) (n := ((2 : Nat) : Int)) _ _ _ _ _ rfl rfl rfl rfl rfl rfl .i64 (ar_tmp (av_fs 2 rfl)) (ar_tmp (av_fs 1 rfl))⟩,
      trivial⟩ ?_
    refine nx_sub (fs' := [.rows 5 2 (fodd2_EA_c p0 q0 x1 y1), .slot 6 (VP.int .i64 ((2 : Nat) : Int)), .slot 7 (VP.int .i64 ((1 : Nat) : Int)), .slot 8 (VP.bool (decide (((1 : Nat) : Int) < ((2 : Nat) : Int))))]) [0, 1, 2, 3] rfl ?_
    refine nx_then ?_
    refine t_seq ?_
    refine t_cond_te 3 rfl rfl ?_
    refine t_skip ?_
    refine nx_then ?_
    refine t_seq ?_
    refine t_block ?_
    refine t_seq ?_
    refine t_region (F := ⟨_, _, _, _⟩) [.rows 5 2 (fodd2_EA_c p0 q0 x1 y1), .slot 6 (VP.int .i64 ((2 : Nat) : Int)), .slot 7 (VP.int .i64 ((1 : Nat) : Int)), .slot 8 (VP.bool (decide (((1 : Nat) : Int) < ((2 : Nat) : Int))))] [] [(0, .rp 9 5 4), (1, .slot 10 (VP.agg [VP.bool x1.1, VP.nums .u32 x1.2, VP.bool y1.1, VP.nums .u32 y1.2])), (2, .own 4 100 4), (3, .box 4 100 [VP.bool x1.1, VP.nums .u32 x1.2, VP.bool y1.1, VP.nums .u32 y1.2])] [0, 1, 2, 3] [] rfl rfl follow rfl ⟨
      .inl ⟨wants_plain rfl, does_indexRows (m := 1) (sz := 4) _ _ rfl Try.underlying178 (fun w => run_sizeAgg ty_agg_api_Frac w) rfl rfl rfl rfl rfl rfl (by decide) rfl (av_fs 0 rfl) (ar_tmp (av_fs 2 rfl))⟩,
      .inl ⟨wants_plain rfl, does_loadRows _ rfl ty_agg_api_Frac rfl rfl rfl rfl rfl rfl rfl (av_rs 0 rfl rfl) (av_fs 0 rfl)⟩,
      .inl ⟨wants_plain rfl, does_allocOwn [Bz 0, Dz 0, Bz 0, Dz 0] ty_zero_api_Frac rfl rfl rfl rfl rfl z_frac rfl⟩,
      .inl ⟨wants_plain rfl, does_storeNew 4 _ _ ty_agg_api_Frac rfl rfl rfl rfl rfl (pt_own (av_rs 2 rfl rfl)) (av_rs 2 rfl rfl) (ar_tmp (av_rs 1 rfl rfl))⟩,
      trivial⟩ ?_
    refine nx_sub (fs' := [.rows 5 2 (fodd2_EA_c p0 q0 x1 y1), .slot 6 (VP.int .i64 ((2 : Nat) : Int)), .slot 7 (VP.int .i64 ((1 : Nat) : Int)), .slot 8 (VP.bool (decide (((1 : Nat) : Int) < ((2 : Nat) : Int)))), .rp 9 5 4, .slot 10 (VP.agg [VP.bool x1.1, VP.nums .u32 x1.2, VP.bool y1.1, VP.nums .u32 y1.2]), .box 4 100 [VP.bool x1.1, VP.nums .u32 x1.2, VP.bool y1.1, VP.nums .u32 y1.2]]) [0, 1, 2, 3, 4, 5, 7] rfl ?_
    refine nx_then ?_
    refine t_seq ?_
    refine t_region (F := ⟨_, _, _, _⟩) [.rows 5 2 (fodd2_EA_c p0 q0 x1 y1), .slot 6 (VP.int .i64 ((2 : Nat) : Int)), .slot 7 (VP.int .i64 ((1 : Nat) : Int)), .slot 8 (VP.bool (decide (((1 : Nat) : Int) < ((2 : Nat) : Int)))), .rp 9 5 4, .slot 10 (VP.agg [VP.bool x1.1, VP.nums .u32 x1.2, VP.bool y1.1, VP.nums .u32 y1.2]), .box 4 100 [VP.bool x1.1, VP.nums .u32 x1.2, VP.bool y1.1, VP.nums .u32 y1.2]] [] [(0, .fp 11 4 0), (1, .slot 12 (VP.agg [VP.bool x1.1, VP.nums .u32 x1.2])), (2, .fp 13 4 2), (3, .slot 14 (VP.agg [VP.bool y1.1, VP.nums .u32 y1.2])), (4, .arr 15 69 2 [VP.bool x1.1, VP.nums .u32 x1.2, VP.bool y1.1, VP.nums .u32 y1.2]), (5, .slot 16 (VP.bool true)), (6, .slot 17 (VP.bool true)), (12, .slot 23 (VP.bool true)), (13, .slot 24 (VP.bool true)), (19, .slot 30 (VP.bool true)), (20, .slot 31 (VP.bool true)), (24, .slot 35 (VP.bool true))] [0, 1, 2, 3, 4, 5, 6] [] rfl rfl follow rfl ⟨
      .inl ⟨wants_plain rfl, does_field _ _ _ 0 ty_f0_api_Frac rfl rfl rfl rfl rfl rfl rfl (pt_box (av_fs 6 rfl))⟩,
      .inl ⟨wants_plain rfl, does_loadAgg _ ty_agg_api_Int rfl rfl rfl rfl rfl rfl (pt_fp (av_rs 0 rfl rfl)) (av_fs 6 rfl)⟩,
      .inl ⟨wants_plain rfl, does_field _ _ _ 2 ty_f1_api_Frac rfl rfl rfl rfl rfl rfl rfl (pt_box (av_fs 6 rfl))⟩,
      .inl ⟨wants_plain rfl, does_loadAgg _ ty_agg_api_Int rfl rfl rfl rfl rfl rfl (pt_fp (av_rs 2 rfl rfl)) (av_fs 6 rfl)⟩,
      .inl ⟨wants_plain rfl, does_buildSlice (sz := 2) [Bz 0, Dz 0, Bz 0, Dz 0] ty_zero_api_Int (by kernel_rfl) (fun w => run_sizeAgg ty_agg_api_Int w) rfl rfl rfl rfl rfl rfl (by kernel_rfl) (fun w => by exact z_int_2 w) (.cons 0 [VP.bool x1.1, VP.nums .u32 x1.2] rfl rfl (ar_cells_agg (ar_tmp (av_rs 1 rfl rfl))) (.cons 2 [VP.bool y1.1, VP.nums .u32 y1.2] rfl rfl (ar_cells_agg (ar_tmp (av_rs 3 rfl rfl))) (.nil _)))⟩,
      .inl ⟨wants_plain rfl, does_call (s_odd2 x1 y1 hx1 hy1 ho) rfl hb_collator_collatorlaw01_Odd rfl rfl rfl rfl ⟨(ar_arr (av_rs 4 rfl rfl)), trivial⟩⟩,
      .inl ⟨wants_plain rfl, does_move _ (.inl rfl) rfl rfl rfl rfl (ar_tmp (av_rs 5 rfl rfl))⟩,
      .inr (skips_guard true rfl rfl rfl (av_rs 6 rfl rfl) rfl rfl rfl rfl),
      .inr (skips_guard true rfl rfl rfl (av_rs 6 rfl rfl) rfl rfl rfl rfl),
      .inr (skips_guard true rfl rfl rfl (av_rs 6 rfl rfl) rfl rfl rfl rfl),
      .inr (skips_guard true rfl rfl rfl (av_rs 6 rfl rfl) rfl rfl rfl rfl),
      .inr (skips_guard true rfl rfl rfl (av_rs 6 rfl rfl) rfl rfl rfl rfl),
      .inl ⟨wants_plain rfl, does_pick true _ _ _ rfl rfl rfl rfl rfl (ar_tmp (av_rs 6 rfl rfl)) (ar_const (fun _ => rfl))⟩,
      .inl ⟨wants_plain rfl, does_move _ (.inl rfl) rfl rfl rfl rfl (ar_tmp (av_rs 7 rfl rfl))⟩,
      .inr (skips_guard true rfl rfl rfl (av_rs 8 rfl rfl) rfl rfl rfl rfl),
      .inr (skips_guard true rfl rfl rfl (av_rs 8 rfl rfl) rfl rfl rfl rfl),
      .inr (skips_guard true rfl rfl rfl (av_rs 8 rfl rfl) rfl rfl rfl rfl),
      .inr (skips_guard true rfl rfl rfl (av_rs 8 rfl rfl) rfl rfl rfl rfl),
      .inr (skips_guard true rfl rfl rfl (av_rs 8 rfl rfl) rfl rfl rfl rfl),
      .inl ⟨wants_plain rfl, does_pick true _ _ _ rfl rfl rfl rfl rfl (ar_tmp (av_rs 8 rfl rfl)) (ar_const (fun _ => rfl))⟩,
      .inl ⟨wants_plain rfl, does_move _ (.inl rfl) rfl rfl rfl rfl (ar_tmp (av_rs 9 rfl rfl))⟩,
      .inr (skips_guard true rfl rfl rfl (av_rs 10 rfl rfl) rfl rfl rfl rfl),
      .inr (skips_guard true rfl rfl rfl (av_rs 10 rfl rfl) rfl rfl rfl rfl),
      .inr (skips_guard true rfl rfl rfl (av_rs 10 rfl rfl) rfl rfl rfl rfl),
      .inl ⟨wants_plain rfl, does_pick true _ _ _ rfl rfl rfl rfl rfl (ar_tmp (av_rs 10 rfl rfl)) (ar_const (fun _ => rfl))⟩,
      trivial⟩ ?_
    refine nx_sub (fs' := [.rows 5 2 (fodd2_EA_c p0 q0 x1 y1), .slot 6 (VP.int .i64 ((2 : Nat) : Int)), .slot 7 (VP.int .i64 ((1 : Nat) : Int)), .slot 8 (VP.bool (decide (((1 : Nat) : Int) < ((2 : Nat) : Int)))), .rp 9 5 4, .slot 10 (VP.agg [VP.bool x1.1, VP.nums .u32 x1.2, VP.bool y1.1, VP.nums .u32 y1.2]), .box 4 100 [VP.bool x1.1, VP.nums .u32 x1.2, VP.bool y1.1, VP.nums .u32 y1.2], .fp 11 4 0, .slot 12 (VP.agg [VP.bool x1.1, VP.nums .u32 x1.2]), .fp 13 4 2, .slot 14 (VP.agg [VP.bool y1.1, VP.nums .u32 y1.2]), .arr 15 69 2 [VP.bool x1.1, VP.nums .u32 x1.2, VP.bool y1.1, VP.nums .u32 y1.2], .slot 16 (VP.bool true), .slot 17 (VP.bool true), .slot 23 (VP.bool true), .slot 24 (VP.bool true), .slot 30 (VP.bool true), .slot 31 (VP.bool true), .slot 35 (VP.bool true)]) [0, 1, 2, 3, 4, 5, 6, 7, 8, 9, 10, 11, 12, 13, 14, 15, 16, 17, 18] rfl ?_
    refine nx_then ?_
    refine t_cond_t 18 rfl ?_
    refine t_seq ?_
    refine t_region (F := ⟨_, _, _, _⟩) [.rows 5 2 (fodd2_EA_c p0 q0 x1 y1), .slot 6 (VP.int .i64 ((2 : Nat) : Int)), .slot 7 (VP.int .i64 ((1 : Nat) : Int)), .slot 8 (VP.bool (decide (((1 : Nat) : Int) < ((2 : Nat) : Int)))), .rp 9 5 4, .slot 10 (VP.agg [VP.bool x1.1, VP.nums .u32 x1.2, VP.bool y1.1, VP.nums .u32 y1.2]), .box 4 100 [VP.bool x1.1, VP.nums .u32 x1.2, VP.bool y1.1, VP.nums .u32 y1.2], .fp 11 4 0, .slot 12 (VP.agg [VP.bool x1.1, VP.nums .u32 x1.2]), .fp 13 4 2, .slot 14 (VP.agg [VP.bool y1.1, VP.nums .u32 y1.2]), .arr 15 69 2 [VP.bool x1.1, VP.nums .u32 x1.2, VP.bool y1.1, VP.nums .u32 y1.2], .slot 16 (VP.bool true), .slot 17 (VP.bool true), .slot 23 (VP.bool true), .slot 24 (VP.bool true), .slot 30 (VP.bool true), .slot 31 (VP.bool true), .slot 35 (VP.bool true)] [] [(0, .slot 2 (VP.bool true))] [0, 1, 2, 3, 4, 5, 6, 7, 8, 9, 10, 11, 12, 13, 14, 15, 16, 17, 18] [] rfl rfl follow rfl ⟨
      .inl ⟨wants_plain rfl, does_move _ (.inr rfl) rfl rfl rfl rfl (ar_const (fun _ => rfl))⟩,
      trivial⟩ ?_
    refine nx_sub (fs' := [.rows 5 2 (fodd2_EA_c p0 q0 x1 y1), .slot 6 (VP.int .i64 ((2 : Nat) : Int)), .slot 7 (VP.int .i64 ((1 : Nat) : Int)), .slot 8 (VP.bool (decide (((1 : Nat) : Int) < ((2 : Nat) : Int)))), .rp 9 5 4, .slot 10 (VP.agg [VP.bool x1.1, VP.nums .u32 x1.2, VP.bool y1.1, VP.nums .u32 y1.2]), .box 4 100 [VP.bool x1.1, VP.nums .u32 x1.2, VP.bool y1.1, VP.nums .u32 y1.2], .fp 11 4 0, .slot 12 (VP.agg [VP.bool x1.1, VP.nums .u32 x1.2]), .fp 13 4 2, .slot 14 (VP.agg [VP.bool y1.1, VP.nums .u32 y1.2]), .arr 15 69 2 [VP.bool x1.1, VP.nums .u32 x1.2, VP.bool y1.1, VP.nums .u32 y1.2], .slot 16 (VP.bool true), .slot 17 (VP.bool true), .slot 23 (VP.bool true), .slot 24 (VP.bool true), .slot 30 (VP.bool true), .slot 31 (VP.bool true), .slot 35 (VP.bool true), .slot 2 (VP.bool true)]) [0, 1, 2, 3, 4, 5, 6, 7, 8, 9, 10, 11, 12, 13, 14, 15, 16, 17, 18, 19] rfl ?_
    refine nx_then ?_
    refine t_ret ?_
    refine rt_block ?_
    refine rt_then ?_
    refine rt_then ?_
    refine rt_block ?_
    refine rt_then ?_
    exact rt_one rfl (res_tmp 19 rfl)
abbrev fodd2_EB_c (p0 q0 : Int) (p1 q1 : Int) : List VP := [Bz p0, Dz p0, Bz q0, Dz q0, Bz p1, Dz p1, Bz q1, Dz q1]
set_option maxRecDepth 100000 in
set_option maxHeartbeats 4000000 in
theorem fodd2_EB (p0 q0 : Int) (hp0 : L p0 ≤ 5) (hq0 : L q0 ≤ 5) (hb0 : rightF p0 q0 = true) (p1 q1 : Int) (hp1 : L p1 ≤ 10) (hq1 : L q1 ≤ 10) (hb1 : 5 < L p1) : Spec Try.prog 73 [isRows 2 (fodd2_EB_c p0 q0 p1 q1)] (VP.bool true) := by
  refine spec_ofP (xs := [.rows 2 (fodd2_EB_c p0 q0 p1 q1)]) 37 [4] Try.func73 rfl Try.ntmps73 rfl fun w0 => ?_
  refine t_seq ?_
  refine t_region (F := ⟨_, _, _, _⟩) [.rows 0 2 (fodd2_EB_c p0 q0 p1 q1)] [] [(0, .slot 2 (VP.bool false))] [0] [] rfl rfl follow rfl ⟨
    .inl ⟨wants_plain rfl, does_move _ (.inr rfl) rfl rfl rfl rfl (ar_const (fun _ => rfl))⟩,
    trivial⟩ ?_
  refine nx_sub (fs' := [.rows 0 2 (fodd2_EB_c p0 q0 p1 q1), .slot 2 (VP.bool false)]) [0, 1] rfl ?_
  refine nx_then ?_
  refine t_seq ?_
  refine t_seq ?_
  refine t_region (F := ⟨_, _, _, _⟩) [.rows 0 2 (fodd2_EB_c p0 q0 p1 q1), .slot 2 (VP.bool false)] [] [(0, .rows 5 2 (fodd2_EB_c p0 q0 p1 q1)), (1, .slot 6 (VP.int .i64 ((2 : Nat) : Int))), (2, .slot 7 (VP.int .i64 0))] [0, 1] [] rfl rfl follow rfl ⟨
    .inl ⟨wants_plain rfl, does_moveRows _ (.inl rfl) rfl rfl rfl rfl rfl (av_fs 0 rfl)⟩,
    .inl ⟨wants_plain rfl, does_lenRows _ _ rfl (by kernel_rfl) rfl rfl rfl rfl rfl (av_rs 0 rfl rfl)⟩,
    .inl ⟨wants_plain rfl, does_move _ (.inl rfl) rfl rfl rfl rfl (ar_const (fun _ => rfl))⟩,
    trivial⟩ ?_
  refine nx_sub (fs' := [.slot 2 (VP.bool false), .rows 5 2 (fodd2_EB_c p0 q0 p1 q1), .slot 6 (VP.int .i64 ((2 : Nat) : Int)), .slot 7 (VP.int .i64 0)]) [1, 2, 3, 4] rfl ?_
  refine nx_then ?_
  refine t_block ?_
  refine t_loop (σ := {k : Nat // k ≤ 1}) (fun s => [.rows 5 2 (fodd2_EB_c p0 q0 p1 q1), .slot 6 (VP.int .i64 ((2 : Nat) : Int)), .slot 7 (VP.int .i64 ((s.1 : Nat) : Int))]) (fun s => 2 - s.1) (⟨0, by decide⟩) [1, 2, 3] rfl ?_
  intro s
  obtain ⟨k, hk⟩ := s
  have hc : k = 0 ∨ k = 1 := by omega
  rcases hc with rfl | rfl
  case inl =>
    refine t_seq ?_
    refine t_region (F := ⟨_, _, _, _⟩) [.rows 5 2 (fodd2_EB_c p0 q0 p1 q1), .slot 6 (VP.int .i64 ((2 : Nat) : Int)), .slot 7 (VP.int .i64 ((0 : Nat) : Int))] [] [(0, .slot 8 (VP.bool (decide (((0 : Nat) : Int) < ((2 : Nat) : Int)))))] [0, 1, 2] [] rfl rfl follow rfl ⟨
      .inl ⟨wants_plain rfl, does_cmp (m := ((0 : Nat) : Int)) (n := ((2 : Nat) : Int)) _ _ _ _ _ rfl rfl rfl rfl rfl rfl .i64 (ar_tmp (av_fs 2 rfl)) (ar_tmp (av_fs 1 rfl))⟩,
      trivial⟩ ?_
    refine nx_sub (fs' := [.rows 5 2 (fodd2_EB_c p0 q0 p1 q1), .slot 6 (VP.int .i64 ((2 : Nat) : Int)), .slot 7 (VP.int .i64 ((0 : Nat) : Int)), .slot 8 (VP.bool (decide (((0 : Nat) : Int) < ((2 : Nat) : Int))))]) [0, 1, 2, 3] rfl ?_
    refine nx_then ?_
    refine t_seq ?_
    refine t_cond_te 3 rfl rfl ?_
    refine t_skip ?_
    refine nx_then ?_
    refine t_seq ?_
    refine t_block ?_
    refine t_seq ?_
    refine t_region (F := ⟨_, _, _, _⟩) [.rows 5 2 (fodd2_EB_c p0 q0 p1 q1), .slot 6 (VP.int .i64 ((2 : Nat) : Int)), .slot 7 (VP.int .i64 ((0 : Nat) : Int)), .slot 8 (VP.bool (decide (((0 : Nat) : Int) < ((2 : Nat) : Int))))] [] [(0, .rp 9 5 0), (1, .slot 10 (VP.agg [Bz p0, Dz p0, Bz q0, Dz q0])), (2, .own 4 100 4), (3, .box 4 100 [Bz p0, Dz p0, Bz q0, Dz q0])] [0, 1, 2, 3] [] rfl rfl follow rfl ⟨
      .inl ⟨wants_plain rfl, does_indexRows (m := 0) (sz := 4) _ _ rfl Try.underlying178 (fun w => run_sizeAgg ty_agg_api_Frac w) rfl rfl rfl rfl rfl rfl (by decide) rfl (av_fs 0 rfl) (ar_tmp (av_fs 2 rfl))⟩,
      .inl ⟨wants_plain rfl, does_loadRows _ rfl ty_agg_api_Frac rfl rfl rfl rfl rfl rfl rfl (av_rs 0 rfl rfl) (av_fs 0 rfl)⟩,
      .inl ⟨wants_plain rfl, does_allocOwn [Bz 0, Dz 0, Bz 0, Dz 0] ty_zero_api_Frac rfl rfl rfl rfl rfl z_frac rfl⟩,
      .inl ⟨wants_plain rfl, does_storeNew 4 _ _ ty_agg_api_Frac rfl rfl rfl rfl rfl (pt_own (av_rs 2 rfl rfl)) (av_rs 2 rfl rfl) (ar_tmp (av_rs 1 rfl rfl))⟩,
      trivial⟩ ?_
    refine nx_sub (fs' := [.rows 5 2 (fodd2_EB_c p0 q0 p1 q1), .slot 6 (VP.int .i64 ((2 : Nat) : Int)), .slot 7 (VP.int .i64 ((0 : Nat) : Int)), .slot 8 (VP.bool (decide (((0 : Nat) : Int) < ((2 : Nat) : Int)))), .rp 9 5 0, .slot 10 (VP.agg [Bz p0, Dz p0, Bz q0, Dz q0]), .box 4 100 [Bz p0, Dz p0, Bz q0, Dz q0]]) [0, 1, 2, 3, 4, 5, 7] rfl ?_
    refine nx_then ?_
    refine t_seq ?_
    refine t_region (F := ⟨_, _, _, _⟩) [.rows 5 2 (fodd2_EB_c p0 q0 p1 q1), .slot 6 (VP.int .i64 ((2 : Nat) : Int)), .slot 7 (VP.int .i64 ((0 : Nat) : Int)), .slot 8 (VP.bool (decide (((0 : Nat) : Int) < ((2 : Nat) : Int)))), .rp 9 5 0, .slot 10 (VP.agg [Bz p0, Dz p0, Bz q0, Dz q0]), .box 4 100 [Bz p0, Dz p0, Bz q0, Dz q0]] [] [(0, .fp 11 4 0), (1, .slot 12 (INT p0)), (2, .fp 13 4 2), (3, .slot 14 (INT q0)), (4, .arr 15 69 2 [Bz p0, Dz p0, Bz q0, Dz q0]), (5, .slot 16 (VP.bool false)), (6, .slot 17 (VP.bool false)), (7, .fp 18 4 0), (8, .fp 19 4 1), (9, .slot 20 (Dz p0)), (10, .slot 21 (VP.int .i64 (((dg BB p0.natAbs).length : Nat) : Int))), (11, .slot 22 (VP.bool (decide ((((dg BB p0.natAbs).length : Nat) : Int) > 5)))), (12, .slot 23 (VP.bool (decide ((((dg BB p0.natAbs).length : Nat) : Int) > 5)))), (13, .slot 24 (VP.bool (decide ((((dg BB p0.natAbs).length : Nat) : Int) > 5)))), (14, .fp 25 4 2), (15, .fp 26 4 3), (16, .slot 27 (Dz q0)), (17, .slot 28 (VP.int .i64 (((dg BB q0.natAbs).length : Nat) : Int))), (18, .slot 29 (VP.bool (decide ((((dg BB q0.natAbs).length : Nat) : Int) > 5)))), (19, .slot 30 (VP.bool (decide ((((dg BB q0.natAbs).length : Nat) : Int) > 5)))), (20, .slot 31 (VP.bool (decide ((((dg BB q0.natAbs).length : Nat) : Int) > 5)))), (21, .slot 32 (VP.agg [Bz p0, Dz p0, Bz q0, Dz q0])), (22, .slot 33 (VP.bool (rightF p0 q0))), (23, .slot 34 (VP.bool false)), (24, .slot 35 (VP.bool false))] [0, 1, 2, 3, 4, 5, 6] [] rfl rfl follow rfl ⟨
      .inl ⟨wants_plain rfl, does_field _ _ _ 0 ty_f0_api_Frac rfl rfl rfl rfl rfl rfl rfl (pt_box (av_fs 6 rfl))⟩,
      .inl ⟨wants_plain rfl, does_loadAgg _ ty_agg_api_Int rfl rfl rfl rfl rfl rfl (pt_fp (av_rs 0 rfl rfl)) (av_fs 6 rfl)⟩,
      .inl ⟨wants_plain rfl, does_field _ _ _ 2 ty_f1_api_Frac rfl rfl rfl rfl rfl rfl rfl (pt_box (av_fs 6 rfl))⟩,
      .inl ⟨wants_plain rfl, does_loadAgg _ ty_agg_api_Int rfl rfl rfl rfl rfl rfl (pt_fp (av_rs 2 rfl rfl)) (av_fs 6 rfl)⟩,
      .inl ⟨wants_plain rfl, does_buildSlice (sz := 2) [Bz 0, Dz 0, Bz 0, Dz 0] ty_zero_api_Int (by kernel_rfl) (fun w => run_sizeAgg ty_agg_api_Int w) rfl rfl rfl rfl rfl rfl (by kernel_rfl) (fun w => by exact z_int_2 w) (.cons 0 [Bz p0, Dz p0] rfl rfl (ar_cells_agg (ar_tmp (av_rs 1 rfl rfl))) (.cons 2 [Bz q0, Dz q0] rfl rfl (ar_cells_agg (ar_tmp (av_rs 3 rfl rfl))) (.nil _)))⟩,
      .inl ⟨wants_plain rfl, does_call (s_even2 p0 q0 (lle hp0 (by decide)) (lle hq0 (by decide))) rfl hb_collator_collatorlaw01_Odd rfl rfl rfl rfl ⟨(ar_arr (av_rs 4 rfl rfl)), trivial⟩⟩,
      .inl ⟨wants_plain rfl, does_move _ (.inl rfl) rfl rfl rfl rfl (ar_tmp (av_rs 5 rfl rfl))⟩,
      .inl ⟨wants_guard false rfl rfl rfl (av_rs 6 rfl rfl), does_field _ _ _ 0 ty_f0_api_Frac rfl rfl rfl rfl rfl rfl rfl (pt_box (av_fs 6 rfl))⟩,
      .inl ⟨wants_guard false rfl rfl rfl (av_rs 6 rfl rfl), does_field _ _ _ 1 ty_f1_api_Int rfl rfl rfl rfl rfl rfl rfl (pt_fp (av_rs 7 rfl rfl))⟩,
      .inl ⟨wants_guard false rfl rfl rfl (av_rs 6 rfl rfl), does_loadOne _ ty_one___uint32 rfl rfl rfl rfl rfl rfl (pt_fp (av_rs 8 rfl rfl)) (av_fs 6 rfl)⟩,
      .inl ⟨wants_guard false rfl rfl rfl (av_rs 6 rfl rfl), does_len _ _ (by kernel_rfl) rfl rfl rfl rfl rfl (ar_tmp (av_rs 9 rfl rfl))⟩,
      .inl ⟨wants_guard false rfl rfl rfl (av_rs 6 rfl rfl), does_cmp (m := (((dg BB p0.natAbs).length : Nat) : Int)) (n := 5) _ _ _ _ _ rfl rfl rfl rfl rfl rfl .i64 (ar_tmp (av_rs 10 rfl rfl)) (ar_const (fun _ => rfl))⟩,
      .inl ⟨wants_plain rfl, does_pick false _ _ _ rfl rfl rfl rfl rfl (ar_tmp (av_rs 6 rfl rfl)) (ar_tmp (av_rs 11 rfl rfl))⟩,
      .inl ⟨wants_plain rfl, does_move _ (.inl rfl) rfl rfl rfl rfl (ar_tmp (av_rs 12 rfl rfl))⟩,
      .inl ⟨wants_guard false rfl rfl rfl (av_bool (gt5_no hp0) (av_rs 13 rfl rfl)), does_field _ _ _ 2 ty_f1_api_Frac rfl rfl rfl rfl rfl rfl rfl (pt_box (av_fs 6 rfl))⟩,
      .inl ⟨wants_guard false rfl rfl rfl (av_bool (gt5_no hp0) (av_rs 13 rfl rfl)), does_field _ _ _ 1 ty_f1_api_Int rfl rfl rfl rfl rfl rfl rfl (pt_fp (av_rs 14 rfl rfl))⟩,
      .inl ⟨wants_guard false rfl rfl rfl (av_bool (gt5_no hp0) (av_rs 13 rfl rfl)), does_loadOne _ ty_one___uint32 rfl rfl rfl rfl rfl rfl (pt_fp (av_rs 15 rfl rfl)) (av_fs 6 rfl)⟩,
      .inl ⟨wants_guard false rfl rfl rfl (av_bool (gt5_no hp0) (av_rs 13 rfl rfl)), does_len _ _ (by kernel_rfl) rfl rfl rfl rfl rfl (ar_tmp (av_rs 16 rfl rfl))⟩,
      .inl ⟨wants_guard false rfl rfl rfl (av_bool (gt5_no hp0) (av_rs 13 rfl rfl)), does_cmp (m := (((dg BB q0.natAbs).length : Nat) : Int)) (n := 5) _ _ _ _ _ rfl rfl rfl rfl rfl rfl .i64 (ar_tmp (av_rs 17 rfl rfl)) (ar_const (fun _ => rfl))⟩,
      .inl ⟨wants_plain rfl, does_pick false _ _ _ rfl rfl rfl rfl rfl (ar_tmp (av_bool (gt5_no hp0) (av_rs 13 rfl rfl))) (ar_tmp (av_rs 18 rfl rfl))⟩,
      .inl ⟨wants_plain rfl, does_move _ (.inl rfl) rfl rfl rfl rfl (ar_tmp (av_rs 19 rfl rfl))⟩,
      .inl ⟨wants_guard false rfl rfl rfl (av_bool (gt5_no hq0) (av_rs 20 rfl rfl)), does_loadAgg _ ty_agg_api_Frac rfl rfl rfl rfl rfl rfl (pt_box (av_fs 6 rfl)) (av_fs 6 rfl)⟩,
      .inl ⟨wants_guard false rfl rfl rfl (av_bool (gt5_no hq0) (av_rs 20 rfl rfl)), does_call (g_right p0 q0 (lle hp0 (by decide)) (lle hq0 (by decide))) rfl hb_collator_collatorref02_Right rfl rfl rfl rfl ⟨(ar_tmp (av_rs 21 rfl rfl)), trivial⟩⟩,
      .inl ⟨wants_guard false rfl rfl rfl (av_bool (gt5_no hq0) (av_rs 20 rfl rfl)), does_not true _ _ rfl rfl rfl rfl rfl (ar_tmp (av_bool hb0 (av_rs 22 rfl rfl)))⟩,
      .inl ⟨wants_plain rfl, does_pick false _ _ _ rfl rfl rfl rfl rfl (ar_tmp (av_bool (gt5_no hq0) (av_rs 20 rfl rfl))) (ar_tmp (av_rs 23 rfl rfl))⟩,
      trivial⟩ ?_
    refine nx_sub (fs' := [.rows 5 2 (fodd2_EB_c p0 q0 p1 q1), .slot 6 (VP.int .i64 ((2 : Nat) : Int)), .slot 7 (VP.int .i64 ((0 : Nat) : Int)), .slot 8 (VP.bool (decide (((0 : Nat) : Int) < ((2 : Nat) : Int)))), .rp 9 5 0, .slot 10 (VP.agg [Bz p0, Dz p0, Bz q0, Dz q0]), .box 4 100 [Bz p0, Dz p0, Bz q0, Dz q0], .fp 11 4 0, .slot 12 (INT p0), .fp 13 4 2, .slot 14 (INT q0), .arr 15 69 2 [Bz p0, Dz p0, Bz q0, Dz q0], .slot 16 (VP.bool false), .slot 17 (VP.bool false), .fp 18 4 0, .fp 19 4 1, .slot 20 (Dz p0), .slot 21 (VP.int .i64 (((dg BB p0.natAbs).length : Nat) : Int)), .slot 22 (VP.bool (decide ((((dg BB p0.natAbs).length : Nat) : Int) > 5))), .slot 23 (VP.bool (decide ((((dg BB p0.natAbs).length : Nat) : Int) > 5))), .slot 24 (VP.bool (decide ((((dg BB p0.natAbs).length : Nat) : Int) > 5))), .fp 25 4 2, .fp 26 4 3, .slot 27 (Dz q0), .slot 28 (VP.int .i64 (((dg BB q0.natAbs).length : Nat) : Int)), .slot 29 (VP.bool (decide ((((dg BB q0.natAbs).length : Nat) : Int) > 5))), .slot 30 (VP.bool (decide ((((dg BB q0.natAbs).length : Nat) : Int) > 5))), .slot 31 (VP.bool (decide ((((dg BB q0.natAbs).length : Nat) : Int) > 5))), .slot 32 (VP.agg [Bz p0, Dz p0, Bz q0, Dz q0]), .slot 33 (VP.bool (rightF p0 q0)), .slot 34 (VP.bool false), .slot 35 (VP.bool false)]) [0, 1, 2, 3, 4, 5, 6, 7, 8, 9, 10, 11, 12, 13, 14, 15, 16, 17, 18, 19, 20, 21, 22, 23, 24, 25, 26, 27, 28, 29, 30, 31] rfl ?_
    refine nx_then ?_
    refine t_cond_f 31 rfl ?_
    refine t_skip ?_
    refine nx_block ?_
    refine nx_then ?_
    refine t_region (F := ⟨_, _, _, _⟩) [.rows 5 2 (fodd2_EB_c p0 q0 p1 q1), .slot 6 (VP.int .i64 ((2 : Nat) : Int)), .slot 8 (VP.bool (decide (((0 : Nat) : Int) < ((2 : Nat) : Int)))), .rp 9 5 0, .slot 10 (VP.agg [Bz p0, Dz p0, Bz q0, Dz q0]), .box 4 100 [Bz p0, Dz p0, Bz q0, Dz q0], .fp 11 4 0, .slot 12 (INT p0), .fp 13 4 2, .slot 14 (INT q0), .arr 15 69 2 [Bz p0, Dz p0, Bz q0, Dz q0], .slot 16 (VP.bool false), .slot 17 (VP.bool false), .fp 18 4 0, .fp 19 4 1, .slot 20 (Dz p0), .slot 21 (VP.int .i64 (((dg BB p0.natAbs).length : Nat) : Int)), .slot 22 (VP.bool (decide ((((dg BB p0.natAbs).length : Nat) : Int) > 5))), .slot 23 (VP.bool (decide ((((dg BB p0.natAbs).length : Nat) : Int) > 5))), .slot 24 (VP.bool (decide ((((dg BB p0.natAbs).length : Nat) : Int) > 5))), .fp 25 4 2, .fp 26 4 3, .slot 27 (Dz q0), .slot 28 (VP.int .i64 (((dg BB q0.natAbs).length : Nat) : Int)), .slot 29 (VP.bool (decide ((((dg BB q0.natAbs).length : Nat) : Int) > 5))), .slot 30 (VP.bool (decide ((((dg BB q0.natAbs).length : Nat) : Int) > 5))), .slot 31 (VP.bool (decide ((((dg BB q0.natAbs).length : Nat) : Int) > 5))), .slot 32 (VP.agg [Bz p0, Dz p0, Bz q0, Dz q0]), .slot 33 (VP.bool (rightF p0 q0)), .slot 34 (VP.bool false), .slot 35 (VP.bool false)] [(1, .slot 7 (VP.int .i64 ((0 : Nat) : Int)))] [(0, .slot 36 (VP.int .i64 ((1 : Nat) : Int))), (1, .slot 7 (VP.int .i64 ((1 : Nat) : Int)))] [0, 1, 3, 4, 5, 6, 7, 8, 9, 10, 11, 12, 13, 14, 15, 16, 17, 18, 19, 20, 21, 22, 23, 24, 25, 26, 27, 28, 29, 30, 31] [2] rfl rfl follow rfl ⟨
      .inl ⟨wants_plain rfl, does_addInt (m := ((0 : Nat) : Int)) (n := 1) _ _ _ _ rfl rfl rfl rfl rfl (by omega) (ar_tmp (av_os 0 rfl rfl)) (ar_const (fun _ => rfl))⟩,
      .inl ⟨wants_plain rfl, does_move _ (.inl rfl) rfl rfl rfl rfl (ar_tmp (av_rs 0 rfl rfl))⟩,
      trivial⟩ ?_
    refine nx_sub (fs' := [.rows 5 2 (fodd2_EB_c p0 q0 p1 q1), .slot 6 (VP.int .i64 ((2 : Nat) : Int)), .slot 8 (VP.bool (decide (((0 : Nat) : Int) < ((2 : Nat) : Int)))), .rp 9 5 0, .slot 10 (VP.agg [Bz p0, Dz p0, Bz q0, Dz q0]), .box 4 100 [Bz p0, Dz p0, Bz q0, Dz q0], .fp 11 4 0, .slot 12 (INT p0), .fp 13 4 2, .slot 14 (INT q0), .arr 15 69 2 [Bz p0, Dz p0, Bz q0, Dz q0], .slot 16 (VP.bool false), .slot 17 (VP.bool false), .fp 18 4 0, .fp 19 4 1, .slot 20 (Dz p0), .slot 21 (VP.int .i64 (((dg BB p0.natAbs).length : Nat) : Int)), .slot 22 (VP.bool (decide ((((dg BB p0.natAbs).length : Nat) : Int) > 5))), .slot 23 (VP.bool (decide ((((dg BB p0.natAbs).length : Nat) : Int) > 5))), .slot 24 (VP.bool (decide ((((dg BB p0.natAbs).length : Nat) : Int) > 5))), .fp 25 4 2, .fp 26 4 3, .slot 27 (Dz q0), .slot 28 (VP.int .i64 (((dg BB q0.natAbs).length : Nat) : Int)), .slot 29 (VP.bool (decide ((((dg BB q0.natAbs).length : Nat) : Int) > 5))), .slot 30 (VP.bool (decide ((((dg BB q0.natAbs).length : Nat) : Int) > 5))), .slot 31 (VP.bool (decide ((((dg BB q0.natAbs).length : Nat) : Int) > 5))), .slot 32 (VP.agg [Bz p0, Dz p0, Bz q0, Dz q0]), .slot 33 (VP.bool (rightF p0 q0)), .slot 34 (VP.bool false), .slot 35 (VP.bool false), .slot 36 (VP.int .i64 ((1 : Nat) : Int)), .slot 7 (VP.int .i64 ((1 : Nat) : Int))]) [0, 1, 2, 3, 4, 5, 6, 7, 8, 9, 10, 11, 12, 13, 14, 15, 16, 17, 18, 19, 20, 21, 22, 23, 24, 25, 26, 27, 28, 29, 30, 31, 32] rfl ?_
    exact nx_round ⟨1, by decide⟩ (by show 2 - 1 < 2 - 0; decide) [0, 1, 32] rfl
  case inr =>
    refine t_seq ?_
    refine t_region (F := ⟨_, _, _, _⟩) [.rows 5 2 (fodd2_EB_c p0 q0 p1 q1), .slot 6 (VP.int .i64 ((2 : Nat) : Int)), .slot 7 (VP.int .i64 ((1 : Nat) : Int))] [] [(0, .slot 8 (VP.bool (decide (((1 : Nat) : Int) < ((2 : Nat) : Int)))))] [0, 1, 2] [] rfl rfl follow rfl ⟨
      .inl ⟨wants_plain rfl, does_cmp (m := ((1 : Nat) : Int)) (n := ((2 : Nat) : Int)) _ _ _ _ _ rfl rfl rfl rfl rfl rfl .i64 (ar_tmp (av_fs 2 rfl)) (ar_tmp (av_fs 1 rfl))⟩,
      trivial⟩ ?_
    refine nx_sub (fs' := [.rows 5 2 (fodd2_EB_c p0 q0 p1 q1), .slot 6 (VP.int .i64 ((2 : Nat) : Int)), .slot 7 (VP.int .i64 ((1 : Nat) : Int)), .slot 8 (VP.bool (decide (((1 : Nat) : Int) < ((2 : Nat) : Int))))]) [0, 1, 2, 3] rfl ?_
    refine nx_then ?_
    refine t_seq ?_
    refine t_cond_te 3 rfl rfl ?_
    refine t_skip ?_
    refine nx_then ?_
    refine t_seq ?_
    refine t_block ?_
    refine t_seq ?_
    refine t_region (F := ⟨_, _, _, _⟩) [.rows 5 2 (fodd2_EB_c p0 q0 p1 q1), .slot 6 (VP.int .i64 ((2 : Nat) : Int)), .slot 7 (VP.int .i64 ((1 : Nat) : Int)), .slot 8 (VP.bool (decide (((1 : Nat) : Int) < ((2 : Nat) : Int))))] [] [(0, .rp 9 5 4), (1, .slot 10 (VP.agg [Bz p1, Dz p1, Bz q1, Dz q1])), (2, .own 4 100 4), (3, .box 4 100 [Bz p1, Dz p1, Bz q1, Dz q1])] [0, 1, 2, 3] [] rfl rfl follow rfl ⟨
      .inl ⟨wants_plain rfl, does_indexRows (m := 1) (sz := 4) _ _ rfl Try.underlying178 (fun w => run_sizeAgg ty_agg_api_Frac w) rfl rfl rfl rfl rfl rfl (by decide) rfl (av_fs 0 rfl) (ar_tmp (av_fs 2 rfl))⟩,
      .inl ⟨wants_plain rfl, does_loadRows _ rfl ty_agg_api_Frac rfl rfl rfl rfl rfl rfl rfl (av_rs 0 rfl rfl) (av_fs 0 rfl)⟩,
      .inl ⟨wants_plain rfl, does_allocOwn [Bz 0, Dz 0, Bz 0, Dz 0] ty_zero_api_Frac rfl rfl rfl rfl rfl z_frac rfl⟩,
      .inl ⟨wants_plain rfl, does_storeNew 4 _ _ ty_agg_api_Frac rfl rfl rfl rfl rfl (pt_own (av_rs 2 rfl rfl)) (av_rs 2 rfl rfl) (ar_tmp (av_rs 1 rfl rfl))⟩,
      trivial⟩ ?_
    refine nx_sub (fs' := [.rows 5 2 (fodd2_EB_c p0 q0 p1 q1), .slot 6 (VP.int .i64 ((2 : Nat) : Int)), .slot 7 (VP.int .i64 ((1 : Nat) : Int)), .slot 8 (VP.bool (decide (((1 : Nat) : Int) < ((2 : Nat) : Int)))), .rp 9 5 4, .slot 10 (VP.agg [Bz p1, Dz p1, Bz q1, Dz q1]), .box 4 100 [Bz p1, Dz p1, Bz q1, Dz q1]]) [0, 1, 2, 3, 4, 5, 7] rfl ?_
    refine nx_then ?_
    refine t_seq ?_
    refine t_region (F := ⟨_, _, _, _⟩) [.rows 5 2 (fodd2_EB_c p0 q0 p1 q1), .slot 6 (VP.int .i64 ((2 : Nat) : Int)), .slot 7 (VP.int .i64 ((1 : Nat) : Int)), .slot 8 (VP.bool (decide (((1 : Nat) : Int) < ((2 : Nat) : Int)))), .rp 9 5 4, .slot 10 (VP.agg [Bz p1, Dz p1, Bz q1, Dz q1]), .box 4 100 [Bz p1, Dz p1, Bz q1, Dz q1]] [] [(0, .fp 11 4 0), (1, .slot 12 (INT p1)), (2, .fp 13 4 2), (3, .slot 14 (INT q1)), (4, .arr 15 69 2 [Bz p1, Dz p1, Bz q1, Dz q1]), (5, .slot 16 (VP.bool false)), (6, .slot 17 (VP.bool false)), (7, .fp 18 4 0), (8, .fp 19 4 1), (9, .slot 20 (Dz p1)), (10, .slot 21 (VP.int .i64 (((dg BB p1.natAbs).length : Nat) : Int))), (11, .slot 22 (VP.bool (decide ((((dg BB p1.natAbs).length : Nat) : Int) > 5)))), (12, .slot 23 (VP.bool (decide ((((dg BB p1.natAbs).length : Nat) : Int) > 5)))), (13, .slot 24 (VP.bool (decide ((((dg BB p1.natAbs).length : Nat) : Int) > 5)))), (19, .slot 30 (VP.bool true)), (20, .slot 31 (VP.bool true)), (24, .slot 35 (VP.bool true))] [0, 1, 2, 3, 4, 5, 6] [] rfl rfl follow rfl ⟨
      .inl ⟨wants_plain rfl, does_field _ _ _ 0 ty_f0_api_Frac rfl rfl rfl rfl rfl rfl rfl (pt_box (av_fs 6 rfl))⟩,
      .inl ⟨wants_plain rfl, does_loadAgg _ ty_agg_api_Int rfl rfl rfl rfl rfl rfl (pt_fp (av_rs 0 rfl rfl)) (av_fs 6 rfl)⟩,
      .inl ⟨wants_plain rfl, does_field _ _ _ 2 ty_f1_api_Frac rfl rfl rfl rfl rfl rfl rfl (pt_box (av_fs 6 rfl))⟩,
      .inl ⟨wants_plain rfl, does_loadAgg _ ty_agg_api_Int rfl rfl rfl rfl rfl rfl (pt_fp (av_rs 2 rfl rfl)) (av_fs 6 rfl)⟩,
      .inl ⟨wants_plain rfl, does_buildSlice (sz := 2) [Bz 0, Dz 0, Bz 0, Dz 0] ty_zero_api_Int (by kernel_rfl) (fun w => run_sizeAgg ty_agg_api_Int w) rfl rfl rfl rfl rfl rfl (by kernel_rfl) (fun w => by exact z_int_2 w) (.cons 0 [Bz p1, Dz p1] rfl rfl (ar_cells_agg (ar_tmp (av_rs 1 rfl rfl))) (.cons 2 [Bz q1, Dz q1] rfl rfl (ar_cells_agg (ar_tmp (av_rs 3 rfl rfl))) (.nil _)))⟩,
      .inl ⟨wants_plain rfl, does_call (s_even2 p1 q1 hp1 hq1) rfl hb_collator_collatorlaw01_Odd rfl rfl rfl rfl ⟨(ar_arr (av_rs 4 rfl rfl)), trivial⟩⟩,
      .inl ⟨wants_plain rfl, does_move _ (.inl rfl) rfl rfl rfl rfl (ar_tmp (av_rs 5 rfl rfl))⟩,
      .inl ⟨wants_guard false rfl rfl rfl (av_rs 6 rfl rfl), does_field _ _ _ 0 ty_f0_api_Frac rfl rfl rfl rfl rfl rfl rfl (pt_box (av_fs 6 rfl))⟩,
      .inl ⟨wants_guard false rfl rfl rfl (av_rs 6 rfl rfl), does_field _ _ _ 1 ty_f1_api_Int rfl rfl rfl rfl rfl rfl rfl (pt_fp (av_rs 7 rfl rfl))⟩,
      .inl ⟨wants_guard false rfl rfl rfl (av_rs 6 rfl rfl), does_loadOne _ ty_one___uint32 rfl rfl rfl rfl rfl rfl (pt_fp (av_rs 8 rfl rfl)) (av_fs 6 rfl)⟩,
      .inl ⟨wants_guard false rfl rfl rfl (av_rs 6 rfl rfl), does_len _ _ (by kernel_rfl) rfl rfl rfl rfl rfl (ar_tmp (av_rs 9 rfl rfl))⟩,
      .inl ⟨wants_guard false rfl rfl rfl (av_rs 6 rfl rfl), does_cmp (m := (((dg BB p1.natAbs).length : Nat) : Int)) (n := 5) _ _ _ _ _ rfl rfl rfl rfl rfl rfl .i64 (ar_tmp (av_rs 10 rfl rfl)) (ar_const (fun _ => rfl))⟩,
      .inl ⟨wants_plain rfl, does_pick false _ _ _ rfl rfl rfl rfl rfl (ar_tmp (av_rs 6 rfl rfl)) (ar_tmp (av_rs 11 rfl rfl))⟩,
      .inl ⟨wants_plain rfl, does_move _ (.inl rfl) rfl rfl rfl rfl (ar_tmp (av_rs 12 rfl rfl))⟩,
      .inr (skips_guard true rfl rfl rfl (av_bool (gt5_yes hb1) (av_rs 13 rfl rfl)) rfl rfl rfl rfl),
      .inr (skips_guard true rfl rfl rfl (av_bool (gt5_yes hb1) (av_rs 13 rfl rfl)) rfl rfl rfl rfl),
      .inr (skips_guard true rfl rfl rfl (av_bool (gt5_yes hb1) (av_rs 13 rfl rfl)) rfl rfl rfl rfl),
      .inr (skips_guard true rfl rfl rfl (av_bool (gt5_yes hb1) (av_rs 13 rfl rfl)) rfl rfl rfl rfl),
      .inr (skips_guard true rfl rfl rfl (av_bool (gt5_yes hb1) (av_rs 13 rfl rfl)) rfl rfl rfl rfl),
      .inl ⟨wants_plain rfl, does_pick true _ _ _ rfl rfl rfl rfl rfl (ar_tmp (av_bool (gt5_yes hb1) (av_rs 13 rfl rfl))) (ar_const (fun _ => rfl))⟩,
      .inl ⟨wants_plain rfl, does_move _ (.inl rfl) rfl rfl rfl rfl (ar_tmp (av_rs 14 rfl rfl))⟩,
      .inr (skips_guard true rfl rfl rfl (av_rs 15 rfl rfl) rfl rfl rfl rfl),
      .inr (skips_guard true rfl rfl rfl (av_rs 15 rfl rfl) rfl rfl rfl rfl),
      .inr (skips_guard true rfl rfl rfl (av_rs 15 rfl rfl) rfl rfl rfl rfl),
      .inl ⟨wants_plain rfl, does_pick true _ _ _ rfl rfl rfl rfl rfl (ar_tmp (av_rs 15 rfl rfl)) (ar_const (fun _ => rfl))⟩,
      trivial⟩ ?_
    refine nx_sub (fs' := [.rows 5 2 (fodd2_EB_c p0 q0 p1 q1), .slot 6 (VP.int .i64 ((2 : Nat) : Int)), .slot 7 (VP.int .i64 ((1 : Nat) : Int)), .slot 8 (VP.bool (decide (((1 : Nat) : Int) < ((2 : Nat) : Int)))), .rp 9 5 4, .slot 10 (VP.agg [Bz p1, Dz p1, Bz q1, Dz q1]), .box 4 100 [Bz p1, Dz p1, Bz q1, Dz q1], .fp 11 4 0, .slot 12 (INT p1), .fp 13 4 2, .slot 14 (INT q1), .arr 15 69 2 [Bz p1, Dz p1, Bz q1, Dz q1], .slot 16 (VP.bool false), .slot 17 (VP.bool false), .fp 18 4 0, .fp 19 4 1, .slot 20 (Dz p1), .slot 21 (VP.int .i64 (((dg BB p1.natAbs).length : Nat) : Int)), .slot 22 (VP.bool (decide ((((dg BB p1.natAbs).length : Nat) : Int) > 5))), .slot 23 (VP.bool (decide ((((dg BB p1.natAbs).length : Nat) : Int) > 5))), .slot 24 (VP.bool (decide ((((dg BB p1.natAbs).length : Nat) : Int) > 5))), .slot 30 (VP.bool true), .slot 31 (VP.bool true), .slot 35 (VP.bool true)]) [0, 1, 2, 3, 4, 5, 6, 7, 8, 9, 10, 11, 12, 13, 14, 15, 16, 17, 18, 19, 20, 21, 22, 23] rfl ?_
    refine nx_then ?_
    refine t_cond_t 23 rfl ?_
    refine t_seq ?_
    refine t_region (F := ⟨_, _, _, _⟩) [.rows 5 2 (fodd2_EB_c p0 q0 p1 q1), .slot 6 (VP.int .i64 ((2 : Nat) : Int)), .slot 7 (VP.int .i64 ((1 : Nat) : Int)), .slot 8 (VP.bool (decide (((1 : Nat) : Int) < ((2 : Nat) : Int)))), .rp 9 5 4, .slot 10 (VP.agg [Bz p1, Dz p1, Bz q1, Dz q1]), .box 4 100 [Bz p1, Dz p1, Bz q1, Dz q1], .fp 11 4 0, .slot 12 (INT p1), .fp 13 4 2, .slot 14 (INT q1), .arr 15 69 2 [Bz p1, Dz p1, Bz q1, Dz q1], .slot 16 (VP.bool false), .slot 17 (VP.bool false), .fp 18 4 0, .fp 19 4 1, .slot 20 (Dz p1), .slot 21 (VP.int .i64 (((dg BB p1.natAbs).length : Nat) : Int)), .slot 22 (VP.bool (decide ((((dg BB p1.natAbs).length : Nat) : Int) > 5))), .slot 23 (VP.bool (decide ((((dg BB p1.natAbs).length : Nat) : Int) > 5))), .slot 24 (VP.bool (decide ((((dg BB p1.natAbs).length : Nat) : Int) > 5))), .slot 30 (VP.bool true), .slot 31 (VP.bool true), .slot 35 (VP.bool true)] [] [(0, .slot 2 (VP.bool true))] [0, 1, 2, 3, 4, 5, 6, 7, 8, 9, 10, 11, 12, 13, 14, 15, 16, 17, 18, 19, 20, 21, 22, 23] [] rfl rfl follow rfl ⟨
      .inl ⟨wants_plain rfl, does_move _ (.inr rfl) rfl rfl rfl rfl (ar_const (fun _ => rfl))⟩,
      trivial⟩ ?_
    refine nx_sub (fs' := [.rows 5 2 (fodd2_EB_c p0 q0 p1 q1), .slot 6 (VP.int .i64 ((2 : Nat) : Int)), .slot 7 (VP.int .i64 ((1 : Nat) : Int)), .slot 8 (VP.bool (decide (((1 : Nat) : Int) < ((2 : Nat) : Int)))), .rp 9 5 4, .slot 10 (VP.agg [Bz p1, Dz p1, Bz q1, Dz q1]), .box 4 100 [Bz p1, Dz p1, Bz q1, Dz q1], .fp 11 4 0, .slot 12 (INT p1), .fp 13 4 2, .slot 14 (INT q1), .arr 15 69 2 [Bz p1, Dz p1, Bz q1, Dz q1], .slot 16 (VP.bool false), .slot 17 (VP.bool false), .fp 18 4 0, .fp 19 4 1, .slot 20 (Dz p1), .slot 21 (VP.int .i64 (((dg BB p1.natAbs).length : Nat) : Int)), .slot 22 (VP.bool (decide ((((dg BB p1.natAbs).length : Nat) : Int) > 5))), .slot 23 (VP.bool (decide ((((dg BB p1.natAbs).length : Nat) : Int) > 5))), .slot 24 (VP.bool (decide ((((dg BB p1.natAbs).length : Nat) : Int) > 5))), .slot 30 (VP.bool true), .slot 31 (VP.bool true), .slot 35 (VP.bool true), .slot 2 (VP.bool true)]) [0, 1, 2, 3, 4, 5, 6, 7, 8, 9, 10, 11, 12, 13, 14, 15, 16, 17, 18, 19, 20, 21, 22, 23, 24] rfl ?_
    refine nx_then ?_
    refine t_ret ?_
    refine rt_block ?_
    refine rt_then ?_
    refine rt_then ?_
    refine rt_block ?_
    refine rt_then ?_
    exact rt_one rfl (res_tmp 24 rfl)
abbrev fodd2_EC_c (p0 q0 : Int) (p1 q1 : Int) : List VP := [Bz p0, Dz p0, Bz q0, Dz q0, Bz p1, Dz p1, Bz q1, Dz q1]
set_option maxRecDepth 100000 in
set_option maxHeartbeats 4000000 in
theorem fodd2_EC (p0 q0 : Int) (hp0 : L p0 ≤ 5) (hq0 : L q0 ≤ 5) (hb0 : rightF p0 q0 = true) (p1 q1 : Int) (hp1 : L p1 ≤ 5) (hq1 : L q1 ≤ 10) (hb1 : 5 < L q1) : Spec Try.prog 73 [isRows 2 (fodd2_EC_c p0 q0 p1 q1)] (VP.bool true) := by
  refine spec_ofP (xs := [.rows 2 (fodd2_EC_c p0 q0 p1 q1)]) 37 [4] Try.func73 rfl Try.ntmps73 rfl fun w0 => ?_
  refine t_seq ?_
  refine t_region (F := ⟨_, _, _, _⟩) [.rows 0 2 (fodd2_EC_c p0 q0 p1 q1)] [] [(0, .slot 2 (VP.bool false))] [0] [] rfl rfl follow rfl ⟨
    .inl ⟨wants_plain rfl, does_move _ (.inr rfl) rfl rfl rfl rfl (ar_const (fun _ => rfl))⟩,
    trivial⟩ ?_
  refine nx_sub (fs' := [.rows 0 2 (fodd2_EC_c p0 q0 p1 q1), .slot 2 (VP.bool false)]) [0, 1] rfl ?_
  refine nx_then ?_
  refine t_seq ?_
  refine t_seq ?_
  refine t_region (F := ⟨_, _, _, _⟩) [.rows 0 2 (fodd2_EC_c p0 q0 p1 q1), .slot 2 (VP.bool false)] [] [(0, .rows 5 2 (fodd2_EC_c p0 q0 p1 q1)), (1, .slot 6 (VP.int .i64 ((2 : Nat) : Int))), (2, .slot 7 (VP.int .i64 0))] [0, 1] [] rfl rfl follow rfl ⟨
    .inl ⟨wants_plain rfl, does_moveRows _ (.inl rfl) rfl rfl rfl rfl rfl (av_fs 0 rfl)⟩,
    .inl ⟨wants_plain rfl, does_lenRows _ _ rfl (by kernel_rfl) rfl rfl rfl rfl rfl (av_rs 0 rfl rfl)⟩,
    .inl ⟨wants_plain rfl, does_move _ (.inl rfl) rfl rfl rfl rfl (ar_const (fun _ => rfl))⟩,
    trivial⟩ ?_
  refine nx_sub (fs' := [.slot 2 (VP.bool false), .rows 5 2 (fodd2_EC_c p0 q0 p1 q1), .slot 6 (VP.int .i64 ((2 : Nat) : Int)), .slot 7 (VP.int .i64 0)]) [1, 2, 3, 4] rfl ?_
  refine nx_then ?_
  refine t_block ?_
  refine t_loop (σ := {k : Nat // k ≤ 1}) (fun s => [.rows 5 2 (fodd2_EC_c p0 q0 p1 q1), .slot 6 (VP.int .i64 ((2 : Nat) : Int)), .slot 7 (VP.int .i64 ((s.1 : Nat) : Int))]) (fun s => 2 - s.1) (⟨0, by decide⟩) [1, 2, 3] rfl ?_
  intro s
  obtain ⟨k, hk⟩ := s
  have hc : k = 0 ∨ k = 1 := by omega
  rcases hc with rfl | rfl
  case inl =>
    refine t_seq ?_
    refine t_region (F := ⟨_, _, _, _⟩) [.rows 5 2 (fodd2_EC_c p0 q0 p1 q1), .slot 6 (VP.int .i64 ((2 : Nat) : Int)), .slot 7 (VP.int .i64 ((0 : Nat) : Int))] [] [(0, .slot 8 (VP.bool (decide (((0 : Nat) : Int) < ((2 : Nat) : Int)))))] [0, 1, 2] [] rfl rfl follow rfl ⟨
      .inl ⟨wants_plain rfl, does_cmp (m := ((0 : Nat) : Int)) (n := ((2 : Nat) : Int)) _ _ _ _ _ rfl rfl rfl rfl rfl rfl .i64 (ar_tmp (av_fs 2 rfl)) (ar_tmp (av_fs 1 rfl))⟩,
      trivial⟩ ?_
    refine nx_sub (fs' := [.rows 5 2 (fodd2_EC_c p0 q0 p1 q1), .slot 6 (VP.int .i64 ((2 : Nat) : Int)), .slot 7 (VP.int .i64 ((0 : Nat) : Int)), .slot 8 (VP.bool (decide (((0 : Nat) : Int) < ((2 : Nat) : Int))))]) [0, 1, 2, 3] rfl ?_
    refine nx_then ?_
    refine t_seq ?_
    refine t_cond_te 3 rfl rfl ?_
    refine t_skip ?_
    refine nx_then ?_
    refine t_seq ?_
    refine t_block ?_
    refine t_seq ?_
    refine t_region (F := ⟨_, _, _, _⟩) [.rows 5 2 (fodd2_EC_c p0 q0 p1 q1), .slot 6 (VP.int .i64 ((2 : Nat) : Int)), .slot 7 (VP.int .i64 ((0 : Nat) : Int)), .slot 8 (VP.bool (decide (((0 : Nat) : Int) < ((2 : Nat) : Int))))] [] [(0, .rp 9 5 0), (1, .slot 10 (VP.agg [Bz p0, Dz p0, Bz q0, Dz q0])), (2, .own 4 100 4), (3, .box 4 100 [Bz p0, Dz p0, Bz q0, Dz q0])] [0, 1, 2, 3] [] rfl rfl follow rfl ⟨
      .inl ⟨wants_plain rfl, does_indexRows (m := 0) (sz := 4) _ _ rfl Try.underlying178 (fun w => run_sizeAgg ty_agg_api_Frac w) rfl rfl rfl rfl rfl rfl (by decide) rfl (av_fs 0 rfl) (ar_tmp (av_fs 2 rfl))⟩,
      .inl ⟨wants_plain rfl, does_loadRows _ rfl ty_agg_api_Frac rfl rfl rfl rfl rfl rfl rfl (av_rs 0 rfl rfl) (av_fs 0 rfl)⟩,
      .inl ⟨wants_plain rfl, does_allocOwn [Bz 0, Dz 0, Bz 0, Dz 0] ty_zero_api_Frac rfl rfl rfl rfl rfl z_frac rfl⟩,
      .inl ⟨wants_plain rfl, does_storeNew 4 _ _ ty_agg_api_Frac rfl rfl rfl rfl rfl (pt_own (av_rs 2 rfl rfl)) (av_rs 2 rfl rfl) (ar_tmp (av_rs 1 rfl rfl))⟩,
      trivial⟩ ?_
    refine nx_sub (fs' := [.rows 5 2 (fodd2_EC_c p0 q0 p1 q1), .slot 6 (VP.int .i64 ((2 : Nat) : Int)), .slot 7 (VP.int .i64 ((0 : Nat) : Int)), .slot 8 (VP.bool (decide (((0 : Nat) : Int) < ((2 : Nat) : Int)))), .rp 9 5 0, .slot 10 (VP.agg [Bz p0, Dz p0, Bz q0, Dz q0]), .box 4 100 [Bz p0, Dz p0, Bz q0, Dz q0]]) [0, 1, 2, 3, 4, 5, 7] rfl ?_
    refine nx_then ?_
    refine t_seq ?_
    refine t_region (F := ⟨_, _, _, _⟩) [.rows 5 2 (fodd2_EC_c p0 q0 p1 q1), .slot 6 (VP.int .i64 ((2 : Nat) : Int)), .slot 7 (VP.int .i64 ((0 : Nat) : Int)), .slot 8 (VP.bool (decide (((0 : Nat) : Int) < ((2 : Nat) : Int)))), .rp 9 5 0, .slot 10 (VP.agg [Bz p0, Dz p0, Bz q0, Dz q0]), .box 4 100 [Bz p0, Dz p0, Bz q0, Dz q0]] [] [(0, .fp 11 4 0), (1, .slot 12 (INT p0)), (2, .fp 13 4 2), (3, .slot 14 (INT q0)), (4, .arr 15 69 2 [Bz p0, Dz p0, Bz q0, Dz q0]), (5, .slot 16 (VP.bool false)), (6, .slot 17 (VP.bool false)), (7, .fp 18 4 0), (8, .fp 19 4 1), (9, .slot 20 (Dz p0)), (10, .slot 21 (VP.int .i64 (((dg BB p0.natAbs).length : Nat) : Int))), (11, .slot 22 (VP.bool (decide ((((dg BB p0.natAbs).length : Nat) : Int) > 5)))), (12, .slot 23 (VP.bool (decide ((((dg BB p0.natAbs).length : Nat) : Int) > 5)))), (13, .slot 24 (VP.bool (decide ((((dg BB p0.natAbs).length : Nat) : Int) > 5)))), (14, .fp 25 4 2), (15, .fp 26 4 3), (16, .slot 27 (Dz q0)), (17, .slot 28 (VP.int .i64 (((dg BB q0.natAbs).length : Nat) : Int))), (18, .slot 29 (VP.bool (decide ((((dg BB q0.natAbs).length : Nat) : Int) > 5)))), (19, .slot 30 (VP.bool (decide ((((dg BB q0.natAbs).length : Nat) : Int) > 5)))), (20, .slot 31 (VP.bool (decide ((((dg BB q0.natAbs).length : Nat) : Int) > 5)))), (21, .slot 32 (VP.agg [Bz p0, Dz p0, Bz q0, Dz q0])), (22, .slot 33 (VP.bool (rightF p0 q0))), (23, .slot 34 (VP.bool false)), (24, .slot 35 (VP.bool false))] [0, 1, 2, 3, 4, 5, 6] [] rfl rfl follow rfl ⟨
      .inl ⟨wants_plain rfl, does_field _ _ _ 0 ty_f0_api_Frac rfl rfl rfl rfl rfl rfl rfl (pt_box (av_fs 6 rfl))⟩,
      .inl ⟨wants_plain rfl, does_loadAgg _ ty_agg_api_Int rfl rfl rfl rfl rfl rfl (pt_fp (av_rs 0 rfl rfl)) (av_fs 6 rfl)⟩,
      .inl ⟨wants_plain rfl, does_field _ _ _ 2 ty_f1_api_Frac rfl rfl rfl rfl rfl rfl rfl (pt_box (av_fs 6 rfl))⟩,
      .inl ⟨wants_plain rfl, does_loadAgg _ ty_agg_api_Int rfl rfl rfl rfl rfl rfl (pt_fp (av_rs 2 rfl rfl)) (av_fs 6 rfl)⟩,
      .inl ⟨wants_plain rfl, does_buildSlice (sz := 2) [Bz 0, Dz 0, Bz 0, Dz 0] ty_zero_api_Int (by kernel_rfl) (fun w => run_sizeAgg ty_agg_api_Int w) rfl rfl rfl rfl rfl rfl (by kernel_rfl) (fun w => by exact z_int_2 w) (.cons 0 [Bz p0, Dz p0] rfl rfl (ar_cells_agg (ar_tmp (av_rs 1 rfl rfl))) (.cons 2 [Bz q0, Dz q0] rfl rfl (ar_cells_agg (ar_tmp (av_rs 3 rfl rfl))) (.nil _)))⟩,
      .inl ⟨wants_plain rfl, does_call (s_even2 p0 q0 (lle hp0 (by decide)) (lle hq0 (by decide))) rfl hb_collator_collatorlaw01_Odd rfl rfl rfl rfl ⟨(ar_arr (av_rs 4 rfl rfl)), trivial⟩⟩,
      .inl ⟨wants_plain rfl, does_move _ (.inl rfl) rfl rfl rfl rfl (ar_tmp (av_rs 5 rfl rfl))⟩,
      .inl ⟨wants_guard false rfl rfl rfl (av_rs 6 rfl rfl), does_field _ _ _ 0 ty_f0_api_Frac rfl rfl rfl rfl rfl rfl rfl (pt_box (av_fs 6 rfl))⟩,
      .inl ⟨wants_guard false rfl rfl rfl (av_rs 6 rfl rfl), does_field _ _ _ 1 ty_f1_api_Int rfl rfl rfl rfl rfl rfl rfl (pt_fp (av_rs 7 rfl rfl))⟩,
      .inl ⟨wants_guard false rfl rfl rfl (av_rs 6 rfl rfl), does_loadOne _ ty_one___uint32 rfl rfl rfl rfl rfl rfl (pt_fp (av_rs 8 rfl rfl)) (av_fs 6 rfl)⟩,
      .inl ⟨wants_guard false rfl rfl rfl (av_rs 6 rfl rfl), does_len _ _ (by kernel_rfl) rfl rfl rfl rfl rfl (ar_tmp (av_rs 9 rfl rfl))⟩,
      .inl ⟨wants_guard false rfl rfl rfl (av_rs 6 rfl rfl), does_cmp (m := (((dg BB p0.natAbs).length : Nat) : Int)) (n := 5) _ _ _ _ _ rfl rfl rfl rfl rfl rfl .i64 (ar_tmp (av_rs 10 rfl rfl)) (ar_const (fun _ => rfl))⟩,
      .inl ⟨wants_plain rfl, does_pick false _ _ _ rfl rfl rfl rfl rfl (ar_tmp (av_rs 6 rfl rfl)) (ar_tmp (av_rs 11 rfl rfl))⟩,
      .inl ⟨wants_plain rfl, does_move _ (.inl rfl) rfl rfl rfl rfl (ar_tmp (av_rs 12 rfl rfl))⟩,
      .inl ⟨wants_guard false rfl rfl rfl (av_bool (gt5_no hp0) (av_rs 13 rfl rfl)), does_field _ _ _ 2 ty_f1_api_Frac rfl rfl rfl rfl rfl rfl rfl (pt_box (av_fs 6 rfl))⟩,
      .inl ⟨wants_guard false rfl rfl rfl (av_bool (gt5_no hp0) (av_rs 13 rfl rfl)), does_field _ _ _ 1 ty_f1_api_Int rfl rfl rfl rfl rfl rfl rfl (pt_fp (av_rs 14 rfl rfl))⟩,
      .inl ⟨wants_guard false rfl rfl rfl (av_bool (gt5_no hp0) (av_rs 13 rfl rfl)), does_loadOne _ ty_one___uint32 rfl rfl rfl rfl rfl rfl (pt_fp (av_rs 15 rfl rfl)) (av_fs 6 rfl)⟩,
      .inl ⟨wants_guard false rfl rfl rfl (av_bool (gt5_no hp0) (av_rs 13 rfl rfl)), does_len _ _ (by kernel_rfl) rfl rfl rfl rfl rfl (ar_tmp (av_rs 16 rfl rfl))⟩,
      .inl ⟨wants_guard false rfl rfl rfl (av_bool (gt5_no hp0) (av_rs 13 rfl rfl)), does_cmp (m := (((dg BB q0.natAbs).length : Nat) : Int)) (n := 5) _ _ _ _ _ rfl rfl rfl rfl rfl rfl .i64 (ar_tmp (av_rs 17 rfl rfl)) (ar_const (fun _ => rfl))⟩,
      .inl ⟨wants_plain rfl, does_pick false _ _ _ rfl rfl rfl rfl rfl (ar_tmp (av_bool (gt5_no hp0) (av_rs 13 rfl rfl))) (ar_tmp (av_rs 18 rfl rfl))⟩,
      .inl ⟨wants_plain rfl, does_move _ (.inl rfl) rfl rfl rfl rfl (ar_tmp (av_rs 19 rfl rfl))⟩,
      .inl ⟨wants_guard false rfl rfl rfl (av_bool (gt5_no hq0) (av_rs 20 rfl rfl)), does_loadAgg _ ty_agg_api_Frac rfl rfl rfl rfl rfl rfl (pt_box (av_fs 6 rfl)) (av_fs 6 rfl)⟩,
      .inl ⟨wants_guard false rfl rfl rfl (av_bool (gt5_no hq0) (av_rs 20 rfl rfl)), does_call (g_right p0 q0 (lle hp0 (by decide)) (lle hq0 (by decide))) rfl hb_collator_collatorref02_Right rfl rfl rfl rfl ⟨(ar_tmp (av_rs 21 rfl rfl)), trivial⟩⟩,
      .inl ⟨wants_guard false rfl rfl rfl (av_bool (gt5_no hq0) (av_rs 20 rfl rfl)), does_not true _ _ rfl rfl rfl rfl rfl (ar_tmp (av_bool hb0 (av_rs 22 rfl rfl)))⟩,
      .inl ⟨wants_plain rfl, does_pick false _ _ _ rfl rfl rfl rfl rfl (ar_tmp (av_bool (gt5_no hq0) (av_rs 20 rfl rfl))) (ar_tmp (av_rs 23 rfl rfl))⟩,
      trivial⟩ ?_
    refine nx_sub (fs' := [.rows 5 2 (fodd2_EC_c p0 q0 p1 q1), .slot 6 (VP.int .i64 ((2 : Nat) : Int)), .slot 7 (VP.int .i64 ((0 : Nat) : Int)), .slot 8 (VP.bool (decide (((0 : Nat) : Int) < ((2 : Nat) : Int)))), .rp 9 5 0, .slot 10 (VP.agg [Bz p0, Dz p0, Bz q0, Dz q0]), .box 4 100 [Bz p0, Dz p0, Bz q0, Dz q0], .fp 11 4 0, .slot 12 (INT p0), .fp 13 4 2, .slot 14 (INT q0), .arr 15 69 2 [Bz p0, Dz p0, Bz q0, Dz q0], .slot 16 (VP.bool false), .slot 17 (VP.bool false), .fp 18 4 0, .fp 19 4 1, .slot 20 (Dz p0), .slot 21 (VP.int .i64 (((dg BB p0.natAbs).length : Nat) : Int)), .slot 22 (VP.bool (decide ((((dg BB p0.natAbs).length : Nat) : Int) > 5))), .slot 23 (VP.bool (decide ((((dg BB p0.natAbs).length : Nat) : Int) > 5))), .slot 24 (VP.bool (decide ((((dg BB p0.natAbs).length : Nat) : Int) > 5))), .fp 25 4 2, .fp 26 4 3, .slot 27 (Dz q0), .slot 28 (VP.int .i64 (((dg BB q0.natAbs).length : Nat) : Int)), .slot 29 (VP.bool (decide ((((dg BB q0.natAbs).length : Nat) : Int) > 5))), .slot 30 (VP.bool (decide ((((dg BB q0.natAbs).length : Nat) : Int) > 5))), .slot 31 (VP.bool (decide ((((dg BB q0.natAbs).length : Nat) : Int) > 5))), .slot 32 (VP.agg [Bz p0, Dz p0, Bz q0, Dz q0]), .slot 33 (VP.bool (rightF p0 q0)), .slot 34 (VP.bool false), .slot 35 (VP.bool false)]) [0, 1, 2, 3, 4, 5, 6, 7, 8, 9, 10, 11, 12, 13, 14, 15, 16, 17, 18, 19, 20, 21, 22, 23, 24, 25, 26, 27, 28, 29, 30, 31] rfl ?_
    refine nx_then ?_
    refine t_cond_f 31 rfl ?_
    refine t_skip ?_
    refine nx_block ?_
    refine nx_then ?_
    refine t_region (F := ⟨_, _, _, _⟩) [.rows 5 2 (fodd2_EC_c p0 q0 p1 q1), .slot 6 (VP.int .i64 ((2 : Nat) : Int)), .slot 8 (VP.bool (decide (((0 : Nat) : Int) < ((2 : Nat) : Int)))), .rp 9 5 0, .slot 10 (VP.agg [Bz p0, Dz p0, Bz q0, Dz q0]), .box 4 100 [Bz p0, Dz p0, Bz q0, Dz q0], .fp 11 4 0, .slot 12 (INT p0), .fp 13 4 2, .slot 14 (INT q0), .arr 15 69 2 [Bz p0, Dz p0, Bz q0, Dz q0], .slot 16 (VP.bool false), .slot 17 (VP.bool false), .fp 18 4 0, .fp 19 4 1, .slot 20 (Dz p0), .slot 21 (VP.int .i64 (((dg BB p0.natAbs).length : Nat) : Int)), .slot 22 (VP.bool (decide ((((dg BB p0.natAbs).length : Nat) : Int) > 5))), .slot 23 (VP.bool (decide ((((dg BB p0.natAbs).length : Nat) : Int) > 5))), .slot 24 (VP.bool (decide ((((dg BB p0.natAbs).length : Nat) : Int) > 5))), .fp 25 4 2, .fp 26 4 3, .slot 27 (Dz q0), .slot 28 (VP.int .i64 (((dg BB q0.natAbs).length : Nat) : Int)), .slot 29 (VP.bool (decide ((((dg BB q0.natAbs).length : Nat) : Int) > 5))), .slot 30 (VP.bool (decide ((((dg BB q0.natAbs).length : Nat) : Int) > 5))), .slot 31 (VP.bool (decide ((((dg BB q0.natAbs).length : Nat) : Int) > 5))), .slot 32 (VP.agg [Bz p0, Dz p0, Bz q0, Dz q0]), .slot 33 (VP.bool (rightF p0 q0)), .slot 34 (VP.bool false), .slot 35 (VP.bool false)] [(1, .slot 7 (VP.int .i64 ((0 : Nat) : Int)))] [(0, .slot 36 (VP.int .i64 ((1 : Nat) : Int))), (1, .slot 7 (VP.int .i64 ((1 : Nat) : Int)))] [0, 1, 3, 4, 5, 6, 7, 8, 9, 10, 11, 12, 13, 14, 15, 16, 17, 18, 19, 20, 21, 22, 23, 24, 25, 26, 27, 28, 29, 30, 31] [2] rfl rfl follow rfl ⟨
      .inl ⟨wants_plain rfl, does_addInt (m := ((0 : Nat) : Int)) (n := 1) _ _ _ _ rfl rfl rfl rfl rfl (by omega) (ar_tmp (av_os 0 rfl rfl)) (ar_const (fun _ => rfl))⟩,
      .inl ⟨wants_plain rfl, does_move _ (.inl rfl) rfl rfl rfl rfl (ar_tmp (av_rs 0 rfl rfl))⟩,
      trivial⟩ ?_
    refine nx_sub (fs' := [.rows 5 2 (fodd2_EC_c p0 q0 p1 q1), .slot 6 (VP.int .i64 ((2 : Nat) : Int)), .slot 8 (VP.bool (decide (((0 : Nat) : Int) < ((2 : Nat) : Int)))), .rp 9 5 0, .slot 10 (VP.agg [Bz p0, Dz p0, Bz q0, Dz q0]), .box 4 100 [Bz p0, Dz p0, Bz q0, Dz q0], .fp 11 4 0, .slot 12 (INT p0), .fp 13 4 2, .slot 14 (INT q0), .arr 15 69 2 [Bz p0, Dz p0, Bz q0, Dz q0], .slot 16 (VP.bool false), .slot 17 (VP.bool false), .fp 18 4 0, .fp 19 4 1, .slot 20 (Dz p0), .slot 21 (VP.int .i64 (((dg BB p0.natAbs).length : Nat) : Int)), .slot 22 (VP.bool (decide ((((dg BB p0.natAbs).length : Nat) : Int) > 5))), .slot 23 (VP.bool (decide ((((dg BB p0.natAbs).length : Nat) : Int) > 5))), .slot 24 (VP.bool (decide ((((dg BB p0.natAbs).length : Nat) : Int) > 5))), .fp 25 4 2, .fp 26 4 3, .slot 27 (Dz q0), .slot 28 (VP.int .i64 (((dg BB q0.natAbs).length : Nat) : Int)), .slot 29 (VP.bool (decide ((((dg BB q0.natAbs).length : Nat) : Int) > 5))), .slot 30 (VP.bool (decide ((((dg BB q0.natAbs).length : Nat) : Int) > 5))), .slot 31 (VP.bool (decide ((((dg BB q0.natAbs).length : Nat) : Int) > 5))), .slot 32 (VP.agg [Bz p0, Dz p0, Bz q0, Dz q0]), .slot 33 (VP.bool (rightF p0 q0)), .slot 34 (VP.bool false), .slot 35 (VP.bool false), .slot 36 (VP.int .i64 ((1 : Nat) : Int)), .slot 7 (VP.int .i64 ((1 : Nat) : Int))]) [0, 1, 2, 3, 4, 5, 6, 7, 8, 9, 10, 11, 12, 13, 14, 15, 16, 17, 18, 19, 20, 21, 22, 23, 24, 25, 26, 27, 28, 29, 30, 31, 32] rfl ?_
    exact nx_round ⟨1, by decide⟩ (by show 2 - 1 < 2 - 0; decide) [0, 1, 32] rfl
  case inr =>
    refine t_seq ?_
    refine t_region (F := ⟨_, _, _, _⟩) [.rows 5 2 (fodd2_EC_c p0 q0 p1 q1), .slot 6 (VP.int .i64 ((2 : Nat) : Int)), .slot 7 (VP.int .i64 ((1 : Nat) : Int))] [] [(0, .slot 8 (VP.bool (decide (((1 : Nat) : Int) < ((2 : Nat) : Int)))))] [0, 1, 2] [] rfl rfl follow rfl ⟨
      .inl ⟨wants_plain rfl, does_cmp (m := ((1 : Nat) : Int)) (n := ((2 : Nat) : Int)) _ _ _ _ _ rfl rfl rfl rfl rfl rfl .i64 (ar_tmp (av_fs 2 rfl)) (ar_tmp (av_fs 1 rfl))⟩,
      trivial⟩ ?_
    refine nx_sub (fs' := [.rows 5 2 (fodd2_EC_c p0 q0 p1 q1), .slot 6 (VP.int .i64 ((2 : Nat) : Int)), .slot 7 (VP.int .i64 ((1 : Nat) : Int)), .slot 8 (VP.bool (decide (((1 : Nat) : Int) < ((2 : Nat) : Int))))]) [0, 1, 2, 3] rfl ?_
    refine nx_then ?_
    refine t_seq ?_
    refine t_cond_te 3 rfl rfl ?_
    refine t_skip ?_
    refine nx_then ?_
    refine t_seq ?_
    refine t_block ?_
    refine t_seq ?_
    refine t_region (F := ⟨_, _, _, _⟩) [.rows 5 2 (fodd2_EC_c p0 q0 p1 q1), .slot 6 (VP.int .i64 ((2 : Nat) : Int)), .slot 7 (VP.int .i64 ((1 : Nat) : Int)), .slot 8 (VP.bool (decide (((1 : Nat) : Int) < ((2 : Nat) : Int))))] [] [(0, .rp 9 5 4), (1, .slot 10 (VP.agg [Bz p1, Dz p1, Bz q1, Dz q1])), (2, .own 4 100 4), (3, .box 4 100 [Bz p1, Dz p1, Bz q1, Dz q1])] [0, 1, 2, 3] [] rfl rfl follow rfl ⟨
      .inl ⟨wants_plain rfl, does_indexRows (m := 1) (sz := 4) _ _ rfl Try.underlying178 (fun w => run_sizeAgg ty_agg_api_Frac w) rfl rfl rfl rfl rfl rfl (by decide) rfl (av_fs 0 rfl) (ar_tmp (av_fs 2 rfl))⟩,
      .inl ⟨wants_plain rfl, does_loadRows _ rfl ty_agg_api_Frac rfl rfl rfl rfl rfl rfl rfl (av_rs 0 rfl rfl) (av_fs 0 rfl)⟩,
      .inl ⟨wants_plain rfl, does_allocOwn [Bz 0, Dz 0, Bz 0, Dz 0] ty_zero_api_Frac rfl rfl rfl rfl rfl z_frac rfl⟩,
      .inl ⟨wants_plain rfl, does_storeNew 4 _ _ ty_agg_api_Frac rfl rfl rfl rfl rfl (pt_own (av_rs 2 rfl rfl)) (av_rs 2 rfl rfl) (ar_tmp (av_rs 1 rfl rfl))⟩,
      trivial⟩ ?_
    refine nx_sub (fs' := [.rows 5 2 (fodd2_EC_c p0 q0 p1 q1), .slot 6 (VP.int .i64 ((2 : Nat) : Int)), .slot 7 (VP.int .i64 ((1 : Nat) : Int)), .slot 8 (VP.bool (decide (((1 : Nat) : Int) < ((2 : Nat) : Int)))), .rp 9 5 4, .slot 10 (VP.agg [Bz p1, Dz p1, Bz q1, Dz q1]), .box 4 100 [Bz p1, Dz p1, Bz q1, Dz q1]]) [0, 1, 2, 3, 4, 5, 7] rfl ?_
    refine nx_then ?_
    refine t_seq ?_
    refine t_region (F := ⟨_, _, _, _⟩) [.rows 5 2 (fodd2_EC_c p0 q0 p1 q1), .slot 6 (VP.int .i64 ((2 : Nat) : Int)), .slot 7 (VP.int .i64 ((1 : Nat) : Int)), .slot 8 (VP.bool (decide (((1 : Nat) : Int) < ((2 : Nat) : Int)))), .rp 9 5 4, .slot 10 (VP.agg [Bz p1, Dz p1, Bz q1, Dz q1]), .box 4 100 [Bz p1, Dz p1, Bz q1, Dz q1]] [] [(0, .fp 11 4 0), (1, .slot 12 (INT p1)), (2, .fp 13 4 2), (3, .slot 14 (INT q1)), (4, .arr 15 69 2 [Bz p1, Dz p1, Bz q1, Dz q1]), (5, .slot 16 (VP.bool false)), (6, .slot 17 (VP.bool false)), (7, .fp 18 4 0), (8, .fp 19 4 1), (9, .slot 20 (Dz p1)), (10, .slot 21 (VP.int .i64 (((dg BB p1.natAbs).length : Nat) : Int))), (11, .slot 22 (VP.bool (decide ((((dg BB p1.natAbs).length : Nat) : Int) > 5)))), (12, .slot 23 (VP.bool (decide ((((dg BB p1.natAbs).length : Nat) : Int) > 5)))), (13, .slot 24 (VP.bool (decide ((((dg BB p1.natAbs).length : Nat) : Int) > 5)))), (14, .fp 25 4 2), (15, .fp 26 4 3), (16, .slot 27 (Dz q1)), (17, .slot 28 (VP.int .i64 (((dg BB q1.natAbs).length : Nat) : Int))), (18, .slot 29 (VP.bool (decide ((((dg BB q1.natAbs).length : Nat) : Int) > 5)))), (19, .slot 30 (VP.bool (decide ((((dg BB q1.natAbs).length : Nat) : Int) > 5)))), (20, .slot 31 (VP.bool (decide ((((dg BB q1.natAbs).length : Nat) : Int) > 5)))), (24, .slot 35 (VP.bool true))] [0, 1, 2, 3, 4, 5, 6] [] rfl rfl follow rfl ⟨
      .inl ⟨wants_plain rfl, does_field _ _ _ 0 ty_f0_api_Frac rfl rfl rfl rfl rfl rfl rfl (pt_box (av_fs 6 rfl))⟩,
      .inl ⟨wants_plain rfl, does_loadAgg _ ty_agg_api_Int rfl rfl rfl rfl rfl rfl (pt_fp (av_rs 0 rfl rfl)) (av_fs 6 rfl)⟩,
      .inl ⟨wants_plain rfl, does_field _ _ _ 2 ty_f1_api_Frac rfl rfl rfl rfl rfl rfl rfl (pt_box (av_fs 6 rfl))⟩,
      .inl ⟨wants_plain rfl, does_loadAgg _ ty_agg_api_Int rfl rfl rfl rfl rfl rfl (pt_fp (av_rs 2 rfl rfl)) (av_fs 6 rfl)⟩,
      .inl ⟨wants_plain rfl, does_buildSlice (sz := 2) [Bz 0, Dz 0, Bz 0, Dz 0] ty_zero_api_Int (by kernel_rfl) (fun w => run_sizeAgg ty_agg_api_Int w) rfl rfl rfl rfl rfl rfl (by kernel_rfl) (fun w => by exact z_int_2 w) (.cons 0 [Bz p1, Dz p1] rfl rfl (ar_cells_agg (ar_tmp (av_rs 1 rfl rfl))) (.cons 2 [Bz q1, Dz q1] rfl rfl (ar_cells_agg (ar_tmp (av_rs 3 rfl rfl))) (.nil _)))⟩,
      .inl ⟨wants_plain rfl, does_call (s_even2 p1 q1 (lle hp1 (by decide)) hq1) rfl hb_collator_collatorlaw01_Odd rfl rfl rfl rfl ⟨(ar_arr (av_rs 4 rfl rfl)), trivial⟩⟩,
      .inl ⟨wants_plain rfl, does_move _ (.inl rfl) rfl rfl rfl rfl (ar_tmp (av_rs 5 rfl rfl))⟩,
      .inl ⟨wants_guard false rfl rfl rfl (av_rs 6 rfl rfl), does_field _ _ _ 0 ty_f0_api_Frac rfl rfl rfl rfl rfl rfl rfl (pt_box (av_fs 6 rfl))⟩,
      .inl ⟨wants_guard false rfl rfl rfl (av_rs 6 rfl rfl), does_field _ _ _ 1 ty_f1_api_Int rfl rfl rfl rfl rfl rfl rfl (pt_fp (av_rs 7 rfl rfl))⟩,
      .inl ⟨wants_guard false rfl rfl rfl (av_rs 6 rfl rfl), does_loadOne _ ty_one___uint32 rfl rfl rfl rfl rfl rfl (pt_fp (av_rs 8 rfl rfl)) (av_fs 6 rfl)⟩,
      .inl ⟨wants_guard false rfl rfl rfl (av_rs 6 rfl rfl), does_len _ _ (by kernel_rfl) rfl rfl rfl rfl rfl (ar_tmp (av_rs 9 rfl rfl))⟩,
      .inl ⟨wants_guard false rfl rfl rfl (av_rs 6 rfl rfl), does_cmp (m := (((dg BB p1.natAbs).length : Nat) : Int)) (n := 5) _ _ _ _ _ rfl rfl rfl rfl rfl rfl .i64 (ar_tmp (av_rs 10 rfl rfl)) (ar_const (fun _ => rfl))⟩,
      .inl ⟨wants_plain rfl, does_pick false _ _ _ rfl rfl rfl rfl rfl (ar_tmp (av_rs 6 rfl rfl)) (ar_tmp (av_rs 11 rfl rfl))⟩,
      .inl ⟨wants_plain rfl, does_move _ (.inl rfl) rfl rfl rfl rfl (ar_tmp (av_rs 12 rfl rfl))⟩,
      .inl ⟨wants_guard false rfl rfl rfl (av_bool (gt5_no hp1) (av_rs 13 rfl rfl)), does_field _ _ _ 2 ty_f1_api_Frac rfl rfl rfl rfl rfl rfl rfl (pt_box (av_fs 6 rfl))⟩,
      .inl ⟨wants_guard false rfl rfl rfl (av_bool (gt5_no hp1) (av_rs 13 rfl rfl)), does_field _ _ _ 1 ty_f1_api_Int rfl rfl rfl rfl rfl rfl rfl (pt_fp (av_rs 14 rfl rfl))⟩,
      .inl ⟨wants_guard false rfl rfl rfl (av_bool (gt5_no hp1) (av_rs 13 rfl rfl)), does_loadOne _ ty_one___uint32 rfl rfl rfl rfl rfl rfl (pt_fp (av_rs 15 rfl rfl)) (av_fs 6 rfl)⟩,
      .inl ⟨wants_guard false rfl rfl rfl (av_bool (gt5_no hp1) (av_rs 13 rfl rfl)), does_len _ _ (by kernel_rfl) rfl rfl rfl rfl rfl (ar_tmp (av_rs 16 rfl rfl))⟩,
      .inl ⟨wants_guard false rfl rfl rfl (av_bool (gt5_no hp1) (av_rs 13 rfl rfl)), does_cmp (m := (((dg BB q1.natAbs).length : Nat) : Int)) (n := 5) _ _ _ _ _ rfl rfl rfl rfl rfl rfl .i64 (ar_tmp (av_rs 17 rfl rfl)) (ar_const (fun _ => rfl))⟩,
      .inl ⟨wants_plain rfl, does_pick false _ _ _ rfl rfl rfl rfl rfl (ar_tmp (av_bool (gt5_no hp1) (av_rs 13 rfl rfl))) (ar_tmp (av_rs 18 rfl rfl))⟩,
      .inl ⟨wants_plain rfl, does_move _ (.inl rfl) rfl rfl rfl rfl (ar_tmp (av_rs 19 rfl rfl))⟩,
      .inr (skips_guard true rfl rfl rfl (av_bool (gt5_yes hb1) (av_rs 20 rfl rfl)) rfl rfl rfl rfl),
      .inr (skips_guard true rfl rfl rfl (av_bool (gt5_yes hb1) (av_rs 20 rfl rfl)) rfl rfl rfl rfl),
      .inr (skips_guard true rfl rfl rfl (av_bool (gt5_yes hb1) (av_rs 20 rfl rfl)) rfl rfl rfl rfl),
      .inl ⟨wants_plain rfl, does_pick true _ _ _ rfl rfl rfl rfl rfl (ar_tmp (av_bool (gt5_yes hb1) (av_rs 20 rfl rfl))) (ar_const (fun _ => rfl))⟩,
      trivial⟩ ?_
    refine nx_sub (fs' := [.rows 5 2 (fodd2_EC_c p0 q0 p1 q1), .slot 6 (VP.int .i64 ((2 : Nat) : Int)), .slot 7 (VP.int .i64 ((1 : Nat) : Int)), .slot 8 (VP.bool (decide (((1 : Nat) : Int) < ((2 : Nat) : Int)))), .rp 9 5 4, .slot 10 (VP.agg [Bz p1, Dz p1, Bz q1, Dz q1]), .box 4 100 [Bz p1, Dz p1, Bz q1, Dz q1], .fp 11 4 0, .slot 12 (INT p1), .fp 13 4 2, .slot 14 (INT q1), .arr 15 69 2 [Bz p1, Dz p1, Bz q1, Dz q1], .slot 16 (VP.bool false), .slot 17 (VP.bool false), .fp 18 4 0, .fp 19 4 1, .slot 20 (Dz p1), .slot 21 (VP.int .i64 (((dg BB p1.natAbs).length : Nat) : Int)), .slot 22 (VP.bool (decide ((((dg BB p1.natAbs).length : Nat) : Int) > 5))), .slot 23 (VP.bool (decide ((((dg BB p1.natAbs).length : Nat) : Int) > 5))), .slot 24 (VP.bool (decide ((((dg BB p1.natAbs).length : Nat) : Int) > 5))), .fp 25 4 2, .fp 26 4 3, .slot 27 (Dz q1), .slot 28 (VP.int .i64 (((dg BB q1.natAbs).length : Nat) : Int)), .slot 29 (VP.bool (decide ((((dg BB q1.natAbs).length : Nat) : Int) > 5))), .slot 30 (VP.bool (decide ((((dg BB q1.natAbs).length : Nat) : Int) > 5))), .slot 31 (VP.bool (decide ((((dg BB q1.natAbs).length : Nat) : Int) > 5))), .slot 35 (VP.bool true)]) [0, 1, 2, 3, 4, 5, 6, 7, 8, 9, 10, 11, 12, 13, 14, 15, 16, 17, 18, 19, 20, 21, 22, 23, 24, 25, 26, 27, 28] rfl ?_
    refine nx_then ?_
    refine t_cond_t 28 rfl ?_
    refine t_seq ?_
    refine t_region (F := ⟨_, _, _, _⟩) [.rows 5 2 (fodd2_EC_c p0 q0 p1 q1), .slot 6 (VP.int .i64 ((2 : Nat) : Int)), .slot 7 (VP.int .i64 ((1 : Nat) : Int)), .slot 8 (VP.bool (decide (((1 : Nat) : Int) < ((2 : Nat) : Int)))), .rp 9 5 4, .slot 10 (VP.agg [Bz p1, Dz p1, Bz q1, Dz q1]), .box 4 100 [Bz p1, Dz p1, Bz q1, Dz q1], .fp 11 4 0, .slot 12 (INT p1), .fp 13 4 2, .slot 14 (INT q1), .arr 15 69 2 [Bz p1, Dz p1, Bz q1, Dz q1], .slot 16 (VP.bool false), .slot 17 (VP.bool false), .fp 18 4 0, .fp 19 4 1, .slot 20 (Dz p1), .slot 21 (VP.int .i64 (((dg BB p1.natAbs).length : Nat) : Int)), .slot 22 (VP.bool (decide ((((dg BB p1.natAbs).length : Nat) : Int) > 5))), .slot 23 (VP.bool (decide ((((dg BB p1.natAbs).length : Nat) : Int) > 5))), .slot 24 (VP.bool (decide ((((dg BB p1.natAbs).length : Nat) : Int) > 5))), .fp 25 4 2, .fp 26 4 3, .slot 27 (Dz q1), .slot 28 (VP.int .i64 (((dg BB q1.natAbs).length : Nat) : Int)), .slot 29 (VP.bool (decide ((((dg BB q1.natAbs).length : Nat) : Int) > 5))), .slot 30 (VP.bool (decide ((((dg BB q1.natAbs).length : Nat) : Int) > 5))), .slot 31 (VP.bool (decide ((((dg BB q1.natAbs).length : Nat) : Int) > 5))), .slot 35 (VP.bool true)] [] [(0, .slot 2 (VP.bool true))] [0, 1, 2, 3, 4, 5, 6, 7, 8, 9, 10, 11, 12, 13, 14, 15, 16, 17, 18, 19, 20, 21, 22, 23, 24, 25, 26, 27, 28] [] rfl rfl follow rfl ⟨
      .inl ⟨wants_plain rfl, does_move _ (.inr rfl) rfl rfl rfl rfl (ar_const (fun _ => rfl))⟩,
      trivial⟩ ?_
    refine nx_sub (fs' := [.rows 5 2 (fodd2_EC_c p0 q0 p1 q1), .slot 6 (VP.int .i64 ((2 : Nat) : Int)), .slot 7 (VP.int .i64 ((1 : Nat) : Int)), .slot 8 (VP.bool (decide (((1 : Nat) : Int) < ((2 : Nat) : Int)))), .rp 9 5 4, .slot 10 (VP.agg [Bz p1, Dz p1, Bz q1, Dz q1]), .box 4 100 [Bz p1, Dz p1, Bz q1, Dz q1], .fp 11 4 0, .slot 12 (INT p1), .fp 13 4 2, .slot 14 (INT q1), .arr 15 69 2 [Bz p1, Dz p1, Bz q1, Dz q1], .slot 16 (VP.bool false), .slot 17 (VP.bool false), .fp 18 4 0, .fp 19 4 1, .slot 20 (Dz p1), .slot 21 (VP.int .i64 (((dg BB p1.natAbs).length : Nat) : Int)), .slot 22 (VP.bool (decide ((((dg BB p1.natAbs).length : Nat) : Int) > 5))), .slot 23 (VP.bool (decide ((((dg BB p1.natAbs).length : Nat) : Int) > 5))), .slot 24 (VP.bool (decide ((((dg BB p1.natAbs).length : Nat) : Int) > 5))), .fp 25 4 2, .fp 26 4 3, .slot 27 (Dz q1), .slot 28 (VP.int .i64 (((dg BB q1.natAbs).length : Nat) : Int)), .slot 29 (VP.bool (decide ((((dg BB q1.natAbs).length : Nat) : Int) > 5))), .slot 30 (VP.bool (decide ((((dg BB q1.natAbs).length : Nat) : Int) > 5))), .slot 31 (VP.bool (decide ((((dg BB q1.natAbs).length : Nat) : Int) > 5))), .slot 35 (VP.bool true), .slot 2 (VP.bool true)]) [0, 1, 2, 3, 4, 5, 6, 7, 8, 9, 10, 11, 12, 13, 14, 15, 16, 17, 18, 19, 20, 21, 22, 23, 24, 25, 26, 27, 28, 29] rfl ?_
    refine nx_then ?_
    refine t_ret ?_
    refine rt_block ?_
    refine rt_then ?_
    refine rt_then ?_
    refine rt_block ?_
    refine rt_then ?_
    exact rt_one rfl (res_tmp 29 rfl)
abbrev fodd2_ED_c (p0 q0 : Int) (p1 q1 : Int) : List VP := [Bz p0, Dz p0, Bz q0, Dz q0, Bz p1, Dz p1, Bz q1, Dz q1]
set_option maxRecDepth 100000 in
set_option maxHeartbeats 4000000 in
theorem fodd2_ED (p0 q0 : Int) (hp0 : L p0 ≤ 5) (hq0 : L q0 ≤ 5) (hb0 : rightF p0 q0 = true) (p1 q1 : Int) (hp1 : L p1 ≤ 5) (hq1 : L q1 ≤ 5) (hb1 : rightF p1 q1 = false) : Spec Try.prog 73 [isRows 2 (fodd2_ED_c p0 q0 p1 q1)] (VP.bool true) := by
  refine spec_ofP (xs := [.rows 2 (fodd2_ED_c p0 q0 p1 q1)]) 37 [4] Try.func73 rfl Try.ntmps73 rfl fun w0 => ?_
  refine t_seq ?_
  refine t_region (F := ⟨_, _, _, _⟩) [.rows 0 2 (fodd2_ED_c p0 q0 p1 q1)] [] [(0, .slot 2 (VP.bool false))] [0] [] rfl rfl follow rfl ⟨
    .inl ⟨wants_plain rfl, does_move _ (.inr rfl) rfl rfl rfl rfl (ar_const (fun _ => rfl))⟩,
    trivial⟩ ?_
  refine nx_sub (fs' := [.rows 0 2 (fodd2_ED_c p0 q0 p1 q1), .slot 2 (VP.bool false)]) [0, 1] rfl ?_
  refine nx_then ?_
  refine t_seq ?_
  refine t_seq ?_
  refine t_region (F := ⟨_, _, _, _⟩) [.rows 0 2 (fodd2_ED_c p0 q0 p1 q1), .slot 2 (VP.bool false)] [] [(0, .rows 5 2 (fodd2_ED_c p0 q0 p1 q1)), (1, .slot 6 (VP.int .i64 ((2 : Nat) : Int))), (2, .slot 7 (VP.int .i64 0))] [0, 1] [] rfl rfl follow rfl ⟨
    .inl ⟨wants_plain rfl, does_moveRows _ (.inl rfl) rfl rfl rfl rfl rfl (av_fs 0 rfl)⟩,
    .inl ⟨wants_plain rfl, does_lenRows _ _ rfl (by kernel_rfl) rfl rfl rfl rfl rfl (av_rs 0 rfl rfl)⟩,
    .inl ⟨wants_plain rfl, does_move _ (.inl rfl) rfl rfl rfl rfl (ar_const (fun _ => rfl))⟩,
    trivial⟩ ?_
  refine nx_sub (fs' := [.slot 2 (VP.bool false), .rows 5 2 (fodd2_ED_c p0 q0 p1 q1), .slot 6 (VP.int .i64 ((2 : Nat) : Int)), .slot 7 (VP.int .i64 0)]) [1, 2, 3, 4] rfl ?_
  refine nx_then ?_
  refine t_block ?_
  refine t_loop (σ := {k : Nat // k ≤ 1}) (fun s => [.rows 5 2 (fodd2_ED_c p0 q0 p1 q1), .slot 6 (VP.int .i64 ((2 : Nat) : Int)), .slot 7 (VP.int .i64 ((s.1 : Nat) : Int))]) (fun s => 2 - s.1) (⟨0, by decide⟩) [1, 2, 3] rfl ?_
  intro s
  obtain ⟨k, hk⟩ := s
  have hc : k = 0 ∨ k = 1 := by omega
  rcases hc with rfl | rfl
  case inl =>
    refine t_seq ?_
    refine t_region (F := ⟨_, _, _, _⟩) [.rows 5 2 (fodd2_ED_c p0 q0 p1 q1), .slot 6 (VP.int .i64 ((2 : Nat) : Int)), .slot 7 (VP.int .i64 ((0 : Nat) : Int))] [] [(0, .slot 8 (VP.bool (decide (((0 : Nat) : Int) < ((2 : Nat) : Int)))))] [0, 1, 2] [] rfl rfl follow rfl ⟨
      .inl ⟨wants_plain rfl, does_cmp (m := ((0 : Nat) : Int)) (n := ((2 : Nat) : Int)) _ _ _ _ _ rfl rfl rfl rfl rfl rfl .i64 (ar_tmp (av_fs 2 rfl)) (ar_tmp (av_fs 1 rfl))⟩,
      trivial⟩ ?_
    refine nx_sub (fs' := [.rows 5 2 (fodd2_ED_c p0 q0 p1 q1), .slot 6 (VP.int .i64 ((2 : Nat) : Int)), .slot 7 (VP.int .i64 ((0 : Nat) : Int)), .slot 8 (VP.bool (decide (((0 : Nat) : Int) < ((2 : Nat) : Int))))]) [0, 1, 2, 3] rfl ?_
    refine nx_then ?_
    refine t_seq ?_
    refine t_cond_te 3 rfl rfl ?_
    refine t_skip ?_
    refine nx_then ?_
    refine t_seq ?_
    refine t_block ?_
    refine t_seq ?_
    refine t_region (F := ⟨_, _, _, _⟩) [.rows 5 2 (fodd2_ED_c p0 q0 p1 q1), .slot 6 (VP.int .i64 ((2 : Nat) : Int)), .slot 7 (VP.int .i64 ((0 : Nat) : Int)), .slot 8 (VP.bool (decide (((0 : Nat) : Int) < ((2 : Nat) : Int))))] [] [(0, .rp 9 5 0), (1, .slot 10 (VP.agg [Bz p0, Dz p0, Bz q0, Dz q0])), (2, .own 4 100 4), (3, .box 4 100 [Bz p0, Dz p0, Bz q0, Dz q0])] [0, 1, 2, 3] [] rfl rfl follow rfl ⟨
      .inl ⟨wants_plain rfl, does_indexRows (m := 0) (sz := 4) _ _ rfl Try.underlying178 (fun w => run_sizeAgg ty_agg_api_Frac w) rfl rfl rfl rfl rfl rfl (by decide) rfl (av_fs 0 rfl) (ar_tmp (av_fs 2 rfl))⟩,
      .inl ⟨wants_plain rfl, does_loadRows _ rfl ty_agg_api_Frac rfl rfl rfl rfl rfl rfl rfl (av_rs 0 rfl rfl) (av_fs 0 rfl)⟩,
      .inl ⟨wants_plain rfl, does_allocOwn [Bz 0, Dz 0, Bz 0, Dz 0] ty_zero_api_Frac rfl rfl rfl rfl rfl z_frac rfl⟩,
      .inl ⟨wants_plain rfl, does_storeNew 4 _ _ ty_agg_api_Frac rfl rfl rfl rfl rfl (pt_own (av_rs 2 rfl rfl)) (av_rs 2 rfl rfl) (ar_tmp (av_rs 1 rfl rfl))⟩,
      trivial⟩ ?_
    refine nx_sub (fs' := [.rows 5 2 (fodd2_ED_c p0 q0 p1 q1), .slot 6 (VP.int .i64 ((2 : Nat) : Int)), .slot 7 (VP.int .i64 ((0 : Nat) : Int)), .slot 8 (VP.bool (decide (((0 : Nat) : Int) < ((2 : Nat) : Int)))), .rp 9 5 0, .slot 10 (VP.agg [Bz p0, Dz p0, Bz q0, Dz q0]), .box 4 100 [Bz p0, Dz p0, Bz q0, Dz q0]]) [0, 1, 2, 3, 4, 5, 7] rfl ?_
    refine nx_then ?_
    refine t_seq ?_
    refine t_region (F := ⟨_, _, _, _⟩) [.rows 5 2 (fodd2_ED_c p0 q0 p1 q1), .slot 6 (VP.int .i64 ((2 : Nat) : Int)), .slot 7 (VP.int .i64 ((0 : Nat) : Int)), .slot 8 (VP.bool (decide (((0 : Nat) : Int) < ((2 : Nat) : Int)))), .rp 9 5 0, .slot 10 (VP.agg [Bz p0, Dz p0, Bz q0, Dz q0]), .box 4 100 [Bz p0, Dz p0, Bz q0, Dz q0]] [] [(0, .fp 11 4 0), (1, .slot 12 (INT p0)), (2, .fp 13 4 2), (3, .slot 14 (INT q0)), (4, .arr 15 69 2 [Bz p0, Dz p0, Bz q0, Dz q0]), (5, .slot 16 (VP.bool false)), (6, .slot 17 (VP.bool false)), (7, .fp 18 4 0), (8, .fp 19 4 1), (9, .slot 20 (Dz p0)), (10, .slot 21 (VP.int .i64 (((dg BB p0.natAbs).length : Nat) : Int))), (11, .slot 22 (VP.bool (decide ((((dg BB p0.natAbs).length : Nat) : Int) > 5)))), (12, .slot 23 (VP.bool (decide ((((dg BB p0.natAbs).length : Nat) : Int) > 5)))), (13, .slot 24 (VP.bool (decide ((((dg BB p0.natAbs).length : Nat) : Int) > 5)))), (14, .fp 25 4 2), (15, .fp 26 4 3), (16, .slot 27 (Dz q0)), (17, .slot 28 (VP.int .i64 (((dg BB q0.natAbs).length : Nat) : Int))), (18, .slot 29 (VP.bool (decide ((((dg BB q0.natAbs).length : Nat) : Int) > 5)))), (19, .slot 30 (VP.bool (decide ((((dg BB q0.natAbs).length : Nat) : Int) > 5)))), (20, .slot 31 (VP.bool (decide ((((dg BB q0.natAbs).length : Nat) : Int) > 5)))), (21, .slot 32 (VP.agg [Bz p0, Dz p0, Bz q0, Dz q0])), (22, .slot 33 (VP.bool (rightF p0 q0))), (23, .slot 34 (VP.bool false)), (24, .slot 35 (VP.bool false))] [0, 1, 2, 3, 4, 5, 6] [] rfl rfl follow rfl ⟨
      .inl ⟨wants_plain rfl, does_field _ _ _ 0 ty_f0_api_Frac rfl rfl rfl rfl rfl rfl rfl (pt_box (av_fs 6 rfl))⟩,
      .inl ⟨wants_plain rfl, does_loadAgg _ ty_agg_api_Int rfl rfl rfl rfl rfl rfl (pt_fp (av_rs 0 rfl rfl)) (av_fs 6 rfl)⟩,
      .inl ⟨wants_plain rfl, does_field _ _ _ 2 ty_f1_api_Frac rfl rfl rfl rfl rfl rfl rfl (pt_box (av_fs 6 rfl))⟩,
      .inl ⟨wants_plain rfl, does_loadAgg _ ty_agg_api_Int rfl rfl rfl rfl rfl rfl (pt_fp (av_rs 2 rfl rfl)) (av_fs 6 rfl)⟩,
      .inl ⟨wants_plain rfl, does_buildSlice (sz := 2) [Bz 0, Dz 0, Bz 0, Dz 0] ty_zero_api_Int (by kernel_rfl) (fun w => run_sizeAgg ty_agg_api_Int w) rfl rfl rfl rfl rfl rfl (by kernel_rfl) (fun w => by exact z_int_2 w) (.cons 0 [Bz p0, Dz p0] rfl rfl (ar_cells_agg (ar_tmp (av_rs 1 rfl rfl))) (.cons 2 [Bz q0, Dz q0] rfl rfl (ar_cells_agg (ar_tmp (av_rs 3 rfl rfl))) (.nil _)))⟩,
      .inl ⟨wants_plain rfl, does_call (s_even2 p0 q0 (lle hp0 (by decide)) (lle hq0 (by decide))) rfl hb_collator_collatorlaw01_Odd rfl rfl rfl rfl ⟨(ar_arr (av_rs 4 rfl rfl)), trivial⟩⟩,
      .inl ⟨wants_plain rfl, does_move _ (.inl rfl) rfl rfl rfl rfl (ar_tmp (av_rs 5 rfl rfl))⟩,
      .inl ⟨wants_guard false rfl rfl rfl (av_rs 6 rfl rfl), does_field _ _ _ 0 ty_f0_api_Frac rfl rfl rfl rfl rfl rfl rfl (pt_box (av_fs 6 rfl))⟩,
      .inl ⟨wants_guard false rfl rfl rfl (av_rs 6 rfl rfl), does_field _ _ _ 1 ty_f1_api_Int rfl rfl rfl rfl rfl rfl rfl (pt_fp (av_rs 7 rfl rfl))⟩,
      .inl ⟨wants_guard false rfl rfl rfl (av_rs 6 rfl rfl), does_loadOne _ ty_one___uint32 rfl rfl rfl rfl rfl rfl (pt_fp (av_rs 8 rfl rfl)) (av_fs 6 rfl)⟩,
      .inl ⟨wants_guard false rfl rfl rfl (av_rs 6 rfl rfl), does_len _ _ (by kernel_rfl) rfl rfl rfl rfl rfl (ar_tmp (av_rs 9 rfl rfl))⟩,
      .inl ⟨wants_guard false rfl rfl rfl (av_rs 6 rfl rfl), does_cmp (m := (((dg BB p0.natAbs).length : Nat) : Int)) (n := 5) _ _ _ _ _ rfl rfl rfl rfl rfl rfl .i64 (ar_tmp (av_rs 10 rfl rfl)) (ar_const (fun _ => rfl))⟩,
      .inl ⟨wants_plain rfl, does_pick false _ _ _ rfl rfl rfl rfl rfl (ar_tmp (av_rs 6 rfl rfl)) (ar_tmp (av_rs 11 rfl rfl))⟩,
      .inl ⟨wants_plain rfl, does_move _ (.inl rfl) rfl rfl rfl rfl (ar_tmp (av_rs 12 rfl rfl))⟩,
      .inl ⟨wants_guard false rfl rfl rfl (av_bool (gt5_no hp0) (av_rs 13 rfl rfl)), does_field _ _ _ 2 ty_f1_api_Frac rfl rfl rfl rfl rfl rfl rfl (pt_box (av_fs 6 rfl))⟩,
      .inl ⟨wants_guard false rfl rfl rfl (av_bool (gt5_no hp0) (av_rs 13 rfl rfl)), does_field _ _ _ 1 ty_f1_api_Int rfl rfl rfl rfl rfl rfl rfl (pt_fp (av_rs 14 rfl rfl))⟩,
      .inl ⟨wants_guard false rfl rfl rfl (av_bool (gt5_no hp0) (av_rs 13 rfl rfl)), does_loadOne _ ty_one___uint32 rfl rfl rfl rfl rfl rfl (pt_fp (av_rs 15 rfl rfl)) (av_fs 6 rfl)⟩,
      .inl ⟨wants_guard false rfl rfl rfl (av_bool (gt5_no hp0) (av_rs 13 rfl rfl)), does_len _ _ (by kernel_rfl) rfl rfl rfl rfl rfl (ar_tmp (av_rs 16 rfl rfl))⟩,
      .inl ⟨wants_guard false rfl rfl rfl (av_bool (gt5_no hp0) (av_rs 13 rfl rfl)), does_cmp (m := (((dg BB q0.natAbs).length : Nat) : Int)) (n := 5) _ _ _ _ _ rfl rfl rfl rfl rfl rfl .i64 (ar_tmp (av_rs 17 rfl rfl)) (ar_const (fun _ => rfl))⟩,
      .inl ⟨wants_plain rfl, does_pick false _ _ _ rfl rfl rfl rfl rfl (ar_tmp (av_bool (gt5_no hp0) (av_rs 13 rfl rfl))) (ar_tmp (av_rs 18 rfl rfl))⟩,
      .inl ⟨wants_plain rfl, does_move _ (.inl rfl) rfl rfl rfl rfl (ar_tmp (av_rs 19 rfl rfl))⟩,
      .inl ⟨wants_guard false rfl rfl rfl (av_bool (gt5_no hq0) (av_rs 20 rfl rfl)), does_loadAgg _ ty_agg_api_Frac rfl rfl rfl rfl rfl rfl (pt_box (av_fs 6 rfl)) (av_fs 6 rfl)⟩,
      .inl ⟨wants_guard false rfl rfl rfl (av_bool (gt5_no hq0) (av_rs 20 rfl rfl)), does_call (g_right p0 q0 (lle hp0 (by decide)) (lle hq0 (by decide))) rfl hb_collator_collatorref02_Right rfl rfl rfl rfl ⟨(ar_tmp (av_rs 21 rfl rfl)), trivial⟩⟩,
      .inl ⟨wants_guard false rfl rfl rfl (av_bool (gt5_no hq0) (av_rs 20 rfl rfl)), does_not true _ _ rfl rfl rfl rfl rfl (ar_tmp (av_bool hb0 (av_rs 22 rfl rfl)))⟩,
      .inl ⟨wants_plain rfl, does_pick false _ _ _ rfl rfl rfl rfl rfl (ar_tmp (av_bool (gt5_no hq0) (av_rs 20 rfl rfl))) (ar_tmp (av_rs 23 rfl rfl))⟩,
      trivial⟩ ?_
    refine nx_sub (fs' := [.rows 5 2 (fodd2_ED_c p0 q0 p1 q1), .slot 6 (VP.int .i64 ((2 : Nat) : Int)), .slot 7 (VP.int .i64 ((0 : Nat) : Int)), .slot 8 (VP.bool (decide (((0 : Nat) : Int) < ((2 : Nat) : Int)))), .rp 9 5 0, .slot 10 (VP.agg [Bz p0, Dz p0, Bz q0, Dz q0]), .box 4 100 [Bz p0, Dz p0, Bz q0, Dz q0], .fp 11 4 0, .slot 12 (INT p0), .fp 13 4 2, .slot 14 (INT q0), .arr 15 69 2 [Bz p0, Dz p0, Bz q0, Dz q0], .slot 16 (VP.bool false), .slot 17 (VP.bool false), .fp 18 4 0, .fp 19 4 1, .slot 20 (Dz p0), .slot 21 (VP.int .i64 (((dg BB p0.natAbs).length : Nat) : Int)), .slot 22 (VP.bool (decide ((((dg BB p0.natAbs).length : Nat) : Int) > 5))), .slot 23 (VP.bool (decide ((((dg BB p0.natAbs).length : Nat) : Int) > 5))), .slot 24 (VP.bool (decide ((((dg BB p0.natAbs).length : Nat) : Int) > 5))), .fp 25 4 2, .fp 26 4 3, .slot 27 (Dz q0), .slot 28 (VP.int .i64 (((dg BB q0.natAbs).length : Nat) : Int)), .slot 29 (VP.bool (decide ((((dg BB q0.natAbs).length : Nat) : Int) > 5))), .slot 30 (VP.bool (decide ((((dg BB q0.natAbs).length : Nat) : Int) > 5))), .slot 31 (VP.bool (decide ((((dg BB q0.natAbs).length : Nat) : Int) > 5))), .slot 32 (VP.agg [Bz p0, Dz p0, Bz q0, Dz q0]), .slot 33 (VP.bool (rightF p0 q0)), .slot 34 (VP.bool false), .slot 35 (VP.bool false)]) [0, 1, 2, 3, 4, 5, 6, 7, 8, 9, 10, 11, 12, 13, 14, 15, 16, 17, 18, 19, 20, 21, 22, 23, 24, 25, 26, 27, 28, 29, 30, 31] rfl ?_
    refine nx_then ?_
    refine t_cond_f 31 rfl ?_
    refine t_skip ?_
    refine nx_block ?_
    refine nx_then ?_
    refine t_region (F := ⟨_, _, _, _⟩) [.rows 5 2 (fodd2_ED_c p0 q0 p1 q1), .slot 6 (VP.int .i64 ((2 : Nat) : Int)), .slot 8 (VP.bool (decide (((0 : Nat) : Int) < ((2 : Nat) : Int)))), .rp 9 5 0, .slot 10 (VP.agg [Bz p0, Dz p0, Bz q0, Dz q0]), .box 4 100 [Bz p0, Dz p0, Bz q0, Dz q0], .fp 11 4 0, .slot 12 (INT p0), .fp 13 4 2, .slot 14 (INT q0), .arr 15 69 2 [Bz p0, Dz p0, Bz q0, Dz q0], .slot 16 (VP.bool false), .slot 17 (VP.bool false), .fp 18 4 0, .fp 19 4 1, .slot 20 (Dz p0), .slot 21 (VP.int .i64 (((dg BB p0.natAbs).length : Nat) : Int)), .slot 22 (VP.bool (decide ((((dg BB p0.natAbs).length : Nat) : Int) > 5))), .slot 23 (VP.bool (decide ((((dg BB p0.natAbs).length : Nat) : Int) > 5))), .slot 24 (VP.bool (decide ((((dg BB p0.natAbs).length : Nat) : Int) > 5))), .fp 25 4 2, .fp 26 4 3, .slot 27 (Dz q0), .slot 28 (VP.int .i64 (((dg BB q0.natAbs).length : Nat) : Int)), .slot 29 (VP.bool (decide ((((dg BB q0.natAbs).length : Nat) : Int) > 5))), .slot 30 (VP.bool (decide ((((dg BB q0.natAbs).length : Nat) : Int) > 5))), .slot 31 (VP.bool (decide ((((dg BB q0.natAbs).length : Nat) : Int) > 5))), .slot 32 (VP.agg [Bz p0, Dz p0, Bz q0, Dz q0]), .slot 33 (VP.bool (rightF p0 q0)), .slot 34 (VP.bool false), .slot 35 (VP.bool false)] [(1, .slot 7 (VP.int .i64 ((0 : Nat) : Int)))] [(0, .slot 36 (VP.int .i64 ((1 : Nat) : Int))), (1, .slot 7 (VP.int .i64 ((1 : Nat) : Int)))] [0, 1, 3, 4, 5, 6, 7, 8, 9, 10, 11, 12, 13, 14, 15, 16, 17, 18, 19, 20, 21, 22, 23, 24, 25, 26, 27, 28, 29, 30, 31] [2] rfl rfl follow rfl ⟨
      .inl ⟨wants_plain rfl, does_addInt (m := ((0 : Nat) : Int)) (n := 1) _ _ _ _ rfl rfl rfl rfl rfl (by omega) (ar_tmp (av_os 0 rfl rfl)) (ar_const (fun _ => rfl))⟩,
      .inl ⟨wants_plain rfl, does_move _ (.inl rfl) rfl rfl rfl rfl (ar_tmp (av_rs 0 rfl rfl))⟩,
      trivial⟩ ?_
    refine nx_sub (fs' := [.rows 5 2 (fodd2_ED_c p0 q0 p1 q1), .slot 6 (VP.int .i64 ((2 : Nat) : Int)), .slot 8 (VP.bool (decide (((0 : Nat) : Int) < ((2 : Nat) : Int)))), .rp 9 5 0, .slot 10 (VP.agg [Bz p0, Dz p0, Bz q0, Dz q0]), .box 4 100 [Bz p0, Dz p0, Bz q0, Dz q0], .fp 11 4 0, .slot 12 (INT p0), .fp 13 4 2, .slot 14 (INT q0), .arr 15 69 2 [Bz p0, Dz p0, Bz q0, Dz q0], .slot 16 (VP.bool false), .slot 17 (VP.bool false), .fp 18 4 0, .fp 19 4 1, .slot 20 (Dz p0), .slot 21 (VP.int .i64 (((dg BB p0.natAbs).length : Nat) : Int)), .slot 22 (VP.bool (decide ((((dg BB p0.natAbs).length : Nat) : Int) > 5))), .slot 23 (VP.bool (decide ((((dg BB p0.natAbs).length : Nat) : Int) > 5))), .slot 24 (VP.bool (decide ((((dg BB p0.natAbs).length : Nat) : Int) > 5))), .fp 25 4 2, .fp 26 4 3, .slot 27 (Dz q0), .slot 28 (VP.int .i64 (((dg BB q0.natAbs).length : Nat) : Int)), .slot 29 (VP.bool (decide ((((dg BB q0.natAbs).length : Nat) : Int) > 5))), .slot 30 (VP.bool (decide ((((dg BB q0.natAbs).length : Nat) : Int) > 5))), .slot 31 (VP.bool (decide ((((dg BB q0.natAbs).length : Nat) : Int) > 5))), .slot 32 (VP.agg [Bz p0, Dz p0, Bz q0, Dz q0]), .slot 33 (VP.bool (rightF p0 q0)), .slot 34 (VP.bool false), .slot 35 (VP.bool false), .slot 36 (VP.int .i64 ((1 : Nat) : Int)), .slot 7 (VP.int .i64 ((1 : Nat) : Int))]) [0, 1, 2, 3, 4, 5, 6, 7, 8, 9, 10, 11, 12, 13, 14, 15, 16, 17, 18, 19, 20, 21, 22, 23, 24, 25, 26, 27, 28, 29, 30, 31, 32] rfl ?_
    exact nx_round ⟨1, by decide⟩ (by show 2 - 1 < 2 - 0; decide) [0, 1, 32] rfl
  case inr =>
    refine t_seq ?_
    refine t_region (F := ⟨_, _, _, _⟩) [.rows 5 2 (fodd2_ED_c p0 q0 p1 q1), .slot 6 (VP.int .i64 ((2 : Nat) : Int)), .slot 7 (VP.int .i64 ((1 : Nat) : Int))] [] [(0, .slot 8 (VP.bool (decide (((1 : Nat) : Int) < ((2 : Nat) : Int)))))] [0, 1, 2] [] rfl rfl follow rfl ⟨
      .inl ⟨wants_plain rfl, does_cmp (m := ((1 : Nat) : Int)) (n := ((2 : Nat) : Int)) _ _ _ _ _ rfl rfl rfl rfl rfl rfl .i64 (ar_tmp (av_fs 2 rfl)) (ar_tmp (av_fs 1 rfl))⟩,
      trivial⟩ ?_
    refine nx_sub (fs' := [.rows 5 2 (fodd2_ED_c p0 q0 p1 q1), .slot 6 (VP.int .i64 ((2 : Nat) : Int)), .slot 7 (VP.int .i64 ((1 : Nat) : Int)), .slot 8 (VP.bool (decide (((1 : Nat) : Int) < ((2 : Nat) : Int))))]) [0, 1, 2, 3] rfl ?_
    refine nx_then ?_
    refine t_seq ?_
    refine t_cond_te 3 rfl rfl ?_
    refine t_skip ?_
    refine nx_then ?_
    refine t_seq ?_
    refine t_block ?_
    refine t_seq ?_
    refine t_region (F := ⟨_, _, _, _⟩) [.rows 5 2 (fodd2_ED_c p0 q0 p1 q1), .slot 6 (VP.int .i64 ((2 : Nat) : Int)), .slot 7 (VP.int .i64 ((1 : Nat) : Int)), .slot 8 (VP.bool (decide (((1 : Nat) : Int) < ((2 : Nat) : Int))))] [] [(0, .rp 9 5 4), (1, .slot 10 (VP.agg [Bz p1, Dz p1, Bz q1, Dz q1])), (2, .own 4 100 4), (3, .box 4 100 [Bz p1, Dz p1, Bz q1, Dz q1])] [0, 1, 2, 3] [] rfl rfl follow rfl ⟨
      .inl ⟨wants_plain rfl, does_indexRows (m := 1) (sz := 4) _ _ rfl Try.underlying178 (fun w => run_sizeAgg ty_agg_api_Frac w) rfl rfl rfl rfl rfl rfl (by decide) rfl (av_fs 0 rfl) (ar_tmp (av_fs 2 rfl))⟩,
      .inl ⟨wants_plain rfl, does_loadRows _ rfl ty_agg_api_Frac rfl rfl rfl rfl rfl rfl rfl (av_rs 0 rfl rfl) (av_fs 0 rfl)⟩,
      .inl ⟨wants_plain rfl, does_allocOwn [Bz 0, Dz 0, Bz 0, Dz 0] ty_zero_api_Frac rfl rfl rfl rfl rfl z_frac rfl⟩,
      .inl ⟨wants_plain rfl, does_storeNew 4 _ _ ty_agg_api_Frac rfl rfl rfl rfl rfl (pt_own (av_rs 2 rfl rfl)) (av_rs 2 rfl rfl) (ar_tmp (av_rs 1 rfl rfl))⟩,
      trivial⟩ ?_
    refine nx_sub (fs' := [.rows 5 2 (fodd2_ED_c p0 q0 p1 q1), .slot 6 (VP.int .i64 ((2 : Nat) : Int)), .slot 7 (VP.int .i64 ((1 : Nat) : Int)), .slot 8 (VP.bool (decide (((1 : Nat) : Int) < ((2 : Nat) : Int)))), .rp 9 5 4, .slot 10 (VP.agg [Bz p1, Dz p1, Bz q1, Dz q1]), .box 4 100 [Bz p1, Dz p1, Bz q1, Dz q1]]) [0, 1, 2, 3, 4, 5, 7] rfl ?_
    refine nx_then ?_
    refine t_seq ?_
    refine t_region (F := ⟨_, _, _, _⟩) [.rows 5 2 (fodd2_ED_c p0 q0 p1 q1), .slot 6 (VP.int .i64 ((2 : Nat) : Int)), .slot 7 (VP.int .i64 ((1 : Nat) : Int)), .slot 8 (VP.bool (decide (((1 : Nat) : Int) < ((2 : Nat) : Int)))), .rp 9 5 4, .slot 10 (VP.agg [Bz p1, Dz p1, Bz q1, Dz q1]), .box 4 100 [Bz p1, Dz p1, Bz q1, Dz q1]] [] [(0, .fp 11 4 0), (1, .slot 12 (INT p1)), (2, .fp 13 4 2), (3, .slot 14 (INT q1)), (4, .arr 15 69 2 [Bz p1, Dz p1, Bz q1, Dz q1]), (5, .slot 16 (VP.bool false)), (6, .slot 17 (VP.bool false)), (7, .fp 18 4 0), (8, .fp 19 4 1), (9, .slot 20 (Dz p1)), (10, .slot 21 (VP.int .i64 (((dg BB p1.natAbs).length : Nat) : Int))), (11, .slot 22 (VP.bool (decide ((((dg BB p1.natAbs).length : Nat) : Int) > 5)))), (12, .slot 23 (VP.bool (decide ((((dg BB p1.natAbs).length : Nat) : Int) > 5)))), (13, .slot 24 (VP.bool (decide ((((dg BB p1.natAbs).length : Nat) : Int) > 5)))), (14, .fp 25 4 2), (15, .fp 26 4 3), (16, .slot 27 (Dz q1)), (17, .slot 28 (VP.int .i64 (((dg BB q1.natAbs).length : Nat) : Int))), (18, .slot 29 (VP.bool (decide ((((dg BB q1.natAbs).length : Nat) : Int) > 5)))), (19, .slot 30 (VP.bool (decide ((((dg BB q1.natAbs).length : Nat) : Int) > 5)))), (20, .slot 31 (VP.bool (decide ((((dg BB q1.natAbs).length : Nat) : Int) > 5)))), (21, .slot 32 (VP.agg [Bz p1, Dz p1, Bz q1, Dz q1])), (22, .slot 33 (VP.bool (rightF p1 q1))), (23, .slot 34 (VP.bool true)), (24, .slot 35 (VP.bool true))] [0, 1, 2, 3, 4, 5, 6] [] rfl rfl follow rfl ⟨
      .inl ⟨wants_plain rfl, does_field _ _ _ 0 ty_f0_api_Frac rfl rfl rfl rfl rfl rfl rfl (pt_box (av_fs 6 rfl))⟩,
      .inl ⟨wants_plain rfl, does_loadAgg _ ty_agg_api_Int rfl rfl rfl rfl rfl rfl (pt_fp (av_rs 0 rfl rfl)) (av_fs 6 rfl)⟩,
      .inl ⟨wants_plain rfl, does_field _ _ _ 2 ty_f1_api_Frac rfl rfl rfl rfl rfl rfl rfl (pt_box (av_fs 6 rfl))⟩,
      .inl ⟨wants_plain rfl, does_loadAgg _ ty_agg_api_Int rfl rfl rfl rfl rfl rfl (pt_fp (av_rs 2 rfl rfl)) (av_fs 6 rfl)⟩,
      .inl ⟨wants_plain rfl, does_buildSlice (sz := 2) [Bz 0, Dz 0, Bz 0, Dz 0] ty_zero_api_Int (by kernel_rfl) (fun w => run_sizeAgg ty_agg_api_Int w) rfl rfl rfl rfl rfl rfl (by kernel_rfl) (fun w => by exact z_int_2 w) (.cons 0 [Bz p1, Dz p1] rfl rfl (ar_cells_agg (ar_tmp (av_rs 1 rfl rfl))) (.cons 2 [Bz q1, Dz q1] rfl rfl (ar_cells_agg (ar_tmp (av_rs 3 rfl rfl))) (.nil _)))⟩,
      .inl ⟨wants_plain rfl, does_call (s_even2 p1 q1 (lle hp1 (by decide)) (lle hq1 (by decide))) rfl hb_collator_collatorlaw01_Odd rfl rfl rfl rfl ⟨(ar_arr (av_rs 4 rfl rfl)), trivial⟩⟩,
      .inl ⟨wants_plain rfl, does_move _ (.inl rfl) rfl rfl rfl rfl (ar_tmp (av_rs 5 rfl rfl))⟩,
      .inl ⟨wants_guard false rfl rfl rfl (av_rs 6 rfl rfl), does_field _ _ _ 0 ty_f0_api_Frac rfl rfl rfl rfl rfl rfl rfl (pt_box (av_fs 6 rfl))⟩,
      .inl ⟨wants_guard false rfl rfl rfl (av_rs 6 rfl rfl), does_field _ _ _ 1 ty_f1_api_Int rfl rfl rfl rfl rfl rfl rfl (pt_fp (av_rs 7 rfl rfl))⟩,
      .inl ⟨wants_guard false rfl rfl rfl (av_rs 6 rfl rfl), does_loadOne _ ty_one___uint32 rfl rfl rfl rfl rfl rfl (pt_fp (av_rs 8 rfl rfl)) (av_fs 6 rfl)⟩,
      .inl ⟨wants_guard false rfl rfl rfl (av_rs 6 rfl rfl), does_len _ _ (by kernel_rfl) rfl rfl rfl rfl rfl (ar_tmp (av_rs 9 rfl rfl))⟩,
      .inl ⟨wants_guard false rfl rfl rfl (av_rs 6 rfl rfl), does_cmp (m := (((dg BB p1.natAbs).length : Nat) : Int)) (n := 5) _ _ _ _ _ rfl rfl rfl rfl rfl rfl .i64 (ar_tmp (av_rs 10 rfl rfl)) (ar_const (fun _ => rfl))⟩,
      .inl ⟨wants_plain rfl, does_pick false _ _ _ rfl rfl rfl rfl rfl (ar_tmp (av_rs 6 rfl rfl)) (ar_tmp (av_rs 11 rfl rfl))⟩,
      .inl ⟨wants_plain rfl, does_move _ (.inl rfl) rfl rfl rfl rfl (ar_tmp (av_rs 12 rfl rfl))⟩,
      .inl ⟨wants_guard false rfl rfl rfl (av_bool (gt5_no hp1) (av_rs 13 rfl rfl)), does_field _ _ _ 2 ty_f1_api_Frac rfl rfl rfl rfl rfl rfl rfl (pt_box (av_fs 6 rfl))⟩,
      .inl ⟨wants_guard false rfl rfl rfl (av_bool (gt5_no hp1) (av_rs 13 rfl rfl)), does_field _ _ _ 1 ty_f1_api_Int rfl rfl rfl rfl rfl rfl rfl (pt_fp (av_rs 14 rfl rfl))⟩,
      .inl ⟨wants_guard false rfl rfl rfl (av_bool (gt5_no hp1) (av_rs 13 rfl rfl)), does_loadOne _ ty_one___uint32 rfl rfl rfl rfl rfl rfl (pt_fp (av_rs 15 rfl rfl)) (av_fs 6 rfl)⟩,
      .inl ⟨wants_guard false rfl rfl rfl (av_bool (gt5_no hp1) (av_rs 13 rfl rfl)), does_len _ _ (by kernel_rfl) rfl rfl rfl rfl rfl (ar_tmp (av_rs 16 rfl rfl))⟩,
      .inl ⟨wants_guard false rfl rfl rfl (av_bool (gt5_no hp1) (av_rs 13 rfl rfl)), does_cmp (m := (((dg BB q1.natAbs).length : Nat) : Int)) (n := 5) _ _ _ _ _ rfl rfl rfl rfl rfl rfl .i64 (ar_tmp (av_rs 17 rfl rfl)) (ar_const (fun _ => rfl))⟩,
      .inl ⟨wants_plain rfl, does_pick false _ _ _ rfl rfl rfl rfl rfl (ar_tmp (av_bool (gt5_no hp1) (av_rs 13 rfl rfl))) (ar_tmp (av_rs 18 rfl rfl))⟩,
      .inl ⟨wants_plain rfl, does_move _ (.inl rfl) rfl rfl rfl rfl (ar_tmp (av_rs 19 rfl rfl))⟩,
      .inl ⟨wants_guard false rfl rfl rfl (av_bool (gt5_no hq1) (av_rs 20 rfl rfl)), does_loadAgg _ ty_agg_api_Frac rfl rfl rfl rfl rfl rfl (pt_box (av_fs 6 rfl)) (av_fs 6 rfl)⟩,
      .inl ⟨wants_guard false rfl rfl rfl (av_bool (gt5_no hq1) (av_rs 20 rfl rfl)), does_call (g_right p1 q1 (lle hp1 (by decide)) (lle hq1 (by decide))) rfl hb_collator_collatorref02_Right rfl rfl rfl rfl ⟨(ar_tmp (av_rs 21 rfl rfl)), trivial⟩⟩,
      .inl ⟨wants_guard false rfl rfl rfl (av_bool (gt5_no hq1) (av_rs 20 rfl rfl)), does_not false _ _ rfl rfl rfl rfl rfl (ar_tmp (av_bool hb1 (av_rs 22 rfl rfl)))⟩,
      .inl ⟨wants_plain rfl, does_pick false _ _ _ rfl rfl rfl rfl rfl (ar_tmp (av_bool (gt5_no hq1) (av_rs 20 rfl rfl))) (ar_tmp (av_rs 23 rfl rfl))⟩,
      trivial⟩ ?_
    refine nx_sub (fs' := [.rows 5 2 (fodd2_ED_c p0 q0 p1 q1), .slot 6 (VP.int .i64 ((2 : Nat) : Int)), .slot 7 (VP.int .i64 ((1 : Nat) : Int)), .slot 8 (VP.bool (decide (((1 : Nat) : Int) < ((2 : Nat) : Int)))), .rp 9 5 4, .slot 10 (VP.agg [Bz p1, Dz p1, Bz q1, Dz q1]), .box 4 100 [Bz p1, Dz p1, Bz q1, Dz q1], .fp 11 4 0, .slot 12 (INT p1), .fp 13 4 2, .slot 14 (INT q1), .arr 15 69 2 [Bz p1, Dz p1, Bz q1, Dz q1], .slot 16 (VP.bool false), .slot 17 (VP.bool false), .fp 18 4 0, .fp 19 4 1, .slot 20 (Dz p1), .slot 21 (VP.int .i64 (((dg BB p1.natAbs).length : Nat) : Int)), .slot 22 (VP.bool (decide ((((dg BB p1.natAbs).length : Nat) : Int) > 5))), .slot 23 (VP.bool (decide ((((dg BB p1.natAbs).length : Nat) : Int) > 5))), .slot 24 (VP.bool (decide ((((dg BB p1.natAbs).length : Nat) : Int) > 5))), .fp 25 4 2, .fp 26 4 3, .slot 27 (Dz q1), .slot 28 (VP.int .i64 (((dg BB q1.natAbs).length : Nat) : Int)), .slot 29 (VP.bool (decide ((((dg BB q1.natAbs).length : Nat) : Int) > 5))), .slot 30 (VP.bool (decide ((((dg BB q1.natAbs).length : Nat) : Int) > 5))), .slot 31 (VP.bool (decide ((((dg BB q1.natAbs).length : Nat) : Int) > 5))), .slot 32 (VP.agg [Bz p1, Dz p1, Bz q1, Dz q1]), .slot 33 (VP.bool (rightF p1 q1)), .slot 34 (VP.bool true), .slot 35 (VP.bool true)]) [0, 1, 2, 3, 4, 5, 6, 7, 8, 9, 10, 11, 12, 13, 14, 15, 16, 17, 18, 19, 20, 21, 22, 23, 24, 25, 26, 27, 28, 29, 30, 31] rfl ?_
    refine nx_then ?_
    refine t_cond_t 31 rfl ?_
    refine t_seq ?_
    refine t_region (F := ⟨_, _, _, _⟩) [.rows 5 2 (fodd2_ED_c p0 q0 p1 q1), .slot 6 (VP.int .i64 ((2 : Nat) : Int)), .slot 7 (VP.int .i64 ((1 : Nat) : Int)), .slot 8 (VP.bool (decide (((1 : Nat) : Int) < ((2 : Nat) : Int)))), .rp 9 5 4, .slot 10 (VP.agg [Bz p1, Dz p1, Bz q1, Dz q1]), .box 4 100 [Bz p1, Dz p1, Bz q1, Dz q1], .fp 11 4 0, .slot 12 (INT p1), .fp 13 4 2, .slot 14 (INT q1), .arr 15 69 2 [Bz p1, Dz p1, Bz q1, Dz q1], .slot 16 (VP.bool false), .slot 17 (VP.bool false), .fp 18 4 0, .fp 19 4 1, .slot 20 (Dz p1), .slot 21 (VP.int .i64 (((dg BB p1.natAbs).length : Nat) : Int)), .slot 22 (VP.bool (decide ((((dg BB p1.natAbs).length : Nat) : Int) > 5))), .slot 23 (VP.bool (decide ((((dg BB p1.natAbs).length : Nat) : Int) > 5))), .slot 24 (VP.bool (decide ((((dg BB p1.natAbs).length : Nat) : Int) > 5))), .fp 25 4 2, .fp 26 4 3, .slot 27 (Dz q1), .slot 28 (VP.int .i64 (((dg BB q1.natAbs).length : Nat) : Int)), .slot 29 (VP.bool (decide ((((dg BB q1.natAbs).length : Nat) : Int) > 5))), .slot 30 (VP.bool (decide ((((dg BB q1.natAbs).length : Nat) : Int) > 5))), .slot 31 (VP.bool (decide ((((dg BB q1.natAbs).length : Nat) : Int) > 5))), .slot 32 (VP.agg [Bz p1, Dz p1, Bz q1, Dz q1]), .slot 33 (VP.bool (rightF p1 q1)), .slot 34 (VP.bool true), .slot 35 (VP.bool true)] [] [(0, .slot 2 (VP.bool true))] [0, 1, 2, 3, 4, 5, 6, 7, 8, 9, 10, 11, 12, 13, 14, 15, 16, 17, 18, 19, 20, 21, 22, 23, 24, 25, 26, 27, 28, 29, 30, 31] [] rfl rfl follow rfl ⟨
      .inl ⟨wants_plain rfl, does_move _ (.inr rfl) rfl rfl rfl rfl (ar_const (fun _ => rfl))⟩,
      trivial⟩ ?_
    refine nx_sub (fs' := [.rows 5 2 (fodd2_ED_c p0 q0 p1 q1), .slot 6 (VP.int .i64 ((2 : Nat) : Int)), .slot 7 (VP.int .i64 ((1 : Nat) : Int)), .slot 8 (VP.bool (decide (((1 : Nat) : Int) < ((2 : Nat) : Int)))), .rp 9 5 4, .slot 10 (VP.agg [Bz p1, Dz p1, Bz q1, Dz q1]), .box 4 100 [Bz p1, Dz p1, Bz q1, Dz q1], .fp 11 4 0, .slot 12 (INT p1), .fp 13 4 2, .slot 14 (INT q1), .arr 15 69 2 [Bz p1, Dz p1, Bz q1, Dz q1], .slot 16 (VP.bool false), .slot 17 (VP.bool false), .fp 18 4 0, .fp 19 4 1, .slot 20 (Dz p1), .slot 21 (VP.int .i64 (((dg BB p1.natAbs).length : Nat) : Int)), .slot 22 (VP.bool (decide ((((dg BB p1.natAbs).length : Nat) : Int) > 5))), .slot 23 (VP.bool (decide ((((dg BB p1.natAbs).length : Nat) : Int) > 5))), .slot 24 (VP.bool (decide ((((dg BB p1.natAbs).length : Nat) : Int) > 5))), .fp 25 4 2, .fp 26 4 3, .slot 27 (Dz q1), .slot 28 (VP.int .i64 (((dg BB q1.natAbs).length : Nat) : Int)), .slot 29 (VP.bool (decide ((((dg BB q1.natAbs).length : Nat) : Int) > 5))), .slot 30 (VP.bool (decide ((((dg BB q1.natAbs).length : Nat) : Int) > 5))), .slot 31 (VP.bool (decide ((((dg BB q1.natAbs).length : Nat) : Int) > 5))), .slot 32 (VP.agg [Bz p1, Dz p1, Bz q1, Dz q1]), .slot 33 (VP.bool (rightF p1 q1)), .slot 34 (VP.bool true), .slot 35 (VP.bool true), .slot 2 (VP.bool true)]) [0, 1, 2, 3, 4, 5, 6, 7, 8, 9, 10, 11, 12, 13, 14, 15, 16, 17, 18, 19, 20, 21, 22, 23, 24, 25, 26, 27, 28, 29, 30, 31, 32] rfl ?_
    refine nx_then ?_
    refine t_ret ?_
    refine rt_block ?_
    refine rt_then ?_
    refine rt_then ?_
    refine rt_block ?_
    refine rt_then ?_
    exact rt_one rfl (res_tmp 32 rfl)
abbrev fodd2_EE_c (p0 q0 : Int) (p1 q1 : Int) : List VP := [Bz p0, Dz p0, Bz q0, Dz q0, Bz p1, Dz p1, Bz q1, Dz q1]
set_option maxRecDepth 100000 in
set_option maxHeartbeats 4000000 in
theorem fodd2_EE (p0 q0 : Int) (hp0 : L p0 ≤ 5) (hq0 : L q0 ≤ 5) (hb0 : rightF p0 q0 = true) (p1 q1 : Int) (hp1 : L p1 ≤ 5) (hq1 : L q1 ≤ 5) (hb1 : rightF p1 q1 = true) : Spec Try.prog 73 [isRows 2 (fodd2_EE_c p0 q0 p1 q1)] (VP.bool false) := by
  refine spec_ofP (xs := [.rows 2 (fodd2_EE_c p0 q0 p1 q1)]) 37 [4] Try.func73 rfl Try.ntmps73 rfl fun w0 => ?_
  refine t_seq ?_
  refine t_region (F := ⟨_, _, _, _⟩) [.rows 0 2 (fodd2_EE_c p0 q0 p1 q1)] [] [(0, .slot 2 (VP.bool false))] [0] [] rfl rfl follow rfl ⟨
    .inl ⟨wants_plain rfl, does_move _ (.inr rfl) rfl rfl rfl rfl (ar_const (fun _ => rfl))⟩,
    trivial⟩ ?_
  refine nx_sub (fs' := [.rows 0 2 (fodd2_EE_c p0 q0 p1 q1), .slot 2 (VP.bool false)]) [0, 1] rfl ?_
  refine nx_then ?_
  refine t_seq ?_
  refine t_seq ?_
  refine t_region (F := ⟨_, _, _, _⟩) [.rows 0 2 (fodd2_EE_c p0 q0 p1 q1), .slot 2 (VP.bool false)] [] [(0, .rows 5 2 (fodd2_EE_c p0 q0 p1 q1)), (1, .slot 6 (VP.int .i64 ((2 : Nat) : Int))), (2, .slot 7 (VP.int .i64 0))] [0, 1] [] rfl rfl follow rfl ⟨
    .inl ⟨wants_plain rfl, does_moveRows _ (.inl rfl) rfl rfl rfl rfl rfl (av_fs 0 rfl)⟩,
    .inl ⟨wants_plain rfl, does_lenRows _ _ rfl (by kernel_rfl) rfl rfl rfl rfl rfl (av_rs 0 rfl rfl)⟩,
    .inl ⟨wants_plain rfl, does_move _ (.inl rfl) rfl rfl rfl rfl (ar_const (fun _ => rfl))⟩,
    trivial⟩ ?_
  refine nx_sub (fs' := [.slot 2 (VP.bool false), .rows 5 2 (fodd2_EE_c p0 q0 p1 q1), .slot 6 (VP.int .i64 ((2 : Nat) : Int)), .slot 7 (VP.int .i64 0)]) [1, 2, 3, 4] rfl ?_
  refine nx_then ?_
  refine t_block ?_
  refine t_loop (σ := {k : Nat // k ≤ 2}) (fun s => [.rows 5 2 (fodd2_EE_c p0 q0 p1 q1), .slot 6 (VP.int .i64 ((2 : Nat) : Int)), .slot 7 (VP.int .i64 ((s.1 : Nat) : Int))]) (fun s => 2 - s.1) (⟨0, by decide⟩) [1, 2, 3] rfl ?_
  intro s
  obtain ⟨k, hk⟩ := s
  have hc : k = 0 ∨ k = 1 ∨ k = 2 := by omega
  rcases hc with rfl | rfl | rfl
  case inl =>
    refine t_seq ?_
    refine t_region (F := ⟨_, _, _, _⟩) [.rows 5 2 (fodd2_EE_c p0 q0 p1 q1), .slot 6 (VP.int .i64 ((2 : Nat) : Int)), .slot 7 (VP.int .i64 ((0 : Nat) : Int))] [] [(0, .slot 8 (VP.bool (decide (((0 : Nat) : Int) < ((2 : Nat) : Int)))))] [0, 1, 2] [] rfl rfl follow rfl ⟨
      .inl ⟨wants_plain rfl, does_cmp (m := ((0 : Nat) : Int)) (n := ((2 : Nat) : Int)) _ _ _ _ _ rfl rfl rfl rfl rfl rfl .i64 (ar_tmp (av_fs 2 rfl)) (ar_tmp (av_fs 1 rfl))⟩,
      trivial⟩ ?_
    refine nx_sub (fs' := [.rows 5 2 (fodd2_EE_c p0 q0 p1 q1), .slot 6 (VP.int .i64 ((2 : Nat) : Int)), .slot 7 (VP.int .i64 ((0 : Nat) : Int)), .slot 8 (VP.bool (decide (((0 : Nat) : Int) < ((2 : Nat) : Int))))]) [0, 1, 2, 3] rfl ?_
    refine nx_then ?_
    refine t_seq ?_
    refine t_cond_te 3 rfl rfl ?_
    refine t_skip ?_
    refine nx_then ?_
    refine t_seq ?_
    refine t_block ?_
    refine t_seq ?_
    refine t_region (F := ⟨_, _, _, _⟩) [.rows 5 2 (fodd2_EE_c p0 q0 p1 q1), .slot 6 (VP.int .i64 ((2 : Nat) : Int)), .slot 7 (VP.int .i64 ((0 : Nat) : Int)), .slot 8 (VP.bool (decide (((0 : Nat) : Int) < ((2 : Nat) : Int))))] [] [(0, .rp 9 5 0), (1, .slot 10 (VP.agg [Bz p0, Dz p0, Bz q0, Dz q0])), (2, .own 4 100 4), (3, .box 4 100 [Bz p0, Dz p0, Bz q0, Dz q0])] [0, 1, 2, 3] [] rfl rfl follow rfl ⟨
      .inl ⟨wants_plain rfl, does_indexRows (m := 0) (sz := 4) _ _ rfl Try.underlying178 (fun w => run_sizeAgg ty_agg_api_Frac w) rfl rfl rfl rfl rfl rfl (by decide) rfl (av_fs 0 rfl) (ar_tmp (av_fs 2 rfl))⟩,
      .inl ⟨wants_plain rfl, does_loadRows _ rfl ty_agg_api_Frac rfl rfl rfl rfl rfl rfl rfl (av_rs 0 rfl rfl) (av_fs 0 rfl)⟩,
      .inl ⟨wants_plain rfl, does_allocOwn [Bz 0, Dz 0, Bz 0, Dz 0] ty_zero_api_Frac rfl rfl rfl rfl rfl z_frac rfl⟩,
      .inl ⟨wants_plain rfl, does_storeNew 4 _ _ ty_agg_api_Frac rfl rfl rfl rfl rfl (pt_own (av_rs 2 rfl rfl)) (av_rs 2 rfl rfl) (ar_tmp (av_rs 1 rfl rfl))⟩,
      trivial⟩ ?_
    refine nx_sub (fs' := [.rows 5 2 (fodd2_EE_c p0 q0 p1 q1), .slot 6 (VP.int .i64 ((2 : Nat) : Int)), .slot 7 (VP.int .i64 ((0 : Nat) : Int)), .slot 8 (VP.bool (decide (((0 : Nat) : Int) < ((2 : Nat) : Int)))), .rp 9 5 0, .slot 10 (VP.agg [Bz p0, Dz p0, Bz q0, Dz q0]), .box 4 100 [Bz p0, Dz p0, Bz q0, Dz q0]]) [0, 1, 2, 3, 4, 5, 7] rfl ?_
    refine nx_then ?_
    refine t_seq ?_
    refine t_region (F := ⟨_, _, _, _⟩) [.rows 5 2 (fodd2_EE_c p0 q0 p1 q1), .slot 6 (VP.int .i64 ((2 : Nat) : Int)), .slot 7 (VP.int .i64 ((0 : Nat) : Int)), .slot 8 (VP.bool (decide (((0 : Nat) : Int) < ((2 : Nat) : Int)))), .rp 9 5 0, .slot 10 (VP.agg [Bz p0, Dz p0, Bz q0, Dz q0]), .box 4 100 [Bz p0, Dz p0, Bz q0, Dz q0]] [] [(0, .fp 11 4 0), (1, .slot 12 (INT p0)), (2, .fp 13 4 2), (3, .slot 14 (INT q0)), (4, .arr 15 69 2 [Bz p0, Dz p0, Bz q0, Dz q0]), (5, .slot 16 (VP.bool false)), (6, .slot 17 (VP.bool false)), (7, .fp 18 4 0), (8, .fp 19 4 1), (9, .slot 20 (Dz p0)), (10, .slot 21 (VP.int .i64 (((dg BB p0.natAbs).length : Nat) : Int))), (11, .slot 22 (VP.bool (decide ((((dg BB p0.natAbs).length : Nat) : Int) > 5)))), (12, .slot 23 (VP.bool (decide ((((dg BB p0.natAbs).length : Nat) : Int) > 5)))), (13, .slot 24 (VP.bool (decide ((((dg BB p0.natAbs).length : Nat) : Int) > 5)))), (14, .fp 25 4 2), (15, .fp 26 4 3), (16, .slot 27 (Dz q0)), (17, .slot 28 (VP.int .i64 (((dg BB q0.natAbs).length : Nat) : Int))), (18, .slot 29 (VP.bool (decide ((((dg BB q0.natAbs).length : Nat) : Int) > 5)))), (19, .slot 30 (VP.bool (decide ((((dg BB q0.natAbs).length : Nat) : Int) > 5)))), (20, .slot 31 (VP.bool (decide ((((dg BB q0.natAbs).length : Nat) : Int) > 5)))), (21, .slot 32 (VP.agg [Bz p0, Dz p0, Bz q0, Dz q0])), (22, .slot 33 (VP.bool (rightF p0 q0))), (23, .slot 34 (VP.bool false)), (24, .slot 35 (VP.bool false))] [0, 1, 2, 3, 4, 5, 6] [] rfl rfl follow rfl ⟨
      .inl ⟨wants_plain rfl, does_field _ _ _ 0 ty_f0_api_Frac rfl rfl rfl rfl rfl rfl rfl (pt_box (av_fs 6 rfl))⟩,
      .inl ⟨wants_plain rfl, does_loadAgg _ ty_agg_api_Int rfl rfl rfl rfl rfl rfl (pt_fp (av_rs 0 rfl rfl)) (av_fs 6 rfl)⟩,
      .inl ⟨wants_plain rfl, does_field _ _ _ 2 ty_f1_api_Frac rfl rfl rfl rfl rfl rfl rfl (pt_box (av_fs 6 rfl))⟩,
      .inl ⟨wants_plain rfl, does_loadAgg _ ty_agg_api_Int rfl rfl rfl rfl rfl rfl (pt_fp (av_rs 2 rfl rfl)) (av_fs 6 rfl)⟩,
      .inl ⟨wants_plain rfl, does_buildSlice (sz := 2) [Bz 0, Dz 0, Bz 0, Dz 0] ty_zero_api_Int (by kernel_rfl) (fun w => run_sizeAgg ty_agg_api_Int w) rfl rfl rfl rfl rfl rfl (by kernel_rfl) (fun w => by exact z_int_2 w) (.cons 0 [Bz p0, Dz p0] rfl rfl (ar_cells_agg (ar_tmp (av_rs 1 rfl rfl))) (.cons 2 [Bz q0, Dz q0] rfl rfl (ar_cells_agg (ar_tmp (av_rs 3 rfl rfl))) (.nil _)))⟩,
      .inl ⟨wants_plain rfl, does_call (s_even2 p0 q0 (lle hp0 (by decide)) (lle hq0 (by decide))) rfl hb_collator_collatorlaw01_Odd rfl rfl rfl rfl ⟨(ar_arr (av_rs 4 rfl rfl)), trivial⟩⟩,
      .inl ⟨wants_plain rfl, does_move _ (.inl rfl) rfl rfl rfl rfl (ar_tmp (av_rs 5 rfl rfl))⟩,
      .inl ⟨wants_guard false rfl rfl rfl (av_rs 6 rfl rfl), does_field _ _ _ 0 ty_f0_api_Frac rfl rfl rfl rfl rfl rfl rfl (pt_box (av_fs 6 rfl))⟩,
      .inl ⟨wants_guard false rfl rfl rfl (av_rs 6 rfl rfl), does_field _ _ _ 1 ty_f1_api_Int rfl rfl rfl rfl rfl rfl rfl (pt_fp (av_rs 7 rfl rfl))⟩,
      .inl ⟨wants_guard false rfl rfl rfl (av_rs 6 rfl rfl), does_loadOne _ ty_one___uint32 rfl rfl rfl rfl rfl rfl (pt_fp (av_rs 8 rfl rfl)) (av_fs 6 rfl)⟩,
      .inl ⟨wants_guard false rfl rfl rfl (av_rs 6 rfl rfl), does_len _ _ (by kernel_rfl) rfl rfl rfl rfl rfl (ar_tmp (av_rs 9 rfl rfl))⟩,
      .inl ⟨wants_guard false rfl rfl rfl (av_rs 6 rfl rfl), does_cmp (m := (((dg BB p0.natAbs).length : Nat) : Int)) (n := 5) _ _ _ _ _ rfl rfl rfl rfl rfl rfl .i64 (ar_tmp (av_rs 10 rfl rfl)) (ar_const (fun _ => rfl))⟩,
      .inl ⟨wants_plain rfl, does_pick false _ _ _ rfl rfl rfl rfl rfl (ar_tmp (av_rs 6 rfl rfl)) (ar_tmp (av_rs 11 rfl rfl))⟩,
      .inl ⟨wants_plain rfl, does_move _ (.inl rfl) rfl rfl rfl rfl (ar_tmp (av_rs 12 rfl rfl))⟩,
      .inl ⟨wants_guard false rfl rfl rfl (av_bool (gt5_no hp0) (av_rs 13 rfl rfl)), does_field _ _ _ 2 ty_f1_api_Frac rfl rfl rfl rfl rfl rfl rfl (pt_box (av_fs 6 rfl))⟩,
      .inl ⟨wants_guard false rfl rfl rfl (av_bool (gt5_no hp0) (av_rs 13 rfl rfl)), does_field _ _ _ 1 ty_f1_api_Int rfl rfl rfl rfl rfl rfl rfl (pt_fp (av_rs 14 rfl rfl))⟩,
      .inl ⟨wants_guard false rfl rfl rfl (av_bool (gt5_no hp0) (av_rs 13 rfl rfl)), does_loadOne _ ty_one___uint32 rfl rfl rfl rfl rfl rfl (pt_fp (av_rs 15 rfl rfl)) (av_fs 6 rfl)⟩,
      .inl ⟨wants_guard false rfl rfl rfl (av_bool (gt5_no hp0) (av_rs 13 rfl rfl)), does_len _ _ (by kernel_rfl) rfl rfl rfl rfl rfl (ar_tmp (av_rs 16 rfl rfl))⟩,
      .inl ⟨wants_guard false rfl rfl rfl (av_bool (gt5_no hp0) (av_rs 13 rfl rfl)), does_cmp (m := (((dg BB q0.natAbs).length : Nat) : Int)) (n := 5) _ _ _ _ _ rfl rfl rfl rfl rfl rfl .i64 (ar_tmp (av_rs 17 rfl rfl)) (ar_const (fun _ => rfl))⟩,
      .inl ⟨wants_plain rfl, does_pick false _ _ _ rfl rfl rfl rfl rfl (ar_tmp (av_bool (gt5_no hp0) (av_rs 13 rfl rfl))) (ar_tmp (av_rs 18 rfl rfl))⟩,
      .inl ⟨wants_plain rfl, does_move _ (.inl rfl) rfl rfl rfl rfl (ar_tmp (av_rs 19 rfl rfl))⟩,
      .inl ⟨wants_guard false rfl rfl rfl (av_bool (gt5_no hq0) (av_rs 20 rfl rfl)), does_loadAgg _ ty_agg_api_Frac rfl rfl rfl rfl rfl rfl (pt_box (av_fs 6 rfl)) (av_fs 6 rfl)⟩,
      .inl ⟨wants_guard false rfl rfl rfl (av_bool (gt5_no hq0) (av_rs 20 rfl rfl)), does_call (g_right p0 q0 (lle hp0 (by decide)) (lle hq0 (by decide))) rfl hb_collator_collatorref02_Right rfl rfl rfl rfl ⟨(ar_tmp (av_rs 21 rfl rfl)), trivial⟩⟩,
      .inl ⟨wants_guard false rfl rfl rfl (av_bool (gt5_no hq0) (av_rs 20 rfl rfl)), does_not true _ _ rfl rfl rfl rfl rfl (ar_tmp (av_bool hb0 (av_rs 22 rfl rfl)))⟩,
      .inl ⟨wants_plain rfl, does_pick false _ _ _ rfl rfl rfl rfl rfl (ar_tmp (av_bool (gt5_no hq0) (av_rs 20 rfl rfl))) (ar_tmp (av_rs 23 rfl rfl))⟩,
      trivial⟩ ?_
    refine nx_sub (fs' := [.rows 5 2 (fodd2_EE_c p0 q0 p1 q1), .slot 6 (VP.int .i64 ((2 : Nat) : Int)), .slot 7 (VP.int .i64 ((0 : Nat) : Int)), .slot 8 (VP.bool (decide (((0 : Nat) : Int) < ((2 : Nat) : Int)))), .rp 9 5 0, .slot 10 (VP.agg [Bz p0, Dz p0, Bz q0, Dz q0]), .box 4 100 [Bz p0, Dz p0, Bz q0, Dz q0], .fp 11 4 0, .slot 12 (INT p0), .fp 13 4 2, .slot 14 (INT q0), .arr 15 69 2 [Bz p0, Dz p0, Bz q0, Dz q0], .slot 16 (VP.bool false), .slot 17 (VP.bool false), .fp 18 4 0, .fp 19 4 1, .slot 20 (Dz p0), .slot 21 (VP.int .i64 (((dg BB p0.natAbs).length : Nat) : Int)), .slot 22 (VP.bool (decide ((((dg BB p0.natAbs).length : Nat) : Int) > 5))), .slot 23 (VP.bool (decide ((((dg BB p0.natAbs).length : Nat) : Int) > 5))), .slot 24 (VP.bool (decide ((((dg BB p0.natAbs).length : Nat) : Int) > 5))), .fp 25 4 2, .fp 26 4 3, .slot 27 (Dz q0), .slot 28 (VP.int .i64 (((dg BB q0.natAbs).length : Nat) : Int)), .slot 29 (VP.bool (decide ((((dg BB q0.natAbs).length : Nat) : Int) > 5))), .slot 30 (VP.bool (decide ((((dg BB q0.natAbs).length : Nat) : Int) > 5))), .slot 31 (VP.bool (decide ((((dg BB q0.natAbs).length : Nat) : Int) > 5))), .slot 32 (VP.agg [Bz p0, Dz p0, Bz q0, Dz q0]), .slot 33 (VP.bool (rightF p0 q0)), .slot 34 (VP.bool false), .slot 35 (VP.bool false)]) [0, 1, 2, 3, 4, 5, 6, 7, 8, 9, 10, 11, 12, 13, 14, 15, 16, 17, 18, 19, 20, 21, 22, 23, 24, 25, 26, 27, 28, 29, 30, 31] rfl ?_
    refine nx_then ?_
    refine t_cond_f 31 rfl ?_
    refine t_skip ?_
    refine nx_block ?_
    refine nx_then ?_
    refine t_region (F := ⟨_, _, _, _⟩) [.rows 5 2 (fodd2_EE_c p0 q0 p1 q1), .slot 6 (VP.int .i64 ((2 : Nat) : Int)), .slot 8 (VP.bool (decide (((0 : Nat) : Int) < ((2 : Nat) : Int)))), .rp 9 5 0, .slot 10 (VP.agg [Bz p0, Dz p0, Bz q0, Dz q0]), .box 4 100 [Bz p0, Dz p0, Bz q0, Dz q0], .fp 11 4 0, .slot 12 (INT p0), .fp 13 4 2, .slot 14 (INT q0), .arr 15 69 2 [Bz p0, Dz p0, Bz q0, Dz q0], .slot 16 (VP.bool false), .slot 17 (VP.bool false), .fp 18 4 0, .fp 19 4 1, .slot 20 (Dz p0), .slot 21 (VP.int .i64 (((dg BB p0.natAbs).length : Nat) : Int)), .slot 22 (VP.bool (decide ((((dg BB p0.natAbs).length : Nat) : Int) > 5))), .slot 23 (VP.bool (decide ((((dg BB p0.natAbs).length : Nat) : Int) > 5))), .slot 24 (VP.bool (decide ((((dg BB p0.natAbs).length : Nat) : Int) > 5))), .fp 25 4 2, .fp 26 4 3, .slot 27 (Dz q0), .slot 28 (VP.int .i64 (((dg BB q0.natAbs).length : Nat) : Int)), .slot 29 (VP.bool (decide ((((dg BB q0.natAbs).length : Nat) : Int) > 5))), .slot 30 (VP.bool (decide ((((dg BB q0.natAbs).length : Nat) : Int) > 5))), .slot 31 (VP.bool (decide ((((dg BB q0.natAbs).length : Nat) : Int) > 5))), .slot 32 (VP.agg [Bz p0, Dz p0, Bz q0, Dz q0]), .slot 33 (VP.bool (rightF p0 q0)), .slot 34 (VP.bool false), .slot 35 (VP.bool false)] [(1, .slot 7 (VP.int .i64 ((0 : Nat) : Int)))] [(0, .slot 36 (VP.int .i64 ((1 : Nat) : Int))), (1, .slot 7 (VP.int .i64 ((1 : Nat) : Int)))] [0, 1, 3, 4, 5, 6, 7, 8, 9, 10, 11, 12, 13, 14, 15, 16, 17, 18, 19, 20, 21, 22, 23, 24, 25, 26, 27, 28, 29, 30, 31] [2] rfl rfl follow rfl ⟨
      .inl ⟨wants_plain rfl, does_addInt (m := ((0 : Nat) : Int)) (n := 1) _ _ _ _ rfl rfl rfl rfl rfl (by omega) (ar_tmp (av_os 0 rfl rfl)) (ar_const (fun _ => rfl))⟩,
      .inl ⟨wants_plain rfl, does_move _ (.inl rfl) rfl rfl rfl rfl (ar_tmp (av_rs 0 rfl rfl))⟩,
      trivial⟩ ?_
    refine nx_sub (fs' := [.rows 5 2 (fodd2_EE_c p0 q0 p1 q1), .slot 6 (VP.int .i64 ((2 : Nat) : Int)), .slot 8 (VP.bool (decide (((0 : Nat) : Int) < ((2 : Nat) : Int)))), .rp 9 5 0, .slot 10 (VP.agg [Bz p0, Dz p0, Bz q0, Dz q0]), .box 4 100 [Bz p0, Dz p0, Bz q0, Dz q0], .fp 11 4 0, .slot 12 (INT p0), .fp 13 4 2, .slot 14 (INT q0), .arr 15 69 2 [Bz p0, Dz p0, Bz q0, Dz q0], .slot 16 (VP.bool false), .slot 17 (VP.bool false), .fp 18 4 0, .fp 19 4 1, .slot 20 (Dz p0), .slot 21 (VP.int .i64 (((dg BB p0.natAbs).length : Nat) : Int)), .slot 22 (VP.bool (decide ((((dg BB p0.natAbs).length : Nat) : Int) > 5))), .slot 23 (VP.bool (decide ((((dg BB p0.natAbs).length : Nat) : Int) > 5))), .slot 24 (VP.bool (decide ((((dg BB p0.natAbs).length : Nat) : Int) > 5))), .fp 25 4 2, .fp 26 4 3, .slot 27 (Dz q0), .slot 28 (VP.int .i64 (((dg BB q0.natAbs).length : Nat) : Int)), .slot 29 (VP.bool (decide ((((dg BB q0.natAbs).length : Nat) : Int) > 5))), .slot 30 (VP.bool (decide ((((dg BB q0.natAbs).length : Nat) : Int) > 5))), .slot 31 (VP.bool (decide ((((dg BB q0.natAbs).length : Nat) : Int) > 5))), .slot 32 (VP.agg [Bz p0, Dz p0, Bz q0, Dz q0]), .slot 33 (VP.bool (rightF p0 q0)), .slot 34 (VP.bool false), .slot 35 (VP.bool false), .slot 36 (VP.int .i64 ((1 : Nat) : Int)), .slot 7 (VP.int .i64 ((1 : Nat) : Int))]) [0, 1, 2, 3, 4, 5, 6, 7, 8, 9, 10, 11, 12, 13, 14, 15, 16, 17, 18, 19, 20, 21, 22, 23, 24, 25, 26, 27, 28, 29, 30, 31, 32] rfl ?_
    exact nx_round ⟨1, by decide⟩ (by show 2 - 1 < 2 - 0; decide) [0, 1, 32] rfl
  case inr.inl =>
    refine t_seq ?_
    refine t_region (F := ⟨_, _, _, _⟩) [.rows 5 2 (fodd2_EE_c p0 q0 p1 q1), .slot 6 (VP.int .i64 ((2 : Nat) : Int)), .slot 7 (VP.int .i64 ((1 : Nat) : Int))] [] [(0, .slot 8 (VP.bool (decide (((1 : Nat) : Int) < ((2 : Nat) : Int)))))] [0, 1, 2] [] rfl rfl follow rfl ⟨
      .inl ⟨wants_plain rfl, does_cmp (m := ((1 : Nat) : Int)) (n := ((2 : Nat) : Int)) _ _ _ _ _ rfl rfl rfl rfl rfl rfl .i64 (ar_tmp (av_fs 2 rfl)) (ar_tmp (av_fs 1 rfl))⟩,
      trivial⟩ ?_
    refine nx_sub (fs' := [.rows 5 2 (fodd2_EE_c p0 q0 p1 q1), .slot 6 (VP.int .i64 ((2 : Nat) : Int)), .slot 7 (VP.int .i64 ((1 : Nat) : Int)), .slot 8 (VP.bool (decide (((1 : Nat) : Int) < ((2 : Nat) : Int))))]) [0, 1, 2, 3] rfl ?_
    refine nx_then ?_
    refine t_seq ?_
    refine t_cond_te 3 rfl rfl ?_
    refine t_skip ?_
    refine nx_then ?_
    refine t_seq ?_
    refine t_block ?_
    refine t_seq ?_
    refine t_region (F := ⟨_, _, _, _⟩) [.rows 5 2 (fodd2_EE_c p0 q0 p1 q1), .slot 6 (VP.int .i64 ((2 : Nat) : Int)), .slot 7 (VP.int .i64 ((1 : Nat) : Int)), .slot 8 (VP.bool (decide (((1 : Nat) : Int) < ((2 : Nat) : Int))))] [] [(0, .rp 9 5 4), (1, .slot 10 (VP.agg [Bz p1, Dz p1, Bz q1, Dz q1])), (2, .own 4 100 4), (3, .box 4 100 [Bz p1, Dz p1, Bz q1, Dz q1])] [0, 1, 2, 3] [] rfl rfl follow rfl ⟨
      .inl ⟨wants_plain rfl, does_indexRows (m := 1) (sz := 4) _ _ rfl Try.underlying178 (fun w => run_sizeAgg ty_agg_api_Frac w) rfl rfl rfl rfl rfl rfl (by decide) rfl (av_fs 0 rfl) (ar_tmp (av_fs 2 rfl))⟩,
      .inl ⟨wants_plain rfl, does_loadRows _ rfl ty_agg_api_Frac rfl rfl rfl rfl rfl rfl rfl (av_rs 0 rfl rfl) (av_fs 0 rfl)⟩,
      .inl ⟨wants_plain rfl, does_allocOwn [Bz 0, Dz 0, Bz 0, Dz 0] ty_zero_api_Frac rfl rfl rfl rfl rfl z_frac rfl⟩,
      .inl ⟨wants_plain rfl, does_storeNew 4 _ _ ty_agg_api_Frac rfl rfl rfl rfl rfl (pt_own (av_rs 2 rfl rfl)) (av_rs 2 rfl rfl) (ar_tmp (av_rs 1 rfl rfl))⟩,
      trivial⟩ ?_
    refine nx_sub (fs' := [.rows 5 2 (fodd2_EE_c p0 q0 p1 q1), .slot 6 (VP.int .i64 ((2 : Nat) : Int)), .slot 7 (VP.int .i64 ((1 : Nat) : Int)), .slot 8 (VP.bool (decide (((1 : Nat) : Int) < ((2 : Nat) : Int)))), .rp 9 5 4, .slot 10 (VP.agg [Bz p1, Dz p1, Bz q1, Dz q1]), .box 4 100 [Bz p1, Dz p1, Bz q1, Dz q1]]) [0, 1, 2, 3, 4, 5, 7] rfl ?_
    refine nx_then ?_
    refine t_seq ?_
    refine t_region (F := ⟨_, _, _, _⟩) [.rows 5 2 (fodd2_EE_c p0 q0 p1 q1), .slot 6 (VP.int .i64 ((2 : Nat) : Int)), .slot 7 (VP.int .i64 ((1 : Nat) : Int)), .slot 8 (VP.bool (decide (((1 : Nat) : Int) < ((2 : Nat) : Int)))), .rp 9 5 4, .slot 10 (VP.agg [Bz p1, Dz p1, Bz q1, Dz q1]), .box 4 100 [Bz p1, Dz p1, Bz q1, Dz q1]] [] [(0, .fp 11 4 0), (1, .slot 12 (INT p1)), (2, .fp 13 4 2), (3, .slot 14 (INT q1)), (4, .arr 15 69 2 [Bz p1, Dz p1, Bz q1, Dz q1]), (5, .slot 16 (VP.bool false)), (6, .slot 17 (VP.bool false)), (7, .fp 18 4 0), (8, .fp 19 4 1), (9, .slot 20 (Dz p1)), (10, .slot 21 (VP.int .i64 (((dg BB p1.natAbs).length : Nat) : Int))), (11, .slot 22 (VP.bool (decide ((((dg BB p1.natAbs).length : Nat) : Int) > 5)))), (12, .slot 23 (VP.bool (decide ((((dg BB p1.natAbs).length : Nat) : Int) > 5)))), (13, .slot 24 (VP.bool (decide ((((dg BB p1.natAbs).length : Nat) : Int) > 5)))), (14, .fp 25 4 2), (15, .fp 26 4 3), (16, .slot 27 (Dz q1)), (17, .slot 28 (VP.int .i64 (((dg BB q1.natAbs).length : Nat) : Int))), (18, .slot 29 (VP.bool (decide ((((dg BB q1.natAbs).length : Nat) : Int) > 5)))), (19, .slot 30 (VP.bool (decide ((((dg BB q1.natAbs).length : Nat) : Int) > 5)))), (20, .slot 31 (VP.bool (decide ((((dg BB q1.natAbs).length : Nat) : Int) > 5)))), (21, .slot 32 (VP.agg [Bz p1, Dz p1, Bz q1, Dz q1])), (22, .slot 33 (VP.bool (rightF p1 q1))), (23, .slot 34 (VP.bool false)), (24, .slot 35 (VP.bool false))] [0, 1, 2, 3, 4, 5, 6] [] rfl rfl follow rfl ⟨
      .inl ⟨wants_plain rfl, does_field _ _ _ 0 ty_f0_api_Frac rfl rfl rfl rfl rfl rfl rfl (pt_box (av_fs 6 rfl))⟩,
      .inl ⟨wants_plain rfl, does_loadAgg _ ty_agg_api_Int rfl rfl rfl rfl rfl rfl (pt_fp (av_rs 0 rfl rfl)) (av_fs 6 rfl)⟩,
      .inl ⟨wants_plain rfl, does_field _ _ _ 2 ty_f1_api_Frac rfl rfl rfl rfl rfl rfl rfl (pt_box (av_fs 6 rfl))⟩,
      .inl ⟨wants_plain rfl, does_loadAgg _ ty_agg_api_Int rfl rfl rfl rfl rfl rfl (pt_fp (av_rs 2 rfl rfl)) (av_fs 6 rfl)⟩,
      .inl ⟨wants_plain rfl, does_buildSlice (sz := 2) [Bz 0, Dz 0, Bz 0, Dz 0] ty_zero_api_Int (by kernel_rfl) (fun w => run_sizeAgg ty_agg_api_Int w) rfl rfl rfl rfl rfl rfl (by kernel_rfl) (fun w => by exact z_int_2 w) (.cons 0 [Bz p1, Dz p1] rfl rfl (ar_cells_agg (ar_tmp (av_rs 1 rfl rfl))) (.cons 2 [Bz q1, Dz q1] rfl rfl (ar_cells_agg (ar_tmp (av_rs 3 rfl rfl))) (.nil _)))⟩,
      .inl ⟨wants_plain rfl, does_call (s_even2 p1 q1 (lle hp1 (by decide)) (lle hq1 (by decide))) rfl hb_collator_collatorlaw01_Odd rfl rfl rfl rfl ⟨(ar_arr (av_rs 4 rfl rfl)), trivial⟩⟩,
      .inl ⟨wants_plain rfl, does_move _ (.inl rfl) rfl rfl rfl rfl (ar_tmp (av_rs 5 rfl rfl))⟩,
      .inl ⟨wants_guard false rfl rfl rfl (av_rs 6 rfl rfl), does_field _ _ _ 0 ty_f0_api_Frac rfl rfl rfl rfl rfl rfl rfl (pt_box (av_fs 6 rfl))⟩,
      .inl ⟨wants_guard false rfl rfl rfl (av_rs 6 rfl rfl), does_field _ _ _ 1 ty_f1_api_Int rfl rfl rfl rfl rfl rfl rfl (pt_fp (av_rs 7 rfl rfl))⟩,
      .inl ⟨wants_guard false rfl rfl rfl (av_rs 6 rfl rfl), does_loadOne _ ty_one___uint32 rfl rfl rfl rfl rfl rfl (pt_fp (av_rs 8 rfl rfl)) (av_fs 6 rfl)⟩,
      .inl ⟨wants_guard false rfl rfl rfl (av_rs 6 rfl rfl), does_len _ _ (by kernel_rfl) rfl rfl rfl rfl rfl (ar_tmp (av_rs 9 rfl rfl))⟩,
      .inl ⟨wants_guard false rfl rfl rfl (av_rs 6 rfl rfl), does_cmp (m := (((dg BB p1.natAbs).length : Nat) : Int)) (n := 5) _ _ _ _ _ rfl rfl rfl rfl rfl rfl .i64 (ar_tmp (av_rs 10 rfl rfl)) (ar_const (fun _ => rfl))⟩,
      .inl ⟨wants_plain rfl, does_pick false _ _ _ rfl rfl rfl rfl rfl (ar_tmp (av_rs 6 rfl rfl)) (ar_tmp (av_rs 11 rfl rfl))⟩,
      .inl ⟨wants_plain rfl, does_move _ (.inl rfl) rfl rfl rfl rfl (ar_tmp (av_rs 12 rfl rfl))⟩,
      .inl ⟨wants_guard false rfl rfl rfl (av_bool (gt5_no hp1) (av_rs 13 rfl rfl)), does_field _ _ _ 2 ty_f1_api_Frac rfl rfl rfl rfl rfl rfl rfl (pt_box (av_fs 6 rfl))⟩,
      .inl ⟨wants_guard false rfl rfl rfl (av_bool (gt5_no hp1) (av_rs 13 rfl rfl)), does_field _ _ _ 1 ty_f1_api_Int rfl rfl rfl rfl rfl rfl rfl (pt_fp (av_rs 14 rfl rfl))⟩,
      .inl ⟨wants_guard false rfl rfl rfl (av_bool (gt5_no hp1) (av_rs 13 rfl rfl)), does_loadOne _ ty_one___uint32 rfl rfl rfl rfl rfl rfl (pt_fp (av_rs 15 rfl rfl)) (av_fs 6 rfl)⟩,
      .inl ⟨wants_guard false rfl rfl rfl (av_bool (gt5_no hp1) (av_rs 13 rfl rfl)), does_len _ _ (by kernel_rfl) rfl rfl rfl rfl rfl (ar_tmp (av_rs 16 rfl rfl))⟩,
      .inl ⟨wants_guard false rfl rfl rfl (av_bool (gt5_no hp1) (av_rs 13 rfl rfl)), does_cmp (m := (((dg BB q1.natAbs).length : Nat) : Int)) (n := 5) _ _ _ _ _ rfl rfl rfl rfl rfl rfl .i64 (ar_tmp (av_rs 17 rfl rfl)) (ar_const (fun _ => rfl))⟩,
      .inl ⟨wants_plain rfl, does_pick false _ _ _ rfl rfl rfl rfl rfl (ar_tmp (av_bool (gt5_no hp1) (av_rs 13 rfl rfl))) (ar_tmp (av_rs 18 rfl rfl))⟩,
      .inl ⟨wants_plain rfl, does_move _ (.inl rfl) rfl rfl rfl rfl (ar_tmp (av_rs 19 rfl rfl))⟩,
      .inl ⟨wants_guard false rfl rfl rfl (av_bool (gt5_no hq1) (av_rs 20 rfl rfl)), does_loadAgg _ ty_agg_api_Frac rfl rfl rfl rfl rfl rfl (pt_box (av_fs 6 rfl)) (av_fs 6 rfl)⟩,
      .inl ⟨wants_guard false rfl rfl rfl (av_bool (gt5_no hq1) (av_rs 20 rfl rfl)), does_call (g_right p1 q1 (lle hp1 (by decide)) (lle hq1 (by decide))) rfl hb_collator_collatorref02_Right rfl rfl rfl rfl ⟨(ar_tmp (av_rs 21 rfl rfl)), trivial⟩⟩,
      .inl ⟨wants_guard false rfl rfl rfl (av_bool (gt5_no hq1) (av_rs 20 rfl rfl)), does_not true _ _ rfl rfl rfl rfl rfl (ar_tmp (av_bool hb1 (av_rs 22 rfl rfl)))⟩,
      .inl ⟨wants_plain rfl, does_pick false _ _ _ rfl rfl rfl rfl rfl (ar_tmp (av_bool (gt5_no hq1) (av_rs 20 rfl rfl))) (ar_tmp (av_rs 23 rfl rfl))⟩,
      trivial⟩ ?_
    refine nx_sub (fs' := [.rows 5 2 (fodd2_EE_c p0 q0 p1 q1), .slot 6 (VP.int .i64 ((2 : Nat) : Int)), .slot 7 (VP.int .i64 ((1 : Nat) : Int)), .slot 8 (VP.bool (decide (((1 : Nat) : Int) < ((2 : Nat) : Int)))), .rp 9 5 4, .slot 10 (VP.agg [Bz p1, Dz p1, Bz q1, Dz q1]), .box 4 100 [Bz p1, Dz p1, Bz q1, Dz q1], .fp 11 4 0, .slot 12 (INT p1), .fp 13 4 2, .slot 14 (INT q1), .arr 15 69 2 [Bz p1, Dz p1, Bz q1, Dz q1], .slot 16 (VP.bool false), .slot 17 (VP.bool false), .fp 18 4 0, .fp 19 4 1, .slot 20 (Dz p1), .slot 21 (VP.int .i64 (((dg BB p1.natAbs).length : Nat) : Int)), .slot 22 (VP.bool (decide ((((dg BB p1.natAbs).length : Nat) : Int) > 5))), .slot 23 (VP.bool (decide ((((dg BB p1.natAbs).length : Nat) : Int) > 5))), .slot 24 (VP.bool (decide ((((dg BB p1.natAbs).length : Nat) : Int) > 5))), .fp 25 4 2, .fp 26 4 3, .slot 27 (Dz q1), .slot 28 (VP.int .i64 (((dg BB q1.natAbs).length : Nat) : Int)), .slot 29 (VP.bool (decide ((((dg BB q1.natAbs).length : Nat) : Int) > 5))), .slot 30 (VP.bool (decide ((((dg BB q1.natAbs).length : Nat) : Int) > 5))), .slot 31 (VP.bool (decide ((((dg BB q1.natAbs).length : Nat) : Int) > 5))), .slot 32 (VP.agg [Bz p1, Dz p1, Bz q1, Dz q1]), .slot 33 (VP.bool (rightF p1 q1)), .slot 34 (VP.bool false), .slot 35 (VP.bool false)]) [0, 1, 2, 3, 4, 5, 6, 7, 8, 9, 10, 11, 12, 13, 14, 15, 16, 17, 18, 19, 20, 21, 22, 23, 24, 25, 26, 27, 28, 29, 30, 31] rfl ?_
    refine nx_then ?_
    refine t_cond_f 31 rfl ?_
    refine t_skip ?_
    refine nx_block ?_
    refine nx_then ?_
    refine t_region (F := ⟨_, _, _, _⟩) [.rows 5 2 (fodd2_EE_c p0 q0 p1 q1), .slot 6 (VP.int .i64 ((2 : Nat) : Int)), .slot 8 (VP.bool (decide (((1 : Nat) : Int) < ((2 : Nat) : Int)))), .rp 9 5 4, .slot 10 (VP.agg [Bz p1, Dz p1, Bz q1, Dz q1]), .box 4 100 [Bz p1, Dz p1, Bz q1, Dz q1], .fp 11 4 0, .slot 12 (INT p1), .fp 13 4 2, .slot 14 (INT q1), .arr 15 69 2 [Bz p1, Dz p1, Bz q1, Dz q1], .slot 16 (VP.bool false), .slot 17 (VP.bool false), .fp 18 4 0, .fp 19 4 1, .slot 20 (Dz p1), .slot 21 (VP.int .i64 (((dg BB p1.natAbs).length : Nat) : Int)), .slot 22 (VP.bool (decide ((((dg BB p1.natAbs).length : Nat) : Int) > 5))), .slot 23 (VP.bool (decide ((((dg BB p1.natAbs).length : Nat) : Int) > 5))), .slot 24 (VP.bool (decide ((((dg BB p1.natAbs).length : Nat) : Int) > 5))), .fp 25 4 2, .fp 26 4 3, .slot 27 (Dz q1), .slot 28 (VP.int .i64 (((dg BB q1.natAbs).length : Nat) : Int)), .slot 29 (VP.bool (decide ((((dg BB q1.natAbs).length : Nat) : Int) > 5))), .slot 30 (VP.bool (decide ((((dg BB q1.natAbs).length : Nat) : Int) > 5))), .slot 31 (VP.bool (decide ((((dg BB q1.natAbs).length : Nat) : Int) > 5))), .slot 32 (VP.agg [Bz p1, Dz p1, Bz q1, Dz q1]), .slot 33 (VP.bool (rightF p1 q1)), .slot 34 (VP.bool false), .slot 35 (VP.bool false)] [(1, .slot 7 (VP.int .i64 ((1 : Nat) : Int)))] [(0, .slot 36 (VP.int .i64 ((2 : Nat) : Int))), (1, .slot 7 (VP.int .i64 ((2 : Nat) : Int)))] [0, 1, 3, 4, 5, 6, 7, 8, 9, 10, 11, 12, 13, 14, 15, 16, 17, 18, 19, 20, 21, 22, 23, 24, 25, 26, 27, 28, 29, 30, 31] [2] rfl rfl follow rfl ⟨
      .inl ⟨wants_plain rfl, does_addInt (m := ((1 : Nat) : Int)) (n := 1) _ _ _ _ rfl rfl rfl rfl rfl (by omega) (ar_tmp (av_os 0 rfl rfl)) (ar_const (fun _ => rfl))⟩,
      .inl ⟨wants_plain rfl, does_move _ (.inl rfl) rfl rfl rfl rfl (ar_tmp (av_rs 0 rfl rfl))⟩,
      trivial⟩ ?_
    refine nx_sub (fs' := [.rows 5 2 (fodd2_EE_c p0 q0 p1 q1), .slot 6 (VP.int .i64 ((2 : Nat) : Int)), .slot 8 (VP.bool (decide (((1 : Nat) : Int) < ((2 : Nat) : Int)))), .rp 9 5 4, .slot 10 (VP.agg [Bz p1, Dz p1, Bz q1, Dz q1]), .box 4 100 [Bz p1, Dz p1, Bz q1, Dz q1], .fp 11 4 0, .slot 12 (INT p1), .fp 13 4 2, .slot 14 (INT q1), .arr 15 69 2 [Bz p1, Dz p1, Bz q1, Dz q1], .slot 16 (VP.bool false), .slot 17 (VP.bool false), .fp 18 4 0, .fp 19 4 1, .slot 20 (Dz p1), .slot 21 (VP.int .i64 (((dg BB p1.natAbs).length : Nat) : Int)), .slot 22 (VP.bool (decide ((((dg BB p1.natAbs).length : Nat) : Int) > 5))), .slot 23 (VP.bool (decide ((((dg BB p1.natAbs).length : Nat) : Int) > 5))), .slot 24 (VP.bool (decide ((((dg BB p1.natAbs).length : Nat) : Int) > 5))), .fp 25 4 2, .fp 26 4 3, .slot 27 (Dz q1), .slot 28 (VP.int .i64 (((dg BB q1.natAbs).length : Nat) : Int)), .slot 29 (VP.bool (decide ((((dg BB q1.natAbs).length : Nat) : Int) > 5))), .slot 30 (VP.bool (decide ((((dg BB q1.natAbs).length : Nat) : Int) > 5))), .slot 31 (VP.bool (decide ((((dg BB q1.natAbs).length : Nat) : Int) > 5))), .slot 32 (VP.agg [Bz p1, Dz p1, Bz q1, Dz q1]), .slot 33 (VP.bool (rightF p1 q1)), .slot 34 (VP.bool false), .slot 35 (VP.bool false), .slot 36 (VP.int .i64 ((2 : Nat) : Int)), .slot 7 (VP.int .i64 ((2 : Nat) : Int))]) [0, 1, 2, 3, 4, 5, 6, 7, 8, 9, 10, 11, 12, 13, 14, 15, 16, 17, 18, 19, 20, 21, 22, 23, 24, 25, 26, 27, 28, 29, 30, 31, 32] rfl ?_
    exact nx_round ⟨2, by decide⟩ (by show 2 - 2 < 2 - 1; decide) [0, 1, 32] rfl
  case inr.inr =>
    refine t_seq ?_
    refine t_region (F := ⟨_, _, _, _⟩) [.rows 5 2 (fodd2_EE_c p0 q0 p1 q1), .slot 6 (VP.int .i64 ((2 : Nat) : Int)), .slot 7 (VP.int .i64 ((2 : Nat) : Int))] [] [(0, .slot 8 (VP.bool (decide (((2 : Nat) : Int) < ((2 : Nat) : Int)))))] [0, 1, 2] [] rfl rfl follow rfl ⟨
      .inl ⟨wants_plain rfl, does_cmp (m := ((2 : Nat) : Int)) (n := ((2 : Nat) : Int)) _ _ _ _ _ rfl rfl rfl rfl rfl rfl .i64 (ar_tmp (av_fs 2 rfl)) (ar_tmp (av_fs 1 rfl))⟩,
      trivial⟩ ?_
    refine nx_sub (fs' := [.rows 5 2 (fodd2_EE_c p0 q0 p1 q1), .slot 6 (VP.int .i64 ((2 : Nat) : Int)), .slot 7 (VP.int .i64 ((2 : Nat) : Int)), .slot 8 (VP.bool (decide (((2 : Nat) : Int) < ((2 : Nat) : Int))))]) [0, 1, 2, 3] rfl ?_
    refine nx_then ?_
    refine t_seq ?_
    refine t_cond_fe 3 rfl rfl ?_
    refine t_exit ?_
    refine ex_then ?_
    refine ex_then ?_
    refine ex_block ?_
    refine nx_then ?_
    refine t_seq ?_
    refine t_region (F := ⟨_, _, _, _⟩) [.rows 5 2 (fodd2_EE_c p0 q0 p1 q1), .slot 6 (VP.int .i64 ((2 : Nat) : Int)), .slot 7 (VP.int .i64 ((2 : Nat) : Int)), .slot 8 (VP.bool (decide (((2 : Nat) : Int) < ((2 : Nat) : Int))))] [] [(0, .slot 2 (VP.bool false))] [0, 1, 2, 3] [] rfl rfl follow rfl ⟨
      .inl ⟨wants_plain rfl, does_move _ (.inr rfl) rfl rfl rfl rfl (ar_const (fun _ => rfl))⟩,
      trivial⟩ ?_
    refine nx_sub (fs' := [.slot 2 (VP.bool false)]) [4] rfl ?_
    refine nx_then ?_
    refine t_ret ?_
    exact rt_one rfl (res_tmp 0 rfl)
end Go.Proofs.Ytogodjiemgilaaa

/- Two fractions that came in. -/
namespace Go.Proofs.Ytogodjiemgilaaa
open Go.RowKit
/-- two fractions: odd, or two rational numbers -/
theorem odd2_of (x y : FRaw) (hx : x.ok) (hy : y.ok) : Odd2 x y true ∨ ∃ a b : Rat, x = (raw a.num, raw (fD a.den)) ∧ y = (raw b.num, raw (fD b.den)) ∧ LR a 5 ∧ LR b 5 ∧ Odd2 x y false := by
  obtain ⟨y1, y2⟩ := y
  rcases fst x with h | ⟨p, q, rfl, hp, hq, hb⟩ | ⟨p, q, rfl, hp, hq, hb⟩ | ⟨p, q, rfl, hp, hq, hb⟩ | ⟨a, rfl, ha⟩
  · exact .inl (fodd2_A x.1 x.2 hx.1 hx.2 h y1 y2)
  · exact .inl (fodd2_B p q hp hq hb y1 y2)
  · exact .inl (fodd2_C p q hp hq hb y1 y2)
  · exact .inl (fodd2_D p q hp hq hb y1 y2)
  · rcases fst (y1, y2) with h | ⟨p, q, e, hp, hq, hb⟩ | ⟨p, q, e, hp, hq, hb⟩ | ⟨p, q, e, hp, hq, hb⟩ | ⟨b, e, hb⟩
    · exact .inl (fodd2_EA a.num (fD a.den) ha.1 ha.u (rat_rightF a) y1 y2 hy.1 hy.2 h)
    · cases e; exact .inl (fodd2_EB a.num (fD a.den) ha.1 ha.u (rat_rightF a) p q hp hq hb)
    · cases e; exact .inl (fodd2_EC a.num (fD a.den) ha.1 ha.u (rat_rightF a) p q hp hq hb)
    · cases e; exact .inl (fodd2_ED a.num (fD a.den) ha.1 ha.u (rat_rightF a) p q hp hq hb)
    · cases e; exact .inr ⟨a, b, rfl, rfl, ha, hb, fodd2_EE a.num (fD a.den) ha.1 ha.u (rat_rightF a) b.num (fD b.den) hb.1 hb.u (rat_rightF b)⟩
end Go.Proofs.Ytogodjiemgilaaa

/- FracTold: for all that comes in the law returns true, and what came in reads as it did. No condition. -/
namespace Go.Proofs.Ytogodjiemgilaaa
open Go.ChangeShapes Go.WideShapes Go.ChangeAt Go.RowKit

theorem fracTold_own : ownKnob Try.prog.godebug = none := by kernel_rfl
theorem fracTold_laid : laidOutB Try.prog = true := by kernel_rfl

theorem fracTold_args (W : World) (args : Array Value) (hn : args.size = 2) (h : ∀ (j : Nat) (t : TypeId) (v : Value), (#[100, 100] : Array TypeId)[j]? = some t → args[j]? = some v → Arg Try.prog W t v) :
    Calls Try.prog 14 args W fun e W' => e = .returned (.bool true) ∧ Ext W W' := by
  obtain ⟨l⟩ := args
  match l, hn with
  | [v0, v1], _ =>
    obtain ⟨x, hx, p1⟩ := arg_frac (h 0 _ v0 rfl rfl)
    obtain ⟨y, hy, p2⟩ := arg_frac (h 1 _ v1 rfl rfl)
    rcases odd2_of x y hx hy with HO | ⟨a, b, rfl, rfl, ha, hb, HO⟩
    · exact ((ftold_odd x y HO).call2 p1 p2).mono fun e w' h => true_of h
    · exact ((ftold_even a b ha hb HO).call2 p1 p2).mono fun e w' h => true_of h

set_option maxRecDepth 100000 in
theorem fracTold_lifted (os : Os) (started : os.Started) (H : Type) (enc : TypeId × Value → H) :
    ReturnsInHanded {} Try.checked os 14 .any (Rows.fracToldSpec.pre6 enc Try.prog Try.f14 Rows.fracToldRow.domain false) (Rows.fracToldSpec.post enc Try.prog Try.f14 false true false false) :=
  law_lifted (C := Try.checked) 4 fracTold_own started (by kernel_rfl) Try.func14 fracTold_laid
      (by rw [Try.params14]; exact (List.forall_mem_cons.2 ⟨⟨by kernel_rfl, of_decide_eq_true (by kernel_rfl)⟩, (List.forall_mem_cons.2 ⟨⟨by kernel_rfl, of_decide_eq_true (by kernel_rfl)⟩, (fun _ h => by cases h)⟩)⟩))
      (by rw [Try.params14]; exact (List.forall_mem_cons.2 ⟨(by show Served Try.prog _; unfold Served; rw [Try.underlying100]; trivial), (List.forall_mem_cons.2 ⟨(by show Served Try.prog _; unfold Served; rw [Try.underlying100]; trivial), (fun _ h => by cases h)⟩)⟩))
      rfl Try.underlying4 rfl
      (fun ds hd => by match ds, hd with | [_, _], _ => rfl)
      (ChangeSpec.witness6 (enc := enc) (C := Try.checked) false ⟨#[], #[.agg #[.bool false, .slice none 0 0, .bool false, .slice none 0 0], .agg #[.bool false, .slice none 0 0, .bool false, .slice none 0 0]], []⟩ 8 (by kernel_rfl) (by kernel_rfl) (by kernel_rfl) (by kernel_rfl))
      (fun W args hn h => fracTold_args W args (by rw [Try.params14] at hn; exact hn) (by rw [Try.params14] at h; exact h))

theorem fracTold_over : Rows.fracToldRow.holds Try.pinned (OpenSpec.ofChange Rows.fracToldSpec) :=
  OpenClaim.holds_of_wide 14 Try.f14 rfl rfl rfl rfl rfl rfl rfl ⟨rfl, rfl, rfl, rfl, rfl⟩ rfl rfl rfl rfl rfl (by kernel_rfl) Try.func14 (by kernel_rfl)
    (of_decide_eq_true (by kernel_rfl)) (by unfold Func.isWrapper; first | (rw [if_pos (by decide +kernel)]; kernel_rfl) | (rw [if_neg (by decide +kernel)]; exact ⟨rfl, rfl⟩))
    (fun os started H enc _ => fracTold_lifted os started H enc)

theorem fracTold_holds : Rows.FracToldSaid := fracTold_over
#print axioms fracTold_holds
end Go.Proofs.Ytogodjiemgilaaa
