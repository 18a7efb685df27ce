/- Part of the proof that a law returns true for all that comes in, and that what came in reads as it did. No condition. -/
import Derived.Test.YtmlnpagkabmmpaaMgFracRules0
/- Fractions: which are looked at. -/
namespace Go.Proofs.Ytmlnpagkabmmpaa
open Go.RowKit
abbrev fodd3_EEA_c (p0 q0 : Int) (p1 q1 : Int) (x2 y2 : Raw) : List VP := [Bz p0, Dz p0, Bz q0, Dz q0, Bz p1, Dz p1, Bz q1, Dz q1, VP.bool x2.1, VP.nums .u32 x2.2, VP.bool y2.1, VP.nums .u32 y2.2]
set_option maxRecDepth 100000 in
set_option maxHeartbeats 4000000 in
theorem fodd3_EEA (p0 q0 : Int) (hp0 : L p0 ≤ 5) (hq0 : L q0 ≤ 5) (hb0 : rightF p0 q0 = true) (p1 q1 : Int) (hp1 : L p1 ≤ 5) (hq1 : L q1 ≤ 5) (hb1 : rightF p1 q1 = true) (x2 y2 : Raw) (hx2 : x2.ok) (hy2 : y2.ok) (ho : [x2, y2].any oddP = true) : Spec Try.prog 16 [isRows 3 (fodd3_EEA_c p0 q0 p1 q1 x2 y2)] (VP.bool true) := by
  refine spec_ofP (xs := [.rows 3 (fodd3_EEA_c p0 q0 p1 q1 x2 y2)]) 37 [4] Try.func16 rfl Try.ntmps16 rfl fun w0 => ?_
  refine t_seq ?_
  refine t_region (F := ⟨_, _, _, _⟩) [.rows 0 3 (fodd3_EEA_c p0 q0 p1 q1 x2 y2)] [] [(0, .slot 2 (VP.bool false))] [] [0] [] rfl rfl follow rfl ⟨
    .inl ⟨wants_plain rfl, does_move _ (.inr rfl) rfl rfl rfl rfl (ar_const (fun _ => rfl))⟩,
    trivial⟩ ?_
  refine nx_sub (fs' := [.rows 0 3 (fodd3_EEA_c p0 q0 p1 q1 x2 y2), .slot 2 (VP.bool false)]) [0, 1] rfl ?_
  refine nx_then ?_
  refine t_seq ?_
  refine t_seq ?_
  refine t_region (F := ⟨_, _, _, _⟩) [.rows 0 3 (fodd3_EEA_c p0 q0 p1 q1 x2 y2), .slot 2 (VP.bool false)] [] [(0, .rows 5 3 (fodd3_EEA_c p0 q0 p1 q1 x2 y2)), (1, .slot 6 (VP.int .i64 ((3 : Nat) : Int))), (2, .slot 7 (VP.int .i64 0))] [] [0, 1] [] rfl rfl follow rfl ⟨
    .inl ⟨wants_plain rfl, does_moveRows _ (.inl rfl) rfl rfl rfl rfl rfl (av_fs 0 rfl)⟩,
    .inl ⟨wants_plain rfl, does_lenRows _ _ rfl (by kernel_rfl) rfl rfl rfl rfl rfl (av_rs 0 rfl rfl)⟩,
    .inl ⟨wants_plain rfl, does_move _ (.inl rfl) rfl rfl rfl rfl (ar_const (fun _ => rfl))⟩,
    trivial⟩ ?_
  refine nx_sub (fs' := [.slot 2 (VP.bool false), .rows 5 3 (fodd3_EEA_c p0 q0 p1 q1 x2 y2), .slot 6 (VP.int .i64 ((3 : Nat) : Int)), .slot 7 (VP.int .i64 0)]) [1, 2, 3, 4] rfl ?_
  refine nx_then ?_
  refine t_block ?_
  refine t_loop (σ := {k : Nat // k ≤ 2}) (fun s => [.rows 5 3 (fodd3_EEA_c p0 q0 p1 q1 x2 y2), .slot 6 (VP.int .i64 ((3 : Nat) : Int)), .slot 7 (VP.int .i64 ((s.1 : Nat) : Int))]) (fun s => 3 - s.1) (⟨0, by decide⟩) [1, 2, 3] rfl ?_
  intro s
  obtain ⟨k, hk⟩ := s
  have hc : k = 0 ∨ k = 1 ∨ k = 2 := by omega
  rcases hc with rfl | rfl | rfl
  case inl =>
    refine t_seq ?_
    refine t_region (F := ⟨_, _, _, _⟩) [.rows 5 3 (fodd3_EEA_c p0 q0 p1 q1 x2 y2), .slot 6 (VP.int .i64 ((3 : Nat) : Int)), .slot 7 (VP.int .i64 ((0 : Nat) : Int))] [] [(0, .slot 8 (VP.bool (decide (((0 : Nat) : Int) < ((3 : Nat) : Int)))))] [] [0, 1, 2] [] rfl rfl follow rfl ⟨
      .inl ⟨wants_plain rfl, does_cmp (m := ((0 : Nat) : Int)) (n := ((3 : Nat) : Int)) _ _ _ _ _ rfl rfl rfl rfl rfl rfl .i64 (ar_tmp (av_fs 2 rfl)) (ar_tmp (av_fs 1 rfl))⟩,
      trivial⟩ ?_
    refine nx_sub (fs' := [.rows 5 3 (fodd3_EEA_c p0 q0 p1 q1 x2 y2), .slot 6 (VP.int .i64 ((3 : Nat) : Int)), .slot 7 (VP.int .i64 ((0 : Nat) : Int)), .slot 8 (VP.bool (decide (((0 : Nat) : Int) < ((3 : Nat) : Int))))]) [0, 1, 2, 3] rfl ?_
    refine nx_then ?_
    refine t_seq ?_
    refine t_cond_te 3 rfl rfl ?_
    refine t_skip ?_
    refine nx_then ?_
    refine t_seq ?_
    refine t_block ?_
    refine t_seq ?_
    refine t_region (F := ⟨_, _, _, _⟩) [.rows 5 3 (fodd3_EEA_c p0 q0 p1 q1 x2 y2), .slot 6 (VP.int .i64 ((3 : Nat) : Int)), .slot 7 (VP.int .i64 ((0 : Nat) : Int)), .slot 8 (VP.bool (decide (((0 : Nat) : Int) < ((3 : Nat) : Int))))] [] [(0, .rp 9 5 0), (1, .slot 10 (VP.agg [Bz p0, Dz p0, Bz q0, Dz q0])), (2, .own 4 26 4), (3, .box 4 26 [Bz p0, Dz p0, Bz q0, Dz q0])] [] [0, 1, 2, 3] [] rfl rfl follow rfl ⟨
      .inl ⟨wants_plain rfl, does_indexRows (m := 0) (sz := 4) _ _ rfl Try.underlying122 (fun w => run_sizeAgg ty_agg_api_Frac w) rfl rfl rfl rfl rfl rfl (by decide) rfl (av_fs 0 rfl) (ar_tmp (av_fs 2 rfl))⟩,
      .inl ⟨wants_plain rfl, does_loadRows _ rfl ty_agg_api_Frac rfl rfl rfl rfl rfl rfl rfl (av_rs 0 rfl rfl) (av_fs 0 rfl)⟩,
      .inl ⟨wants_plain rfl, does_allocOwn [Bz 0, Dz 0, Bz 0, Dz 0] ty_zero_api_Frac rfl rfl rfl rfl rfl z_frac rfl⟩,
      .inl ⟨wants_plain rfl, does_storeNew 4 _ _ ty_agg_api_Frac rfl rfl rfl rfl rfl (pt_own (av_rs 2 rfl rfl)) (av_rs 2 rfl rfl) (ar_tmp (av_rs 1 rfl rfl))⟩,
      trivial⟩ ?_
    refine nx_sub (fs' := [.rows 5 3 (fodd3_EEA_c p0 q0 p1 q1 x2 y2), .slot 6 (VP.int .i64 ((3 : Nat) : Int)), .slot 7 (VP.int .i64 ((0 : Nat) : Int)), .slot 8 (VP.bool (decide (((0 : Nat) : Int) < ((3 : Nat) : Int)))), .rp 9 5 0, .slot 10 (VP.agg [Bz p0, Dz p0, Bz q0, Dz q0]), .box 4 26 [Bz p0, Dz p0, Bz q0, Dz q0]]) [0, 1, 2, 3, 4, 5, 7] rfl ?_
    refine nx_then ?_
    refine t_seq ?_
    refine t_region (F := ⟨_, _, _, _⟩) [.rows 5 3 (fodd3_EEA_c p0 q0 p1 q1 x2 y2), .slot 6 (VP.int .i64 ((3 : Nat) : Int)), .slot 7 (VP.int .i64 ((0 : Nat) : Int)), .slot 8 (VP.bool (decide (((0 : Nat) : Int) < ((3 : Nat) : Int)))), .rp 9 5 0, .slot 10 (VP.agg [Bz p0, Dz p0, Bz q0, Dz q0]), .box 4 26 [Bz p0, Dz p0, Bz q0, Dz q0]] [] [(0, .fp 11 4 0), (1, .slot 12 (INT p0)), (2, .fp 13 4 2), (3, .slot 14 (INT q0)), (4, .arr 15 24 2 [Bz p0, Dz p0, Bz q0, Dz q0]), (5, .slot 16 (VP.bool false)), (6, .slot 17 (VP.bool false)), (7, .fp 18 4 0), (8, .fp 19 4 1), (9, .slot 20 (Dz p0)), (10, .slot 21 (VP.int .i64 (((dg BB p0.natAbs).length : Nat) : Int))), (11, .slot 22 (VP.bool (decide ((((dg BB p0.natAbs).length : Nat) : Int) > 5)))), (12, .slot 23 (VP.bool (decide ((((dg BB p0.natAbs).length : Nat) : Int) > 5)))), (13, .slot 24 (VP.bool (decide ((((dg BB p0.natAbs).length : Nat) : Int) > 5)))), (14, .fp 25 4 2), (15, .fp 26 4 3), (16, .slot 27 (Dz q0)), (17, .slot 28 (VP.int .i64 (((dg BB q0.natAbs).length : Nat) : Int))), (18, .slot 29 (VP.bool (decide ((((dg BB q0.natAbs).length : Nat) : Int) > 5)))), (19, .slot 30 (VP.bool (decide ((((dg BB q0.natAbs).length : Nat) : Int) > 5)))), (20, .slot 31 (VP.bool (decide ((((dg BB q0.natAbs).length : Nat) : Int) > 5)))), (21, .slot 32 (VP.agg [Bz p0, Dz p0, Bz q0, Dz q0])), (22, .slot 33 (VP.bool (rightF p0 q0))), (23, .slot 34 (VP.bool false)), (24, .slot 35 (VP.bool false))] [] [0, 1, 2, 3, 4, 5, 6] [] rfl rfl follow rfl ⟨
      .inl ⟨wants_plain rfl, does_field _ _ _ 0 ty_f0_api_Frac rfl rfl rfl rfl rfl rfl rfl (pt_box (av_fs 6 rfl))⟩,
      .inl ⟨wants_plain rfl, does_loadAgg _ ty_agg_api_Int rfl rfl rfl rfl rfl rfl (pt_fp (av_rs 0 rfl rfl)) (av_fs 6 rfl)⟩,
      .inl ⟨wants_plain rfl, does_field _ _ _ 2 ty_f1_api_Frac rfl rfl rfl rfl rfl rfl rfl (pt_box (av_fs 6 rfl))⟩,
      .inl ⟨wants_plain rfl, does_loadAgg _ ty_agg_api_Int rfl rfl rfl rfl rfl rfl (pt_fp (av_rs 2 rfl rfl)) (av_fs 6 rfl)⟩,
      .inl ⟨wants_plain rfl, does_buildSlice (sz := 2) [Bz 0, Dz 0, Bz 0, Dz 0] ty_zero_api_Int (by kernel_rfl) (fun w => run_sizeAgg ty_agg_api_Int w) rfl rfl rfl rfl rfl rfl (by kernel_rfl) (fun w => by exact z_int_2 w) (.cons 0 [Bz p0, Dz p0] rfl rfl (ar_cells_agg (ar_tmp (av_rs 1 rfl rfl))) (.cons 2 [Bz q0, Dz q0] rfl rfl (ar_cells_agg (ar_tmp (av_rs 3 rfl rfl))) (.nil _)))⟩,
      .inl ⟨wants_plain rfl, does_call (s_even2 p0 q0 (lle hp0 (by decide)) (lle hq0 (by decide))) rfl hb_collator_collatorlaw01_Odd rfl rfl rfl rfl ⟨(ar_arr (av_rs 4 rfl rfl)), trivial⟩⟩,
      .inl ⟨wants_plain rfl, does_move _ (.inl rfl) rfl rfl rfl rfl (ar_tmp (av_rs 5 rfl rfl))⟩,
      .inl ⟨wants_guard false rfl rfl rfl (av_rs 6 rfl rfl), does_field _ _ _ 0 ty_f0_api_Frac rfl rfl rfl rfl rfl rfl rfl (pt_box (av_fs 6 rfl))⟩,
      .inl ⟨wants_guard false rfl rfl rfl (av_rs 6 rfl rfl), does_field _ _ _ 1 ty_f1_api_Int rfl rfl rfl rfl rfl rfl rfl (pt_fp (av_rs 7 rfl rfl))⟩,
      .inl ⟨wants_guard false rfl rfl rfl (av_rs 6 rfl rfl), does_loadOne _ ty_one___uint32 rfl rfl rfl rfl rfl rfl (pt_fp (av_rs 8 rfl rfl)) (av_fs 6 rfl)⟩,
      .inl ⟨wants_guard false rfl rfl rfl (av_rs 6 rfl rfl), does_len _ _ (by kernel_rfl) rfl rfl rfl rfl rfl (ar_tmp (av_rs 9 rfl rfl))⟩,
      .inl ⟨wants_guard false rfl rfl rfl (av_rs 6 rfl rfl), does_cmp (m := (((dg BB p0.natAbs).length : Nat) : Int)) (n := 5) _ _ _ _ _ rfl rfl rfl rfl rfl rfl .i64 (ar_tmp (av_rs 10 rfl rfl)) (ar_const (fun _ => rfl))⟩,
      .inl ⟨wants_plain rfl, does_pick false _ _ _ rfl rfl rfl rfl rfl (ar_tmp (av_rs 6 rfl rfl)) (ar_tmp (av_rs 11 rfl rfl))⟩,
      .inl ⟨wants_plain rfl, does_move _ (.inl rfl) rfl rfl rfl rfl (ar_tmp (av_rs 12 rfl rfl))⟩,
      .inl ⟨wants_guard false rfl rfl rfl (av_bool (gt5_no hp0) (av_rs 13 rfl rfl)), does_field _ _ _ 2 ty_f1_api_Frac rfl rfl rfl rfl rfl rfl rfl (pt_box (av_fs 6 rfl))⟩,
      .inl ⟨wants_guard false rfl rfl rfl (av_bool (gt5_no hp0) (av_rs 13 rfl rfl)), does_field _ _ _ 1 ty_f1_api_Int rfl rfl rfl rfl rfl rfl rfl (pt_fp (av_rs 14 rfl rfl))⟩,
      .inl ⟨wants_guard false rfl rfl rfl (av_bool (gt5_no hp0) (av_rs 13 rfl rfl)), does_loadOne _ ty_one___uint32 rfl rfl rfl rfl rfl rfl (pt_fp (av_rs 15 rfl rfl)) (av_fs 6 rfl)⟩,
      .inl ⟨wants_guard false rfl rfl rfl (av_bool (gt5_no hp0) (av_rs 13 rfl rfl)), does_len _ _ (by kernel_rfl) rfl rfl rfl rfl rfl (ar_tmp (av_rs 16 rfl rfl))⟩,
      .inl ⟨wants_guard false rfl rfl rfl (av_bool (gt5_no hp0) (av_rs 13 rfl rfl)), does_cmp (m := (((dg BB q0.natAbs).length : Nat) : Int)) (n := 5) _ _ _ _ _ rfl rfl rfl rfl rfl rfl .i64 (ar_tmp (av_rs 17 rfl rfl)) (ar_const (fun _ => rfl))⟩,
      .inl ⟨wants_plain rfl, does_pick false _ _ _ rfl rfl rfl rfl rfl (ar_tmp (av_bool (gt5_no hp0) (av_rs 13 rfl rfl))) (ar_tmp (av_rs 18 rfl rfl))⟩,
      .inl ⟨wants_plain rfl, does_move _ (.inl rfl) rfl rfl rfl rfl (ar_tmp (av_rs 19 rfl rfl))⟩,
      .inl ⟨wants_guard false rfl rfl rfl (av_bool (gt5_no hq0) (av_rs 20 rfl rfl)), does_loadAgg _ ty_agg_api_Frac rfl rfl rfl rfl rfl rfl (pt_box (av_fs 6 rfl)) (av_fs 6 rfl)⟩,
      .inl ⟨wants_guard false rfl rfl rfl (av_bool (gt5_no hq0) (av_rs 20 rfl rfl)), does_call (g_right p0 q0 (lle hp0 (by decide)) (lle hq0 (by decide))) rfl hb_collator_collatorref02_Right rfl rfl rfl rfl ⟨(ar_tmp (av_rs 21 rfl rfl)), trivial⟩⟩,
      .inl ⟨wants_guard false rfl rfl rfl (av_bool (gt5_no hq0) (av_rs 20 rfl rfl)), does_not true _ _ rfl rfl rfl rfl rfl (ar_tmp (av_bool hb0 (av_rs 22 rfl rfl)))⟩,
      .inl ⟨wants_plain rfl, does_pick false _ _ _ rfl rfl rfl rfl rfl (ar_tmp (av_bool (gt5_no hq0) (av_rs 20 rfl rfl))) (ar_tmp (av_rs 23 rfl rfl))⟩,
      trivial⟩ ?_
    refine nx_sub (fs' := [.rows 5 3 (fodd3_EEA_c p0 q0 p1 q1 x2 y2), .slot 6 (VP.int .i64 ((3 : Nat) : Int)), .slot 7 (VP.int .i64 ((0 : Nat) : Int)), .slot 8 (VP.bool (decide (((0 : Nat) : Int) < ((3 : Nat) : Int)))), .rp 9 5 0, .slot 10 (VP.agg [Bz p0, Dz p0, Bz q0, Dz q0]), .box 4 26 [Bz p0, Dz p0, Bz q0, Dz q0], .fp 11 4 0, .slot 12 (INT p0), .fp 13 4 2, .slot 14 (INT q0), .arr 15 24 2 [Bz p0, Dz p0, Bz q0, Dz q0], .slot 16 (VP.bool false), .slot 17 (VP.bool false), .fp 18 4 0, .fp 19 4 1, .slot 20 (Dz p0), .slot 21 (VP.int .i64 (((dg BB p0.natAbs).length : Nat) : Int)), .slot 22 (VP.bool (decide ((((dg BB p0.natAbs).length : Nat) : Int) > 5))), .slot 23 (VP.bool (decide ((((dg BB p0.natAbs).length : Nat) : Int) > 5))), .slot 24 (VP.bool (decide ((((dg BB p0.natAbs).length : Nat) : Int) > 5))), .fp 25 4 2, .fp 26 4 3, .slot 27 (Dz q0), .slot 28 (VP.int .i64 (((dg BB q0.natAbs).length : Nat) : Int)), .slot 29 (VP.bool (decide ((((dg BB q0.natAbs).length : Nat) : Int) > 5))), .slot 30 (VP.bool (decide ((((dg BB q0.natAbs).length : Nat) : Int) > 5))), .slot 31 (VP.bool (decide ((((dg BB q0.natAbs).length : Nat) : Int) > 5))), .slot 32 (VP.agg [Bz p0, Dz p0, Bz q0, Dz q0]), .slot 33 (VP.bool (rightF p0 q0)), .slot 34 (VP.bool false), .slot 35 (VP.bool false)]) [0, 1, 2, 3, 4, 5, 6, 7, 8, 9, 10, 11, 12, 13, 14, 15, 16, 17, 18, 19, 20, 21, 22, 23, 24, 25, 26, 27, 28, 29, 30, 31] rfl ?_
    refine nx_then ?_
    refine t_cond_f 31 rfl ?_
    refine t_skip ?_
    refine nx_block ?_
    refine nx_then ?_
    refine t_region (F := ⟨_, _, _, _⟩) [.rows 5 3 (fodd3_EEA_c p0 q0 p1 q1 x2 y2), .slot 6 (VP.int .i64 ((3 : Nat) : Int)), .slot 8 (VP.bool (decide (((0 : Nat) : Int) < ((3 : Nat) : Int)))), .rp 9 5 0, .slot 10 (VP.agg [Bz p0, Dz p0, Bz q0, Dz q0]), .box 4 26 [Bz p0, Dz p0, Bz q0, Dz q0], .fp 11 4 0, .slot 12 (INT p0), .fp 13 4 2, .slot 14 (INT q0), .arr 15 24 2 [Bz p0, Dz p0, Bz q0, Dz q0], .slot 16 (VP.bool false), .slot 17 (VP.bool false), .fp 18 4 0, .fp 19 4 1, .slot 20 (Dz p0), .slot 21 (VP.int .i64 (((dg BB p0.natAbs).length : Nat) : Int)), .slot 22 (VP.bool (decide ((((dg BB p0.natAbs).length : Nat) : Int) > 5))), .slot 23 (VP.bool (decide ((((dg BB p0.natAbs).length : Nat) : Int) > 5))), .slot 24 (VP.bool (decide ((((dg BB p0.natAbs).length : Nat) : Int) > 5))), .fp 25 4 2, .fp 26 4 3, .slot 27 (Dz q0), .slot 28 (VP.int .i64 (((dg BB q0.natAbs).length : Nat) : Int)), .slot 29 (VP.bool (decide ((((dg BB q0.natAbs).length : Nat) : Int) > 5))), .slot 30 (VP.bool (decide ((((dg BB q0.natAbs).length : Nat) : Int) > 5))), .slot 31 (VP.bool (decide ((((dg BB q0.natAbs).length : Nat) : Int) > 5))), .slot 32 (VP.agg [Bz p0, Dz p0, Bz q0, Dz q0]), .slot 33 (VP.bool (rightF p0 q0)), .slot 34 (VP.bool false), .slot 35 (VP.bool false)] [(1, .slot 7 (VP.int .i64 ((0 : Nat) : Int)))] [(0, .slot 36 (VP.int .i64 ((1 : Nat) : Int))), (1, .slot 7 (VP.int .i64 ((1 : Nat) : Int)))] [] [0, 1, 3, 4, 5, 6, 7, 8, 9, 10, 11, 12, 13, 14, 15, 16, 17, 18, 19, 20, 21, 22, 23, 24, 25, 26, 27, 28, 29, 30, 31] [2] rfl rfl follow rfl ⟨
      .inl ⟨wants_plain rfl, does_addInt (m := ((0 : Nat) : Int)) (n := 1) _ _ _ _ rfl rfl rfl rfl rfl (by omega) (ar_tmp (av_os 0 rfl rfl)) (ar_const (fun _ => rfl))⟩,
      .inl ⟨wants_plain rfl, does_move _ (.inl rfl) rfl rfl rfl rfl (ar_tmp (av_rs 0 rfl rfl))⟩,
      trivial⟩ ?_
    refine nx_sub (fs' := [.rows 5 3 (fodd3_EEA_c p0 q0 p1 q1 x2 y2), .slot 6 (VP.int .i64 ((3 : Nat) : Int)), .slot 8 (VP.bool (decide (((0 : Nat) : Int) < ((3 : Nat) : Int)))), .rp 9 5 0, .slot 10 (VP.agg [Bz p0, Dz p0, Bz q0, Dz q0]), .box 4 26 [Bz p0, Dz p0, Bz q0, Dz q0], .fp 11 4 0, .slot 12 (INT p0), .fp 13 4 2, .slot 14 (INT q0), .arr 15 24 2 [Bz p0, Dz p0, Bz q0, Dz q0], .slot 16 (VP.bool false), .slot 17 (VP.bool false), .fp 18 4 0, .fp 19 4 1, .slot 20 (Dz p0), .slot 21 (VP.int .i64 (((dg BB p0.natAbs).length : Nat) : Int)), .slot 22 (VP.bool (decide ((((dg BB p0.natAbs).length : Nat) : Int) > 5))), .slot 23 (VP.bool (decide ((((dg BB p0.natAbs).length : Nat) : Int) > 5))), .slot 24 (VP.bool (decide ((((dg BB p0.natAbs).length : Nat) : Int) > 5))), .fp 25 4 2, .fp 26 4 3, .slot 27 (Dz q0), .slot 28 (VP.int .i64 (((dg BB q0.natAbs).length : Nat) : Int)), .slot 29 (VP.bool (decide ((((dg BB q0.natAbs).length : Nat) : Int) > 5))), .slot 30 (VP.bool (decide ((((dg BB q0.natAbs).length : Nat) : Int) > 5))), .slot 31 (VP.bool (decide ((((dg BB q0.natAbs).length : Nat) : Int) > 5))), .slot 32 (VP.agg [Bz p0, Dz p0, Bz q0, Dz q0]), .slot 33 (VP.bool (rightF p0 q0)), .slot 34 (VP.bool false), .slot 35 (VP.bool false), .slot 36 (VP.int .i64 ((1 : Nat) : Int)), .slot 7 (VP.int .i64 ((1 : Nat) : Int))]) [0, 1, 2, 3, 4, 5, 6, 7, 8, 9, 10, 11, 12, 13, 14, 15, 16, 17, 18, 19, 20, 21, 22, 23, 24, 25, 26, 27, 28, 29, 30, 31, 32] rfl ?_
    exact nx_round ⟨1, by decide⟩ (by show 3 - 1 < 3 - 0; decide) [0, 1, 32] rfl
  case inr.inl =>
    refine t_seq ?_
    refine t_region (F := ⟨_, _, _, _⟩) [.rows 5 3 (fodd3_EEA_c p0 q0 p1 q1 x2 y2), .slot 6 (VP.int .i64 ((3 : Nat) : Int)), .slot 7 (VP.int .i64 ((1 : Nat) : Int))] [] [(0, .slot 8 (VP.bool (decide (((1 : Nat) : Int) < ((3 : Nat) : Int)))))] [] [0, 1, 2] [] rfl rfl follow rfl ⟨
      .inl ⟨wants_plain rfl, does_cmp (m := ((1 : Nat) : Int)) (n := ((3 : Nat) : Int)) _ _ _ _ _ rfl rfl rfl rfl rfl rfl .i64 (ar_tmp (av_fs 2 rfl)) (ar_tmp (av_fs 1 rfl))⟩,
      trivial⟩ ?_
    refine nx_sub (fs' := [.rows 5 3 (fodd3_EEA_c p0 q0 p1 q1 x2 y2), .slot 6 (VP.int .i64 ((3 : Nat) : Int)), .slot 7 (VP.int .i64 ((1 : Nat) : Int)), .slot 8 (VP.bool (decide (((1 : Nat) : Int) < ((3 : Nat) : Int))))]) [0, 1, 2, 3] rfl ?_
    refine nx_then ?_
    refine t_seq ?_
    refine t_cond_te 3 rfl rfl ?_
    refine t_skip ?_
    refine nx_then ?_
    refine t_seq ?_
    refine t_block ?_
    refine t_seq ?_
    refine t_region (F := ⟨_, _, _, _⟩) [.rows 5 3 (fodd3_EEA_c p0 q0 p1 q1 x2 y2), .slot 6 (VP.int .i64 ((3 : Nat) : Int)), .slot 7 (VP.int .i64 ((1 : Nat) : Int)), .slot 8 (VP.bool (decide (((1 : Nat) : Int) < ((3 : Nat) : Int))))] [] [(0, .rp 9 5 4), (1, .slot 10 (VP.agg [Bz p1, Dz p1, Bz q1, Dz q1])), (2, .own 4 26 4), (3, .box 4 26 [Bz p1, Dz p1, Bz q1, Dz q1])] [] [0, 1, 2, 3] [] rfl rfl follow rfl ⟨
      .inl ⟨wants_plain rfl, does_indexRows (m := 1) (sz := 4) _ _ rfl Try.underlying122 (fun w => run_sizeAgg ty_agg_api_Frac w) rfl rfl rfl rfl rfl rfl (by decide) rfl (av_fs 0 rfl) (ar_tmp (av_fs 2 rfl))⟩,
      .inl ⟨wants_plain rfl, does_loadRows _ rfl ty_agg_api_Frac rfl rfl rfl rfl rfl rfl rfl (av_rs 0 rfl rfl) (av_fs 0 rfl)⟩,
      .inl ⟨wants_plain rfl, does_allocOwn [Bz 0, Dz 0, Bz 0, Dz 0] ty_zero_api_Frac rfl rfl rfl rfl rfl z_frac rfl⟩,
      .inl ⟨wants_plain rfl, does_storeNew 4 _ _ ty_agg_api_Frac rfl rfl rfl rfl rfl (pt_own (av_rs 2 rfl rfl)) (av_rs 2 rfl rfl) (ar_tmp (av_rs 1 rfl rfl))⟩,
      trivial⟩ ?_
    refine nx_sub (fs' := [.rows 5 3 (fodd3_EEA_c p0 q0 p1 q1 x2 y2), .slot 6 (VP.int .i64 ((3 : Nat) : Int)), .slot 7 (VP.int .i64 ((1 : Nat) : Int)), .slot 8 (VP.bool (decide (((1 : Nat) : Int) < ((3 : Nat) : Int)))), .rp 9 5 4, .slot 10 (VP.agg [Bz p1, Dz p1, Bz q1, Dz q1]), .box 4 26 [Bz p1, Dz p1, Bz q1, Dz q1]]) [0, 1, 2, 3, 4, 5, 7] rfl ?_
    refine nx_then ?_
    refine t_seq ?_
    refine t_region (F := ⟨_, _, _, _⟩) [.rows 5 3 (fodd3_EEA_c p0 q0 p1 q1 x2 y2), .slot 6 (VP.int .i64 ((3 : Nat) : Int)), .slot 7 (VP.int .i64 ((1 : Nat) : Int)), .slot 8 (VP.bool (decide (((1 : Nat) : Int) < ((3 : Nat) : Int)))), .rp 9 5 4, .slot 10 (VP.agg [Bz p1, Dz p1, Bz q1, Dz q1]), .box 4 26 [Bz p1, Dz p1, Bz q1, Dz q1]] [] [(0, .fp 11 4 0), (1, .slot 12 (INT p1)), (2, .fp 13 4 2), (3, .slot 14 (INT q1)), (4, .arr 15 24 2 [Bz p1, Dz p1, Bz q1, Dz q1]), (5, .slot 16 (VP.bool false)), (6, .slot 17 (VP.bool false)), (7, .fp 18 4 0), (8, .fp 19 4 1), (9, .slot 20 (Dz p1)), (10, .slot 21 (VP.int .i64 (((dg BB p1.natAbs).length : Nat) : Int))), (11, .slot 22 (VP.bool (decide ((((dg BB p1.natAbs).length : Nat) : Int) > 5)))), (12, .slot 23 (VP.bool (decide ((((dg BB p1.natAbs).length : Nat) : Int) > 5)))), (13, .slot 24 (VP.bool (decide ((((dg BB p1.natAbs).length : Nat) : Int) > 5)))), (14, .fp 25 4 2), (15, .fp 26 4 3), (16, .slot 27 (Dz q1)), (17, .slot 28 (VP.int .i64 (((dg BB q1.natAbs).length : Nat) : Int))), (18, .slot 29 (VP.bool (decide ((((dg BB q1.natAbs).length : Nat) : Int) > 5)))), (19, .slot 30 (VP.bool (decide ((((dg BB q1.natAbs).length : Nat) : Int) > 5)))), (20, .slot 31 (VP.bool (decide ((((dg BB q1.natAbs).length : Nat) : Int) > 5)))), (21, .slot 32 (VP.agg [Bz p1, Dz p1, Bz q1, Dz q1])), (22, .slot 33 (VP.bool (rightF p1 q1))), (23, .slot 34 (VP.bool false)), (24, .slot 35 (VP.bool false))] [] [0, 1, 2, 3, 4, 5, 6] [] rfl rfl follow rfl ⟨
      .inl ⟨wants_plain rfl, does_field _ _ _ 0 ty_f0_api_Frac rfl rfl rfl rfl rfl rfl rfl (pt_box (av_fs 6 rfl))⟩,
      .inl ⟨wants_plain rfl, does_loadAgg _ ty_agg_api_Int rfl rfl rfl rfl rfl rfl (pt_fp (av_rs 0 rfl rfl)) (av_fs 6 rfl)⟩,
      .inl ⟨wants_plain rfl, does_field _ _ _ 2 ty_f1_api_Frac rfl rfl rfl rfl rfl rfl rfl (pt_box (av_fs 6 rfl))⟩,
      .inl ⟨wants_plain rfl, does_loadAgg _ ty_agg_api_Int rfl rfl rfl rfl rfl rfl (pt_fp (av_rs 2 rfl rfl)) (av_fs 6 rfl)⟩,
      .inl ⟨wants_plain rfl, does_buildSlice (sz := 2) [Bz 0, Dz 0, Bz 0, Dz 0] ty_zero_api_Int (by kernel_rfl) (fun w => run_sizeAgg ty_agg_api_Int w) rfl rfl rfl rfl rfl rfl (by kernel_rfl) (fun w => by exact z_int_2 w) (.cons 0 [Bz p1, Dz p1] rfl rfl (ar_cells_agg (ar_tmp (av_rs 1 rfl rfl))) (.cons 2 [Bz q1, Dz q1] rfl rfl (ar_cells_agg (ar_tmp (av_rs 3 rfl rfl))) (.nil _)))⟩,
      .inl ⟨wants_plain rfl, does_call (s_even2 p1 q1 (lle hp1 (by decide)) (lle hq1 (by decide))) rfl hb_collator_collatorlaw01_Odd rfl rfl rfl rfl ⟨(ar_arr (av_rs 4 rfl rfl)), trivial⟩⟩,
      .inl ⟨wants_plain rfl, does_move _ (.inl rfl) rfl rfl rfl rfl (ar_tmp (av_rs 5 rfl rfl))⟩,
      .inl ⟨wants_guard false rfl rfl rfl (av_rs 6 rfl rfl), does_field _ _ _ 0 ty_f0_api_Frac rfl rfl rfl rfl rfl rfl rfl (pt_box (av_fs 6 rfl))⟩,
      .inl ⟨wants_guard false rfl rfl rfl (av_rs 6 rfl rfl), does_field _ _ _ 1 ty_f1_api_Int rfl rfl rfl rfl rfl rfl rfl (pt_fp (av_rs 7 rfl rfl))⟩,
      .inl ⟨wants_guard false rfl rfl rfl (av_rs 6 rfl rfl), does_loadOne _ ty_one___uint32 rfl rfl rfl rfl rfl rfl (pt_fp (av_rs 8 rfl rfl)) (av_fs 6 rfl)⟩,
      .inl ⟨wants_guard false rfl rfl rfl (av_rs 6 rfl rfl), does_len _ _ (by kernel_rfl) rfl rfl rfl rfl rfl (ar_tmp (av_rs 9 rfl rfl))⟩,
      .inl ⟨wants_guard false rfl rfl rfl (av_rs 6 rfl rfl), does_cmp (m := (((dg BB p1.natAbs).length : Nat) : Int)) (n := 5) _ _ _ _ _ rfl rfl rfl rfl rfl rfl .i64 (ar_tmp (av_rs 10 rfl rfl)) (ar_const (fun _ => rfl))⟩,
      .inl ⟨wants_plain rfl, does_pick false _ _ _ rfl rfl rfl rfl rfl (ar_tmp (av_rs 6 rfl rfl)) (ar_tmp (av_rs 11 rfl rfl))⟩,
      .inl ⟨wants_plain rfl, does_move _ (.inl rfl) rfl rfl rfl rfl (ar_tmp (av_rs 12 rfl rfl))⟩,
      .inl ⟨wants_guard false rfl rfl rfl (av_bool (gt5_no hp1) (av_rs 13 rfl rfl)), does_field _ _ _ 2 ty_f1_api_Frac rfl rfl rfl rfl rfl rfl rfl (pt_box (av_fs 6 rfl))⟩,
      .inl ⟨wants_guard false rfl rfl rfl (av_bool (gt5_no hp1) (av_rs 13 rfl rfl)), does_field _ _ _ 1 ty_f1_api_Int rfl rfl rfl rfl rfl rfl rfl (pt_fp (av_rs 14 rfl rfl))⟩,
      .inl ⟨wants_guard false rfl rfl rfl (av_bool (gt5_no hp1) (av_rs 13 rfl rfl)), does_loadOne _ ty_one___uint32 rfl rfl rfl rfl rfl rfl (pt_fp (av_rs 15 rfl rfl)) (av_fs 6 rfl)⟩,
      .inl ⟨wants_guard false rfl rfl rfl (av_bool (gt5_no hp1) (av_rs 13 rfl rfl)), does_len _ _ (by kernel_rfl) rfl rfl rfl rfl rfl (ar_tmp (av_rs 16 rfl rfl))⟩,
      .inl ⟨wants_guard false rfl rfl rfl (av_bool (gt5_no hp1) (av_rs 13 rfl rfl)), does_cmp (m := (((dg BB q1.natAbs).length : Nat) : Int)) (n := 5) _ _ _ _ _ rfl rfl rfl rfl rfl rfl .i64 (ar_tmp (av_rs 17 rfl rfl)) (ar_const (fun _ => rfl))⟩,
      .inl ⟨wants_plain rfl, does_pick false _ _ _ rfl rfl rfl rfl rfl (ar_tmp (av_bool (gt5_no hp1) (av_rs 13 rfl rfl))) (ar_tmp (av_rs 18 rfl rfl))⟩,
      .inl ⟨wants_plain rfl, does_move _ (.inl rfl) rfl rfl rfl rfl (ar_tmp (av_rs 19 rfl rfl))⟩,
      .inl ⟨wants_guard false rfl rfl rfl (av_bool (gt5_no hq1) (av_rs 20 rfl rfl)), does_loadAgg _ ty_agg_api_Frac rfl rfl rfl rfl rfl rfl (pt_box (av_fs 6 rfl)) (av_fs 6 rfl)⟩,
      .inl ⟨wants_guard false rfl rfl rfl (av_bool (gt5_no hq1) (av_rs 20 rfl rfl)), does_call (g_right p1 q1 (lle hp1 (by decide)) (lle hq1 (by decide))) rfl hb_collator_collatorref02_Right rfl rfl rfl rfl ⟨(ar_tmp (av_rs 21 rfl rfl)), trivial⟩⟩,
      .inl ⟨wants_guard false rfl rfl rfl (av_bool (gt5_no hq1) (av_rs 20 rfl rfl)), does_not true _ _ rfl rfl rfl rfl rfl (ar_tmp (av_bool hb1 (av_rs 22 rfl rfl)))⟩,
      .inl ⟨wants_plain rfl, does_pick false _ _ _ rfl rfl rfl rfl rfl (ar_tmp (av_bool (gt5_no hq1) (av_rs 20 rfl rfl))) (ar_tmp (av_rs 23 rfl rfl))⟩,
      trivial⟩ ?_
    refine nx_sub (fs' := [.rows 5 3 (fodd3_EEA_c p0 q0 p1 q1 x2 y2), .slot 6 (VP.int .i64 ((3 : Nat) : Int)), .slot 7 (VP.int .i64 ((1 : Nat) : Int)), .slot 8 (VP.bool (decide (((1 : Nat) : Int) < ((3 : Nat) : Int)))), .rp 9 5 4, .slot 10 (VP.agg [Bz p1, Dz p1, Bz q1, Dz q1]), .box 4 26 [Bz p1, Dz p1, Bz q1, Dz q1], .fp 11 4 0, .slot 12 (INT p1), .fp 13 4 2, .slot 14 (INT q1), .arr 15 24 2 [Bz p1, Dz p1, Bz q1, Dz q1], .slot 16 (VP.bool false), .slot 17 (VP.bool false), .fp 18 4 0, .fp 19 4 1, .slot 20 (Dz p1), .slot 21 (VP.int .i64 (((dg BB p1.natAbs).length : Nat) : Int)), .slot 22 (VP.bool (decide ((((dg BB p1.natAbs).length : Nat) : Int) > 5))), .slot 23 (VP.bool (decide ((((dg BB p1.natAbs).length : Nat) : Int) > 5))), .slot 24 (VP.bool (decide ((((dg BB p1.natAbs).length : Nat) : Int) > 5))), .fp 25 4 2, .fp 26 4 3, .slot 27 (Dz q1), .slot 28 (VP.int .i64 (((dg BB q1.natAbs).length : Nat) : Int)), .slot 29 (VP.bool (decide ((((dg BB q1.natAbs).length : Nat) : Int) > 5))), .slot 30 (VP.bool (decide ((((dg BB q1.natAbs).length : Nat) : Int) > 5))), .slot 31 (VP.bool (decide ((((dg BB q1.natAbs).length : Nat) : Int) > 5))), .slot 32 (VP.agg [Bz p1, Dz p1, Bz q1, Dz q1]), .slot 33 (VP.bool (rightF p1 q1)), .slot 34 (VP.bool false), .slot 35 (VP.bool false)]) [0, 1, 2, 3, 4, 5, 6, 7, 8, 9, 10, 11, 12, 13, 14, 15, 16, 17, 18, 19, 20, 21, 22, 23, 24, 25, 26, 27, 28, 29, 30, 31] rfl ?_
    refine nx_then ?_
    refine t_cond_f 31 rfl ?_
    refine t_skip ?_
    refine nx_block ?_
    refine nx_then ?_
    refine t_region (F := ⟨_, _, _, _⟩) [.rows 5 3 (fodd3_EEA_c p0 q0 p1 q1 x2 y2), .slot 6 (VP.int .i64 ((3 : Nat) : Int)), .slot 8 (VP.bool (decide (((1 : Nat) : Int) < ((3 : Nat) : Int)))), .rp 9 5 4, .slot 10 (VP.agg [Bz p1, Dz p1, Bz q1, Dz q1]), .box 4 26 [Bz p1, Dz p1, Bz q1, Dz q1], .fp 11 4 0, .slot 12 (INT p1), .fp 13 4 2, .slot 14 (INT q1), .arr 15 24 2 [Bz p1, Dz p1, Bz q1, Dz q1], .slot 16 (VP.bool false), .slot 17 (VP.bool false), .fp 18 4 0, .fp 19 4 1, .slot 20 (Dz p1), .slot 21 (VP.int .i64 (((dg BB p1.natAbs).length : Nat) : Int)), .slot 22 (VP.bool (decide ((((dg BB p1.natAbs).length : Nat) : Int) > 5))), .slot 23 (VP.bool (decide ((((dg BB p1.natAbs).length : Nat) : Int) > 5))), .slot 24 (VP.bool (decide ((((dg BB p1.natAbs).length : Nat) : Int) > 5))), .fp 25 4 2, .fp 26 4 3, .slot 27 (Dz q1), .slot 28 (VP.int .i64 (((dg BB q1.natAbs).length : Nat) : Int)), .slot 29 (VP.bool (decide ((((dg BB q1.natAbs).length : Nat) : Int) > 5))), .slot 30 (VP.bool (decide ((((dg BB q1.natAbs).length : Nat) : Int) > 5))), .slot 31 (VP.bool (decide ((((dg BB q1.natAbs).length : Nat) : Int) > 5))), .slot 32 (VP.agg [Bz p1, Dz p1, Bz q1, Dz q1]), .slot 33 (VP.bool (rightF p1 q1)), .slot 34 (VP.bool false), .slot 35 (VP.bool false)] [(1, .slot 7 (VP.int .i64 ((1 : Nat) : Int)))] [(0, .slot 36 (VP.int .i64 ((2 : Nat) : Int))), (1, .slot 7 (VP.int .i64 ((2 : Nat) : Int)))] [] [0, 1, 3, 4, 5, 6, 7, 8, 9, 10, 11, 12, 13, 14, 15, 16, 17, 18, 19, 20, 21, 22, 23, 24, 25, 26, 27, 28, 29, 30, 31] [2] rfl rfl follow rfl ⟨
      .inl ⟨wants_plain rfl, does_addInt (m := ((1 : Nat) : Int)) (n := 1) _ _ _ _ rfl rfl rfl rfl rfl (by omega) (ar_tmp (av_os 0 rfl rfl)) (ar_const (fun _ => rfl))⟩,
      .inl ⟨wants_plain rfl, does_move _ (.inl rfl) rfl rfl rfl rfl (ar_tmp (av_rs 0 rfl rfl))⟩,
      trivial⟩ ?_
    refine nx_sub (fs' := [.rows 5 3 (fodd3_EEA_c p0 q0 p1 q1 x2 y2), .slot 6 (VP.int .i64 ((3 : Nat) : Int)), .slot 8 (VP.bool (decide (((1 : Nat) : Int) < ((3 : Nat) : Int)))), .rp 9 5 4, .slot 10 (VP.agg [Bz p1, Dz p1, Bz q1, Dz q1]), .box 4 26 [Bz p1, Dz p1, Bz q1, Dz q1], .fp 11 4 0, .slot 12 (INT p1), .fp 13 4 2, .slot 14 (INT q1), .arr 15 24 2 [Bz p1, Dz p1, Bz q1, Dz q1], .slot 16 (VP.bool false), .slot 17 (VP.bool false), .fp 18 4 0, .fp 19 4 1, .slot 20 (Dz p1), .slot 21 (VP.int .i64 (((dg BB p1.natAbs).length : Nat) : Int)), .slot 22 (VP.bool (decide ((((dg BB p1.natAbs).length : Nat) : Int) > 5))), .slot 23 (VP.bool (decide ((((dg BB p1.natAbs).length : Nat) : Int) > 5))), .slot 24 (VP.bool (decide ((((dg BB p1.natAbs).length : Nat) : Int) > 5))), .fp 25 4 2, .fp 26 4 3, .slot 27 (Dz q1), .slot 28 (VP.int .i64 (((dg BB q1.natAbs).length : Nat) : Int)), .slot 29 (VP.bool (decide ((((dg BB q1.natAbs).length : Nat) : Int) > 5))), .slot 30 (VP.bool (decide ((((dg BB q1.natAbs).length : Nat) : Int) > 5))), .slot 31 (VP.bool (decide ((((dg BB q1.natAbs).length : Nat) : Int) > 5))), .slot 32 (VP.agg [Bz p1, Dz p1, Bz q1, Dz q1]), .slot 33 (VP.bool (rightF p1 q1)), .slot 34 (VP.bool false), .slot 35 (VP.bool false), .slot 36 (VP.int .i64 ((2 : Nat) : Int)), .slot 7 (VP.int .i64 ((2 : Nat) : Int))]) [0, 1, 2, 3, 4, 5, 6, 7, 8, 9, 10, 11, 12, 13, 14, 15, 16, 17, 18, 19, 20, 21, 22, 23, 24, 25, 26, 27, 28, 29, 30, 31, 32] rfl ?_
    exact nx_round ⟨2, by decide⟩ (by show 3 - 2 < 3 - 1; decide) [0, 1, 32] rfl
  case inr.inr =>
    refine t_seq ?_
    refine t_region (F := ⟨_, _, _, _⟩) [.rows 5 3 (fodd3_EEA_c p0 q0 p1 q1 x2 y2), .slot 6 (VP.int .i64 ((3 : Nat) : Int)), .slot 7 (VP.int .i64 ((2 : Nat) : Int))] [] [(0, .slot 8 (VP.bool (decide (((2 : Nat) : Int) < ((3 : Nat) : Int)))))] [] [0, 1, 2] [] rfl rfl follow rfl ⟨
      .inl ⟨wants_plain rfl, does_cmp (m := ((2 : Nat) : Int)) (n := ((3 : Nat) : Int)) _ _ _ _ _ rfl rfl rfl rfl rfl rfl .i64 (ar_tmp (av_fs 2 rfl)) (ar_tmp (av_fs 1 rfl))⟩,
      trivial⟩ ?_
    refine nx_sub (fs' := [.rows 5 3 (fodd3_EEA_c p0 q0 p1 q1 x2 y2), .slot 6 (VP.int .i64 ((3 : Nat) : Int)), .slot 7 (VP.int .i64 ((2 : Nat) : Int)), .slot 8 (VP.bool (decide (((2 : Nat) : Int) < ((3 : Nat) : Int))))]) [0, 1, 2, 3] rfl ?_
    refine nx_then ?_
    refine t_seq ?_
    refine t_cond_te 3 rfl rfl ?_
    refine t_skip ?_
    refine nx_then ?_
    refine t_seq ?_
    refine t_block ?_
    refine t_seq ?_
    refine t_region (F := ⟨_, _, _, _⟩) [.rows 5 3 (fodd3_EEA_c p0 q0 p1 q1 x2 y2), .slot 6 (VP.int .i64 ((3 : Nat) : Int)), .slot 7 (VP.int .i64 ((2 : Nat) : Int)), .slot 8 (VP.bool (decide (((2 : Nat) : Int) < ((3 : Nat) : Int))))] [] [(0, .rp 9 5 8), (1, .slot 10 (VP.agg [VP.bool x2.1, VP.nums .u32 x2.2, VP.bool y2.1, VP.nums .u32 y2.2])), (2, .own 4 26 4), (3, .box 4 26 [VP.bool x2.1, VP.nums .u32 x2.2, VP.bool y2.1, VP.nums .u32 y2.2])] [] [0, 1, 2, 3] [] rfl rfl follow rfl ⟨
      .inl ⟨wants_plain rfl, does_indexRows (m := 2) (sz := 4) _ _ rfl Try.underlying122 (fun w => run_sizeAgg ty_agg_api_Frac w) rfl rfl rfl rfl rfl rfl (by decide) rfl (av_fs 0 rfl) (ar_tmp (av_fs 2 rfl))⟩,
      .inl ⟨wants_plain rfl, does_loadRows _ rfl ty_agg_api_Frac rfl rfl rfl rfl rfl rfl rfl (av_rs 0 rfl rfl) (av_fs 0 rfl)⟩,
      .inl ⟨wants_plain rfl, does_allocOwn [Bz 0, Dz 0, Bz 0, Dz 0] ty_zero_api_Frac rfl rfl rfl rfl rfl z_frac rfl⟩,
      .inl ⟨wants_plain rfl, does_storeNew 4 _ _ ty_agg_api_Frac rfl rfl rfl rfl rfl (pt_own (av_rs 2 rfl rfl)) (av_rs 2 rfl rfl) (ar_tmp (av_rs 1 rfl rfl))⟩,
      trivial⟩ ?_
    refine nx_sub (fs' := [.rows 5 3 (fodd3_EEA_c p0 q0 p1 q1 x2 y2), .slot 6 (VP.int .i64 ((3 : Nat) : Int)), .slot 7 (VP.int .i64 ((2 : Nat) : Int)), .slot 8 (VP.bool (decide (((2 : Nat) : Int) < ((3 : Nat) : Int)))), .rp 9 5 8, .slot 10 (VP.agg [VP.bool x2.1, VP.nums .u32 x2.2, VP.bool y2.1, VP.nums .u32 y2.2]), .box 4 26 [VP.bool x2.1, VP.nums .u32 x2.2, VP.bool y2.1, VP.nums .u32 y2.2]]) [0, 1, 2, 3, 4, 5, 7] rfl ?_
    refine nx_then ?_
    refine t_seq ?_
    refine t_region (F := ⟨_, _, _, _⟩) [.rows 5 3 (fodd3_EEA_c p0 q0 p1 q1 x2 y2), .slot 6 (VP.int .i64 ((3 : Nat) : Int)), .slot 7 (VP.int .i64 ((2 : Nat) : Int)), .slot 8 (VP.bool (decide (((2 : Nat) : Int) < ((3 : Nat) : Int)))), .rp 9 5 8, .slot 10 (VP.agg [VP.bool x2.1, VP.nums .u32 x2.2, VP.bool y2.1, VP.nums .u32 y2.2]), .box 4 26 [VP.bool x2.1, VP.nums .u32 x2.2, VP.bool y2.1, VP.nums .u32 y2.2]] [] [(0, .fp 11 4 0), (1, .slot 12 (VP.agg [VP.bool x2.1, VP.nums .u32 x2.2])), (2, .fp 13 4 2), (3, .slot 14 (VP.agg [VP.bool y2.1, VP.nums .u32 y2.2])), (4, .arr 15 24 2 [VP.bool x2.1, VP.nums .u32 x2.2, VP.bool y2.1, VP.nums .u32 y2.2]), (5, .slot 16 (VP.bool true)), (6, .slot 17 (VP.bool true)), (7, .slot 18 (VP.undef)), (8, .slot 19 (VP.undef)), (9, .slot 20 (VP.undef)), (10, .slot 21 (VP.undef)), (11, .slot 22 (VP.undef)), (12, .slot 23 (VP.bool true)), (13, .slot 24 (VP.bool true)), (14, .slot 25 (VP.undef)), (15, .slot 26 (VP.undef)), (16, .slot 27 (VP.undef)), (17, .slot 28 (VP.undef)), (18, .slot 29 (VP.undef)), (19, .slot 30 (VP.bool true)), (20, .slot 31 (VP.bool true)), (21, .slot 32 (VP.undef)), (22, .slot 33 (VP.undef)), (23, .slot 34 (VP.undef)), (24, .slot 35 (VP.bool true))] [] [0, 1, 2, 3, 4, 5, 6] [] rfl rfl follow rfl ⟨
      .inl ⟨wants_plain rfl, does_field _ _ _ 0 ty_f0_api_Frac rfl rfl rfl rfl rfl rfl rfl (pt_box (av_fs 6 rfl))⟩,
      .inl ⟨wants_plain rfl, does_loadAgg _ ty_agg_api_Int rfl rfl rfl rfl rfl rfl (pt_fp (av_rs 0 rfl rfl)) (av_fs 6 rfl)⟩,
      .inl ⟨wants_plain rfl, does_field _ _ _ 2 ty_f1_api_Frac rfl rfl rfl rfl rfl rfl rfl (pt_box (av_fs 6 rfl))⟩,
      .inl ⟨wants_plain rfl, does_loadAgg _ ty_agg_api_Int rfl rfl rfl rfl rfl rfl (pt_fp (av_rs 2 rfl rfl)) (av_fs 6 rfl)⟩,
      .inl ⟨wants_plain rfl, does_buildSlice (sz := 2) [Bz 0, Dz 0, Bz 0, Dz 0] ty_zero_api_Int (by kernel_rfl) (fun w => run_sizeAgg ty_agg_api_Int w) rfl rfl rfl rfl rfl rfl (by kernel_rfl) (fun w => by exact z_int_2 w) (.cons 0 [VP.bool x2.1, VP.nums .u32 x2.2] rfl rfl (ar_cells_agg (ar_tmp (av_rs 1 rfl rfl))) (.cons 2 [VP.bool y2.1, VP.nums .u32 y2.2] rfl rfl (ar_cells_agg (ar_tmp (av_rs 3 rfl rfl))) (.nil _)))⟩,
      .inl ⟨wants_plain rfl, does_call (s_odd2 x2 y2 hx2 hy2 ho) rfl hb_collator_collatorlaw01_Odd rfl rfl rfl rfl ⟨(ar_arr (av_rs 4 rfl rfl)), trivial⟩⟩,
      .inl ⟨wants_plain rfl, does_move _ (.inl rfl) rfl rfl rfl rfl (ar_tmp (av_rs 5 rfl rfl))⟩,
      .inr (skips_guardU true rfl rfl rfl (av_rs 6 rfl rfl) rfl rfl rfl rfl),
      .inr (skips_guardU true rfl rfl rfl (av_rs 6 rfl rfl) rfl rfl rfl rfl),
      .inr (skips_guardU true rfl rfl rfl (av_rs 6 rfl rfl) rfl rfl rfl rfl),
      .inr (skips_guardU true rfl rfl rfl (av_rs 6 rfl rfl) rfl rfl rfl rfl),
      .inr (skips_guardU true rfl rfl rfl (av_rs 6 rfl rfl) rfl rfl rfl rfl),
      .inl ⟨wants_plain rfl, does_pick true _ _ _ rfl rfl rfl rfl rfl (ar_tmp (av_rs 6 rfl rfl)) (ar_const (fun _ => rfl))⟩,
      .inl ⟨wants_plain rfl, does_move _ (.inl rfl) rfl rfl rfl rfl (ar_tmp (av_rs 12 rfl rfl))⟩,
      .inr (skips_guardU true rfl rfl rfl (av_rs 13 rfl rfl) rfl rfl rfl rfl),
      .inr (skips_guardU true rfl rfl rfl (av_rs 13 rfl rfl) rfl rfl rfl rfl),
      .inr (skips_guardU true rfl rfl rfl (av_rs 13 rfl rfl) rfl rfl rfl rfl),
      .inr (skips_guardU true rfl rfl rfl (av_rs 13 rfl rfl) rfl rfl rfl rfl),
      .inr (skips_guardU true rfl rfl rfl (av_rs 13 rfl rfl) rfl rfl rfl rfl),
      .inl ⟨wants_plain rfl, does_pick true _ _ _ rfl rfl rfl rfl rfl (ar_tmp (av_rs 13 rfl rfl)) (ar_const (fun _ => rfl))⟩,
      .inl ⟨wants_plain rfl, does_move _ (.inl rfl) rfl rfl rfl rfl (ar_tmp (av_rs 19 rfl rfl))⟩,
      .inr (skips_guardU true rfl rfl rfl (av_rs 20 rfl rfl) rfl rfl rfl rfl),
      .inr (skips_guardU true rfl rfl rfl (av_rs 20 rfl rfl) rfl rfl rfl rfl),
      .inr (skips_guardU true rfl rfl rfl (av_rs 20 rfl rfl) rfl rfl rfl rfl),
      .inl ⟨wants_plain rfl, does_pick true _ _ _ rfl rfl rfl rfl rfl (ar_tmp (av_rs 20 rfl rfl)) (ar_const (fun _ => rfl))⟩,
      trivial⟩ ?_
    refine nx_sub (fs' := [.rows 5 3 (fodd3_EEA_c p0 q0 p1 q1 x2 y2), .slot 6 (VP.int .i64 ((3 : Nat) : Int)), .slot 7 (VP.int .i64 ((2 : Nat) : Int)), .slot 8 (VP.bool (decide (((2 : Nat) : Int) < ((3 : Nat) : Int)))), .rp 9 5 8, .slot 10 (VP.agg [VP.bool x2.1, VP.nums .u32 x2.2, VP.bool y2.1, VP.nums .u32 y2.2]), .box 4 26 [VP.bool x2.1, VP.nums .u32 x2.2, VP.bool y2.1, VP.nums .u32 y2.2], .fp 11 4 0, .slot 12 (VP.agg [VP.bool x2.1, VP.nums .u32 x2.2]), .fp 13 4 2, .slot 14 (VP.agg [VP.bool y2.1, VP.nums .u32 y2.2]), .arr 15 24 2 [VP.bool x2.1, VP.nums .u32 x2.2, VP.bool y2.1, VP.nums .u32 y2.2], .slot 16 (VP.bool true), .slot 17 (VP.bool true), .slot 18 (VP.undef), .slot 19 (VP.undef), .slot 20 (VP.undef), .slot 21 (VP.undef), .slot 22 (VP.undef), .slot 23 (VP.bool true), .slot 24 (VP.bool true), .slot 25 (VP.undef), .slot 26 (VP.undef), .slot 27 (VP.undef), .slot 28 (VP.undef), .slot 29 (VP.undef), .slot 30 (VP.bool true), .slot 31 (VP.bool true), .slot 32 (VP.undef), .slot 33 (VP.undef), .slot 34 (VP.undef), .slot 35 (VP.bool true)]) [0, 1, 2, 3, 4, 5, 6, 7, 8, 9, 10, 11, 12, 13, 14, 15, 16, 17, 18, 19, 20, 21, 22, 23, 24, 25, 26, 27, 28, 29, 30, 31] rfl ?_
    refine nx_then ?_
    refine t_cond_t 31 rfl ?_
    refine t_seq ?_
    refine t_region (F := ⟨_, _, _, _⟩) [.rows 5 3 (fodd3_EEA_c p0 q0 p1 q1 x2 y2), .slot 6 (VP.int .i64 ((3 : Nat) : Int)), .slot 7 (VP.int .i64 ((2 : Nat) : Int)), .slot 8 (VP.bool (decide (((2 : Nat) : Int) < ((3 : Nat) : Int)))), .rp 9 5 8, .slot 10 (VP.agg [VP.bool x2.1, VP.nums .u32 x2.2, VP.bool y2.1, VP.nums .u32 y2.2]), .box 4 26 [VP.bool x2.1, VP.nums .u32 x2.2, VP.bool y2.1, VP.nums .u32 y2.2], .fp 11 4 0, .slot 12 (VP.agg [VP.bool x2.1, VP.nums .u32 x2.2]), .fp 13 4 2, .slot 14 (VP.agg [VP.bool y2.1, VP.nums .u32 y2.2]), .arr 15 24 2 [VP.bool x2.1, VP.nums .u32 x2.2, VP.bool y2.1, VP.nums .u32 y2.2], .slot 16 (VP.bool true), .slot 17 (VP.bool true), .slot 18 (VP.undef), .slot 19 (VP.undef), .slot 20 (VP.undef), .slot 21 (VP.undef), .slot 22 (VP.undef), .slot 23 (VP.bool true), .slot 24 (VP.bool true), .slot 25 (VP.undef), .slot 26 (VP.undef), .slot 27 (VP.undef), .slot 28 (VP.undef), .slot 29 (VP.undef), .slot 30 (VP.bool true), .slot 31 (VP.bool true), .slot 32 (VP.undef), .slot 33 (VP.undef), .slot 34 (VP.undef), .slot 35 (VP.bool true)] [] [(0, .slot 2 (VP.bool true))] [] [0, 1, 2, 3, 4, 5, 6, 7, 8, 9, 10, 11, 12, 13, 14, 15, 16, 17, 18, 19, 20, 21, 22, 23, 24, 25, 26, 27, 28, 29, 30, 31] [] rfl rfl follow rfl ⟨
      .inl ⟨wants_plain rfl, does_move _ (.inr rfl) rfl rfl rfl rfl (ar_const (fun _ => rfl))⟩,
      trivial⟩ ?_
    refine nx_sub (fs' := [.rows 5 3 (fodd3_EEA_c p0 q0 p1 q1 x2 y2), .slot 6 (VP.int .i64 ((3 : Nat) : Int)), .slot 7 (VP.int .i64 ((2 : Nat) : Int)), .slot 8 (VP.bool (decide (((2 : Nat) : Int) < ((3 : Nat) : Int)))), .rp 9 5 8, .slot 10 (VP.agg [VP.bool x2.1, VP.nums .u32 x2.2, VP.bool y2.1, VP.nums .u32 y2.2]), .box 4 26 [VP.bool x2.1, VP.nums .u32 x2.2, VP.bool y2.1, VP.nums .u32 y2.2], .fp 11 4 0, .slot 12 (VP.agg [VP.bool x2.1, VP.nums .u32 x2.2]), .fp 13 4 2, .slot 14 (VP.agg [VP.bool y2.1, VP.nums .u32 y2.2]), .arr 15 24 2 [VP.bool x2.1, VP.nums .u32 x2.2, VP.bool y2.1, VP.nums .u32 y2.2], .slot 16 (VP.bool true), .slot 17 (VP.bool true), .slot 18 (VP.undef), .slot 19 (VP.undef), .slot 20 (VP.undef), .slot 21 (VP.undef), .slot 22 (VP.undef), .slot 23 (VP.bool true), .slot 24 (VP.bool true), .slot 25 (VP.undef), .slot 26 (VP.undef), .slot 27 (VP.undef), .slot 28 (VP.undef), .slot 29 (VP.undef), .slot 30 (VP.bool true), .slot 31 (VP.bool true), .slot 32 (VP.undef), .slot 33 (VP.undef), .slot 34 (VP.undef), .slot 35 (VP.bool true), .slot 2 (VP.bool true)]) [0, 1, 2, 3, 4, 5, 6, 7, 8, 9, 10, 11, 12, 13, 14, 15, 16, 17, 18, 19, 20, 21, 22, 23, 24, 25, 26, 27, 28, 29, 30, 31, 32] rfl ?_
    refine nx_then ?_
    refine t_ret ?_
    refine rt_block ?_
    refine rt_then ?_
    refine rt_then ?_
    refine rt_block ?_
    refine rt_then ?_
    exact rt_one rfl (res_tmp 32 rfl)
abbrev fodd3_EEB_c (p0 q0 : Int) (p1 q1 : Int) (p2 q2 : Int) : List VP := [Bz p0, Dz p0, Bz q0, Dz q0, Bz p1, Dz p1, Bz q1, Dz q1, Bz p2, Dz p2, Bz q2, Dz q2]
set_option maxRecDepth 100000 in
set_option maxHeartbeats 4000000 in
theorem fodd3_EEB (p0 q0 : Int) (hp0 : L p0 ≤ 5) (hq0 : L q0 ≤ 5) (hb0 : rightF p0 q0 = true) (p1 q1 : Int) (hp1 : L p1 ≤ 5) (hq1 : L q1 ≤ 5) (hb1 : rightF p1 q1 = true) (p2 q2 : Int) (hp2 : L p2 ≤ 10) (hq2 : L q2 ≤ 10) (hb2 : 5 < L p2) : Spec Try.prog 16 [isRows 3 (fodd3_EEB_c p0 q0 p1 q1 p2 q2)] (VP.bool true) := by
  refine spec_ofP (xs := [.rows 3 (fodd3_EEB_c p0 q0 p1 q1 p2 q2)]) 37 [4] Try.func16 rfl Try.ntmps16 rfl fun w0 => ?_
  refine t_seq ?_
  refine t_region (F := ⟨_, _, _, _⟩) [.rows 0 3 (fodd3_EEB_c p0 q0 p1 q1 p2 q2)] [] [(0, .slot 2 (VP.bool false))] [] [0] [] rfl rfl follow rfl ⟨
    .inl ⟨wants_plain rfl, does_move _ (.inr rfl) rfl rfl rfl rfl (ar_const (fun _ => rfl))⟩,
    trivial⟩ ?_
  refine nx_sub (fs' := [.rows 0 3 (fodd3_EEB_c p0 q0 p1 q1 p2 q2), .slot 2 (VP.bool false)]) [0, 1] rfl ?_
  refine nx_then ?_
  refine t_seq ?_
  refine t_seq ?_
  refine t_region (F := ⟨_, _, _, _⟩) [.rows 0 3 (fodd3_EEB_c p0 q0 p1 q1 p2 q2), .slot 2 (VP.bool false)] [] [(0, .rows 5 3 (fodd3_EEB_c p0 q0 p1 q1 p2 q2)), (1, .slot 6 (VP.int .i64 ((3 : Nat) : Int))), (2, .slot 7 (VP.int .i64 0))] [] [0, 1] [] rfl rfl follow rfl ⟨
    .inl ⟨wants_plain rfl, does_moveRows _ (.inl rfl) rfl rfl rfl rfl rfl (av_fs 0 rfl)⟩,
    .inl ⟨wants_plain rfl, does_lenRows _ _ rfl (by kernel_rfl) rfl rfl rfl rfl rfl (av_rs 0 rfl rfl)⟩,
    .inl ⟨wants_plain rfl, does_move _ (.inl rfl) rfl rfl rfl rfl (ar_const (fun _ => rfl))⟩,
    trivial⟩ ?_
  refine nx_sub (fs' := [.slot 2 (VP.bool false), .rows 5 3 (fodd3_EEB_c p0 q0 p1 q1 p2 q2), .slot 6 (VP.int .i64 ((3 : Nat) : Int)), .slot 7 (VP.int .i64 0)]) [1, 2, 3, 4] rfl ?_
  refine nx_then ?_
  refine t_block ?_
  refine t_loop (σ := {k : Nat // k ≤ 2}) (fun s => [.rows 5 3 (fodd3_EEB_c p0 q0 p1 q1 p2 q2), .slot 6 (VP.int .i64 ((3 : Nat) : Int)), .slot 7 (VP.int .i64 ((s.1 : Nat) : Int))]) (fun s => 3 - s.1) (⟨0, by decide⟩) [1, 2, 3] rfl ?_
  intro s
  obtain ⟨k, hk⟩ := s
  have hc : k = 0 ∨ k = 1 ∨ k = 2 := by omega
  rcases hc with rfl | rfl | rfl
  case inl =>
    refine t_seq ?_
    refine t_region (F := ⟨_, _, _, _⟩) [.rows 5 3 (fodd3_EEB_c p0 q0 p1 q1 p2 q2), .slot 6 (VP.int .i64 ((3 : Nat) : Int)), .slot 7 (VP.int .i64 ((0 : Nat) : Int))] [] [(0, .slot 8 (VP.bool (decide (((0 : Nat) : Int) < ((3 : Nat) : Int)))))] [] [0, 1, 2] [] rfl rfl follow rfl ⟨
      .inl ⟨wants_plain rfl, does_cmp (m := ((0 : Nat) : Int)) (n := ((3 : Nat) : Int)) _ _ _ _ _ rfl rfl rfl rfl rfl rfl .i64 (ar_tmp (av_fs 2 rfl)) (ar_tmp (av_fs 1 rfl))⟩,
      trivial⟩ ?_
    refine nx_sub (fs' := [.rows 5 3 (fodd3_EEB_c p0 q0 p1 q1 p2 q2), .slot 6 (VP.int .i64 ((3 : Nat) : Int)), .slot 7 (VP.int .i64 ((0 : Nat) : Int)), .slot 8 (VP.bool (decide (((0 : Nat) : Int) < ((3 : Nat) : Int))))]) [0, 1, 2, 3] rfl ?_
    refine nx_then ?_
    refine t_seq ?_
    refine t_cond_te 3 rfl rfl ?_
    refine t_skip ?_
    refine nx_then ?_
    refine t_seq ?_
    refine t_block ?_
    refine t_seq ?_
    refine t_region (F := ⟨_, _, _, _⟩) [.rows 5 3 (fodd3_EEB_c p0 q0 p1 q1 p2 q2), .slot 6 (VP.int .i64 ((3 : Nat) : Int)), .slot 7 (VP.int .i64 ((0 : Nat) : Int)), .slot 8 (VP.bool (decide (((0 : Nat) : Int) < ((3 : Nat) : Int))))] [] [(0, .rp 9 5 0), (1, .slot 10 (VP.agg [Bz p0, Dz p0, Bz q0, Dz q0])), (2, .own 4 26 4), (3, .box 4 26 [Bz p0, Dz p0, Bz q0, Dz q0])] [] [0, 1, 2, 3] [] rfl rfl follow rfl ⟨
      .inl ⟨wants_plain rfl, does_indexRows (m := 0) (sz := 4) _ _ rfl Try.underlying122 (fun w => run_sizeAgg ty_agg_api_Frac w) rfl rfl rfl rfl rfl rfl (by decide) rfl (av_fs 0 rfl) (ar_tmp (av_fs 2 rfl))⟩,
      .inl ⟨wants_plain rfl, does_loadRows _ rfl ty_agg_api_Frac rfl rfl rfl rfl rfl rfl rfl (av_rs 0 rfl rfl) (av_fs 0 rfl)⟩,
      .inl ⟨wants_plain rfl, does_allocOwn [Bz 0, Dz 0, Bz 0, Dz 0] ty_zero_api_Frac rfl rfl rfl rfl rfl z_frac rfl⟩,
      .inl ⟨wants_plain rfl, does_storeNew 4 _ _ ty_agg_api_Frac rfl rfl rfl rfl rfl (pt_own (av_rs 2 rfl rfl)) (av_rs 2 rfl rfl) (ar_tmp (av_rs 1 rfl rfl))⟩,
      trivial⟩ ?_
    refine nx_sub (fs' := [.rows 5 3 (fodd3_EEB_c p0 q0 p1 q1 p2 q2), .slot 6 (VP.int .i64 ((3 : Nat) : Int)), .slot 7 (VP.int .i64 ((0 : Nat) : Int)), .slot 8 (VP.bool (decide (((0 : Nat) : Int) < ((3 : Nat) : Int)))), .rp 9 5 0, .slot 10 (VP.agg [Bz p0, Dz p0, Bz q0, Dz q0]), .box 4 26 [Bz p0, Dz p0, Bz q0, Dz q0]]) [0, 1, 2, 3, 4, 5, 7] rfl ?_
    refine nx_then ?_
    refine t_seq ?_
    refine t_region (F := ⟨_, _, _, _⟩) [.rows 5 3 (fodd3_EEB_c p0 q0 p1 q1 p2 q2), .slot 6 (VP.int .i64 ((3 : Nat) : Int)), .slot 7 (VP.int .i64 ((0 : Nat) : Int)), .slot 8 (VP.bool (decide (((0 : Nat) : Int) < ((3 : Nat) : Int)))), .rp 9 5 0, .slot 10 (VP.agg [Bz p0, Dz p0, Bz q0, Dz q0]), .box 4 26 [Bz p0, Dz p0, Bz q0, Dz q0]] [] [(0, .fp 11 4 0), (1, .slot 12 (INT p0)), (2, .fp 13 4 2), (3, .slot 14 (INT q0)), (4, .arr 15 24 2 [Bz p0, Dz p0, Bz q0, Dz q0]), (5, .slot 16 (VP.bool false)), (6, .slot 17 (VP.bool false)), (7, .fp 18 4 0), (8, .fp 19 4 1), (9, .slot 20 (Dz p0)), (10, .slot 21 (VP.int .i64 (((dg BB p0.natAbs).length : Nat) : Int))), (11, .slot 22 (VP.bool (decide ((((dg BB p0.natAbs).length : Nat) : Int) > 5)))), (12, .slot 23 (VP.bool (decide ((((dg BB p0.natAbs).length : Nat) : Int) > 5)))), (13, .slot 24 (VP.bool (decide ((((dg BB p0.natAbs).length : Nat) : Int) > 5)))), (14, .fp 25 4 2), (15, .fp 26 4 3), (16, .slot 27 (Dz q0)), (17, .slot 28 (VP.int .i64 (((dg BB q0.natAbs).length : Nat) : Int))), (18, .slot 29 (VP.bool (decide ((((dg BB q0.natAbs).length : Nat) : Int) > 5)))), (19, .slot 30 (VP.bool (decide ((((dg BB q0.natAbs).length : Nat) : Int) > 5)))), (20, .slot 31 (VP.bool (decide ((((dg BB q0.natAbs).length : Nat) : Int) > 5)))), (21, .slot 32 (VP.agg [Bz p0, Dz p0, Bz q0, Dz q0])), (22, .slot 33 (VP.bool (rightF p0 q0))), (23, .slot 34 (VP.bool false)), (24, .slot 35 (VP.bool false))] [] [0, 1, 2, 3, 4, 5, 6] [] rfl rfl follow rfl ⟨
      .inl ⟨wants_plain rfl, does_field _ _ _ 0 ty_f0_api_Frac rfl rfl rfl rfl rfl rfl rfl (pt_box (av_fs 6 rfl))⟩,
      .inl ⟨wants_plain rfl, does_loadAgg _ ty_agg_api_Int rfl rfl rfl rfl rfl rfl (pt_fp (av_rs 0 rfl rfl)) (av_fs 6 rfl)⟩,
      .inl ⟨wants_plain rfl, does_field _ _ _ 2 ty_f1_api_Frac rfl rfl rfl rfl rfl rfl rfl (pt_box (av_fs 6 rfl))⟩,
      .inl ⟨wants_plain rfl, does_loadAgg _ ty_agg_api_Int rfl rfl rfl rfl rfl rfl (pt_fp (av_rs 2 rfl rfl)) (av_fs 6 rfl)⟩,
      .inl ⟨wants_plain rfl, does_buildSlice (sz := 2) [Bz 0, Dz 0, Bz 0, Dz 0] ty_zero_api_Int (by kernel_rfl) (fun w => run_sizeAgg ty_agg_api_Int w) rfl rfl rfl rfl rfl rfl (by kernel_rfl) (fun w => by exact z_int_2 w) (.cons 0 [Bz p0, Dz p0] rfl rfl (ar_cells_agg (ar_tmp (av_rs 1 rfl rfl))) (.cons 2 [Bz q0, Dz q0] rfl rfl (ar_cells_agg (ar_tmp (av_rs 3 rfl rfl))) (.nil _)))⟩,
      .inl ⟨wants_plain rfl, does_call (s_even2 p0 q0 (lle hp0 (by decide)) (lle hq0 (by decide))) rfl hb_collator_collatorlaw01_Odd rfl rfl rfl rfl ⟨(ar_arr (av_rs 4 rfl rfl)), trivial⟩⟩,
      .inl ⟨wants_plain rfl, does_move _ (.inl rfl) rfl rfl rfl rfl (ar_tmp (av_rs 5 rfl rfl))⟩,
      .inl ⟨wants_guard false rfl rfl rfl (av_rs 6 rfl rfl), does_field _ _ _ 0 ty_f0_api_Frac rfl rfl rfl rfl rfl rfl rfl (pt_box (av_fs 6 rfl))⟩,
      .inl ⟨wants_guard false rfl rfl rfl (av_rs 6 rfl rfl), does_field _ _ _ 1 ty_f1_api_Int rfl rfl rfl rfl rfl rfl rfl (pt_fp (av_rs 7 rfl rfl))⟩,
      .inl ⟨wants_guard false rfl rfl rfl (av_rs 6 rfl rfl), does_loadOne _ ty_one___uint32 rfl rfl rfl rfl rfl rfl (pt_fp (av_rs 8 rfl rfl)) (av_fs 6 rfl)⟩,
      .inl ⟨wants_guard false rfl rfl rfl (av_rs 6 rfl rfl), does_len _ _ (by kernel_rfl) rfl rfl rfl rfl rfl (ar_tmp (av_rs 9 rfl rfl))⟩,
      .inl ⟨wants_guard false rfl rfl rfl (av_rs 6 rfl rfl), does_cmp (m := (((dg BB p0.natAbs).length : Nat) : Int)) (n := 5) _ _ _ _ _ rfl rfl rfl rfl rfl rfl .i64 (ar_tmp (av_rs 10 rfl rfl)) (ar_const (fun _ => rfl))⟩,
      .inl ⟨wants_plain rfl, does_pick false _ _ _ rfl rfl rfl rfl rfl (ar_tmp (av_rs 6 rfl rfl)) (ar_tmp (av_rs 11 rfl rfl))⟩,
      .inl ⟨wants_plain rfl, does_move _ (.inl rfl) rfl rfl rfl rfl (ar_tmp (av_rs 12 rfl rfl))⟩,
      .inl ⟨wants_guard false rfl rfl rfl (av_bool (gt5_no hp0) (av_rs 13 rfl rfl)), does_field _ _ _ 2 ty_f1_api_Frac rfl rfl rfl rfl rfl rfl rfl (pt_box (av_fs 6 rfl))⟩,
      .inl ⟨wants_guard false rfl rfl rfl (av_bool (gt5_no hp0) (av_rs 13 rfl rfl)), does_field _ _ _ 1 ty_f1_api_Int rfl rfl rfl rfl rfl rfl rfl (pt_fp (av_rs 14 rfl rfl))⟩,
      .inl ⟨wants_guard false rfl rfl rfl (av_bool (gt5_no hp0) (av_rs 13 rfl rfl)), does_loadOne _ ty_one___uint32 rfl rfl rfl rfl rfl rfl (pt_fp (av_rs 15 rfl rfl)) (av_fs 6 rfl)⟩,
      .inl ⟨wants_guard false rfl rfl rfl (av_bool (gt5_no hp0) (av_rs 13 rfl rfl)), does_len _ _ (by kernel_rfl) rfl rfl rfl rfl rfl (ar_tmp (av_rs 16 rfl rfl))⟩,
      .inl ⟨wants_guard false rfl rfl rfl (av_bool (gt5_no hp0) (av_rs 13 rfl rfl)), does_cmp (m := (((dg BB q0.natAbs).length : Nat) : Int)) (n := 5) _ _ _ _ _ rfl rfl rfl rfl rfl rfl .i64 (ar_tmp (av_rs 17 rfl rfl)) (ar_const (fun _ => rfl))⟩,
      .inl ⟨wants_plain rfl, does_pick false _ _ _ rfl rfl rfl rfl rfl (ar_tmp (av_bool (gt5_no hp0) (av_rs 13 rfl rfl))) (ar_tmp (av_rs 18 rfl rfl))⟩,
      .inl ⟨wants_plain rfl, does_move _ (.inl rfl) rfl rfl rfl rfl (ar_tmp (av_rs 19 rfl rfl))⟩,
      .inl ⟨wants_guard false rfl rfl rfl (av_bool (gt5_no hq0) (av_rs 20 rfl rfl)), does_loadAgg _ ty_agg_api_Frac rfl rfl rfl rfl rfl rfl (pt_box (av_fs 6 rfl)) (av_fs 6 rfl)⟩,
      .inl ⟨wants_guard false rfl rfl rfl (av_bool (gt5_no hq0) (av_rs 20 rfl rfl)), does_call (g_right p0 q0 (lle hp0 (by decide)) (lle hq0 (by decide))) rfl hb_collator_collatorref02_Right rfl rfl rfl rfl ⟨(ar_tmp (av_rs 21 rfl rfl)), trivial⟩⟩,
      .inl ⟨wants_guard false rfl rfl rfl (av_bool (gt5_no hq0) (av_rs 20 rfl rfl)), does_not true _ _ rfl rfl rfl rfl rfl (ar_tmp (av_bool hb0 (av_rs 22 rfl rfl)))⟩,
      .inl ⟨wants_plain rfl, does_pick false _ _ _ rfl rfl rfl rfl rfl (ar_tmp (av_bool (gt5_no hq0) (av_rs 20 rfl rfl))) (ar_tmp (av_rs 23 rfl rfl))⟩,
      trivial⟩ ?_
    refine nx_sub (fs' := [.rows 5 3 (fodd3_EEB_c p0 q0 p1 q1 p2 q2), .slot 6 (VP.int .i64 ((3 : Nat) : Int)), .slot 7 (VP.int .i64 ((0 : Nat) : Int)), .slot 8 (VP.bool (decide (((0 : Nat) : Int) < ((3 : Nat) : Int)))), .rp 9 5 0, .slot 10 (VP.agg [Bz p0, Dz p0, Bz q0, Dz q0]), .box 4 26 [Bz p0, Dz p0, Bz q0, Dz q0], .fp 11 4 0, .slot 12 (INT p0), .fp 13 4 2, .slot 14 (INT q0), .arr 15 24 2 [Bz p0, Dz p0, Bz q0, Dz q0], .slot 16 (VP.bool false), .slot 17 (VP.bool false), .fp 18 4 0, .fp 19 4 1, .slot 20 (Dz p0), .slot 21 (VP.int .i64 (((dg BB p0.natAbs).length : Nat) : Int)), .slot 22 (VP.bool (decide ((((dg BB p0.natAbs).length : Nat) : Int) > 5))), .slot 23 (VP.bool (decide ((((dg BB p0.natAbs).length : Nat) : Int) > 5))), .slot 24 (VP.bool (decide ((((dg BB p0.natAbs).length : Nat) : Int) > 5))), .fp 25 4 2, .fp 26 4 3, .slot 27 (Dz q0), .slot 28 (VP.int .i64 (((dg BB q0.natAbs).length : Nat) : Int)), .slot 29 (VP.bool (decide ((((dg BB q0.natAbs).length : Nat) : Int) > 5))), .slot 30 (VP.bool (decide ((((dg BB q0.natAbs).length : Nat) : Int) > 5))), .slot 31 (VP.bool (decide ((((dg BB q0.natAbs).length : Nat) : Int) > 5))), .slot 32 (VP.agg [Bz p0, Dz p0, Bz q0, Dz q0]), .slot 33 (VP.bool (rightF p0 q0)), .slot 34 (VP.bool false), .slot 35 (VP.bool false)]) [0, 1, 2, 3, 4, 5, 6, 7, 8, 9, 10, 11, 12, 13, 14, 15, 16, 17, 18, 19, 20, 21, 22, 23, 24, 25, 26, 27, 28, 29, 30, 31] rfl ?_
    refine nx_then ?_
    refine t_cond_f 31 rfl ?_
    refine t_skip ?_
    refine nx_block ?_
    refine nx_then ?_
    refine t_region (F := ⟨_, _, _, _⟩) [.rows 5 3 (fodd3_EEB_c p0 q0 p1 q1 p2 q2), .slot 6 (VP.int .i64 ((3 : Nat) : Int)), .slot 8 (VP.bool (decide (((0 : Nat) : Int) < ((3 : Nat) : Int)))), .rp 9 5 0, .slot 10 (VP.agg [Bz p0, Dz p0, Bz q0, Dz q0]), .box 4 26 [Bz p0, Dz p0, Bz q0, Dz q0], .fp 11 4 0, .slot 12 (INT p0), .fp 13 4 2, .slot 14 (INT q0), .arr 15 24 2 [Bz p0, Dz p0, Bz q0, Dz q0], .slot 16 (VP.bool false), .slot 17 (VP.bool false), .fp 18 4 0, .fp 19 4 1, .slot 20 (Dz p0), .slot 21 (VP.int .i64 (((dg BB p0.natAbs).length : Nat) : Int)), .slot 22 (VP.bool (decide ((((dg BB p0.natAbs).length : Nat) : Int) > 5))), .slot 23 (VP.bool (decide ((((dg BB p0.natAbs).length : Nat) : Int) > 5))), .slot 24 (VP.bool (decide ((((dg BB p0.natAbs).length : Nat) : Int) > 5))), .fp 25 4 2, .fp 26 4 3, .slot 27 (Dz q0), .slot 28 (VP.int .i64 (((dg BB q0.natAbs).length : Nat) : Int)), .slot 29 (VP.bool (decide ((((dg BB q0.natAbs).length : Nat) : Int) > 5))), .slot 30 (VP.bool (decide ((((dg BB q0.natAbs).length : Nat) : Int) > 5))), .slot 31 (VP.bool (decide ((((dg BB q0.natAbs).length : Nat) : Int) > 5))), .slot 32 (VP.agg [Bz p0, Dz p0, Bz q0, Dz q0]), .slot 33 (VP.bool (rightF p0 q0)), .slot 34 (VP.bool false), .slot 35 (VP.bool false)] [(1, .slot 7 (VP.int .i64 ((0 : Nat) : Int)))] [(0, .slot 36 (VP.int .i64 ((1 : Nat) : Int))), (1, .slot 7 (VP.int .i64 ((1 : Nat) : Int)))] [] [0, 1, 3, 4, 5, 6, 7, 8, 9, 10, 11, 12, 13, 14, 15, 16, 17, 18, 19, 20, 21, 22, 23, 24, 25, 26, 27, 28, 29, 30, 31] [2] rfl rfl follow rfl ⟨
      .inl ⟨wants_plain rfl, does_addInt (m := ((0 : Nat) : Int)) (n := 1) _ _ _ _ rfl rfl rfl rfl rfl (by omega) (ar_tmp (av_os 0 rfl rfl)) (ar_const (fun _ => rfl))⟩,
      .inl ⟨wants_plain rfl, does_move _ (.inl rfl) rfl rfl rfl rfl (ar_tmp (av_rs 0 rfl rfl))⟩,
      trivial⟩ ?_
    refine nx_sub (fs' := [.rows 5 3 (fodd3_EEB_c p0 q0 p1 q1 p2 q2), .slot 6 (VP.int .i64 ((3 : Nat) : Int)), .slot 8 (VP.bool (decide (((0 : Nat) : Int) < ((3 : Nat) : Int)))), .rp 9 5 0, .slot 10 (VP.agg [Bz p0, Dz p0, Bz q0, Dz q0]), .box 4 26 [Bz p0, Dz p0, Bz q0, Dz q0], .fp 11 4 0, .slot 12 (INT p0), .fp 13 4 2, .slot 14 (INT q0), .arr 15 24 2 [Bz p0, Dz p0, Bz q0, Dz q0], .slot 16 (VP.bool false), .slot 17 (VP.bool false), .fp 18 4 0, .fp 19 4 1, .slot 20 (Dz p0), .slot 21 (VP.int .i64 (((dg BB p0.natAbs).length : Nat) : Int)), .slot 22 (VP.bool (decide ((((dg BB p0.natAbs).length : Nat) : Int) > 5))), .slot 23 (VP.bool (decide ((((dg BB p0.natAbs).length : Nat) : Int) > 5))), .slot 24 (VP.bool (decide ((((dg BB p0.natAbs).length : Nat) : Int) > 5))), .fp 25 4 2, .fp 26 4 3, .slot 27 (Dz q0), .slot 28 (VP.int .i64 (((dg BB q0.natAbs).length : Nat) : Int)), .slot 29 (VP.bool (decide ((((dg BB q0.natAbs).length : Nat) : Int) > 5))), .slot 30 (VP.bool (decide ((((dg BB q0.natAbs).length : Nat) : Int) > 5))), .slot 31 (VP.bool (decide ((((dg BB q0.natAbs).length : Nat) : Int) > 5))), .slot 32 (VP.agg [Bz p0, Dz p0, Bz q0, Dz q0]), .slot 33 (VP.bool (rightF p0 q0)), .slot 34 (VP.bool false), .slot 35 (VP.bool false), .slot 36 (VP.int .i64 ((1 : Nat) : Int)), .slot 7 (VP.int .i64 ((1 : Nat) : Int))]) [0, 1, 2, 3, 4, 5, 6, 7, 8, 9, 10, 11, 12, 13, 14, 15, 16, 17, 18, 19, 20, 21, 22, 23, 24, 25, 26, 27, 28, 29, 30, 31, 32] rfl ?_
    exact nx_round ⟨1, by decide⟩ (by show 3 - 1 < 3 - 0; decide) [0, 1, 32] rfl
  case inr.inl =>
    refine t_seq ?_
    refine t_region (F := ⟨_, _, _, _⟩) [.rows 5 3 (fodd3_EEB_c p0 q0 p1 q1 p2 q2), .slot 6 (VP.int .i64 ((3 : Nat) : Int)), .slot 7 (VP.int .i64 ((1 : Nat) : Int))] [] [(0, .slot 8 (VP.bool (decide (((1 : Nat) : Int) < ((3 : Nat) : Int)))))] [] [0, 1, 2] [] rfl rfl follow rfl ⟨
      .inl ⟨wants_plain rfl, does_cmp (m := ((1 : Nat) : Int)) (n := ((3 : Nat) : Int)) _ _ _ _ _ rfl rfl rfl rfl rfl rfl .i64 (ar_tmp (av_fs 2 rfl)) (ar_tmp (av_fs 1 rfl))⟩,
      trivial⟩ ?_
    refine nx_sub (fs' := [.rows 5 3 (fodd3_EEB_c p0 q0 p1 q1 p2 q2), .slot 6 (VP.int .i64 ((3 : Nat) : Int)), .slot 7 (VP.int .i64 ((1 : Nat) : Int)), .slot 8 (VP.bool (decide (((1 : Nat) : Int) < ((3 : Nat) : Int))))]) [0, 1, 2, 3] rfl ?_
    refine nx_then ?_
    refine t_seq ?_
    refine t_cond_te 3 rfl rfl ?_
    refine t_skip ?_
    refine nx_then ?_
    refine t_seq ?_
    refine t_block ?_
    refine t_seq ?_
    refine t_region (F := ⟨_, _, _, _⟩) [.rows 5 3 (fodd3_EEB_c p0 q0 p1 q1 p2 q2), .slot 6 (VP.int .i64 ((3 : Nat) : Int)), .slot 7 (VP.int .i64 ((1 : Nat) : Int)), .slot 8 (VP.bool (decide (((1 : Nat) : Int) < ((3 : Nat) : Int))))] [] [(0, .rp 9 5 4), (1, .slot 10 (VP.agg [Bz p1, Dz p1, Bz q1, Dz q1])), (2, .own 4 26 4), (3, .box 4 26 [Bz p1, Dz p1, Bz q1, Dz q1])] [] [0, 1, 2, 3] [] rfl rfl follow rfl ⟨
      .inl ⟨wants_plain rfl, does_indexRows (m := 1) (sz := 4) _ _ rfl Try.underlying122 (fun w => run_sizeAgg ty_agg_api_Frac w) rfl rfl rfl rfl rfl rfl (by decide) rfl (av_fs 0 rfl) (ar_tmp (av_fs 2 rfl))⟩,
      .inl ⟨wants_plain rfl, does_loadRows _ rfl ty_agg_api_Frac rfl rfl rfl rfl rfl rfl rfl (av_rs 0 rfl rfl) (av_fs 0 rfl)⟩,
      .inl ⟨wants_plain rfl, does_allocOwn [Bz 0, Dz 0, Bz 0, Dz 0] ty_zero_api_Frac rfl rfl rfl rfl rfl z_frac rfl⟩,
      .inl ⟨wants_plain rfl, does_storeNew 4 _ _ ty_agg_api_Frac rfl rfl rfl rfl rfl (pt_own (av_rs 2 rfl rfl)) (av_rs 2 rfl rfl) (ar_tmp (av_rs 1 rfl rfl))⟩,
      trivial⟩ ?_
    refine nx_sub (fs' := [.rows 5 3 (fodd3_EEB_c p0 q0 p1 q1 p2 q2), .slot 6 (VP.int .i64 ((3 : Nat) : Int)), .slot 7 (VP.int .i64 ((1 : Nat) : Int)), .slot 8 (VP.bool (decide (((1 : Nat) : Int) < ((3 : Nat) : Int)))), .rp 9 5 4, .slot 10 (VP.agg [Bz p1, Dz p1, Bz q1, Dz q1]), .box 4 26 [Bz p1, Dz p1, Bz q1, Dz q1]]) [0, 1, 2, 3, 4, 5, 7] rfl ?_
    refine nx_then ?_
    refine t_seq ?_
    refine t_region (F := ⟨_, _, _, _⟩) [.rows 5 3 (fodd3_EEB_c p0 q0 p1 q1 p2 q2), .slot 6 (VP.int .i64 ((3 : Nat) : Int)), .slot 7 (VP.int .i64 ((1 : Nat) : Int)), .slot 8 (VP.bool (decide (((1 : Nat) : Int) < ((3 : Nat) : Int)))), .rp 9 5 4, .slot 10 (VP.agg [Bz p1, Dz p1, Bz q1, Dz q1]), .box 4 26 [Bz p1, Dz p1, Bz q1, Dz q1]] [] [(0, .fp 11 4 0), (1, .slot 12 (INT p1)), (2, .fp 13 4 2), (3, .slot 14 (INT q1)), (4, .arr 15 24 2 [Bz p1, Dz p1, Bz q1, Dz q1]), (5, .slot 16 (VP.bool false)), (6, .slot 17 (VP.bool false)), (7, .fp 18 4 0), (8, .fp 19 4 1), (9, .slot 20 (Dz p1)), (10, .slot 21 (VP.int .i64 (((dg BB p1.natAbs).length : Nat) : Int))), (11, .slot 22 (VP.bool (decide ((((dg BB p1.natAbs).length : Nat) : Int) > 5)))), (12, .slot 23 (VP.bool (decide ((((dg BB p1.natAbs).length : Nat) : Int) > 5)))), (13, .slot 24 (VP.bool (decide ((((dg BB p1.natAbs).length : Nat) : Int) > 5)))), (14, .fp 25 4 2), (15, .fp 26 4 3), (16, .slot 27 (Dz q1)), (17, .slot 28 (VP.int .i64 (((dg BB q1.natAbs).length : Nat) : Int))), (18, .slot 29 (VP.bool (decide ((((dg BB q1.natAbs).length : Nat) : Int) > 5)))), (19, .slot 30 (VP.bool (decide ((((dg BB q1.natAbs).length : Nat) : Int) > 5)))), (20, .slot 31 (VP.bool (decide ((((dg BB q1.natAbs).length : Nat) : Int) > 5)))), (21, .slot 32 (VP.agg [Bz p1, Dz p1, Bz q1, Dz q1])), (22, .slot 33 (VP.bool (rightF p1 q1))), (23, .slot 34 (VP.bool false)), (24, .slot 35 (VP.bool false))] [] [0, 1, 2, 3, 4, 5, 6] [] rfl rfl follow rfl ⟨
      .inl ⟨wants_plain rfl, does_field _ _ _ 0 ty_f0_api_Frac rfl rfl rfl rfl rfl rfl rfl (pt_box (av_fs 6 rfl))⟩,
      .inl ⟨wants_plain rfl, does_loadAgg _ ty_agg_api_Int rfl rfl rfl rfl rfl rfl (pt_fp (av_rs 0 rfl rfl)) (av_fs 6 rfl)⟩,
      .inl ⟨wants_plain rfl, does_field _ _ _ 2 ty_f1_api_Frac rfl rfl rfl rfl rfl rfl rfl (pt_box (av_fs 6 rfl))⟩,
      .inl ⟨wants_plain rfl, does_loadAgg _ ty_agg_api_Int rfl rfl rfl rfl rfl rfl (pt_fp (av_rs 2 rfl rfl)) (av_fs 6 rfl)⟩,
      .inl ⟨wants_plain rfl, does_buildSlice (sz := 2) [Bz 0, Dz 0, Bz 0, Dz 0] ty_zero_api_Int (by kernel_rfl) (fun w => run_sizeAgg ty_agg_api_Int w) rfl rfl rfl rfl rfl rfl (by kernel_rfl) (fun w => by exact z_int_2 w) (.cons 0 [Bz p1, Dz p1] rfl rfl (ar_cells_agg (ar_tmp (av_rs 1 rfl rfl))) (.cons 2 [Bz q1, Dz q1] rfl rfl (ar_cells_agg (ar_tmp (av_rs 3 rfl rfl))) (.nil _)))⟩,
      .inl ⟨wants_plain rfl, does_call (s_even2 p1 q1 (lle hp1 (by decide)) (lle hq1 (by decide))) rfl hb_collator_collatorlaw01_Odd rfl rfl rfl rfl ⟨(ar_arr (av_rs 4 rfl rfl)), trivial⟩⟩,
      .inl ⟨wants_plain rfl, does_move _ (.inl rfl) rfl rfl rfl rfl (ar_tmp (av_rs 5 rfl rfl))⟩,
      .inl ⟨wants_guard false rfl rfl rfl (av_rs 6 rfl rfl), does_field _ _ _ 0 ty_f0_api_Frac rfl rfl rfl rfl rfl rfl rfl (pt_box (av_fs 6 rfl))⟩,
      .inl ⟨wants_guard false rfl rfl rfl (av_rs 6 rfl rfl), does_field _ _ _ 1 ty_f1_api_Int rfl rfl rfl rfl rfl rfl rfl (pt_fp (av_rs 7 rfl rfl))⟩,
      .inl ⟨wants_guard false rfl rfl rfl (av_rs 6 rfl rfl), does_loadOne _ ty_one___uint32 rfl rfl rfl rfl rfl rfl (pt_fp (av_rs 8 rfl rfl)) (av_fs 6 rfl)⟩,
      .inl ⟨wants_guard false rfl rfl rfl (av_rs 6 rfl rfl), does_len _ _ (by kernel_rfl) rfl rfl rfl rfl rfl (ar_tmp (av_rs 9 rfl rfl))⟩,
      .inl ⟨wants_guard false rfl rfl rfl (av_rs 6 rfl rfl), does_cmp (m := (((dg BB p1.natAbs).length : Nat) : Int)) (n := 5) _ _ _ _ _ rfl rfl rfl rfl rfl rfl .i64 (ar_tmp (av_rs 10 rfl rfl)) (ar_const (fun _ => rfl))⟩,
      .inl ⟨wants_plain rfl, does_pick false _ _ _ rfl rfl rfl rfl rfl (ar_tmp (av_rs 6 rfl rfl)) (ar_tmp (av_rs 11 rfl rfl))⟩,
      .inl ⟨wants_plain rfl, does_move _ (.inl rfl) rfl rfl rfl rfl (ar_tmp (av_rs 12 rfl rfl))⟩,
      .inl ⟨wants_guard false rfl rfl rfl (av_bool (gt5_no hp1) (av_rs 13 rfl rfl)), does_field _ _ _ 2 ty_f1_api_Frac rfl rfl rfl rfl rfl rfl rfl (pt_box (av_fs 6 rfl))⟩,
      .inl ⟨wants_guard false rfl rfl rfl (av_bool (gt5_no hp1) (av_rs 13 rfl rfl)), does_field _ _ _ 1 ty_f1_api_Int rfl rfl rfl rfl rfl rfl rfl (pt_fp (av_rs 14 rfl rfl))⟩,
      .inl ⟨wants_guard false rfl rfl rfl (av_bool (gt5_no hp1) (av_rs 13 rfl rfl)), does_loadOne _ ty_one___uint32 rfl rfl rfl rfl rfl rfl (pt_fp (av_rs 15 rfl rfl)) (av_fs 6 rfl)⟩,
      .inl ⟨wants_guard false rfl rfl rfl (av_bool (gt5_no hp1) (av_rs 13 rfl rfl)), does_len _ _ (by kernel_rfl) rfl rfl rfl rfl rfl (ar_tmp (av_rs 16 rfl rfl))⟩,
      .inl ⟨wants_guard false rfl rfl rfl (av_bool (gt5_no hp1) (av_rs 13 rfl rfl)), does_cmp (m := (((dg BB q1.natAbs).length : Nat) : Int)) (n := 5) _ _ _ _ _ rfl rfl rfl rfl rfl rfl .i64 (ar_tmp (av_rs 17 rfl rfl)) (ar_const (fun _ => rfl))⟩,
      .inl ⟨wants_plain rfl, does_pick false _ _ _ rfl rfl rfl rfl rfl (ar_tmp (av_bool (gt5_no hp1) (av_rs 13 rfl rfl))) (ar_tmp (av_rs 18 rfl rfl))⟩,
      .inl ⟨wants_plain rfl, does_move _ (.inl rfl) rfl rfl rfl rfl (ar_tmp (av_rs 19 rfl rfl))⟩,
      .inl ⟨wants_guard false rfl rfl rfl (av_bool (gt5_no hq1) (av_rs 20 rfl rfl)), does_loadAgg _ ty_agg_api_Frac rfl rfl rfl rfl rfl rfl (pt_box (av_fs 6 rfl)) (av_fs 6 rfl)⟩,
      .inl ⟨wants_guard false rfl rfl rfl (av_bool (gt5_no hq1) (av_rs 20 rfl rfl)), does_call (g_right p1 q1 (lle hp1 (by decide)) (lle hq1 (by decide))) rfl hb_collator_collatorref02_Right rfl rfl rfl rfl ⟨(ar_tmp (av_rs 21 rfl rfl)), trivial⟩⟩,
      .inl ⟨wants_guard false rfl rfl rfl (av_bool (gt5_no hq1) (av_rs 20 rfl rfl)), does_not true _ _ rfl rfl rfl rfl rfl (ar_tmp (av_bool hb1 (av_rs 22 rfl rfl)))⟩,
      .inl ⟨wants_plain rfl, does_pick false _ _ _ rfl rfl rfl rfl rfl (ar_tmp (av_bool (gt5_no hq1) (av_rs 20 rfl rfl))) (ar_tmp (av_rs 23 rfl rfl))⟩,
      trivial⟩ ?_
    refine nx_sub (fs' := [.rows 5 3 (fodd3_EEB_c p0 q0 p1 q1 p2 q2), .slot 6 (VP.int .i64 ((3 : Nat) : Int)), .slot 7 (VP.int .i64 ((1 : Nat) : Int)), .slot 8 (VP.bool (decide (((1 : Nat) : Int) < ((3 : Nat) : Int)))), .rp 9 5 4, .slot 10 (VP.agg [Bz p1, Dz p1, Bz q1, Dz q1]), .box 4 26 [Bz p1, Dz p1, Bz q1, Dz q1], .fp 11 4 0, .slot 12 (INT p1), .fp 13 4 2, .slot 14 (INT q1), .arr 15 24 2 [Bz p1, Dz p1, Bz q1, Dz q1], .slot 16 (VP.bool false), .slot 17 (VP.bool false), .fp 18 4 0, .fp 19 4 1, .slot 20 (Dz p1), .slot 21 (VP.int .i64 (((dg BB p1.natAbs).length : Nat) : Int)), .slot 22 (VP.bool (decide ((((dg BB p1.natAbs).length : Nat) : Int) > 5))), .slot 23 (VP.bool (decide ((((dg BB p1.natAbs).length : Nat) : Int) > 5))), .slot 24 (VP.bool (decide ((((dg BB p1.natAbs).length : Nat) : Int) > 5))), .fp 25 4 2, .fp 26 4 3, .slot 27 (Dz q1), .slot 28 (VP.int .i64 (((dg BB q1.natAbs).length : Nat) : Int)), .slot 29 (VP.bool (decide ((((dg BB q1.natAbs).length : Nat) : Int) > 5))), .slot 30 (VP.bool (decide ((((dg BB q1.natAbs).length : Nat) : Int) > 5))), .slot 31 (VP.bool (decide ((((dg BB q1.natAbs).length : Nat) : Int) > 5))), .slot 32 (VP.agg [Bz p1, Dz p1, Bz q1, Dz q1]), .slot 33 (VP.bool (rightF p1 q1)), .slot 34 (VP.bool false), .slot 35 (VP.bool false)]) [0, 1, 2, 3, 4, 5, 6, 7, 8, 9, 10, 11, 12, 13, 14, 15, 16, 17, 18, 19, 20, 21, 22, 23, 24, 25, 26, 27, 28, 29, 30, 31] rfl ?_
    refine nx_then ?_
    refine t_cond_f 31 rfl ?_
    refine t_skip ?_
    refine nx_block ?_
    refine nx_then ?_
    refine t_region (F := ⟨_, _, _, _⟩) [.rows 5 3 (fodd3_EEB_c p0 q0 p1 q1 p2 q2), .slot 6 (VP.int .i64 ((3 : Nat) : Int)), .slot 8 (VP.bool (decide (((1 : Nat) : Int) < ((3 : Nat) : Int)))), .rp 9 5 4, .slot 10 (VP.agg [Bz p1, Dz p1, Bz q1, Dz q1]), .box 4 26 [Bz p1, Dz p1, Bz q1, Dz q1], .fp 11 4 0, .slot 12 (INT p1), .fp 13 4 2, .slot 14 (INT q1), .arr 15 24 2 [Bz p1, Dz p1, Bz q1, Dz q1], .slot 16 (VP.bool false), .slot 17 (VP.bool false), .fp 18 4 0, .fp 19 4 1, .slot 20 (Dz p1), .slot 21 (VP.int .i64 (((dg BB p1.natAbs).length : Nat) : Int)), .slot 22 (VP.bool (decide ((((dg BB p1.natAbs).length : Nat) : Int) > 5))), .slot 23 (VP.bool (decide ((((dg BB p1.natAbs).length : Nat) : Int) > 5))), .slot 24 (VP.bool (decide ((((dg BB p1.natAbs).length : Nat) : Int) > 5))), .fp 25 4 2, .fp 26 4 3, .slot 27 (Dz q1), .slot 28 (VP.int .i64 (((dg BB q1.natAbs).length : Nat) : Int)), .slot 29 (VP.bool (decide ((((dg BB q1.natAbs).length : Nat) : Int) > 5))), .slot 30 (VP.bool (decide ((((dg BB q1.natAbs).length : Nat) : Int) > 5))), .slot 31 (VP.bool (decide ((((dg BB q1.natAbs).length : Nat) : Int) > 5))), .slot 32 (VP.agg [Bz p1, Dz p1, Bz q1, Dz q1]), .slot 33 (VP.bool (rightF p1 q1)), .slot 34 (VP.bool false), .slot 35 (VP.bool false)] [(1, .slot 7 (VP.int .i64 ((1 : Nat) : Int)))] [(0, .slot 36 (VP.int .i64 ((2 : Nat) : Int))), (1, .slot 7 (VP.int .i64 ((2 : Nat) : Int)))] [] [0, 1, 3, 4, 5, 6, 7, 8, 9, 10, 11, 12, 13, 14, 15, 16, 17, 18, 19, 20, 21, 22, 23, 24, 25, 26, 27, 28, 29, 30, 31] [2] rfl rfl follow rfl ⟨
      .inl ⟨wants_plain rfl, does_addInt (m := ((1 : Nat) : Int)) (n := 1) _ _ _ _ rfl rfl rfl rfl rfl (by omega) (ar_tmp (av_os 0 rfl rfl)) (ar_const (fun _ => rfl))⟩,
      .inl ⟨wants_plain rfl, does_move _ (.inl rfl) rfl rfl rfl rfl (ar_tmp (av_rs 0 rfl rfl))⟩,
      trivial⟩ ?_
    refine nx_sub (fs' := [.rows 5 3 (fodd3_EEB_c p0 q0 p1 q1 p2 q2), .slot 6 (VP.int .i64 ((3 : Nat) : Int)), .slot 8 (VP.bool (decide (((1 : Nat) : Int) < ((3 : Nat) : Int)))), .rp 9 5 4, .slot 10 (VP.agg [Bz p1, Dz p1, Bz q1, Dz q1]), .box 4 26 [Bz p1, Dz p1, Bz q1, Dz q1], .fp 11 4 0, .slot 12 (INT p1), .fp 13 4 2, .slot 14 (INT q1), .arr 15 24 2 [Bz p1, Dz p1, Bz q1, Dz q1], .slot 16 (VP.bool false), .slot 17 (VP.bool false), .fp 18 4 0, .fp 19 4 1, .slot 20 (Dz p1), .slot 21 (VP.int .i64 (((dg BB p1.natAbs).length : Nat) : Int)), .slot 22 (VP.bool (decide ((((dg BB p1.natAbs).length : Nat) : Int) > 5))), .slot 23 (VP.bool (decide ((((dg BB p1.natAbs).length : Nat) : Int) > 5))), .slot 24 (VP.bool (decide ((((dg BB p1.natAbs).length : Nat) : Int) > 5))), .fp 25 4 2, .fp 26 4 3, .slot 27 (Dz q1), .slot 28 (VP.int .i64 (((dg BB q1.natAbs).length : Nat) : Int)), .slot 29 (VP.bool (decide ((((dg BB q1.natAbs).length : Nat) : Int) > 5))), .slot 30 (VP.bool (decide ((((dg BB q1.natAbs).length : Nat) : Int) > 5))), .slot 31 (VP.bool (decide ((((dg BB q1.natAbs).length : Nat) : Int) > 5))), .slot 32 (VP.agg [Bz p1, Dz p1, Bz q1, Dz q1]), .slot 33 (VP.bool (rightF p1 q1)), .slot 34 (VP.bool false), .slot 35 (VP.bool false), .slot 36 (VP.int .i64 ((2 : Nat) : Int)), .slot 7 (VP.int .i64 ((2 : Nat) : Int))]) [0, 1, 2, 3, 4, 5, 6, 7, 8, 9, 10, 11, 12, 13, 14, 15, 16, 17, 18, 19, 20, 21, 22, 23, 24, 25, 26, 27, 28, 29, 30, 31, 32] rfl ?_
    exact nx_round ⟨2, by decide⟩ (by show 3 - 2 < 3 - 1; decide) [0, 1, 32] rfl
  case inr.inr =>
    refine t_seq ?_
    refine t_region (F := ⟨_, _, _, _⟩) [.rows 5 3 (fodd3_EEB_c p0 q0 p1 q1 p2 q2), .slot 6 (VP.int .i64 ((3 : Nat) : Int)), .slot 7 (VP.int .i64 ((2 : Nat) : Int))] [] [(0, .slot 8 (VP.bool (decide (((2 : Nat) : Int) < ((3 : Nat) : Int)))))] [] [0, 1, 2] [] rfl rfl follow rfl ⟨
      .inl ⟨wants_plain rfl, does_cmp (m := ((2 : Nat) : Int)) (n := ((3 : Nat) : Int)) _ _ _ _ _ rfl rfl rfl rfl rfl rfl .i64 (ar_tmp (av_fs 2 rfl)) (ar_tmp (av_fs 1 rfl))⟩,
      trivial⟩ ?_
    refine nx_sub (fs' := [.rows 5 3 (fodd3_EEB_c p0 q0 p1 q1 p2 q2), .slot 6 (VP.int .i64 ((3 : Nat) : Int)), .slot 7 (VP.int .i64 ((2 : Nat) : Int)), .slot 8 (VP.bool (decide (((2 : Nat) : Int) < ((3 : Nat) : Int))))]) [0, 1, 2, 3] rfl ?_
    refine nx_then ?_
    refine t_seq ?_
    refine t_cond_te 3 rfl rfl ?_
    refine t_skip ?_
    refine nx_then ?_
    refine t_seq ?_
    refine t_block ?_
    refine t_seq ?_
    refine t_region (F := ⟨_, _, _, _⟩) [.rows 5 3 (fodd3_EEB_c p0 q0 p1 q1 p2 q2), .slot 6 (VP.int .i64 ((3 : Nat) : Int)), .slot 7 (VP.int .i64 ((2 : Nat) : Int)), .slot 8 (VP.bool (decide (((2 : Nat) : Int) < ((3 : Nat) : Int))))] [] [(0, .rp 9 5 8), (1, .slot 10 (VP.agg [Bz p2, Dz p2, Bz q2, Dz q2])), (2, .own 4 26 4), (3, .box 4 26 [Bz p2, Dz p2, Bz q2, Dz q2])] [] [0, 1, 2, 3] [] rfl rfl follow rfl ⟨
      .inl ⟨wants_plain rfl, does_indexRows (m := 2) (sz := 4) _ _ rfl Try.underlying122 (fun w => run_sizeAgg ty_agg_api_Frac w) rfl rfl rfl rfl rfl rfl (by decide) rfl (av_fs 0 rfl) (ar_tmp (av_fs 2 rfl))⟩,
      .inl ⟨wants_plain rfl, does_loadRows _ rfl ty_agg_api_Frac rfl rfl rfl rfl rfl rfl rfl (av_rs 0 rfl rfl) (av_fs 0 rfl)⟩,
      .inl ⟨wants_plain rfl, does_allocOwn [Bz 0, Dz 0, Bz 0, Dz 0] ty_zero_api_Frac rfl rfl rfl rfl rfl z_frac rfl⟩,
      .inl ⟨wants_plain rfl, does_storeNew 4 _ _ ty_agg_api_Frac rfl rfl rfl rfl rfl (pt_own (av_rs 2 rfl rfl)) (av_rs 2 rfl rfl) (ar_tmp (av_rs 1 rfl rfl))⟩,
      trivial⟩ ?_
    refine nx_sub (fs' := [.rows 5 3 (fodd3_EEB_c p0 q0 p1 q1 p2 q2), .slot 6 (VP.int .i64 ((3 : Nat) : Int)), .slot 7 (VP.int .i64 ((2 : Nat) : Int)), .slot 8 (VP.bool (decide (((2 : Nat) : Int) < ((3 : Nat) : Int)))), .rp 9 5 8, .slot 10 (VP.agg [Bz p2, Dz p2, Bz q2, Dz q2]), .box 4 26 [Bz p2, Dz p2, Bz q2, Dz q2]]) [0, 1, 2, 3, 4, 5, 7] rfl ?_
    refine nx_then ?_
    refine t_seq ?_
    refine t_region (F := ⟨_, _, _, _⟩) [.rows 5 3 (fodd3_EEB_c p0 q0 p1 q1 p2 q2), .slot 6 (VP.int .i64 ((3 : Nat) : Int)), .slot 7 (VP.int .i64 ((2 : Nat) : Int)), .slot 8 (VP.bool (decide (((2 : Nat) : Int) < ((3 : Nat) : Int)))), .rp 9 5 8, .slot 10 (VP.agg [Bz p2, Dz p2, Bz q2, Dz q2]), .box 4 26 [Bz p2, Dz p2, Bz q2, Dz q2]] [] [(0, .fp 11 4 0), (1, .slot 12 (INT p2)), (2, .fp 13 4 2), (3, .slot 14 (INT q2)), (4, .arr 15 24 2 [Bz p2, Dz p2, Bz q2, Dz q2]), (5, .slot 16 (VP.bool false)), (6, .slot 17 (VP.bool false)), (7, .fp 18 4 0), (8, .fp 19 4 1), (9, .slot 20 (Dz p2)), (10, .slot 21 (VP.int .i64 (((dg BB p2.natAbs).length : Nat) : Int))), (11, .slot 22 (VP.bool (decide ((((dg BB p2.natAbs).length : Nat) : Int) > 5)))), (12, .slot 23 (VP.bool (decide ((((dg BB p2.natAbs).length : Nat) : Int) > 5)))), (13, .slot 24 (VP.bool (decide ((((dg BB p2.natAbs).length : Nat) : Int) > 5)))), (14, .slot 25 (VP.undef)), (15, .slot 26 (VP.undef)), (16, .slot 27 (VP.undef)), (17, .slot 28 (VP.undef)), (18, .slot 29 (VP.undef)), (19, .slot 30 (VP.bool true)), (20, .slot 31 (VP.bool true)), (21, .slot 32 (VP.undef)), (22, .slot 33 (VP.undef)), (23, .slot 34 (VP.undef)), (24, .slot 35 (VP.bool true))] [] [0, 1, 2, 3, 4, 5, 6] [] rfl rfl follow rfl ⟨
      .inl ⟨wants_plain rfl, does_field _ _ _ 0 ty_f0_api_Frac rfl rfl rfl rfl rfl rfl rfl (pt_box (av_fs 6 rfl))⟩,
      .inl ⟨wants_plain rfl, does_loadAgg _ ty_agg_api_Int rfl rfl rfl rfl rfl rfl (pt_fp (av_rs 0 rfl rfl)) (av_fs 6 rfl)⟩,
      .inl ⟨wants_plain rfl, does_field _ _ _ 2 ty_f1_api_Frac rfl rfl rfl rfl rfl rfl rfl (pt_box (av_fs 6 rfl))⟩,
      .inl ⟨wants_plain rfl, does_loadAgg _ ty_agg_api_Int rfl rfl rfl rfl rfl rfl (pt_fp (av_rs 2 rfl rfl)) (av_fs 6 rfl)⟩,
      .inl ⟨wants_plain rfl, does_buildSlice (sz := 2) [Bz 0, Dz 0, Bz 0, Dz 0] ty_zero_api_Int (by kernel_rfl) (fun w => run_sizeAgg ty_agg_api_Int w) rfl rfl rfl rfl rfl rfl (by kernel_rfl) (fun w => by exact z_int_2 w) (.cons 0 [Bz p2, Dz p2] rfl rfl (ar_cells_agg (ar_tmp (av_rs 1 rfl rfl))) (.cons 2 [Bz q2, Dz q2] rfl rfl (ar_cells_agg (ar_tmp (av_rs 3 rfl rfl))) (.nil _)))⟩,
      .inl ⟨wants_plain rfl, does_call (s_even2 p2 q2 hp2 hq2) rfl hb_collator_collatorlaw01_Odd rfl rfl rfl rfl ⟨(ar_arr (av_rs 4 rfl rfl)), trivial⟩⟩,
      .inl ⟨wants_plain rfl, does_move _ (.inl rfl) rfl rfl rfl rfl (ar_tmp (av_rs 5 rfl rfl))⟩,
      .inl ⟨wants_guard false rfl rfl rfl (av_rs 6 rfl rfl), does_field _ _ _ 0 ty_f0_api_Frac rfl rfl rfl rfl rfl rfl rfl (pt_box (av_fs 6 rfl))⟩,
      .inl ⟨wants_guard false rfl rfl rfl (av_rs 6 rfl rfl), does_field _ _ _ 1 ty_f1_api_Int rfl rfl rfl rfl rfl rfl rfl (pt_fp (av_rs 7 rfl rfl))⟩,
      .inl ⟨wants_guard false rfl rfl rfl (av_rs 6 rfl rfl), does_loadOne _ ty_one___uint32 rfl rfl rfl rfl rfl rfl (pt_fp (av_rs 8 rfl rfl)) (av_fs 6 rfl)⟩,
      .inl ⟨wants_guard false rfl rfl rfl (av_rs 6 rfl rfl), does_len _ _ (by kernel_rfl) rfl rfl rfl rfl rfl (ar_tmp (av_rs 9 rfl rfl))⟩,
      .inl ⟨wants_guard false rfl rfl rfl (av_rs 6 rfl rfl), does_cmp (m := (((dg BB p2.natAbs).length : Nat) : Int)) (n := 5) _ _ _ _ _ rfl rfl rfl rfl rfl rfl .i64 (ar_tmp (av_rs 10 rfl rfl)) (ar_const (fun _ => rfl))⟩,
      .inl ⟨wants_plain rfl, does_pick false _ _ _ rfl rfl rfl rfl rfl (ar_tmp (av_rs 6 rfl rfl)) (ar_tmp (av_rs 11 rfl rfl))⟩,
      .inl ⟨wants_plain rfl, does_move _ (.inl rfl) rfl rfl rfl rfl (ar_tmp (av_rs 12 rfl rfl))⟩,
      .inr (skips_guardU true rfl rfl rfl (av_bool (gt5_yes hb2) (av_rs 13 rfl rfl)) rfl rfl rfl rfl),
      .inr (skips_guardU true rfl rfl rfl (av_bool (gt5_yes hb2) (av_rs 13 rfl rfl)) rfl rfl rfl rfl),
      .inr (skips_guardU true rfl rfl rfl (av_bool (gt5_yes hb2) (av_rs 13 rfl rfl)) rfl rfl rfl rfl),
      .inr (skips_guardU true rfl rfl rfl (av_bool (gt5_yes hb2) (av_rs 13 rfl rfl)) rfl rfl rfl rfl),
      .inr (skips_guardU true rfl rfl rfl (av_bool (gt5_yes hb2) (av_rs 13 rfl rfl)) rfl rfl rfl rfl),
      .inl ⟨wants_plain rfl, does_pick true _ _ _ rfl rfl rfl rfl rfl (ar_tmp (av_bool (gt5_yes hb2) (av_rs 13 rfl rfl))) (ar_const (fun _ => rfl))⟩,
      .inl ⟨wants_plain rfl, does_move _ (.inl rfl) rfl rfl rfl rfl (ar_tmp (av_rs 19 rfl rfl))⟩,
      .inr (skips_guardU true rfl rfl rfl (av_rs 20 rfl rfl) rfl rfl rfl rfl),
      .inr (skips_guardU true rfl rfl rfl (av_rs 20 rfl rfl) rfl rfl rfl rfl),
      .inr (skips_guardU true rfl rfl rfl (av_rs 20 rfl rfl) rfl rfl rfl rfl),
      .inl ⟨wants_plain rfl, does_pick true _ _ _ rfl rfl rfl rfl rfl (ar_tmp (av_rs 20 rfl rfl)) (ar_const (fun _ => rfl))⟩,
      trivial⟩ ?_
    refine nx_sub (fs' := [.rows 5 3 (fodd3_EEB_c p0 q0 p1 q1 p2 q2), .slot 6 (VP.int .i64 ((3 : Nat) : Int)), .slot 7 (VP.int .i64 ((2 : Nat) : Int)), .slot 8 (VP.bool (decide (((2 : Nat) : Int) < ((3 : Nat) : Int)))), .rp 9 5 8, .slot 10 (VP.agg [Bz p2, Dz p2, Bz q2, Dz q2]), .box 4 26 [Bz p2, Dz p2, Bz q2, Dz q2], .fp 11 4 0, .slot 12 (INT p2), .fp 13 4 2, .slot 14 (INT q2), .arr 15 24 2 [Bz p2, Dz p2, Bz q2, Dz q2], .slot 16 (VP.bool false), .slot 17 (VP.bool false), .fp 18 4 0, .fp 19 4 1, .slot 20 (Dz p2), .slot 21 (VP.int .i64 (((dg BB p2.natAbs).length : Nat) : Int)), .slot 22 (VP.bool (decide ((((dg BB p2.natAbs).length : Nat) : Int) > 5))), .slot 23 (VP.bool (decide ((((dg BB p2.natAbs).length : Nat) : Int) > 5))), .slot 24 (VP.bool (decide ((((dg BB p2.natAbs).length : Nat) : Int) > 5))), .slot 25 (VP.undef), .slot 26 (VP.undef), .slot 27 (VP.undef), .slot 28 (VP.undef), .slot 29 (VP.undef), .slot 30 (VP.bool true), .slot 31 (VP.bool true), .slot 32 (VP.undef), .slot 33 (VP.undef), .slot 34 (VP.undef), .slot 35 (VP.bool true)]) [0, 1, 2, 3, 4, 5, 6, 7, 8, 9, 10, 11, 12, 13, 14, 15, 16, 17, 18, 19, 20, 21, 22, 23, 24, 25, 26, 27, 28, 29, 30, 31] rfl ?_
    refine nx_then ?_
    refine t_cond_t 31 rfl ?_
    refine t_seq ?_
    refine t_region (F := ⟨_, _, _, _⟩) [.rows 5 3 (fodd3_EEB_c p0 q0 p1 q1 p2 q2), .slot 6 (VP.int .i64 ((3 : Nat) : Int)), .slot 7 (VP.int .i64 ((2 : Nat) : Int)), .slot 8 (VP.bool (decide (((2 : Nat) : Int) < ((3 : Nat) : Int)))), .rp 9 5 8, .slot 10 (VP.agg [Bz p2, Dz p2, Bz q2, Dz q2]), .box 4 26 [Bz p2, Dz p2, Bz q2, Dz q2], .fp 11 4 0, .slot 12 (INT p2), .fp 13 4 2, .slot 14 (INT q2), .arr 15 24 2 [Bz p2, Dz p2, Bz q2, Dz q2], .slot 16 (VP.bool false), .slot 17 (VP.bool false), .fp 18 4 0, .fp 19 4 1, .slot 20 (Dz p2), .slot 21 (VP.int .i64 (((dg BB p2.natAbs).length : Nat) : Int)), .slot 22 (VP.bool (decide ((((dg BB p2.natAbs).length : Nat) : Int) > 5))), .slot 23 (VP.bool (decide ((((dg BB p2.natAbs).length : Nat) : Int) > 5))), .slot 24 (VP.bool (decide ((((dg BB p2.natAbs).length : Nat) : Int) > 5))), .slot 25 (VP.undef), .slot 26 (VP.undef), .slot 27 (VP.undef), .slot 28 (VP.undef), .slot 29 (VP.undef), .slot 30 (VP.bool true), .slot 31 (VP.bool true), .slot 32 (VP.undef), .slot 33 (VP.undef), .slot 34 (VP.undef), .slot 35 (VP.bool true)] [] [(0, .slot 2 (VP.bool true))] [] [0, 1, 2, 3, 4, 5, 6, 7, 8, 9, 10, 11, 12, 13, 14, 15, 16, 17, 18, 19, 20, 21, 22, 23, 24, 25, 26, 27, 28, 29, 30, 31] [] rfl rfl follow rfl ⟨
      .inl ⟨wants_plain rfl, does_move _ (.inr rfl) rfl rfl rfl rfl (ar_const (fun _ => rfl))⟩,
      trivial⟩ ?_
    refine nx_sub (fs' := [.rows 5 3 (fodd3_EEB_c p0 q0 p1 q1 p2 q2), .slot 6 (VP.int .i64 ((3 : Nat) : Int)), .slot 7 (VP.int .i64 ((2 : Nat) : Int)), .slot 8 (VP.bool (decide (((2 : Nat) : Int) < ((3 : Nat) : Int)))), .rp 9 5 8, .slot 10 (VP.agg [Bz p2, Dz p2, Bz q2, Dz q2]), .box 4 26 [Bz p2, Dz p2, Bz q2, Dz q2], .fp 11 4 0, .slot 12 (INT p2), .fp 13 4 2, .slot 14 (INT q2), .arr 15 24 2 [Bz p2, Dz p2, Bz q2, Dz q2], .slot 16 (VP.bool false), .slot 17 (VP.bool false), .fp 18 4 0, .fp 19 4 1, .slot 20 (Dz p2), .slot 21 (VP.int .i64 (((dg BB p2.natAbs).length : Nat) : Int)), .slot 22 (VP.bool (decide ((((dg BB p2.natAbs).length : Nat) : Int) > 5))), .slot 23 (VP.bool (decide ((((dg BB p2.natAbs).length : Nat) : Int) > 5))), .slot 24 (VP.bool (decide ((((dg BB p2.natAbs).length : Nat) : Int) > 5))), .slot 25 (VP.undef), .slot 26 (VP.undef), .slot 27 (VP.undef), .slot 28 (VP.undef), .slot 29 (VP.undef), .slot 30 (VP.bool true), .slot 31 (VP.bool true), .slot 32 (VP.undef), .slot 33 (VP.undef), .slot 34 (VP.undef), .slot 35 (VP.bool true), .slot 2 (VP.bool true)]) [0, 1, 2, 3, 4, 5, 6, 7, 8, 9, 10, 11, 12, 13, 14, 15, 16, 17, 18, 19, 20, 21, 22, 23, 24, 25, 26, 27, 28, 29, 30, 31, 32] rfl ?_
    refine nx_then ?_
    refine t_ret ?_
    refine rt_block ?_
    refine rt_then ?_
    refine rt_then ?_
    refine rt_block ?_
    refine rt_then ?_
    exact rt_one rfl (res_tmp 32 rfl)
abbrev fodd3_EEC_c (p0 q0 : Int) (p1 q1 : Int) (p2 q2 : Int) : List VP := [Bz p0, Dz p0, Bz q0, Dz q0, Bz p1, Dz p1, Bz q1, Dz q1, Bz p2, Dz p2, Bz q2, Dz q2]
set_option maxRecDepth 100000 in
set_option maxHeartbeats 4000000 in
theorem fodd3_EEC (p0 q0 : Int) (hp0 : L p0 ≤ 5) (hq0 : L q0 ≤ 5) (hb0 : rightF p0 q0 = true) (p1 q1 : Int) (hp1 : L p1 ≤ 5) (hq1 : L q1 ≤ 5) (hb1 : rightF p1 q1 = true) (p2 q2 : Int) (hp2 : L p2 ≤ 5) (hq2 : L q2 ≤ 10) (hb2 : 5 < L q2) : Spec Try.prog 16 [isRows 3 (fodd3_EEC_c p0 q0 p1 q1 p2 q2)] (VP.bool true) := by
  refine spec_ofP (xs := [.rows 3 (fodd3_EEC_c p0 q0 p1 q1 p2 q2)]) 37 [4] Try.func16 rfl Try.ntmps16 rfl fun w0 => ?_
  refine t_seq ?_
  refine t_region (F := ⟨_, _, _, _⟩) [.rows 0 3 (fodd3_EEC_c p0 q0 p1 q1 p2 q2)] [] [(0, .slot 2 (VP.bool false))] [] [0] [] rfl rfl follow rfl ⟨
    .inl ⟨wants_plain rfl, does_move _ (.inr rfl) rfl rfl rfl rfl (ar_const (fun _ => rfl))⟩,
    trivial⟩ ?_
  refine nx_sub (fs' := [.rows 0 3 (fodd3_EEC_c p0 q0 p1 q1 p2 q2), .slot 2 (VP.bool false)]) [0, 1] rfl ?_
  refine nx_then ?_
  refine t_seq ?_
  refine t_seq ?_
  refine t_region (F := ⟨_, _, _, _⟩) [.rows 0 3 (fodd3_EEC_c p0 q0 p1 q1 p2 q2), .slot 2 (VP.bool false)] [] [(0, .rows 5 3 (fodd3_EEC_c p0 q0 p1 q1 p2 q2)), (1, .slot 6 (VP.int .i64 ((3 : Nat) : Int))), (2, .slot 7 (VP.int .i64 0))] [] [0, 1] [] rfl rfl follow rfl ⟨
    .inl ⟨wants_plain rfl, does_moveRows _ (.inl rfl) rfl rfl rfl rfl rfl (av_fs 0 rfl)⟩,
    .inl ⟨wants_plain rfl, does_lenRows _ _ rfl (by kernel_rfl) rfl rfl rfl rfl rfl (av_rs 0 rfl rfl)⟩,
    .inl ⟨wants_plain rfl, does_move _ (.inl rfl) rfl rfl rfl rfl (ar_const (fun _ => rfl))⟩,
    trivial⟩ ?_
  refine nx_sub (fs' := [.slot 2 (VP.bool false), .rows 5 3 (fodd3_EEC_c p0 q0 p1 q1 p2 q2), .slot 6 (VP.int .i64 ((3 : Nat) : Int)), .slot 7 (VP.int .i64 0)]) [1, 2, 3, 4] rfl ?_
  refine nx_then ?_
  refine t_block ?_
  refine t_loop (σ := {k : Nat // k ≤ 2}) (fun s => [.rows 5 3 (fodd3_EEC_c p0 q0 p1 q1 p2 q2), .slot 6 (VP.int .i64 ((3 : Nat) : Int)), .slot 7 (VP.int .i64 ((s.1 : Nat) : Int))]) (fun s => 3 - s.1) (⟨0, by decide⟩) [1, 2, 3] rfl ?_
  intro s
  obtain ⟨k, hk⟩ := s
  have hc : k = 0 ∨ k = 1 ∨ k = 2 := by omega
  rcases hc with rfl | rfl | rfl
  case inl =>
    refine t_seq ?_
    refine t_region (F := ⟨_, _, _, _⟩) [.rows 5 3 (fodd3_EEC_c p0 q0 p1 q1 p2 q2), .slot 6 (VP.int .i64 ((3 : Nat) : Int)), .slot 7 (VP.int .i64 ((0 : Nat) : Int))] [] [(0, .slot 8 (VP.bool (decide (((0 : Nat) : Int) < ((3 : Nat) : Int)))))] [] [0, 1, 2] [] rfl rfl follow rfl ⟨
      .inl ⟨wants_plain rfl, does_cmp (m := ((0 : Nat) : Int)) (n := ((3 : Nat) : Int)) _ _ _ _ _ rfl rfl rfl rfl rfl rfl .i64 (ar_tmp (av_fs 2 rfl)) (ar_tmp (av_fs 1 rfl))⟩,
      trivial⟩ ?_
    refine nx_sub (fs' := [.rows 5 3 (fodd3_EEC_c p0 q0 p1 q1 p2 q2), .slot 6 (VP.int .i64 ((3 : Nat) : Int)), .slot 7 (VP.int .i64 ((0 : Nat) : Int)), .slot 8 (VP.bool (decide (((0 : Nat) : Int) < ((3 : Nat) : Int))))]) [0, 1, 2, 3] rfl ?_
    refine nx_then ?_
    refine t_seq ?_
    refine t_cond_te 3 rfl rfl ?_
    refine t_skip ?_
    refine nx_then ?_
    refine t_seq ?_
    refine t_block ?_
    refine t_seq ?_
    refine t_region (F := ⟨_, _, _, _⟩) [.rows 5 3 (fodd3_EEC_c p0 q0 p1 q1 p2 q2), .slot 6 (VP.int .i64 ((3 : Nat) : Int)), .slot 7 (VP.int .i64 ((0 : Nat) : Int)), .slot 8 (VP.bool (decide (((0 : Nat) : Int) < ((3 : Nat) : Int))))] [] [(0, .rp 9 5 0), (1, .slot 10 (VP.agg [Bz p0, Dz p0, Bz q0, Dz q0])), (2, .own 4 26 4), (3, .box 4 26 [Bz p0, Dz p0, Bz q0, Dz q0])] [] [0, 1, 2, 3] [] rfl rfl follow rfl ⟨
      .inl ⟨wants_plain rfl, does_indexRows (m := 0) (sz := 4) _ _ rfl Try.underlying122 (fun w => run_sizeAgg ty_agg_api_Frac w) rfl rfl rfl rfl rfl rfl (by decide) rfl (av_fs 0 rfl) (ar_tmp (av_fs 2 rfl))⟩,
      .inl ⟨wants_plain rfl, does_loadRows _ rfl ty_agg_api_Frac rfl rfl rfl rfl rfl rfl rfl (av_rs 0 rfl rfl) (av_fs 0 rfl)⟩,
      .inl ⟨wants_plain rfl, does_allocOwn [Bz 0, Dz 0, Bz 0, Dz 0] ty_zero_api_Frac rfl rfl rfl rfl rfl z_frac rfl⟩,
      .inl ⟨wants_plain rfl, does_storeNew 4 _ _ ty_agg_api_Frac rfl rfl rfl rfl rfl (pt_own (av_rs 2 rfl rfl)) (av_rs 2 rfl rfl) (ar_tmp (av_rs 1 rfl rfl))⟩,
      trivial⟩ ?_
    refine nx_sub (fs' := [.rows 5 3 (fodd3_EEC_c p0 q0 p1 q1 p2 q2), .slot 6 (VP.int .i64 ((3 : Nat) : Int)), .slot 7 (VP.int .i64 ((0 : Nat) : Int)), .slot 8 (VP.bool (decide (((0 : Nat) : Int) < ((3 : Nat) : Int)))), .rp 9 5 0, .slot 10 (VP.agg [Bz p0, Dz p0, Bz q0, Dz q0]), .box 4 26 [Bz p0, Dz p0, Bz q0, Dz q0]]) [0, 1, 2, 3, 4, 5, 7] rfl ?_
    refine nx_then ?_
    refine t_seq ?_
    refine t_region (F := ⟨_, _, _, _⟩) [.rows 5 3 (fodd3_EEC_c p0 q0 p1 q1 p2 q2), .slot 6 (VP.int .i64 ((3 : Nat) : Int)), .slot 7 (VP.int .i64 ((0 : Nat) : Int)), .slot 8 (VP.bool (decide (((0 : Nat) : Int) < ((3 : Nat) : Int)))), .rp 9 5 0, .slot 10 (VP.agg [Bz p0, Dz p0, Bz q0, Dz q0]), .box 4 26 [Bz p0, Dz p0, Bz q0, Dz q0]] [] [(0, .fp 11 4 0), (1, .slot 12 (INT p0)), (2, .fp 13 4 2), (3, .slot 14 (INT q0)), (4, .arr 15 24 2 [Bz p0, Dz p0, Bz q0, Dz q0]), (5, .slot 16 (VP.bool false)), (6, .slot 17 (VP.bool false)), (7, .fp 18 4 0), (8, .fp 19 4 1), (9, .slot 20 (Dz p0)), (10, .slot 21 (VP.int .i64 (((dg BB p0.natAbs).length : Nat) : Int))), (11, .slot 22 (VP.bool (decide ((((dg BB p0.natAbs).length : Nat) : Int) > 5)))), (12, .slot 23 (VP.bool (decide ((((dg BB p0.natAbs).length : Nat) : Int) > 5)))), (13, .slot 24 (VP.bool (decide ((((dg BB p0.natAbs).length : Nat) : Int) > 5)))), (14, .fp 25 4 2), (15, .fp 26 4 3), (16, .slot 27 (Dz q0)), (17, .slot 28 (VP.int .i64 (((dg BB q0.natAbs).length : Nat) : Int))), (18, .slot 29 (VP.bool (decide ((((dg BB q0.natAbs).length : Nat) : Int) > 5)))), (19, .slot 30 (VP.bool (decide ((((dg BB q0.natAbs).length : Nat) : Int) > 5)))), (20, .slot 31 (VP.bool (decide ((((dg BB q0.natAbs).length : Nat) : Int) > 5)))), (21, .slot 32 (VP.agg [Bz p0, Dz p0, Bz q0, Dz q0])), (22, .slot 33 (VP.bool (rightF p0 q0))), (23, .slot 34 (VP.bool false)), (24, .slot 35 (VP.bool false))] [] [0, 1, 2, 3, 4, 5, 6] [] rfl rfl follow rfl ⟨
      .inl ⟨wants_plain rfl, does_field _ _ _ 0 ty_f0_api_Frac rfl rfl rfl rfl rfl rfl rfl (pt_box (av_fs 6 rfl))⟩,
      .inl ⟨wants_plain rfl, does_loadAgg _ ty_agg_api_Int rfl rfl rfl rfl rfl rfl (pt_fp (av_rs 0 rfl rfl)) (av_fs 6 rfl)⟩,
      .inl ⟨wants_plain rfl, does_field _ _ _ 2 ty_f1_api_Frac rfl rfl rfl rfl rfl rfl rfl (pt_box (av_fs 6 rfl))⟩,
      .inl ⟨wants_plain rfl, does_loadAgg _ ty_agg_api_Int rfl rfl rfl rfl rfl rfl (pt_fp (av_rs 2 rfl rfl)) (av_fs 6 rfl)⟩,
      .inl ⟨wants_plain rfl, does_buildSlice (sz := 2) [Bz 0, Dz 0, Bz 0, Dz 0] ty_zero_api_Int (by kernel_rfl) (fun w => run_sizeAgg ty_agg_api_Int w) rfl rfl rfl rfl rfl rfl (by kernel_rfl) (fun w => by exact z_int_2 w) (.cons 0 [Bz p0, Dz p0] rfl rfl (ar_cells_agg (ar_tmp (av_rs 1 rfl rfl))) (.cons 2 [Bz q0, Dz q0] rfl rfl (ar_cells_agg (ar_tmp (av_rs 3 rfl rfl))) (.nil _)))⟩,
      .inl ⟨wants_plain rfl, does_call (s_even2 p0 q0 (lle hp0 (by decide)) (lle hq0 (by decide))) rfl hb_collator_collatorlaw01_Odd rfl rfl rfl rfl ⟨(ar_arr (av_rs 4 rfl rfl)), trivial⟩⟩,
      .inl ⟨wants_plain rfl, does_move _ (.inl rfl) rfl rfl rfl rfl (ar_tmp (av_rs 5 rfl rfl))⟩,
      .inl ⟨wants_guard false rfl rfl rfl (av_rs 6 rfl rfl), does_field _ _ _ 0 ty_f0_api_Frac rfl rfl rfl rfl rfl rfl rfl (pt_box (av_fs 6 rfl))⟩,
      .inl ⟨wants_guard false rfl rfl rfl (av_rs 6 rfl rfl), does_field _ _ _ 1 ty_f1_api_Int rfl rfl rfl rfl rfl rfl rfl (pt_fp (av_rs 7 rfl rfl))⟩,
      .inl ⟨wants_guard false rfl rfl rfl (av_rs 6 rfl rfl), does_loadOne _ ty_one___uint32 rfl rfl rfl rfl rfl rfl (pt_fp (av_rs 8 rfl rfl)) (av_fs 6 rfl)⟩,
      .inl ⟨wants_guard false rfl rfl rfl (av_rs 6 rfl rfl), does_len _ _ (by kernel_rfl) rfl rfl rfl rfl rfl (ar_tmp (av_rs 9 rfl rfl))⟩,
      .inl ⟨wants_guard false rfl rfl rfl (av_rs 6 rfl rfl), does_cmp (m := (((dg BB p0.natAbs).length : Nat) : Int)) (n := 5) _ _ _ _ _ rfl rfl rfl rfl rfl rfl .i64 (ar_tmp (av_rs 10 rfl rfl)) (ar_const (fun _ => rfl))⟩,
      .inl ⟨wants_plain rfl, does_pick false _ _ _ rfl rfl rfl rfl rfl (ar_tmp (av_rs 6 rfl rfl)) (ar_tmp (av_rs 11 rfl rfl))⟩,
      .inl ⟨wants_plain rfl, does_move _ (.inl rfl) rfl rfl rfl rfl (ar_tmp (av_rs 12 rfl rfl))⟩,
      .inl ⟨wants_guard false rfl rfl rfl (av_bool (gt5_no hp0) (av_rs 13 rfl rfl)), does_field _ _ _ 2 ty_f1_api_Frac rfl rfl rfl rfl rfl rfl rfl (pt_box (av_fs 6 rfl))⟩,
      .inl ⟨wants_guard false rfl rfl rfl (av_bool (gt5_no hp0) (av_rs 13 rfl rfl)), does_field _ _ _ 1 ty_f1_api_Int rfl rfl rfl rfl rfl rfl rfl (pt_fp (av_rs 14 rfl rfl))⟩,
      .inl ⟨wants_guard false rfl rfl rfl (av_bool (gt5_no hp0) (av_rs 13 rfl rfl)), does_loadOne _ ty_one___uint32 rfl rfl rfl rfl rfl rfl (pt_fp (av_rs 15 rfl rfl)) (av_fs 6 rfl)⟩,
      .inl ⟨wants_guard false rfl rfl rfl (av_bool (gt5_no hp0) (av_rs 13 rfl rfl)), does_len _ _ (by kernel_rfl) rfl rfl rfl rfl rfl (ar_tmp (av_rs 16 rfl rfl))⟩,
      .inl ⟨wants_guard false rfl rfl rfl (av_bool (gt5_no hp0) (av_rs 13 rfl rfl)), does_cmp (m := (((dg BB q0.natAbs).length : Nat) : Int)) (n := 5) _ _ _ _ _ rfl rfl rfl rfl rfl rfl .i64 (ar_tmp (av_rs 17 rfl rfl)) (ar_const (fun _ => rfl))⟩,
      .inl ⟨wants_plain rfl, does_pick false _ _ _ rfl rfl rfl rfl rfl (ar_tmp (av_bool (gt5_no hp0) (av_rs 13 rfl rfl))) (ar_tmp (av_rs 18 rfl rfl))⟩,
      .inl ⟨wants_plain rfl, does_move _ (.inl rfl) rfl rfl rfl rfl (ar_tmp (av_rs 19 rfl rfl))⟩,
      .inl ⟨wants_guard false rfl rfl rfl (av_bool (gt5_no hq0) (av_rs 20 rfl rfl)), does_loadAgg _ ty_agg_api_Frac rfl rfl rfl rfl rfl rfl (pt_box (av_fs 6 rfl)) (av_fs 6 rfl)⟩,
      .inl ⟨wants_guard false rfl rfl rfl (av_bool (gt5_no hq0) (av_rs 20 rfl rfl)), does_call (g_right p0 q0 (lle hp0 (by decide)) (lle hq0 (by decide))) rfl hb_collator_collatorref02_Right rfl rfl rfl rfl ⟨(ar_tmp (av_rs 21 rfl rfl)), trivial⟩⟩,
      .inl ⟨wants_guard false rfl rfl rfl (av_bool (gt5_no hq0) (av_rs 20 rfl rfl)), does_not true _ _ rfl rfl rfl rfl rfl (ar_tmp (av_bool hb0 (av_rs 22 rfl rfl)))⟩,
      .inl ⟨wants_plain rfl, does_pick false _ _ _ rfl rfl rfl rfl rfl (ar_tmp (av_bool (gt5_no hq0) (av_rs 20 rfl rfl))) (ar_tmp (av_rs 23 rfl rfl))⟩,
      trivial⟩ ?_
    refine nx_sub (fs' := [.rows 5 3 (fodd3_EEC_c p0 q0 p1 q1 p2 q2), .slot 6 (VP.int .i64 ((3 : Nat) : Int)), .slot 7 (VP.int .i64 ((0 : Nat) : Int)), .slot 8 (VP.bool (decide (((0 : Nat) : Int) < ((3 : Nat) : Int)))), .rp 9 5 0, .slot 10 (VP.agg [Bz p0, Dz p0, Bz q0, Dz q0]), .box 4 26 [Bz p0, Dz p0, Bz q0, Dz q0], .fp 11 4 0, .slot 12 (INT p0), .fp 13 4 2, .slot 14 (INT q0), .arr 15 24 2 [Bz p0, Dz p0, Bz q0, Dz q0], .slot 16 (VP.bool false), .slot 17 (VP.bool false), .fp 18 4 0, .fp 19 4 1, .slot 20 (Dz p0), .slot 21 (VP.int .i64 (((dg BB p0.natAbs).length : Nat) : Int)), .slot 22 (VP.bool (decide ((((dg BB p0.natAbs).length : Nat) : Int) > 5))), .slot 23 (VP.bool (decide ((((dg BB p0.natAbs).length : Nat) : Int) > 5))), .slot 24 (VP.bool (decide ((((dg BB p0.natAbs).length : Nat) : Int) > 5))), .fp 25 4 2, .fp 26 4 3, .slot 27 (Dz q0), .slot 28 (VP.int .i64 (((dg BB q0.natAbs).length : Nat) : Int)), .slot 29 (VP.bool (decide ((((dg BB q0.natAbs).length : Nat) : Int) > 5))), .slot 30 (VP.bool (decide ((((dg BB q0.natAbs).length : Nat) : Int) > 5))), .slot 31 (VP.bool (decide ((((dg BB q0.natAbs).length : Nat) : Int) > 5))), .slot 32 (VP.agg [Bz p0, Dz p0, Bz q0, Dz q0]), .slot 33 (VP.bool (rightF p0 q0)), .slot 34 (VP.bool false), .slot 35 (VP.bool false)]) [0, 1, 2, 3, 4, 5, 6, 7, 8, 9, 10, 11, 12, 13, 14, 15, 16, 17, 18, 19, 20, 21, 22, 23, 24, 25, 26, 27, 28, 29, 30, 31] rfl ?_
    refine nx_then ?_
    refine t_cond_f 31 rfl ?_
    refine t_skip ?_
    refine nx_block ?_
    refine nx_then ?_
    refine t_region (F := ⟨_, _, _, _⟩) [.rows 5 3 (fodd3_EEC_c p0 q0 p1 q1 p2 q2), .slot 6 (VP.int .i64 ((3 : Nat) : Int)), .slot 8 (VP.bool (decide (((0 : Nat) : Int) < ((3 : Nat) : Int)))), .rp 9 5 0, .slot 10 (VP.agg [Bz p0, Dz p0, Bz q0, Dz q0]), .box 4 26 [Bz p0, Dz p0, Bz q0, Dz q0], .fp 11 4 0, .slot 12 (INT p0), .fp 13 4 2, .slot 14 (INT q0), .arr 15 24 2 [Bz p0, Dz p0, Bz q0, Dz q0], .slot 16 (VP.bool false), .slot 17 (VP.bool false), .fp 18 4 0, .fp 19 4 1, .slot 20 (Dz p0), .slot 21 (VP.int .i64 (((dg BB p0.natAbs).length : Nat) : Int)), .slot 22 (VP.bool (decide ((((dg BB p0.natAbs).length : Nat) : Int) > 5))), .slot 23 (VP.bool (decide ((((dg BB p0.natAbs).length : Nat) : Int) > 5))), .slot 24 (VP.bool (decide ((((dg BB p0.natAbs).length : Nat) : Int) > 5))), .fp 25 4 2, .fp 26 4 3, .slot 27 (Dz q0), .slot 28 (VP.int .i64 (((dg BB q0.natAbs).length : Nat) : Int)), .slot 29 (VP.bool (decide ((((dg BB q0.natAbs).length : Nat) : Int) > 5))), .slot 30 (VP.bool (decide ((((dg BB q0.natAbs).length : Nat) : Int) > 5))), .slot 31 (VP.bool (decide ((((dg BB q0.natAbs).length : Nat) : Int) > 5))), .slot 32 (VP.agg [Bz p0, Dz p0, Bz q0, Dz q0]), .slot 33 (VP.bool (rightF p0 q0)), .slot 34 (VP.bool false), .slot 35 (VP.bool false)] [(1, .slot 7 (VP.int .i64 ((0 : Nat) : Int)))] [(0, .slot 36 (VP.int .i64 ((1 : Nat) : Int))), (1, .slot 7 (VP.int .i64 ((1 : Nat) : Int)))] [] [0, 1, 3, 4, 5, 6, 7, 8, 9, 10, 11, 12, 13, 14, 15, 16, 17, 18, 19, 20, 21, 22, 23, 24, 25, 26, 27, 28, 29, 30, 31] [2] rfl rfl follow rfl ⟨
      .inl ⟨wants_plain rfl, does_addInt (m := ((0 : Nat) : Int)) (n := 1) _ _ _ _ rfl rfl rfl rfl rfl (by omega) (ar_tmp (av_os 0 rfl rfl)) (ar_const (fun _ => rfl))⟩,
      .inl ⟨wants_plain rfl, does_move _ (.inl rfl) rfl rfl rfl rfl (ar_tmp (av_rs 0 rfl rfl))⟩,
      trivial⟩ ?_
    refine nx_sub (fs' := [.rows 5 3 (fodd3_EEC_c p0 q0 p1 q1 p2 q2), .slot 6 (VP.int .i64 ((3 : Nat) : Int)), .slot 8 (VP.bool (decide (((0 : Nat) : Int) < ((3 : Nat) : Int)))), .rp 9 5 0, .slot 10 (VP.agg [Bz p0, Dz p0, Bz q0, Dz q0]), .box 4 26 [Bz p0, Dz p0, Bz q0, Dz q0], .fp 11 4 0, .slot 12 (INT p0), .fp 13 4 2, .slot 14 (INT q0), .arr 15 24 2 [Bz p0, Dz p0, Bz q0, Dz q0], .slot 16 (VP.bool false), .slot 17 (VP.bool false), .fp 18 4 0, .fp 19 4 1, .slot 20 (Dz p0), .slot 21 (VP.int .i64 (((dg BB p0.natAbs).length : Nat) : Int)), .slot 22 (VP.bool (decide ((((dg BB p0.natAbs).length : Nat) : Int) > 5))), .slot 23 (VP.bool (decide ((((dg BB p0.natAbs).length : Nat) : Int) > 5))), .slot 24 (VP.bool (decide ((((dg BB p0.natAbs).length : Nat) : Int) > 5))), .fp 25 4 2, .fp 26 4 3, .slot 27 (Dz q0), .slot 28 (VP.int .i64 (((dg BB q0.natAbs).length : Nat) : Int)), .slot 29 (VP.bool (decide ((((dg BB q0.natAbs).length : Nat) : Int) > 5))), .slot 30 (VP.bool (decide ((((dg BB q0.natAbs).length : Nat) : Int) > 5))), .slot 31 (VP.bool (decide ((((dg BB q0.natAbs).length : Nat) : Int) > 5))), .slot 32 (VP.agg [Bz p0, Dz p0, Bz q0, Dz q0]), .slot 33 (VP.bool (rightF p0 q0)), .slot 34 (VP.bool false), .slot 35 (VP.bool false), .slot 36 (VP.int .i64 ((1 : Nat) : Int)), .slot 7 (VP.int .i64 ((1 : Nat) : Int))]) [0, 1, 2, 3, 4, 5, 6, 7, 8, 9, 10, 11, 12, 13, 14, 15, 16, 17, 18, 19, 20, 21, 22, 23, 24, 25, 26, 27, 28, 29, 30, 31, 32] rfl ?_
    exact nx_round ⟨1, by decide⟩ (by show 3 - 1 < 3 - 0; decide) [0, 1, 32] rfl
  case inr.inl =>
    refine t_seq ?_
    refine t_region (F := ⟨_, _, _, _⟩) [.rows 5 3 (fodd3_EEC_c p0 q0 p1 q1 p2 q2), .slot 6 (VP.int .i64 ((3 : Nat) : Int)), .slot 7 (VP.int .i64 ((1 : Nat) : Int))] [] [(0, .slot 8 (VP.bool (decide (((1 : Nat) : Int) < ((3 : Nat) : Int)))))] [] [0, 1, 2] [] rfl rfl follow rfl ⟨
      .inl ⟨wants_plain rfl, does_cmp (m := ((1 : Nat) : Int)) (n := ((3 : Nat) : Int)) _ _ _ _ _ rfl rfl rfl rfl rfl rfl .i64 (ar_tmp (av_fs 2 rfl)) (ar_tmp (av_fs 1 rfl))⟩,
      trivial⟩ ?_
    refine nx_sub (fs' := [.rows 5 3 (fodd3_EEC_c p0 q0 p1 q1 p2 q2), .slot 6 (VP.int .i64 ((3 : Nat) : Int)), .slot 7 (VP.int .i64 ((1 : Nat) : Int)), .slot 8 (VP.bool (decide (((1 : Nat) : Int) < ((3 : Nat) : Int))))]) [0, 1, 2, 3] rfl ?_
    refine nx_then ?_
    refine t_seq ?_
    refine t_cond_te 3 rfl rfl ?_
    refine t_skip ?_
    refine nx_then ?_
    refine t_seq ?_
    refine t_block ?_
    refine t_seq ?_
    refine t_region (F := ⟨_, _, _, _⟩) [.rows 5 3 (fodd3_EEC_c p0 q0 p1 q1 p2 q2), .slot 6 (VP.int .i64 ((3 : Nat) : Int)), .slot 7 (VP.int .i64 ((1 : Nat) : Int)), .slot 8 (VP.bool (decide (((1 : Nat) : Int) < ((3 : Nat) : Int))))] [] [(0, .rp 9 5 4), (1, .slot 10 (VP.agg [Bz p1, Dz p1, Bz q1, Dz q1])), (2, .own 4 26 4), (3, .box 4 26 [Bz p1, Dz p1, Bz q1, Dz q1])] [] [0, 1, 2, 3] [] rfl rfl follow rfl ⟨
      .inl ⟨wants_plain rfl, does_indexRows (m := 1) (sz := 4) _ _ rfl Try.underlying122 (fun w => run_sizeAgg ty_agg_api_Frac w) rfl rfl rfl rfl rfl rfl (by decide) rfl (av_fs 0 rfl) (ar_tmp (av_fs 2 rfl))⟩,
      .inl ⟨wants_plain rfl, does_loadRows _ rfl ty_agg_api_Frac rfl rfl rfl rfl rfl rfl rfl (av_rs 0 rfl rfl) (av_fs 0 rfl)⟩,
      .inl ⟨wants_plain rfl, does_allocOwn [Bz 0, Dz 0, Bz 0, Dz 0] ty_zero_api_Frac rfl rfl rfl rfl rfl z_frac rfl⟩,
      .inl ⟨wants_plain rfl, does_storeNew 4 _ _ ty_agg_api_Frac rfl rfl rfl rfl rfl (pt_own (av_rs 2 rfl rfl)) (av_rs 2 rfl rfl) (ar_tmp (av_rs 1 rfl rfl))⟩,
      trivial⟩ ?_
    refine nx_sub (fs' := [.rows 5 3 (fodd3_EEC_c p0 q0 p1 q1 p2 q2), .slot 6 (VP.int .i64 ((3 : Nat) : Int)), .slot 7 (VP.int .i64 ((1 : Nat) : Int)), .slot 8 (VP.bool (decide (((1 : Nat) : Int) < ((3 : Nat) : Int)))), .rp 9 5 4, .slot 10 (VP.agg [Bz p1, Dz p1, Bz q1, Dz q1]), .box 4 26 [Bz p1, Dz p1, Bz q1, Dz q1]]) [0, 1, 2, 3, 4, 5, 7] rfl ?_
    refine nx_then ?_
    refine t_seq ?_
    refine t_region (F := ⟨_, _, _, _⟩) [.rows 5 3 (fodd3_EEC_c p0 q0 p1 q1 p2 q2), .slot 6 (VP.int .i64 ((3 : Nat) : Int)), .slot 7 (VP.int .i64 ((1 : Nat) : Int)), .slot 8 (VP.bool (decide (((1 : Nat) : Int) < ((3 : Nat) : Int)))), .rp 9 5 4, .slot 10 (VP.agg [Bz p1, Dz p1, Bz q1, Dz q1]), .box 4 26 [Bz p1, Dz p1, Bz q1, Dz q1]] [] [(0, .fp 11 4 0), (1, .slot 12 (INT p1)), (2, .fp 13 4 2), (3, .slot 14 (INT q1)), (4, .arr 15 24 2 [Bz p1, Dz p1, Bz q1, Dz q1]), (5, .slot 16 (VP.bool false)), (6, .slot 17 (VP.bool false)), (7, .fp 18 4 0), (8, .fp 19 4 1), (9, .slot 20 (Dz p1)), (10, .slot 21 (VP.int .i64 (((dg BB p1.natAbs).length : Nat) : Int))), (11, .slot 22 (VP.bool (decide ((((dg BB p1.natAbs).length : Nat) : Int) > 5)))), (12, .slot 23 (VP.bool (decide ((((dg BB p1.natAbs).length : Nat) : Int) > 5)))), (13, .slot 24 (VP.bool (decide ((((dg BB p1.natAbs).length : Nat) : Int) > 5)))), (14, .fp 25 4 2), (15, .fp 26 4 3), (16, .slot 27 (Dz q1)), (17, .slot 28 (VP.int .i64 (((dg BB q1.natAbs).length : Nat) : Int))), (18, .slot 29 (VP.bool (decide ((((dg BB q1.natAbs).length : Nat) : Int) > 5)))), (19, .slot 30 (VP.bool (decide ((((dg BB q1.natAbs).length : Nat) : Int) > 5)))), (20, .slot 31 (VP.bool (decide ((((dg BB q1.natAbs).length : Nat) : Int) > 5)))), (21, .slot 32 (VP.agg [Bz p1, Dz p1, Bz q1, Dz q1])), (22, .slot 33 (VP.bool (rightF p1 q1))), (23, .slot 34 (VP.bool false)), (24, .slot 35 (VP.bool false))] [] [0, 1, 2, 3, 4, 5, 6] [] rfl rfl follow rfl ⟨
      .inl ⟨wants_plain rfl, does_field _ _ _ 0 ty_f0_api_Frac rfl rfl rfl rfl rfl rfl rfl (pt_box (av_fs 6 rfl))⟩,
      .inl ⟨wants_plain rfl, does_loadAgg _ ty_agg_api_Int rfl rfl rfl rfl rfl rfl (pt_fp (av_rs 0 rfl rfl)) (av_fs 6 rfl)⟩,
      .inl ⟨wants_plain rfl, does_field _ _ _ 2 ty_f1_api_Frac rfl rfl rfl rfl rfl rfl rfl (pt_box (av_fs 6 rfl))⟩,
      .inl ⟨wants_plain rfl, does_loadAgg _ ty_agg_api_Int rfl rfl rfl rfl rfl rfl (pt_fp (av_rs 2 rfl rfl)) (av_fs 6 rfl)⟩,
      .inl ⟨wants_plain rfl, does_buildSlice (sz := 2) [Bz 0, Dz 0, Bz 0, Dz 0] ty_zero_api_Int (by kernel_rfl) (fun w => run_sizeAgg ty_agg_api_Int w) rfl rfl rfl rfl rfl rfl (by kernel_rfl) (fun w => by exact z_int_2 w) (.cons 0 [Bz p1, Dz p1] rfl rfl (ar_cells_agg (ar_tmp (av_rs 1 rfl rfl))) (.cons 2 [Bz q1, Dz q1] rfl rfl (ar_cells_agg (ar_tmp (av_rs 3 rfl rfl))) (.nil _)))⟩,
      .inl ⟨wants_plain rfl, does_call (s_even2 p1 q1 (lle hp1 (by decide)) (lle hq1 (by decide))) rfl hb_collator_collatorlaw01_Odd rfl rfl rfl rfl ⟨(ar_arr (av_rs 4 rfl rfl)), trivial⟩⟩,
      .inl ⟨wants_plain rfl, does_move _ (.inl rfl) rfl rfl rfl rfl (ar_tmp (av_rs 5 rfl rfl))⟩,
      .inl ⟨wants_guard false rfl rfl rfl (av_rs 6 rfl rfl), does_field _ _ _ 0 ty_f0_api_Frac rfl rfl rfl rfl rfl rfl rfl (pt_box (av_fs 6 rfl))⟩,
      .inl ⟨wants_guard false rfl rfl rfl (av_rs 6 rfl rfl), does_field _ _ _ 1 ty_f1_api_Int rfl rfl rfl rfl rfl rfl rfl (pt_fp (av_rs 7 rfl rfl))⟩,
      .inl ⟨wants_guard false rfl rfl rfl (av_rs 6 rfl rfl), does_loadOne _ ty_one___uint32 rfl rfl rfl rfl rfl rfl (pt_fp (av_rs 8 rfl rfl)) (av_fs 6 rfl)⟩,
      .inl ⟨wants_guard false rfl rfl rfl (av_rs 6 rfl rfl), does_len _ _ (by kernel_rfl) rfl rfl rfl rfl rfl (ar_tmp (av_rs 9 rfl rfl))⟩,
      .inl ⟨wants_guard false rfl rfl rfl (av_rs 6 rfl rfl), does_cmp (m := (((dg BB p1.natAbs).length : Nat) : Int)) (n := 5) _ _ _ _ _ rfl rfl rfl rfl rfl rfl .i64 (ar_tmp (av_rs 10 rfl rfl)) (ar_const (fun _ => rfl))⟩,
      .inl ⟨wants_plain rfl, does_pick false _ _ _ rfl rfl rfl rfl rfl (ar_tmp (av_rs 6 rfl rfl)) (ar_tmp (av_rs 11 rfl rfl))⟩,
      .inl ⟨wants_plain rfl, does_move _ (.inl rfl) rfl rfl rfl rfl (ar_tmp (av_rs 12 rfl rfl))⟩,
      .inl ⟨wants_guard false rfl rfl rfl (av_bool (gt5_no hp1) (av_rs 13 rfl rfl)), does_field _ _ _ 2 ty_f1_api_Frac rfl rfl rfl rfl rfl rfl rfl (pt_box (av_fs 6 rfl))⟩,
      .inl ⟨wants_guard false rfl rfl rfl (av_bool (gt5_no hp1) (av_rs 13 rfl rfl)), does_field _ _ _ 1 ty_f1_api_Int rfl rfl rfl rfl rfl rfl rfl (pt_fp (av_rs 14 rfl rfl))⟩,
      .inl ⟨wants_guard false rfl rfl rfl (av_bool (gt5_no hp1) (av_rs 13 rfl rfl)), does_loadOne _ ty_one___uint32 rfl rfl rfl rfl rfl rfl (pt_fp (av_rs 15 rfl rfl)) (av_fs 6 rfl)⟩,
      .inl ⟨wants_guard false rfl rfl rfl (av_bool (gt5_no hp1) (av_rs 13 rfl rfl)), does_len _ _ (by kernel_rfl) rfl rfl rfl rfl rfl (ar_tmp (av_rs 16 rfl rfl))⟩,
      .inl ⟨wants_guard false rfl rfl rfl (av_bool (gt5_no hp1) (av_rs 13 rfl rfl)), does_cmp (m := (((dg BB q1.natAbs).length : Nat) : Int)) (n := 5) _ _ _ _ _ rfl rfl rfl rfl rfl rfl .i64 (ar_tmp (av_rs 17 rfl rfl)) (ar_const (fun _ => rfl))⟩,
      .inl ⟨wants_plain rfl, does_pick false _ _ _ rfl rfl rfl rfl rfl (ar_tmp (av_bool (gt5_no hp1) (av_rs 13 rfl rfl))) (ar_tmp (av_rs 18 rfl rfl))⟩,
      .inl ⟨wants_plain rfl, does_move _ (.inl rfl) rfl rfl rfl rfl (ar_tmp (av_rs 19 rfl rfl))⟩,
      .inl ⟨wants_guard false rfl rfl rfl (av_bool (gt5_no hq1) (av_rs 20 rfl rfl)), does_loadAgg _ ty_agg_api_Frac rfl rfl rfl rfl rfl rfl (pt_box (av_fs 6 rfl)) (av_fs 6 rfl)⟩,
      .inl ⟨wants_guard false rfl rfl rfl (av_bool (gt5_no hq1) (av_rs 20 rfl rfl)), does_call (g_right p1 q1 (lle hp1 (by decide)) (lle hq1 (by decide))) rfl hb_collator_collatorref02_Right rfl rfl rfl rfl ⟨(ar_tmp (av_rs 21 rfl rfl)), trivial⟩⟩,
      .inl ⟨wants_guard false rfl rfl rfl (av_bool (gt5_no hq1) (av_rs 20 rfl rfl)), does_not true _ _ rfl rfl rfl rfl rfl (ar_tmp (av_bool hb1 (av_rs 22 rfl rfl)))⟩,
      .inl ⟨wants_plain rfl, does_pick false _ _ _ rfl rfl rfl rfl rfl (ar_tmp (av_bool (gt5_no hq1) (av_rs 20 rfl rfl))) (ar_tmp (av_rs 23 rfl rfl))⟩,
      trivial⟩ ?_
    refine nx_sub (fs' := [.rows 5 3 (fodd3_EEC_c p0 q0 p1 q1 p2 q2), .slot 6 (VP.int .i64 ((3 : Nat) : Int)), .slot 7 (VP.int .i64 ((1 : Nat) : Int)), .slot 8 (VP.bool (decide (((1 : Nat) : Int) < ((3 : Nat) : Int)))), .rp 9 5 4, .slot 10 (VP.agg [Bz p1, Dz p1, Bz q1, Dz q1]), .box 4 26 [Bz p1, Dz p1, Bz q1, Dz q1], .fp 11 4 0, .slot 12 (INT p1), .fp 13 4 2, .slot 14 (INT q1), .arr 15 24 2 [Bz p1, Dz p1, Bz q1, Dz q1], .slot 16 (VP.bool false), .slot 17 (VP.bool false), .fp 18 4 0, .fp 19 4 1, .slot 20 (Dz p1), .slot 21 (VP.int .i64 (((dg BB p1.natAbs).length : Nat) : Int)), .slot 22 (VP.bool (decide ((((dg BB p1.natAbs).length : Nat) : Int) > 5))), .slot 23 (VP.bool (decide ((((dg BB p1.natAbs).length : Nat) : Int) > 5))), .slot 24 (VP.bool (decide ((((dg BB p1.natAbs).length : Nat) : Int) > 5))), .fp 25 4 2, .fp 26 4 3, .slot 27 (Dz q1), .slot 28 (VP.int .i64 (((dg BB q1.natAbs).length : Nat) : Int)), .slot 29 (VP.bool (decide ((((dg BB q1.natAbs).length : Nat) : Int) > 5))), .slot 30 (VP.bool (decide ((((dg BB q1.natAbs).length : Nat) : Int) > 5))), .slot 31 (VP.bool (decide ((((dg BB q1.natAbs).length : Nat) : Int) > 5))), .slot 32 (VP.agg [Bz p1, Dz p1, Bz q1, Dz q1]), .slot 33 (VP.bool (rightF p1 q1)), .slot 34 (VP.bool false), .slot 35 (VP.bool false)]) [0, 1, 2, 3, 4, 5, 6, 7, 8, 9, 10, 11, 12, 13, 14, 15, 16, 17, 18, 19, 20, 21, 22, 23, 24, 25, 26, 27, 28, 29, 30, 31] rfl ?_
    refine nx_then ?_
    refine t_cond_f 31 rfl ?_
    refine t_skip ?_
    refine nx_block ?_
    refine nx_then ?_
    refine t_region (F := ⟨_, _, _, _⟩) [.rows 5 3 (fodd3_EEC_c p0 q0 p1 q1 p2 q2), .slot 6 (VP.int .i64 ((3 : Nat) : Int)), .slot 8 (VP.bool (decide (((1 : Nat) : Int) < ((3 : Nat) : Int)))), .rp 9 5 4, .slot 10 (VP.agg [Bz p1, Dz p1, Bz q1, Dz q1]), .box 4 26 [Bz p1, Dz p1, Bz q1, Dz q1], .fp 11 4 0, .slot 12 (INT p1), .fp 13 4 2, .slot 14 (INT q1), .arr 15 24 2 [Bz p1, Dz p1, Bz q1, Dz q1], .slot 16 (VP.bool false), .slot 17 (VP.bool false), .fp 18 4 0, .fp 19 4 1, .slot 20 (Dz p1), .slot 21 (VP.int .i64 (((dg BB p1.natAbs).length : Nat) : Int)), .slot 22 (VP.bool (decide ((((dg BB p1.natAbs).length : Nat) : Int) > 5))), .slot 23 (VP.bool (decide ((((dg BB p1.natAbs).length : Nat) : Int) > 5))), .slot 24 (VP.bool (decide ((((dg BB p1.natAbs).length : Nat) : Int) > 5))), .fp 25 4 2, .fp 26 4 3, .slot 27 (Dz q1), .slot 28 (VP.int .i64 (((dg BB q1.natAbs).length : Nat) : Int)), .slot 29 (VP.bool (decide ((((dg BB q1.natAbs).length : Nat) : Int) > 5))), .slot 30 (VP.bool (decide ((((dg BB q1.natAbs).length : Nat) : Int) > 5))), .slot 31 (VP.bool (decide ((((dg BB q1.natAbs).length : Nat) : Int) > 5))), .slot 32 (VP.agg [Bz p1, Dz p1, Bz q1, Dz q1]), .slot 33 (VP.bool (rightF p1 q1)), .slot 34 (VP.bool false), .slot 35 (VP.bool false)] [(1, .slot 7 (VP.int .i64 ((1 : Nat) : Int)))] [(0, .slot 36 (VP.int .i64 ((2 : Nat) : Int))), (1, .slot 7 (VP.int .i64 ((2 : Nat) : Int)))] [] [0, 1, 3, 4, 5, 6, 7, 8, 9, 10, 11, 12, 13, 14, 15, 16, 17, 18, 19, 20, 21, 22, 23, 24, 25, 26, 27, 28, 29, 30, 31] [2] rfl rfl follow rfl ⟨
      .inl ⟨wants_plain rfl, does_addInt (m := ((1 : Nat) : Int)) (n := 1) _ _ _ _ rfl rfl rfl rfl rfl (by omega) (ar_tmp (av_os 0 rfl rfl)) (ar_const (fun _ => rfl))⟩,
      .inl ⟨wants_plain rfl, does_move _ (.inl rfl) rfl rfl rfl rfl (ar_tmp (av_rs 0 rfl rfl))⟩,
      trivial⟩ ?_
    refine nx_sub (fs' := [.rows 5 3 (fodd3_EEC_c p0 q0 p1 q1 p2 q2), .slot 6 (VP.int .i64 ((3 : Nat) : Int)), .slot 8 (VP.bool (decide (((1 : Nat) : Int) < ((3 : Nat) : Int)))), .rp 9 5 4, .slot 10 (VP.agg [Bz p1, Dz p1, Bz q1, Dz q1]), .box 4 26 [Bz p1, Dz p1, Bz q1, Dz q1], .fp 11 4 0, .slot 12 (INT p1), .fp 13 4 2, .slot 14 (INT q1), .arr 15 24 2 [Bz p1, Dz p1, Bz q1, Dz q1], .slot 16 (VP.bool false), .slot 17 (VP.bool false), .fp 18 4 0, .fp 19 4 1, .slot 20 (Dz p1), .slot 21 (VP.int .i64 (((dg BB p1.natAbs).length : Nat) : Int)), .slot 22 (VP.bool (decide ((((dg BB p1.natAbs).length : Nat) : Int) > 5))), .slot 23 (VP.bool (decide ((((dg BB p1.natAbs).length : Nat) : Int) > 5))), .slot 24 (VP.bool (decide ((((dg BB p1.natAbs).length : Nat) : Int) > 5))), .fp 25 4 2, .fp 26 4 3, .slot 27 (Dz q1), .slot 28 (VP.int .i64 (((dg BB q1.natAbs).length : Nat) : Int)), .slot 29 (VP.bool (decide ((((dg BB q1.natAbs).length : Nat) : Int) > 5))), .slot 30 (VP.bool (decide ((((dg BB q1.natAbs).length : Nat) : Int) > 5))), .slot 31 (VP.bool (decide ((((dg BB q1.natAbs).length : Nat) : Int) > 5))), .slot 32 (VP.agg [Bz p1, Dz p1, Bz q1, Dz q1]), .slot 33 (VP.bool (rightF p1 q1)), .slot 34 (VP.bool false), .slot 35 (VP.bool false), .slot 36 (VP.int .i64 ((2 : Nat) : Int)), .slot 7 (VP.int .i64 ((2 : Nat) : Int))]) [0, 1, 2, 3, 4, 5, 6, 7, 8, 9, 10, 11, 12, 13, 14, 15, 16, 17, 18, 19, 20, 21, 22, 23, 24, 25, 26, 27, 28, 29, 30, 31, 32] rfl ?_
    exact nx_round ⟨2, by decide⟩ (by show 3 - 2 < 3 - 1; decide) [0, 1, 32] rfl
  case inr.inr =>
    refine t_seq ?_
    refine t_region (F := ⟨_, _, _, _⟩) [.rows 5 3 (fodd3_EEC_c p0 q0 p1 q1 p2 q2), .slot 6 (VP.int .i64 ((3 : Nat) : Int)), .slot 7 (VP.int .i64 ((2 : Nat) : Int))] [] [(0, .slot 8 (VP.bool (decide (((2 : Nat) : Int) < ((3 : Nat) : Int)))))] [] [0, 1, 2] [] rfl rfl follow rfl ⟨
      .inl ⟨wants_plain rfl, does_cmp (m := ((2 : Nat) : Int)) (n := ((3 : Nat) : Int)) _ _ _ _ _ rfl rfl rfl rfl rfl rfl .i64 (ar_tmp (av_fs 2 rfl)) (ar_tmp (av_fs 1 rfl))⟩,
      trivial⟩ ?_
    refine nx_sub (fs' := [.rows 5 3 (fodd3_EEC_c p0 q0 p1 q1 p2 q2), .slot 6 (VP.int .i64 ((3 : Nat) : Int)), .slot 7 (VP.int .i64 ((2 : Nat) : Int)), .slot 8 (VP.bool (decide (((2 : Nat) : Int) < ((3 : Nat) : Int))))]) [0, 1, 2, 3] rfl ?_
    refine nx_then ?_
    refine t_seq ?_
    refine t_cond_te 3 rfl rfl ?_
    refine t_skip ?_
    refine nx_then ?_
    refine t_seq ?_
    refine t_block ?_
    refine t_seq ?_
    refine t_region (F := ⟨_, _, _, _⟩) [.rows 5 3 (fodd3_EEC_c p0 q0 p1 q1 p2 q2), .slot 6 (VP.int .i64 ((3 : Nat) : Int)), .slot 7 (VP.int .i64 ((2 : Nat) : Int)), .slot 8 (VP.bool (decide (((2 : Nat) : Int) < ((3 : Nat) : Int))))] [] [(0, .rp 9 5 8), (1, .slot 10 (VP.agg [Bz p2, Dz p2, Bz q2, Dz q2])), (2, .own 4 26 4), (3, .box 4 26 [Bz p2, Dz p2, Bz q2, Dz q2])] [] [0, 1, 2, 3] [] rfl rfl follow rfl ⟨
      .inl ⟨wants_plain rfl, does_indexRows (m := 2) (sz := 4) _ _ rfl Try.underlying122 (fun w => run_sizeAgg ty_agg_api_Frac w) rfl rfl rfl rfl rfl rfl (by decide) rfl (av_fs 0 rfl) (ar_tmp (av_fs 2 rfl))⟩,
      .inl ⟨wants_plain rfl, does_loadRows _ rfl ty_agg_api_Frac rfl rfl rfl rfl rfl rfl rfl (av_rs 0 rfl rfl) (av_fs 0 rfl)⟩,
      .inl ⟨wants_plain rfl, does_allocOwn [Bz 0, Dz 0, Bz 0, Dz 0] ty_zero_api_Frac rfl rfl rfl rfl rfl z_frac rfl⟩,
      .inl ⟨wants_plain rfl, does_storeNew 4 _ _ ty_agg_api_Frac rfl rfl rfl rfl rfl (pt_own (av_rs 2 rfl rfl)) (av_rs 2 rfl rfl) (ar_tmp (av_rs 1 rfl rfl))⟩,
      trivial⟩ ?_
    refine nx_sub (fs' := [.rows 5 3 (fodd3_EEC_c p0 q0 p1 q1 p2 q2), .slot 6 (VP.int .i64 ((3 : Nat) : Int)), .slot 7 (VP.int .i64 ((2 : Nat) : Int)), .slot 8 (VP.bool (decide (((2 : Nat) : Int) < ((3 : Nat) : Int)))), .rp 9 5 8, .slot 10 (VP.agg [Bz p2, Dz p2, Bz q2, Dz q2]), .box 4 26 [Bz p2, Dz p2, Bz q2, Dz q2]]) [0, 1, 2, 3, 4, 5, 7] rfl ?_
    refine nx_then ?_
    refine t_seq ?_
    refine t_region (F := ⟨_, _, _, _⟩) [.rows 5 3 (fodd3_EEC_c p0 q0 p1 q1 p2 q2), .slot 6 (VP.int .i64 ((3 : Nat) : Int)), .slot 7 (VP.int .i64 ((2 : Nat) : Int)), .slot 8 (VP.bool (decide (((2 : Nat) : Int) < ((3 : Nat) : Int)))), .rp 9 5 8, .slot 10 (VP.agg [Bz p2, Dz p2, Bz q2, Dz q2]), .box 4 26 [Bz p2, Dz p2, Bz q2, Dz q2]] [] [(0, .fp 11 4 0), (1, .slot 12 (INT p2)), (2, .fp 13 4 2), (3, .slot 14 (INT q2)), (4, .arr 15 24 2 [Bz p2, Dz p2, Bz q2, Dz q2]), (5, .slot 16 (VP.bool false)), (6, .slot 17 (VP.bool false)), (7, .fp 18 4 0), (8, .fp 19 4 1), (9, .slot 20 (Dz p2)), (10, .slot 21 (VP.int .i64 (((dg BB p2.natAbs).length : Nat) : Int))), (11, .slot 22 (VP.bool (decide ((((dg BB p2.natAbs).length : Nat) : Int) > 5)))), (12, .slot 23 (VP.bool (decide ((((dg BB p2.natAbs).length : Nat) : Int) > 5)))), (13, .slot 24 (VP.bool (decide ((((dg BB p2.natAbs).length : Nat) : Int) > 5)))), (14, .fp 25 4 2), (15, .fp 26 4 3), (16, .slot 27 (Dz q2)), (17, .slot 28 (VP.int .i64 (((dg BB q2.natAbs).length : Nat) : Int))), (18, .slot 29 (VP.bool (decide ((((dg BB q2.natAbs).length : Nat) : Int) > 5)))), (19, .slot 30 (VP.bool (decide ((((dg BB q2.natAbs).length : Nat) : Int) > 5)))), (20, .slot 31 (VP.bool (decide ((((dg BB q2.natAbs).length : Nat) : Int) > 5)))), (21, .slot 32 (VP.undef)), (22, .slot 33 (VP.undef)), (23, .slot 34 (VP.undef)), (24, .slot 35 (VP.bool true))] [] [0, 1, 2, 3, 4, 5, 6] [] rfl rfl follow rfl ⟨
      .inl ⟨wants_plain rfl, does_field _ _ _ 0 ty_f0_api_Frac rfl rfl rfl rfl rfl rfl rfl (pt_box (av_fs 6 rfl))⟩,
      .inl ⟨wants_plain rfl, does_loadAgg _ ty_agg_api_Int rfl rfl rfl rfl rfl rfl (pt_fp (av_rs 0 rfl rfl)) (av_fs 6 rfl)⟩,
      .inl ⟨wants_plain rfl, does_field _ _ _ 2 ty_f1_api_Frac rfl rfl rfl rfl rfl rfl rfl (pt_box (av_fs 6 rfl))⟩,
      .inl ⟨wants_plain rfl, does_loadAgg _ ty_agg_api_Int rfl rfl rfl rfl rfl rfl (pt_fp (av_rs 2 rfl rfl)) (av_fs 6 rfl)⟩,
      .inl ⟨wants_plain rfl, does_buildSlice (sz := 2) [Bz 0, Dz 0, Bz 0, Dz 0] ty_zero_api_Int (by kernel_rfl) (fun w => run_sizeAgg ty_agg_api_Int w) rfl rfl rfl rfl rfl rfl (by kernel_rfl) (fun w => by exact z_int_2 w) (.cons 0 [Bz p2, Dz p2] rfl rfl (ar_cells_agg (ar_tmp (av_rs 1 rfl rfl))) (.cons 2 [Bz q2, Dz q2] rfl rfl (ar_cells_agg (ar_tmp (av_rs 3 rfl rfl))) (.nil _)))⟩,
      .inl ⟨wants_plain rfl, does_call (s_even2 p2 q2 (lle hp2 (by decide)) hq2) rfl hb_collator_collatorlaw01_Odd rfl rfl rfl rfl ⟨(ar_arr (av_rs 4 rfl rfl)), trivial⟩⟩,
      .inl ⟨wants_plain rfl, does_move _ (.inl rfl) rfl rfl rfl rfl (ar_tmp (av_rs 5 rfl rfl))⟩,
      .inl ⟨wants_guard false rfl rfl rfl (av_rs 6 rfl rfl), does_field _ _ _ 0 ty_f0_api_Frac rfl rfl rfl rfl rfl rfl rfl (pt_box (av_fs 6 rfl))⟩,
      .inl ⟨wants_guard false rfl rfl rfl (av_rs 6 rfl rfl), does_field _ _ _ 1 ty_f1_api_Int rfl rfl rfl rfl rfl rfl rfl (pt_fp (av_rs 7 rfl rfl))⟩,
      .inl ⟨wants_guard false rfl rfl rfl (av_rs 6 rfl rfl), does_loadOne _ ty_one___uint32 rfl rfl rfl rfl rfl rfl (pt_fp (av_rs 8 rfl rfl)) (av_fs 6 rfl)⟩,
      .inl ⟨wants_guard false rfl rfl rfl (av_rs 6 rfl rfl), does_len _ _ (by kernel_rfl) rfl rfl rfl rfl rfl (ar_tmp (av_rs 9 rfl rfl))⟩,
      .inl ⟨wants_guard false rfl rfl rfl (av_rs 6 rfl rfl), does_cmp (m := (((dg BB p2.natAbs).length : Nat) : Int)) (n := 5) _ _ _ _ _ rfl rfl rfl rfl rfl rfl .i64 (ar_tmp (av_rs 10 rfl rfl)) (ar_const (fun _ => rfl))⟩,
      .inl ⟨wants_plain rfl, does_pick false _ _ _ rfl rfl rfl rfl rfl (ar_tmp (av_rs 6 rfl rfl)) (ar_tmp (av_rs 11 rfl rfl))⟩,
      .inl ⟨wants_plain rfl, does_move _ (.inl rfl) rfl rfl rfl rfl (ar_tmp (av_rs 12 rfl rfl))⟩,
      .inl ⟨wants_guard false rfl rfl rfl (av_bool (gt5_no hp2) (av_rs 13 rfl rfl)), does_field _ _ _ 2 ty_f1_api_Frac rfl rfl rfl rfl rfl rfl rfl (pt_box (av_fs 6 rfl))⟩,
      .inl ⟨wants_guard false rfl rfl rfl (av_bool (gt5_no hp2) (av_rs 13 rfl rfl)), does_field _ _ _ 1 ty_f1_api_Int rfl rfl rfl rfl rfl rfl rfl (pt_fp (av_rs 14 rfl rfl))⟩,
      .inl ⟨wants_guard false rfl rfl rfl (av_bool (gt5_no hp2) (av_rs 13 rfl rfl)), does_loadOne _ ty_one___uint32 rfl rfl rfl rfl rfl rfl (pt_fp (av_rs 15 rfl rfl)) (av_fs 6 rfl)⟩,
      .inl ⟨wants_guard false rfl rfl rfl (av_bool (gt5_no hp2) (av_rs 13 rfl rfl)), does_len _ _ (by kernel_rfl) rfl rfl rfl rfl rfl (ar_tmp (av_rs 16 rfl rfl))⟩,
      .inl ⟨wants_guard false rfl rfl rfl (av_bool (gt5_no hp2) (av_rs 13 rfl rfl)), does_cmp (m := (((dg BB q2.natAbs).length : Nat) : Int)) (n := 5) _ _ _ _ _ rfl rfl rfl rfl rfl rfl .i64 (ar_tmp (av_rs 17 rfl rfl)) (ar_const (fun _ => rfl))⟩,
      .inl ⟨wants_plain rfl, does_pick false _ _ _ rfl rfl rfl rfl rfl (ar_tmp (av_bool (gt5_no hp2) (av_rs 13 rfl rfl))) (ar_tmp (av_rs 18 rfl rfl))⟩,
      .inl ⟨wants_plain rfl, does_move _ (.inl rfl) rfl rfl rfl rfl (ar_tmp (av_rs 19 rfl rfl))⟩,
      .inr (skips_guardU true rfl rfl rfl (av_bool (gt5_yes hb2) (av_rs 20 rfl rfl)) rfl rfl rfl rfl),
      .inr (skips_guardU true rfl rfl rfl (av_bool (gt5_yes hb2) (av_rs 20 rfl rfl)) rfl rfl rfl rfl),
      .inr (skips_guardU true rfl rfl rfl (av_bool (gt5_yes hb2) (av_rs 20 rfl rfl)) rfl rfl rfl rfl),
      .inl ⟨wants_plain rfl, does_pick true _ _ _ rfl rfl rfl rfl rfl (ar_tmp (av_bool (gt5_yes hb2) (av_rs 20 rfl rfl))) (ar_const (fun _ => rfl))⟩,
      trivial⟩ ?_
    refine nx_sub (fs' := [.rows 5 3 (fodd3_EEC_c p0 q0 p1 q1 p2 q2), .slot 6 (VP.int .i64 ((3 : Nat) : Int)), .slot 7 (VP.int .i64 ((2 : Nat) : Int)), .slot 8 (VP.bool (decide (((2 : Nat) : Int) < ((3 : Nat) : Int)))), .rp 9 5 8, .slot 10 (VP.agg [Bz p2, Dz p2, Bz q2, Dz q2]), .box 4 26 [Bz p2, Dz p2, Bz q2, Dz q2], .fp 11 4 0, .slot 12 (INT p2), .fp 13 4 2, .slot 14 (INT q2), .arr 15 24 2 [Bz p2, Dz p2, Bz q2, Dz q2], .slot 16 (VP.bool false), .slot 17 (VP.bool false), .fp 18 4 0, .fp 19 4 1, .slot 20 (Dz p2), .slot 21 (VP.int .i64 (((dg BB p2.natAbs).length : Nat) : Int)), .slot 22 (VP.bool (decide ((((dg BB p2.natAbs).length : Nat) : Int) > 5))), .slot 23 (VP.bool (decide ((((dg BB p2.natAbs).length : Nat) : Int) > 5))), .slot 24 (VP.bool (decide ((((dg BB p2.natAbs).length : Nat) : Int) > 5))), .fp 25 4 2, .fp 26 4 3, .slot 27 (Dz q2), .slot 28 (VP.int .i64 (((dg BB q2.natAbs).length : Nat) : Int)), .slot 29 (VP.bool (decide ((((dg BB q2.natAbs).length : Nat) : Int) > 5))), .slot 30 (VP.bool (decide ((((dg BB q2.natAbs).length : Nat) : Int) > 5))), .slot 31 (VP.bool (decide ((((dg BB q2.natAbs).length : Nat) : Int) > 5))), .slot 32 (VP.undef), .slot 33 (VP.undef), .slot 34 (VP.undef), .slot 35 (VP.bool true)]) [0, 1, 2, 3, 4, 5, 6, 7, 8, 9, 10, 11, 12, 13, 14, 15, 16, 17, 18, 19, 20, 21, 22, 23, 24, 25, 26, 27, 28, 29, 30, 31] rfl ?_
    refine nx_then ?_
    refine t_cond_t 31 rfl ?_
    refine t_seq ?_
    refine t_region (F := ⟨_, _, _, _⟩) [.rows 5 3 (fodd3_EEC_c p0 q0 p1 q1 p2 q2), .slot 6 (VP.int .i64 ((3 : Nat) : Int)), .slot 7 (VP.int .i64 ((2 : Nat) : Int)), .slot 8 (VP.bool (decide (((2 : Nat) : Int) < ((3 : Nat) : Int)))), .rp 9 5 8, .slot 10 (VP.agg [Bz p2, Dz p2, Bz q2, Dz q2]), .box 4 26 [Bz p2, Dz p2, Bz q2, Dz q2], .fp 11 4 0, .slot 12 (INT p2), .fp 13 4 2, .slot 14 (INT q2), .arr 15 24 2 [Bz p2, Dz p2, Bz q2, Dz q2], .slot 16 (VP.bool false), .slot 17 (VP.bool false), .fp 18 4 0, .fp 19 4 1, .slot 20 (Dz p2), .slot 21 (VP.int .i64 (((dg BB p2.natAbs).length : Nat) : Int)), .slot 22 (VP.bool (decide ((((dg BB p2.natAbs).length : Nat) : Int) > 5))), .slot 23 (VP.bool (decide ((((dg BB p2.natAbs).length : Nat) : Int) > 5))), .slot 24 (VP.bool (decide ((((dg BB p2.natAbs).length : Nat) : Int) > 5))), .fp 25 4 2, .fp 26 4 3, .slot 27 (Dz q2), .slot 28 (VP.int .i64 (((dg BB q2.natAbs).length : Nat) : Int)), .slot 29 (VP.bool (decide ((((dg BB q2.natAbs).length : Nat) : Int) > 5))), .slot 30 (VP.bool (decide ((((dg BB q2.natAbs).length : Nat) : Int) > 5))), .slot 31 (VP.bool (decide ((((dg BB q2.natAbs).length : Nat) : Int) > 5))), .slot 32 (VP.undef), .slot 33 (VP.undef), .slot 34 (VP.undef), .slot 35 (VP.bool true)] [] [(0, .slot 2 (VP.bool true))] [] [0, 1, 2, 3, 4, 5, 6, 7, 8, 9, 10, 11, 12, 13, 14, 15, 16, 17, 18, 19, 20, 21, 22, 23, 24, 25, 26, 27, 28, 29, 30, 31] [] rfl rfl follow rfl ⟨
      .inl ⟨wants_plain rfl, does_move _ (.inr rfl) rfl rfl rfl rfl (ar_const (fun _ => rfl))⟩,
      trivial⟩ ?_
    refine nx_sub (fs' := [.rows 5 3 (fodd3_EEC_c p0 q0 p1 q1 p2 q2), .slot 6 (VP.int .i64 ((3 : Nat) : Int)), .slot 7 (VP.int .i64 ((2 : Nat) : Int)), .slot 8 (VP.bool (decide (((2 : Nat) : Int) < ((3 : Nat) : Int)))), .rp 9 5 8, .slot 10 (VP.agg [Bz p2, Dz p2, Bz q2, Dz q2]), .box 4 26 [Bz p2, Dz p2, Bz q2, Dz q2], .fp 11 4 0, .slot 12 (INT p2), .fp 13 4 2, .slot 14 (INT q2), .arr 15 24 2 [Bz p2, Dz p2, Bz q2, Dz q2], .slot 16 (VP.bool false), .slot 17 (VP.bool false), .fp 18 4 0, .fp 19 4 1, .slot 20 (Dz p2), .slot 21 (VP.int .i64 (((dg BB p2.natAbs).length : Nat) : Int)), .slot 22 (VP.bool (decide ((((dg BB p2.natAbs).length : Nat) : Int) > 5))), .slot 23 (VP.bool (decide ((((dg BB p2.natAbs).length : Nat) : Int) > 5))), .slot 24 (VP.bool (decide ((((dg BB p2.natAbs).length : Nat) : Int) > 5))), .fp 25 4 2, .fp 26 4 3, .slot 27 (Dz q2), .slot 28 (VP.int .i64 (((dg BB q2.natAbs).length : Nat) : Int)), .slot 29 (VP.bool (decide ((((dg BB q2.natAbs).length : Nat) : Int) > 5))), .slot 30 (VP.bool (decide ((((dg BB q2.natAbs).length : Nat) : Int) > 5))), .slot 31 (VP.bool (decide ((((dg BB q2.natAbs).length : Nat) : Int) > 5))), .slot 32 (VP.undef), .slot 33 (VP.undef), .slot 34 (VP.undef), .slot 35 (VP.bool true), .slot 2 (VP.bool true)]) [0, 1, 2, 3, 4, 5, 6, 7, 8, 9, 10, 11, 12, 13, 14, 15, 16, 17, 18, 19, 20, 21, 22, 23, 24, 25, 26, 27, 28, 29, 30, 31, 32] rfl ?_
    refine nx_then ?_
    refine t_ret ?_
    refine rt_block ?_
    refine rt_then ?_
    refine rt_then ?_
    refine rt_block ?_
    refine rt_then ?_
    exact rt_one rfl (res_tmp 32 rfl)
abbrev fodd3_EED_c (p0 q0 : Int) (p1 q1 : Int) (p2 q2 : Int) : List VP := [Bz p0, Dz p0, Bz q0, Dz q0, Bz p1, Dz p1, Bz q1, Dz q1, Bz p2, Dz p2, Bz q2, Dz q2]
set_option maxRecDepth 100000 in
set_option maxHeartbeats 4000000 in
theorem fodd3_EED (p0 q0 : Int) (hp0 : L p0 ≤ 5) (hq0 : L q0 ≤ 5) (hb0 : rightF p0 q0 = true) (p1 q1 : Int) (hp1 : L p1 ≤ 5) (hq1 : L q1 ≤ 5) (hb1 : rightF p1 q1 = true) (p2 q2 : Int) (hp2 : L p2 ≤ 5) (hq2 : L q2 ≤ 5) (hb2 : rightF p2 q2 = false) : Spec Try.prog 16 [isRows 3 (fodd3_EED_c p0 q0 p1 q1 p2 q2)] (VP.bool true) := by
  refine spec_ofP (xs := [.rows 3 (fodd3_EED_c p0 q0 p1 q1 p2 q2)]) 37 [4] Try.func16 rfl Try.ntmps16 rfl fun w0 => ?_
  refine t_seq ?_
  refine t_region (F := ⟨_, _, _, _⟩) [.rows 0 3 (fodd3_EED_c p0 q0 p1 q1 p2 q2)] [] [(0, .slot 2 (VP.bool false))] [] [0] [] rfl rfl follow rfl ⟨
    .inl ⟨wants_plain rfl, does_move _ (.inr rfl) rfl rfl rfl rfl (ar_const (fun _ => rfl))⟩,
    trivial⟩ ?_
  refine nx_sub (fs' := [.rows 0 3 (fodd3_EED_c p0 q0 p1 q1 p2 q2), .slot 2 (VP.bool false)]) [0, 1] rfl ?_
  refine nx_then ?_
  refine t_seq ?_
  refine t_seq ?_
  refine t_region (F := ⟨_, _, _, _⟩) [.rows 0 3 (fodd3_EED_c p0 q0 p1 q1 p2 q2), .slot 2 (VP.bool false)] [] [(0, .rows 5 3 (fodd3_EED_c p0 q0 p1 q1 p2 q2)), (1, .slot 6 (VP.int .i64 ((3 : Nat) : Int))), (2, .slot 7 (VP.int .i64 0))] [] [0, 1] [] rfl rfl follow rfl ⟨
    .inl ⟨wants_plain rfl, does_moveRows _ (.inl rfl) rfl rfl rfl rfl rfl (av_fs 0 rfl)⟩,
    .inl ⟨wants_plain rfl, does_lenRows _ _ rfl (by kernel_rfl) rfl rfl rfl rfl rfl (av_rs 0 rfl rfl)⟩,
    .inl ⟨wants_plain rfl, does_move _ (.inl rfl) rfl rfl rfl rfl (ar_const (fun _ => rfl))⟩,
    trivial⟩ ?_
  refine nx_sub (fs' := [.slot 2 (VP.bool false), .rows 5 3 (fodd3_EED_c p0 q0 p1 q1 p2 q2), .slot 6 (VP.int .i64 ((3 : Nat) : Int)), .slot 7 (VP.int .i64 0)]) [1, 2, 3, 4] rfl ?_
  refine nx_then ?_
  refine t_block ?_
  refine t_loop (σ := {k : Nat // k ≤ 2}) (fun s => [.rows 5 3 (fodd3_EED_c p0 q0 p1 q1 p2 q2), .slot 6 (VP.int .i64 ((3 : Nat) : Int)), .slot 7 (VP.int .i64 ((s.1 : Nat) : Int))]) (fun s => 3 - s.1) (⟨0, by decide⟩) [1, 2, 3] rfl ?_
  intro s
  obtain ⟨k, hk⟩ := s
  have hc : k = 0 ∨ k = 1 ∨ k = 2 := by omega
  rcases hc with rfl | rfl | rfl
  case inl =>
    refine t_seq ?_
    refine t_region (F := ⟨_, _, _, _⟩) [.rows 5 3 (fodd3_EED_c p0 q0 p1 q1 p2 q2), .slot 6 (VP.int .i64 ((3 : Nat) : Int)), .slot 7 (VP.int .i64 ((0 : Nat) : Int))] [] [(0, .slot 8 (VP.bool (decide (((0 : Nat) : Int) < ((3 : Nat) : Int)))))] [] [0, 1, 2] [] rfl rfl follow rfl ⟨
      .inl ⟨wants_plain rfl, does_cmp (m := ((0 : Nat) : Int)) (n := ((3 : Nat) : Int)) _ _ _ _ _ rfl rfl rfl rfl rfl rfl .i64 (ar_tmp (av_fs 2 rfl)) (ar_tmp (av_fs 1 rfl))⟩,
      trivial⟩ ?_
    refine nx_sub (fs' := [.rows 5 3 (fodd3_EED_c p0 q0 p1 q1 p2 q2), .slot 6 (VP.int .i64 ((3 : Nat) : Int)), .slot 7 (VP.int .i64 ((0 : Nat) : Int)), .slot 8 (VP.bool (decide (((0 : Nat) : Int) < ((3 : Nat) : Int))))]) [0, 1, 2, 3] rfl ?_
    refine nx_then ?_
    refine t_seq ?_
    refine t_cond_te 3 rfl rfl ?_
    refine t_skip ?_
    refine nx_then ?_
    refine t_seq ?_
    refine t_block ?_
    refine t_seq ?_
    refine t_region (F := ⟨_, _, _, _⟩) [.rows 5 3 (fodd3_EED_c p0 q0 p1 q1 p2 q2), .slot 6 (VP.int .i64 ((3 : Nat) : Int)), .slot 7 (VP.int .i64 ((0 : Nat) : Int)), .slot 8 (VP.bool (decide (((0 : Nat) : Int) < ((3 : Nat) : Int))))] [] [(0, .rp 9 5 0), (1, .slot 10 (VP.agg [Bz p0, Dz p0, Bz q0, Dz q0])), (2, .own 4 26 4), (3, .box 4 26 [Bz p0, Dz p0, Bz q0, Dz q0])] [] [0, 1, 2, 3] [] rfl rfl follow rfl ⟨
      .inl ⟨wants_plain rfl, does_indexRows (m := 0) (sz := 4) _ _ rfl Try.underlying122 (fun w => run_sizeAgg ty_agg_api_Frac w) rfl rfl rfl rfl rfl rfl (by decide) rfl (av_fs 0 rfl) (ar_tmp (av_fs 2 rfl))⟩,
      .inl ⟨wants_plain rfl, does_loadRows _ rfl ty_agg_api_Frac rfl rfl rfl rfl rfl rfl rfl (av_rs 0 rfl rfl) (av_fs 0 rfl)⟩,
      .inl ⟨wants_plain rfl, does_allocOwn [Bz 0, Dz 0, Bz 0, Dz 0] ty_zero_api_Frac rfl rfl rfl rfl rfl z_frac rfl⟩,
      .inl ⟨wants_plain rfl, does_storeNew 4 _ _ ty_agg_api_Frac rfl rfl rfl rfl rfl (pt_own (av_rs 2 rfl rfl)) (av_rs 2 rfl rfl) (ar_tmp (av_rs 1 rfl rfl))⟩,
      trivial⟩ ?_
    refine nx_sub (fs' := [.rows 5 3 (fodd3_EED_c p0 q0 p1 q1 p2 q2), .slot 6 (VP.int .i64 ((3 : Nat) : Int)), .slot 7 (VP.int .i64 ((0 : Nat) : Int)), .slot 8 (VP.bool (decide (((0 : Nat) : Int) < ((3 : Nat) : Int)))), .rp 9 5 0, .slot 10 (VP.agg [Bz p0, Dz p0, Bz q0, Dz q0]), .box 4 26 [Bz p0, Dz p0, Bz q0, Dz q0]]) [0, 1, 2, 3, 4, 5, 7] rfl ?_
    refine nx_then ?_
    refine t_seq ?_
    refine t_region (F := ⟨_, _, _, _⟩) [.rows 5 3 (fodd3_EED_c p0 q0 p1 q1 p2 q2), .slot 6 (VP.int .i64 ((3 : Nat) : Int)), .slot 7 (VP.int .i64 ((0 : Nat) : Int)), .slot 8 (VP.bool (decide (((0 : Nat) : Int) < ((3 : Nat) : Int)))), .rp 9 5 0, .slot 10 (VP.agg [Bz p0, Dz p0, Bz q0, Dz q0]), .box 4 26 [Bz p0, Dz p0, Bz q0, Dz q0]] [] [(0, .fp 11 4 0), (1, .slot 12 (INT p0)), (2, .fp 13 4 2), (3, .slot 14 (INT q0)), (4, .arr 15 24 2 [Bz p0, Dz p0, Bz q0, Dz q0]), (5, .slot 16 (VP.bool false)), (6, .slot 17 (VP.bool false)), (7, .fp 18 4 0), (8, .fp 19 4 1), (9, .slot 20 (Dz p0)), (10, .slot 21 (VP.int .i64 (((dg BB p0.natAbs).length : Nat) : Int))), (11, .slot 22 (VP.bool (decide ((((dg BB p0.natAbs).length : Nat) : Int) > 5)))), (12, .slot 23 (VP.bool (decide ((((dg BB p0.natAbs).length : Nat) : Int) > 5)))), (13, .slot 24 (VP.bool (decide ((((dg BB p0.natAbs).length : Nat) : Int) > 5)))), (14, .fp 25 4 2), (15, .fp 26 4 3), (16, .slot 27 (Dz q0)), (17, .slot 28 (VP.int .i64 (((dg BB q0.natAbs).length : Nat) : Int))), (18, .slot 29 (VP.bool (decide ((((dg BB q0.natAbs).length : Nat) : Int) > 5)))), (19, .slot 30 (VP.bool (decide ((((dg BB q0.natAbs).length : Nat) : Int) > 5)))), (20, .slot 31 (VP.bool (decide ((((dg BB q0.natAbs).length : Nat) : Int) > 5)))), (21, .slot 32 (VP.agg [Bz p0, Dz p0, Bz q0, Dz q0])), (22, .slot 33 (VP.bool (rightF p0 q0))), (23, .slot 34 (VP.bool false)), (24, .slot 35 (VP.bool false))] [] [0, 1, 2, 3, 4, 5, 6] [] rfl rfl follow rfl ⟨
      .inl ⟨wants_plain rfl, does_field _ _ _ 0 ty_f0_api_Frac rfl rfl rfl rfl rfl rfl rfl (pt_box (av_fs 6 rfl))⟩,
      .inl ⟨wants_plain rfl, does_loadAgg _ ty_agg_api_Int rfl rfl rfl rfl rfl rfl (pt_fp (av_rs 0 rfl rfl)) (av_fs 6 rfl)⟩,
      .inl ⟨wants_plain rfl, does_field _ _ _ 2 ty_f1_api_Frac rfl rfl rfl rfl rfl rfl rfl (pt_box (av_fs 6 rfl))⟩,
      .inl ⟨wants_plain rfl, does_loadAgg _ ty_agg_api_Int rfl rfl rfl rfl rfl rfl (pt_fp (av_rs 2 rfl rfl)) (av_fs 6 rfl)⟩,
      .inl ⟨wants_plain rfl, does_buildSlice (sz := 2) [Bz 0, Dz 0, Bz 0, Dz 0] ty_zero_api_Int (by kernel_rfl) (fun w => run_sizeAgg ty_agg_api_Int w) rfl rfl rfl rfl rfl rfl (by kernel_rfl) (fun w => by exact z_int_2 w) (.cons 0 [Bz p0, Dz p0] rfl rfl (ar_cells_agg (ar_tmp (av_rs 1 rfl rfl))) (.cons 2 [Bz q0, Dz q0] rfl rfl (ar_cells_agg (ar_tmp (av_rs 3 rfl rfl))) (.nil _)))⟩,
      .inl ⟨wants_plain rfl, does_call (s_even2 p0 q0 (lle hp0 (by decide)) (lle hq0 (by decide))) rfl hb_collator_collatorlaw01_Odd rfl rfl rfl rfl ⟨(ar_arr (av_rs 4 rfl rfl)), trivial⟩⟩,
      .inl ⟨wants_plain rfl, does_move _ (.inl rfl) rfl rfl rfl rfl (ar_tmp (av_rs 5 rfl rfl))⟩,
      .inl ⟨wants_guard false rfl rfl rfl (av_rs 6 rfl rfl), does_field _ _ _ 0 ty_f0_api_Frac rfl rfl rfl rfl rfl rfl rfl (pt_box (av_fs 6 rfl))⟩,
      .inl ⟨wants_guard false rfl rfl rfl (av_rs 6 rfl rfl), does_field _ _ _ 1 ty_f1_api_Int rfl rfl rfl rfl rfl rfl rfl (pt_fp (av_rs 7 rfl rfl))⟩,
      .inl ⟨wants_guard false rfl rfl rfl (av_rs 6 rfl rfl), does_loadOne _ ty_one___uint32 rfl rfl rfl rfl rfl rfl (pt_fp (av_rs 8 rfl rfl)) (av_fs 6 rfl)⟩,
      .inl ⟨wants_guard false rfl rfl rfl (av_rs 6 rfl rfl), does_len _ _ (by kernel_rfl) rfl rfl rfl rfl rfl (ar_tmp (av_rs 9 rfl rfl))⟩,
      .inl ⟨wants_guard false rfl rfl rfl (av_rs 6 rfl rfl), does_cmp (m := (((dg BB p0.natAbs).length : Nat) : Int)) (n := 5) _ _ _ _ _ rfl rfl rfl rfl rfl rfl .i64 (ar_tmp (av_rs 10 rfl rfl)) (ar_const (fun _ => rfl))⟩,
      .inl ⟨wants_plain rfl, does_pick false _ _ _ rfl rfl rfl rfl rfl (ar_tmp (av_rs 6 rfl rfl)) (ar_tmp (av_rs 11 rfl rfl))⟩,
      .inl ⟨wants_plain rfl, does_move _ (.inl rfl) rfl rfl rfl rfl (ar_tmp (av_rs 12 rfl rfl))⟩,
      .inl ⟨wants_guard false rfl rfl rfl (av_bool (gt5_no hp0) (av_rs 13 rfl rfl)), does_field _ _ _ 2 ty_f1_api_Frac rfl rfl rfl rfl rfl rfl rfl (pt_box (av_fs 6 rfl))⟩,
      .inl ⟨wants_guard false rfl rfl rfl (av_bool (gt5_no hp0) (av_rs 13 rfl rfl)), does_field _ _ _ 1 ty_f1_api_Int rfl rfl rfl rfl rfl rfl rfl (pt_fp (av_rs 14 rfl rfl))⟩,
      .inl ⟨wants_guard false rfl rfl rfl (av_bool (gt5_no hp0) (av_rs 13 rfl rfl)), does_loadOne _ ty_one___uint32 rfl rfl rfl rfl rfl rfl (pt_fp (av_rs 15 rfl rfl)) (av_fs 6 rfl)⟩,
      .inl ⟨wants_guard false rfl rfl rfl (av_bool (gt5_no hp0) (av_rs 13 rfl rfl)), does_len _ _ (by kernel_rfl) rfl rfl rfl rfl rfl (ar_tmp (av_rs 16 rfl rfl))⟩,
      .inl ⟨wants_guard false rfl rfl rfl (av_bool (gt5_no hp0) (av_rs 13 rfl rfl)), does_cmp (m := (((dg BB q0.natAbs).length : Nat) : Int)) (n := 5) _ _ _ _ _ rfl rfl rfl rfl rfl rfl .i64 (ar_tmp (av_rs 17 rfl rfl)) (ar_const (fun _ => rfl))⟩,
      .inl ⟨wants_plain rfl, does_pick false _ _ _ rfl rfl rfl rfl rfl (ar_tmp (av_bool (gt5_no hp0) (av_rs 13 rfl rfl))) (ar_tmp (av_rs 18 rfl rfl))⟩,
      .inl ⟨wants_plain rfl, does_move _ (.inl rfl) rfl rfl rfl rfl (ar_tmp (av_rs 19 rfl rfl))⟩,
      .inl ⟨wants_guard false rfl rfl rfl (av_bool (gt5_no hq0) (av_rs 20 rfl rfl)), does_loadAgg _ ty_agg_api_Frac rfl rfl rfl rfl rfl rfl (pt_box (av_fs 6 rfl)) (av_fs 6 rfl)⟩,
      .inl ⟨wants_guard false rfl rfl rfl (av_bool (gt5_no hq0) (av_rs 20 rfl rfl)), does_call (g_right p0 q0 (lle hp0 (by decide)) (lle hq0 (by decide))) rfl hb_collator_collatorref02_Right rfl rfl rfl rfl ⟨(ar_tmp (av_rs 21 rfl rfl)), trivial⟩⟩,
      .inl ⟨wants_guard false rfl rfl rfl (av_bool (gt5_no hq0) (av_rs 20 rfl rfl)), does_not true _ _ rfl rfl rfl rfl rfl (ar_tmp (av_bool hb0 (av_rs 22 rfl rfl)))⟩,
      .inl ⟨wants_plain rfl, does_pick false _ _ _ rfl rfl rfl rfl rfl (ar_tmp (av_bool (gt5_no hq0) (av_rs 20 rfl rfl))) (ar_tmp (av_rs 23 rfl rfl))⟩,
      trivial⟩ ?_
    refine nx_sub (fs' := [.rows 5 3 (fodd3_EED_c p0 q0 p1 q1 p2 q2), .slot 6 (VP.int .i64 ((3 : Nat) : Int)), .slot 7 (VP.int .i64 ((0 : Nat) : Int)), .slot 8 (VP.bool (decide (((0 : Nat) : Int) < ((3 : Nat) : Int)))), .rp 9 5 0, .slot 10 (VP.agg [Bz p0, Dz p0, Bz q0, Dz q0]), .box 4 26 [Bz p0, Dz p0, Bz q0, Dz q0], .fp 11 4 0, .slot 12 (INT p0), .fp 13 4 2, .slot 14 (INT q0), .arr 15 24 2 [Bz p0, Dz p0, Bz q0, Dz q0], .slot 16 (VP.bool false), .slot 17 (VP.bool false), .fp 18 4 0, .fp 19 4 1, .slot 20 (Dz p0), .slot 21 (VP.int .i64 (((dg BB p0.natAbs).length : Nat) : Int)), .slot 22 (VP.bool (decide ((((dg BB p0.natAbs).length : Nat) : Int) > 5))), .slot 23 (VP.bool (decide ((((dg BB p0.natAbs).length : Nat) : Int) > 5))), .slot 24 (VP.bool (decide ((((dg BB p0.natAbs).length : Nat) : Int) > 5))), .fp 25 4 2, .fp 26 4 3, .slot 27 (Dz q0), .slot 28 (VP.int .i64 (((dg BB q0.natAbs).length : Nat) : Int)), .slot 29 (VP.bool (decide ((((dg BB q0.natAbs).length : Nat) : Int) > 5))), .slot 30 (VP.bool (decide ((((dg BB q0.natAbs).length : Nat) : Int) > 5))), .slot 31 (VP.bool (decide ((((dg BB q0.natAbs).length : Nat) : Int) > 5))), .slot 32 (VP.agg [Bz p0, Dz p0, Bz q0, Dz q0]), .slot 33 (VP.bool (rightF p0 q0)), .slot 34 (VP.bool false), .slot 35 (VP.bool false)]) [0, 1, 2, 3, 4, 5, 6, 7, 8, 9, 10, 11, 12, 13, 14, 15, 16, 17, 18, 19, 20, 21, 22, 23, 24, 25, 26, 27, 28, 29, 30, 31] rfl ?_
    refine nx_then ?_
    refine t_cond_f 31 rfl ?_
    refine t_skip ?_
    refine nx_block ?_
    refine nx_then ?_
    refine t_region (F := ⟨_, _, _, _⟩) [.rows 5 3 (fodd3_EED_c p0 q0 p1 q1 p2 q2), .slot 6 (VP.int .i64 ((3 : Nat) : Int)), .slot 8 (VP.bool (decide (((0 : Nat) : Int) < ((3 : Nat) : Int)))), .rp 9 5 0, .slot 10 (VP.agg [Bz p0, Dz p0, Bz q0, Dz q0]), .box 4 26 [Bz p0, Dz p0, Bz q0, Dz q0], .fp 11 4 0, .slot 12 (INT p0), .fp 13 4 2, .slot 14 (INT q0), .arr 15 24 2 [Bz p0, Dz p0, Bz q0, Dz q0], .slot 16 (VP.bool false), .slot 17 (VP.bool false), .fp 18 4 0, .fp 19 4 1, .slot 20 (Dz p0), .slot 21 (VP.int .i64 (((dg BB p0.natAbs).length : Nat) : Int)), .slot 22 (VP.bool (decide ((((dg BB p0.natAbs).length : Nat) : Int) > 5))), .slot 23 (VP.bool (decide ((((dg BB p0.natAbs).length : Nat) : Int) > 5))), .slot 24 (VP.bool (decide ((((dg BB p0.natAbs).length : Nat) : Int) > 5))), .fp 25 4 2, .fp 26 4 3, .slot 27 (Dz q0), .slot 28 (VP.int .i64 (((dg BB q0.natAbs).length : Nat) : Int)), .slot 29 (VP.bool (decide ((((dg BB q0.natAbs).length : Nat) : Int) > 5))), .slot 30 (VP.bool (decide ((((dg BB q0.natAbs).length : Nat) : Int) > 5))), .slot 31 (VP.bool (decide ((((dg BB q0.natAbs).length : Nat) : Int) > 5))), .slot 32 (VP.agg [Bz p0, Dz p0, Bz q0, Dz q0]), .slot 33 (VP.bool (rightF p0 q0)), .slot 34 (VP.bool false), .slot 35 (VP.bool false)] [(1, .slot 7 (VP.int .i64 ((0 : Nat) : Int)))] [(0, .slot 36 (VP.int .i64 ((1 : Nat) : Int))), (1, .slot 7 (VP.int .i64 ((1 : Nat) : Int)))] [] [0, 1, 3, 4, 5, 6, 7, 8, 9, 10, 11, 12, 13, 14, 15, 16, 17, 18, 19, 20, 21, 22, 23, 24, 25, 26, 27, 28, 29, 30, 31] [2] rfl rfl follow rfl ⟨
      .inl ⟨wants_plain rfl, does_addInt (m := ((0 : Nat) : Int)) (n := 1) _ _ _ _ rfl rfl rfl rfl rfl (by omega) (ar_tmp (av_os 0 rfl rfl)) (ar_const (fun _ => rfl))⟩,
      .inl ⟨wants_plain rfl, does_move _ (.inl rfl) rfl rfl rfl rfl (ar_tmp (av_rs 0 rfl rfl))⟩,
      trivial⟩ ?_
    refine nx_sub (fs' := [.rows 5 3 (fodd3_EED_c p0 q0 p1 q1 p2 q2), .slot 6 (VP.int .i64 ((3 : Nat) : Int)), .slot 8 (VP.bool (decide (((0 : Nat) : Int) < ((3 : Nat) : Int)))), .rp 9 5 0, .slot 10 (VP.agg [Bz p0, Dz p0, Bz q0, Dz q0]), .box 4 26 [Bz p0, Dz p0, Bz q0, Dz q0], .fp 11 4 0, .slot 12 (INT p0), .fp 13 4 2, .slot 14 (INT q0), .arr 15 24 2 [Bz p0, Dz p0, Bz q0, Dz q0], .slot 16 (VP.bool false), .slot 17 (VP.bool false), .fp 18 4 0, .fp 19 4 1, .slot 20 (Dz p0), .slot 21 (VP.int .i64 (((dg BB p0.natAbs).length : Nat) : Int)), .slot 22 (VP.bool (decide ((((dg BB p0.natAbs).length : Nat) : Int) > 5))), .slot 23 (VP.bool (decide ((((dg BB p0.natAbs).length : Nat) : Int) > 5))), .slot 24 (VP.bool (decide ((((dg BB p0.natAbs).length : Nat) : Int) > 5))), .fp 25 4 2, .fp 26 4 3, .slot 27 (Dz q0), .slot 28 (VP.int .i64 (((dg BB q0.natAbs).length : Nat) : Int)), .slot 29 (VP.bool (decide ((((dg BB q0.natAbs).length : Nat) : Int) > 5))), .slot 30 (VP.bool (decide ((((dg BB q0.natAbs).length : Nat) : Int) > 5))), .slot 31 (VP.bool (decide ((((dg BB q0.natAbs).length : Nat) : Int) > 5))), .slot 32 (VP.agg [Bz p0, Dz p0, Bz q0, Dz q0]), .slot 33 (VP.bool (rightF p0 q0)), .slot 34 (VP.bool false), .slot 35 (VP.bool false), .slot 36 (VP.int .i64 ((1 : Nat) : Int)), .slot 7 (VP.int .i64 ((1 : Nat) : Int))]) [0, 1, 2, 3, 4, 5, 6, 7, 8, 9, 10, 11, 12, 13, 14, 15, 16, 17, 18, 19, 20, 21, 22, 23, 24, 25, 26, 27, 28, 29, 30, 31, 32] rfl ?_
    exact nx_round ⟨1, by decide⟩ (by show 3 - 1 < 3 - 0; decide) [0, 1, 32] rfl
  case inr.inl =>
    refine t_seq ?_
    refine t_region (F := ⟨_, _, _, _⟩) [.rows 5 3 (fodd3_EED_c p0 q0 p1 q1 p2 q2), .slot 6 (VP.int .i64 ((3 : Nat) : Int)), .slot 7 (VP.int .i64 ((1 : Nat) : Int))] [] [(0, .slot 8 (VP.bool (decide (((1 : Nat) : Int) < ((3 : Nat) : Int)))))] [] [0, 1, 2] [] rfl rfl follow rfl ⟨
      .inl ⟨wants_plain rfl, does_cmp (m := ((1 : Nat) : Int)) (n := ((3 : Nat) : Int)) _ _ _ _ _ rfl rfl rfl rfl rfl rfl .i64 (ar_tmp (av_fs 2 rfl)) (ar_tmp (av_fs 1 rfl))⟩,
      trivial⟩ ?_
    refine nx_sub (fs' := [.rows 5 3 (fodd3_EED_c p0 q0 p1 q1 p2 q2), .slot 6 (VP.int .i64 ((3 : Nat) : Int)), .slot 7 (VP.int .i64 ((1 : Nat) : Int)), .slot 8 (VP.bool (decide (((1 : Nat) : Int) < ((3 : Nat) : Int))))]) [0, 1, 2, 3] rfl ?_
    refine nx_then ?_
    refine t_seq ?_
    refine t_cond_te 3 rfl rfl ?_
    refine t_skip ?_
    refine nx_then ?_
    refine t_seq ?_
    refine t_block ?_
    refine t_seq ?_
    refine t_region (F := ⟨_, _, _, _⟩) [.rows 5 3 (fodd3_EED_c p0 q0 p1 q1 p2 q2), .slot 6 (VP.int .i64 ((3 : Nat) : Int)), .slot 7 (VP.int .i64 ((1 : Nat) : Int)), .slot 8 (VP.bool (decide (((1 : Nat) : Int) < ((3 : Nat) : Int))))] [] [(0, .rp 9 5 4), (1, .slot 10 (VP.agg [Bz p1, Dz p1, Bz q1, Dz q1])), (2, .own 4 26 4), (3, .box 4 26 [Bz p1, Dz p1, Bz q1, Dz q1])] [] [0, 1, 2, 3] [] rfl rfl follow rfl ⟨
      .inl ⟨wants_plain rfl, does_indexRows (m := 1) (sz := 4) _ _ rfl Try.underlying122 (fun w => run_sizeAgg ty_agg_api_Frac w) rfl rfl rfl rfl rfl rfl (by decide) rfl (av_fs 0 rfl) (ar_tmp (av_fs 2 rfl))⟩,
      .inl ⟨wants_plain rfl, does_loadRows _ rfl ty_agg_api_Frac rfl rfl rfl rfl rfl rfl rfl (av_rs 0 rfl rfl) (av_fs 0 rfl)⟩,
      .inl ⟨wants_plain rfl, does_allocOwn [Bz 0, Dz 0, Bz 0, Dz 0] ty_zero_api_Frac rfl rfl rfl rfl rfl z_frac rfl⟩,
      .inl ⟨wants_plain rfl, does_storeNew 4 _ _ ty_agg_api_Frac rfl rfl rfl rfl rfl (pt_own (av_rs 2 rfl rfl)) (av_rs 2 rfl rfl) (ar_tmp (av_rs 1 rfl rfl))⟩,
      trivial⟩ ?_
    refine nx_sub (fs' := [.rows 5 3 (fodd3_EED_c p0 q0 p1 q1 p2 q2), .slot 6 (VP.int .i64 ((3 : Nat) : Int)), .slot 7 (VP.int .i64 ((1 : Nat) : Int)), .slot 8 (VP.bool (decide (((1 : Nat) : Int) < ((3 : Nat) : Int)))), .rp 9 5 4, .slot 10 (VP.agg [Bz p1, Dz p1, Bz q1, Dz q1]), .box 4 26 [Bz p1, Dz p1, Bz q1, Dz q1]]) [0, 1, 2, 3, 4, 5, 7] rfl ?_
    refine nx_then ?_
    refine t_seq ?_
    refine t_region (F := ⟨_, _, _, _⟩) [.rows 5 3 (fodd3_EED_c p0 q0 p1 q1 p2 q2), .slot 6 (VP.int .i64 ((3 : Nat) : Int)), .slot 7 (VP.int .i64 ((1 : Nat) : Int)), .slot 8 (VP.bool (decide (((1 : Nat) : Int) < ((3 : Nat) : Int)))), .rp 9 5 4, .slot 10 (VP.agg [Bz p1, Dz p1, Bz q1, Dz q1]), .box 4 26 [Bz p1, Dz p1, Bz q1, Dz q1]] [] [(0, .fp 11 4 0), (1, .slot 12 (INT p1)), (2, .fp 13 4 2), (3, .slot 14 (INT q1)), (4, .arr 15 24 2 [Bz p1, Dz p1, Bz q1, Dz q1]), (5, .slot 16 (VP.bool false)), (6, .slot 17 (VP.bool false)), (7, .fp 18 4 0), (8, .fp 19 4 1), (9, .slot 20 (Dz p1)), (10, .slot 21 (VP.int .i64 (((dg BB p1.natAbs).length : Nat) : Int))), (11, .slot 22 (VP.bool (decide ((((dg BB p1.natAbs).length : Nat) : Int) > 5)))), (12, .slot 23 (VP.bool (decide ((((dg BB p1.natAbs).length : Nat) : Int) > 5)))), (13, .slot 24 (VP.bool (decide ((((dg BB p1.natAbs).length : Nat) : Int) > 5)))), (14, .fp 25 4 2), (15, .fp 26 4 3), (16, .slot 27 (Dz q1)), (17, .slot 28 (VP.int .i64 (((dg BB q1.natAbs).length : Nat) : Int))), (18, .slot 29 (VP.bool (decide ((((dg BB q1.natAbs).length : Nat) : Int) > 5)))), (19, .slot 30 (VP.bool (decide ((((dg BB q1.natAbs).length : Nat) : Int) > 5)))), (20, .slot 31 (VP.bool (decide ((((dg BB q1.natAbs).length : Nat) : Int) > 5)))), (21, .slot 32 (VP.agg [Bz p1, Dz p1, Bz q1, Dz q1])), (22, .slot 33 (VP.bool (rightF p1 q1))), (23, .slot 34 (VP.bool false)), (24, .slot 35 (VP.bool false))] [] [0, 1, 2, 3, 4, 5, 6] [] rfl rfl follow rfl ⟨
      .inl ⟨wants_plain rfl, does_field _ _ _ 0 ty_f0_api_Frac rfl rfl rfl rfl rfl rfl rfl (pt_box (av_fs 6 rfl))⟩,
      .inl ⟨wants_plain rfl, does_loadAgg _ ty_agg_api_Int rfl rfl rfl rfl rfl rfl (pt_fp (av_rs 0 rfl rfl)) (av_fs 6 rfl)⟩,
      .inl ⟨wants_plain rfl, does_field _ _ _ 2 ty_f1_api_Frac rfl rfl rfl rfl rfl rfl rfl (pt_box (av_fs 6 rfl))⟩,
      .inl ⟨wants_plain rfl, does_loadAgg _ ty_agg_api_Int rfl rfl rfl rfl rfl rfl (pt_fp (av_rs 2 rfl rfl)) (av_fs 6 rfl)⟩,
      .inl ⟨wants_plain rfl, does_buildSlice (sz := 2) [Bz 0, Dz 0, Bz 0, Dz 0] ty_zero_api_Int (by kernel_rfl) (fun w => run_sizeAgg ty_agg_api_Int w) rfl rfl rfl rfl rfl rfl (by kernel_rfl) (fun w => by exact z_int_2 w) (.cons 0 [Bz p1, Dz p1] rfl rfl (ar_cells_agg (ar_tmp (av_rs 1 rfl rfl))) (.cons 2 [Bz q1, Dz q1] rfl rfl (ar_cells_agg (ar_tmp (av_rs 3 rfl rfl))) (.nil _)))⟩,
      .inl ⟨wants_plain rfl, does_call (s_even2 p1 q1 (lle hp1 (by decide)) (lle hq1 (by decide))) rfl hb_collator_collatorlaw01_Odd rfl rfl rfl rfl ⟨(ar_arr (av_rs 4 rfl rfl)), trivial⟩⟩,
      .inl ⟨wants_plain rfl, does_move _ (.inl rfl) rfl rfl rfl rfl (ar_tmp (av_rs 5 rfl rfl))⟩,
      .inl ⟨wants_guard false rfl rfl rfl (av_rs 6 rfl rfl), does_field _ _ _ 0 ty_f0_api_Frac rfl rfl rfl rfl rfl rfl rfl (pt_box (av_fs 6 rfl))⟩,
      .inl ⟨wants_guard false rfl rfl rfl (av_rs 6 rfl rfl), does_field _ _ _ 1 ty_f1_api_Int rfl rfl rfl rfl rfl rfl rfl (pt_fp (av_rs 7 rfl rfl))⟩,
      .inl ⟨wants_guard false rfl rfl rfl (av_rs 6 rfl rfl), does_loadOne _ ty_one___uint32 rfl rfl rfl rfl rfl rfl (pt_fp (av_rs 8 rfl rfl)) (av_fs 6 rfl)⟩,
      .inl ⟨wants_guard false rfl rfl rfl (av_rs 6 rfl rfl), does_len _ _ (by kernel_rfl) rfl rfl rfl rfl rfl (ar_tmp (av_rs 9 rfl rfl))⟩,
      .inl ⟨wants_guard false rfl rfl rfl (av_rs 6 rfl rfl), does_cmp (m := (((dg BB p1.natAbs).length : Nat) : Int)) (n := 5) _ _ _ _ _ rfl rfl rfl rfl rfl rfl .i64 (ar_tmp (av_rs 10 rfl rfl)) (ar_const (fun _ => rfl))⟩,
      .inl ⟨wants_plain rfl, does_pick false _ _ _ rfl rfl rfl rfl rfl (ar_tmp (av_rs 6 rfl rfl)) (ar_tmp (av_rs 11 rfl rfl))⟩,
      .inl ⟨wants_plain rfl, does_move _ (.inl rfl) rfl rfl rfl rfl (ar_tmp (av_rs 12 rfl rfl))⟩,
      .inl ⟨wants_guard false rfl rfl rfl (av_bool (gt5_no hp1) (av_rs 13 rfl rfl)), does_field _ _ _ 2 ty_f1_api_Frac rfl rfl rfl rfl rfl rfl rfl (pt_box (av_fs 6 rfl))⟩,
      .inl ⟨wants_guard false rfl rfl rfl (av_bool (gt5_no hp1) (av_rs 13 rfl rfl)), does_field _ _ _ 1 ty_f1_api_Int rfl rfl rfl rfl rfl rfl rfl (pt_fp (av_rs 14 rfl rfl))⟩,
      .inl ⟨wants_guard false rfl rfl rfl (av_bool (gt5_no hp1) (av_rs 13 rfl rfl)), does_loadOne _ ty_one___uint32 rfl rfl rfl rfl rfl rfl (pt_fp (av_rs 15 rfl rfl)) (av_fs 6 rfl)⟩,
      .inl ⟨wants_guard false rfl rfl rfl (av_bool (gt5_no hp1) (av_rs 13 rfl rfl)), does_len _ _ (by kernel_rfl) rfl rfl rfl rfl rfl (ar_tmp (av_rs 16 rfl rfl))⟩,
      .inl ⟨wants_guard false rfl rfl rfl (av_bool (gt5_no hp1) (av_rs 13 rfl rfl)), does_cmp (m := (((dg BB q1.natAbs).length : Nat) : Int)) (n := 5) _ _ _ _ _ rfl rfl rfl rfl rfl rfl .i64 (ar_tmp (av_rs 17 rfl rfl)) (ar_const (fun _ => rfl))⟩,
      .inl ⟨wants_plain rfl, does_pick false _ _ _ rfl rfl rfl rfl rfl (ar_tmp (av_bool (gt5_no hp1) (av_rs 13 rfl rfl))) (ar_tmp (av_rs 18 rfl rfl))⟩,
      .inl ⟨wants_plain rfl, does_move _ (.inl rfl) rfl rfl rfl rfl (ar_tmp (av_rs 19 rfl rfl))⟩,
      .inl ⟨wants_guard false rfl rfl rfl (av_bool (gt5_no hq1) (av_rs 20 rfl rfl)), does_loadAgg _ ty_agg_api_Frac rfl rfl rfl rfl rfl rfl (pt_box (av_fs 6 rfl)) (av_fs 6 rfl)⟩,
      .inl ⟨wants_guard false rfl rfl rfl (av_bool (gt5_no hq1) (av_rs 20 rfl rfl)), does_call (g_right p1 q1 (lle hp1 (by decide)) (lle hq1 (by decide))) rfl hb_collator_collatorref02_Right rfl rfl rfl rfl ⟨(ar_tmp (av_rs 21 rfl rfl)), trivial⟩⟩,
      .inl ⟨wants_guard false rfl rfl rfl (av_bool (gt5_no hq1) (av_rs 20 rfl rfl)), does_not true _ _ rfl rfl rfl rfl rfl (ar_tmp (av_bool hb1 (av_rs 22 rfl rfl)))⟩,
      .inl ⟨wants_plain rfl, does_pick false _ _ _ rfl rfl rfl rfl rfl (ar_tmp (av_bool (gt5_no hq1) (av_rs 20 rfl rfl))) (ar_tmp (av_rs 23 rfl rfl))⟩,
      trivial⟩ ?_
    refine nx_sub (fs' := [.rows 5 3 (fodd3_EED_c p0 q0 p1 q1 p2 q2), .slot 6 (VP.int .i64 ((3 : Nat) : Int)), .slot 7 (VP.int .i64 ((1 : Nat) : Int)), .slot 8 (VP.bool (decide (((1 : Nat) : Int) < ((3 : Nat) : Int)))), .rp 9 5 4, .slot 10 (VP.agg [Bz p1, Dz p1, Bz q1, Dz q1]), .box 4 26 [Bz p1, Dz p1, Bz q1, Dz q1], .fp 11 4 0, .slot 12 (INT p1), .fp 13 4 2, .slot 14 (INT q1), .arr 15 24 2 [Bz p1, Dz p1, Bz q1, Dz q1], .slot 16 (VP.bool false), .slot 17 (VP.bool false), .fp 18 4 0, .fp 19 4 1, .slot 20 (Dz p1), .slot 21 (VP.int .i64 (((dg BB p1.natAbs).length : Nat) : Int)), .slot 22 (VP.bool (decide ((((dg BB p1.natAbs).length : Nat) : Int) > 5))), .slot 23 (VP.bool (decide ((((dg BB p1.natAbs).length : Nat) : Int) > 5))), .slot 24 (VP.bool (decide ((((dg BB p1.natAbs).length : Nat) : Int) > 5))), .fp 25 4 2, .fp 26 4 3, .slot 27 (Dz q1), .slot 28 (VP.int .i64 (((dg BB q1.natAbs).length : Nat) : Int)), .slot 29 (VP.bool (decide ((((dg BB q1.natAbs).length : Nat) : Int) > 5))), .slot 30 (VP.bool (decide ((((dg BB q1.natAbs).length : Nat) : Int) > 5))), .slot 31 (VP.bool (decide ((((dg BB q1.natAbs).length : Nat) : Int) > 5))), .slot 32 (VP.agg [Bz p1, Dz p1, Bz q1, Dz q1]), .slot 33 (VP.bool (rightF p1 q1)), .slot 34 (VP.bool false), .slot 35 (VP.bool false)]) [0, 1, 2, 3, 4, 5, 6, 7, 8, 9, 10, 11, 12, 13, 14, 15, 16, 17, 18, 19, 20, 21, 22, 23, 24, 25, 26, 27, 28, 29, 30, 31] rfl ?_
    refine nx_then ?_
    refine t_cond_f 31 rfl ?_
    refine t_skip ?_
    refine nx_block ?_
    refine nx_then ?_
    refine t_region (F := ⟨_, _, _, _⟩) [.rows 5 3 (fodd3_EED_c p0 q0 p1 q1 p2 q2), .slot 6 (VP.int .i64 ((3 : Nat) : Int)), .slot 8 (VP.bool (decide (((1 : Nat) : Int) < ((3 : Nat) : Int)))), .rp 9 5 4, .slot 10 (VP.agg [Bz p1, Dz p1, Bz q1, Dz q1]), .box 4 26 [Bz p1, Dz p1, Bz q1, Dz q1], .fp 11 4 0, .slot 12 (INT p1), .fp 13 4 2, .slot 14 (INT q1), .arr 15 24 2 [Bz p1, Dz p1, Bz q1, Dz q1], .slot 16 (VP.bool false), .slot 17 (VP.bool false), .fp 18 4 0, .fp 19 4 1, .slot 20 (Dz p1), .slot 21 (VP.int .i64 (((dg BB p1.natAbs).length : Nat) : Int)), .slot 22 (VP.bool (decide ((((dg BB p1.natAbs).length : Nat) : Int) > 5))), .slot 23 (VP.bool (decide ((((dg BB p1.natAbs).length : Nat) : Int) > 5))), .slot 24 (VP.bool (decide ((((dg BB p1.natAbs).length : Nat) : Int) > 5))), .fp 25 4 2, .fp 26 4 3, .slot 27 (Dz q1), .slot 28 (VP.int .i64 (((dg BB q1.natAbs).length : Nat) : Int)), .slot 29 (VP.bool (decide ((((dg BB q1.natAbs).length : Nat) : Int) > 5))), .slot 30 (VP.bool (decide ((((dg BB q1.natAbs).length : Nat) : Int) > 5))), .slot 31 (VP.bool (decide ((((dg BB q1.natAbs).length : Nat) : Int) > 5))), .slot 32 (VP.agg [Bz p1, Dz p1, Bz q1, Dz q1]), .slot 33 (VP.bool (rightF p1 q1)), .slot 34 (VP.bool false), .slot 35 (VP.bool false)] [(1, .slot 7 (VP.int .i64 ((1 : Nat) : Int)))] [(0, .slot 36 (VP.int .i64 ((2 : Nat) : Int))), (1, .slot 7 (VP.int .i64 ((2 : Nat) : Int)))] [] [0, 1, 3, 4, 5, 6, 7, 8, 9, 10, 11, 12, 13, 14, 15, 16, 17, 18, 19, 20, 21, 22, 23, 24, 25, 26, 27, 28, 29, 30, 31] [2] rfl rfl follow rfl ⟨
      .inl ⟨wants_plain rfl, does_addInt (m := ((1 : Nat) : Int)) (n := 1) _ _ _ _ rfl rfl rfl rfl rfl (by omega) (ar_tmp (av_os 0 rfl rfl)) (ar_const (fun _ => rfl))⟩,
      .inl ⟨wants_plain rfl, does_move _ (.inl rfl) rfl rfl rfl rfl (ar_tmp (av_rs 0 rfl rfl))⟩,
      trivial⟩ ?_
    refine nx_sub (fs' := [.rows 5 3 (fodd3_EED_c p0 q0 p1 q1 p2 q2), .slot 6 (VP.int .i64 ((3 : Nat) : Int)), .slot 8 (VP.bool (decide (((1 : Nat) : Int) < ((3 : Nat) : Int)))), .rp 9 5 4, .slot 10 (VP.agg [Bz p1, Dz p1, Bz q1, Dz q1]), .box 4 26 [Bz p1, Dz p1, Bz q1, Dz q1], .fp 11 4 0, .slot 12 (INT p1), .fp 13 4 2, .slot 14 (INT q1), .arr 15 24 2 [Bz p1, Dz p1, Bz q1, Dz q1], .slot 16 (VP.bool false), .slot 17 (VP.bool false), .fp 18 4 0, .fp 19 4 1, .slot 20 (Dz p1), .slot 21 (VP.int .i64 (((dg BB p1.natAbs).length : Nat) : Int)), .slot 22 (VP.bool (decide ((((dg BB p1.natAbs).length : Nat) : Int) > 5))), .slot 23 (VP.bool (decide ((((dg BB p1.natAbs).length : Nat) : Int) > 5))), .slot 24 (VP.bool (decide ((((dg BB p1.natAbs).length : Nat) : Int) > 5))), .fp 25 4 2, .fp 26 4 3, .slot 27 (Dz q1), .slot 28 (VP.int .i64 (((dg BB q1.natAbs).length : Nat) : Int)), .slot 29 (VP.bool (decide ((((dg BB q1.natAbs).length : Nat) : Int) > 5))), .slot 30 (VP.bool (decide ((((dg BB q1.natAbs).length : Nat) : Int) > 5))), .slot 31 (VP.bool (decide ((((dg BB q1.natAbs).length : Nat) : Int) > 5))), .slot 32 (VP.agg [Bz p1, Dz p1, Bz q1, Dz q1]), .slot 33 (VP.bool (rightF p1 q1)), .slot 34 (VP.bool false), .slot 35 (VP.bool false), .slot 36 (VP.int .i64 ((2 : Nat) : Int)), .slot 7 (VP.int .i64 ((2 : Nat) : Int))]) [0, 1, 2, 3, 4, 5, 6, 7, 8, 9, 10, 11, 12, 13, 14, 15, 16, 17, 18, 19, 20, 21, 22, 23, 24, 25, 26, 27, 28, 29, 30, 31, 32] rfl ?_
    exact nx_round ⟨2, by decide⟩ (by show 3 - 2 < 3 - 1; decide) [0, 1, 32] rfl
  case inr.inr =>
    refine t_seq ?_
    refine t_region (F := ⟨_, _, _, _⟩) [.rows 5 3 (fodd3_EED_c p0 q0 p1 q1 p2 q2), .slot 6 (VP.int .i64 ((3 : Nat) : Int)), .slot 7 (VP.int .i64 ((2 : Nat) : Int))] [] [(0, .slot 8 (VP.bool (decide (((2 : Nat) : Int) < ((3 : Nat) : Int)))))] [] [0, 1, 2] [] rfl rfl follow rfl ⟨
      .inl ⟨wants_plain rfl, does_cmp (m := ((2 : Nat) : Int)) (n := ((3 : Nat) : Int)) _ _ _ _ _ rfl rfl rfl rfl rfl rfl .i64 (ar_tmp (av_fs 2 rfl)) (ar_tmp (av_fs 1 rfl))⟩,
      trivial⟩ ?_
    refine nx_sub (fs' := [.rows 5 3 (fodd3_EED_c p0 q0 p1 q1 p2 q2), .slot 6 (VP.int .i64 ((3 : Nat) : Int)), .slot 7 (VP.int .i64 ((2 : Nat) : Int)), .slot 8 (VP.bool (decide (((2 : Nat) : Int) < ((3 : Nat) : Int))))]) [0, 1, 2, 3] rfl ?_
    refine nx_then ?_
    refine t_seq ?_
    refine t_cond_te 3 rfl rfl ?_
    refine t_skip ?_
    refine nx_then ?_
    refine t_seq ?_
    refine t_block ?_
    refine t_seq ?_
    refine t_region (F := ⟨_, _, _, _⟩) [.rows 5 3 (fodd3_EED_c p0 q0 p1 q1 p2 q2), .slot 6 (VP.int .i64 ((3 : Nat) : Int)), .slot 7 (VP.int .i64 ((2 : Nat) : Int)), .slot 8 (VP.bool (decide (((2 : Nat) : Int) < ((3 : Nat) : Int))))] [] [(0, .rp 9 5 8), (1, .slot 10 (VP.agg [Bz p2, Dz p2, Bz q2, Dz q2])), (2, .own 4 26 4), (3, .box 4 26 [Bz p2, Dz p2, Bz q2, Dz q2])] [] [0, 1, 2, 3] [] rfl rfl follow rfl ⟨
      .inl ⟨wants_plain rfl, does_indexRows (m := 2) (sz := 4) _ _ rfl Try.underlying122 (fun w => run_sizeAgg ty_agg_api_Frac w) rfl rfl rfl rfl rfl rfl (by decide) rfl (av_fs 0 rfl) (ar_tmp (av_fs 2 rfl))⟩,
      .inl ⟨wants_plain rfl, does_loadRows _ rfl ty_agg_api_Frac rfl rfl rfl rfl rfl rfl rfl (av_rs 0 rfl rfl) (av_fs 0 rfl)⟩,
      .inl ⟨wants_plain rfl, does_allocOwn [Bz 0, Dz 0, Bz 0, Dz 0] ty_zero_api_Frac rfl rfl rfl rfl rfl z_frac rfl⟩,
      .inl ⟨wants_plain rfl, does_storeNew 4 _ _ ty_agg_api_Frac rfl rfl rfl rfl rfl (pt_own (av_rs 2 rfl rfl)) (av_rs 2 rfl rfl) (ar_tmp (av_rs 1 rfl rfl))⟩,
      trivial⟩ ?_
    refine nx_sub (fs' := [.rows 5 3 (fodd3_EED_c p0 q0 p1 q1 p2 q2), .slot 6 (VP.int .i64 ((3 : Nat) : Int)), .slot 7 (VP.int .i64 ((2 : Nat) : Int)), .slot 8 (VP.bool (decide (((2 : Nat) : Int) < ((3 : Nat) : Int)))), .rp 9 5 8, .slot 10 (VP.agg [Bz p2, Dz p2, Bz q2, Dz q2]), .box 4 26 [Bz p2, Dz p2, Bz q2, Dz q2]]) [0, 1, 2, 3, 4, 5, 7] rfl ?_
    refine nx_then ?_
    refine t_seq ?_
    refine t_region (F := ⟨_, _, _, _⟩) [.rows 5 3 (fodd3_EED_c p0 q0 p1 q1 p2 q2), .slot 6 (VP.int .i64 ((3 : Nat) : Int)), .slot 7 (VP.int .i64 ((2 : Nat) : Int)), .slot 8 (VP.bool (decide (((2 : Nat) : Int) < ((3 : Nat) : Int)))), .rp 9 5 8, .slot 10 (VP.agg [Bz p2, Dz p2, Bz q2, Dz q2]), .box 4 26 [Bz p2, Dz p2, Bz q2, Dz q2]] [] [(0, .fp 11 4 0), (1, .slot 12 (INT p2)), (2, .fp 13 4 2), (3, .slot 14 (INT q2)), (4, .arr 15 24 2 [Bz p2, Dz p2, Bz q2, Dz q2]), (5, .slot 16 (VP.bool false)), (6, .slot 17 (VP.bool false)), (7, .fp 18 4 0), (8, .fp 19 4 1), (9, .slot 20 (Dz p2)), (10, .slot 21 (VP.int .i64 (((dg BB p2.natAbs).length : Nat) : Int))), (11, .slot 22 (VP.bool (decide ((((dg BB p2.natAbs).length : Nat) : Int) > 5)))), (12, .slot 23 (VP.bool (decide ((((dg BB p2.natAbs).length : Nat) : Int) > 5)))), (13, .slot 24 (VP.bool (decide ((((dg BB p2.natAbs).length : Nat) : Int) > 5)))), (14, .fp 25 4 2), (15, .fp 26 4 3), (16, .slot 27 (Dz q2)), (17, .slot 28 (VP.int .i64 (((dg BB q2.natAbs).length : Nat) : Int))), (18, .slot 29 (VP.bool (decide ((((dg BB q2.natAbs).length : Nat) : Int) > 5)))), (19, .slot 30 (VP.bool (decide ((((dg BB q2.natAbs).length : Nat) : Int) > 5)))), (20, .slot 31 (VP.bool (decide ((((dg BB q2.natAbs).length : Nat) : Int) > 5)))), (21, .slot 32 (VP.agg [Bz p2, Dz p2, Bz q2, Dz q2])), (22, .slot 33 (VP.bool (rightF p2 q2))), (23, .slot 34 (VP.bool true)), (24, .slot 35 (VP.bool true))] [] [0, 1, 2, 3, 4, 5, 6] [] rfl rfl follow rfl ⟨
      .inl ⟨wants_plain rfl, does_field _ _ _ 0 ty_f0_api_Frac rfl rfl rfl rfl rfl rfl rfl (pt_box (av_fs 6 rfl))⟩,
      .inl ⟨wants_plain rfl, does_loadAgg _ ty_agg_api_Int rfl rfl rfl rfl rfl rfl (pt_fp (av_rs 0 rfl rfl)) (av_fs 6 rfl)⟩,
      .inl ⟨wants_plain rfl, does_field _ _ _ 2 ty_f1_api_Frac rfl rfl rfl rfl rfl rfl rfl (pt_box (av_fs 6 rfl))⟩,
      .inl ⟨wants_plain rfl, does_loadAgg _ ty_agg_api_Int rfl rfl rfl rfl rfl rfl (pt_fp (av_rs 2 rfl rfl)) (av_fs 6 rfl)⟩,
      .inl ⟨wants_plain rfl, does_buildSlice (sz := 2) [Bz 0, Dz 0, Bz 0, Dz 0] ty_zero_api_Int (by kernel_rfl) (fun w => run_sizeAgg ty_agg_api_Int w) rfl rfl rfl rfl rfl rfl (by kernel_rfl) (fun w => by exact z_int_2 w) (.cons 0 [Bz p2, Dz p2] rfl rfl (ar_cells_agg (ar_tmp (av_rs 1 rfl rfl))) (.cons 2 [Bz q2, Dz q2] rfl rfl (ar_cells_agg (ar_tmp (av_rs 3 rfl rfl))) (.nil _)))⟩,
      .inl ⟨wants_plain rfl, does_call (s_even2 p2 q2 (lle hp2 (by decide)) (lle hq2 (by decide))) rfl hb_collator_collatorlaw01_Odd rfl rfl rfl rfl ⟨(ar_arr (av_rs 4 rfl rfl)), trivial⟩⟩,
      .inl ⟨wants_plain rfl, does_move _ (.inl rfl) rfl rfl rfl rfl (ar_tmp (av_rs 5 rfl rfl))⟩,
      .inl ⟨wants_guard false rfl rfl rfl (av_rs 6 rfl rfl), does_field _ _ _ 0 ty_f0_api_Frac rfl rfl rfl rfl rfl rfl rfl (pt_box (av_fs 6 rfl))⟩,
      .inl ⟨wants_guard false rfl rfl rfl (av_rs 6 rfl rfl), does_field _ _ _ 1 ty_f1_api_Int rfl rfl rfl rfl rfl rfl rfl (pt_fp (av_rs 7 rfl rfl))⟩,
      .inl ⟨wants_guard false rfl rfl rfl (av_rs 6 rfl rfl), does_loadOne _ ty_one___uint32 rfl rfl rfl rfl rfl rfl (pt_fp (av_rs 8 rfl rfl)) (av_fs 6 rfl)⟩,
      .inl ⟨wants_guard false rfl rfl rfl (av_rs 6 rfl rfl), does_len _ _ (by kernel_rfl) rfl rfl rfl rfl rfl (ar_tmp (av_rs 9 rfl rfl))⟩,
      .inl ⟨wants_guard false rfl rfl rfl (av_rs 6 rfl rfl), does_cmp (m := (((dg BB p2.natAbs).length : Nat) : Int)) (n := 5) _ _ _ _ _ rfl rfl rfl rfl rfl rfl .i64 (ar_tmp (av_rs 10 rfl rfl)) (ar_const (fun _ => rfl))⟩,
      .inl ⟨wants_plain rfl, does_pick false _ _ _ rfl rfl rfl rfl rfl (ar_tmp (av_rs 6 rfl rfl)) (ar_tmp (av_rs 11 rfl rfl))⟩,
      .inl ⟨wants_plain rfl, does_move _ (.inl rfl) rfl rfl rfl rfl (ar_tmp (av_rs 12 rfl rfl))⟩,
      .inl ⟨wants_guard false rfl rfl rfl (av_bool (gt5_no hp2) (av_rs 13 rfl rfl)), does_field _ _ _ 2 ty_f1_api_Frac rfl rfl rfl rfl rfl rfl rfl (pt_box (av_fs 6 rfl))⟩,
      .inl ⟨wants_guard false rfl rfl rfl (av_bool (gt5_no hp2) (av_rs 13 rfl rfl)), does_field _ _ _ 1 ty_f1_api_Int rfl rfl rfl rfl rfl rfl rfl (pt_fp (av_rs 14 rfl rfl))⟩,
      .inl ⟨wants_guard false rfl rfl rfl (av_bool (gt5_no hp2) (av_rs 13 rfl rfl)), does_loadOne _ ty_one___uint32 rfl rfl rfl rfl rfl rfl (pt_fp (av_rs 15 rfl rfl)) (av_fs 6 rfl)⟩,
      .inl ⟨wants_guard false rfl rfl rfl (av_bool (gt5_no hp2) (av_rs 13 rfl rfl)), does_len _ _ (by kernel_rfl) rfl rfl rfl rfl rfl (ar_tmp (av_rs 16 rfl rfl))⟩,
      .inl ⟨wants_guard false rfl rfl rfl (av_bool (gt5_no hp2) (av_rs 13 rfl rfl)), does_cmp (m := (((dg BB q2.natAbs).length : Nat) : Int)) (n := 5) _ _ _ _ _ rfl rfl rfl rfl rfl rfl .i64 (ar_tmp (av_rs 17 rfl rfl)) (ar_const (fun _ => rfl))⟩,
      .inl ⟨wants_plain rfl, does_pick false _ _ _ rfl rfl rfl rfl rfl (ar_tmp (av_bool (gt5_no hp2) (av_rs 13 rfl rfl))) (ar_tmp (av_rs 18 rfl rfl))⟩,
      .inl ⟨wants_plain rfl, does_move _ (.inl rfl) rfl rfl rfl rfl (ar_tmp (av_rs 19 rfl rfl))⟩,
      .inl ⟨wants_guard false rfl rfl rfl (av_bool (gt5_no hq2) (av_rs 20 rfl rfl)), does_loadAgg _ ty_agg_api_Frac rfl rfl rfl rfl rfl rfl (pt_box (av_fs 6 rfl)) (av_fs 6 rfl)⟩,
      .inl ⟨wants_guard false rfl rfl rfl (av_bool (gt5_no hq2) (av_rs 20 rfl rfl)), does_call (g_right p2 q2 (lle hp2 (by decide)) (lle hq2 (by decide))) rfl hb_collator_collatorref02_Right rfl rfl rfl rfl ⟨(ar_tmp (av_rs 21 rfl rfl)), trivial⟩⟩,
      .inl ⟨wants_guard false rfl rfl rfl (av_bool (gt5_no hq2) (av_rs 20 rfl rfl)), does_not false _ _ rfl rfl rfl rfl rfl (ar_tmp (av_bool hb2 (av_rs 22 rfl rfl)))⟩,
      .inl ⟨wants_plain rfl, does_pick false _ _ _ rfl rfl rfl rfl rfl (ar_tmp (av_bool (gt5_no hq2) (av_rs 20 rfl rfl))) (ar_tmp (av_rs 23 rfl rfl))⟩,
      trivial⟩ ?_
    refine nx_sub (fs' := [.rows 5 3 (fodd3_EED_c p0 q0 p1 q1 p2 q2), .slot 6 (VP.int .i64 ((3 : Nat) : Int)), .slot 7 (VP.int .i64 ((2 : Nat) : Int)), .slot 8 (VP.bool (decide (((2 : Nat) : Int) < ((3 : Nat) : Int)))), .rp 9 5 8, .slot 10 (VP.agg [Bz p2, Dz p2, Bz q2, Dz q2]), .box 4 26 [Bz p2, Dz p2, Bz q2, Dz q2], .fp 11 4 0, .slot 12 (INT p2), .fp 13 4 2, .slot 14 (INT q2), .arr 15 24 2 [Bz p2, Dz p2, Bz q2, Dz q2], .slot 16 (VP.bool false), .slot 17 (VP.bool false), .fp 18 4 0, .fp 19 4 1, .slot 20 (Dz p2), .slot 21 (VP.int .i64 (((dg BB p2.natAbs).length : Nat) : Int)), .slot 22 (VP.bool (decide ((((dg BB p2.natAbs).length : Nat) : Int) > 5))), .slot 23 (VP.bool (decide ((((dg BB p2.natAbs).length : Nat) : Int) > 5))), .slot 24 (VP.bool (decide ((((dg BB p2.natAbs).length : Nat) : Int) > 5))), .fp 25 4 2, .fp 26 4 3, .slot 27 (Dz q2), .slot 28 (VP.int .i64 (((dg BB q2.natAbs).length : Nat) : Int)), .slot 29 (VP.bool (decide ((((dg BB q2.natAbs).length : Nat) : Int) > 5))), .slot 30 (VP.bool (decide ((((dg BB q2.natAbs).length : Nat) : Int) > 5))), .slot 31 (VP.bool (decide ((((dg BB q2.natAbs).length : Nat) : Int) > 5))), .slot 32 (VP.agg [Bz p2, Dz p2, Bz q2, Dz q2]), .slot 33 (VP.bool (rightF p2 q2)), .slot 34 (VP.bool true), .slot 35 (VP.bool true)]) [0, 1, 2, 3, 4, 5, 6, 7, 8, 9, 10, 11, 12, 13, 14, 15, 16, 17, 18, 19, 20, 21, 22, 23, 24, 25, 26, 27, 28, 29, 30, 31] rfl ?_
    refine nx_then ?_
    refine t_cond_t 31 rfl ?_
    refine t_seq ?_
    refine t_region (F := ⟨_, _, _, _⟩) [.rows 5 3 (fodd3_EED_c p0 q0 p1 q1 p2 q2), .slot 6 (VP.int .i64 ((3 : Nat) : Int)), .slot 7 (VP.int .i64 ((2 : Nat) : Int)), .slot 8 (VP.bool (decide (((2 : Nat) : Int) < ((3 : Nat) : Int)))), .rp 9 5 8, .slot 10 (VP.agg [Bz p2, Dz p2, Bz q2, Dz q2]), .box 4 26 [Bz p2, Dz p2, Bz q2, Dz q2], .fp 11 4 0, .slot 12 (INT p2), .fp 13 4 2, .slot 14 (INT q2), .arr 15 24 2 [Bz p2, Dz p2, Bz q2, Dz q2], .slot 16 (VP.bool false), .slot 17 (VP.bool false), .fp 18 4 0, .fp 19 4 1, .slot 20 (Dz p2), .slot 21 (VP.int .i64 (((dg BB p2.natAbs).length : Nat) : Int)), .slot 22 (VP.bool (decide ((((dg BB p2.natAbs).length : Nat) : Int) > 5))), .slot 23 (VP.bool (decide ((((dg BB p2.natAbs).length : Nat) : Int) > 5))), .slot 24 (VP.bool (decide ((((dg BB p2.natAbs).length : Nat) : Int) > 5))), .fp 25 4 2, .fp 26 4 3, .slot 27 (Dz q2), .slot 28 (VP.int .i64 (((dg BB q2.natAbs).length : Nat) : Int)), .slot 29 (VP.bool (decide ((((dg BB q2.natAbs).length : Nat) : Int) > 5))), .slot 30 (VP.bool (decide ((((dg BB q2.natAbs).length : Nat) : Int) > 5))), .slot 31 (VP.bool (decide ((((dg BB q2.natAbs).length : Nat) : Int) > 5))), .slot 32 (VP.agg [Bz p2, Dz p2, Bz q2, Dz q2]), .slot 33 (VP.bool (rightF p2 q2)), .slot 34 (VP.bool true), .slot 35 (VP.bool true)] [] [(0, .slot 2 (VP.bool true))] [] [0, 1, 2, 3, 4, 5, 6, 7, 8, 9, 10, 11, 12, 13, 14, 15, 16, 17, 18, 19, 20, 21, 22, 23, 24, 25, 26, 27, 28, 29, 30, 31] [] rfl rfl follow rfl ⟨
      .inl ⟨wants_plain rfl, does_move _ (.inr rfl) rfl rfl rfl rfl (ar_const (fun _ => rfl))⟩,
      trivial⟩ ?_
    refine nx_sub (fs' := [.rows 5 3 (fodd3_EED_c p0 q0 p1 q1 p2 q2), .slot 6 (VP.int .i64 ((3 : Nat) : Int)), .slot 7 (VP.int .i64 ((2 : Nat) : Int)), .slot 8 (VP.bool (decide (((2 : Nat) : Int) < ((3 : Nat) : Int)))), .rp 9 5 8, .slot 10 (VP.agg [Bz p2, Dz p2, Bz q2, Dz q2]), .box 4 26 [Bz p2, Dz p2, Bz q2, Dz q2], .fp 11 4 0, .slot 12 (INT p2), .fp 13 4 2, .slot 14 (INT q2), .arr 15 24 2 [Bz p2, Dz p2, Bz q2, Dz q2], .slot 16 (VP.bool false), .slot 17 (VP.bool false), .fp 18 4 0, .fp 19 4 1, .slot 20 (Dz p2), .slot 21 (VP.int .i64 (((dg BB p2.natAbs).length : Nat) : Int)), .slot 22 (VP.bool (decide ((((dg BB p2.natAbs).length : Nat) : Int) > 5))), .slot 23 (VP.bool (decide ((((dg BB p2.natAbs).length : Nat) : Int) > 5))), .slot 24 (VP.bool (decide ((((dg BB p2.natAbs).length : Nat) : Int) > 5))), .fp 25 4 2, .fp 26 4 3, .slot 27 (Dz q2), .slot 28 (VP.int .i64 (((dg BB q2.natAbs).length : Nat) : Int)), .slot 29 (VP.bool (decide ((((dg BB q2.natAbs).length : Nat) : Int) > 5))), .slot 30 (VP.bool (decide ((((dg BB q2.natAbs).length : Nat) : Int) > 5))), .slot 31 (VP.bool (decide ((((dg BB q2.natAbs).length : Nat) : Int) > 5))), .slot 32 (VP.agg [Bz p2, Dz p2, Bz q2, Dz q2]), .slot 33 (VP.bool (rightF p2 q2)), .slot 34 (VP.bool true), .slot 35 (VP.bool true), .slot 2 (VP.bool true)]) [0, 1, 2, 3, 4, 5, 6, 7, 8, 9, 10, 11, 12, 13, 14, 15, 16, 17, 18, 19, 20, 21, 22, 23, 24, 25, 26, 27, 28, 29, 30, 31, 32] rfl ?_
    refine nx_then ?_
    refine t_ret ?_
    refine rt_block ?_
    refine rt_then ?_
    refine rt_then ?_
    refine rt_block ?_
    refine rt_then ?_
    exact rt_one rfl (res_tmp 32 rfl)
abbrev fodd3_EEE_c (p0 q0 : Int) (p1 q1 : Int) (p2 q2 : Int) : List VP := [Bz p0, Dz p0, Bz q0, Dz q0, Bz p1, Dz p1, Bz q1, Dz q1, Bz p2, Dz p2, Bz q2, Dz q2]
set_option maxRecDepth 100000 in
set_option maxHeartbeats 4000000 in
theorem fodd3_EEE (p0 q0 : Int) (hp0 : L p0 ≤ 5) (hq0 : L q0 ≤ 5) (hb0 : rightF p0 q0 = true) (p1 q1 : Int) (hp1 : L p1 ≤ 5) (hq1 : L q1 ≤ 5) (hb1 : rightF p1 q1 = true) (p2 q2 : Int) (hp2 : L p2 ≤ 5) (hq2 : L q2 ≤ 5) (hb2 : rightF p2 q2 = true) : Spec Try.prog 16 [isRows 3 (fodd3_EEE_c p0 q0 p1 q1 p2 q2)] (VP.bool false) := by
  refine spec_ofP (xs := [.rows 3 (fodd3_EEE_c p0 q0 p1 q1 p2 q2)]) 37 [4] Try.func16 rfl Try.ntmps16 rfl fun w0 => ?_
  refine t_seq ?_
  refine t_region (F := ⟨_, _, _, _⟩) [.rows 0 3 (fodd3_EEE_c p0 q0 p1 q1 p2 q2)] [] [(0, .slot 2 (VP.bool false))] [] [0] [] rfl rfl follow rfl ⟨
    .inl ⟨wants_plain rfl, does_move _ (.inr rfl) rfl rfl rfl rfl (ar_const (fun _ => rfl))⟩,
    trivial⟩ ?_
  refine nx_sub (fs' := [.rows 0 3 (fodd3_EEE_c p0 q0 p1 q1 p2 q2), .slot 2 (VP.bool false)]) [0, 1] rfl ?_
  refine nx_then ?_
  refine t_seq ?_
  refine t_seq ?_
  refine t_region (F := ⟨_, _, _, _⟩) [.rows 0 3 (fodd3_EEE_c p0 q0 p1 q1 p2 q2), .slot 2 (VP.bool false)] [] [(0, .rows 5 3 (fodd3_EEE_c p0 q0 p1 q1 p2 q2)), (1, .slot 6 (VP.int .i64 ((3 : Nat) : Int))), (2, .slot 7 (VP.int .i64 0))] [] [0, 1] [] rfl rfl follow rfl ⟨
    .inl ⟨wants_plain rfl, does_moveRows _ (.inl rfl) rfl rfl rfl rfl rfl (av_fs 0 rfl)⟩,
    .inl ⟨wants_plain rfl, does_lenRows _ _ rfl (by kernel_rfl) rfl rfl rfl rfl rfl (av_rs 0 rfl rfl)⟩,
    .inl ⟨wants_plain rfl, does_move _ (.inl rfl) rfl rfl rfl rfl (ar_const (fun _ => rfl))⟩,
    trivial⟩ ?_
  refine nx_sub (fs' := [.slot 2 (VP.bool false), .rows 5 3 (fodd3_EEE_c p0 q0 p1 q1 p2 q2), .slot 6 (VP.int .i64 ((3 : Nat) : Int)), .slot 7 (VP.int .i64 0)]) [1, 2, 3, 4] rfl ?_
  refine nx_then ?_
  refine t_block ?_
  refine t_loop (σ := {k : Nat // k ≤ 3}) (fun s => [.rows 5 3 (fodd3_EEE_c p0 q0 p1 q1 p2 q2), .slot 6 (VP.int .i64 ((3 : Nat) : Int)), .slot 7 (VP.int .i64 ((s.1 : Nat) : Int))]) (fun s => 3 - s.1) (⟨0, by decide⟩) [1, 2, 3] rfl ?_
  intro s
  obtain ⟨k, hk⟩ := s
  have hc : k = 0 ∨ k = 1 ∨ k = 2 ∨ k = 3 := by omega
  rcases hc with rfl | rfl | rfl | rfl
  case inl =>
    refine t_seq ?_
    refine t_region (F := ⟨_, _, _, _⟩) [.rows 5 3 (fodd3_EEE_c p0 q0 p1 q1 p2 q2), .slot 6 (VP.int .i64 ((3 : Nat) : Int)), .slot 7 (VP.int .i64 ((0 : Nat) : Int))] [] [(0, .slot 8 (VP.bool (decide (((0 : Nat) : Int) < ((3 : Nat) : Int)))))] [] [0, 1, 2] [] rfl rfl follow rfl ⟨
      .inl ⟨wants_plain rfl, does_cmp (m := ((0 : Nat) : Int)) (n := ((3 : Nat) : Int)) _ _ _ _ _ rfl rfl rfl rfl rfl rfl .i64 (ar_tmp (av_fs 2 rfl)) (ar_tmp (av_fs 1 rfl))⟩,
      trivial⟩ ?_
    refine nx_sub (fs' := [.rows 5 3 (fodd3_EEE_c p0 q0 p1 q1 p2 q2), .slot 6 (VP.int .i64 ((3 : Nat) : Int)), .slot 7 (VP.int .i64 ((0 : Nat) : Int)), .slot 8 (VP.bool (decide (((0 : Nat) : Int) < ((3 : Nat) : Int))))]) [0, 1, 2, 3] rfl ?_
    refine nx_then ?_
    refine t_seq ?_
    refine t_cond_te 3 rfl rfl ?_
    refine t_skip ?_
    refine nx_then ?_
    refine t_seq ?_
    refine t_block ?_
    refine t_seq ?_
    refine t_region (F := ⟨_, _, _, _⟩) [.rows 5 3 (fodd3_EEE_c p0 q0 p1 q1 p2 q2), .slot 6 (VP.int .i64 ((3 : Nat) : Int)), .slot 7 (VP.int .i64 ((0 : Nat) : Int)), .slot 8 (VP.bool (decide (((0 : Nat) : Int) < ((3 : Nat) : Int))))] [] [(0, .rp 9 5 0), (1, .slot 10 (VP.agg [Bz p0, Dz p0, Bz q0, Dz q0])), (2, .own 4 26 4), (3, .box 4 26 [Bz p0, Dz p0, Bz q0, Dz q0])] [] [0, 1, 2, 3] [] rfl rfl follow rfl ⟨
      .inl ⟨wants_plain rfl, does_indexRows (m := 0) (sz := 4) _ _ rfl Try.underlying122 (fun w => run_sizeAgg ty_agg_api_Frac w) rfl rfl rfl rfl rfl rfl (by decide) rfl (av_fs 0 rfl) (ar_tmp (av_fs 2 rfl))⟩,
      .inl ⟨wants_plain rfl, does_loadRows _ rfl ty_agg_api_Frac rfl rfl rfl rfl rfl rfl rfl (av_rs 0 rfl rfl) (av_fs 0 rfl)⟩,
      .inl ⟨wants_plain rfl, does_allocOwn [Bz 0, Dz 0, Bz 0, Dz 0] ty_zero_api_Frac rfl rfl rfl rfl rfl z_frac rfl⟩,
      .inl ⟨wants_plain rfl, does_storeNew 4 _ _ ty_agg_api_Frac rfl rfl rfl rfl rfl (pt_own (av_rs 2 rfl rfl)) (av_rs 2 rfl rfl) (ar_tmp (av_rs 1 rfl rfl))⟩,
      trivial⟩ ?_
    refine nx_sub (fs' := [.rows 5 3 (fodd3_EEE_c p0 q0 p1 q1 p2 q2), .slot 6 (VP.int .i64 ((3 : Nat) : Int)), .slot 7 (VP.int .i64 ((0 : Nat) : Int)), .slot 8 (VP.bool (decide (((0 : Nat) : Int) < ((3 : Nat) : Int)))), .rp 9 5 0, .slot 10 (VP.agg [Bz p0, Dz p0, Bz q0, Dz q0]), .box 4 26 [Bz p0, Dz p0, Bz q0, Dz q0]]) [0, 1, 2, 3, 4, 5, 7] rfl ?_
    refine nx_then ?_
    refine t_seq ?_
    refine t_region (F := ⟨_, _, _, _⟩) [.rows 5 3 (fodd3_EEE_c p0 q0 p1 q1 p2 q2), .slot 6 (VP.int .i64 ((3 : Nat) : Int)), .slot 7 (VP.int .i64 ((0 : Nat) : Int)), .slot 8 (VP.bool (decide (((0 : Nat) : Int) < ((3 : Nat) : Int)))), .rp 9 5 0, .slot 10 (VP.agg [Bz p0, Dz p0, Bz q0, Dz q0]), .box 4 26 [Bz p0, Dz p0, Bz q0, Dz q0]] [] [(0, .fp 11 4 0), (1, .slot 12 (INT p0)), (2, .fp 13 4 2), (3, .slot 14 (INT q0)), (4, .arr 15 24 2 [Bz p0, Dz p0, Bz q0, Dz q0]), (5, .slot 16 (VP.bool false)), (6, .slot 17 (VP.bool false)), (7, .fp 18 4 0), (8, .fp 19 4 1), (9, .slot 20 (Dz p0)), (10, .slot 21 (VP.int .i64 (((dg BB p0.natAbs).length : Nat) : Int))), (11, .slot 22 (VP.bool (decide ((((dg BB p0.natAbs).length : Nat) : Int) > 5)))), (12, .slot 23 (VP.bool (decide ((((dg BB p0.natAbs).length : Nat) : Int) > 5)))), (13, .slot 24 (VP.bool (decide ((((dg BB p0.natAbs).length : Nat) : Int) > 5)))), (14, .fp 25 4 2), (15, .fp 26 4 3), (16, .slot 27 (Dz q0)), (17, .slot 28 (VP.int .i64 (((dg BB q0.natAbs).length : Nat) : Int))), (18, .slot 29 (VP.bool (decide ((((dg BB q0.natAbs).length : Nat) : Int) > 5)))), (19, .slot 30 (VP.bool (decide ((((dg BB q0.natAbs).length : Nat) : Int) > 5)))), (20, .slot 31 (VP.bool (decide ((((dg BB q0.natAbs).length : Nat) : Int) > 5)))), (21, .slot 32 (VP.agg [Bz p0, Dz p0, Bz q0, Dz q0])), (22, .slot 33 (VP.bool (rightF p0 q0))), (23, .slot 34 (VP.bool false)), (24, .slot 35 (VP.bool false))] [] [0, 1, 2, 3, 4, 5, 6] [] rfl rfl follow rfl ⟨
      .inl ⟨wants_plain rfl, does_field _ _ _ 0 ty_f0_api_Frac rfl rfl rfl rfl rfl rfl rfl (pt_box (av_fs 6 rfl))⟩,
      .inl ⟨wants_plain rfl, does_loadAgg _ ty_agg_api_Int rfl rfl rfl rfl rfl rfl (pt_fp (av_rs 0 rfl rfl)) (av_fs 6 rfl)⟩,
      .inl ⟨wants_plain rfl, does_field _ _ _ 2 ty_f1_api_Frac rfl rfl rfl rfl rfl rfl rfl (pt_box (av_fs 6 rfl))⟩,
      .inl ⟨wants_plain rfl, does_loadAgg _ ty_agg_api_Int rfl rfl rfl rfl rfl rfl (pt_fp (av_rs 2 rfl rfl)) (av_fs 6 rfl)⟩,
      .inl ⟨wants_plain rfl, does_buildSlice (sz := 2) [Bz 0, Dz 0, Bz 0, Dz 0] ty_zero_api_Int (by kernel_rfl) (fun w => run_sizeAgg ty_agg_api_Int w) rfl rfl rfl rfl rfl rfl (by kernel_rfl) (fun w => by exact z_int_2 w) (.cons 0 [Bz p0, Dz p0] rfl rfl (ar_cells_agg (ar_tmp (av_rs 1 rfl rfl))) (.cons 2 [Bz q0, Dz q0] rfl rfl (ar_cells_agg (ar_tmp (av_rs 3 rfl rfl))) (.nil _)))⟩,
      .inl ⟨wants_plain rfl, does_call (s_even2 p0 q0 (lle hp0 (by decide)) (lle hq0 (by decide))) rfl hb_collator_collatorlaw01_Odd rfl rfl rfl rfl ⟨(ar_arr (av_rs 4 rfl rfl)), trivial⟩⟩,
      .inl ⟨wants_plain rfl, does_move _ (.inl rfl) rfl rfl rfl rfl (ar_tmp (av_rs 5 rfl rfl))⟩,
      .inl ⟨wants_guard false rfl rfl rfl (av_rs 6 rfl rfl), does_field _ _ _ 0 ty_f0_api_Frac rfl rfl rfl rfl rfl rfl rfl (pt_box (av_fs 6 rfl))⟩,
      .inl ⟨wants_guard false rfl rfl rfl (av_rs 6 rfl rfl), does_field _ _ _ 1 ty_f1_api_Int rfl rfl rfl rfl rfl rfl rfl (pt_fp (av_rs 7 rfl rfl))⟩,
      .inl ⟨wants_guard false rfl rfl rfl (av_rs 6 rfl rfl), does_loadOne _ ty_one___uint32 rfl rfl rfl rfl rfl rfl (pt_fp (av_rs 8 rfl rfl)) (av_fs 6 rfl)⟩,
      .inl ⟨wants_guard false rfl rfl rfl (av_rs 6 rfl rfl), does_len _ _ (by kernel_rfl) rfl rfl rfl rfl rfl (ar_tmp (av_rs 9 rfl rfl))⟩,
      .inl ⟨wants_guard false rfl rfl rfl (av_rs 6 rfl rfl), does_cmp (m := (((dg BB p0.natAbs).length : Nat) : Int)) (n := 5) _ _ _ _ _ rfl rfl rfl rfl rfl rfl .i64 (ar_tmp (av_rs 10 rfl rfl)) (ar_const (fun _ => rfl))⟩,
      .inl ⟨wants_plain rfl, does_pick false _ _ _ rfl rfl rfl rfl rfl (ar_tmp (av_rs 6 rfl rfl)) (ar_tmp (av_rs 11 rfl rfl))⟩,
      .inl ⟨wants_plain rfl, does_move _ (.inl rfl) rfl rfl rfl rfl (ar_tmp (av_rs 12 rfl rfl))⟩,
      .inl ⟨wants_guard false rfl rfl rfl (av_bool (gt5_no hp0) (av_rs 13 rfl rfl)), does_field _ _ _ 2 ty_f1_api_Frac rfl rfl rfl rfl rfl rfl rfl (pt_box (av_fs 6 rfl))⟩,
      .inl ⟨wants_guard false rfl rfl rfl (av_bool (gt5_no hp0) (av_rs 13 rfl rfl)), does_field _ _ _ 1 ty_f1_api_Int rfl rfl rfl rfl rfl rfl rfl (pt_fp (av_rs 14 rfl rfl))⟩,
      .inl ⟨wants_guard false rfl rfl rfl (av_bool (gt5_no hp0) (av_rs 13 rfl rfl)), does_loadOne _ ty_one___uint32 rfl rfl rfl rfl rfl rfl (pt_fp (av_rs 15 rfl rfl)) (av_fs 6 rfl)⟩,
      .inl ⟨wants_guard false rfl rfl rfl (av_bool (gt5_no hp0) (av_rs 13 rfl rfl)), does_len _ _ (by kernel_rfl) rfl rfl rfl rfl rfl (ar_tmp (av_rs 16 rfl rfl))⟩,
      .inl ⟨wants_guard false rfl rfl rfl (av_bool (gt5_no hp0) (av_rs 13 rfl rfl)), does_cmp (m := (((dg BB q0.natAbs).length : Nat) : Int)) (n := 5) _ _ _ _ _ rfl rfl rfl rfl rfl rfl .i64 (ar_tmp (av_rs 17 rfl rfl)) (ar_const (fun _ => rfl))⟩,
      .inl ⟨wants_plain rfl, does_pick false _ _ _ rfl rfl rfl rfl rfl (ar_tmp (av_bool (gt5_no hp0) (av_rs 13 rfl rfl))) (ar_tmp (av_rs 18 rfl rfl))⟩,
      .inl ⟨wants_plain rfl, does_move _ (.inl rfl) rfl rfl rfl rfl (ar_tmp (av_rs 19 rfl rfl))⟩,
      .inl ⟨wants_guard false rfl rfl rfl (av_bool (gt5_no hq0) (av_rs 20 rfl rfl)), does_loadAgg _ ty_agg_api_Frac rfl rfl rfl rfl rfl rfl (pt_box (av_fs 6 rfl)) (av_fs 6 rfl)⟩,
      .inl ⟨wants_guard false rfl rfl rfl (av_bool (gt5_no hq0) (av_rs 20 rfl rfl)), does_call (g_right p0 q0 (lle hp0 (by decide)) (lle hq0 (by decide))) rfl hb_collator_collatorref02_Right rfl rfl rfl rfl ⟨(ar_tmp (av_rs 21 rfl rfl)), trivial⟩⟩,
      .inl ⟨wants_guard false rfl rfl rfl (av_bool (gt5_no hq0) (av_rs 20 rfl rfl)), does_not true _ _ rfl rfl rfl rfl rfl (ar_tmp (av_bool hb0 (av_rs 22 rfl rfl)))⟩,
      .inl ⟨wants_plain rfl, does_pick false _ _ _ rfl rfl rfl rfl rfl (ar_tmp (av_bool (gt5_no hq0) (av_rs 20 rfl rfl))) (ar_tmp (av_rs 23 rfl rfl))⟩,
      trivial⟩ ?_
    refine nx_sub (fs' := [.rows 5 3 (fodd3_EEE_c p0 q0 p1 q1 p2 q2), .slot 6 (VP.int .i64 ((3 : Nat) : Int)), .slot 7 (VP.int .i64 ((0 : Nat) : Int)), .slot 8 (VP.bool (decide (((0 : Nat) : Int) < ((3 : Nat) : Int)))), .rp 9 5 0, .slot 10 (VP.agg [Bz p0, Dz p0, Bz q0, Dz q0]), .box 4 26 [Bz p0, Dz p0, Bz q0, Dz q0], .fp 11 4 0, .slot 12 (INT p0), .fp 13 4 2, .slot 14 (INT q0), .arr 15 24 2 [Bz p0, Dz p0, Bz q0, Dz q0], .slot 16 (VP.bool false), .slot 17 (VP.bool false), .fp 18 4 0, .fp 19 4 1, .slot 20 (Dz p0), .slot 21 (VP.int .i64 (((dg BB p0.natAbs).length : Nat) : Int)), .slot 22 (VP.bool (decide ((((dg BB p0.natAbs).length : Nat) : Int) > 5))), .slot 23 (VP.bool (decide ((((dg BB p0.natAbs).length : Nat) : Int) > 5))), .slot 24 (VP.bool (decide ((((dg BB p0.natAbs).length : Nat) : Int) > 5))), .fp 25 4 2, .fp 26 4 3, .slot 27 (Dz q0), .slot 28 (VP.int .i64 (((dg BB q0.natAbs).length : Nat) : Int)), .slot 29 (VP.bool (decide ((((dg BB q0.natAbs).length : Nat) : Int) > 5))), .slot 30 (VP.bool (decide ((((dg BB q0.natAbs).length : Nat) : Int) > 5))), .slot 31 (VP.bool (decide ((((dg BB q0.natAbs).length : Nat) : Int) > 5))), .slot 32 (VP.agg [Bz p0, Dz p0, Bz q0, Dz q0]), .slot 33 (VP.bool (rightF p0 q0)), .slot 34 (VP.bool false), .slot 35 (VP.bool false)]) [0, 1, 2, 3, 4, 5, 6, 7, 8, 9, 10, 11, 12, 13, 14, 15, 16, 17, 18, 19, 20, 21, 22, 23, 24, 25, 26, 27, 28, 29, 30, 31] rfl ?_
    refine nx_then ?_
    refine t_cond_f 31 rfl ?_
    refine t_skip ?_
    refine nx_block ?_
    refine nx_then ?_
    refine t_region (F := ⟨_, _, _, _⟩) [.rows 5 3 (fodd3_EEE_c p0 q0 p1 q1 p2 q2), .slot 6 (VP.int .i64 ((3 : Nat) : Int)), .slot 8 (VP.bool (decide (((0 : Nat) : Int) < ((3 : Nat) : Int)))), .rp 9 5 0, .slot 10 (VP.agg [Bz p0, Dz p0, Bz q0, Dz q0]), .box 4 26 [Bz p0, Dz p0, Bz q0, Dz q0], .fp 11 4 0, .slot 12 (INT p0), .fp 13 4 2, .slot 14 (INT q0), .arr 15 24 2 [Bz p0, Dz p0, Bz q0, Dz q0], .slot 16 (VP.bool false), .slot 17 (VP.bool false), .fp 18 4 0, .fp 19 4 1, .slot 20 (Dz p0), .slot 21 (VP.int .i64 (((dg BB p0.natAbs).length : Nat) : Int)), .slot 22 (VP.bool (decide ((((dg BB p0.natAbs).length : Nat) : Int) > 5))), .slot 23 (VP.bool (decide ((((dg BB p0.natAbs).length : Nat) : Int) > 5))), .slot 24 (VP.bool (decide ((((dg BB p0.natAbs).length : Nat) : Int) > 5))), .fp 25 4 2, .fp 26 4 3, .slot 27 (Dz q0), .slot 28 (VP.int .i64 (((dg BB q0.natAbs).length : Nat) : Int)), .slot 29 (VP.bool (decide ((((dg BB q0.natAbs).length : Nat) : Int) > 5))), .slot 30 (VP.bool (decide ((((dg BB q0.natAbs).length : Nat) : Int) > 5))), .slot 31 (VP.bool (decide ((((dg BB q0.natAbs).length : Nat) : Int) > 5))), .slot 32 (VP.agg [Bz p0, Dz p0, Bz q0, Dz q0]), .slot 33 (VP.bool (rightF p0 q0)), .slot 34 (VP.bool false), .slot 35 (VP.bool false)] [(1, .slot 7 (VP.int .i64 ((0 : Nat) : Int)))] [(0, .slot 36 (VP.int .i64 ((1 : Nat) : Int))), (1, .slot 7 (VP.int .i64 ((1 : Nat) : Int)))] [] [0, 1, 3, 4, 5, 6, 7, 8, 9, 10, 11, 12, 13, 14, 15, 16, 17, 18, 19, 20, 21, 22, 23, 24, 25, 26, 27, 28, 29, 30, 31] [2] rfl rfl follow rfl ⟨
      .inl ⟨wants_plain rfl, does_addInt (m := ((0 : Nat) : Int)) (n := 1) _ _ _ _ rfl rfl rfl rfl rfl (by omega) (ar_tmp (av_os 0 rfl rfl)) (ar_const (fun _ => rfl))⟩,
      .inl ⟨wants_plain rfl, does_move _ (.inl rfl) rfl rfl rfl rfl (ar_tmp (av_rs 0 rfl rfl))⟩,
      trivial⟩ ?_
    refine nx_sub (fs' := [.rows 5 3 (fodd3_EEE_c p0 q0 p1 q1 p2 q2), .slot 6 (VP.int .i64 ((3 : Nat) : Int)), .slot 8 (VP.bool (decide (((0 : Nat) : Int) < ((3 : Nat) : Int)))), .rp 9 5 0, .slot 10 (VP.agg [Bz p0, Dz p0, Bz q0, Dz q0]), .box 4 26 [Bz p0, Dz p0, Bz q0, Dz q0], .fp 11 4 0, .slot 12 (INT p0), .fp 13 4 2, .slot 14 (INT q0), .arr 15 24 2 [Bz p0, Dz p0, Bz q0, Dz q0], .slot 16 (VP.bool false), .slot 17 (VP.bool false), .fp 18 4 0, .fp 19 4 1, .slot 20 (Dz p0), .slot 21 (VP.int .i64 (((dg BB p0.natAbs).length : Nat) : Int)), .slot 22 (VP.bool (decide ((((dg BB p0.natAbs).length : Nat) : Int) > 5))), .slot 23 (VP.bool (decide ((((dg BB p0.natAbs).length : Nat) : Int) > 5))), .slot 24 (VP.bool (decide ((((dg BB p0.natAbs).length : Nat) : Int) > 5))), .fp 25 4 2, .fp 26 4 3, .slot 27 (Dz q0), .slot 28 (VP.int .i64 (((dg BB q0.natAbs).length : Nat) : Int)), .slot 29 (VP.bool (decide ((((dg BB q0.natAbs).length : Nat) : Int) > 5))), .slot 30 (VP.bool (decide ((((dg BB q0.natAbs).length : Nat) : Int) > 5))), .slot 31 (VP.bool (decide ((((dg BB q0.natAbs).length : Nat) : Int) > 5))), .slot 32 (VP.agg [Bz p0, Dz p0, Bz q0, Dz q0]), .slot 33 (VP.bool (rightF p0 q0)), .slot 34 (VP.bool false), .slot 35 (VP.bool false), .slot 36 (VP.int .i64 ((1 : Nat) : Int)), .slot 7 (VP.int .i64 ((1 : Nat) : Int))]) [0, 1, 2, 3, 4, 5, 6, 7, 8, 9, 10, 11, 12, 13, 14, 15, 16, 17, 18, 19, 20, 21, 22, 23, 24, 25, 26, 27, 28, 29, 30, 31, 32] rfl ?_
    exact nx_round ⟨1, by decide⟩ (by show 3 - 1 < 3 - 0; decide) [0, 1, 32] rfl
  case inr.inl =>
    refine t_seq ?_
    refine t_region (F := ⟨_, _, _, _⟩) [.rows 5 3 (fodd3_EEE_c p0 q0 p1 q1 p2 q2), .slot 6 (VP.int .i64 ((3 : Nat) : Int)), .slot 7 (VP.int .i64 ((1 : Nat) : Int))] [] [(0, .slot 8 (VP.bool (decide (((1 : Nat) : Int) < ((3 : Nat) : Int)))))] [] [0, 1, 2] [] rfl rfl follow rfl ⟨
      .inl ⟨wants_plain rfl, does_cmp (m := ((1 : Nat) : Int)) (n := ((3 : Nat) : Int)) _ _ _ _ _ rfl rfl rfl rfl rfl rfl .i64 (ar_tmp (av_fs 2 rfl)) (ar_tmp (av_fs 1 rfl))⟩,
      trivial⟩ ?_
    refine nx_sub (fs' := [.rows 5 3 (fodd3_EEE_c p0 q0 p1 q1 p2 q2), .slot 6 (VP.int .i64 ((3 : Nat) : Int)), .slot 7 (VP.int .i64 ((1 : Nat) : Int)), .slot 8 (VP.bool (decide (((1 : Nat) : Int) < ((3 : Nat) : Int))))]) [0, 1, 2, 3] rfl ?_
    refine nx_then ?_
    refine t_seq ?_
    refine t_cond_te 3 rfl rfl ?_
    refine t_skip ?_
    refine nx_then ?_
    refine t_seq ?_
    refine t_block ?_
    refine t_seq ?_
    refine t_region (F := ⟨_, _, _, _⟩) [.rows 5 3 (fodd3_EEE_c p0 q0 p1 q1 p2 q2), .slot 6 (VP.int .i64 ((3 : Nat) : Int)), .slot 7 (VP.int .i64 ((1 : Nat) : Int)), .slot 8 (VP.bool (decide (((1 : Nat) : Int) < ((3 : Nat) : Int))))] [] [(0, .rp 9 5 4), (1, .slot 10 (VP.agg [Bz p1, Dz p1, Bz q1, Dz q1])), (2, .own 4 26 4), (3, .box 4 26 [Bz p1, Dz p1, Bz q1, Dz q1])] [] [0, 1, 2, 3] [] rfl rfl follow rfl ⟨
      .inl ⟨wants_plain rfl, does_indexRows (m := 1) (sz := 4) _ _ rfl Try.underlying122 (fun w => run_sizeAgg ty_agg_api_Frac w) rfl rfl rfl rfl rfl rfl (by decide) rfl (av_fs 0 rfl) (ar_tmp (av_fs 2 rfl))⟩,
      .inl ⟨wants_plain rfl, does_loadRows _ rfl ty_agg_api_Frac rfl rfl rfl rfl rfl rfl rfl (av_rs 0 rfl rfl) (av_fs 0 rfl)⟩,
      .inl ⟨wants_plain rfl, does_allocOwn [Bz 0, Dz 0, Bz 0, Dz 0] ty_zero_api_Frac rfl rfl rfl rfl rfl z_frac rfl⟩,
      .inl ⟨wants_plain rfl, does_storeNew 4 _ _ ty_agg_api_Frac rfl rfl rfl rfl rfl (pt_own (av_rs 2 rfl rfl)) (av_rs 2 rfl rfl) (ar_tmp (av_rs 1 rfl rfl))⟩,
      trivial⟩ ?_
    refine nx_sub (fs' := [.rows 5 3 (fodd3_EEE_c p0 q0 p1 q1 p2 q2), .slot 6 (VP.int .i64 ((3 : Nat) : Int)), .slot 7 (VP.int .i64 ((1 : Nat) : Int)), .slot 8 (VP.bool (decide (((1 : Nat) : Int) < ((3 : Nat) : Int)))), .rp 9 5 4, .slot 10 (VP.agg [Bz p1, Dz p1, Bz q1, Dz q1]), .box 4 26 [Bz p1, Dz p1, Bz q1, Dz q1]]) [0, 1, 2, 3, 4, 5, 7] rfl ?_
    refine nx_then ?_
    refine t_seq ?_
    refine t_region (F := ⟨_, _, _, _⟩) [.rows 5 3 (fodd3_EEE_c p0 q0 p1 q1 p2 q2), .slot 6 (VP.int .i64 ((3 : Nat) : Int)), .slot 7 (VP.int .i64 ((1 : Nat) : Int)), .slot 8 (VP.bool (decide (((1 : Nat) : Int) < ((3 : Nat) : Int)))), .rp 9 5 4, .slot 10 (VP.agg [Bz p1, Dz p1, Bz q1, Dz q1]), .box 4 26 [Bz p1, Dz p1, Bz q1, Dz q1]] [] [(0, .fp 11 4 0), (1, .slot 12 (INT p1)), (2, .fp 13 4 2), (3, .slot 14 (INT q1)), (4, .arr 15 24 2 [Bz p1, Dz p1, Bz q1, Dz q1]), (5, .slot 16 (VP.bool false)), (6, .slot 17 (VP.bool false)), (7, .fp 18 4 0), (8, .fp 19 4 1), (9, .slot 20 (Dz p1)), (10, .slot 21 (VP.int .i64 (((dg BB p1.natAbs).length : Nat) : Int))), (11, .slot 22 (VP.bool (decide ((((dg BB p1.natAbs).length : Nat) : Int) > 5)))), (12, .slot 23 (VP.bool (decide ((((dg BB p1.natAbs).length : Nat) : Int) > 5)))), (13, .slot 24 (VP.bool (decide ((((dg BB p1.natAbs).length : Nat) : Int) > 5)))), (14, .fp 25 4 2), (15, .fp 26 4 3), (16, .slot 27 (Dz q1)), (17, .slot 28 (VP.int .i64 (((dg BB q1.natAbs).length : Nat) : Int))), (18, .slot 29 (VP.bool (decide ((((dg BB q1.natAbs).length : Nat) : Int) > 5)))), (19, .slot 30 (VP.bool (decide ((((dg BB q1.natAbs).length : Nat) : Int) > 5)))), (20, .slot 31 (VP.bool (decide ((((dg BB q1.natAbs).length : Nat) : Int) > 5)))), (21, .slot 32 (VP.agg [Bz p1, Dz p1, Bz q1, Dz q1])), (22, .slot 33 (VP.bool (rightF p1 q1))), (23, .slot 34 (VP.bool false)), (24, .slot 35 (VP.bool false))] [] [0, 1, 2, 3, 4, 5, 6] [] rfl rfl follow rfl ⟨
      .inl ⟨wants_plain rfl, does_field _ _ _ 0 ty_f0_api_Frac rfl rfl rfl rfl rfl rfl rfl (pt_box (av_fs 6 rfl))⟩,
      .inl ⟨wants_plain rfl, does_loadAgg _ ty_agg_api_Int rfl rfl rfl rfl rfl rfl (pt_fp (av_rs 0 rfl rfl)) (av_fs 6 rfl)⟩,
      .inl ⟨wants_plain rfl, does_field _ _ _ 2 ty_f1_api_Frac rfl rfl rfl rfl rfl rfl rfl (pt_box (av_fs 6 rfl))⟩,
      .inl ⟨wants_plain rfl, does_loadAgg _ ty_agg_api_Int rfl rfl rfl rfl rfl rfl (pt_fp (av_rs 2 rfl rfl)) (av_fs 6 rfl)⟩,
      .inl ⟨wants_plain rfl, does_buildSlice (sz := 2) [Bz 0, Dz 0, Bz 0, Dz 0] ty_zero_api_Int (by kernel_rfl) (fun w => run_sizeAgg ty_agg_api_Int w) rfl rfl rfl rfl rfl rfl (by kernel_rfl) (fun w => by exact z_int_2 w) (.cons 0 [Bz p1, Dz p1] rfl rfl (ar_cells_agg (ar_tmp (av_rs 1 rfl rfl))) (.cons 2 [Bz q1, Dz q1] rfl rfl (ar_cells_agg (ar_tmp (av_rs 3 rfl rfl))) (.nil _)))⟩,
      .inl ⟨wants_plain rfl, does_call (s_even2 p1 q1 (lle hp1 (by decide)) (lle hq1 (by decide))) rfl hb_collator_collatorlaw01_Odd rfl rfl rfl rfl ⟨(ar_arr (av_rs 4 rfl rfl)), trivial⟩⟩,
      .inl ⟨wants_plain rfl, does_move _ (.inl rfl) rfl rfl rfl rfl (ar_tmp (av_rs 5 rfl rfl))⟩,
      .inl ⟨wants_guard false rfl rfl rfl (av_rs 6 rfl rfl), does_field _ _ _ 0 ty_f0_api_Frac rfl rfl rfl rfl rfl rfl rfl (pt_box (av_fs 6 rfl))⟩,
      .inl ⟨wants_guard false rfl rfl rfl (av_rs 6 rfl rfl), does_field _ _ _ 1 ty_f1_api_Int rfl rfl rfl rfl rfl rfl rfl (pt_fp (av_rs 7 rfl rfl))⟩,
      .inl ⟨wants_guard false rfl rfl rfl (av_rs 6 rfl rfl), does_loadOne _ ty_one___uint32 rfl rfl rfl rfl rfl rfl (pt_fp (av_rs 8 rfl rfl)) (av_fs 6 rfl)⟩,
      .inl ⟨wants_guard false rfl rfl rfl (av_rs 6 rfl rfl), does_len _ _ (by kernel_rfl) rfl rfl rfl rfl rfl (ar_tmp (av_rs 9 rfl rfl))⟩,
      .inl ⟨wants_guard false rfl rfl rfl (av_rs 6 rfl rfl), does_cmp (m := (((dg BB p1.natAbs).length : Nat) : Int)) (n := 5) _ _ _ _ _ rfl rfl rfl rfl rfl rfl .i64 (ar_tmp (av_rs 10 rfl rfl)) (ar_const (fun _ => rfl))⟩,
      .inl ⟨wants_plain rfl, does_pick false _ _ _ rfl rfl rfl rfl rfl (ar_tmp (av_rs 6 rfl rfl)) (ar_tmp (av_rs 11 rfl rfl))⟩,
      .inl ⟨wants_plain rfl, does_move _ (.inl rfl) rfl rfl rfl rfl (ar_tmp (av_rs 12 rfl rfl))⟩,
      .inl ⟨wants_guard false rfl rfl rfl (av_bool (gt5_no hp1) (av_rs 13 rfl rfl)), does_field _ _ _ 2 ty_f1_api_Frac rfl rfl rfl rfl rfl rfl rfl (pt_box (av_fs 6 rfl))⟩,
      .inl ⟨wants_guard false rfl rfl rfl (av_bool (gt5_no hp1) (av_rs 13 rfl rfl)), does_field _ _ _ 1 ty_f1_api_Int rfl rfl rfl rfl rfl rfl rfl (pt_fp (av_rs 14 rfl rfl))⟩,
      .inl ⟨wants_guard false rfl rfl rfl (av_bool (gt5_no hp1) (av_rs 13 rfl rfl)), does_loadOne _ ty_one___uint32 rfl rfl rfl rfl rfl rfl (pt_fp (av_rs 15 rfl rfl)) (av_fs 6 rfl)⟩,
      .inl ⟨wants_guard false rfl rfl rfl (av_bool (gt5_no hp1) (av_rs 13 rfl rfl)), does_len _ _ (by kernel_rfl) rfl rfl rfl rfl rfl (ar_tmp (av_rs 16 rfl rfl))⟩,
      .inl ⟨wants_guard false rfl rfl rfl (av_bool (gt5_no hp1) (av_rs 13 rfl rfl)), does_cmp (m := (((dg BB q1.natAbs).length : Nat) : Int)) (n := 5) _ _ _ _ _ rfl rfl rfl rfl rfl rfl .i64 (ar_tmp (av_rs 17 rfl rfl)) (ar_const (fun _ => rfl))⟩,
      .inl ⟨wants_plain rfl, does_pick false _ _ _ rfl rfl rfl rfl rfl (ar_tmp (av_bool (gt5_no hp1) (av_rs 13 rfl rfl))) (ar_tmp (av_rs 18 rfl rfl))⟩,
      .inl ⟨wants_plain rfl, does_move _ (.inl rfl) rfl rfl rfl rfl (ar_tmp (av_rs 19 rfl rfl))⟩,
      .inl ⟨wants_guard false rfl rfl rfl (av_bool (gt5_no hq1) (av_rs 20 rfl rfl)), does_loadAgg _ ty_agg_api_Frac rfl rfl rfl rfl rfl rfl (pt_box (av_fs 6 rfl)) (av_fs 6 rfl)⟩,
      .inl ⟨wants_guard false rfl rfl rfl (av_bool (gt5_no hq1) (av_rs 20 rfl rfl)), does_call (g_right p1 q1 (lle hp1 (by decide)) (lle hq1 (by decide))) rfl hb_collator_collatorref02_Right rfl rfl rfl rfl ⟨(ar_tmp (av_rs 21 rfl rfl)), trivial⟩⟩,
      .inl ⟨wants_guard false rfl rfl rfl (av_bool (gt5_no hq1) (av_rs 20 rfl rfl)), does_not true _ _ rfl rfl rfl rfl rfl (ar_tmp (av_bool hb1 (av_rs 22 rfl rfl)))⟩,
      .inl ⟨wants_plain rfl, does_pick false _ _ _ rfl rfl rfl rfl rfl (ar_tmp (av_bool (gt5_no hq1) (av_rs 20 rfl rfl))) (ar_tmp (av_rs 23 rfl rfl))⟩,
      trivial⟩ ?_
    refine nx_sub (fs' := [.rows 5 3 (fodd3_EEE_c p0 q0 p1 q1 p2 q2), .slot 6 (VP.int .i64 ((3 : Nat) : Int)), .slot 7 (VP.int .i64 ((1 : Nat) : Int)), .slot 8 (VP.bool (decide (((1 : Nat) : Int) < ((3 : Nat) : Int)))), .rp 9 5 4, .slot 10 (VP.agg [Bz p1, Dz p1, Bz q1, Dz q1]), .box 4 26 [Bz p1, Dz p1, Bz q1, Dz q1], .fp 11 4 0, .slot 12 (INT p1), .fp 13 4 2, .slot 14 (INT q1), .arr 15 24 2 [Bz p1, Dz p1, Bz q1, Dz q1], .slot 16 (VP.bool false), .slot 17 (VP.bool false), .fp 18 4 0, .fp 19 4 1, .slot 20 (Dz p1), .slot 21 (VP.int .i64 (((dg BB p1.natAbs).length : Nat) : Int)), .slot 22 (VP.bool (decide ((((dg BB p1.natAbs).length : Nat) : Int) > 5))), .slot 23 (VP.bool (decide ((((dg BB p1.natAbs).length : Nat) : Int) > 5))), .slot 24 (VP.bool (decide ((((dg BB p1.natAbs).length : Nat) : Int) > 5))), .fp 25 4 2, .fp 26 4 3, .slot 27 (Dz q1), .slot 28 (VP.int .i64 (((dg BB q1.natAbs).length : Nat) : Int)), .slot 29 (VP.bool (decide ((((dg BB q1.natAbs).length : Nat) : Int) > 5))), .slot 30 (VP.bool (decide ((((dg BB q1.natAbs).length : Nat) : Int) > 5))), .slot 31 (VP.bool (decide ((((dg BB q1.natAbs).length : Nat) : Int) > 5))), .slot 32 (VP.agg [Bz p1, Dz p1, Bz q1, Dz q1]), .slot 33 (VP.bool (rightF p1 q1)), .slot 34 (VP.bool false), .slot 35 (VP.bool false)]) [0, 1, 2, 3, 4, 5, 6, 7, 8, 9, 10, 11, 12, 13, 14, 15, 16, 17, 18, 19, 20, 21, 22, 23, 24, 25, 26, 27, 28, 29, 30, 31] rfl ?_
    refine nx_then ?_
    refine t_cond_f 31 rfl ?_
    refine t_skip ?_
    refine nx_block ?_
    refine nx_then ?_
    refine t_region (F := ⟨_, _, _, _⟩) [.rows 5 3 (fodd3_EEE_c p0 q0 p1 q1 p2 q2), .slot 6 (VP.int .i64 ((3 : Nat) : Int)), .slot 8 (VP.bool (decide (((1 : Nat) : Int) < ((3 : Nat) : Int)))), .rp 9 5 4, .slot 10 (VP.agg [Bz p1, Dz p1, Bz q1, Dz q1]), .box 4 26 [Bz p1, Dz p1, Bz q1, Dz q1], .fp 11 4 0, .slot 12 (INT p1), .fp 13 4 2, .slot 14 (INT q1), .arr 15 24 2 [Bz p1, Dz p1, Bz q1, Dz q1], .slot 16 (VP.bool false), .slot 17 (VP.bool false), .fp 18 4 0, .fp 19 4 1, .slot 20 (Dz p1), .slot 21 (VP.int .i64 (((dg BB p1.natAbs).length : Nat) : Int)), .slot 22 (VP.bool (decide ((((dg BB p1.natAbs).length : Nat) : Int) > 5))), .slot 23 (VP.bool (decide ((((dg BB p1.natAbs).length : Nat) : Int) > 5))), .slot 24 (VP.bool (decide ((((dg BB p1.natAbs).length : Nat) : Int) > 5))), .fp 25 4 2, .fp 26 4 3, .slot 27 (Dz q1), .slot 28 (VP.int .i64 (((dg BB q1.natAbs).length : Nat) : Int)), .slot 29 (VP.bool (decide ((((dg BB q1.natAbs).length : Nat) : Int) > 5))), .slot 30 (VP.bool (decide ((((dg BB q1.natAbs).length : Nat) : Int) > 5))), .slot 31 (VP.bool (decide ((((dg BB q1.natAbs).length : Nat) : Int) > 5))), .slot 32 (VP.agg [Bz p1, Dz p1, Bz q1, Dz q1]), .slot 33 (VP.bool (rightF p1 q1)), .slot 34 (VP.bool false), .slot 35 (VP.bool false)] [(1, .slot 7 (VP.int .i64 ((1 : Nat) : Int)))] [(0, .slot 36 (VP.int .i64 ((2 : Nat) : Int))), (1, .slot 7 (VP.int .i64 ((2 : Nat) : Int)))] [] [0, 1, 3, 4, 5, 6, 7, 8, 9, 10, 11, 12, 13, 14, 15, 16, 17, 18, 19, 20, 21, 22, 23, 24, 25, 26, 27, 28, 29, 30, 31] [2] rfl rfl follow rfl ⟨
      .inl ⟨wants_plain rfl, does_addInt (m := ((1 : Nat) : Int)) (n := 1) _ _ _ _ rfl rfl rfl rfl rfl (by omega) (ar_tmp (av_os 0 rfl rfl)) (ar_const (fun _ => rfl))⟩,
      .inl ⟨wants_plain rfl, does_move _ (.inl rfl) rfl rfl rfl rfl (ar_tmp (av_rs 0 rfl rfl))⟩,
      trivial⟩ ?_
    refine nx_sub (fs' := [.rows 5 3 (fodd3_EEE_c p0 q0 p1 q1 p2 q2), .slot 6 (VP.int .i64 ((3 : Nat) : Int)), .slot 8 (VP.bool (decide (((1 : Nat) : Int) < ((3 : Nat) : Int)))), .rp 9 5 4, .slot 10 (VP.agg [Bz p1, Dz p1, Bz q1, Dz q1]), .box 4 26 [Bz p1, Dz p1, Bz q1, Dz q1], .fp 11 4 0, .slot 12 (INT p1), .fp 13 4 2, .slot 14 (INT q1), .arr 15 24 2 [Bz p1, Dz p1, Bz q1, Dz q1], .slot 16 (VP.bool false), .slot 17 (VP.bool false), .fp 18 4 0, .fp 19 4 1, .slot 20 (Dz p1), .slot 21 (VP.int .i64 (((dg BB p1.natAbs).length : Nat) : Int)), .slot 22 (VP.bool (decide ((((dg BB p1.natAbs).length : Nat) : Int) > 5))), .slot 23 (VP.bool (decide ((((dg BB p1.natAbs).length : Nat) : Int) > 5))), .slot 24 (VP.bool (decide ((((dg BB p1.natAbs).length : Nat) : Int) > 5))), .fp 25 4 2, .fp 26 4 3, .slot 27 (Dz q1), .slot 28 (VP.int .i64 (((dg BB q1.natAbs).length : Nat) : Int)), .slot 29 (VP.bool (decide ((((dg BB q1.natAbs).length : Nat) : Int) > 5))), .slot 30 (VP.bool (decide ((((dg BB q1.natAbs).length : Nat) : Int) > 5))), .slot 31 (VP.bool (decide ((((dg BB q1.natAbs).length : Nat) : Int) > 5))), .slot 32 (VP.agg [Bz p1, Dz p1, Bz q1, Dz q1]), .slot 33 (VP.bool (rightF p1 q1)), .slot 34 (VP.bool false), .slot 35 (VP.bool false), .slot 36 (VP.int .i64 ((2 : Nat) : Int)), .slot 7 (VP.int .i64 ((2 : Nat) : Int))]) [0, 1, 2, 3, 4, 5, 6, 7, 8, 9, 10, 11, 12, 13, 14, 15, 16, 17, 18, 19, 20, 21, 22, 23, 24, 25, 26, 27, 28, 29, 30, 31, 32] rfl ?_
    exact nx_round ⟨2, by decide⟩ (by show 3 - 2 < 3 - 1; decide) [0, 1, 32] rfl
  case inr.inr.inl =>
    refine t_seq ?_
    refine t_region (F := ⟨_, _, _, _⟩) [.rows 5 3 (fodd3_EEE_c p0 q0 p1 q1 p2 q2), .slot 6 (VP.int .i64 ((3 : Nat) : Int)), .slot 7 (VP.int .i64 ((2 : Nat) : Int))] [] [(0, .slot 8 (VP.bool (decide (((2 : Nat) : Int) < ((3 : Nat) : Int)))))] [] [0, 1, 2] [] rfl rfl follow rfl ⟨
      .inl ⟨wants_plain rfl, does_cmp (m := ((2 : Nat) : Int)) (n := ((3 : Nat) : Int)) _ _ _ _ _ rfl rfl rfl rfl rfl rfl .i64 (ar_tmp (av_fs 2 rfl)) (ar_tmp (av_fs 1 rfl))⟩,
      trivial⟩ ?_
    refine nx_sub (fs' := [.rows 5 3 (fodd3_EEE_c p0 q0 p1 q1 p2 q2), .slot 6 (VP.int .i64 ((3 : Nat) : Int)), .slot 7 (VP.int .i64 ((2 : Nat) : Int)), .slot 8 (VP.bool (decide (((2 : Nat) : Int) < ((3 : Nat) : Int))))]) [0, 1, 2, 3] rfl ?_
    refine nx_then ?_
    refine t_seq ?_
    refine t_cond_te 3 rfl rfl ?_
    refine t_skip ?_
    refine nx_then ?_
    refine t_seq ?_
    refine t_block ?_
    refine t_seq ?_
    refine t_region (F := ⟨_, _, _, _⟩) [.rows 5 3 (fodd3_EEE_c p0 q0 p1 q1 p2 q2), .slot 6 (VP.int .i64 ((3 : Nat) : Int)), .slot 7 (VP.int .i64 ((2 : Nat) : Int)), .slot 8 (VP.bool (decide (((2 : Nat) : Int) < ((3 : Nat) : Int))))] [] [(0, .rp 9 5 8), (1, .slot 10 (VP.agg [Bz p2, Dz p2, Bz q2, Dz q2])), (2, .own 4 26 4), (3, .box 4 26 [Bz p2, Dz p2, Bz q2, Dz q2])] [] [0, 1, 2, 3] [] rfl rfl follow rfl ⟨
      .inl ⟨wants_plain rfl, does_indexRows (m := 2) (sz := 4) _ _ rfl Try.underlying122 (fun w => run_sizeAgg ty_agg_api_Frac w) rfl rfl rfl rfl rfl rfl (by decide) rfl (av_fs 0 rfl) (ar_tmp (av_fs 2 rfl))⟩,
      .inl ⟨wants_plain rfl, does_loadRows _ rfl ty_agg_api_Frac rfl rfl rfl rfl rfl rfl rfl (av_rs 0 rfl rfl) (av_fs 0 rfl)⟩,
      .inl ⟨wants_plain rfl, does_allocOwn [Bz 0, Dz 0, Bz 0, Dz 0] ty_zero_api_Frac rfl rfl rfl rfl rfl z_frac rfl⟩,
      .inl ⟨wants_plain rfl, does_storeNew 4 _ _ ty_agg_api_Frac rfl rfl rfl rfl rfl (pt_own (av_rs 2 rfl rfl)) (av_rs 2 rfl rfl) (ar_tmp (av_rs 1 rfl rfl))⟩,
      trivial⟩ ?_
    refine nx_sub (fs' := [.rows 5 3 (fodd3_EEE_c p0 q0 p1 q1 p2 q2), .slot 6 (VP.int .i64 ((3 : Nat) : Int)), .slot 7 (VP.int .i64 ((2 : Nat) : Int)), .slot 8 (VP.bool (decide (((2 : Nat) : Int) < ((3 : Nat) : Int)))), .rp 9 5 8, .slot 10 (VP.agg [Bz p2, Dz p2, Bz q2, Dz q2]), .box 4 26 [Bz p2, Dz p2, Bz q2, Dz q2]]) [0, 1, 2, 3, 4, 5, 7] rfl ?_
    refine nx_then ?_
    refine t_seq ?_
    refine t_region (F := ⟨_, _, _, _⟩) [.rows 5 3 (fodd3_EEE_c p0 q0 p1 q1 p2 q2), .slot 6 (VP.int .i64 ((3 : Nat) : Int)), .slot 7 (VP.int .i64 ((2 : Nat) : Int)), .slot 8 (VP.bool (decide (((2 : Nat) : Int) < ((3 : Nat) : Int)))), .rp 9 5 8, .slot 10 (VP.agg [Bz p2, Dz p2, Bz q2, Dz q2]), .box 4 26 [Bz p2, Dz p2, Bz q2, Dz q2]] [] [(0, .fp 11 4 0), (1, .slot 12 (INT p2)), (2, .fp 13 4 2), (3, .slot 14 (INT q2)), (4, .arr 15 24 2 [Bz p2, Dz p2, Bz q2, Dz q2]), (5, .slot 16 (VP.bool false)), (6, .slot 17 (VP.bool false)), (7, .fp 18 4 0), (8, .fp 19 4 1), (9, .slot 20 (Dz p2)), (10, .slot 21 (VP.int .i64 (((dg BB p2.natAbs).length : Nat) : Int))), (11, .slot 22 (VP.bool (decide ((((dg BB p2.natAbs).length : Nat) : Int) > 5)))), (12, .slot 23 (VP.bool (decide ((((dg BB p2.natAbs).length : Nat) : Int) > 5)))), (13, .slot 24 (VP.bool (decide ((((dg BB p2.natAbs).length : Nat) : Int) > 5)))), (14, .fp 25 4 2), (15, .fp 26 4 3), (16, .slot 27 (Dz q2)), (17, .slot 28 (VP.int .i64 (((dg BB q2.natAbs).length : Nat) : Int))), (18, .slot 29 (VP.bool (decide ((((dg BB q2.natAbs).length : Nat) : Int) > 5)))), (19, .slot 30 (VP.bool (decide ((((dg BB q2.natAbs).length : Nat) : Int) > 5)))), (20, .slot 31 (VP.bool (decide ((((dg BB q2.natAbs).length : Nat) : Int) > 5)))), (21, .slot 32 (VP.agg [Bz p2, Dz p2, Bz q2, Dz q2])), (22, .slot 33 (VP.bool (rightF p2 q2))), (23, .slot 34 (VP.bool false)), (24, .slot 35 (VP.bool false))] [] [0, 1, 2, 3, 4, 5, 6] [] rfl rfl follow rfl ⟨
      .inl ⟨wants_plain rfl, does_field _ _ _ 0 ty_f0_api_Frac rfl rfl rfl rfl rfl rfl rfl (pt_box (av_fs 6 rfl))⟩,
      .inl ⟨wants_plain rfl, does_loadAgg _ ty_agg_api_Int rfl rfl rfl rfl rfl rfl (pt_fp (av_rs 0 rfl rfl)) (av_fs 6 rfl)⟩,
      .inl ⟨wants_plain rfl, does_field _ _ _ 2 ty_f1_api_Frac rfl rfl rfl rfl rfl rfl rfl (pt_box (av_fs 6 rfl))⟩,
      .inl ⟨wants_plain rfl, does_loadAgg _ ty_agg_api_Int rfl rfl rfl rfl rfl rfl (pt_fp (av_rs 2 rfl rfl)) (av_fs 6 rfl)⟩,
      .inl ⟨wants_plain rfl, does_buildSlice (sz := 2) [Bz 0, Dz 0, Bz 0, Dz 0] ty_zero_api_Int (by kernel_rfl) (fun w => run_sizeAgg ty_agg_api_Int w) rfl rfl rfl rfl rfl rfl (by kernel_rfl) (fun w => by exact z_int_2 w) (.cons 0 [Bz p2, Dz p2] rfl rfl (ar_cells_agg (ar_tmp (av_rs 1 rfl rfl))) (.cons 2 [Bz q2, Dz q2] rfl rfl (ar_cells_agg (ar_tmp (av_rs 3 rfl rfl))) (.nil _)))⟩,
      .inl ⟨wants_plain rfl, does_call (s_even2 p2 q2 (lle hp2 (by decide)) (lle hq2 (by decide))) rfl hb_collator_collatorlaw01_Odd rfl rfl rfl rfl ⟨(ar_arr (av_rs 4 rfl rfl)), trivial⟩⟩,
      .inl ⟨wants_plain rfl, does_move _ (.inl rfl) rfl rfl rfl rfl (ar_tmp (av_rs 5 rfl rfl))⟩,
      .inl ⟨wants_guard false rfl rfl rfl (av_rs 6 rfl rfl), does_field _ _ _ 0 ty_f0_api_Frac rfl rfl rfl rfl rfl rfl rfl (pt_box (av_fs 6 rfl))⟩,
      .inl ⟨wants_guard false rfl rfl rfl (av_rs 6 rfl rfl), does_field _ _ _ 1 ty_f1_api_Int rfl rfl rfl rfl rfl rfl rfl (pt_fp (av_rs 7 rfl rfl))⟩,
      .inl ⟨wants_guard false rfl rfl rfl (av_rs 6 rfl rfl), does_loadOne _ ty_one___uint32 rfl rfl rfl rfl rfl rfl (pt_fp (av_rs 8 rfl rfl)) (av_fs 6 rfl)⟩,
      .inl ⟨wants_guard false rfl rfl rfl (av_rs 6 rfl rfl), does_len _ _ (by kernel_rfl) rfl rfl rfl rfl rfl (ar_tmp (av_rs 9 rfl rfl))⟩,
      .inl ⟨wants_guard false rfl rfl rfl (av_rs 6 rfl rfl), does_cmp (m := (((dg BB p2.natAbs).length : Nat) : Int)) (n := 5) _ _ _ _ _ rfl rfl rfl rfl rfl rfl .i64 (ar_tmp (av_rs 10 rfl rfl)) (ar_const (fun _ => rfl))⟩,
      .inl ⟨wants_plain rfl, does_pick false _ _ _ rfl rfl rfl rfl rfl (ar_tmp (av_rs 6 rfl rfl)) (ar_tmp (av_rs 11 rfl rfl))⟩,
      .inl ⟨wants_plain rfl, does_move _ (.inl rfl) rfl rfl rfl rfl (ar_tmp (av_rs 12 rfl rfl))⟩,
      .inl ⟨wants_guard false rfl rfl rfl (av_bool (gt5_no hp2) (av_rs 13 rfl rfl)), does_field _ _ _ 2 ty_f1_api_Frac rfl rfl rfl rfl rfl rfl rfl (pt_box (av_fs 6 rfl))⟩,
      .inl ⟨wants_guard false rfl rfl rfl (av_bool (gt5_no hp2) (av_rs 13 rfl rfl)), does_field _ _ _ 1 ty_f1_api_Int rfl rfl rfl rfl rfl rfl rfl (pt_fp (av_rs 14 rfl rfl))⟩,
      .inl ⟨wants_guard false rfl rfl rfl (av_bool (gt5_no hp2) (av_rs 13 rfl rfl)), does_loadOne _ ty_one___uint32 rfl rfl rfl rfl rfl rfl (pt_fp (av_rs 15 rfl rfl)) (av_fs 6 rfl)⟩,
      .inl ⟨wants_guard false rfl rfl rfl (av_bool (gt5_no hp2) (av_rs 13 rfl rfl)), does_len _ _ (by kernel_rfl) rfl rfl rfl rfl rfl (ar_tmp (av_rs 16 rfl rfl))⟩,
      .inl ⟨wants_guard false rfl rfl rfl (av_bool (gt5_no hp2) (av_rs 13 rfl rfl)), does_cmp (m := (((dg BB q2.natAbs).length : Nat) : Int)) (n := 5) _ _ _ _ _ rfl rfl rfl rfl rfl rfl .i64 (ar_tmp (av_rs 17 rfl rfl)) (ar_const (fun _ => rfl))⟩,
      .inl ⟨wants_plain rfl, does_pick false _ _ _ rfl rfl rfl rfl rfl (ar_tmp (av_bool (gt5_no hp2) (av_rs 13 rfl rfl))) (ar_tmp (av_rs 18 rfl rfl))⟩,
      .inl ⟨wants_plain rfl, does_move _ (.inl rfl) rfl rfl rfl rfl (ar_tmp (av_rs 19 rfl rfl))⟩,
      .inl ⟨wants_guard false rfl rfl rfl (av_bool (gt5_no hq2) (av_rs 20 rfl rfl)), does_loadAgg _ ty_agg_api_Frac rfl rfl rfl rfl rfl rfl (pt_box (av_fs 6 rfl)) (av_fs 6 rfl)⟩,
      .inl ⟨wants_guard false rfl rfl rfl (av_bool (gt5_no hq2) (av_rs 20 rfl rfl)), does_call (g_right p2 q2 (lle hp2 (by decide)) (lle hq2 (by decide))) rfl hb_collator_collatorref02_Right rfl rfl rfl rfl ⟨(ar_tmp (av_rs 21 rfl rfl)), trivial⟩⟩,
      .inl ⟨wants_guard false rfl rfl rfl (av_bool (gt5_no hq2) (av_rs 20 rfl rfl)), does_not true _ _ rfl rfl rfl rfl rfl (ar_tmp (av_bool hb2 (av_rs 22 rfl rfl)))⟩,
      .inl ⟨wants_plain rfl, does_pick false _ _ _ rfl rfl rfl rfl rfl (ar_tmp (av_bool (gt5_no hq2) (av_rs 20 rfl rfl))) (ar_tmp (av_rs 23 rfl rfl))⟩,
      trivial⟩ ?_
    refine nx_sub (fs' := [.rows 5 3 (fodd3_EEE_c p0 q0 p1 q1 p2 q2), .slot 6 (VP.int .i64 ((3 : Nat) : Int)), .slot 7 (VP.int .i64 ((2 : Nat) : Int)), .slot 8 (VP.bool (decide (((2 : Nat) : Int) < ((3 : Nat) : Int)))), .rp 9 5 8, .slot 10 (VP.agg [Bz p2, Dz p2, Bz q2, Dz q2]), .box 4 26 [Bz p2, Dz p2, Bz q2, Dz q2], .fp 11 4 0, .slot 12 (INT p2), .fp 13 4 2, .slot 14 (INT q2), .arr 15 24 2 [Bz p2, Dz p2, Bz q2, Dz q2], .slot 16 (VP.bool false), .slot 17 (VP.bool false), .fp 18 4 0, .fp 19 4 1, .slot 20 (Dz p2), .slot 21 (VP.int .i64 (((dg BB p2.natAbs).length : Nat) : Int)), .slot 22 (VP.bool (decide ((((dg BB p2.natAbs).length : Nat) : Int) > 5))), .slot 23 (VP.bool (decide ((((dg BB p2.natAbs).length : Nat) : Int) > 5))), .slot 24 (VP.bool (decide ((((dg BB p2.natAbs).length : Nat) : Int) > 5))), .fp 25 4 2, .fp 26 4 3, .slot 27 (Dz q2), .slot 28 (VP.int .i64 (((dg BB q2.natAbs).length : Nat) : Int)), .slot 29 (VP.bool (decide ((((dg BB q2.natAbs).length : Nat) : Int) > 5))), .slot 30 (VP.bool (decide ((((dg BB q2.natAbs).length : Nat) : Int) > 5))), .slot 31 (VP.bool (decide ((((dg BB q2.natAbs).length : Nat) : Int) > 5))), .slot 32 (VP.agg [Bz p2, Dz p2, Bz q2, Dz q2]), .slot 33 (VP.bool (rightF p2 q2)), .slot 34 (VP.bool false), .slot 35 (VP.bool false)]) [0, 1, 2, 3, 4, 5, 6, 7, 8, 9, 10, 11, 12, 13, 14, 15, 16, 17, 18, 19, 20, 21, 22, 23, 24, 25, 26, 27, 28, 29, 30, 31] rfl ?_
    refine nx_then ?_
    refine t_cond_f 31 rfl ?_
    refine t_skip ?_
    refine nx_block ?_
    refine nx_then ?_
    refine t_region (F := ⟨_, _, _, _⟩) [.rows 5 3 (fodd3_EEE_c p0 q0 p1 q1 p2 q2), .slot 6 (VP.int .i64 ((3 : Nat) : Int)), .slot 8 (VP.bool (decide (((2 : Nat) : Int) < ((3 : Nat) : Int)))), .rp 9 5 8, .slot 10 (VP.agg [Bz p2, Dz p2, Bz q2, Dz q2]), .box 4 26 [Bz p2, Dz p2, Bz q2, Dz q2], .fp 11 4 0, .slot 12 (INT p2), .fp 13 4 2, .slot 14 (INT q2), .arr 15 24 2 [Bz p2, Dz p2, Bz q2, Dz q2], .slot 16 (VP.bool false), .slot 17 (VP.bool false), .fp 18 4 0, .fp 19 4 1, .slot 20 (Dz p2), .slot 21 (VP.int .i64 (((dg BB p2.natAbs).length : Nat) : Int)), .slot 22 (VP.bool (decide ((((dg BB p2.natAbs).length : Nat) : Int) > 5))), .slot 23 (VP.bool (decide ((((dg BB p2.natAbs).length : Nat) : Int) > 5))), .slot 24 (VP.bool (decide ((((dg BB p2.natAbs).length : Nat) : Int) > 5))), .fp 25 4 2, .fp 26 4 3, .slot 27 (Dz q2), .slot 28 (VP.int .i64 (((dg BB q2.natAbs).length : Nat) : Int)), .slot 29 (VP.bool (decide ((((dg BB q2.natAbs).length : Nat) : Int) > 5))), .slot 30 (VP.bool (decide ((((dg BB q2.natAbs).length : Nat) : Int) > 5))), .slot 31 (VP.bool (decide ((((dg BB q2.natAbs).length : Nat) : Int) > 5))), .slot 32 (VP.agg [Bz p2, Dz p2, Bz q2, Dz q2]), .slot 33 (VP.bool (rightF p2 q2)), .slot 34 (VP.bool false), .slot 35 (VP.bool false)] [(1, .slot 7 (VP.int .i64 ((2 : Nat) : Int)))] [(0, .slot 36 (VP.int .i64 ((3 : Nat) : Int))), (1, .slot 7 (VP.int .i64 ((3 : Nat) : Int)))] [] [0, 1, 3, 4, 5, 6, 7, 8, 9, 10, 11, 12, 13, 14, 15, 16, 17, 18, 19, 20, 21, 22, 23, 24, 25, 26, 27, 28, 29, 30, 31] [2] rfl rfl follow rfl ⟨
      .inl ⟨wants_plain rfl, does_addInt (m := ((2 : Nat) : Int)) (n := 1) _ _ _ _ rfl rfl rfl rfl rfl (by omega) (ar_tmp (av_os 0 rfl rfl)) (ar_const (fun _ => rfl))⟩,
      .inl ⟨wants_plain rfl, does_move _ (.inl rfl) rfl rfl rfl rfl (ar_tmp (av_rs 0 rfl rfl))⟩,
      trivial⟩ ?_
    refine nx_sub (fs' := [.rows 5 3 (fodd3_EEE_c p0 q0 p1 q1 p2 q2), .slot 6 (VP.int .i64 ((3 : Nat) : Int)), .slot 8 (VP.bool (decide (((2 : Nat) : Int) < ((3 : Nat) : Int)))), .rp 9 5 8, .slot 10 (VP.agg [Bz p2, Dz p2, Bz q2, Dz q2]), .box 4 26 [Bz p2, Dz p2, Bz q2, Dz q2], .fp 11 4 0, .slot 12 (INT p2), .fp 13 4 2, .slot 14 (INT q2), .arr 15 24 2 [Bz p2, Dz p2, Bz q2, Dz q2], .slot 16 (VP.bool false), .slot 17 (VP.bool false), .fp 18 4 0, .fp 19 4 1, .slot 20 (Dz p2), .slot 21 (VP.int .i64 (((dg BB p2.natAbs).length : Nat) : Int)), .slot 22 (VP.bool (decide ((((dg BB p2.natAbs).length : Nat) : Int) > 5))), .slot 23 (VP.bool (decide ((((dg BB p2.natAbs).length : Nat) : Int) > 5))), .slot 24 (VP.bool (decide ((((dg BB p2.natAbs).length : Nat) : Int) > 5))), .fp 25 4 2, .fp 26 4 3, .slot 27 (Dz q2), .slot 28 (VP.int .i64 (((dg BB q2.natAbs).length : Nat) : Int)), .slot 29 (VP.bool (decide ((((dg BB q2.natAbs).length : Nat) : Int) > 5))), .slot 30 (VP.bool (decide ((((dg BB q2.natAbs).length : Nat) : Int) > 5))), .slot 31 (VP.bool (decide ((((dg BB q2.natAbs).length : Nat) : Int) > 5))), .slot 32 (VP.agg [Bz p2, Dz p2, Bz q2, Dz q2]), .slot 33 (VP.bool (rightF p2 q2)), .slot 34 (VP.bool false), .slot 35 (VP.bool false), .slot 36 (VP.int .i64 ((3 : Nat) : Int)), .slot 7 (VP.int .i64 ((3 : Nat) : Int))]) [0, 1, 2, 3, 4, 5, 6, 7, 8, 9, 10, 11, 12, 13, 14, 15, 16, 17, 18, 19, 20, 21, 22, 23, 24, 25, 26, 27, 28, 29, 30, 31, 32] rfl ?_
    exact nx_round ⟨3, by decide⟩ (by show 3 - 3 < 3 - 2; decide) [0, 1, 32] rfl
  case inr.inr.inr =>
    refine t_seq ?_
    refine t_region (F := ⟨_, _, _, _⟩) [.rows 5 3 (fodd3_EEE_c p0 q0 p1 q1 p2 q2), .slot 6 (VP.int .i64 ((3 : Nat) : Int)), .slot 7 (VP.int .i64 ((3 : Nat) : Int))] [] [(0, .slot 8 (VP.bool (decide (((3 : Nat) : Int) < ((3 : Nat) : Int)))))] [] [0, 1, 2] [] rfl rfl follow rfl ⟨
      .inl ⟨wants_plain rfl, does_cmp (m := ((3 : Nat) : Int)) (n := ((3 : Nat) : Int)) _ _ _ _ _ rfl rfl rfl rfl rfl rfl .i64 (ar_tmp (av_fs 2 rfl)) (ar_tmp (av_fs 1 rfl))⟩,
      trivial⟩ ?_
    refine nx_sub (fs' := [.rows 5 3 (fodd3_EEE_c p0 q0 p1 q1 p2 q2), .slot 6 (VP.int .i64 ((3 : Nat) : Int)), .slot 7 (VP.int .i64 ((3 : Nat) : Int)), .slot 8 (VP.bool (decide (((3 : Nat) : Int) < ((3 : Nat) : Int))))]) [0, 1, 2, 3] rfl ?_
    refine nx_then ?_
    refine t_seq ?_
    refine t_cond_fe 3 rfl rfl ?_
    refine t_exit ?_
    refine ex_then ?_
    refine ex_then ?_
    refine ex_block ?_
    refine nx_then ?_
    refine t_seq ?_
    refine t_region (F := ⟨_, _, _, _⟩) [.rows 5 3 (fodd3_EEE_c p0 q0 p1 q1 p2 q2), .slot 6 (VP.int .i64 ((3 : Nat) : Int)), .slot 7 (VP.int .i64 ((3 : Nat) : Int)), .slot 8 (VP.bool (decide (((3 : Nat) : Int) < ((3 : Nat) : Int))))] [] [(0, .slot 2 (VP.bool false))] [] [0, 1, 2, 3] [] rfl rfl follow rfl ⟨
      .inl ⟨wants_plain rfl, does_move _ (.inr rfl) rfl rfl rfl rfl (ar_const (fun _ => rfl))⟩,
      trivial⟩ ?_
    refine nx_sub (fs' := [.slot 2 (VP.bool false)]) [4] rfl ?_
    refine nx_then ?_
    refine t_ret ?_
    exact rt_one rfl (res_tmp 0 rfl)
end Go.Proofs.Ytmlnpagkabmmpaa

/- Three fractions that came in. -/
namespace Go.Proofs.Ytmlnpagkabmmpaa
open Go.RowKit
/-- three fractions -/
theorem odd3_of (x y z : FRaw) (hx : x.ok) (hy : y.ok) (hz : z.ok) : Odd3 x y z true ∨ ∃ a b c : Rat, x = (raw a.num, raw (fD a.den)) ∧ y = (raw b.num, raw (fD b.den)) ∧ z = (raw c.num, raw (fD c.den)) ∧ LR a 5 ∧ LR b 5 ∧ LR c 5 ∧ Odd3 x y z false := by
  obtain ⟨y1, y2⟩ := y
  obtain ⟨z1, z2⟩ := z
  rcases fst x with h | ⟨p, q, rfl, hp, hq, hb⟩ | ⟨p, q, rfl, hp, hq, hb⟩ | ⟨p, q, rfl, hp, hq, hb⟩ | ⟨a, rfl, ha⟩
  · exact .inl (fodd3_A x.1 x.2 hx.1 hx.2 h y1 y2 z1 z2)
  · exact .inl (fodd3_B p q hp hq hb y1 y2 z1 z2)
  · exact .inl (fodd3_C p q hp hq hb y1 y2 z1 z2)
  · exact .inl (fodd3_D p q hp hq hb y1 y2 z1 z2)
  · rcases fst (y1, y2) with h | ⟨p, q, e, hp, hq, hb⟩ | ⟨p, q, e, hp, hq, hb⟩ | ⟨p, q, e, hp, hq, hb⟩ | ⟨b, e, hb⟩
    · exact .inl (fodd3_EA a.num (fD a.den) ha.1 ha.u (rat_rightF a) y1 y2 hy.1 hy.2 h z1 z2)
    · cases e; exact .inl (fodd3_EB a.num (fD a.den) ha.1 ha.u (rat_rightF a) p q hp hq hb z1 z2)
    · cases e; exact .inl (fodd3_EC a.num (fD a.den) ha.1 ha.u (rat_rightF a) p q hp hq hb z1 z2)
    · cases e; exact .inl (fodd3_ED a.num (fD a.den) ha.1 ha.u (rat_rightF a) p q hp hq hb z1 z2)
    · cases e
      rcases fst (z1, z2) with h | ⟨p, q, e, hp, hq, hc⟩ | ⟨p, q, e, hp, hq, hc⟩ | ⟨p, q, e, hp, hq, hc⟩ | ⟨c, e, hc⟩
      · exact .inl (fodd3_EEA a.num (fD a.den) ha.1 ha.u (rat_rightF a) b.num (fD b.den) hb.1 hb.u (rat_rightF b) z1 z2 hz.1 hz.2 h)
      · cases e; exact .inl (fodd3_EEB a.num (fD a.den) ha.1 ha.u (rat_rightF a) b.num (fD b.den) hb.1 hb.u (rat_rightF b) p q hp hq hc)
      · cases e; exact .inl (fodd3_EEC a.num (fD a.den) ha.1 ha.u (rat_rightF a) b.num (fD b.den) hb.1 hb.u (rat_rightF b) p q hp hq hc)
      · cases e; exact .inl (fodd3_EED a.num (fD a.den) ha.1 ha.u (rat_rightF a) b.num (fD b.den) hb.1 hb.u (rat_rightF b) p q hp hq hc)
      · cases e; exact .inr ⟨a, b, c, rfl, rfl, rfl, ha, hb, hc, fodd3_EEE a.num (fD a.den) ha.1 ha.u (rat_rightF a) b.num (fD b.den) hb.1 hb.u (rat_rightF b) c.num (fD c.den) hc.1 hc.u (rat_rightF c)⟩
end Go.Proofs.Ytmlnpagkabmmpaa

/- FracRules: for all that comes in the law returns true, and what came in reads as it did. No condition. -/
namespace Go.Proofs.Ytmlnpagkabmmpaa
open Go.ChangeShapes Go.WideShapes Go.ChangeAt Go.RowKit

theorem fracRules_own : ownKnob Try.prog.godebug = none := by kernel_rfl
theorem fracRules_laid : laidOutB Try.prog = true := by kernel_rfl

theorem fracRules_args (W : World) (args : Array Value) (hn : args.size = 3) (h : ∀ (j : Nat) (t : TypeId) (v : Value), (#[26, 26, 26] : Array TypeId)[j]? = some t → args[j]? = some v → Arg Try.prog W t v) :
    Calls Try.prog 3 args W fun e W' => e = .returned (.bool true) ∧ Ext W W' := by
  obtain ⟨l⟩ := args
  match l, hn with
  | [v0, v1, v2], _ =>
    obtain ⟨x, hx, p1⟩ := arg_frac (h 0 _ v0 rfl rfl)
    obtain ⟨y, hy, p2⟩ := arg_frac (h 1 _ v1 rfl rfl)
    obtain ⟨z, hz, p3⟩ := arg_frac (h 2 _ v2 rfl rfl)
    rcases odd3_of x y z hx hy hz with HO | ⟨a, b, c, rfl, rfl, rfl, ha, hb, hc, HO⟩
    · exact ((frules_odd x y z HO).call3 p1 p2 p3).mono fun e w' h => true_of h
    · exact ((frules_even a b c ha hb hc HO).call3 p1 p2 p3).mono fun e w' h => true_of h

set_option maxRecDepth 100000 in
theorem fracRules_lifted (os : Os) (started : os.Started) (H : Type) (enc : TypeId × Value → H) :
    ReturnsInHanded {} Try.checked os 3 .any (Rows.fracRulesSpec.pre6 enc Try.prog Try.f3 Rows.fracRulesRow.domain false) (Rows.fracRulesSpec.post enc Try.prog Try.f3 false true false false) :=
  law_lifted (C := Try.checked) 4 fracRules_own started (by kernel_rfl) Try.func3 fracRules_laid
      (by rw [Try.params3]; exact (List.forall_mem_cons.2 ⟨⟨by kernel_rfl, of_decide_eq_true (by kernel_rfl)⟩, (List.forall_mem_cons.2 ⟨⟨by kernel_rfl, of_decide_eq_true (by kernel_rfl)⟩, (List.forall_mem_cons.2 ⟨⟨by kernel_rfl, of_decide_eq_true (by kernel_rfl)⟩, (fun _ h => by cases h)⟩)⟩)⟩))
      (by rw [Try.params3]; exact (List.forall_mem_cons.2 ⟨(by show Served Try.prog _; unfold Served; rw [Try.underlying26]; trivial), (List.forall_mem_cons.2 ⟨(by show Served Try.prog _; unfold Served; rw [Try.underlying26]; trivial), (List.forall_mem_cons.2 ⟨(by show Served Try.prog _; unfold Served; rw [Try.underlying26]; trivial), (fun _ h => by cases h)⟩)⟩)⟩))
      rfl Try.underlying4 rfl
      (fun ds hd => by match ds, hd with | [_, _, _], _ => rfl)
      (ChangeSpec.witness6 (enc := enc) (C := Try.checked) false ⟨#[], #[.agg #[.bool false, .slice none 0 0, .bool false, .slice none 0 0], .agg #[.bool false, .slice none 0 0, .bool false, .slice none 0 0], .agg #[.bool false, .slice none 0 0, .bool false, .slice none 0 0]], []⟩ 8 (by kernel_rfl) (by kernel_rfl) (by kernel_rfl) (by kernel_rfl))
      (fun W args hn h => fracRules_args W args (by rw [Try.params3] at hn; exact hn) (by rw [Try.params3] at h; exact h))

theorem fracRules_over : Rows.fracRulesRow.holds Try.pinned (OpenSpec.ofChange Rows.fracRulesSpec) :=
  OpenClaim.holds_of_wide 3 Try.f3 rfl rfl rfl rfl rfl rfl rfl ⟨rfl, rfl, rfl, rfl, rfl⟩ rfl rfl rfl rfl rfl (by kernel_rfl) Try.func3 (by kernel_rfl)
    (of_decide_eq_true (by kernel_rfl)) (by unfold Func.isWrapper; first | (rw [if_pos (by decide +kernel)]; kernel_rfl) | (rw [if_neg (by decide +kernel)]; exact ⟨rfl, rfl⟩))
    (fun os started H enc _ => fracRules_lifted os started H enc)

theorem fracRules_holds : Rows.FracRulesSaid := fracRules_over
#print axioms fracRules_holds
end Go.Proofs.Ytmlnpagkabmmpaa
