/- Part of the proof that a law returns true for all that comes in, and that what came in reads as it did. No condition. -/
import Derived.Test.YtmlnpagkabmmpaaMgB0
/- FracRules: the walks. -/
namespace Go.Proofs.Ytmlnpagkabmmpaa
open Go.RowKit
theorem cmpR_sgn (a b : Rat) : (cmpR a b ≤ 0 ↔ a ≤ b) ∧ (cmpR a b < 0 ↔ a < b) ∧ (cmpR a b = 0 ↔ a = b) := by
  unfold cmpR
  by_cases h1 : a < b
  · rw [if_pos h1]
    refine ⟨⟨fun _ => Rat.le_of_lt h1, fun _ => by decide⟩, ⟨fun _ => h1, fun _ => by decide⟩, ⟨fun h => absurd h (by decide), fun h => absurd (h ▸ h1 : b < b) Rat.lt_irrefl⟩⟩
  · rw [if_neg h1]
    by_cases h2 : a = b
    · rw [if_pos h2]
      exact ⟨⟨fun _ => by subst h2; exact Rat.le_refl, fun _ => by decide⟩, ⟨fun h => absurd h (by decide), fun h => absurd h h1⟩, ⟨fun _ => h2, fun _ => rfl⟩⟩
    · rw [if_neg h2]
      refine ⟨⟨fun h => absurd h (by decide), fun h => ?_⟩, ⟨fun h => absurd h (by decide), fun h => absurd h h1⟩, ⟨fun h => absurd h (by decide), fun h => absurd h h2⟩⟩
      exact absurd (Rat.le_antisymm h (Rat.not_lt.1 h1)) h2
theorem cmpR_shift (a b c : Rat) : cmpR a b = cmpR (a + c) (b + c) := by
  unfold cmpR
  by_cases h1 : a < b
  · rw [if_pos h1, if_pos (show a + c < b + c by grind)]
  · rw [if_neg h1, if_neg (show ¬ a + c < b + c by grind)]
    by_cases h2 : a = b
    · rw [if_pos h2, if_pos (by rw [h2])]
    · rw [if_neg h2, if_neg (fun e => h2 (by grind))]
theorem floor_below (a : Rat) : cmpR ((a.floor : Int) : Rat) a ≤ 0 := (cmpR_sgn _ _).1.2 (Rat.floor_le a)
theorem floor_next (a : Rat) : cmpR a (((a.floor : Int) : Rat) + ((1 : Int) : Rat)) < 0 := by
  refine (cmpR_sgn _ _).2.1.2 ?_
  have := Rat.lt_floor_add_one a
  rwa [Rat.intCast_add] at this
theorem floor_same (a : Rat) : (decide (((a.floor : Int) : Rat) = a) == (cmpR ((a.floor : Int) : Rat) a == 0)) = true := by
  have h := (cmpR_sgn ((a.floor : Int) : Rat) a).2.2
  rw [beq_iff_eq, Bool.eq_iff_iff, decide_eq_true_eq, beq_iff_eq]
  exact h.symm
theorem over_ne {b : Rat} (h : 0 < (dg BB b.num.natAbs).length) : b ≠ 0 := by
  intro e
  subst e
  rw [show (0 : Rat).num.natAbs = 0 from rfl] at h
  exact absurd h (by decide)
theorem mul_div_back {a b : Rat} (h : b ≠ 0) : (a * b) / b = a := by grind
set_option maxRecDepth 100000 in
set_option maxHeartbeats 4000000 in
theorem frules1 (a b c : Rat) (ha : LR a 5) (hb : LR b 5) (hc : LR c 5) (HO : Spec Try.prog 16 [isRows 3 [Bz a.num, Dz a.num, Bz (fD a.den), Dz (fD a.den), Bz b.num, Dz b.num, Bz (fD b.den), Dz (fD b.den), Bz c.num, Dz c.num, Bz (fD c.den), Dz (fD c.den)]] (VP.bool false)) (h : 0 < (dg BB b.num.natAbs).length) : Spec Try.prog 3 [(RAT a).p, (RAT b).p, (RAT c).p] (VP.bool true) := by
  refine spec_of (xs := [RAT a, RAT b, RAT c]) 118 [3, 4, 5, 7, 9] Try.func3 rfl Try.ntmps3 rfl fun w0 => ?_
  refine t_seq ?_
  refine t_region (F := ⟨_, _, _, _⟩) [.slot 0 (RAT a), .slot 1 (RAT b), .slot 2 (RAT c)] [] [(0, .box 3 26 [Bz a.num, Dz a.num, Bz (fD a.den), Dz (fD a.den)]), (1, .box 4 26 [Bz b.num, Dz b.num, Bz (fD b.den), Dz (fD b.den)]), (2, .box 5 26 [Bz c.num, Dz c.num, Bz (fD c.den), Dz (fD c.den)]), (3, .slot 6 (VP.bool false))] [] [0, 1, 2] [] rfl rfl follow rfl ⟨
    .inl ⟨wants_plain rfl, does_box _ rfl rfl rfl rfl rfl (ar_tmp (av_fs 0 rfl))⟩,
    .inl ⟨wants_plain rfl, does_box _ rfl rfl rfl rfl rfl (ar_tmp (av_fs 1 rfl))⟩,
    .inl ⟨wants_plain rfl, does_box _ rfl rfl rfl rfl rfl (ar_tmp (av_fs 2 rfl))⟩,
    .inl ⟨wants_plain rfl, does_move _ (.inr rfl) rfl rfl rfl rfl (ar_const (fun _ => rfl))⟩,
    trivial⟩ ?_
  refine nx_sub (fs' := [.box 3 26 [Bz a.num, Dz a.num, Bz (fD a.den), Dz (fD a.den)], .box 4 26 [Bz b.num, Dz b.num, Bz (fD b.den), Dz (fD b.den)], .box 5 26 [Bz c.num, Dz c.num, Bz (fD c.den), Dz (fD c.den)], .slot 6 (VP.bool false)]) [3, 4, 5, 6] rfl ?_
  refine nx_then ?_
  refine t_seq ?_
  refine t_seq ?_
  refine t_region (F := ⟨_, _, _, _⟩) [.box 3 26 [Bz a.num, Dz a.num, Bz (fD a.den), Dz (fD a.den)], .box 4 26 [Bz b.num, Dz b.num, Bz (fD b.den), Dz (fD b.den)], .box 5 26 [Bz c.num, Dz c.num, Bz (fD c.den), Dz (fD c.den)], .slot 6 (VP.bool false)] [] [(0, .slot 10 (VP.bool true)), (1, .slot 11 (VP.bool false))] [] [0, 1, 2, 3] [] rfl rfl follow rfl ⟨
    .inl ⟨wants_plain rfl, does_call sp2_spec rfl hb_collator_collatorlaw02_speaks rfl rfl rfl rfl trivial⟩,
    .inl ⟨wants_plain rfl, does_not true _ _ rfl rfl rfl rfl rfl (ar_tmp (av_rs 0 rfl rfl))⟩,
    trivial⟩ ?_
  refine nx_sub (fs' := [.box 3 26 [Bz a.num, Dz a.num, Bz (fD a.den), Dz (fD a.den)], .box 4 26 [Bz b.num, Dz b.num, Bz (fD b.den), Dz (fD b.den)], .box 5 26 [Bz c.num, Dz c.num, Bz (fD c.den), Dz (fD c.den)], .slot 6 (VP.bool false), .slot 11 (VP.bool false)]) [0, 1, 2, 3, 5] rfl ?_
  refine nx_then ?_
  refine t_cond_f 4 rfl ?_
  refine t_skip ?_
  refine nx_then ?_
  refine t_seq ?_
  refine t_seq ?_
  refine t_region (F := ⟨_, _, _, _⟩) [.box 3 26 [Bz a.num, Dz a.num, Bz (fD a.den), Dz (fD a.den)], .box 4 26 [Bz b.num, Dz b.num, Bz (fD b.den), Dz (fD b.den)], .box 5 26 [Bz c.num, Dz c.num, Bz (fD c.den), Dz (fD c.den)], .slot 6 (VP.bool false), .slot 11 (VP.bool false)] [] [(0, .slot 12 (RAT a)), (1, .slot 13 (RAT b)), (2, .slot 14 (RAT c)), (3, .arr 15 26 3 [Bz a.num, Dz a.num, Bz (fD a.den), Dz (fD a.den), Bz b.num, Dz b.num, Bz (fD b.den), Dz (fD b.den), Bz c.num, Dz c.num, Bz (fD c.den), Dz (fD c.den)]), (4, .slot 16 (VP.bool false))] [] [0, 1, 2, 3, 4] [] rfl rfl follow rfl ⟨
    .inl ⟨wants_plain rfl, does_loadAgg _ ty_agg_api_Frac rfl rfl rfl rfl rfl rfl (pt_box (av_fs 0 rfl)) (av_fs 0 rfl)⟩,
    .inl ⟨wants_plain rfl, does_loadAgg _ ty_agg_api_Frac rfl rfl rfl rfl rfl rfl (pt_box (av_fs 1 rfl)) (av_fs 1 rfl)⟩,
    .inl ⟨wants_plain rfl, does_loadAgg _ ty_agg_api_Frac rfl rfl rfl rfl rfl rfl (pt_box (av_fs 2 rfl)) (av_fs 2 rfl)⟩,
    .inl ⟨wants_plain rfl, does_buildSlice (sz := 4) [Bz 0, Dz 0, Bz 0, Dz 0, Bz 0, Dz 0, Bz 0, Dz 0, Bz 0, Dz 0, Bz 0, Dz 0] ty_zero_api_Frac (by kernel_rfl) (fun w => run_sizeAgg ty_agg_api_Frac w) rfl rfl rfl rfl rfl rfl (by kernel_rfl) (fun w => by exact z_frac_3 w) (.cons 0 [Bz a.num, Dz a.num, Bz (fD a.den), Dz (fD a.den)] rfl rfl (ar_cells_agg (ar_tmp (av_rs 0 rfl rfl))) (.cons 4 [Bz b.num, Dz b.num, Bz (fD b.den), Dz (fD b.den)] rfl rfl (ar_cells_agg (ar_tmp (av_rs 1 rfl rfl))) (.cons 8 [Bz c.num, Dz c.num, Bz (fD c.den), Dz (fD c.den)] rfl rfl (ar_cells_agg (ar_tmp (av_rs 2 rfl rfl))) (.nil _))))⟩,
    .inl ⟨wants_plain rfl, does_call HO rfl hb_collator_collatorlaw02_Odd rfl rfl rfl rfl ⟨(ar_arr_rows (by simp [maxLen]) (av_rs 3 rfl rfl)), trivial⟩⟩,
    trivial⟩ ?_
  refine nx_sub (fs' := [.box 3 26 [Bz a.num, Dz a.num, Bz (fD a.den), Dz (fD a.den)], .box 4 26 [Bz b.num, Dz b.num, Bz (fD b.den), Dz (fD b.den)], .box 5 26 [Bz c.num, Dz c.num, Bz (fD c.den), Dz (fD c.den)], .slot 6 (VP.bool false), .slot 16 (VP.bool false)]) [0, 1, 2, 3, 9] rfl ?_
  refine nx_then ?_
  refine t_cond_f 4 rfl ?_
  refine t_skip ?_
  refine nx_then ?_
  refine t_seq ?_
  refine t_seq ?_
  refine t_region (F := ⟨_, _, _, _⟩) [.box 3 26 [Bz a.num, Dz a.num, Bz (fD a.den), Dz (fD a.den)], .box 4 26 [Bz b.num, Dz b.num, Bz (fD b.den), Dz (fD b.den)], .box 5 26 [Bz c.num, Dz c.num, Bz (fD c.den), Dz (fD c.den)], .slot 6 (VP.bool false), .slot 16 (VP.bool false)] [] [(0, .slot 17 (RAT a)), (1, .slot 18 (RAT b)), (2, .slot 19 (RAT (a + b))), (3, .slot 20 (RAT b)), (4, .slot 21 (RAT a)), (5, .slot 22 (RAT (b + a))), (6, .slot 23 (VP.bool (decide ((a + b) = (b + a))))), (7, .slot 24 (VP.bool false)), (8, .slot 25 (VP.bool false)), (9, .slot 26 (RAT a)), (10, .slot 27 (RAT b)), (11, .slot 28 (RAT (a * b))), (12, .slot 29 (RAT b)), (13, .slot 30 (RAT a)), (14, .slot 31 (RAT (b * a))), (15, .slot 32 (VP.bool (decide ((a * b) = (b * a))))), (16, .slot 33 (VP.bool false)), (17, .slot 34 (VP.bool false)), (18, .slot 35 (VP.bool false)), (19, .slot 36 (RAT a)), (20, .slot 37 (RAT b)), (21, .slot 38 (RAT c)), (22, .slot 39 (RAT (b + c))), (23, .slot 40 (RAT (a * (b + c)))), (24, .slot 41 (RAT a)), (25, .slot 42 (RAT b)), (26, .slot 43 (RAT (a * b))), (27, .slot 44 (RAT a)), (28, .slot 45 (RAT c)), (29, .slot 46 (RAT (a * c))), (30, .slot 47 (RAT ((a * b) + (a * c)))), (31, .slot 48 (VP.bool (decide ((a * (b + c)) = ((a * b) + (a * c)))))), (32, .slot 49 (VP.bool false)), (33, .slot 50 (VP.bool false)), (34, .slot 51 (VP.bool false)), (35, .slot 52 (RAT a)), (36, .slot 53 (RAT b)), (37, .slot 54 (RAT (a + b))), (38, .slot 55 (RAT b)), (39, .slot 56 (RAT (-b))), (40, .slot 57 (RAT ((a + b) + (-b)))), (41, .slot 58 (RAT a)), (42, .slot 59 (VP.bool (decide (((a + b) + (-b)) = a)))), (43, .slot 60 (VP.bool false)), (44, .slot 61 (VP.bool false))] [] [0, 1, 2, 3, 4] [] rfl rfl follow rfl ⟨
    .inl ⟨wants_plain rfl, does_loadAgg _ ty_agg_api_Frac rfl rfl rfl rfl rfl rfl (pt_box (av_fs 0 rfl)) (av_fs 0 rfl)⟩,
    .inl ⟨wants_plain rfl, does_loadAgg _ ty_agg_api_Frac rfl rfl rfl rfl rfl rfl (pt_box (av_fs 1 rfl)) (av_fs 1 rfl)⟩,
    .inl ⟨wants_plain rfl, does_call (q_add a b (LR.le ha (by decide)) (LR.le hb (by decide))) rfl hb_collator_frac_Add rfl rfl rfl rfl ⟨(ar_tmp (av_rs 0 rfl rfl)), (ar_tmp (av_rs 1 rfl rfl)), trivial⟩⟩,
    .inl ⟨wants_plain rfl, does_loadAgg _ ty_agg_api_Frac rfl rfl rfl rfl rfl rfl (pt_box (av_fs 1 rfl)) (av_fs 1 rfl)⟩,
    .inl ⟨wants_plain rfl, does_loadAgg _ ty_agg_api_Frac rfl rfl rfl rfl rfl rfl (pt_box (av_fs 0 rfl)) (av_fs 0 rfl)⟩,
    .inl ⟨wants_plain rfl, does_call (q_add b a (LR.le hb (by decide)) (LR.le ha (by decide))) rfl hb_collator_frac_Add rfl rfl rfl rfl ⟨(ar_tmp (av_rs 3 rfl rfl)), (ar_tmp (av_rs 4 rfl rfl)), trivial⟩⟩,
    .inl ⟨wants_plain rfl, does_call (w_same (a + b) (b + a) (LR.le (lradd ha hb) (by decide)) (LR.le (lradd hb ha) (by decide))) rfl hb_collator_collatorref02_Same rfl rfl rfl rfl ⟨(ar_tmp (av_rs 2 rfl rfl)), (ar_tmp (av_rs 5 rfl rfl)), trivial⟩⟩,
    .inl ⟨wants_plain rfl, does_not true _ _ rfl rfl rfl rfl rfl (ar_tmp (av_bool (decide_eq_true (Rat.add_comm a b)) (av_rs 6 rfl rfl)))⟩,
    .inl ⟨wants_plain rfl, does_move _ (.inl rfl) rfl rfl rfl rfl (ar_tmp (av_rs 7 rfl rfl))⟩,
    .inl ⟨wants_guard false rfl rfl rfl (av_rs 8 rfl rfl), does_loadAgg _ ty_agg_api_Frac rfl rfl rfl rfl rfl rfl (pt_box (av_fs 0 rfl)) (av_fs 0 rfl)⟩,
    .inl ⟨wants_guard false rfl rfl rfl (av_rs 8 rfl rfl), does_loadAgg _ ty_agg_api_Frac rfl rfl rfl rfl rfl rfl (pt_box (av_fs 1 rfl)) (av_fs 1 rfl)⟩,
    .inl ⟨wants_guard false rfl rfl rfl (av_rs 8 rfl rfl), does_call (q_mul a b (LR.le ha (by decide)) (LR.le hb (by decide))) rfl hb_collator_frac_Mul rfl rfl rfl rfl ⟨(ar_tmp (av_rs 9 rfl rfl)), (ar_tmp (av_rs 10 rfl rfl)), trivial⟩⟩,
    .inl ⟨wants_guard false rfl rfl rfl (av_rs 8 rfl rfl), does_loadAgg _ ty_agg_api_Frac rfl rfl rfl rfl rfl rfl (pt_box (av_fs 1 rfl)) (av_fs 1 rfl)⟩,
    .inl ⟨wants_guard false rfl rfl rfl (av_rs 8 rfl rfl), does_loadAgg _ ty_agg_api_Frac rfl rfl rfl rfl rfl rfl (pt_box (av_fs 0 rfl)) (av_fs 0 rfl)⟩,
    .inl ⟨wants_guard false rfl rfl rfl (av_rs 8 rfl rfl), does_call (q_mul b a (LR.le hb (by decide)) (LR.le ha (by decide))) rfl hb_collator_frac_Mul rfl rfl rfl rfl ⟨(ar_tmp (av_rs 12 rfl rfl)), (ar_tmp (av_rs 13 rfl rfl)), trivial⟩⟩,
    .inl ⟨wants_guard false rfl rfl rfl (av_rs 8 rfl rfl), does_call (w_same (a * b) (b * a) (LR.le (lrmul ha hb) (by decide)) (LR.le (lrmul hb ha) (by decide))) rfl hb_collator_collatorref02_Same rfl rfl rfl rfl ⟨(ar_tmp (av_rs 11 rfl rfl)), (ar_tmp (av_rs 14 rfl rfl)), trivial⟩⟩,
    .inl ⟨wants_guard false rfl rfl rfl (av_rs 8 rfl rfl), does_not true _ _ rfl rfl rfl rfl rfl (ar_tmp (av_bool (decide_eq_true (Rat.mul_comm a b)) (av_rs 15 rfl rfl)))⟩,
    .inl ⟨wants_plain rfl, does_pick false _ _ _ rfl rfl rfl rfl rfl (ar_tmp (av_rs 8 rfl rfl)) (ar_tmp (av_rs 16 rfl rfl))⟩,
    .inl ⟨wants_plain rfl, does_move _ (.inl rfl) rfl rfl rfl rfl (ar_tmp (av_rs 17 rfl rfl))⟩,
    .inl ⟨wants_guard false rfl rfl rfl (av_rs 18 rfl rfl), does_loadAgg _ ty_agg_api_Frac rfl rfl rfl rfl rfl rfl (pt_box (av_fs 0 rfl)) (av_fs 0 rfl)⟩,
    .inl ⟨wants_guard false rfl rfl rfl (av_rs 18 rfl rfl), does_loadAgg _ ty_agg_api_Frac rfl rfl rfl rfl rfl rfl (pt_box (av_fs 1 rfl)) (av_fs 1 rfl)⟩,
    .inl ⟨wants_guard false rfl rfl rfl (av_rs 18 rfl rfl), does_loadAgg _ ty_agg_api_Frac rfl rfl rfl rfl rfl rfl (pt_box (av_fs 2 rfl)) (av_fs 2 rfl)⟩,
    .inl ⟨wants_guard false rfl rfl rfl (av_rs 18 rfl rfl), does_call (q_add b c (LR.le hb (by decide)) (LR.le hc (by decide))) rfl hb_collator_frac_Add rfl rfl rfl rfl ⟨(ar_tmp (av_rs 20 rfl rfl)), (ar_tmp (av_rs 21 rfl rfl)), trivial⟩⟩,
    .inl ⟨wants_guard false rfl rfl rfl (av_rs 18 rfl rfl), does_call (q_mul a (b + c) (LR.le ha (by decide)) (LR.le (lradd hb hc) (by decide))) rfl hb_collator_frac_Mul rfl rfl rfl rfl ⟨(ar_tmp (av_rs 19 rfl rfl)), (ar_tmp (av_rs 22 rfl rfl)), trivial⟩⟩,
    .inl ⟨wants_guard false rfl rfl rfl (av_rs 18 rfl rfl), does_loadAgg _ ty_agg_api_Frac rfl rfl rfl rfl rfl rfl (pt_box (av_fs 0 rfl)) (av_fs 0 rfl)⟩,
    .inl ⟨wants_guard false rfl rfl rfl (av_rs 18 rfl rfl), does_loadAgg _ ty_agg_api_Frac rfl rfl rfl rfl rfl rfl (pt_box (av_fs 1 rfl)) (av_fs 1 rfl)⟩,
    .inl ⟨wants_guard false rfl rfl rfl (av_rs 18 rfl rfl), does_call (q_mul a b (LR.le ha (by decide)) (LR.le hb (by decide))) rfl hb_collator_frac_Mul rfl rfl rfl rfl ⟨(ar_tmp (av_rs 24 rfl rfl)), (ar_tmp (av_rs 25 rfl rfl)), trivial⟩⟩,
    .inl ⟨wants_guard false rfl rfl rfl (av_rs 18 rfl rfl), does_loadAgg _ ty_agg_api_Frac rfl rfl rfl rfl rfl rfl (pt_box (av_fs 0 rfl)) (av_fs 0 rfl)⟩,
    .inl ⟨wants_guard false rfl rfl rfl (av_rs 18 rfl rfl), does_loadAgg _ ty_agg_api_Frac rfl rfl rfl rfl rfl rfl (pt_box (av_fs 2 rfl)) (av_fs 2 rfl)⟩,
    .inl ⟨wants_guard false rfl rfl rfl (av_rs 18 rfl rfl), does_call (q_mul a c (LR.le ha (by decide)) (LR.le hc (by decide))) rfl hb_collator_frac_Mul rfl rfl rfl rfl ⟨(ar_tmp (av_rs 27 rfl rfl)), (ar_tmp (av_rs 28 rfl rfl)), trivial⟩⟩,
    .inl ⟨wants_guard false rfl rfl rfl (av_rs 18 rfl rfl), does_call (q_add (a * b) (a * c) (LR.le (lrmul ha hb) (by decide)) (LR.le (lrmul ha hc) (by decide))) rfl hb_collator_frac_Add rfl rfl rfl rfl ⟨(ar_tmp (av_rs 26 rfl rfl)), (ar_tmp (av_rs 29 rfl rfl)), trivial⟩⟩,
    .inl ⟨wants_guard false rfl rfl rfl (av_rs 18 rfl rfl), does_call (w_same (a * (b + c)) ((a * b) + (a * c)) (LR.le (lrmul ha (lradd hb hc)) (by decide)) (LR.le (lradd (lrmul ha hb) (lrmul ha hc)) (by decide))) rfl hb_collator_collatorref02_Same rfl rfl rfl rfl ⟨(ar_tmp (av_rs 23 rfl rfl)), (ar_tmp (av_rs 30 rfl rfl)), trivial⟩⟩,
    .inl ⟨wants_guard false rfl rfl rfl (av_rs 18 rfl rfl), does_not true _ _ rfl rfl rfl rfl rfl (ar_tmp (av_bool (decide_eq_true (Rat.mul_add a b c)) (av_rs 31 rfl rfl)))⟩,
    .inl ⟨wants_plain rfl, does_pick false _ _ _ rfl rfl rfl rfl rfl (ar_tmp (av_rs 18 rfl rfl)) (ar_tmp (av_rs 32 rfl rfl))⟩,
    .inl ⟨wants_plain rfl, does_move _ (.inl rfl) rfl rfl rfl rfl (ar_tmp (av_rs 33 rfl rfl))⟩,
    .inl ⟨wants_guard false rfl rfl rfl (av_rs 34 rfl rfl), does_loadAgg _ ty_agg_api_Frac rfl rfl rfl rfl rfl rfl (pt_box (av_fs 0 rfl)) (av_fs 0 rfl)⟩,
    .inl ⟨wants_guard false rfl rfl rfl (av_rs 34 rfl rfl), does_loadAgg _ ty_agg_api_Frac rfl rfl rfl rfl rfl rfl (pt_box (av_fs 1 rfl)) (av_fs 1 rfl)⟩,
    .inl ⟨wants_guard false rfl rfl rfl (av_rs 34 rfl rfl), does_call (q_add a b (LR.le ha (by decide)) (LR.le hb (by decide))) rfl hb_collator_frac_Add rfl rfl rfl rfl ⟨(ar_tmp (av_rs 35 rfl rfl)), (ar_tmp (av_rs 36 rfl rfl)), trivial⟩⟩,
    .inl ⟨wants_guard false rfl rfl rfl (av_rs 34 rfl rfl), does_loadAgg _ ty_agg_api_Frac rfl rfl rfl rfl rfl rfl (pt_box (av_fs 1 rfl)) (av_fs 1 rfl)⟩,
    .inl ⟨wants_guard false rfl rfl rfl (av_rs 34 rfl rfl), does_call (q_neg b (LR.le hb (by decide))) rfl hb_collator_frac_Neg rfl rfl rfl rfl ⟨(ar_tmp (av_rs 38 rfl rfl)), trivial⟩⟩,
    .inl ⟨wants_guard false rfl rfl rfl (av_rs 34 rfl rfl), does_call (q_add (a + b) (-b) (LR.le (lradd ha hb) (by decide)) (LR.le (lrneg hb) (by decide))) rfl hb_collator_frac_Add rfl rfl rfl rfl ⟨(ar_tmp (av_rs 37 rfl rfl)), (ar_tmp (av_rs 39 rfl rfl)), trivial⟩⟩,
    .inl ⟨wants_guard false rfl rfl rfl (av_rs 34 rfl rfl), does_loadAgg _ ty_agg_api_Frac rfl rfl rfl rfl rfl rfl (pt_box (av_fs 0 rfl)) (av_fs 0 rfl)⟩,
    .inl ⟨wants_guard false rfl rfl rfl (av_rs 34 rfl rfl), does_call (w_same ((a + b) + (-b)) a (LR.le (lradd (lradd ha hb) (lrneg hb)) (by decide)) (LR.le ha (by decide))) rfl hb_collator_collatorref02_Same rfl rfl rfl rfl ⟨(ar_tmp (av_rs 40 rfl rfl)), (ar_tmp (av_rs 41 rfl rfl)), trivial⟩⟩,
    .inl ⟨wants_guard false rfl rfl rfl (av_rs 34 rfl rfl), does_not true _ _ rfl rfl rfl rfl rfl (ar_tmp (av_bool (decide_eq_true (by grind)) (av_rs 42 rfl rfl)))⟩,
    .inl ⟨wants_plain rfl, does_pick false _ _ _ rfl rfl rfl rfl rfl (ar_tmp (av_rs 34 rfl rfl)) (ar_tmp (av_rs 43 rfl rfl))⟩,
    trivial⟩ ?_
  refine nx_sub (fs' := [.box 3 26 [Bz a.num, Dz a.num, Bz (fD a.den), Dz (fD a.den)], .box 4 26 [Bz b.num, Dz b.num, Bz (fD b.den), Dz (fD b.den)], .box 5 26 [Bz c.num, Dz c.num, Bz (fD c.den), Dz (fD c.den)], .slot 6 (VP.bool false), .slot 61 (VP.bool false)]) [0, 1, 2, 3, 49] rfl ?_
  refine nx_then ?_
  refine t_cond_f 4 rfl ?_
  refine t_skip ?_
  refine nx_then ?_
  refine t_seq ?_
  refine t_seq ?_
  refine t_region (F := ⟨_, _, _, _⟩) [.box 3 26 [Bz a.num, Dz a.num, Bz (fD a.den), Dz (fD a.den)], .box 4 26 [Bz b.num, Dz b.num, Bz (fD b.den), Dz (fD b.den)], .box 5 26 [Bz c.num, Dz c.num, Bz (fD c.den), Dz (fD c.den)], .slot 6 (VP.bool false), .slot 61 (VP.bool false)] [] [(0, .fp 62 4 0), (1, .fp 63 4 1), (2, .slot 64 (Dz b.num)), (3, .slot 65 (VP.int .i64 (((dg BB b.num.natAbs).length : Nat) : Int))), (4, .slot 66 (VP.bool (decide ((((dg BB b.num.natAbs).length : Nat) : Int) > 0)))), (5, .slot 67 (VP.bool (decide ((((dg BB b.num.natAbs).length : Nat) : Int) > 0)))), (6, .slot 68 (RAT a)), (7, .slot 69 (RAT b)), (8, .slot 70 (RAT (a * b))), (9, .slot 71 (RAT b)), (10, .slot 72 (RAT ((a * b) / b))), (11, .slot 73 (RAT a)), (12, .slot 74 (VP.bool (decide (((a * b) / b) = a)))), (13, .slot 75 (VP.bool false)), (14, .slot 76 (VP.bool false))] [] [0, 1, 2, 3, 4] [] rfl rfl follow rfl ⟨
    .inl ⟨wants_plain rfl, does_field _ _ _ 0 ty_f0_api_Frac rfl rfl rfl rfl rfl rfl rfl (pt_box (av_fs 1 rfl))⟩,
    .inl ⟨wants_plain rfl, does_field _ _ _ 1 ty_f1_api_Int rfl rfl rfl rfl rfl rfl rfl (pt_fp (av_rs 0 rfl rfl))⟩,
    .inl ⟨wants_plain rfl, does_loadOne _ ty_one___uint32 rfl rfl rfl rfl rfl rfl (pt_fp (av_rs 1 rfl rfl)) (av_fs 1 rfl)⟩,
    .inl ⟨wants_plain rfl, does_len _ _ (by kernel_rfl) rfl rfl rfl rfl rfl (ar_tmp (av_rs 2 rfl rfl))⟩,
    .inl ⟨wants_plain rfl, does_cmp (m := (((dg BB b.num.natAbs).length : Nat) : Int)) (n := 0) _ _ _ _ _ rfl rfl rfl rfl rfl rfl .i64 (ar_tmp (av_rs 3 rfl rfl)) (ar_const (fun _ => rfl))⟩,
    .inl ⟨wants_plain rfl, does_move _ (.inl rfl) rfl rfl rfl rfl (ar_tmp (av_rs 4 rfl rfl))⟩,
    .inl ⟨wants_guard true rfl rfl rfl (av_bool (decide_eq_true (by omega)) (av_rs 5 rfl rfl)), does_loadAgg _ ty_agg_api_Frac rfl rfl rfl rfl rfl rfl (pt_box (av_fs 0 rfl)) (av_fs 0 rfl)⟩,
    .inl ⟨wants_guard true rfl rfl rfl (av_bool (decide_eq_true (by omega)) (av_rs 5 rfl rfl)), does_loadAgg _ ty_agg_api_Frac rfl rfl rfl rfl rfl rfl (pt_box (av_fs 1 rfl)) (av_fs 1 rfl)⟩,
    .inl ⟨wants_guard true rfl rfl rfl (av_bool (decide_eq_true (by omega)) (av_rs 5 rfl rfl)), does_call (q_mul a b (LR.le ha (by decide)) (LR.le hb (by decide))) rfl hb_collator_frac_Mul rfl rfl rfl rfl ⟨(ar_tmp (av_rs 6 rfl rfl)), (ar_tmp (av_rs 7 rfl rfl)), trivial⟩⟩,
    .inl ⟨wants_guard true rfl rfl rfl (av_bool (decide_eq_true (by omega)) (av_rs 5 rfl rfl)), does_loadAgg _ ty_agg_api_Frac rfl rfl rfl rfl rfl rfl (pt_box (av_fs 1 rfl)) (av_fs 1 rfl)⟩,
    .inl ⟨wants_guard true rfl rfl rfl (av_bool (decide_eq_true (by omega)) (av_rs 5 rfl rfl)), does_call (q_div (a * b) b (LR.le (lrmul ha hb) (by decide)) (LR.le hb (by decide))) rfl hb_collator_frac_Div rfl rfl rfl rfl ⟨(ar_tmp (av_rs 8 rfl rfl)), (ar_tmp (av_rs 9 rfl rfl)), trivial⟩⟩,
    .inl ⟨wants_guard true rfl rfl rfl (av_bool (decide_eq_true (by omega)) (av_rs 5 rfl rfl)), does_loadAgg _ ty_agg_api_Frac rfl rfl rfl rfl rfl rfl (pt_box (av_fs 0 rfl)) (av_fs 0 rfl)⟩,
    .inl ⟨wants_guard true rfl rfl rfl (av_bool (decide_eq_true (by omega)) (av_rs 5 rfl rfl)), does_call (w_same ((a * b) / b) a (LR.le (lrdiv (lrmul ha hb) hb) (by decide)) (LR.le ha (by decide))) rfl hb_collator_collatorref02_Same rfl rfl rfl rfl ⟨(ar_tmp (av_rs 10 rfl rfl)), (ar_tmp (av_rs 11 rfl rfl)), trivial⟩⟩,
    .inl ⟨wants_guard true rfl rfl rfl (av_bool (decide_eq_true (by omega)) (av_rs 5 rfl rfl)), does_not true _ _ rfl rfl rfl rfl rfl (ar_tmp (av_bool (decide_eq_true (mul_div_back (over_ne h))) (av_rs 12 rfl rfl)))⟩,
    .inl ⟨wants_plain rfl, does_pick true _ _ _ rfl rfl rfl rfl rfl (ar_tmp (av_bool (decide_eq_true (by omega)) (av_rs 5 rfl rfl))) (ar_tmp (av_rs 13 rfl rfl))⟩,
    trivial⟩ ?_
  refine nx_sub (fs' := [.box 3 26 [Bz a.num, Dz a.num, Bz (fD a.den), Dz (fD a.den)], .box 4 26 [Bz b.num, Dz b.num, Bz (fD b.den), Dz (fD b.den)], .box 5 26 [Bz c.num, Dz c.num, Bz (fD c.den), Dz (fD c.den)], .slot 6 (VP.bool false), .slot 76 (VP.bool false)]) [0, 1, 2, 3, 19] rfl ?_
  refine nx_then ?_
  refine t_cond_f 4 rfl ?_
  refine t_skip ?_
  refine nx_then ?_
  refine t_seq ?_
  refine t_region (F := ⟨_, _, _, _⟩) [.box 3 26 [Bz a.num, Dz a.num, Bz (fD a.den), Dz (fD a.den)], .box 4 26 [Bz b.num, Dz b.num, Bz (fD b.den), Dz (fD b.den)], .box 5 26 [Bz c.num, Dz c.num, Bz (fD c.den), Dz (fD c.den)], .slot 6 (VP.bool false), .slot 76 (VP.bool false)] [] [(0, .slot 78 (RAT a)), (1, .slot 79 (VP.tup [INT (a.floor), VP.bool (decide ((a.floor : Rat) = a))])), (2, .slot 77 (VP.tup [INT (a.floor), VP.bool (decide ((a.floor : Rat) = a))])), (3, .slot 80 (INT (a.floor))), (4, .slot 81 (VP.bool (decide ((a.floor : Rat) = a)))), (5, .own 7 24 2), (6, .box 7 24 [Bz (a.floor), Dz (a.floor)]), (7, .slot 8 (VP.bool (decide ((a.floor : Rat) = a))))] [] [0, 1, 2, 3, 4] [] rfl rfl follow rfl ⟨
    .inl ⟨wants_plain rfl, does_loadAgg _ ty_agg_api_Frac rfl rfl rfl rfl rfl rfl (pt_box (av_fs 0 rfl)) (av_fs 0 rfl)⟩,
    .inl ⟨wants_plain rfl, does_call (q_floor a (LR.le ha (by decide))) rfl hb_collator_frac_Floor rfl rfl rfl rfl ⟨(ar_tmp (av_rs 0 rfl rfl)), trivial⟩⟩,
    .inl ⟨wants_plain rfl, does_move _ (.inl rfl) rfl rfl rfl rfl (ar_tmp (av_rs 1 rfl rfl))⟩,
    .inl ⟨wants_plain rfl, does_extract (ps := [INT (a.floor), VP.bool (decide ((a.floor : Rat) = a))]) _ _ rfl rfl rfl rfl rfl (ar_tmp (av_rs 2 rfl rfl)) rfl⟩,
    .inl ⟨wants_plain rfl, does_extract (ps := [INT (a.floor), VP.bool (decide ((a.floor : Rat) = a))]) _ _ rfl rfl rfl rfl rfl (ar_tmp (av_rs 2 rfl rfl)) rfl⟩,
    .inl ⟨wants_plain rfl, does_allocOwn [Bz 0, Dz 0] ty_zero_api_Int rfl rfl rfl rfl rfl z_int rfl⟩,
    .inl ⟨wants_plain rfl, does_storeNew 2 _ _ ty_agg_api_Int rfl rfl rfl rfl rfl (pt_own (av_rs 5 rfl rfl)) (av_rs 5 rfl rfl) (ar_tmp (av_rs 3 rfl rfl))⟩,
    .inl ⟨wants_plain rfl, does_move _ (.inr rfl) rfl rfl rfl rfl (ar_tmp (av_rs 4 rfl rfl))⟩,
    trivial⟩ ?_
  refine nx_sub (fs' := [.box 3 26 [Bz a.num, Dz a.num, Bz (fD a.den), Dz (fD a.den)], .box 4 26 [Bz b.num, Dz b.num, Bz (fD b.den), Dz (fD b.den)], .box 5 26 [Bz c.num, Dz c.num, Bz (fD c.den), Dz (fD c.den)], .slot 6 (VP.bool false), .box 7 24 [Bz (a.floor), Dz (a.floor)], .slot 8 (VP.bool (decide ((a.floor : Rat) = a)))]) [0, 1, 2, 3, 11, 12] rfl ?_
  refine nx_then ?_
  refine t_seq ?_
  refine t_region (F := ⟨_, _, _, _⟩) [.box 3 26 [Bz a.num, Dz a.num, Bz (fD a.den), Dz (fD a.den)], .box 4 26 [Bz b.num, Dz b.num, Bz (fD b.den), Dz (fD b.den)], .box 5 26 [Bz c.num, Dz c.num, Bz (fD c.den), Dz (fD c.den)], .slot 6 (VP.bool false), .box 7 24 [Bz (a.floor), Dz (a.floor)], .slot 8 (VP.bool (decide ((a.floor : Rat) = a)))] [] [(0, .slot 82 (INT (a.floor))), (1, .slot 83 (RAT (((a.floor) : Int) : Rat))), (2, .own 9 26 4), (3, .box 9 26 [Bz ((((a.floor) : Int) : Rat).num), Dz ((((a.floor) : Int) : Rat).num), Bz (fD (((a.floor) : Int) : Rat).den), Dz (fD (((a.floor) : Int) : Rat).den)])] [] [0, 1, 2, 3, 4, 5] [] rfl rfl follow rfl ⟨
    .inl ⟨wants_plain rfl, does_loadAgg _ ty_agg_api_Int rfl rfl rfl rfl rfl rfl (pt_box (av_fs 4 rfl)) (av_fs 4 rfl)⟩,
    .inl ⟨wants_plain rfl, does_call (q_of (a.floor) (lle (lrfloor ha) (by decide))) rfl hb_collator_frac_Of rfl rfl rfl rfl ⟨(ar_tmp (av_rs 0 rfl rfl)), trivial⟩⟩,
    .inl ⟨wants_plain rfl, does_allocOwn [Bz 0, Dz 0, Bz 0, Dz 0] ty_zero_api_Frac rfl rfl rfl rfl rfl z_frac rfl⟩,
    .inl ⟨wants_plain rfl, does_storeNew 4 _ _ ty_agg_api_Frac rfl rfl rfl rfl rfl (pt_own (av_rs 2 rfl rfl)) (av_rs 2 rfl rfl) (ar_tmp (av_rs 1 rfl rfl))⟩,
    trivial⟩ ?_
  refine nx_sub (fs' := [.box 3 26 [Bz a.num, Dz a.num, Bz (fD a.den), Dz (fD a.den)], .box 4 26 [Bz b.num, Dz b.num, Bz (fD b.den), Dz (fD b.den)], .box 5 26 [Bz c.num, Dz c.num, Bz (fD c.den), Dz (fD c.den)], .slot 6 (VP.bool false), .slot 8 (VP.bool (decide ((a.floor : Rat) = a))), .box 9 26 [Bz ((((a.floor) : Int) : Rat).num), Dz ((((a.floor) : Int) : Rat).num), Bz (fD (((a.floor) : Int) : Rat).den), Dz (fD (((a.floor) : Int) : Rat).den)]]) [0, 1, 2, 3, 5, 9] rfl ?_
  refine nx_then ?_
  refine t_seq ?_
  refine t_region (F := ⟨_, _, _, _⟩) [.box 3 26 [Bz a.num, Dz a.num, Bz (fD a.den), Dz (fD a.den)], .box 4 26 [Bz b.num, Dz b.num, Bz (fD b.den), Dz (fD b.den)], .box 5 26 [Bz c.num, Dz c.num, Bz (fD c.den), Dz (fD c.den)], .slot 8 (VP.bool (decide ((a.floor : Rat) = a))), .box 9 26 [Bz ((((a.floor) : Int) : Rat).num), Dz ((((a.floor) : Int) : Rat).num), Bz (fD (((a.floor) : Int) : Rat).den), Dz (fD (((a.floor) : Int) : Rat).den)]] [(34, .slot 6 (VP.bool false))] [(0, .slot 84 (RAT (((a.floor) : Int) : Rat))), (1, .slot 85 (RAT a)), (2, .slot 86 (VP.int .i64 (cmpR (((a.floor) : Int) : Rat) a))), (3, .slot 87 (VP.bool (decide ((cmpR (((a.floor) : Int) : Rat) a) ≤ 0)))), (4, .slot 88 (VP.bool (decide ((cmpR (((a.floor) : Int) : Rat) a) ≤ 0)))), (5, .slot 89 (RAT a)), (6, .slot 90 (RAT (((a.floor) : Int) : Rat))), (7, .slot 91 (INT 1)), (8, .slot 92 (RAT ((1 : Int) : Rat))), (9, .slot 93 (RAT ((((a.floor) : Int) : Rat) + ((1 : Int) : Rat)))), (10, .slot 94 (VP.int .i64 (cmpR a ((((a.floor) : Int) : Rat) + ((1 : Int) : Rat))))), (11, .slot 95 (VP.bool (decide ((cmpR a ((((a.floor) : Int) : Rat) + ((1 : Int) : Rat))) < 0)))), (12, .slot 96 (VP.bool (decide ((cmpR a ((((a.floor) : Int) : Rat) + ((1 : Int) : Rat))) < 0)))), (13, .slot 97 (VP.bool (decide ((cmpR a ((((a.floor) : Int) : Rat) + ((1 : Int) : Rat))) < 0)))), (14, .slot 98 (VP.bool (decide ((a.floor : Rat) = a)))), (15, .slot 99 (RAT (((a.floor) : Int) : Rat))), (16, .slot 100 (RAT a)), (17, .slot 101 (VP.int .i64 (cmpR (((a.floor) : Int) : Rat) a))), (18, .slot 102 (VP.bool ((cmpR (((a.floor) : Int) : Rat) a) == 0))), (19, .slot 103 (VP.bool ((decide ((a.floor : Rat) = a)) == ((cmpR (((a.floor) : Int) : Rat) a) == 0)))), (20, .slot 104 (VP.bool ((decide ((a.floor : Rat) = a)) == ((cmpR (((a.floor) : Int) : Rat) a) == 0)))), (21, .slot 105 (VP.bool ((decide ((a.floor : Rat) = a)) == ((cmpR (((a.floor) : Int) : Rat) a) == 0)))), (22, .slot 106 (RAT a)), (23, .slot 107 (RAT b)), (24, .slot 108 (VP.int .i64 (cmpR a b))), (25, .slot 109 (RAT a)), (26, .slot 110 (RAT c)), (27, .slot 111 (RAT (a + c))), (28, .slot 112 (RAT b)), (29, .slot 113 (RAT c)), (30, .slot 114 (RAT (b + c))), (31, .slot 115 (VP.int .i64 (cmpR (a + c) (b + c)))), (32, .slot 116 (VP.bool ((cmpR a b) == (cmpR (a + c) (b + c))))), (33, .slot 117 (VP.bool ((cmpR a b) == (cmpR (a + c) (b + c))))), (34, .slot 6 (VP.bool ((cmpR a b) == (cmpR (a + c) (b + c)))))] [] [0, 1, 2, 4, 5] [3] rfl rfl follow rfl ⟨
    .inl ⟨wants_plain rfl, does_loadAgg _ ty_agg_api_Frac rfl rfl rfl rfl rfl rfl (pt_box (av_fs 4 rfl)) (av_fs 4 rfl)⟩,
    .inl ⟨wants_plain rfl, does_loadAgg _ ty_agg_api_Frac rfl rfl rfl rfl rfl rfl (pt_box (av_fs 0 rfl)) (av_fs 0 rfl)⟩,
    .inl ⟨wants_plain rfl, does_call (q_cmp (((a.floor) : Int) : Rat) a (LR.le (lrint (lrfloor ha) (by decide)) (by decide)) (LR.le ha (by decide))) rfl hb_collator_frac_Cmp rfl rfl rfl rfl ⟨(ar_tmp (av_rs 0 rfl rfl)), (ar_tmp (av_rs 1 rfl rfl)), trivial⟩⟩,
    .inl ⟨wants_plain rfl, does_cmp (m := (cmpR (((a.floor) : Int) : Rat) a)) (n := 0) _ _ _ _ _ rfl rfl rfl rfl rfl rfl .i64 (ar_tmp (av_rs 2 rfl rfl)) (ar_const (fun _ => rfl))⟩,
    .inl ⟨wants_plain rfl, does_move _ (.inl rfl) rfl rfl rfl rfl (ar_tmp (av_rs 3 rfl rfl))⟩,
    .inl ⟨wants_guard true rfl rfl rfl (av_bool (decide_eq_true (floor_below a)) (av_rs 4 rfl rfl)), does_loadAgg _ ty_agg_api_Frac rfl rfl rfl rfl rfl rfl (pt_box (av_fs 0 rfl)) (av_fs 0 rfl)⟩,
    .inl ⟨wants_guard true rfl rfl rfl (av_bool (decide_eq_true (floor_below a)) (av_rs 4 rfl rfl)), does_loadAgg _ ty_agg_api_Frac rfl rfl rfl rfl rfl rfl (pt_box (av_fs 4 rfl)) (av_fs 4 rfl)⟩,
    .inl ⟨wants_guard true rfl rfl rfl (av_bool (decide_eq_true (floor_below a)) (av_rs 4 rfl rfl)), does_call (s_of 1 (by decide) (by decide)) rfl hb_collator_whole_Of rfl rfl rfl rfl ⟨(ar_const (fun _ => rfl)), trivial⟩⟩,
    .inl ⟨wants_guard true rfl rfl rfl (av_bool (decide_eq_true (floor_below a)) (av_rs 4 rfl rfl)), does_call (q_of 1 (lle lone (by decide))) rfl hb_collator_frac_Of rfl rfl rfl rfl ⟨(ar_tmp (av_rs 7 rfl rfl)), trivial⟩⟩,
    .inl ⟨wants_guard true rfl rfl rfl (av_bool (decide_eq_true (floor_below a)) (av_rs 4 rfl rfl)), does_call (q_add (((a.floor) : Int) : Rat) ((1 : Int) : Rat) (LR.le (lrint (lrfloor ha) (by decide)) (by decide)) (LR.le (lrint lone (by decide)) (by decide))) rfl hb_collator_frac_Add rfl rfl rfl rfl ⟨(ar_tmp (av_rs 6 rfl rfl)), (ar_tmp (av_rs 8 rfl rfl)), trivial⟩⟩,
    .inl ⟨wants_guard true rfl rfl rfl (av_bool (decide_eq_true (floor_below a)) (av_rs 4 rfl rfl)), does_call (q_cmp a ((((a.floor) : Int) : Rat) + ((1 : Int) : Rat)) (LR.le ha (by decide)) (LR.le (lradd (lrint (lrfloor ha) (by decide)) (lrint lone (by decide))) (by decide))) rfl hb_collator_frac_Cmp rfl rfl rfl rfl ⟨(ar_tmp (av_rs 5 rfl rfl)), (ar_tmp (av_rs 9 rfl rfl)), trivial⟩⟩,
    .inl ⟨wants_guard true rfl rfl rfl (av_bool (decide_eq_true (floor_below a)) (av_rs 4 rfl rfl)), does_cmp (m := (cmpR a ((((a.floor) : Int) : Rat) + ((1 : Int) : Rat)))) (n := 0) _ _ _ _ _ rfl rfl rfl rfl rfl rfl .i64 (ar_tmp (av_rs 10 rfl rfl)) (ar_const (fun _ => rfl))⟩,
    .inl ⟨wants_plain rfl, does_pick true _ _ _ rfl rfl rfl rfl rfl (ar_tmp (av_bool (decide_eq_true (floor_below a)) (av_rs 4 rfl rfl))) (ar_tmp (av_rs 11 rfl rfl))⟩,
    .inl ⟨wants_plain rfl, does_move _ (.inl rfl) rfl rfl rfl rfl (ar_tmp (av_rs 12 rfl rfl))⟩,
    .inl ⟨wants_guard true rfl rfl rfl (av_bool (decide_eq_true (floor_next a)) (av_rs 13 rfl rfl)), does_move _ (.inl rfl) rfl rfl rfl rfl (ar_tmp (av_fs 3 rfl))⟩,
    .inl ⟨wants_guard true rfl rfl rfl (av_bool (decide_eq_true (floor_next a)) (av_rs 13 rfl rfl)), does_loadAgg _ ty_agg_api_Frac rfl rfl rfl rfl rfl rfl (pt_box (av_fs 4 rfl)) (av_fs 4 rfl)⟩,
    .inl ⟨wants_guard true rfl rfl rfl (av_bool (decide_eq_true (floor_next a)) (av_rs 13 rfl rfl)), does_loadAgg _ ty_agg_api_Frac rfl rfl rfl rfl rfl rfl (pt_box (av_fs 0 rfl)) (av_fs 0 rfl)⟩,
    .inl ⟨wants_guard true rfl rfl rfl (av_bool (decide_eq_true (floor_next a)) (av_rs 13 rfl rfl)), does_call (q_cmp (((a.floor) : Int) : Rat) a (LR.le (lrint (lrfloor ha) (by decide)) (by decide)) (LR.le ha (by decide))) rfl hb_collator_frac_Cmp rfl rfl rfl rfl ⟨(ar_tmp (av_rs 15 rfl rfl)), (ar_tmp (av_rs 16 rfl rfl)), trivial⟩⟩,
    .inl ⟨wants_guard true rfl rfl rfl (av_bool (decide_eq_true (floor_next a)) (av_rs 13 rfl rfl)), does_cmp (m := (cmpR (((a.floor) : Int) : Rat) a)) (n := 0) _ _ _ _ _ rfl rfl rfl rfl rfl rfl .i64 (ar_tmp (av_rs 17 rfl rfl)) (ar_const (fun _ => rfl))⟩,
    .inl ⟨wants_guard true rfl rfl rfl (av_bool (decide_eq_true (floor_next a)) (av_rs 13 rfl rfl)), does_eqBool (u := (decide ((a.floor : Rat) = a))) (v := ((cmpR (((a.floor) : Int) : Rat) a) == 0)) _ _ _ _ _ (by kernel_rfl) rfl rfl rfl rfl rfl rfl (ar_tmp (av_rs 14 rfl rfl)) (ar_tmp (av_rs 18 rfl rfl))⟩,
    .inl ⟨wants_plain rfl, does_pick true _ _ _ rfl rfl rfl rfl rfl (ar_tmp (av_bool (decide_eq_true (floor_next a)) (av_rs 13 rfl rfl))) (ar_tmp (av_rs 19 rfl rfl))⟩,
    .inl ⟨wants_plain rfl, does_move _ (.inl rfl) rfl rfl rfl rfl (ar_tmp (av_rs 20 rfl rfl))⟩,
    .inl ⟨wants_guard true rfl rfl rfl (av_bool (floor_same a) (av_rs 21 rfl rfl)), does_loadAgg _ ty_agg_api_Frac rfl rfl rfl rfl rfl rfl (pt_box (av_fs 0 rfl)) (av_fs 0 rfl)⟩,
    .inl ⟨wants_guard true rfl rfl rfl (av_bool (floor_same a) (av_rs 21 rfl rfl)), does_loadAgg _ ty_agg_api_Frac rfl rfl rfl rfl rfl rfl (pt_box (av_fs 1 rfl)) (av_fs 1 rfl)⟩,
    .inl ⟨wants_guard true rfl rfl rfl (av_bool (floor_same a) (av_rs 21 rfl rfl)), does_call (q_cmp a b (LR.le ha (by decide)) (LR.le hb (by decide))) rfl hb_collator_frac_Cmp rfl rfl rfl rfl ⟨(ar_tmp (av_rs 22 rfl rfl)), (ar_tmp (av_rs 23 rfl rfl)), trivial⟩⟩,
    .inl ⟨wants_guard true rfl rfl rfl (av_bool (floor_same a) (av_rs 21 rfl rfl)), does_loadAgg _ ty_agg_api_Frac rfl rfl rfl rfl rfl rfl (pt_box (av_fs 0 rfl)) (av_fs 0 rfl)⟩,
    .inl ⟨wants_guard true rfl rfl rfl (av_bool (floor_same a) (av_rs 21 rfl rfl)), does_loadAgg _ ty_agg_api_Frac rfl rfl rfl rfl rfl rfl (pt_box (av_fs 2 rfl)) (av_fs 2 rfl)⟩,
    .inl ⟨wants_guard true rfl rfl rfl (av_bool (floor_same a) (av_rs 21 rfl rfl)), does_call (q_add a c (LR.le ha (by decide)) (LR.le hc (by decide))) rfl hb_collator_frac_Add rfl rfl rfl rfl ⟨(ar_tmp (av_rs 25 rfl rfl)), (ar_tmp (av_rs 26 rfl rfl)), trivial⟩⟩,
    .inl ⟨wants_guard true rfl rfl rfl (av_bool (floor_same a) (av_rs 21 rfl rfl)), does_loadAgg _ ty_agg_api_Frac rfl rfl rfl rfl rfl rfl (pt_box (av_fs 1 rfl)) (av_fs 1 rfl)⟩,
    .inl ⟨wants_guard true rfl rfl rfl (av_bool (floor_same a) (av_rs 21 rfl rfl)), does_loadAgg _ ty_agg_api_Frac rfl rfl rfl rfl rfl rfl (pt_box (av_fs 2 rfl)) (av_fs 2 rfl)⟩,
    .inl ⟨wants_guard true rfl rfl rfl (av_bool (floor_same a) (av_rs 21 rfl rfl)), does_call (q_add b c (LR.le hb (by decide)) (LR.le hc (by decide))) rfl hb_collator_frac_Add rfl rfl rfl rfl ⟨(ar_tmp (av_rs 28 rfl rfl)), (ar_tmp (av_rs 29 rfl rfl)), trivial⟩⟩,
    .inl ⟨wants_guard true rfl rfl rfl (av_bool (floor_same a) (av_rs 21 rfl rfl)), does_call (q_cmp (a + c) (b + c) (LR.le (lradd ha hc) (by decide)) (LR.le (lradd hb hc) (by decide))) rfl hb_collator_frac_Cmp rfl rfl rfl rfl ⟨(ar_tmp (av_rs 27 rfl rfl)), (ar_tmp (av_rs 30 rfl rfl)), trivial⟩⟩,
    .inl ⟨wants_guard true rfl rfl rfl (av_bool (floor_same a) (av_rs 21 rfl rfl)), does_cmp (m := (cmpR a b)) (n := (cmpR (a + c) (b + c))) _ _ _ _ _ rfl rfl rfl rfl rfl rfl .i64 (ar_tmp (av_rs 24 rfl rfl)) (ar_tmp (av_rs 31 rfl rfl))⟩,
    .inl ⟨wants_plain rfl, does_pick true _ _ _ rfl rfl rfl rfl rfl (ar_tmp (av_bool (floor_same a) (av_rs 21 rfl rfl))) (ar_tmp (av_rs 32 rfl rfl))⟩,
    .inl ⟨wants_plain rfl, does_move _ (.inr rfl) rfl rfl rfl rfl (ar_tmp (av_rs 33 rfl rfl))⟩,
    trivial⟩ ?_
  refine nx_sub (fs' := [.slot 6 (VP.bool ((cmpR a b) == (cmpR (a + c) (b + c))))]) [39] rfl ?_
  refine nx_then ?_
  refine t_ret ?_
  exact rt_one rfl (res_tmpb 0 rfl (beq_iff_eq.2 (cmpR_shift a b c)))
set_option maxRecDepth 100000 in
set_option maxHeartbeats 4000000 in
theorem frules2 (a b c : Rat) (ha : LR a 5) (hb : LR b 5) (hc : LR c 5) (HO : Spec Try.prog 16 [isRows 3 [Bz a.num, Dz a.num, Bz (fD a.den), Dz (fD a.den), Bz b.num, Dz b.num, Bz (fD b.den), Dz (fD b.den), Bz c.num, Dz c.num, Bz (fD c.den), Dz (fD c.den)]] (VP.bool false)) (h : ¬ 0 < (dg BB b.num.natAbs).length) : Spec Try.prog 3 [(RAT a).p, (RAT b).p, (RAT c).p] (VP.bool true) := by
  refine spec_of (xs := [RAT a, RAT b, RAT c]) 118 [3, 4, 5, 7, 9] Try.func3 rfl Try.ntmps3 rfl fun w0 => ?_
  refine t_seq ?_
  refine t_region (F := ⟨_, _, _, _⟩) [.slot 0 (RAT a), .slot 1 (RAT b), .slot 2 (RAT c)] [] [(0, .box 3 26 [Bz a.num, Dz a.num, Bz (fD a.den), Dz (fD a.den)]), (1, .box 4 26 [Bz b.num, Dz b.num, Bz (fD b.den), Dz (fD b.den)]), (2, .box 5 26 [Bz c.num, Dz c.num, Bz (fD c.den), Dz (fD c.den)]), (3, .slot 6 (VP.bool false))] [] [0, 1, 2] [] rfl rfl follow rfl ⟨
    .inl ⟨wants_plain rfl, does_box _ rfl rfl rfl rfl rfl (ar_tmp (av_fs 0 rfl))⟩,
    .inl ⟨wants_plain rfl, does_box _ rfl rfl rfl rfl rfl (ar_tmp (av_fs 1 rfl))⟩,
    .inl ⟨wants_plain rfl, does_box _ rfl rfl rfl rfl rfl (ar_tmp (av_fs 2 rfl))⟩,
    .inl ⟨wants_plain rfl, does_move _ (.inr rfl) rfl rfl rfl rfl (ar_const (fun _ => rfl))⟩,
    trivial⟩ ?_
  refine nx_sub (fs' := [.box 3 26 [Bz a.num, Dz a.num, Bz (fD a.den), Dz (fD a.den)], .box 4 26 [Bz b.num, Dz b.num, Bz (fD b.den), Dz (fD b.den)], .box 5 26 [Bz c.num, Dz c.num, Bz (fD c.den), Dz (fD c.den)], .slot 6 (VP.bool false)]) [3, 4, 5, 6] rfl ?_
  refine nx_then ?_
  refine t_seq ?_
  refine t_seq ?_
  refine t_region (F := ⟨_, _, _, _⟩) [.box 3 26 [Bz a.num, Dz a.num, Bz (fD a.den), Dz (fD a.den)], .box 4 26 [Bz b.num, Dz b.num, Bz (fD b.den), Dz (fD b.den)], .box 5 26 [Bz c.num, Dz c.num, Bz (fD c.den), Dz (fD c.den)], .slot 6 (VP.bool false)] [] [(0, .slot 10 (VP.bool true)), (1, .slot 11 (VP.bool false))] [] [0, 1, 2, 3] [] rfl rfl follow rfl ⟨
    .inl ⟨wants_plain rfl, does_call sp2_spec rfl hb_collator_collatorlaw02_speaks rfl rfl rfl rfl trivial⟩,
    .inl ⟨wants_plain rfl, does_not true _ _ rfl rfl rfl rfl rfl (ar_tmp (av_rs 0 rfl rfl))⟩,
    trivial⟩ ?_
  refine nx_sub (fs' := [.box 3 26 [Bz a.num, Dz a.num, Bz (fD a.den), Dz (fD a.den)], .box 4 26 [Bz b.num, Dz b.num, Bz (fD b.den), Dz (fD b.den)], .box 5 26 [Bz c.num, Dz c.num, Bz (fD c.den), Dz (fD c.den)], .slot 6 (VP.bool false), .slot 11 (VP.bool false)]) [0, 1, 2, 3, 5] rfl ?_
  refine nx_then ?_
  refine t_cond_f 4 rfl ?_
  refine t_skip ?_
  refine nx_then ?_
  refine t_seq ?_
  refine t_seq ?_
  refine t_region (F := ⟨_, _, _, _⟩) [.box 3 26 [Bz a.num, Dz a.num, Bz (fD a.den), Dz (fD a.den)], .box 4 26 [Bz b.num, Dz b.num, Bz (fD b.den), Dz (fD b.den)], .box 5 26 [Bz c.num, Dz c.num, Bz (fD c.den), Dz (fD c.den)], .slot 6 (VP.bool false), .slot 11 (VP.bool false)] [] [(0, .slot 12 (RAT a)), (1, .slot 13 (RAT b)), (2, .slot 14 (RAT c)), (3, .arr 15 26 3 [Bz a.num, Dz a.num, Bz (fD a.den), Dz (fD a.den), Bz b.num, Dz b.num, Bz (fD b.den), Dz (fD b.den), Bz c.num, Dz c.num, Bz (fD c.den), Dz (fD c.den)]), (4, .slot 16 (VP.bool false))] [] [0, 1, 2, 3, 4] [] rfl rfl follow rfl ⟨
    .inl ⟨wants_plain rfl, does_loadAgg _ ty_agg_api_Frac rfl rfl rfl rfl rfl rfl (pt_box (av_fs 0 rfl)) (av_fs 0 rfl)⟩,
    .inl ⟨wants_plain rfl, does_loadAgg _ ty_agg_api_Frac rfl rfl rfl rfl rfl rfl (pt_box (av_fs 1 rfl)) (av_fs 1 rfl)⟩,
    .inl ⟨wants_plain rfl, does_loadAgg _ ty_agg_api_Frac rfl rfl rfl rfl rfl rfl (pt_box (av_fs 2 rfl)) (av_fs 2 rfl)⟩,
    .inl ⟨wants_plain rfl, does_buildSlice (sz := 4) [Bz 0, Dz 0, Bz 0, Dz 0, Bz 0, Dz 0, Bz 0, Dz 0, Bz 0, Dz 0, Bz 0, Dz 0] ty_zero_api_Frac (by kernel_rfl) (fun w => run_sizeAgg ty_agg_api_Frac w) rfl rfl rfl rfl rfl rfl (by kernel_rfl) (fun w => by exact z_frac_3 w) (.cons 0 [Bz a.num, Dz a.num, Bz (fD a.den), Dz (fD a.den)] rfl rfl (ar_cells_agg (ar_tmp (av_rs 0 rfl rfl))) (.cons 4 [Bz b.num, Dz b.num, Bz (fD b.den), Dz (fD b.den)] rfl rfl (ar_cells_agg (ar_tmp (av_rs 1 rfl rfl))) (.cons 8 [Bz c.num, Dz c.num, Bz (fD c.den), Dz (fD c.den)] rfl rfl (ar_cells_agg (ar_tmp (av_rs 2 rfl rfl))) (.nil _))))⟩,
    .inl ⟨wants_plain rfl, does_call HO rfl hb_collator_collatorlaw02_Odd rfl rfl rfl rfl ⟨(ar_arr_rows (by simp [maxLen]) (av_rs 3 rfl rfl)), trivial⟩⟩,
    trivial⟩ ?_
  refine nx_sub (fs' := [.box 3 26 [Bz a.num, Dz a.num, Bz (fD a.den), Dz (fD a.den)], .box 4 26 [Bz b.num, Dz b.num, Bz (fD b.den), Dz (fD b.den)], .box 5 26 [Bz c.num, Dz c.num, Bz (fD c.den), Dz (fD c.den)], .slot 6 (VP.bool false), .slot 16 (VP.bool false)]) [0, 1, 2, 3, 9] rfl ?_
  refine nx_then ?_
  refine t_cond_f 4 rfl ?_
  refine t_skip ?_
  refine nx_then ?_
  refine t_seq ?_
  refine t_seq ?_
  refine t_region (F := ⟨_, _, _, _⟩) [.box 3 26 [Bz a.num, Dz a.num, Bz (fD a.den), Dz (fD a.den)], .box 4 26 [Bz b.num, Dz b.num, Bz (fD b.den), Dz (fD b.den)], .box 5 26 [Bz c.num, Dz c.num, Bz (fD c.den), Dz (fD c.den)], .slot 6 (VP.bool false), .slot 16 (VP.bool false)] [] [(0, .slot 17 (RAT a)), (1, .slot 18 (RAT b)), (2, .slot 19 (RAT (a + b))), (3, .slot 20 (RAT b)), (4, .slot 21 (RAT a)), (5, .slot 22 (RAT (b + a))), (6, .slot 23 (VP.bool (decide ((a + b) = (b + a))))), (7, .slot 24 (VP.bool false)), (8, .slot 25 (VP.bool false)), (9, .slot 26 (RAT a)), (10, .slot 27 (RAT b)), (11, .slot 28 (RAT (a * b))), (12, .slot 29 (RAT b)), (13, .slot 30 (RAT a)), (14, .slot 31 (RAT (b * a))), (15, .slot 32 (VP.bool (decide ((a * b) = (b * a))))), (16, .slot 33 (VP.bool false)), (17, .slot 34 (VP.bool false)), (18, .slot 35 (VP.bool false)), (19, .slot 36 (RAT a)), (20, .slot 37 (RAT b)), (21, .slot 38 (RAT c)), (22, .slot 39 (RAT (b + c))), (23, .slot 40 (RAT (a * (b + c)))), (24, .slot 41 (RAT a)), (25, .slot 42 (RAT b)), (26, .slot 43 (RAT (a * b))), (27, .slot 44 (RAT a)), (28, .slot 45 (RAT c)), (29, .slot 46 (RAT (a * c))), (30, .slot 47 (RAT ((a * b) + (a * c)))), (31, .slot 48 (VP.bool (decide ((a * (b + c)) = ((a * b) + (a * c)))))), (32, .slot 49 (VP.bool false)), (33, .slot 50 (VP.bool false)), (34, .slot 51 (VP.bool false)), (35, .slot 52 (RAT a)), (36, .slot 53 (RAT b)), (37, .slot 54 (RAT (a + b))), (38, .slot 55 (RAT b)), (39, .slot 56 (RAT (-b))), (40, .slot 57 (RAT ((a + b) + (-b)))), (41, .slot 58 (RAT a)), (42, .slot 59 (VP.bool (decide (((a + b) + (-b)) = a)))), (43, .slot 60 (VP.bool false)), (44, .slot 61 (VP.bool false))] [] [0, 1, 2, 3, 4] [] rfl rfl follow rfl ⟨
    .inl ⟨wants_plain rfl, does_loadAgg _ ty_agg_api_Frac rfl rfl rfl rfl rfl rfl (pt_box (av_fs 0 rfl)) (av_fs 0 rfl)⟩,
    .inl ⟨wants_plain rfl, does_loadAgg _ ty_agg_api_Frac rfl rfl rfl rfl rfl rfl (pt_box (av_fs 1 rfl)) (av_fs 1 rfl)⟩,
    .inl ⟨wants_plain rfl, does_call (q_add a b (LR.le ha (by decide)) (LR.le hb (by decide))) rfl hb_collator_frac_Add rfl rfl rfl rfl ⟨(ar_tmp (av_rs 0 rfl rfl)), (ar_tmp (av_rs 1 rfl rfl)), trivial⟩⟩,
    .inl ⟨wants_plain rfl, does_loadAgg _ ty_agg_api_Frac rfl rfl rfl rfl rfl rfl (pt_box (av_fs 1 rfl)) (av_fs 1 rfl)⟩,
    .inl ⟨wants_plain rfl, does_loadAgg _ ty_agg_api_Frac rfl rfl rfl rfl rfl rfl (pt_box (av_fs 0 rfl)) (av_fs 0 rfl)⟩,
    .inl ⟨wants_plain rfl, does_call (q_add b a (LR.le hb (by decide)) (LR.le ha (by decide))) rfl hb_collator_frac_Add rfl rfl rfl rfl ⟨(ar_tmp (av_rs 3 rfl rfl)), (ar_tmp (av_rs 4 rfl rfl)), trivial⟩⟩,
    .inl ⟨wants_plain rfl, does_call (w_same (a + b) (b + a) (LR.le (lradd ha hb) (by decide)) (LR.le (lradd hb ha) (by decide))) rfl hb_collator_collatorref02_Same rfl rfl rfl rfl ⟨(ar_tmp (av_rs 2 rfl rfl)), (ar_tmp (av_rs 5 rfl rfl)), trivial⟩⟩,
    .inl ⟨wants_plain rfl, does_not true _ _ rfl rfl rfl rfl rfl (ar_tmp (av_bool (decide_eq_true (Rat.add_comm a b)) (av_rs 6 rfl rfl)))⟩,
    .inl ⟨wants_plain rfl, does_move _ (.inl rfl) rfl rfl rfl rfl (ar_tmp (av_rs 7 rfl rfl))⟩,
    .inl ⟨wants_guard false rfl rfl rfl (av_rs 8 rfl rfl), does_loadAgg _ ty_agg_api_Frac rfl rfl rfl rfl rfl rfl (pt_box (av_fs 0 rfl)) (av_fs 0 rfl)⟩,
    .inl ⟨wants_guard false rfl rfl rfl (av_rs 8 rfl rfl), does_loadAgg _ ty_agg_api_Frac rfl rfl rfl rfl rfl rfl (pt_box (av_fs 1 rfl)) (av_fs 1 rfl)⟩,
    .inl ⟨wants_guard false rfl rfl rfl (av_rs 8 rfl rfl), does_call (q_mul a b (LR.le ha (by decide)) (LR.le hb (by decide))) rfl hb_collator_frac_Mul rfl rfl rfl rfl ⟨(ar_tmp (av_rs 9 rfl rfl)), (ar_tmp (av_rs 10 rfl rfl)), trivial⟩⟩,
    .inl ⟨wants_guard false rfl rfl rfl (av_rs 8 rfl rfl), does_loadAgg _ ty_agg_api_Frac rfl rfl rfl rfl rfl rfl (pt_box (av_fs 1 rfl)) (av_fs 1 rfl)⟩,
    .inl ⟨wants_guard false rfl rfl rfl (av_rs 8 rfl rfl), does_loadAgg _ ty_agg_api_Frac rfl rfl rfl rfl rfl rfl (pt_box (av_fs 0 rfl)) (av_fs 0 rfl)⟩,
    .inl ⟨wants_guard false rfl rfl rfl (av_rs 8 rfl rfl), does_call (q_mul b a (LR.le hb (by decide)) (LR.le ha (by decide))) rfl hb_collator_frac_Mul rfl rfl rfl rfl ⟨(ar_tmp (av_rs 12 rfl rfl)), (ar_tmp (av_rs 13 rfl rfl)), trivial⟩⟩,
    .inl ⟨wants_guard false rfl rfl rfl (av_rs 8 rfl rfl), does_call (w_same (a * b) (b * a) (LR.le (lrmul ha hb) (by decide)) (LR.le (lrmul hb ha) (by decide))) rfl hb_collator_collatorref02_Same rfl rfl rfl rfl ⟨(ar_tmp (av_rs 11 rfl rfl)), (ar_tmp (av_rs 14 rfl rfl)), trivial⟩⟩,
    .inl ⟨wants_guard false rfl rfl rfl (av_rs 8 rfl rfl), does_not true _ _ rfl rfl rfl rfl rfl (ar_tmp (av_bool (decide_eq_true (Rat.mul_comm a b)) (av_rs 15 rfl rfl)))⟩,
    .inl ⟨wants_plain rfl, does_pick false _ _ _ rfl rfl rfl rfl rfl (ar_tmp (av_rs 8 rfl rfl)) (ar_tmp (av_rs 16 rfl rfl))⟩,
    .inl ⟨wants_plain rfl, does_move _ (.inl rfl) rfl rfl rfl rfl (ar_tmp (av_rs 17 rfl rfl))⟩,
    .inl ⟨wants_guard false rfl rfl rfl (av_rs 18 rfl rfl), does_loadAgg _ ty_agg_api_Frac rfl rfl rfl rfl rfl rfl (pt_box (av_fs 0 rfl)) (av_fs 0 rfl)⟩,
    .inl ⟨wants_guard false rfl rfl rfl (av_rs 18 rfl rfl), does_loadAgg _ ty_agg_api_Frac rfl rfl rfl rfl rfl rfl (pt_box (av_fs 1 rfl)) (av_fs 1 rfl)⟩,
    .inl ⟨wants_guard false rfl rfl rfl (av_rs 18 rfl rfl), does_loadAgg _ ty_agg_api_Frac rfl rfl rfl rfl rfl rfl (pt_box (av_fs 2 rfl)) (av_fs 2 rfl)⟩,
    .inl ⟨wants_guard false rfl rfl rfl (av_rs 18 rfl rfl), does_call (q_add b c (LR.le hb (by decide)) (LR.le hc (by decide))) rfl hb_collator_frac_Add rfl rfl rfl rfl ⟨(ar_tmp (av_rs 20 rfl rfl)), (ar_tmp (av_rs 21 rfl rfl)), trivial⟩⟩,
    .inl ⟨wants_guard false rfl rfl rfl (av_rs 18 rfl rfl), does_call (q_mul a (b + c) (LR.le ha (by decide)) (LR.le (lradd hb hc) (by decide))) rfl hb_collator_frac_Mul rfl rfl rfl rfl ⟨(ar_tmp (av_rs 19 rfl rfl)), (ar_tmp (av_rs 22 rfl rfl)), trivial⟩⟩,
    .inl ⟨wants_guard false rfl rfl rfl (av_rs 18 rfl rfl), does_loadAgg _ ty_agg_api_Frac rfl rfl rfl rfl rfl rfl (pt_box (av_fs 0 rfl)) (av_fs 0 rfl)⟩,
    .inl ⟨wants_guard false rfl rfl rfl (av_rs 18 rfl rfl), does_loadAgg _ ty_agg_api_Frac rfl rfl rfl rfl rfl rfl (pt_box (av_fs 1 rfl)) (av_fs 1 rfl)⟩,
    .inl ⟨wants_guard false rfl rfl rfl (av_rs 18 rfl rfl), does_call (q_mul a b (LR.le ha (by decide)) (LR.le hb (by decide))) rfl hb_collator_frac_Mul rfl rfl rfl rfl ⟨(ar_tmp (av_rs 24 rfl rfl)), (ar_tmp (av_rs 25 rfl rfl)), trivial⟩⟩,
    .inl ⟨wants_guard false rfl rfl rfl (av_rs 18 rfl rfl), does_loadAgg _ ty_agg_api_Frac rfl rfl rfl rfl rfl rfl (pt_box (av_fs 0 rfl)) (av_fs 0 rfl)⟩,
    .inl ⟨wants_guard false rfl rfl rfl (av_rs 18 rfl rfl), does_loadAgg _ ty_agg_api_Frac rfl rfl rfl rfl rfl rfl (pt_box (av_fs 2 rfl)) (av_fs 2 rfl)⟩,
    .inl ⟨wants_guard false rfl rfl rfl (av_rs 18 rfl rfl), does_call (q_mul a c (LR.le ha (by decide)) (LR.le hc (by decide))) rfl hb_collator_frac_Mul rfl rfl rfl rfl ⟨(ar_tmp (av_rs 27 rfl rfl)), (ar_tmp (av_rs 28 rfl rfl)), trivial⟩⟩,
    .inl ⟨wants_guard false rfl rfl rfl (av_rs 18 rfl rfl), does_call (q_add (a * b) (a * c) (LR.le (lrmul ha hb) (by decide)) (LR.le (lrmul ha hc) (by decide))) rfl hb_collator_frac_Add rfl rfl rfl rfl ⟨(ar_tmp (av_rs 26 rfl rfl)), (ar_tmp (av_rs 29 rfl rfl)), trivial⟩⟩,
    .inl ⟨wants_guard false rfl rfl rfl (av_rs 18 rfl rfl), does_call (w_same (a * (b + c)) ((a * b) + (a * c)) (LR.le (lrmul ha (lradd hb hc)) (by decide)) (LR.le (lradd (lrmul ha hb) (lrmul ha hc)) (by decide))) rfl hb_collator_collatorref02_Same rfl rfl rfl rfl ⟨(ar_tmp (av_rs 23 rfl rfl)), (ar_tmp (av_rs 30 rfl rfl)), trivial⟩⟩,
    .inl ⟨wants_guard false rfl rfl rfl (av_rs 18 rfl rfl), does_not true _ _ rfl rfl rfl rfl rfl (ar_tmp (av_bool (decide_eq_true (Rat.mul_add a b c)) (av_rs 31 rfl rfl)))⟩,
    .inl ⟨wants_plain rfl, does_pick false _ _ _ rfl rfl rfl rfl rfl (ar_tmp (av_rs 18 rfl rfl)) (ar_tmp (av_rs 32 rfl rfl))⟩,
    .inl ⟨wants_plain rfl, does_move _ (.inl rfl) rfl rfl rfl rfl (ar_tmp (av_rs 33 rfl rfl))⟩,
    .inl ⟨wants_guard false rfl rfl rfl (av_rs 34 rfl rfl), does_loadAgg _ ty_agg_api_Frac rfl rfl rfl rfl rfl rfl (pt_box (av_fs 0 rfl)) (av_fs 0 rfl)⟩,
    .inl ⟨wants_guard false rfl rfl rfl (av_rs 34 rfl rfl), does_loadAgg _ ty_agg_api_Frac rfl rfl rfl rfl rfl rfl (pt_box (av_fs 1 rfl)) (av_fs 1 rfl)⟩,
    .inl ⟨wants_guard false rfl rfl rfl (av_rs 34 rfl rfl), does_call (q_add a b (LR.le ha (by decide)) (LR.le hb (by decide))) rfl hb_collator_frac_Add rfl rfl rfl rfl ⟨(ar_tmp (av_rs 35 rfl rfl)), (ar_tmp (av_rs 36 rfl rfl)), trivial⟩⟩,
    .inl ⟨wants_guard false rfl rfl rfl (av_rs 34 rfl rfl), does_loadAgg _ ty_agg_api_Frac rfl rfl rfl rfl rfl rfl (pt_box (av_fs 1 rfl)) (av_fs 1 rfl)⟩,
    .inl ⟨wants_guard false rfl rfl rfl (av_rs 34 rfl rfl), does_call (q_neg b (LR.le hb (by decide))) rfl hb_collator_frac_Neg rfl rfl rfl rfl ⟨(ar_tmp (av_rs 38 rfl rfl)), trivial⟩⟩,
    .inl ⟨wants_guard false rfl rfl rfl (av_rs 34 rfl rfl), does_call (q_add (a + b) (-b) (LR.le (lradd ha hb) (by decide)) (LR.le (lrneg hb) (by decide))) rfl hb_collator_frac_Add rfl rfl rfl rfl ⟨(ar_tmp (av_rs 37 rfl rfl)), (ar_tmp (av_rs 39 rfl rfl)), trivial⟩⟩,
    .inl ⟨wants_guard false rfl rfl rfl (av_rs 34 rfl rfl), does_loadAgg _ ty_agg_api_Frac rfl rfl rfl rfl rfl rfl (pt_box (av_fs 0 rfl)) (av_fs 0 rfl)⟩,
    .inl ⟨wants_guard false rfl rfl rfl (av_rs 34 rfl rfl), does_call (w_same ((a + b) + (-b)) a (LR.le (lradd (lradd ha hb) (lrneg hb)) (by decide)) (LR.le ha (by decide))) rfl hb_collator_collatorref02_Same rfl rfl rfl rfl ⟨(ar_tmp (av_rs 40 rfl rfl)), (ar_tmp (av_rs 41 rfl rfl)), trivial⟩⟩,
    .inl ⟨wants_guard false rfl rfl rfl (av_rs 34 rfl rfl), does_not true _ _ rfl rfl rfl rfl rfl (ar_tmp (av_bool (decide_eq_true (by grind)) (av_rs 42 rfl rfl)))⟩,
    .inl ⟨wants_plain rfl, does_pick false _ _ _ rfl rfl rfl rfl rfl (ar_tmp (av_rs 34 rfl rfl)) (ar_tmp (av_rs 43 rfl rfl))⟩,
    trivial⟩ ?_
  refine nx_sub (fs' := [.box 3 26 [Bz a.num, Dz a.num, Bz (fD a.den), Dz (fD a.den)], .box 4 26 [Bz b.num, Dz b.num, Bz (fD b.den), Dz (fD b.den)], .box 5 26 [Bz c.num, Dz c.num, Bz (fD c.den), Dz (fD c.den)], .slot 6 (VP.bool false), .slot 61 (VP.bool false)]) [0, 1, 2, 3, 49] rfl ?_
  refine nx_then ?_
  refine t_cond_f 4 rfl ?_
  refine t_skip ?_
  refine nx_then ?_
  refine t_seq ?_
  refine t_seq ?_
  refine t_region (F := ⟨_, _, _, _⟩) [.box 3 26 [Bz a.num, Dz a.num, Bz (fD a.den), Dz (fD a.den)], .box 4 26 [Bz b.num, Dz b.num, Bz (fD b.den), Dz (fD b.den)], .box 5 26 [Bz c.num, Dz c.num, Bz (fD c.den), Dz (fD c.den)], .slot 6 (VP.bool false), .slot 61 (VP.bool false)] [] [(0, .fp 62 4 0), (1, .fp 63 4 1), (2, .slot 64 (Dz b.num)), (3, .slot 65 (VP.int .i64 (((dg BB b.num.natAbs).length : Nat) : Int))), (4, .slot 66 (VP.bool (decide ((((dg BB b.num.natAbs).length : Nat) : Int) > 0)))), (5, .slot 67 (VP.bool (decide ((((dg BB b.num.natAbs).length : Nat) : Int) > 0)))), (6, .slot 68 (VP.undef)), (7, .slot 69 (VP.undef)), (8, .slot 70 (VP.undef)), (9, .slot 71 (VP.undef)), (10, .slot 72 (VP.undef)), (11, .slot 73 (VP.undef)), (12, .slot 74 (VP.undef)), (13, .slot 75 (VP.undef)), (14, .slot 76 (VP.bool false))] [] [0, 1, 2, 3, 4] [] rfl rfl follow rfl ⟨
    .inl ⟨wants_plain rfl, does_field _ _ _ 0 ty_f0_api_Frac rfl rfl rfl rfl rfl rfl rfl (pt_box (av_fs 1 rfl))⟩,
    .inl ⟨wants_plain rfl, does_field _ _ _ 1 ty_f1_api_Int rfl rfl rfl rfl rfl rfl rfl (pt_fp (av_rs 0 rfl rfl))⟩,
    .inl ⟨wants_plain rfl, does_loadOne _ ty_one___uint32 rfl rfl rfl rfl rfl rfl (pt_fp (av_rs 1 rfl rfl)) (av_fs 1 rfl)⟩,
    .inl ⟨wants_plain rfl, does_len _ _ (by kernel_rfl) rfl rfl rfl rfl rfl (ar_tmp (av_rs 2 rfl rfl))⟩,
    .inl ⟨wants_plain rfl, does_cmp (m := (((dg BB b.num.natAbs).length : Nat) : Int)) (n := 0) _ _ _ _ _ rfl rfl rfl rfl rfl rfl .i64 (ar_tmp (av_rs 3 rfl rfl)) (ar_const (fun _ => rfl))⟩,
    .inl ⟨wants_plain rfl, does_move _ (.inl rfl) rfl rfl rfl rfl (ar_tmp (av_rs 4 rfl rfl))⟩,
    .inr (skips_guardU false rfl rfl rfl (av_bool (decide_eq_false (by omega)) (av_rs 5 rfl rfl)) rfl rfl rfl rfl),
    .inr (skips_guardU false rfl rfl rfl (av_bool (decide_eq_false (by omega)) (av_rs 5 rfl rfl)) rfl rfl rfl rfl),
    .inr (skips_guardU false rfl rfl rfl (av_bool (decide_eq_false (by omega)) (av_rs 5 rfl rfl)) rfl rfl rfl rfl),
    .inr (skips_guardU false rfl rfl rfl (av_bool (decide_eq_false (by omega)) (av_rs 5 rfl rfl)) rfl rfl rfl rfl),
    .inr (skips_guardU false rfl rfl rfl (av_bool (decide_eq_false (by omega)) (av_rs 5 rfl rfl)) rfl rfl rfl rfl),
    .inr (skips_guardU false rfl rfl rfl (av_bool (decide_eq_false (by omega)) (av_rs 5 rfl rfl)) rfl rfl rfl rfl),
    .inr (skips_guardU false rfl rfl rfl (av_bool (decide_eq_false (by omega)) (av_rs 5 rfl rfl)) rfl rfl rfl rfl),
    .inr (skips_guardU false rfl rfl rfl (av_bool (decide_eq_false (by omega)) (av_rs 5 rfl rfl)) rfl rfl rfl rfl),
    .inl ⟨wants_plain rfl, does_pick false _ _ _ rfl rfl rfl rfl rfl (ar_tmp (av_bool (decide_eq_false (by omega)) (av_rs 5 rfl rfl))) (ar_const (fun _ => rfl))⟩,
    trivial⟩ ?_
  refine nx_sub (fs' := [.box 3 26 [Bz a.num, Dz a.num, Bz (fD a.den), Dz (fD a.den)], .box 4 26 [Bz b.num, Dz b.num, Bz (fD b.den), Dz (fD b.den)], .box 5 26 [Bz c.num, Dz c.num, Bz (fD c.den), Dz (fD c.den)], .slot 6 (VP.bool false), .slot 76 (VP.bool false)]) [0, 1, 2, 3, 19] rfl ?_
  refine nx_then ?_
  refine t_cond_f 4 rfl ?_
  refine t_skip ?_
  refine nx_then ?_
  refine t_seq ?_
  refine t_region (F := ⟨_, _, _, _⟩) [.box 3 26 [Bz a.num, Dz a.num, Bz (fD a.den), Dz (fD a.den)], .box 4 26 [Bz b.num, Dz b.num, Bz (fD b.den), Dz (fD b.den)], .box 5 26 [Bz c.num, Dz c.num, Bz (fD c.den), Dz (fD c.den)], .slot 6 (VP.bool false), .slot 76 (VP.bool false)] [] [(0, .slot 78 (RAT a)), (1, .slot 79 (VP.tup [INT (a.floor), VP.bool (decide ((a.floor : Rat) = a))])), (2, .slot 77 (VP.tup [INT (a.floor), VP.bool (decide ((a.floor : Rat) = a))])), (3, .slot 80 (INT (a.floor))), (4, .slot 81 (VP.bool (decide ((a.floor : Rat) = a)))), (5, .own 7 24 2), (6, .box 7 24 [Bz (a.floor), Dz (a.floor)]), (7, .slot 8 (VP.bool (decide ((a.floor : Rat) = a))))] [] [0, 1, 2, 3, 4] [] rfl rfl follow rfl ⟨
    .inl ⟨wants_plain rfl, does_loadAgg _ ty_agg_api_Frac rfl rfl rfl rfl rfl rfl (pt_box (av_fs 0 rfl)) (av_fs 0 rfl)⟩,
    .inl ⟨wants_plain rfl, does_call (q_floor a (LR.le ha (by decide))) rfl hb_collator_frac_Floor rfl rfl rfl rfl ⟨(ar_tmp (av_rs 0 rfl rfl)), trivial⟩⟩,
    .inl ⟨wants_plain rfl, does_move _ (.inl rfl) rfl rfl rfl rfl (ar_tmp (av_rs 1 rfl rfl))⟩,
    .inl ⟨wants_plain rfl, does_extract (ps := [INT (a.floor), VP.bool (decide ((a.floor : Rat) = a))]) _ _ rfl rfl rfl rfl rfl (ar_tmp (av_rs 2 rfl rfl)) rfl⟩,
    .inl ⟨wants_plain rfl, does_extract (ps := [INT (a.floor), VP.bool (decide ((a.floor : Rat) = a))]) _ _ rfl rfl rfl rfl rfl (ar_tmp (av_rs 2 rfl rfl)) rfl⟩,
    .inl ⟨wants_plain rfl, does_allocOwn [Bz 0, Dz 0] ty_zero_api_Int rfl rfl rfl rfl rfl z_int rfl⟩,
    .inl ⟨wants_plain rfl, does_storeNew 2 _ _ ty_agg_api_Int rfl rfl rfl rfl rfl (pt_own (av_rs 5 rfl rfl)) (av_rs 5 rfl rfl) (ar_tmp (av_rs 3 rfl rfl))⟩,
    .inl ⟨wants_plain rfl, does_move _ (.inr rfl) rfl rfl rfl rfl (ar_tmp (av_rs 4 rfl rfl))⟩,
    trivial⟩ ?_
  refine nx_sub (fs' := [.box 3 26 [Bz a.num, Dz a.num, Bz (fD a.den), Dz (fD a.den)], .box 4 26 [Bz b.num, Dz b.num, Bz (fD b.den), Dz (fD b.den)], .box 5 26 [Bz c.num, Dz c.num, Bz (fD c.den), Dz (fD c.den)], .slot 6 (VP.bool false), .box 7 24 [Bz (a.floor), Dz (a.floor)], .slot 8 (VP.bool (decide ((a.floor : Rat) = a)))]) [0, 1, 2, 3, 11, 12] rfl ?_
  refine nx_then ?_
  refine t_seq ?_
  refine t_region (F := ⟨_, _, _, _⟩) [.box 3 26 [Bz a.num, Dz a.num, Bz (fD a.den), Dz (fD a.den)], .box 4 26 [Bz b.num, Dz b.num, Bz (fD b.den), Dz (fD b.den)], .box 5 26 [Bz c.num, Dz c.num, Bz (fD c.den), Dz (fD c.den)], .slot 6 (VP.bool false), .box 7 24 [Bz (a.floor), Dz (a.floor)], .slot 8 (VP.bool (decide ((a.floor : Rat) = a)))] [] [(0, .slot 82 (INT (a.floor))), (1, .slot 83 (RAT (((a.floor) : Int) : Rat))), (2, .own 9 26 4), (3, .box 9 26 [Bz ((((a.floor) : Int) : Rat).num), Dz ((((a.floor) : Int) : Rat).num), Bz (fD (((a.floor) : Int) : Rat).den), Dz (fD (((a.floor) : Int) : Rat).den)])] [] [0, 1, 2, 3, 4, 5] [] rfl rfl follow rfl ⟨
    .inl ⟨wants_plain rfl, does_loadAgg _ ty_agg_api_Int rfl rfl rfl rfl rfl rfl (pt_box (av_fs 4 rfl)) (av_fs 4 rfl)⟩,
    .inl ⟨wants_plain rfl, does_call (q_of (a.floor) (lle (lrfloor ha) (by decide))) rfl hb_collator_frac_Of rfl rfl rfl rfl ⟨(ar_tmp (av_rs 0 rfl rfl)), trivial⟩⟩,
    .inl ⟨wants_plain rfl, does_allocOwn [Bz 0, Dz 0, Bz 0, Dz 0] ty_zero_api_Frac rfl rfl rfl rfl rfl z_frac rfl⟩,
    .inl ⟨wants_plain rfl, does_storeNew 4 _ _ ty_agg_api_Frac rfl rfl rfl rfl rfl (pt_own (av_rs 2 rfl rfl)) (av_rs 2 rfl rfl) (ar_tmp (av_rs 1 rfl rfl))⟩,
    trivial⟩ ?_
  refine nx_sub (fs' := [.box 3 26 [Bz a.num, Dz a.num, Bz (fD a.den), Dz (fD a.den)], .box 4 26 [Bz b.num, Dz b.num, Bz (fD b.den), Dz (fD b.den)], .box 5 26 [Bz c.num, Dz c.num, Bz (fD c.den), Dz (fD c.den)], .slot 6 (VP.bool false), .slot 8 (VP.bool (decide ((a.floor : Rat) = a))), .box 9 26 [Bz ((((a.floor) : Int) : Rat).num), Dz ((((a.floor) : Int) : Rat).num), Bz (fD (((a.floor) : Int) : Rat).den), Dz (fD (((a.floor) : Int) : Rat).den)]]) [0, 1, 2, 3, 5, 9] rfl ?_
  refine nx_then ?_
  refine t_seq ?_
  refine t_region (F := ⟨_, _, _, _⟩) [.box 3 26 [Bz a.num, Dz a.num, Bz (fD a.den), Dz (fD a.den)], .box 4 26 [Bz b.num, Dz b.num, Bz (fD b.den), Dz (fD b.den)], .box 5 26 [Bz c.num, Dz c.num, Bz (fD c.den), Dz (fD c.den)], .slot 8 (VP.bool (decide ((a.floor : Rat) = a))), .box 9 26 [Bz ((((a.floor) : Int) : Rat).num), Dz ((((a.floor) : Int) : Rat).num), Bz (fD (((a.floor) : Int) : Rat).den), Dz (fD (((a.floor) : Int) : Rat).den)]] [(34, .slot 6 (VP.bool false))] [(0, .slot 84 (RAT (((a.floor) : Int) : Rat))), (1, .slot 85 (RAT a)), (2, .slot 86 (VP.int .i64 (cmpR (((a.floor) : Int) : Rat) a))), (3, .slot 87 (VP.bool (decide ((cmpR (((a.floor) : Int) : Rat) a) ≤ 0)))), (4, .slot 88 (VP.bool (decide ((cmpR (((a.floor) : Int) : Rat) a) ≤ 0)))), (5, .slot 89 (RAT a)), (6, .slot 90 (RAT (((a.floor) : Int) : Rat))), (7, .slot 91 (INT 1)), (8, .slot 92 (RAT ((1 : Int) : Rat))), (9, .slot 93 (RAT ((((a.floor) : Int) : Rat) + ((1 : Int) : Rat)))), (10, .slot 94 (VP.int .i64 (cmpR a ((((a.floor) : Int) : Rat) + ((1 : Int) : Rat))))), (11, .slot 95 (VP.bool (decide ((cmpR a ((((a.floor) : Int) : Rat) + ((1 : Int) : Rat))) < 0)))), (12, .slot 96 (VP.bool (decide ((cmpR a ((((a.floor) : Int) : Rat) + ((1 : Int) : Rat))) < 0)))), (13, .slot 97 (VP.bool (decide ((cmpR a ((((a.floor) : Int) : Rat) + ((1 : Int) : Rat))) < 0)))), (14, .slot 98 (VP.bool (decide ((a.floor : Rat) = a)))), (15, .slot 99 (RAT (((a.floor) : Int) : Rat))), (16, .slot 100 (RAT a)), (17, .slot 101 (VP.int .i64 (cmpR (((a.floor) : Int) : Rat) a))), (18, .slot 102 (VP.bool ((cmpR (((a.floor) : Int) : Rat) a) == 0))), (19, .slot 103 (VP.bool ((decide ((a.floor : Rat) = a)) == ((cmpR (((a.floor) : Int) : Rat) a) == 0)))), (20, .slot 104 (VP.bool ((decide ((a.floor : Rat) = a)) == ((cmpR (((a.floor) : Int) : Rat) a) == 0)))), (21, .slot 105 (VP.bool ((decide ((a.floor : Rat) = a)) == ((cmpR (((a.floor) : Int) : Rat) a) == 0)))), (22, .slot 106 (RAT a)), (23, .slot 107 (RAT b)), (24, .slot 108 (VP.int .i64 (cmpR a b))), (25, .slot 109 (RAT a)), (26, .slot 110 (RAT c)), (27, .slot 111 (RAT (a + c))), (28, .slot 112 (RAT b)), (29, .slot 113 (RAT c)), (30, .slot 114 (RAT (b + c))), (31, .slot 115 (VP.int .i64 (cmpR (a + c) (b + c)))), (32, .slot 116 (VP.bool ((cmpR a b) == (cmpR (a + c) (b + c))))), (33, .slot 117 (VP.bool ((cmpR a b) == (cmpR (a + c) (b + c))))), (34, .slot 6 (VP.bool ((cmpR a b) == (cmpR (a + c) (b + c)))))] [] [0, 1, 2, 4, 5] [3] rfl rfl follow rfl ⟨
    .inl ⟨wants_plain rfl, does_loadAgg _ ty_agg_api_Frac rfl rfl rfl rfl rfl rfl (pt_box (av_fs 4 rfl)) (av_fs 4 rfl)⟩,
    .inl ⟨wants_plain rfl, does_loadAgg _ ty_agg_api_Frac rfl rfl rfl rfl rfl rfl (pt_box (av_fs 0 rfl)) (av_fs 0 rfl)⟩,
    .inl ⟨wants_plain rfl, does_call (q_cmp (((a.floor) : Int) : Rat) a (LR.le (lrint (lrfloor ha) (by decide)) (by decide)) (LR.le ha (by decide))) rfl hb_collator_frac_Cmp rfl rfl rfl rfl ⟨(ar_tmp (av_rs 0 rfl rfl)), (ar_tmp (av_rs 1 rfl rfl)), trivial⟩⟩,
    .inl ⟨wants_plain rfl, does_cmp (m := (cmpR (((a.floor) : Int) : Rat) a)) (n := 0) _ _ _ _ _ rfl rfl rfl rfl rfl rfl .i64 (ar_tmp (av_rs 2 rfl rfl)) (ar_const (fun _ => rfl))⟩,
    .inl ⟨wants_plain rfl, does_move _ (.inl rfl) rfl rfl rfl rfl (ar_tmp (av_rs 3 rfl rfl))⟩,
    .inl ⟨wants_guard true rfl rfl rfl (av_bool (decide_eq_true (floor_below a)) (av_rs 4 rfl rfl)), does_loadAgg _ ty_agg_api_Frac rfl rfl rfl rfl rfl rfl (pt_box (av_fs 0 rfl)) (av_fs 0 rfl)⟩,
    .inl ⟨wants_guard true rfl rfl rfl (av_bool (decide_eq_true (floor_below a)) (av_rs 4 rfl rfl)), does_loadAgg _ ty_agg_api_Frac rfl rfl rfl rfl rfl rfl (pt_box (av_fs 4 rfl)) (av_fs 4 rfl)⟩,
    .inl ⟨wants_guard true rfl rfl rfl (av_bool (decide_eq_true (floor_below a)) (av_rs 4 rfl rfl)), does_call (s_of 1 (by decide) (by decide)) rfl hb_collator_whole_Of rfl rfl rfl rfl ⟨(ar_const (fun _ => rfl)), trivial⟩⟩,
    .inl ⟨wants_guard true rfl rfl rfl (av_bool (decide_eq_true (floor_below a)) (av_rs 4 rfl rfl)), does_call (q_of 1 (lle lone (by decide))) rfl hb_collator_frac_Of rfl rfl rfl rfl ⟨(ar_tmp (av_rs 7 rfl rfl)), trivial⟩⟩,
    .inl ⟨wants_guard true rfl rfl rfl (av_bool (decide_eq_true (floor_below a)) (av_rs 4 rfl rfl)), does_call (q_add (((a.floor) : Int) : Rat) ((1 : Int) : Rat) (LR.le (lrint (lrfloor ha) (by decide)) (by decide)) (LR.le (lrint lone (by decide)) (by decide))) rfl hb_collator_frac_Add rfl rfl rfl rfl ⟨(ar_tmp (av_rs 6 rfl rfl)), (ar_tmp (av_rs 8 rfl rfl)), trivial⟩⟩,
    .inl ⟨wants_guard true rfl rfl rfl (av_bool (decide_eq_true (floor_below a)) (av_rs 4 rfl rfl)), does_call (q_cmp a ((((a.floor) : Int) : Rat) + ((1 : Int) : Rat)) (LR.le ha (by decide)) (LR.le (lradd (lrint (lrfloor ha) (by decide)) (lrint lone (by decide))) (by decide))) rfl hb_collator_frac_Cmp rfl rfl rfl rfl ⟨(ar_tmp (av_rs 5 rfl rfl)), (ar_tmp (av_rs 9 rfl rfl)), trivial⟩⟩,
    .inl ⟨wants_guard true rfl rfl rfl (av_bool (decide_eq_true (floor_below a)) (av_rs 4 rfl rfl)), does_cmp (m := (cmpR a ((((a.floor) : Int) : Rat) + ((1 : Int) : Rat)))) (n := 0) _ _ _ _ _ rfl rfl rfl rfl rfl rfl .i64 (ar_tmp (av_rs 10 rfl rfl)) (ar_const (fun _ => rfl))⟩,
    .inl ⟨wants_plain rfl, does_pick true _ _ _ rfl rfl rfl rfl rfl (ar_tmp (av_bool (decide_eq_true (floor_below a)) (av_rs 4 rfl rfl))) (ar_tmp (av_rs 11 rfl rfl))⟩,
    .inl ⟨wants_plain rfl, does_move _ (.inl rfl) rfl rfl rfl rfl (ar_tmp (av_rs 12 rfl rfl))⟩,
    .inl ⟨wants_guard true rfl rfl rfl (av_bool (decide_eq_true (floor_next a)) (av_rs 13 rfl rfl)), does_move _ (.inl rfl) rfl rfl rfl rfl (ar_tmp (av_fs 3 rfl))⟩,
    .inl ⟨wants_guard true rfl rfl rfl (av_bool (decide_eq_true (floor_next a)) (av_rs 13 rfl rfl)), does_loadAgg _ ty_agg_api_Frac rfl rfl rfl rfl rfl rfl (pt_box (av_fs 4 rfl)) (av_fs 4 rfl)⟩,
    .inl ⟨wants_guard true rfl rfl rfl (av_bool (decide_eq_true (floor_next a)) (av_rs 13 rfl rfl)), does_loadAgg _ ty_agg_api_Frac rfl rfl rfl rfl rfl rfl (pt_box (av_fs 0 rfl)) (av_fs 0 rfl)⟩,
    .inl ⟨wants_guard true rfl rfl rfl (av_bool (decide_eq_true (floor_next a)) (av_rs 13 rfl rfl)), does_call (q_cmp (((a.floor) : Int) : Rat) a (LR.le (lrint (lrfloor ha) (by decide)) (by decide)) (LR.le ha (by decide))) rfl hb_collator_frac_Cmp rfl rfl rfl rfl ⟨(ar_tmp (av_rs 15 rfl rfl)), (ar_tmp (av_rs 16 rfl rfl)), trivial⟩⟩,
    .inl ⟨wants_guard true rfl rfl rfl (av_bool (decide_eq_true (floor_next a)) (av_rs 13 rfl rfl)), does_cmp (m := (cmpR (((a.floor) : Int) : Rat) a)) (n := 0) _ _ _ _ _ rfl rfl rfl rfl rfl rfl .i64 (ar_tmp (av_rs 17 rfl rfl)) (ar_const (fun _ => rfl))⟩,
    .inl ⟨wants_guard true rfl rfl rfl (av_bool (decide_eq_true (floor_next a)) (av_rs 13 rfl rfl)), does_eqBool (u := (decide ((a.floor : Rat) = a))) (v := ((cmpR (((a.floor) : Int) : Rat) a) == 0)) _ _ _ _ _ (by kernel_rfl) rfl rfl rfl rfl rfl rfl (ar_tmp (av_rs 14 rfl rfl)) (ar_tmp (av_rs 18 rfl rfl))⟩,
    .inl ⟨wants_plain rfl, does_pick true _ _ _ rfl rfl rfl rfl rfl (ar_tmp (av_bool (decide_eq_true (floor_next a)) (av_rs 13 rfl rfl))) (ar_tmp (av_rs 19 rfl rfl))⟩,
    .inl ⟨wants_plain rfl, does_move _ (.inl rfl) rfl rfl rfl rfl (ar_tmp (av_rs 20 rfl rfl))⟩,
    .inl ⟨wants_guard true rfl rfl rfl (av_bool (floor_same a) (av_rs 21 rfl rfl)), does_loadAgg _ ty_agg_api_Frac rfl rfl rfl rfl rfl rfl (pt_box (av_fs 0 rfl)) (av_fs 0 rfl)⟩,
    .inl ⟨wants_guard true rfl rfl rfl (av_bool (floor_same a) (av_rs 21 rfl rfl)), does_loadAgg _ ty_agg_api_Frac rfl rfl rfl rfl rfl rfl (pt_box (av_fs 1 rfl)) (av_fs 1 rfl)⟩,
    .inl ⟨wants_guard true rfl rfl rfl (av_bool (floor_same a) (av_rs 21 rfl rfl)), does_call (q_cmp a b (LR.le ha (by decide)) (LR.le hb (by decide))) rfl hb_collator_frac_Cmp rfl rfl rfl rfl ⟨(ar_tmp (av_rs 22 rfl rfl)), (ar_tmp (av_rs 23 rfl rfl)), trivial⟩⟩,
    .inl ⟨wants_guard true rfl rfl rfl (av_bool (floor_same a) (av_rs 21 rfl rfl)), does_loadAgg _ ty_agg_api_Frac rfl rfl rfl rfl rfl rfl (pt_box (av_fs 0 rfl)) (av_fs 0 rfl)⟩,
    .inl ⟨wants_guard true rfl rfl rfl (av_bool (floor_same a) (av_rs 21 rfl rfl)), does_loadAgg _ ty_agg_api_Frac rfl rfl rfl rfl rfl rfl (pt_box (av_fs 2 rfl)) (av_fs 2 rfl)⟩,
    .inl ⟨wants_guard true rfl rfl rfl (av_bool (floor_same a) (av_rs 21 rfl rfl)), does_call (q_add a c (LR.le ha (by decide)) (LR.le hc (by decide))) rfl hb_collator_frac_Add rfl rfl rfl rfl ⟨(ar_tmp (av_rs 25 rfl rfl)), (ar_tmp (av_rs 26 rfl rfl)), trivial⟩⟩,
    .inl ⟨wants_guard true rfl rfl rfl (av_bool (floor_same a) (av_rs 21 rfl rfl)), does_loadAgg _ ty_agg_api_Frac rfl rfl rfl rfl rfl rfl (pt_box (av_fs 1 rfl)) (av_fs 1 rfl)⟩,
    .inl ⟨wants_guard true rfl rfl rfl (av_bool (floor_same a) (av_rs 21 rfl rfl)), does_loadAgg _ ty_agg_api_Frac rfl rfl rfl rfl rfl rfl (pt_box (av_fs 2 rfl)) (av_fs 2 rfl)⟩,
    .inl ⟨wants_guard true rfl rfl rfl (av_bool (floor_same a) (av_rs 21 rfl rfl)), does_call (q_add b c (LR.le hb (by decide)) (LR.le hc (by decide))) rfl hb_collator_frac_Add rfl rfl rfl rfl ⟨(ar_tmp (av_rs 28 rfl rfl)), (ar_tmp (av_rs 29 rfl rfl)), trivial⟩⟩,
    .inl ⟨wants_guard true rfl rfl rfl (av_bool (floor_same a) (av_rs 21 rfl rfl)), does_call (q_cmp (a + c) (b + c) (LR.le (lradd ha hc) (by decide)) (LR.le (lradd hb hc) (by decide))) rfl hb_collator_frac_Cmp rfl rfl rfl rfl ⟨(ar_tmp (av_rs 27 rfl rfl)), (ar_tmp (av_rs 30 rfl rfl)), trivial⟩⟩,
    .inl ⟨wants_guard true rfl rfl rfl (av_bool (floor_same a) (av_rs 21 rfl rfl)), does_cmp (m := (cmpR a b)) (n := (cmpR (a + c) (b + c))) _ _ _ _ _ rfl rfl rfl rfl rfl rfl .i64 (ar_tmp (av_rs 24 rfl rfl)) (ar_tmp (av_rs 31 rfl rfl))⟩,
    .inl ⟨wants_plain rfl, does_pick true _ _ _ rfl rfl rfl rfl rfl (ar_tmp (av_bool (floor_same a) (av_rs 21 rfl rfl))) (ar_tmp (av_rs 32 rfl rfl))⟩,
    .inl ⟨wants_plain rfl, does_move _ (.inr rfl) rfl rfl rfl rfl (ar_tmp (av_rs 33 rfl rfl))⟩,
    trivial⟩ ?_
  refine nx_sub (fs' := [.slot 6 (VP.bool ((cmpR a b) == (cmpR (a + c) (b + c))))]) [39] rfl ?_
  refine nx_then ?_
  refine t_ret ?_
  exact rt_one rfl (res_tmpb 0 rfl (beq_iff_eq.2 (cmpR_shift a b c)))
set_option maxRecDepth 100000 in
set_option maxHeartbeats 4000000 in
theorem frules_odd (x y z : Raw × Raw) (HO : Spec Try.prog 16 [isRows 3 (fcells [x, y, z])] (VP.bool true)) : Spec Try.prog 3 [(VP.agg [VP.bool x.1.1, VP.nums .u32 x.1.2, VP.bool x.2.1, VP.nums .u32 x.2.2]).p, (VP.agg [VP.bool y.1.1, VP.nums .u32 y.1.2, VP.bool y.2.1, VP.nums .u32 y.2.2]).p, (VP.agg [VP.bool z.1.1, VP.nums .u32 z.1.2, VP.bool z.2.1, VP.nums .u32 z.2.2]).p] (VP.bool true) := by
  refine spec_of (xs := [VP.agg [VP.bool x.1.1, VP.nums .u32 x.1.2, VP.bool x.2.1, VP.nums .u32 x.2.2], VP.agg [VP.bool y.1.1, VP.nums .u32 y.1.2, VP.bool y.2.1, VP.nums .u32 y.2.2], VP.agg [VP.bool z.1.1, VP.nums .u32 z.1.2, VP.bool z.2.1, VP.nums .u32 z.2.2]]) 118 [3, 4, 5, 7, 9] Try.func3 rfl Try.ntmps3 rfl fun w0 => ?_
  refine t_seq ?_
  refine t_region (F := ⟨_, _, _, _⟩) [.slot 0 (VP.agg [VP.bool x.1.1, VP.nums .u32 x.1.2, VP.bool x.2.1, VP.nums .u32 x.2.2]), .slot 1 (VP.agg [VP.bool y.1.1, VP.nums .u32 y.1.2, VP.bool y.2.1, VP.nums .u32 y.2.2]), .slot 2 (VP.agg [VP.bool z.1.1, VP.nums .u32 z.1.2, VP.bool z.2.1, VP.nums .u32 z.2.2])] [] [(0, .box 3 26 [VP.bool x.1.1, VP.nums .u32 x.1.2, VP.bool x.2.1, VP.nums .u32 x.2.2]), (1, .box 4 26 [VP.bool y.1.1, VP.nums .u32 y.1.2, VP.bool y.2.1, VP.nums .u32 y.2.2]), (2, .box 5 26 [VP.bool z.1.1, VP.nums .u32 z.1.2, VP.bool z.2.1, VP.nums .u32 z.2.2]), (3, .slot 6 (VP.bool false))] [] [0, 1, 2] [] rfl rfl follow rfl ⟨
    .inl ⟨wants_plain rfl, does_box _ rfl rfl rfl rfl rfl (ar_tmp (av_fs 0 rfl))⟩,
    .inl ⟨wants_plain rfl, does_box _ rfl rfl rfl rfl rfl (ar_tmp (av_fs 1 rfl))⟩,
    .inl ⟨wants_plain rfl, does_box _ rfl rfl rfl rfl rfl (ar_tmp (av_fs 2 rfl))⟩,
    .inl ⟨wants_plain rfl, does_move _ (.inr rfl) rfl rfl rfl rfl (ar_const (fun _ => rfl))⟩,
    trivial⟩ ?_
  refine nx_sub (fs' := [.box 3 26 [VP.bool x.1.1, VP.nums .u32 x.1.2, VP.bool x.2.1, VP.nums .u32 x.2.2], .box 4 26 [VP.bool y.1.1, VP.nums .u32 y.1.2, VP.bool y.2.1, VP.nums .u32 y.2.2], .box 5 26 [VP.bool z.1.1, VP.nums .u32 z.1.2, VP.bool z.2.1, VP.nums .u32 z.2.2], .slot 6 (VP.bool false)]) [3, 4, 5, 6] rfl ?_
  refine nx_then ?_
  refine t_seq ?_
  refine t_seq ?_
  refine t_region (F := ⟨_, _, _, _⟩) [.box 3 26 [VP.bool x.1.1, VP.nums .u32 x.1.2, VP.bool x.2.1, VP.nums .u32 x.2.2], .box 4 26 [VP.bool y.1.1, VP.nums .u32 y.1.2, VP.bool y.2.1, VP.nums .u32 y.2.2], .box 5 26 [VP.bool z.1.1, VP.nums .u32 z.1.2, VP.bool z.2.1, VP.nums .u32 z.2.2], .slot 6 (VP.bool false)] [] [(0, .slot 10 (VP.bool true)), (1, .slot 11 (VP.bool false))] [] [0, 1, 2, 3] [] rfl rfl follow rfl ⟨
    .inl ⟨wants_plain rfl, does_call sp2_spec rfl hb_collator_collatorlaw02_speaks rfl rfl rfl rfl trivial⟩,
    .inl ⟨wants_plain rfl, does_not true _ _ rfl rfl rfl rfl rfl (ar_tmp (av_rs 0 rfl rfl))⟩,
    trivial⟩ ?_
  refine nx_sub (fs' := [.box 3 26 [VP.bool x.1.1, VP.nums .u32 x.1.2, VP.bool x.2.1, VP.nums .u32 x.2.2], .box 4 26 [VP.bool y.1.1, VP.nums .u32 y.1.2, VP.bool y.2.1, VP.nums .u32 y.2.2], .box 5 26 [VP.bool z.1.1, VP.nums .u32 z.1.2, VP.bool z.2.1, VP.nums .u32 z.2.2], .slot 6 (VP.bool false), .slot 11 (VP.bool false)]) [0, 1, 2, 3, 5] rfl ?_
  refine nx_then ?_
  refine t_cond_f 4 rfl ?_
  refine t_skip ?_
  refine nx_then ?_
  refine t_seq ?_
  refine t_seq ?_
  refine t_region (F := ⟨_, _, _, _⟩) [.box 3 26 [VP.bool x.1.1, VP.nums .u32 x.1.2, VP.bool x.2.1, VP.nums .u32 x.2.2], .box 4 26 [VP.bool y.1.1, VP.nums .u32 y.1.2, VP.bool y.2.1, VP.nums .u32 y.2.2], .box 5 26 [VP.bool z.1.1, VP.nums .u32 z.1.2, VP.bool z.2.1, VP.nums .u32 z.2.2], .slot 6 (VP.bool false), .slot 11 (VP.bool false)] [] [(0, .slot 12 (VP.agg [VP.bool x.1.1, VP.nums .u32 x.1.2, VP.bool x.2.1, VP.nums .u32 x.2.2])), (1, .slot 13 (VP.agg [VP.bool y.1.1, VP.nums .u32 y.1.2, VP.bool y.2.1, VP.nums .u32 y.2.2])), (2, .slot 14 (VP.agg [VP.bool z.1.1, VP.nums .u32 z.1.2, VP.bool z.2.1, VP.nums .u32 z.2.2])), (3, .arr 15 26 3 [VP.bool x.1.1, VP.nums .u32 x.1.2, VP.bool x.2.1, VP.nums .u32 x.2.2, VP.bool y.1.1, VP.nums .u32 y.1.2, VP.bool y.2.1, VP.nums .u32 y.2.2, VP.bool z.1.1, VP.nums .u32 z.1.2, VP.bool z.2.1, VP.nums .u32 z.2.2]), (4, .slot 16 (VP.bool true))] [] [0, 1, 2, 3, 4] [] rfl rfl follow rfl ⟨
    .inl ⟨wants_plain rfl, does_loadAgg _ ty_agg_api_Frac rfl rfl rfl rfl rfl rfl (pt_box (av_fs 0 rfl)) (av_fs 0 rfl)⟩,
    .inl ⟨wants_plain rfl, does_loadAgg _ ty_agg_api_Frac rfl rfl rfl rfl rfl rfl (pt_box (av_fs 1 rfl)) (av_fs 1 rfl)⟩,
    .inl ⟨wants_plain rfl, does_loadAgg _ ty_agg_api_Frac rfl rfl rfl rfl rfl rfl (pt_box (av_fs 2 rfl)) (av_fs 2 rfl)⟩,
    .inl ⟨wants_plain rfl, does_buildSlice (sz := 4) [Bz 0, Dz 0, Bz 0, Dz 0, Bz 0, Dz 0, Bz 0, Dz 0, Bz 0, Dz 0, Bz 0, Dz 0] ty_zero_api_Frac (by kernel_rfl) (fun w => run_sizeAgg ty_agg_api_Frac w) rfl rfl rfl rfl rfl rfl (by kernel_rfl) (fun w => by exact z_frac_3 w) (.cons 0 [VP.bool x.1.1, VP.nums .u32 x.1.2, VP.bool x.2.1, VP.nums .u32 x.2.2] rfl rfl (ar_cells_agg (ar_tmp (av_rs 0 rfl rfl))) (.cons 4 [VP.bool y.1.1, VP.nums .u32 y.1.2, VP.bool y.2.1, VP.nums .u32 y.2.2] rfl rfl (ar_cells_agg (ar_tmp (av_rs 1 rfl rfl))) (.cons 8 [VP.bool z.1.1, VP.nums .u32 z.1.2, VP.bool z.2.1, VP.nums .u32 z.2.2] rfl rfl (ar_cells_agg (ar_tmp (av_rs 2 rfl rfl))) (.nil _))))⟩,
    .inl ⟨wants_plain rfl, does_call HO rfl hb_collator_collatorlaw02_Odd rfl rfl rfl rfl ⟨(ar_arr_rows (by simp [maxLen]) (av_rs 3 rfl rfl)), trivial⟩⟩,
    trivial⟩ ?_
  refine nx_sub (fs' := [.box 3 26 [VP.bool x.1.1, VP.nums .u32 x.1.2, VP.bool x.2.1, VP.nums .u32 x.2.2], .box 4 26 [VP.bool y.1.1, VP.nums .u32 y.1.2, VP.bool y.2.1, VP.nums .u32 y.2.2], .box 5 26 [VP.bool z.1.1, VP.nums .u32 z.1.2, VP.bool z.2.1, VP.nums .u32 z.2.2], .slot 6 (VP.bool false), .slot 16 (VP.bool true)]) [0, 1, 2, 3, 9] rfl ?_
  refine nx_then ?_
  refine t_cond_t 4 rfl ?_
  refine t_seq ?_
  refine t_region (F := ⟨_, _, _, _⟩) [.box 3 26 [VP.bool x.1.1, VP.nums .u32 x.1.2, VP.bool x.2.1, VP.nums .u32 x.2.2], .box 4 26 [VP.bool y.1.1, VP.nums .u32 y.1.2, VP.bool y.2.1, VP.nums .u32 y.2.2], .box 5 26 [VP.bool z.1.1, VP.nums .u32 z.1.2, VP.bool z.2.1, VP.nums .u32 z.2.2], .slot 16 (VP.bool true)] [(0, .slot 6 (VP.bool false))] [(0, .slot 6 (VP.bool true))] [] [0, 1, 2, 4] [3] rfl rfl follow rfl ⟨
    .inl ⟨wants_plain rfl, does_move _ (.inr rfl) rfl rfl rfl rfl (ar_const (fun _ => rfl))⟩,
    trivial⟩ ?_
  refine nx_sub (fs' := [.box 3 26 [VP.bool x.1.1, VP.nums .u32 x.1.2, VP.bool x.2.1, VP.nums .u32 x.2.2], .box 4 26 [VP.bool y.1.1, VP.nums .u32 y.1.2, VP.bool y.2.1, VP.nums .u32 y.2.2], .box 5 26 [VP.bool z.1.1, VP.nums .u32 z.1.2, VP.bool z.2.1, VP.nums .u32 z.2.2], .slot 6 (VP.bool true)]) [0, 1, 2, 4] rfl ?_
  refine nx_then ?_
  refine t_ret ?_
  refine rt_then ?_
  exact rt_one rfl (res_tmp 3 rfl)
theorem frules_even (a b c : Rat) (ha : LR a 5) (hb : LR b 5) (hc : LR c 5) (HO : Spec Try.prog 16 [isRows 3 [Bz a.num, Dz a.num, Bz (fD a.den), Dz (fD a.den), Bz b.num, Dz b.num, Bz (fD b.den), Dz (fD b.den), Bz c.num, Dz c.num, Bz (fD c.den), Dz (fD c.den)]] (VP.bool false)) : Spec Try.prog 3 [(RAT a).p, (RAT b).p, (RAT c).p] (VP.bool true) := by
  by_cases h : 0 < (dg BB b.num.natAbs).length
  · exact frules1 a b c ha hb hc HO h
  · exact frules2 a b c ha hb hc HO h
end Go.Proofs.Ytmlnpagkabmmpaa

/- Fractions: which are looked at. -/
namespace Go.Proofs.Ytmlnpagkabmmpaa
open Go.RowKit
abbrev fodd3_A_c (x0 y0 : Raw) (x1 y1 : Raw) (x2 y2 : Raw) : List VP := [VP.bool x0.1, VP.nums .u32 x0.2, VP.bool y0.1, VP.nums .u32 y0.2, VP.bool x1.1, VP.nums .u32 x1.2, VP.bool y1.1, VP.nums .u32 y1.2, VP.bool x2.1, VP.nums .u32 x2.2, VP.bool y2.1, VP.nums .u32 y2.2]
set_option maxRecDepth 100000 in
set_option maxHeartbeats 4000000 in
theorem fodd3_A (x0 y0 : Raw) (hx0 : x0.ok) (hy0 : y0.ok) (ho : [x0, y0].any oddP = true) (x1 y1 : Raw) (x2 y2 : Raw) : Spec Try.prog 16 [isRows 3 (fodd3_A_c x0 y0 x1 y1 x2 y2)] (VP.bool true) := by
  refine spec_ofP (xs := [.rows 3 (fodd3_A_c x0 y0 x1 y1 x2 y2)]) 37 [4] Try.func16 rfl Try.ntmps16 rfl fun w0 => ?_
  refine t_seq ?_
  refine t_region (F := ⟨_, _, _, _⟩) [.rows 0 3 (fodd3_A_c x0 y0 x1 y1 x2 y2)] [] [(0, .slot 2 (VP.bool false))] [] [0] [] rfl rfl follow rfl ⟨
    .inl ⟨wants_plain rfl, does_move _ (.inr rfl) rfl rfl rfl rfl (ar_const (fun _ => rfl))⟩,
    trivial⟩ ?_
  refine nx_sub (fs' := [.rows 0 3 (fodd3_A_c x0 y0 x1 y1 x2 y2), .slot 2 (VP.bool false)]) [0, 1] rfl ?_
  refine nx_then ?_
  refine t_seq ?_
  refine t_seq ?_
  refine t_region (F := ⟨_, _, _, _⟩) [.rows 0 3 (fodd3_A_c x0 y0 x1 y1 x2 y2), .slot 2 (VP.bool false)] [] [(0, .rows 5 3 (fodd3_A_c x0 y0 x1 y1 x2 y2)), (1, .slot 6 (VP.int .i64 ((3 : Nat) : Int))), (2, .slot 7 (VP.int .i64 0))] [] [0, 1] [] rfl rfl follow rfl ⟨
    .inl ⟨wants_plain rfl, does_moveRows _ (.inl rfl) rfl rfl rfl rfl rfl (av_fs 0 rfl)⟩,
    .inl ⟨wants_plain rfl, does_lenRows _ _ rfl (by kernel_rfl) rfl rfl rfl rfl rfl (av_rs 0 rfl rfl)⟩,
    .inl ⟨wants_plain rfl, does_move _ (.inl rfl) rfl rfl rfl rfl (ar_const (fun _ => rfl))⟩,
    trivial⟩ ?_
  refine nx_sub (fs' := [.slot 2 (VP.bool false), .rows 5 3 (fodd3_A_c x0 y0 x1 y1 x2 y2), .slot 6 (VP.int .i64 ((3 : Nat) : Int)), .slot 7 (VP.int .i64 0)]) [1, 2, 3, 4] rfl ?_
  refine nx_then ?_
  refine t_block ?_
  refine t_loop (σ := {k : Nat // k ≤ 0}) (fun s => [.rows 5 3 (fodd3_A_c x0 y0 x1 y1 x2 y2), .slot 6 (VP.int .i64 ((3 : Nat) : Int)), .slot 7 (VP.int .i64 ((s.1 : Nat) : Int))]) (fun s => 3 - s.1) (⟨0, by decide⟩) [1, 2, 3] rfl ?_
  intro s
  obtain ⟨k, hk⟩ := s
  rcases (show k = 0 ∨ False by omega) with rfl | hF
  case inr => exact hF.elim
  case inl =>
    refine t_seq ?_
    refine t_region (F := ⟨_, _, _, _⟩) [.rows 5 3 (fodd3_A_c x0 y0 x1 y1 x2 y2), .slot 6 (VP.int .i64 ((3 : Nat) : Int)), .slot 7 (VP.int .i64 ((0 : Nat) : Int))] [] [(0, .slot 8 (VP.bool (decide (((0 : Nat) : Int) < ((3 : Nat) : Int)))))] [] [0, 1, 2] [] rfl rfl follow rfl ⟨
      .inl ⟨wants_plain rfl, does_cmp (m := ((0 : Nat) : Int)) (n := ((3 : Nat) : Int)) _ _ _ _ _ rfl rfl rfl rfl rfl rfl .i64 (ar_tmp (av_fs 2 rfl)) (ar_tmp (av_fs 1 rfl))⟩,
      trivial⟩ ?_
    refine nx_sub (fs' := [.rows 5 3 (fodd3_A_c x0 y0 x1 y1 x2 y2), .slot 6 (VP.int .i64 ((3 : Nat) : Int)), .slot 7 (VP.int .i64 ((0 : Nat) : Int)), .slot 8 (VP.bool (decide (((0 : Nat) : Int) < ((3 : Nat) : Int))))]) [0, 1, 2, 3] rfl ?_
    refine nx_then ?_
    refine t_seq ?_
    refine t_cond_te 3 rfl rfl ?_
    refine t_skip ?_
    refine nx_then ?_
    refine t_seq ?_
    refine t_block ?_
    refine t_seq ?_
    refine t_region (F := ⟨_, _, _, _⟩) [.rows 5 3 (fodd3_A_c x0 y0 x1 y1 x2 y2), .slot 6 (VP.int .i64 ((3 : Nat) : Int)), .slot 7 (VP.int .i64 ((0 : Nat) : Int)), .slot 8 (VP.bool (decide (((0 : Nat) : Int) < ((3 : Nat) : Int))))] [] [(0, .rp 9 5 0), (1, .slot 10 (VP.agg [VP.bool x0.1, VP.nums .u32 x0.2, VP.bool y0.1, VP.nums .u32 y0.2])), (2, .own 4 26 4), (3, .box 4 26 [VP.bool x0.1, VP.nums .u32 x0.2, VP.bool y0.1, VP.nums .u32 y0.2])] [] [0, 1, 2, 3] [] rfl rfl follow rfl ⟨
      .inl ⟨wants_plain rfl, does_indexRows (m := 0) (sz := 4) _ _ rfl Try.underlying122 (fun w => run_sizeAgg ty_agg_api_Frac w) rfl rfl rfl rfl rfl rfl (by decide) rfl (av_fs 0 rfl) (ar_tmp (av_fs 2 rfl))⟩,
      .inl ⟨wants_plain rfl, does_loadRows _ rfl ty_agg_api_Frac rfl rfl rfl rfl rfl rfl rfl (av_rs 0 rfl rfl) (av_fs 0 rfl)⟩,
      .inl ⟨wants_plain rfl, does_allocOwn [Bz 0, Dz 0, Bz 0, Dz 0] ty_zero_api_Frac rfl rfl rfl rfl rfl z_frac rfl⟩,
      .inl ⟨wants_plain rfl, does_storeNew 4 _ _ ty_agg_api_Frac rfl rfl rfl rfl rfl (pt_own (av_rs 2 rfl rfl)) (av_rs 2 rfl rfl) (ar_tmp (av_rs 1 rfl rfl))⟩,
      trivial⟩ ?_
    refine nx_sub (fs' := [.rows 5 3 (fodd3_A_c x0 y0 x1 y1 x2 y2), .slot 6 (VP.int .i64 ((3 : Nat) : Int)), .slot 7 (VP.int .i64 ((0 : Nat) : Int)), .slot 8 (VP.bool (decide (((0 : Nat) : Int) < ((3 : Nat) : Int)))), .rp 9 5 0, .slot 10 (VP.agg [VP.bool x0.1, VP.nums .u32 x0.2, VP.bool y0.1, VP.nums .u32 y0.2]), .box 4 26 [VP.bool x0.1, VP.nums .u32 x0.2, VP.bool y0.1, VP.nums .u32 y0.2]]) [0, 1, 2, 3, 4, 5, 7] rfl ?_
    refine nx_then ?_
    refine t_seq ?_
    refine t_region (F := ⟨_, _, _, _⟩) [.rows 5 3 (fodd3_A_c x0 y0 x1 y1 x2 y2), .slot 6 (VP.int .i64 ((3 : Nat) : Int)), .slot 7 (VP.int .i64 ((0 : Nat) : Int)), .slot 8 (VP.bool (decide (((0 : Nat) : Int) < ((3 : Nat) : Int)))), .rp 9 5 0, .slot 10 (VP.agg [VP.bool x0.1, VP.nums .u32 x0.2, VP.bool y0.1, VP.nums .u32 y0.2]), .box 4 26 [VP.bool x0.1, VP.nums .u32 x0.2, VP.bool y0.1, VP.nums .u32 y0.2]] [] [(0, .fp 11 4 0), (1, .slot 12 (VP.agg [VP.bool x0.1, VP.nums .u32 x0.2])), (2, .fp 13 4 2), (3, .slot 14 (VP.agg [VP.bool y0.1, VP.nums .u32 y0.2])), (4, .arr 15 24 2 [VP.bool x0.1, VP.nums .u32 x0.2, VP.bool y0.1, VP.nums .u32 y0.2]), (5, .slot 16 (VP.bool true)), (6, .slot 17 (VP.bool true)), (7, .slot 18 (VP.undef)), (8, .slot 19 (VP.undef)), (9, .slot 20 (VP.undef)), (10, .slot 21 (VP.undef)), (11, .slot 22 (VP.undef)), (12, .slot 23 (VP.bool true)), (13, .slot 24 (VP.bool true)), (14, .slot 25 (VP.undef)), (15, .slot 26 (VP.undef)), (16, .slot 27 (VP.undef)), (17, .slot 28 (VP.undef)), (18, .slot 29 (VP.undef)), (19, .slot 30 (VP.bool true)), (20, .slot 31 (VP.bool true)), (21, .slot 32 (VP.undef)), (22, .slot 33 (VP.undef)), (23, .slot 34 (VP.undef)), (24, .slot 35 (VP.bool true))] [] [0, 1, 2, 3, 4, 5, 6] [] rfl rfl follow rfl ⟨
      .inl ⟨wants_plain rfl, does_field _ _ _ 0 ty_f0_api_Frac rfl rfl rfl rfl rfl rfl rfl (pt_box (av_fs 6 rfl))⟩,
      .inl ⟨wants_plain rfl, does_loadAgg _ ty_agg_api_Int rfl rfl rfl rfl rfl rfl (pt_fp (av_rs 0 rfl rfl)) (av_fs 6 rfl)⟩,
      .inl ⟨wants_plain rfl, does_field _ _ _ 2 ty_f1_api_Frac rfl rfl rfl rfl rfl rfl rfl (pt_box (av_fs 6 rfl))⟩,
      .inl ⟨wants_plain rfl, does_loadAgg _ ty_agg_api_Int rfl rfl rfl rfl rfl rfl (pt_fp (av_rs 2 rfl rfl)) (av_fs 6 rfl)⟩,
      .inl ⟨wants_plain rfl, does_buildSlice (sz := 2) [Bz 0, Dz 0, Bz 0, Dz 0] ty_zero_api_Int (by kernel_rfl) (fun w => run_sizeAgg ty_agg_api_Int w) rfl rfl rfl rfl rfl rfl (by kernel_rfl) (fun w => by exact z_int_2 w) (.cons 0 [VP.bool x0.1, VP.nums .u32 x0.2] rfl rfl (ar_cells_agg (ar_tmp (av_rs 1 rfl rfl))) (.cons 2 [VP.bool y0.1, VP.nums .u32 y0.2] rfl rfl (ar_cells_agg (ar_tmp (av_rs 3 rfl rfl))) (.nil _)))⟩,
      .inl ⟨wants_plain rfl, does_call (s_odd2 x0 y0 hx0 hy0 ho) rfl hb_collator_collatorlaw01_Odd rfl rfl rfl rfl ⟨(ar_arr (av_rs 4 rfl rfl)), trivial⟩⟩,
      .inl ⟨wants_plain rfl, does_move _ (.inl rfl) rfl rfl rfl rfl (ar_tmp (av_rs 5 rfl rfl))⟩,
      .inr (skips_guardU true rfl rfl rfl (av_rs 6 rfl rfl) rfl rfl rfl rfl),
      .inr (skips_guardU true rfl rfl rfl (av_rs 6 rfl rfl) rfl rfl rfl rfl),
      .inr (skips_guardU true rfl rfl rfl (av_rs 6 rfl rfl) rfl rfl rfl rfl),
      .inr (skips_guardU true rfl rfl rfl (av_rs 6 rfl rfl) rfl rfl rfl rfl),
      .inr (skips_guardU true rfl rfl rfl (av_rs 6 rfl rfl) rfl rfl rfl rfl),
      .inl ⟨wants_plain rfl, does_pick true _ _ _ rfl rfl rfl rfl rfl (ar_tmp (av_rs 6 rfl rfl)) (ar_const (fun _ => rfl))⟩,
      .inl ⟨wants_plain rfl, does_move _ (.inl rfl) rfl rfl rfl rfl (ar_tmp (av_rs 12 rfl rfl))⟩,
      .inr (skips_guardU true rfl rfl rfl (av_rs 13 rfl rfl) rfl rfl rfl rfl),
      .inr (skips_guardU true rfl rfl rfl (av_rs 13 rfl rfl) rfl rfl rfl rfl),
      .inr (skips_guardU true rfl rfl rfl (av_rs 13 rfl rfl) rfl rfl rfl rfl),
      .inr (skips_guardU true rfl rfl rfl (av_rs 13 rfl rfl) rfl rfl rfl rfl),
      .inr (skips_guardU true rfl rfl rfl (av_rs 13 rfl rfl) rfl rfl rfl rfl),
      .inl ⟨wants_plain rfl, does_pick true _ _ _ rfl rfl rfl rfl rfl (ar_tmp (av_rs 13 rfl rfl)) (ar_const (fun _ => rfl))⟩,
      .inl ⟨wants_plain rfl, does_move _ (.inl rfl) rfl rfl rfl rfl (ar_tmp (av_rs 19 rfl rfl))⟩,
      .inr (skips_guardU true rfl rfl rfl (av_rs 20 rfl rfl) rfl rfl rfl rfl),
      .inr (skips_guardU true rfl rfl rfl (av_rs 20 rfl rfl) rfl rfl rfl rfl),
      .inr (skips_guardU true rfl rfl rfl (av_rs 20 rfl rfl) rfl rfl rfl rfl),
      .inl ⟨wants_plain rfl, does_pick true _ _ _ rfl rfl rfl rfl rfl (ar_tmp (av_rs 20 rfl rfl)) (ar_const (fun _ => rfl))⟩,
      trivial⟩ ?_
    refine nx_sub (fs' := [.rows 5 3 (fodd3_A_c x0 y0 x1 y1 x2 y2), .slot 6 (VP.int .i64 ((3 : Nat) : Int)), .slot 7 (VP.int .i64 ((0 : Nat) : Int)), .slot 8 (VP.bool (decide (((0 : Nat) : Int) < ((3 : Nat) : Int)))), .rp 9 5 0, .slot 10 (VP.agg [VP.bool x0.1, VP.nums .u32 x0.2, VP.bool y0.1, VP.nums .u32 y0.2]), .box 4 26 [VP.bool x0.1, VP.nums .u32 x0.2, VP.bool y0.1, VP.nums .u32 y0.2], .fp 11 4 0, .slot 12 (VP.agg [VP.bool x0.1, VP.nums .u32 x0.2]), .fp 13 4 2, .slot 14 (VP.agg [VP.bool y0.1, VP.nums .u32 y0.2]), .arr 15 24 2 [VP.bool x0.1, VP.nums .u32 x0.2, VP.bool y0.1, VP.nums .u32 y0.2], .slot 16 (VP.bool true), .slot 17 (VP.bool true), .slot 18 (VP.undef), .slot 19 (VP.undef), .slot 20 (VP.undef), .slot 21 (VP.undef), .slot 22 (VP.undef), .slot 23 (VP.bool true), .slot 24 (VP.bool true), .slot 25 (VP.undef), .slot 26 (VP.undef), .slot 27 (VP.undef), .slot 28 (VP.undef), .slot 29 (VP.undef), .slot 30 (VP.bool true), .slot 31 (VP.bool true), .slot 32 (VP.undef), .slot 33 (VP.undef), .slot 34 (VP.undef), .slot 35 (VP.bool true)]) [0, 1, 2, 3, 4, 5, 6, 7, 8, 9, 10, 11, 12, 13, 14, 15, 16, 17, 18, 19, 20, 21, 22, 23, 24, 25, 26, 27, 28, 29, 30, 31] rfl ?_
    refine nx_then ?_
    refine t_cond_t 31 rfl ?_
    refine t_seq ?_
    refine t_region (F := ⟨_, _, _, _⟩) [.rows 5 3 (fodd3_A_c x0 y0 x1 y1 x2 y2), .slot 6 (VP.int .i64 ((3 : Nat) : Int)), .slot 7 (VP.int .i64 ((0 : Nat) : Int)), .slot 8 (VP.bool (decide (((0 : Nat) : Int) < ((3 : Nat) : Int)))), .rp 9 5 0, .slot 10 (VP.agg [VP.bool x0.1, VP.nums .u32 x0.2, VP.bool y0.1, VP.nums .u32 y0.2]), .box 4 26 [VP.bool x0.1, VP.nums .u32 x0.2, VP.bool y0.1, VP.nums .u32 y0.2], .fp 11 4 0, .slot 12 (VP.agg [VP.bool x0.1, VP.nums .u32 x0.2]), .fp 13 4 2, .slot 14 (VP.agg [VP.bool y0.1, VP.nums .u32 y0.2]), .arr 15 24 2 [VP.bool x0.1, VP.nums .u32 x0.2, VP.bool y0.1, VP.nums .u32 y0.2], .slot 16 (VP.bool true), .slot 17 (VP.bool true), .slot 18 (VP.undef), .slot 19 (VP.undef), .slot 20 (VP.undef), .slot 21 (VP.undef), .slot 22 (VP.undef), .slot 23 (VP.bool true), .slot 24 (VP.bool true), .slot 25 (VP.undef), .slot 26 (VP.undef), .slot 27 (VP.undef), .slot 28 (VP.undef), .slot 29 (VP.undef), .slot 30 (VP.bool true), .slot 31 (VP.bool true), .slot 32 (VP.undef), .slot 33 (VP.undef), .slot 34 (VP.undef), .slot 35 (VP.bool true)] [] [(0, .slot 2 (VP.bool true))] [] [0, 1, 2, 3, 4, 5, 6, 7, 8, 9, 10, 11, 12, 13, 14, 15, 16, 17, 18, 19, 20, 21, 22, 23, 24, 25, 26, 27, 28, 29, 30, 31] [] rfl rfl follow rfl ⟨
      .inl ⟨wants_plain rfl, does_move _ (.inr rfl) rfl rfl rfl rfl (ar_const (fun _ => rfl))⟩,
      trivial⟩ ?_
    refine nx_sub (fs' := [.rows 5 3 (fodd3_A_c x0 y0 x1 y1 x2 y2), .slot 6 (VP.int .i64 ((3 : Nat) : Int)), .slot 7 (VP.int .i64 ((0 : Nat) : Int)), .slot 8 (VP.bool (decide (((0 : Nat) : Int) < ((3 : Nat) : Int)))), .rp 9 5 0, .slot 10 (VP.agg [VP.bool x0.1, VP.nums .u32 x0.2, VP.bool y0.1, VP.nums .u32 y0.2]), .box 4 26 [VP.bool x0.1, VP.nums .u32 x0.2, VP.bool y0.1, VP.nums .u32 y0.2], .fp 11 4 0, .slot 12 (VP.agg [VP.bool x0.1, VP.nums .u32 x0.2]), .fp 13 4 2, .slot 14 (VP.agg [VP.bool y0.1, VP.nums .u32 y0.2]), .arr 15 24 2 [VP.bool x0.1, VP.nums .u32 x0.2, VP.bool y0.1, VP.nums .u32 y0.2], .slot 16 (VP.bool true), .slot 17 (VP.bool true), .slot 18 (VP.undef), .slot 19 (VP.undef), .slot 20 (VP.undef), .slot 21 (VP.undef), .slot 22 (VP.undef), .slot 23 (VP.bool true), .slot 24 (VP.bool true), .slot 25 (VP.undef), .slot 26 (VP.undef), .slot 27 (VP.undef), .slot 28 (VP.undef), .slot 29 (VP.undef), .slot 30 (VP.bool true), .slot 31 (VP.bool true), .slot 32 (VP.undef), .slot 33 (VP.undef), .slot 34 (VP.undef), .slot 35 (VP.bool true), .slot 2 (VP.bool true)]) [0, 1, 2, 3, 4, 5, 6, 7, 8, 9, 10, 11, 12, 13, 14, 15, 16, 17, 18, 19, 20, 21, 22, 23, 24, 25, 26, 27, 28, 29, 30, 31, 32] rfl ?_
    refine nx_then ?_
    refine t_ret ?_
    refine rt_block ?_
    refine rt_then ?_
    refine rt_then ?_
    refine rt_block ?_
    refine rt_then ?_
    exact rt_one rfl (res_tmp 32 rfl)
abbrev fodd3_B_c (p0 q0 : Int) (x1 y1 : Raw) (x2 y2 : Raw) : List VP := [Bz p0, Dz p0, Bz q0, Dz q0, VP.bool x1.1, VP.nums .u32 x1.2, VP.bool y1.1, VP.nums .u32 y1.2, VP.bool x2.1, VP.nums .u32 x2.2, VP.bool y2.1, VP.nums .u32 y2.2]
set_option maxRecDepth 100000 in
set_option maxHeartbeats 4000000 in
theorem fodd3_B (p0 q0 : Int) (hp0 : L p0 ≤ 10) (hq0 : L q0 ≤ 10) (hb0 : 5 < L p0) (x1 y1 : Raw) (x2 y2 : Raw) : Spec Try.prog 16 [isRows 3 (fodd3_B_c p0 q0 x1 y1 x2 y2)] (VP.bool true) := by
  refine spec_ofP (xs := [.rows 3 (fodd3_B_c p0 q0 x1 y1 x2 y2)]) 37 [4] Try.func16 rfl Try.ntmps16 rfl fun w0 => ?_
  refine t_seq ?_
  refine t_region (F := ⟨_, _, _, _⟩) [.rows 0 3 (fodd3_B_c p0 q0 x1 y1 x2 y2)] [] [(0, .slot 2 (VP.bool false))] [] [0] [] rfl rfl follow rfl ⟨
    .inl ⟨wants_plain rfl, does_move _ (.inr rfl) rfl rfl rfl rfl (ar_const (fun _ => rfl))⟩,
    trivial⟩ ?_
  refine nx_sub (fs' := [.rows 0 3 (fodd3_B_c p0 q0 x1 y1 x2 y2), .slot 2 (VP.bool false)]) [0, 1] rfl ?_
  refine nx_then ?_
  refine t_seq ?_
  refine t_seq ?_
  refine t_region (F := ⟨_, _, _, _⟩) [.rows 0 3 (fodd3_B_c p0 q0 x1 y1 x2 y2), .slot 2 (VP.bool false)] [] [(0, .rows 5 3 (fodd3_B_c p0 q0 x1 y1 x2 y2)), (1, .slot 6 (VP.int .i64 ((3 : Nat) : Int))), (2, .slot 7 (VP.int .i64 0))] [] [0, 1] [] rfl rfl follow rfl ⟨
    .inl ⟨wants_plain rfl, does_moveRows _ (.inl rfl) rfl rfl rfl rfl rfl (av_fs 0 rfl)⟩,
    .inl ⟨wants_plain rfl, does_lenRows _ _ rfl (by kernel_rfl) rfl rfl rfl rfl rfl (av_rs 0 rfl rfl)⟩,
    .inl ⟨wants_plain rfl, does_move _ (.inl rfl) rfl rfl rfl rfl (ar_const (fun _ => rfl))⟩,
    trivial⟩ ?_
  refine nx_sub (fs' := [.slot 2 (VP.bool false), .rows 5 3 (fodd3_B_c p0 q0 x1 y1 x2 y2), .slot 6 (VP.int .i64 ((3 : Nat) : Int)), .slot 7 (VP.int .i64 0)]) [1, 2, 3, 4] rfl ?_
  refine nx_then ?_
  refine t_block ?_
  refine t_loop (σ := {k : Nat // k ≤ 0}) (fun s => [.rows 5 3 (fodd3_B_c p0 q0 x1 y1 x2 y2), .slot 6 (VP.int .i64 ((3 : Nat) : Int)), .slot 7 (VP.int .i64 ((s.1 : Nat) : Int))]) (fun s => 3 - s.1) (⟨0, by decide⟩) [1, 2, 3] rfl ?_
  intro s
  obtain ⟨k, hk⟩ := s
  rcases (show k = 0 ∨ False by omega) with rfl | hF
  case inr => exact hF.elim
  case inl =>
    refine t_seq ?_
    refine t_region (F := ⟨_, _, _, _⟩) [.rows 5 3 (fodd3_B_c p0 q0 x1 y1 x2 y2), .slot 6 (VP.int .i64 ((3 : Nat) : Int)), .slot 7 (VP.int .i64 ((0 : Nat) : Int))] [] [(0, .slot 8 (VP.bool (decide (((0 : Nat) : Int) < ((3 : Nat) : Int)))))] [] [0, 1, 2] [] rfl rfl follow rfl ⟨
      .inl ⟨wants_plain rfl, does_cmp (m := ((0 : Nat) : Int)) (n := ((3 : Nat) : Int)) _ _ _ _ _ rfl rfl rfl rfl rfl rfl .i64 (ar_tmp (av_fs 2 rfl)) (ar_tmp (av_fs 1 rfl))⟩,
      trivial⟩ ?_
    refine nx_sub (fs' := [.rows 5 3 (fodd3_B_c p0 q0 x1 y1 x2 y2), .slot 6 (VP.int .i64 ((3 : Nat) : Int)), .slot 7 (VP.int .i64 ((0 : Nat) : Int)), .slot 8 (VP.bool (decide (((0 : Nat) : Int) < ((3 : Nat) : Int))))]) [0, 1, 2, 3] rfl ?_
    refine nx_then ?_
    refine t_seq ?_
    refine t_cond_te 3 rfl rfl ?_
    refine t_skip ?_
    refine nx_then ?_
    refine t_seq ?_
    refine t_block ?_
    refine t_seq ?_
    refine t_region (F := ⟨_, _, _, _⟩) [.rows 5 3 (fodd3_B_c p0 q0 x1 y1 x2 y2), .slot 6 (VP.int .i64 ((3 : Nat) : Int)), .slot 7 (VP.int .i64 ((0 : Nat) : Int)), .slot 8 (VP.bool (decide (((0 : Nat) : Int) < ((3 : Nat) : Int))))] [] [(0, .rp 9 5 0), (1, .slot 10 (VP.agg [Bz p0, Dz p0, Bz q0, Dz q0])), (2, .own 4 26 4), (3, .box 4 26 [Bz p0, Dz p0, Bz q0, Dz q0])] [] [0, 1, 2, 3] [] rfl rfl follow rfl ⟨
      .inl ⟨wants_plain rfl, does_indexRows (m := 0) (sz := 4) _ _ rfl Try.underlying122 (fun w => run_sizeAgg ty_agg_api_Frac w) rfl rfl rfl rfl rfl rfl (by decide) rfl (av_fs 0 rfl) (ar_tmp (av_fs 2 rfl))⟩,
      .inl ⟨wants_plain rfl, does_loadRows _ rfl ty_agg_api_Frac rfl rfl rfl rfl rfl rfl rfl (av_rs 0 rfl rfl) (av_fs 0 rfl)⟩,
      .inl ⟨wants_plain rfl, does_allocOwn [Bz 0, Dz 0, Bz 0, Dz 0] ty_zero_api_Frac rfl rfl rfl rfl rfl z_frac rfl⟩,
      .inl ⟨wants_plain rfl, does_storeNew 4 _ _ ty_agg_api_Frac rfl rfl rfl rfl rfl (pt_own (av_rs 2 rfl rfl)) (av_rs 2 rfl rfl) (ar_tmp (av_rs 1 rfl rfl))⟩,
      trivial⟩ ?_
    refine nx_sub (fs' := [.rows 5 3 (fodd3_B_c p0 q0 x1 y1 x2 y2), .slot 6 (VP.int .i64 ((3 : Nat) : Int)), .slot 7 (VP.int .i64 ((0 : Nat) : Int)), .slot 8 (VP.bool (decide (((0 : Nat) : Int) < ((3 : Nat) : Int)))), .rp 9 5 0, .slot 10 (VP.agg [Bz p0, Dz p0, Bz q0, Dz q0]), .box 4 26 [Bz p0, Dz p0, Bz q0, Dz q0]]) [0, 1, 2, 3, 4, 5, 7] rfl ?_
    refine nx_then ?_
    refine t_seq ?_
    refine t_region (F := ⟨_, _, _, _⟩) [.rows 5 3 (fodd3_B_c p0 q0 x1 y1 x2 y2), .slot 6 (VP.int .i64 ((3 : Nat) : Int)), .slot 7 (VP.int .i64 ((0 : Nat) : Int)), .slot 8 (VP.bool (decide (((0 : Nat) : Int) < ((3 : Nat) : Int)))), .rp 9 5 0, .slot 10 (VP.agg [Bz p0, Dz p0, Bz q0, Dz q0]), .box 4 26 [Bz p0, Dz p0, Bz q0, Dz q0]] [] [(0, .fp 11 4 0), (1, .slot 12 (INT p0)), (2, .fp 13 4 2), (3, .slot 14 (INT q0)), (4, .arr 15 24 2 [Bz p0, Dz p0, Bz q0, Dz q0]), (5, .slot 16 (VP.bool false)), (6, .slot 17 (VP.bool false)), (7, .fp 18 4 0), (8, .fp 19 4 1), (9, .slot 20 (Dz p0)), (10, .slot 21 (VP.int .i64 (((dg BB p0.natAbs).length : Nat) : Int))), (11, .slot 22 (VP.bool (decide ((((dg BB p0.natAbs).length : Nat) : Int) > 5)))), (12, .slot 23 (VP.bool (decide ((((dg BB p0.natAbs).length : Nat) : Int) > 5)))), (13, .slot 24 (VP.bool (decide ((((dg BB p0.natAbs).length : Nat) : Int) > 5)))), (14, .slot 25 (VP.undef)), (15, .slot 26 (VP.undef)), (16, .slot 27 (VP.undef)), (17, .slot 28 (VP.undef)), (18, .slot 29 (VP.undef)), (19, .slot 30 (VP.bool true)), (20, .slot 31 (VP.bool true)), (21, .slot 32 (VP.undef)), (22, .slot 33 (VP.undef)), (23, .slot 34 (VP.undef)), (24, .slot 35 (VP.bool true))] [] [0, 1, 2, 3, 4, 5, 6] [] rfl rfl follow rfl ⟨
      .inl ⟨wants_plain rfl, does_field _ _ _ 0 ty_f0_api_Frac rfl rfl rfl rfl rfl rfl rfl (pt_box (av_fs 6 rfl))⟩,
      .inl ⟨wants_plain rfl, does_loadAgg _ ty_agg_api_Int rfl rfl rfl rfl rfl rfl (pt_fp (av_rs 0 rfl rfl)) (av_fs 6 rfl)⟩,
      .inl ⟨wants_plain rfl, does_field _ _ _ 2 ty_f1_api_Frac rfl rfl rfl rfl rfl rfl rfl (pt_box (av_fs 6 rfl))⟩,
      .inl ⟨wants_plain rfl, does_loadAgg _ ty_agg_api_Int rfl rfl rfl rfl rfl rfl (pt_fp (av_rs 2 rfl rfl)) (av_fs 6 rfl)⟩,
      .inl ⟨wants_plain rfl, does_buildSlice (sz := 2) [Bz 0, Dz 0, Bz 0, Dz 0] ty_zero_api_Int (by kernel_rfl) (fun w => run_sizeAgg ty_agg_api_Int w) rfl rfl rfl rfl rfl rfl (by kernel_rfl) (fun w => by exact z_int_2 w) (.cons 0 [Bz p0, Dz p0] rfl rfl (ar_cells_agg (ar_tmp (av_rs 1 rfl rfl))) (.cons 2 [Bz q0, Dz q0] rfl rfl (ar_cells_agg (ar_tmp (av_rs 3 rfl rfl))) (.nil _)))⟩,
      .inl ⟨wants_plain rfl, does_call (s_even2 p0 q0 hp0 hq0) rfl hb_collator_collatorlaw01_Odd rfl rfl rfl rfl ⟨(ar_arr (av_rs 4 rfl rfl)), trivial⟩⟩,
      .inl ⟨wants_plain rfl, does_move _ (.inl rfl) rfl rfl rfl rfl (ar_tmp (av_rs 5 rfl rfl))⟩,
      .inl ⟨wants_guard false rfl rfl rfl (av_rs 6 rfl rfl), does_field _ _ _ 0 ty_f0_api_Frac rfl rfl rfl rfl rfl rfl rfl (pt_box (av_fs 6 rfl))⟩,
      .inl ⟨wants_guard false rfl rfl rfl (av_rs 6 rfl rfl), does_field _ _ _ 1 ty_f1_api_Int rfl rfl rfl rfl rfl rfl rfl (pt_fp (av_rs 7 rfl rfl))⟩,
      .inl ⟨wants_guard false rfl rfl rfl (av_rs 6 rfl rfl), does_loadOne _ ty_one___uint32 rfl rfl rfl rfl rfl rfl (pt_fp (av_rs 8 rfl rfl)) (av_fs 6 rfl)⟩,
      .inl ⟨wants_guard false rfl rfl rfl (av_rs 6 rfl rfl), does_len _ _ (by kernel_rfl) rfl rfl rfl rfl rfl (ar_tmp (av_rs 9 rfl rfl))⟩,
      .inl ⟨wants_guard false rfl rfl rfl (av_rs 6 rfl rfl), does_cmp (m := (((dg BB p0.natAbs).length : Nat) : Int)) (n := 5) _ _ _ _ _ rfl rfl rfl rfl rfl rfl .i64 (ar_tmp (av_rs 10 rfl rfl)) (ar_const (fun _ => rfl))⟩,
      .inl ⟨wants_plain rfl, does_pick false _ _ _ rfl rfl rfl rfl rfl (ar_tmp (av_rs 6 rfl rfl)) (ar_tmp (av_rs 11 rfl rfl))⟩,
      .inl ⟨wants_plain rfl, does_move _ (.inl rfl) rfl rfl rfl rfl (ar_tmp (av_rs 12 rfl rfl))⟩,
      .inr (skips_guardU true rfl rfl rfl (av_bool (gt5_yes hb0) (av_rs 13 rfl rfl)) rfl rfl rfl rfl),
      .inr (skips_guardU true rfl rfl rfl (av_bool (gt5_yes hb0) (av_rs 13 rfl rfl)) rfl rfl rfl rfl),
      .inr (skips_guardU true rfl rfl rfl (av_bool (gt5_yes hb0) (av_rs 13 rfl rfl)) rfl rfl rfl rfl),
      .inr (skips_guardU true rfl rfl rfl (av_bool (gt5_yes hb0) (av_rs 13 rfl rfl)) rfl rfl rfl rfl),
      .inr (skips_guardU true rfl rfl rfl (av_bool (gt5_yes hb0) (av_rs 13 rfl rfl)) rfl rfl rfl rfl),
      .inl ⟨wants_plain rfl, does_pick true _ _ _ rfl rfl rfl rfl rfl (ar_tmp (av_bool (gt5_yes hb0) (av_rs 13 rfl rfl))) (ar_const (fun _ => rfl))⟩,
      .inl ⟨wants_plain rfl, does_move _ (.inl rfl) rfl rfl rfl rfl (ar_tmp (av_rs 19 rfl rfl))⟩,
      .inr (skips_guardU true rfl rfl rfl (av_rs 20 rfl rfl) rfl rfl rfl rfl),
      .inr (skips_guardU true rfl rfl rfl (av_rs 20 rfl rfl) rfl rfl rfl rfl),
      .inr (skips_guardU true rfl rfl rfl (av_rs 20 rfl rfl) rfl rfl rfl rfl),
      .inl ⟨wants_plain rfl, does_pick true _ _ _ rfl rfl rfl rfl rfl (ar_tmp (av_rs 20 rfl rfl)) (ar_const (fun _ => rfl))⟩,
      trivial⟩ ?_
    refine nx_sub (fs' := [.rows 5 3 (fodd3_B_c p0 q0 x1 y1 x2 y2), .slot 6 (VP.int .i64 ((3 : Nat) : Int)), .slot 7 (VP.int .i64 ((0 : Nat) : Int)), .slot 8 (VP.bool (decide (((0 : Nat) : Int) < ((3 : Nat) : Int)))), .rp 9 5 0, .slot 10 (VP.agg [Bz p0, Dz p0, Bz q0, Dz q0]), .box 4 26 [Bz p0, Dz p0, Bz q0, Dz q0], .fp 11 4 0, .slot 12 (INT p0), .fp 13 4 2, .slot 14 (INT q0), .arr 15 24 2 [Bz p0, Dz p0, Bz q0, Dz q0], .slot 16 (VP.bool false), .slot 17 (VP.bool false), .fp 18 4 0, .fp 19 4 1, .slot 20 (Dz p0), .slot 21 (VP.int .i64 (((dg BB p0.natAbs).length : Nat) : Int)), .slot 22 (VP.bool (decide ((((dg BB p0.natAbs).length : Nat) : Int) > 5))), .slot 23 (VP.bool (decide ((((dg BB p0.natAbs).length : Nat) : Int) > 5))), .slot 24 (VP.bool (decide ((((dg BB p0.natAbs).length : Nat) : Int) > 5))), .slot 25 (VP.undef), .slot 26 (VP.undef), .slot 27 (VP.undef), .slot 28 (VP.undef), .slot 29 (VP.undef), .slot 30 (VP.bool true), .slot 31 (VP.bool true), .slot 32 (VP.undef), .slot 33 (VP.undef), .slot 34 (VP.undef), .slot 35 (VP.bool true)]) [0, 1, 2, 3, 4, 5, 6, 7, 8, 9, 10, 11, 12, 13, 14, 15, 16, 17, 18, 19, 20, 21, 22, 23, 24, 25, 26, 27, 28, 29, 30, 31] rfl ?_
    refine nx_then ?_
    refine t_cond_t 31 rfl ?_
    refine t_seq ?_
    refine t_region (F := ⟨_, _, _, _⟩) [.rows 5 3 (fodd3_B_c p0 q0 x1 y1 x2 y2), .slot 6 (VP.int .i64 ((3 : Nat) : Int)), .slot 7 (VP.int .i64 ((0 : Nat) : Int)), .slot 8 (VP.bool (decide (((0 : Nat) : Int) < ((3 : Nat) : Int)))), .rp 9 5 0, .slot 10 (VP.agg [Bz p0, Dz p0, Bz q0, Dz q0]), .box 4 26 [Bz p0, Dz p0, Bz q0, Dz q0], .fp 11 4 0, .slot 12 (INT p0), .fp 13 4 2, .slot 14 (INT q0), .arr 15 24 2 [Bz p0, Dz p0, Bz q0, Dz q0], .slot 16 (VP.bool false), .slot 17 (VP.bool false), .fp 18 4 0, .fp 19 4 1, .slot 20 (Dz p0), .slot 21 (VP.int .i64 (((dg BB p0.natAbs).length : Nat) : Int)), .slot 22 (VP.bool (decide ((((dg BB p0.natAbs).length : Nat) : Int) > 5))), .slot 23 (VP.bool (decide ((((dg BB p0.natAbs).length : Nat) : Int) > 5))), .slot 24 (VP.bool (decide ((((dg BB p0.natAbs).length : Nat) : Int) > 5))), .slot 25 (VP.undef), .slot 26 (VP.undef), .slot 27 (VP.undef), .slot 28 (VP.undef), .slot 29 (VP.undef), .slot 30 (VP.bool true), .slot 31 (VP.bool true), .slot 32 (VP.undef), .slot 33 (VP.undef), .slot 34 (VP.undef), .slot 35 (VP.bool true)] [] [(0, .slot 2 (VP.bool true))] [] [0, 1, 2, 3, 4, 5, 6, 7, 8, 9, 10, 11, 12, 13, 14, 15, 16, 17, 18, 19, 20, 21, 22, 23, 24, 25, 26, 27, 28, 29, 30, 31] [] rfl rfl follow rfl ⟨
      .inl ⟨wants_plain rfl, does_move _ (.inr rfl) rfl rfl rfl rfl (ar_const (fun _ => rfl))⟩,
      trivial⟩ ?_
    refine nx_sub (fs' := [.rows 5 3 (fodd3_B_c p0 q0 x1 y1 x2 y2), .slot 6 (VP.int .i64 ((3 : Nat) : Int)), .slot 7 (VP.int .i64 ((0 : Nat) : Int)), .slot 8 (VP.bool (decide (((0 : Nat) : Int) < ((3 : Nat) : Int)))), .rp 9 5 0, .slot 10 (VP.agg [Bz p0, Dz p0, Bz q0, Dz q0]), .box 4 26 [Bz p0, Dz p0, Bz q0, Dz q0], .fp 11 4 0, .slot 12 (INT p0), .fp 13 4 2, .slot 14 (INT q0), .arr 15 24 2 [Bz p0, Dz p0, Bz q0, Dz q0], .slot 16 (VP.bool false), .slot 17 (VP.bool false), .fp 18 4 0, .fp 19 4 1, .slot 20 (Dz p0), .slot 21 (VP.int .i64 (((dg BB p0.natAbs).length : Nat) : Int)), .slot 22 (VP.bool (decide ((((dg BB p0.natAbs).length : Nat) : Int) > 5))), .slot 23 (VP.bool (decide ((((dg BB p0.natAbs).length : Nat) : Int) > 5))), .slot 24 (VP.bool (decide ((((dg BB p0.natAbs).length : Nat) : Int) > 5))), .slot 25 (VP.undef), .slot 26 (VP.undef), .slot 27 (VP.undef), .slot 28 (VP.undef), .slot 29 (VP.undef), .slot 30 (VP.bool true), .slot 31 (VP.bool true), .slot 32 (VP.undef), .slot 33 (VP.undef), .slot 34 (VP.undef), .slot 35 (VP.bool true), .slot 2 (VP.bool true)]) [0, 1, 2, 3, 4, 5, 6, 7, 8, 9, 10, 11, 12, 13, 14, 15, 16, 17, 18, 19, 20, 21, 22, 23, 24, 25, 26, 27, 28, 29, 30, 31, 32] rfl ?_
    refine nx_then ?_
    refine t_ret ?_
    refine rt_block ?_
    refine rt_then ?_
    refine rt_then ?_
    refine rt_block ?_
    refine rt_then ?_
    exact rt_one rfl (res_tmp 32 rfl)
abbrev fodd3_C_c (p0 q0 : Int) (x1 y1 : Raw) (x2 y2 : Raw) : List VP := [Bz p0, Dz p0, Bz q0, Dz q0, VP.bool x1.1, VP.nums .u32 x1.2, VP.bool y1.1, VP.nums .u32 y1.2, VP.bool x2.1, VP.nums .u32 x2.2, VP.bool y2.1, VP.nums .u32 y2.2]
set_option maxRecDepth 100000 in
set_option maxHeartbeats 4000000 in
theorem fodd3_C (p0 q0 : Int) (hp0 : L p0 ≤ 5) (hq0 : L q0 ≤ 10) (hb0 : 5 < L q0) (x1 y1 : Raw) (x2 y2 : Raw) : Spec Try.prog 16 [isRows 3 (fodd3_C_c p0 q0 x1 y1 x2 y2)] (VP.bool true) := by
  refine spec_ofP (xs := [.rows 3 (fodd3_C_c p0 q0 x1 y1 x2 y2)]) 37 [4] Try.func16 rfl Try.ntmps16 rfl fun w0 => ?_
  refine t_seq ?_
  refine t_region (F := ⟨_, _, _, _⟩) [.rows 0 3 (fodd3_C_c p0 q0 x1 y1 x2 y2)] [] [(0, .slot 2 (VP.bool false))] [] [0] [] rfl rfl follow rfl ⟨
    .inl ⟨wants_plain rfl, does_move _ (.inr rfl) rfl rfl rfl rfl (ar_const (fun _ => rfl))⟩,
    trivial⟩ ?_
  refine nx_sub (fs' := [.rows 0 3 (fodd3_C_c p0 q0 x1 y1 x2 y2), .slot 2 (VP.bool false)]) [0, 1] rfl ?_
  refine nx_then ?_
  refine t_seq ?_
  refine t_seq ?_
  refine t_region (F := ⟨_, _, _, _⟩) [.rows 0 3 (fodd3_C_c p0 q0 x1 y1 x2 y2), .slot 2 (VP.bool false)] [] [(0, .rows 5 3 (fodd3_C_c p0 q0 x1 y1 x2 y2)), (1, .slot 6 (VP.int .i64 ((3 : Nat) : Int))), (2, .slot 7 (VP.int .i64 0))] [] [0, 1] [] rfl rfl follow rfl ⟨
    .inl ⟨wants_plain rfl, does_moveRows _ (.inl rfl) rfl rfl rfl rfl rfl (av_fs 0 rfl)⟩,
    .inl ⟨wants_plain rfl, does_lenRows _ _ rfl (by kernel_rfl) rfl rfl rfl rfl rfl (av_rs 0 rfl rfl)⟩,
    .inl ⟨wants_plain rfl, does_move _ (.inl rfl) rfl rfl rfl rfl (ar_const (fun _ => rfl))⟩,
    trivial⟩ ?_
  refine nx_sub (fs' := [.slot 2 (VP.bool false), .rows 5 3 (fodd3_C_c p0 q0 x1 y1 x2 y2), .slot 6 (VP.int .i64 ((3 : Nat) : Int)), .slot 7 (VP.int .i64 0)]) [1, 2, 3, 4] rfl ?_
  refine nx_then ?_
  refine t_block ?_
  refine t_loop (σ := {k : Nat // k ≤ 0}) (fun s => [.rows 5 3 (fodd3_C_c p0 q0 x1 y1 x2 y2), .slot 6 (VP.int .i64 ((3 : Nat) : Int)), .slot 7 (VP.int .i64 ((s.1 : Nat) : Int))]) (fun s => 3 - s.1) (⟨0, by decide⟩) [1, 2, 3] rfl ?_
  intro s
  obtain ⟨k, hk⟩ := s
  rcases (show k = 0 ∨ False by omega) with rfl | hF
  case inr => exact hF.elim
  case inl =>
    refine t_seq ?_
    refine t_region (F := ⟨_, _, _, _⟩) [.rows 5 3 (fodd3_C_c p0 q0 x1 y1 x2 y2), .slot 6 (VP.int .i64 ((3 : Nat) : Int)), .slot 7 (VP.int .i64 ((0 : Nat) : Int))] [] [(0, .slot 8 (VP.bool (decide (((0 : Nat) : Int) < ((3 : Nat) : Int)))))] [] [0, 1, 2] [] rfl rfl follow rfl ⟨
      .inl ⟨wants_plain rfl, does_cmp (m := ((0 : Nat) : Int)) (n := ((3 : Nat) : Int)) _ _ _ _ _ rfl rfl rfl rfl rfl rfl .i64 (ar_tmp (av_fs 2 rfl)) (ar_tmp (av_fs 1 rfl))⟩,
      trivial⟩ ?_
    refine nx_sub (fs' := [.rows 5 3 (fodd3_C_c p0 q0 x1 y1 x2 y2), .slot 6 (VP.int .i64 ((3 : Nat) : Int)), .slot 7 (VP.int .i64 ((0 : Nat) : Int)), .slot 8 (VP.bool (decide (((0 : Nat) : Int) < ((3 : Nat) : Int))))]) [0, 1, 2, 3] rfl ?_
    refine nx_then ?_
    refine t_seq ?_
    refine t_cond_te 3 rfl rfl ?_
    refine t_skip ?_
    refine nx_then ?_
    refine t_seq ?_
    refine t_block ?_
    refine t_seq ?_
    refine t_region (F := ⟨_, _, _, _⟩) [.rows 5 3 (fodd3_C_c p0 q0 x1 y1 x2 y2), .slot 6 (VP.int .i64 ((3 : Nat) : Int)), .slot 7 (VP.int .i64 ((0 : Nat) : Int)), .slot 8 (VP.bool (decide (((0 : Nat) : Int) < ((3 : Nat) : Int))))] [] [(0, .rp 9 5 0), (1, .slot 10 (VP.agg [Bz p0, Dz p0, Bz q0, Dz q0])), (2, .own 4 26 4), (3, .box 4 26 [Bz p0, Dz p0, Bz q0, Dz q0])] [] [0, 1, 2, 3] [] rfl rfl follow rfl ⟨
      .inl ⟨wants_plain rfl, does_indexRows (m := 0) (sz := 4) _ _ rfl Try.underlying122 (fun w => run_sizeAgg ty_agg_api_Frac w) rfl rfl rfl rfl rfl rfl (by decide) rfl (av_fs 0 rfl) (ar_tmp (av_fs 2 rfl))⟩,
      .inl ⟨wants_plain rfl, does_loadRows _ rfl ty_agg_api_Frac rfl rfl rfl rfl rfl rfl rfl (av_rs 0 rfl rfl) (av_fs 0 rfl)⟩,
      .inl ⟨wants_plain rfl, does_allocOwn [Bz 0, Dz 0, Bz 0, Dz 0] ty_zero_api_Frac rfl rfl rfl rfl rfl z_frac rfl⟩,
      .inl ⟨wants_plain rfl, does_storeNew 4 _ _ ty_agg_api_Frac rfl rfl rfl rfl rfl (pt_own (av_rs 2 rfl rfl)) (av_rs 2 rfl rfl) (ar_tmp (av_rs 1 rfl rfl))⟩,
      trivial⟩ ?_
    refine nx_sub (fs' := [.rows 5 3 (fodd3_C_c p0 q0 x1 y1 x2 y2), .slot 6 (VP.int .i64 ((3 : Nat) : Int)), .slot 7 (VP.int .i64 ((0 : Nat) : Int)), .slot 8 (VP.bool (decide (((0 : Nat) : Int) < ((3 : Nat) : Int)))), .rp 9 5 0, .slot 10 (VP.agg [Bz p0, Dz p0, Bz q0, Dz q0]), .box 4 26 [Bz p0, Dz p0, Bz q0, Dz q0]]) [0, 1, 2, 3, 4, 5, 7] rfl ?_
    refine nx_then ?_
    refine t_seq ?_
    refine t_region (F := ⟨_, _, _, _⟩) [.rows 5 3 (fodd3_C_c p0 q0 x1 y1 x2 y2), .slot 6 (VP.int .i64 ((3 : Nat) : Int)), .slot 7 (VP.int .i64 ((0 : Nat) : Int)), .slot 8 (VP.bool (decide (((0 : Nat) : Int) < ((3 : Nat) : Int)))), .rp 9 5 0, .slot 10 (VP.agg [Bz p0, Dz p0, Bz q0, Dz q0]), .box 4 26 [Bz p0, Dz p0, Bz q0, Dz q0]] [] [(0, .fp 11 4 0), (1, .slot 12 (INT p0)), (2, .fp 13 4 2), (3, .slot 14 (INT q0)), (4, .arr 15 24 2 [Bz p0, Dz p0, Bz q0, Dz q0]), (5, .slot 16 (VP.bool false)), (6, .slot 17 (VP.bool false)), (7, .fp 18 4 0), (8, .fp 19 4 1), (9, .slot 20 (Dz p0)), (10, .slot 21 (VP.int .i64 (((dg BB p0.natAbs).length : Nat) : Int))), (11, .slot 22 (VP.bool (decide ((((dg BB p0.natAbs).length : Nat) : Int) > 5)))), (12, .slot 23 (VP.bool (decide ((((dg BB p0.natAbs).length : Nat) : Int) > 5)))), (13, .slot 24 (VP.bool (decide ((((dg BB p0.natAbs).length : Nat) : Int) > 5)))), (14, .fp 25 4 2), (15, .fp 26 4 3), (16, .slot 27 (Dz q0)), (17, .slot 28 (VP.int .i64 (((dg BB q0.natAbs).length : Nat) : Int))), (18, .slot 29 (VP.bool (decide ((((dg BB q0.natAbs).length : Nat) : Int) > 5)))), (19, .slot 30 (VP.bool (decide ((((dg BB q0.natAbs).length : Nat) : Int) > 5)))), (20, .slot 31 (VP.bool (decide ((((dg BB q0.natAbs).length : Nat) : Int) > 5)))), (21, .slot 32 (VP.undef)), (22, .slot 33 (VP.undef)), (23, .slot 34 (VP.undef)), (24, .slot 35 (VP.bool true))] [] [0, 1, 2, 3, 4, 5, 6] [] rfl rfl follow rfl ⟨
      .inl ⟨wants_plain rfl, does_field _ _ _ 0 ty_f0_api_Frac rfl rfl rfl rfl rfl rfl rfl (pt_box (av_fs 6 rfl))⟩,
      .inl ⟨wants_plain rfl, does_loadAgg _ ty_agg_api_Int rfl rfl rfl rfl rfl rfl (pt_fp (av_rs 0 rfl rfl)) (av_fs 6 rfl)⟩,
      .inl ⟨wants_plain rfl, does_field _ _ _ 2 ty_f1_api_Frac rfl rfl rfl rfl rfl rfl rfl (pt_box (av_fs 6 rfl))⟩,
      .inl ⟨wants_plain rfl, does_loadAgg _ ty_agg_api_Int rfl rfl rfl rfl rfl rfl (pt_fp (av_rs 2 rfl rfl)) (av_fs 6 rfl)⟩,
      .inl ⟨wants_plain rfl, does_buildSlice (sz := 2) [Bz 0, Dz 0, Bz 0, Dz 0] ty_zero_api_Int (by kernel_rfl) (fun w => run_sizeAgg ty_agg_api_Int w) rfl rfl rfl rfl rfl rfl (by kernel_rfl) (fun w => by exact z_int_2 w) (.cons 0 [Bz p0, Dz p0] rfl rfl (ar_cells_agg (ar_tmp (av_rs 1 rfl rfl))) (.cons 2 [Bz q0, Dz q0] rfl rfl (ar_cells_agg (ar_tmp (av_rs 3 rfl rfl))) (.nil _)))⟩,
      .inl ⟨wants_plain rfl, does_call (s_even2 p0 q0 (lle hp0 (by decide)) hq0) rfl hb_collator_collatorlaw01_Odd rfl rfl rfl rfl ⟨(ar_arr (av_rs 4 rfl rfl)), trivial⟩⟩,
      .inl ⟨wants_plain rfl, does_move _ (.inl rfl) rfl rfl rfl rfl (ar_tmp (av_rs 5 rfl rfl))⟩,
      .inl ⟨wants_guard false rfl rfl rfl (av_rs 6 rfl rfl), does_field _ _ _ 0 ty_f0_api_Frac rfl rfl rfl rfl rfl rfl rfl (pt_box (av_fs 6 rfl))⟩,
      .inl ⟨wants_guard false rfl rfl rfl (av_rs 6 rfl rfl), does_field _ _ _ 1 ty_f1_api_Int rfl rfl rfl rfl rfl rfl rfl (pt_fp (av_rs 7 rfl rfl))⟩,
      .inl ⟨wants_guard false rfl rfl rfl (av_rs 6 rfl rfl), does_loadOne _ ty_one___uint32 rfl rfl rfl rfl rfl rfl (pt_fp (av_rs 8 rfl rfl)) (av_fs 6 rfl)⟩,
      .inl ⟨wants_guard false rfl rfl rfl (av_rs 6 rfl rfl), does_len _ _ (by kernel_rfl) rfl rfl rfl rfl rfl (ar_tmp (av_rs 9 rfl rfl))⟩,
      .inl ⟨wants_guard false rfl rfl rfl (av_rs 6 rfl rfl), does_cmp (m := (((dg BB p0.natAbs).length : Nat) : Int)) (n := 5) _ _ _ _ _ rfl rfl rfl rfl rfl rfl .i64 (ar_tmp (av_rs 10 rfl rfl)) (ar_const (fun _ => rfl))⟩,
      .inl ⟨wants_plain rfl, does_pick false _ _ _ rfl rfl rfl rfl rfl (ar_tmp (av_rs 6 rfl rfl)) (ar_tmp (av_rs 11 rfl rfl))⟩,
      .inl ⟨wants_plain rfl, does_move _ (.inl rfl) rfl rfl rfl rfl (ar_tmp (av_rs 12 rfl rfl))⟩,
      .inl ⟨wants_guard false rfl rfl rfl (av_bool (gt5_no hp0) (av_rs 13 rfl rfl)), does_field _ _ _ 2 ty_f1_api_Frac rfl rfl rfl rfl rfl rfl rfl (pt_box (av_fs 6 rfl))⟩,
      .inl ⟨wants_guard false rfl rfl rfl (av_bool (gt5_no hp0) (av_rs 13 rfl rfl)), does_field _ _ _ 1 ty_f1_api_Int rfl rfl rfl rfl rfl rfl rfl (pt_fp (av_rs 14 rfl rfl))⟩,
      .inl ⟨wants_guard false rfl rfl rfl (av_bool (gt5_no hp0) (av_rs 13 rfl rfl)), does_loadOne _ ty_one___uint32 rfl rfl rfl rfl rfl rfl (pt_fp (av_rs 15 rfl rfl)) (av_fs 6 rfl)⟩,
      .inl ⟨wants_guard false rfl rfl rfl (av_bool (gt5_no hp0) (av_rs 13 rfl rfl)), does_len _ _ (by kernel_rfl) rfl rfl rfl rfl rfl (ar_tmp (av_rs 16 rfl rfl))⟩,
      .inl ⟨wants_guard false rfl rfl rfl (av_bool (gt5_no hp0) (av_rs 13 rfl rfl)), does_cmp (m := (((dg BB q0.natAbs).length : Nat) : Int)) (n := 5) _ _ _ _ _ rfl rfl rfl rfl rfl rfl .i64 (ar_tmp (av_rs 17 rfl rfl)) (ar_const (fun _ => rfl))⟩,
      .inl ⟨wants_plain rfl, does_pick false _ _ _ rfl rfl rfl rfl rfl (ar_tmp (av_bool (gt5_no hp0) (av_rs 13 rfl rfl))) (ar_tmp (av_rs 18 rfl rfl))⟩,
      .inl ⟨wants_plain rfl, does_move _ (.inl rfl) rfl rfl rfl rfl (ar_tmp (av_rs 19 rfl rfl))⟩,
      .inr (skips_guardU true rfl rfl rfl (av_bool (gt5_yes hb0) (av_rs 20 rfl rfl)) rfl rfl rfl rfl),
      .inr (skips_guardU true rfl rfl rfl (av_bool (gt5_yes hb0) (av_rs 20 rfl rfl)) rfl rfl rfl rfl),
      .inr (skips_guardU true rfl rfl rfl (av_bool (gt5_yes hb0) (av_rs 20 rfl rfl)) rfl rfl rfl rfl),
      .inl ⟨wants_plain rfl, does_pick true _ _ _ rfl rfl rfl rfl rfl (ar_tmp (av_bool (gt5_yes hb0) (av_rs 20 rfl rfl))) (ar_const (fun _ => rfl))⟩,
      trivial⟩ ?_
    refine nx_sub (fs' := [.rows 5 3 (fodd3_C_c p0 q0 x1 y1 x2 y2), .slot 6 (VP.int .i64 ((3 : Nat) : Int)), .slot 7 (VP.int .i64 ((0 : Nat) : Int)), .slot 8 (VP.bool (decide (((0 : Nat) : Int) < ((3 : Nat) : Int)))), .rp 9 5 0, .slot 10 (VP.agg [Bz p0, Dz p0, Bz q0, Dz q0]), .box 4 26 [Bz p0, Dz p0, Bz q0, Dz q0], .fp 11 4 0, .slot 12 (INT p0), .fp 13 4 2, .slot 14 (INT q0), .arr 15 24 2 [Bz p0, Dz p0, Bz q0, Dz q0], .slot 16 (VP.bool false), .slot 17 (VP.bool false), .fp 18 4 0, .fp 19 4 1, .slot 20 (Dz p0), .slot 21 (VP.int .i64 (((dg BB p0.natAbs).length : Nat) : Int)), .slot 22 (VP.bool (decide ((((dg BB p0.natAbs).length : Nat) : Int) > 5))), .slot 23 (VP.bool (decide ((((dg BB p0.natAbs).length : Nat) : Int) > 5))), .slot 24 (VP.bool (decide ((((dg BB p0.natAbs).length : Nat) : Int) > 5))), .fp 25 4 2, .fp 26 4 3, .slot 27 (Dz q0), .slot 28 (VP.int .i64 (((dg BB q0.natAbs).length : Nat) : Int)), .slot 29 (VP.bool (decide ((((dg BB q0.natAbs).length : Nat) : Int) > 5))), .slot 30 (VP.bool (decide ((((dg BB q0.natAbs).length : Nat) : Int) > 5))), .slot 31 (VP.bool (decide ((((dg BB q0.natAbs).length : Nat) : Int) > 5))), .slot 32 (VP.undef), .slot 33 (VP.undef), .slot 34 (VP.undef), .slot 35 (VP.bool true)]) [0, 1, 2, 3, 4, 5, 6, 7, 8, 9, 10, 11, 12, 13, 14, 15, 16, 17, 18, 19, 20, 21, 22, 23, 24, 25, 26, 27, 28, 29, 30, 31] rfl ?_
    refine nx_then ?_
    refine t_cond_t 31 rfl ?_
    refine t_seq ?_
    refine t_region (F := ⟨_, _, _, _⟩) [.rows 5 3 (fodd3_C_c p0 q0 x1 y1 x2 y2), .slot 6 (VP.int .i64 ((3 : Nat) : Int)), .slot 7 (VP.int .i64 ((0 : Nat) : Int)), .slot 8 (VP.bool (decide (((0 : Nat) : Int) < ((3 : Nat) : Int)))), .rp 9 5 0, .slot 10 (VP.agg [Bz p0, Dz p0, Bz q0, Dz q0]), .box 4 26 [Bz p0, Dz p0, Bz q0, Dz q0], .fp 11 4 0, .slot 12 (INT p0), .fp 13 4 2, .slot 14 (INT q0), .arr 15 24 2 [Bz p0, Dz p0, Bz q0, Dz q0], .slot 16 (VP.bool false), .slot 17 (VP.bool false), .fp 18 4 0, .fp 19 4 1, .slot 20 (Dz p0), .slot 21 (VP.int .i64 (((dg BB p0.natAbs).length : Nat) : Int)), .slot 22 (VP.bool (decide ((((dg BB p0.natAbs).length : Nat) : Int) > 5))), .slot 23 (VP.bool (decide ((((dg BB p0.natAbs).length : Nat) : Int) > 5))), .slot 24 (VP.bool (decide ((((dg BB p0.natAbs).length : Nat) : Int) > 5))), .fp 25 4 2, .fp 26 4 3, .slot 27 (Dz q0), .slot 28 (VP.int .i64 (((dg BB q0.natAbs).length : Nat) : Int)), .slot 29 (VP.bool (decide ((((dg BB q0.natAbs).length : Nat) : Int) > 5))), .slot 30 (VP.bool (decide ((((dg BB q0.natAbs).length : Nat) : Int) > 5))), .slot 31 (VP.bool (decide ((((dg BB q0.natAbs).length : Nat) : Int) > 5))), .slot 32 (VP.undef), .slot 33 (VP.undef), .slot 34 (VP.undef), .slot 35 (VP.bool true)] [] [(0, .slot 2 (VP.bool true))] [] [0, 1, 2, 3, 4, 5, 6, 7, 8, 9, 10, 11, 12, 13, 14, 15, 16, 17, 18, 19, 20, 21, 22, 23, 24, 25, 26, 27, 28, 29, 30, 31] [] rfl rfl follow rfl ⟨
      .inl ⟨wants_plain rfl, does_move _ (.inr rfl) rfl rfl rfl rfl (ar_const (fun _ => rfl))⟩,
      trivial⟩ ?_
    refine nx_sub (fs' := [.rows 5 3 (fodd3_C_c p0 q0 x1 y1 x2 y2), .slot 6 (VP.int .i64 ((3 : Nat) : Int)), .slot 7 (VP.int .i64 ((0 : Nat) : Int)), .slot 8 (VP.bool (decide (((0 : Nat) : Int) < ((3 : Nat) : Int)))), .rp 9 5 0, .slot 10 (VP.agg [Bz p0, Dz p0, Bz q0, Dz q0]), .box 4 26 [Bz p0, Dz p0, Bz q0, Dz q0], .fp 11 4 0, .slot 12 (INT p0), .fp 13 4 2, .slot 14 (INT q0), .arr 15 24 2 [Bz p0, Dz p0, Bz q0, Dz q0], .slot 16 (VP.bool false), .slot 17 (VP.bool false), .fp 18 4 0, .fp 19 4 1, .slot 20 (Dz p0), .slot 21 (VP.int .i64 (((dg BB p0.natAbs).length : Nat) : Int)), .slot 22 (VP.bool (decide ((((dg BB p0.natAbs).length : Nat) : Int) > 5))), .slot 23 (VP.bool (decide ((((dg BB p0.natAbs).length : Nat) : Int) > 5))), .slot 24 (VP.bool (decide ((((dg BB p0.natAbs).length : Nat) : Int) > 5))), .fp 25 4 2, .fp 26 4 3, .slot 27 (Dz q0), .slot 28 (VP.int .i64 (((dg BB q0.natAbs).length : Nat) : Int)), .slot 29 (VP.bool (decide ((((dg BB q0.natAbs).length : Nat) : Int) > 5))), .slot 30 (VP.bool (decide ((((dg BB q0.natAbs).length : Nat) : Int) > 5))), .slot 31 (VP.bool (decide ((((dg BB q0.natAbs).length : Nat) : Int) > 5))), .slot 32 (VP.undef), .slot 33 (VP.undef), .slot 34 (VP.undef), .slot 35 (VP.bool true), .slot 2 (VP.bool true)]) [0, 1, 2, 3, 4, 5, 6, 7, 8, 9, 10, 11, 12, 13, 14, 15, 16, 17, 18, 19, 20, 21, 22, 23, 24, 25, 26, 27, 28, 29, 30, 31, 32] rfl ?_
    refine nx_then ?_
    refine t_ret ?_
    refine rt_block ?_
    refine rt_then ?_
    refine rt_then ?_
    refine rt_block ?_
    refine rt_then ?_
    exact rt_one rfl (res_tmp 32 rfl)
abbrev fodd3_D_c (p0 q0 : Int) (x1 y1 : Raw) (x2 y2 : Raw) : List VP := [Bz p0, Dz p0, Bz q0, Dz q0, VP.bool x1.1, VP.nums .u32 x1.2, VP.bool y1.1, VP.nums .u32 y1.2, VP.bool x2.1, VP.nums .u32 x2.2, VP.bool y2.1, VP.nums .u32 y2.2]
set_option maxRecDepth 100000 in
set_option maxHeartbeats 4000000 in
theorem fodd3_D (p0 q0 : Int) (hp0 : L p0 ≤ 5) (hq0 : L q0 ≤ 5) (hb0 : rightF p0 q0 = false) (x1 y1 : Raw) (x2 y2 : Raw) : Spec Try.prog 16 [isRows 3 (fodd3_D_c p0 q0 x1 y1 x2 y2)] (VP.bool true) := by
  refine spec_ofP (xs := [.rows 3 (fodd3_D_c p0 q0 x1 y1 x2 y2)]) 37 [4] Try.func16 rfl Try.ntmps16 rfl fun w0 => ?_
  refine t_seq ?_
  refine t_region (F := ⟨_, _, _, _⟩) [.rows 0 3 (fodd3_D_c p0 q0 x1 y1 x2 y2)] [] [(0, .slot 2 (VP.bool false))] [] [0] [] rfl rfl follow rfl ⟨
    .inl ⟨wants_plain rfl, does_move _ (.inr rfl) rfl rfl rfl rfl (ar_const (fun _ => rfl))⟩,
    trivial⟩ ?_
  refine nx_sub (fs' := [.rows 0 3 (fodd3_D_c p0 q0 x1 y1 x2 y2), .slot 2 (VP.bool false)]) [0, 1] rfl ?_
  refine nx_then ?_
  refine t_seq ?_
  refine t_seq ?_
  refine t_region (F := ⟨_, _, _, _⟩) [.rows 0 3 (fodd3_D_c p0 q0 x1 y1 x2 y2), .slot 2 (VP.bool false)] [] [(0, .rows 5 3 (fodd3_D_c p0 q0 x1 y1 x2 y2)), (1, .slot 6 (VP.int .i64 ((3 : Nat) : Int))), (2, .slot 7 (VP.int .i64 0))] [] [0, 1] [] rfl rfl follow rfl ⟨
    .inl ⟨wants_plain rfl, does_moveRows _ (.inl rfl) rfl rfl rfl rfl rfl (av_fs 0 rfl)⟩,
    .inl ⟨wants_plain rfl, does_lenRows _ _ rfl (by kernel_rfl) rfl rfl rfl rfl rfl (av_rs 0 rfl rfl)⟩,
    .inl ⟨wants_plain rfl, does_move _ (.inl rfl) rfl rfl rfl rfl (ar_const (fun _ => rfl))⟩,
    trivial⟩ ?_
  refine nx_sub (fs' := [.slot 2 (VP.bool false), .rows 5 3 (fodd3_D_c p0 q0 x1 y1 x2 y2), .slot 6 (VP.int .i64 ((3 : Nat) : Int)), .slot 7 (VP.int .i64 0)]) [1, 2, 3, 4] rfl ?_
  refine nx_then ?_
  refine t_block ?_
  refine t_loop (σ := {k : Nat // k ≤ 0}) (fun s => [.rows 5 3 (fodd3_D_c p0 q0 x1 y1 x2 y2), .slot 6 (VP.int .i64 ((3 : Nat) : Int)), .slot 7 (VP.int .i64 ((s.1 : Nat) : Int))]) (fun s => 3 - s.1) (⟨0, by decide⟩) [1, 2, 3] rfl ?_
  intro s
  obtain ⟨k, hk⟩ := s
  rcases (show k = 0 ∨ False by omega) with rfl | hF
  case inr => exact hF.elim
  case inl =>
    refine t_seq ?_
    refine t_region (F := ⟨_, _, _, _⟩) [.rows 5 3 (fodd3_D_c p0 q0 x1 y1 x2 y2), .slot 6 (VP.int .i64 ((3 : Nat) : Int)), .slot 7 (VP.int .i64 ((0 : Nat) : Int))] [] [(0, .slot 8 (VP.bool (decide (((0 : Nat) : Int) < ((3 : Nat) : Int)))))] [] [0, 1, 2] [] rfl rfl follow rfl ⟨
      .inl ⟨wants_plain rfl, does_cmp (m := ((0 : Nat) : Int)) (n := ((3 : Nat) : Int)) _ _ _ _ _ rfl rfl rfl rfl rfl rfl .i64 (ar_tmp (av_fs 2 rfl)) (ar_tmp (av_fs 1 rfl))⟩,
      trivial⟩ ?_
    refine nx_sub (fs' := [.rows 5 3 (fodd3_D_c p0 q0 x1 y1 x2 y2), .slot 6 (VP.int .i64 ((3 : Nat) : Int)), .slot 7 (VP.int .i64 ((0 : Nat) : Int)), .slot 8 (VP.bool (decide (((0 : Nat) : Int) < ((3 : Nat) : Int))))]) [0, 1, 2, 3] rfl ?_
    refine nx_then ?_
    refine t_seq ?_
    refine t_cond_te 3 rfl rfl ?_
    refine t_skip ?_
    refine nx_then ?_
    refine t_seq ?_
    refine t_block ?_
    refine t_seq ?_
    refine t_region (F := ⟨_, _, _, _⟩) [.rows 5 3 (fodd3_D_c p0 q0 x1 y1 x2 y2), .slot 6 (VP.int .i64 ((3 : Nat) : Int)), .slot 7 (VP.int .i64 ((0 : Nat) : Int)), .slot 8 (VP.bool (decide (((0 : Nat) : Int) < ((3 : Nat) : Int))))] [] [(0, .rp 9 5 0), (1, .slot 10 (VP.agg [Bz p0, Dz p0, Bz q0, Dz q0])), (2, .own 4 26 4), (3, .box 4 26 [Bz p0, Dz p0, Bz q0, Dz q0])] [] [0, 1, 2, 3] [] rfl rfl follow rfl ⟨
      .inl ⟨wants_plain rfl, does_indexRows (m := 0) (sz := 4) _ _ rfl Try.underlying122 (fun w => run_sizeAgg ty_agg_api_Frac w) rfl rfl rfl rfl rfl rfl (by decide) rfl (av_fs 0 rfl) (ar_tmp (av_fs 2 rfl))⟩,
      .inl ⟨wants_plain rfl, does_loadRows _ rfl ty_agg_api_Frac rfl rfl rfl rfl rfl rfl rfl (av_rs 0 rfl rfl) (av_fs 0 rfl)⟩,
      .inl ⟨wants_plain rfl, does_allocOwn [Bz 0, Dz 0, Bz 0, Dz 0] ty_zero_api_Frac rfl rfl rfl rfl rfl z_frac rfl⟩,
      .inl ⟨wants_plain rfl, does_storeNew 4 _ _ ty_agg_api_Frac rfl rfl rfl rfl rfl (pt_own (av_rs 2 rfl rfl)) (av_rs 2 rfl rfl) (ar_tmp (av_rs 1 rfl rfl))⟩,
      trivial⟩ ?_
    refine nx_sub (fs' := [.rows 5 3 (fodd3_D_c p0 q0 x1 y1 x2 y2), .slot 6 (VP.int .i64 ((3 : Nat) : Int)), .slot 7 (VP.int .i64 ((0 : Nat) : Int)), .slot 8 (VP.bool (decide (((0 : Nat) : Int) < ((3 : Nat) : Int)))), .rp 9 5 0, .slot 10 (VP.agg [Bz p0, Dz p0, Bz q0, Dz q0]), .box 4 26 [Bz p0, Dz p0, Bz q0, Dz q0]]) [0, 1, 2, 3, 4, 5, 7] rfl ?_
    refine nx_then ?_
    refine t_seq ?_
    refine t_region (F := ⟨_, _, _, _⟩) [.rows 5 3 (fodd3_D_c p0 q0 x1 y1 x2 y2), .slot 6 (VP.int .i64 ((3 : Nat) : Int)), .slot 7 (VP.int .i64 ((0 : Nat) : Int)), .slot 8 (VP.bool (decide (((0 : Nat) : Int) < ((3 : Nat) : Int)))), .rp 9 5 0, .slot 10 (VP.agg [Bz p0, Dz p0, Bz q0, Dz q0]), .box 4 26 [Bz p0, Dz p0, Bz q0, Dz q0]] [] [(0, .fp 11 4 0), (1, .slot 12 (INT p0)), (2, .fp 13 4 2), (3, .slot 14 (INT q0)), (4, .arr 15 24 2 [Bz p0, Dz p0, Bz q0, Dz q0]), (5, .slot 16 (VP.bool false)), (6, .slot 17 (VP.bool false)), (7, .fp 18 4 0), (8, .fp 19 4 1), (9, .slot 20 (Dz p0)), (10, .slot 21 (VP.int .i64 (((dg BB p0.natAbs).length : Nat) : Int))), (11, .slot 22 (VP.bool (decide ((((dg BB p0.natAbs).length : Nat) : Int) > 5)))), (12, .slot 23 (VP.bool (decide ((((dg BB p0.natAbs).length : Nat) : Int) > 5)))), (13, .slot 24 (VP.bool (decide ((((dg BB p0.natAbs).length : Nat) : Int) > 5)))), (14, .fp 25 4 2), (15, .fp 26 4 3), (16, .slot 27 (Dz q0)), (17, .slot 28 (VP.int .i64 (((dg BB q0.natAbs).length : Nat) : Int))), (18, .slot 29 (VP.bool (decide ((((dg BB q0.natAbs).length : Nat) : Int) > 5)))), (19, .slot 30 (VP.bool (decide ((((dg BB q0.natAbs).length : Nat) : Int) > 5)))), (20, .slot 31 (VP.bool (decide ((((dg BB q0.natAbs).length : Nat) : Int) > 5)))), (21, .slot 32 (VP.agg [Bz p0, Dz p0, Bz q0, Dz q0])), (22, .slot 33 (VP.bool (rightF p0 q0))), (23, .slot 34 (VP.bool true)), (24, .slot 35 (VP.bool true))] [] [0, 1, 2, 3, 4, 5, 6] [] rfl rfl follow rfl ⟨
      .inl ⟨wants_plain rfl, does_field _ _ _ 0 ty_f0_api_Frac rfl rfl rfl rfl rfl rfl rfl (pt_box (av_fs 6 rfl))⟩,
      .inl ⟨wants_plain rfl, does_loadAgg _ ty_agg_api_Int rfl rfl rfl rfl rfl rfl (pt_fp (av_rs 0 rfl rfl)) (av_fs 6 rfl)⟩,
      .inl ⟨wants_plain rfl, does_field _ _ _ 2 ty_f1_api_Frac rfl rfl rfl rfl rfl rfl rfl (pt_box (av_fs 6 rfl))⟩,
      .inl ⟨wants_plain rfl, does_loadAgg _ ty_agg_api_Int rfl rfl rfl rfl rfl rfl (pt_fp (av_rs 2 rfl rfl)) (av_fs 6 rfl)⟩,
      .inl ⟨wants_plain rfl, does_buildSlice (sz := 2) [Bz 0, Dz 0, Bz 0, Dz 0] ty_zero_api_Int (by kernel_rfl) (fun w => run_sizeAgg ty_agg_api_Int w) rfl rfl rfl rfl rfl rfl (by kernel_rfl) (fun w => by exact z_int_2 w) (.cons 0 [Bz p0, Dz p0] rfl rfl (ar_cells_agg (ar_tmp (av_rs 1 rfl rfl))) (.cons 2 [Bz q0, Dz q0] rfl rfl (ar_cells_agg (ar_tmp (av_rs 3 rfl rfl))) (.nil _)))⟩,
      .inl ⟨wants_plain rfl, does_call (s_even2 p0 q0 (lle hp0 (by decide)) (lle hq0 (by decide))) rfl hb_collator_collatorlaw01_Odd rfl rfl rfl rfl ⟨(ar_arr (av_rs 4 rfl rfl)), trivial⟩⟩,
      .inl ⟨wants_plain rfl, does_move _ (.inl rfl) rfl rfl rfl rfl (ar_tmp (av_rs 5 rfl rfl))⟩,
      .inl ⟨wants_guard false rfl rfl rfl (av_rs 6 rfl rfl), does_field _ _ _ 0 ty_f0_api_Frac rfl rfl rfl rfl rfl rfl rfl (pt_box (av_fs 6 rfl))⟩,
      .inl ⟨wants_guard false rfl rfl rfl (av_rs 6 rfl rfl), does_field _ _ _ 1 ty_f1_api_Int rfl rfl rfl rfl rfl rfl rfl (pt_fp (av_rs 7 rfl rfl))⟩,
      .inl ⟨wants_guard false rfl rfl rfl (av_rs 6 rfl rfl), does_loadOne _ ty_one___uint32 rfl rfl rfl rfl rfl rfl (pt_fp (av_rs 8 rfl rfl)) (av_fs 6 rfl)⟩,
      .inl ⟨wants_guard false rfl rfl rfl (av_rs 6 rfl rfl), does_len _ _ (by kernel_rfl) rfl rfl rfl rfl rfl (ar_tmp (av_rs 9 rfl rfl))⟩,
      .inl ⟨wants_guard false rfl rfl rfl (av_rs 6 rfl rfl), does_cmp (m := (((dg BB p0.natAbs).length : Nat) : Int)) (n := 5) _ _ _ _ _ rfl rfl rfl rfl rfl rfl .i64 (ar_tmp (av_rs 10 rfl rfl)) (ar_const (fun _ => rfl))⟩,
      .inl ⟨wants_plain rfl, does_pick false _ _ _ rfl rfl rfl rfl rfl (ar_tmp (av_rs 6 rfl rfl)) (ar_tmp (av_rs 11 rfl rfl))⟩,
      .inl ⟨wants_plain rfl, does_move _ (.inl rfl) rfl rfl rfl rfl (ar_tmp (av_rs 12 rfl rfl))⟩,
      .inl ⟨wants_guard false rfl rfl rfl (av_bool (gt5_no hp0) (av_rs 13 rfl rfl)), does_field _ _ _ 2 ty_f1_api_Frac rfl rfl rfl rfl rfl rfl rfl (pt_box (av_fs 6 rfl))⟩,
      .inl ⟨wants_guard false rfl rfl rfl (av_bool (gt5_no hp0) (av_rs 13 rfl rfl)), does_field _ _ _ 1 ty_f1_api_Int rfl rfl rfl rfl rfl rfl rfl (pt_fp (av_rs 14 rfl rfl))⟩,
      .inl ⟨wants_guard false rfl rfl rfl (av_bool (gt5_no hp0) (av_rs 13 rfl rfl)), does_loadOne _ ty_one___uint32 rfl rfl rfl rfl rfl rfl (pt_fp (av_rs 15 rfl rfl)) (av_fs 6 rfl)⟩,
      .inl ⟨wants_guard false rfl rfl rfl (av_bool (gt5_no hp0) (av_rs 13 rfl rfl)), does_len _ _ (by kernel_rfl) rfl rfl rfl rfl rfl (ar_tmp (av_rs 16 rfl rfl))⟩,
      .inl ⟨wants_guard false rfl rfl rfl (av_bool (gt5_no hp0) (av_rs 13 rfl rfl)), does_cmp (m := (((dg BB q0.natAbs).length : Nat) : Int)) (n := 5) _ _ _ _ _ rfl rfl rfl rfl rfl rfl .i64 (ar_tmp (av_rs 17 rfl rfl)) (ar_const (fun _ => rfl))⟩,
      .inl ⟨wants_plain rfl, does_pick false _ _ _ rfl rfl rfl rfl rfl (ar_tmp (av_bool (gt5_no hp0) (av_rs 13 rfl rfl))) (ar_tmp (av_rs 18 rfl rfl))⟩,
      .inl ⟨wants_plain rfl, does_move _ (.inl rfl) rfl rfl rfl rfl (ar_tmp (av_rs 19 rfl rfl))⟩,
      .inl ⟨wants_guard false rfl rfl rfl (av_bool (gt5_no hq0) (av_rs 20 rfl rfl)), does_loadAgg _ ty_agg_api_Frac rfl rfl rfl rfl rfl rfl (pt_box (av_fs 6 rfl)) (av_fs 6 rfl)⟩,
      .inl ⟨wants_guard false rfl rfl rfl (av_bool (gt5_no hq0) (av_rs 20 rfl rfl)), does_call (g_right p0 q0 (lle hp0 (by decide)) (lle hq0 (by decide))) rfl hb_collator_collatorref02_Right rfl rfl rfl rfl ⟨(ar_tmp (av_rs 21 rfl rfl)), trivial⟩⟩,
      .inl ⟨wants_guard false rfl rfl rfl (av_bool (gt5_no hq0) (av_rs 20 rfl rfl)), does_not false _ _ rfl rfl rfl rfl rfl (ar_tmp (av_bool hb0 (av_rs 22 rfl rfl)))⟩,
      .inl ⟨wants_plain rfl, does_pick false _ _ _ rfl rfl rfl rfl rfl (ar_tmp (av_bool (gt5_no hq0) (av_rs 20 rfl rfl))) (ar_tmp (av_rs 23 rfl rfl))⟩,
      trivial⟩ ?_
    refine nx_sub (fs' := [.rows 5 3 (fodd3_D_c p0 q0 x1 y1 x2 y2), .slot 6 (VP.int .i64 ((3 : Nat) : Int)), .slot 7 (VP.int .i64 ((0 : Nat) : Int)), .slot 8 (VP.bool (decide (((0 : Nat) : Int) < ((3 : Nat) : Int)))), .rp 9 5 0, .slot 10 (VP.agg [Bz p0, Dz p0, Bz q0, Dz q0]), .box 4 26 [Bz p0, Dz p0, Bz q0, Dz q0], .fp 11 4 0, .slot 12 (INT p0), .fp 13 4 2, .slot 14 (INT q0), .arr 15 24 2 [Bz p0, Dz p0, Bz q0, Dz q0], .slot 16 (VP.bool false), .slot 17 (VP.bool false), .fp 18 4 0, .fp 19 4 1, .slot 20 (Dz p0), .slot 21 (VP.int .i64 (((dg BB p0.natAbs).length : Nat) : Int)), .slot 22 (VP.bool (decide ((((dg BB p0.natAbs).length : Nat) : Int) > 5))), .slot 23 (VP.bool (decide ((((dg BB p0.natAbs).length : Nat) : Int) > 5))), .slot 24 (VP.bool (decide ((((dg BB p0.natAbs).length : Nat) : Int) > 5))), .fp 25 4 2, .fp 26 4 3, .slot 27 (Dz q0), .slot 28 (VP.int .i64 (((dg BB q0.natAbs).length : Nat) : Int)), .slot 29 (VP.bool (decide ((((dg BB q0.natAbs).length : Nat) : Int) > 5))), .slot 30 (VP.bool (decide ((((dg BB q0.natAbs).length : Nat) : Int) > 5))), .slot 31 (VP.bool (decide ((((dg BB q0.natAbs).length : Nat) : Int) > 5))), .slot 32 (VP.agg [Bz p0, Dz p0, Bz q0, Dz q0]), .slot 33 (VP.bool (rightF p0 q0)), .slot 34 (VP.bool true), .slot 35 (VP.bool true)]) [0, 1, 2, 3, 4, 5, 6, 7, 8, 9, 10, 11, 12, 13, 14, 15, 16, 17, 18, 19, 20, 21, 22, 23, 24, 25, 26, 27, 28, 29, 30, 31] rfl ?_
    refine nx_then ?_
    refine t_cond_t 31 rfl ?_
    refine t_seq ?_
    refine t_region (F := ⟨_, _, _, _⟩) [.rows 5 3 (fodd3_D_c p0 q0 x1 y1 x2 y2), .slot 6 (VP.int .i64 ((3 : Nat) : Int)), .slot 7 (VP.int .i64 ((0 : Nat) : Int)), .slot 8 (VP.bool (decide (((0 : Nat) : Int) < ((3 : Nat) : Int)))), .rp 9 5 0, .slot 10 (VP.agg [Bz p0, Dz p0, Bz q0, Dz q0]), .box 4 26 [Bz p0, Dz p0, Bz q0, Dz q0], .fp 11 4 0, .slot 12 (INT p0), .fp 13 4 2, .slot 14 (INT q0), .arr 15 24 2 [Bz p0, Dz p0, Bz q0, Dz q0], .slot 16 (VP.bool false), .slot 17 (VP.bool false), .fp 18 4 0, .fp 19 4 1, .slot 20 (Dz p0), .slot 21 (VP.int .i64 (((dg BB p0.natAbs).length : Nat) : Int)), .slot 22 (VP.bool (decide ((((dg BB p0.natAbs).length : Nat) : Int) > 5))), .slot 23 (VP.bool (decide ((((dg BB p0.natAbs).length : Nat) : Int) > 5))), .slot 24 (VP.bool (decide ((((dg BB p0.natAbs).length : Nat) : Int) > 5))), .fp 25 4 2, .fp 26 4 3, .slot 27 (Dz q0), .slot 28 (VP.int .i64 (((dg BB q0.natAbs).length : Nat) : Int)), .slot 29 (VP.bool (decide ((((dg BB q0.natAbs).length : Nat) : Int) > 5))), .slot 30 (VP.bool (decide ((((dg BB q0.natAbs).length : Nat) : Int) > 5))), .slot 31 (VP.bool (decide ((((dg BB q0.natAbs).length : Nat) : Int) > 5))), .slot 32 (VP.agg [Bz p0, Dz p0, Bz q0, Dz q0]), .slot 33 (VP.bool (rightF p0 q0)), .slot 34 (VP.bool true), .slot 35 (VP.bool true)] [] [(0, .slot 2 (VP.bool true))] [] [0, 1, 2, 3, 4, 5, 6, 7, 8, 9, 10, 11, 12, 13, 14, 15, 16, 17, 18, 19, 20, 21, 22, 23, 24, 25, 26, 27, 28, 29, 30, 31] [] rfl rfl follow rfl ⟨
      .inl ⟨wants_plain rfl, does_move _ (.inr rfl) rfl rfl rfl rfl (ar_const (fun _ => rfl))⟩,
      trivial⟩ ?_
    refine nx_sub (fs' := [.rows 5 3 (fodd3_D_c p0 q0 x1 y1 x2 y2), .slot 6 (VP.int .i64 ((3 : Nat) : Int)), .slot 7 (VP.int .i64 ((0 : Nat) : Int)), .slot 8 (VP.bool (decide (((0 : Nat) : Int) < ((3 : Nat) : Int)))), .rp 9 5 0, .slot 10 (VP.agg [Bz p0, Dz p0, Bz q0, Dz q0]), .box 4 26 [Bz p0, Dz p0, Bz q0, Dz q0], .fp 11 4 0, .slot 12 (INT p0), .fp 13 4 2, .slot 14 (INT q0), .arr 15 24 2 [Bz p0, Dz p0, Bz q0, Dz q0], .slot 16 (VP.bool false), .slot 17 (VP.bool false), .fp 18 4 0, .fp 19 4 1, .slot 20 (Dz p0), .slot 21 (VP.int .i64 (((dg BB p0.natAbs).length : Nat) : Int)), .slot 22 (VP.bool (decide ((((dg BB p0.natAbs).length : Nat) : Int) > 5))), .slot 23 (VP.bool (decide ((((dg BB p0.natAbs).length : Nat) : Int) > 5))), .slot 24 (VP.bool (decide ((((dg BB p0.natAbs).length : Nat) : Int) > 5))), .fp 25 4 2, .fp 26 4 3, .slot 27 (Dz q0), .slot 28 (VP.int .i64 (((dg BB q0.natAbs).length : Nat) : Int)), .slot 29 (VP.bool (decide ((((dg BB q0.natAbs).length : Nat) : Int) > 5))), .slot 30 (VP.bool (decide ((((dg BB q0.natAbs).length : Nat) : Int) > 5))), .slot 31 (VP.bool (decide ((((dg BB q0.natAbs).length : Nat) : Int) > 5))), .slot 32 (VP.agg [Bz p0, Dz p0, Bz q0, Dz q0]), .slot 33 (VP.bool (rightF p0 q0)), .slot 34 (VP.bool true), .slot 35 (VP.bool true), .slot 2 (VP.bool true)]) [0, 1, 2, 3, 4, 5, 6, 7, 8, 9, 10, 11, 12, 13, 14, 15, 16, 17, 18, 19, 20, 21, 22, 23, 24, 25, 26, 27, 28, 29, 30, 31, 32] rfl ?_
    refine nx_then ?_
    refine t_ret ?_
    refine rt_block ?_
    refine rt_then ?_
    refine rt_then ?_
    refine rt_block ?_
    refine rt_then ?_
    exact rt_one rfl (res_tmp 32 rfl)
abbrev fodd3_EA_c (p0 q0 : Int) (x1 y1 : Raw) (x2 y2 : Raw) : List VP := [Bz p0, Dz p0, Bz q0, Dz q0, VP.bool x1.1, VP.nums .u32 x1.2, VP.bool y1.1, VP.nums .u32 y1.2, VP.bool x2.1, VP.nums .u32 x2.2, VP.bool y2.1, VP.nums .u32 y2.2]
set_option maxRecDepth 100000 in
set_option maxHeartbeats 4000000 in
theorem fodd3_EA (p0 q0 : Int) (hp0 : L p0 ≤ 5) (hq0 : L q0 ≤ 5) (hb0 : rightF p0 q0 = true) (x1 y1 : Raw) (hx1 : x1.ok) (hy1 : y1.ok) (ho : [x1, y1].any oddP = true) (x2 y2 : Raw) : Spec Try.prog 16 [isRows 3 (fodd3_EA_c p0 q0 x1 y1 x2 y2)] (VP.bool true) := by
  refine spec_ofP (xs := [.rows 3 (fodd3_EA_c p0 q0 x1 y1 x2 y2)]) 37 [4] Try.func16 rfl Try.ntmps16 rfl fun w0 => ?_
  refine t_seq ?_
  refine t_region (F := ⟨_, _, _, _⟩) [.rows 0 3 (fodd3_EA_c p0 q0 x1 y1 x2 y2)] [] [(0, .slot 2 (VP.bool false))] [] [0] [] rfl rfl follow rfl ⟨
    .inl ⟨wants_plain rfl, does_move _ (.inr rfl) rfl rfl rfl rfl (ar_const (fun _ => rfl))⟩,
    trivial⟩ ?_
  refine nx_sub (fs' := [.rows 0 3 (fodd3_EA_c p0 q0 x1 y1 x2 y2), .slot 2 (VP.bool false)]) [0, 1] rfl ?_
  refine nx_then ?_
  refine t_seq ?_
  refine t_seq ?_
  refine t_region (F := ⟨_, _, _, _⟩) [.rows 0 3 (fodd3_EA_c p0 q0 x1 y1 x2 y2), .slot 2 (VP.bool false)] [] [(0, .rows 5 3 (fodd3_EA_c p0 q0 x1 y1 x2 y2)), (1, .slot 6 (VP.int .i64 ((3 : Nat) : Int))), (2, .slot 7 (VP.int .i64 0))] [] [0, 1] [] rfl rfl follow rfl ⟨
    .inl ⟨wants_plain rfl, does_moveRows _ (.inl rfl) rfl rfl rfl rfl rfl (av_fs 0 rfl)⟩,
    .inl ⟨wants_plain rfl, does_lenRows _ _ rfl (by kernel_rfl) rfl rfl rfl rfl rfl (av_rs 0 rfl rfl)⟩,
    .inl ⟨wants_plain rfl, does_move _ (.inl rfl) rfl rfl rfl rfl (ar_const (fun _ => rfl))⟩,
    trivial⟩ ?_
  refine nx_sub (fs' := [.slot 2 (VP.bool false), .rows 5 3 (fodd3_EA_c p0 q0 x1 y1 x2 y2), .slot 6 (VP.int .i64 ((3 : Nat) : Int)), .slot 7 (VP.int .i64 0)]) [1, 2, 3, 4] rfl ?_
  refine nx_then ?_
  refine t_block ?_
  refine t_loop (σ := {k : Nat // k ≤ 1}) (fun s => [.rows 5 3 (fodd3_EA_c p0 q0 x1 y1 x2 y2), .slot 6 (VP.int .i64 ((3 : Nat) : Int)), .slot 7 (VP.int .i64 ((s.1 : Nat) : Int))]) (fun s => 3 - s.1) (⟨0, by decide⟩) [1, 2, 3] rfl ?_
  intro s
  obtain ⟨k, hk⟩ := s
  have hc : k = 0 ∨ k = 1 := by omega
  rcases hc with rfl | rfl
  case inl =>
    refine t_seq ?_
    refine t_region (F := ⟨_, _, _, _⟩) [.rows 5 3 (fodd3_EA_c p0 q0 x1 y1 x2 y2), .slot 6 (VP.int .i64 ((3 : Nat) : Int)), .slot 7 (VP.int .i64 ((0 : Nat) : Int))] [] [(0, .slot 8 (VP.bool (decide (((0 : Nat) : Int) < ((3 : Nat) : Int)))))] [] [0, 1, 2] [] rfl rfl follow rfl ⟨
      .inl ⟨wants_plain rfl, does_cmp (m := ((0 : Nat) : Int)) (n := ((3 : Nat) : Int)) _ _ _ _ _ rfl rfl rfl rfl rfl rfl .i64 (ar_tmp (av_fs 2 rfl)) (ar_tmp (av_fs 1 rfl))⟩,
      trivial⟩ ?_
    refine nx_sub (fs' := [.rows 5 3 (fodd3_EA_c p0 q0 x1 y1 x2 y2), .slot 6 (VP.int .i64 ((3 : Nat) : Int)), .slot 7 (VP.int .i64 ((0 : Nat) : Int)), .slot 8 (VP.bool (decide (((0 : Nat) : Int) < ((3 : Nat) : Int))))]) [0, 1, 2, 3] rfl ?_
    refine nx_then ?_
    refine t_seq ?_
    refine t_cond_te 3 rfl rfl ?_
    refine t_skip ?_
    refine nx_then ?_
    refine t_seq ?_
    refine t_block ?_
    refine t_seq ?_
    refine t_region (F := ⟨_, _, _, _⟩) [.rows 5 3 (fodd3_EA_c p0 q0 x1 y1 x2 y2), .slot 6 (VP.int .i64 ((3 : Nat) : Int)), .slot 7 (VP.int .i64 ((0 : Nat) : Int)), .slot 8 (VP.bool (decide (((0 : Nat) : Int) < ((3 : Nat) : Int))))] [] [(0, .rp 9 5 0), (1, .slot 10 (VP.agg [Bz p0, Dz p0, Bz q0, Dz q0])), (2, .own 4 26 4), (3, .box 4 26 [Bz p0, Dz p0, Bz q0, Dz q0])] [] [0, 1, 2, 3] [] rfl rfl follow rfl ⟨
      .inl ⟨wants_plain rfl, does_indexRows (m := 0) (sz := 4) _ _ rfl Try.underlying122 (fun w => run_sizeAgg ty_agg_api_Frac w) rfl rfl rfl rfl rfl rfl (by decide) rfl (av_fs 0 rfl) (ar_tmp (av_fs 2 rfl))⟩,
      .inl ⟨wants_plain rfl, does_loadRows _ rfl ty_agg_api_Frac rfl rfl rfl rfl rfl rfl rfl (av_rs 0 rfl rfl) (av_fs 0 rfl)⟩,
      .inl ⟨wants_plain rfl, does_allocOwn [Bz 0, Dz 0, Bz 0, Dz 0] ty_zero_api_Frac rfl rfl rfl rfl rfl z_frac rfl⟩,
      .inl ⟨wants_plain rfl, does_storeNew 4 _ _ ty_agg_api_Frac rfl rfl rfl rfl rfl (pt_own (av_rs 2 rfl rfl)) (av_rs 2 rfl rfl) (ar_tmp (av_rs 1 rfl rfl))⟩,
      trivial⟩ ?_
    refine nx_sub (fs' := [.rows 5 3 (fodd3_EA_c p0 q0 x1 y1 x2 y2), .slot 6 (VP.int .i64 ((3 : Nat) : Int)), .slot 7 (VP.int .i64 ((0 : Nat) : Int)), .slot 8 (VP.bool (decide (((0 : Nat) : Int) < ((3 : Nat) : Int)))), .rp 9 5 0, .slot 10 (VP.agg [Bz p0, Dz p0, Bz q0, Dz q0]), .box 4 26 [Bz p0, Dz p0, Bz q0, Dz q0]]) [0, 1, 2, 3, 4, 5, 7] rfl ?_
    refine nx_then ?_
    refine t_seq ?_
    refine t_region (F := ⟨_, _, _, _⟩) [.rows 5 3 (fodd3_EA_c p0 q0 x1 y1 x2 y2), .slot 6 (VP.int .i64 ((3 : Nat) : Int)), .slot 7 (VP.int .i64 ((0 : Nat) : Int)), .slot 8 (VP.bool (decide (((0 : Nat) : Int) < ((3 : Nat) : Int)))), .rp 9 5 0, .slot 10 (VP.agg [Bz p0, Dz p0, Bz q0, Dz q0]), .box 4 26 [Bz p0, Dz p0, Bz q0, Dz q0]] [] [(0, .fp 11 4 0), (1, .slot 12 (INT p0)), (2, .fp 13 4 2), (3, .slot 14 (INT q0)), (4, .arr 15 24 2 [Bz p0, Dz p0, Bz q0, Dz q0]), (5, .slot 16 (VP.bool false)), (6, .slot 17 (VP.bool false)), (7, .fp 18 4 0), (8, .fp 19 4 1), (9, .slot 20 (Dz p0)), (10, .slot 21 (VP.int .i64 (((dg BB p0.natAbs).length : Nat) : Int))), (11, .slot 22 (VP.bool (decide ((((dg BB p0.natAbs).length : Nat) : Int) > 5)))), (12, .slot 23 (VP.bool (decide ((((dg BB p0.natAbs).length : Nat) : Int) > 5)))), (13, .slot 24 (VP.bool (decide ((((dg BB p0.natAbs).length : Nat) : Int) > 5)))), (14, .fp 25 4 2), (15, .fp 26 4 3), (16, .slot 27 (Dz q0)), (17, .slot 28 (VP.int .i64 (((dg BB q0.natAbs).length : Nat) : Int))), (18, .slot 29 (VP.bool (decide ((((dg BB q0.natAbs).length : Nat) : Int) > 5)))), (19, .slot 30 (VP.bool (decide ((((dg BB q0.natAbs).length : Nat) : Int) > 5)))), (20, .slot 31 (VP.bool (decide ((((dg BB q0.natAbs).length : Nat) : Int) > 5)))), (21, .slot 32 (VP.agg [Bz p0, Dz p0, Bz q0, Dz q0])), (22, .slot 33 (VP.bool (rightF p0 q0))), (23, .slot 34 (VP.bool false)), (24, .slot 35 (VP.bool false))] [] [0, 1, 2, 3, 4, 5, 6] [] rfl rfl follow rfl ⟨
      .inl ⟨wants_plain rfl, does_field _ _ _ 0 ty_f0_api_Frac rfl rfl rfl rfl rfl rfl rfl (pt_box (av_fs 6 rfl))⟩,
      .inl ⟨wants_plain rfl, does_loadAgg _ ty_agg_api_Int rfl rfl rfl rfl rfl rfl (pt_fp (av_rs 0 rfl rfl)) (av_fs 6 rfl)⟩,
      .inl ⟨wants_plain rfl, does_field _ _ _ 2 ty_f1_api_Frac rfl rfl rfl rfl rfl rfl rfl (pt_box (av_fs 6 rfl))⟩,
      .inl ⟨wants_plain rfl, does_loadAgg _ ty_agg_api_Int rfl rfl rfl rfl rfl rfl (pt_fp (av_rs 2 rfl rfl)) (av_fs 6 rfl)⟩,
      .inl ⟨wants_plain rfl, does_buildSlice (sz := 2) [Bz 0, Dz 0, Bz 0, Dz 0] ty_zero_api_Int (by kernel_rfl) (fun w => run_sizeAgg ty_agg_api_Int w) rfl rfl rfl rfl rfl rfl (by kernel_rfl) (fun w => by exact z_int_2 w) (.cons 0 [Bz p0, Dz p0] rfl rfl (ar_cells_agg (ar_tmp (av_rs 1 rfl rfl))) (.cons 2 [Bz q0, Dz q0] rfl rfl (ar_cells_agg (ar_tmp (av_rs 3 rfl rfl))) (.nil _)))⟩,
      .inl ⟨wants_plain rfl, does_call (s_even2 p0 q0 (lle hp0 (by decide)) (lle hq0 (by decide))) rfl hb_collator_collatorlaw01_Odd rfl rfl rfl rfl ⟨(ar_arr (av_rs 4 rfl rfl)), trivial⟩⟩,
      .inl ⟨wants_plain rfl, does_move _ (.inl rfl) rfl rfl rfl rfl (ar_tmp (av_rs 5 rfl rfl))⟩,
      .inl ⟨wants_guard false rfl rfl rfl (av_rs 6 rfl rfl), does_field _ _ _ 0 ty_f0_api_Frac rfl rfl rfl rfl rfl rfl rfl (pt_box (av_fs 6 rfl))⟩,
      .inl ⟨wants_guard false rfl rfl rfl (av_rs 6 rfl rfl), does_field _ _ _ 1 ty_f1_api_Int rfl rfl rfl rfl rfl rfl rfl (pt_fp (av_rs 7 rfl rfl))⟩,
      .inl ⟨wants_guard false rfl rfl rfl (av_rs 6 rfl rfl), does_loadOne _ ty_one___uint32 rfl rfl rfl rfl rfl rfl (pt_fp (av_rs 8 rfl rfl)) (av_fs 6 rfl)⟩,
      .inl ⟨wants_guard false rfl rfl rfl (av_rs 6 rfl rfl), does_len _ _ (by kernel_rfl) rfl rfl rfl rfl rfl (ar_tmp (av_rs 9 rfl rfl))⟩,
      .inl ⟨wants_guard false rfl rfl rfl (av_rs 6 rfl rfl), does_cmp (m := (((dg BB p0.natAbs).length : Nat) : Int)) (n := 5) _ _ _ _ _ rfl rfl rfl rfl rfl rfl .i64 (ar_tmp (av_rs 10 rfl rfl)) (ar_const (fun _ => rfl))⟩,
      .inl ⟨wants_plain rfl, does_pick false _ _ _ rfl rfl rfl rfl rfl (ar_tmp (av_rs 6 rfl rfl)) (ar_tmp (av_rs 11 rfl rfl))⟩,
      .inl ⟨wants_plain rfl, does_move _ (.inl rfl) rfl rfl rfl rfl (ar_tmp (av_rs 12 rfl rfl))⟩,
      .inl ⟨wants_guard false rfl rfl rfl (av_bool (gt5_no hp0) (av_rs 13 rfl rfl)), does_field _ _ _ 2 ty_f1_api_Frac rfl rfl rfl rfl rfl rfl rfl (pt_box (av_fs 6 rfl))⟩,
      .inl ⟨wants_guard false rfl rfl rfl (av_bool (gt5_no hp0) (av_rs 13 rfl rfl)), does_field _ _ _ 1 ty_f1_api_Int rfl rfl rfl rfl rfl rfl rfl (pt_fp (av_rs 14 rfl rfl))⟩,
      .inl ⟨wants_guard false rfl rfl rfl (av_bool (gt5_no hp0) (av_rs 13 rfl rfl)), does_loadOne _ ty_one___uint32 rfl rfl rfl rfl rfl rfl (pt_fp (av_rs 15 rfl rfl)) (av_fs 6 rfl)⟩,
      .inl ⟨wants_guard false rfl rfl rfl (av_bool (gt5_no hp0) (av_rs 13 rfl rfl)), does_len _ _ (by kernel_rfl) rfl rfl rfl rfl rfl (ar_tmp (av_rs 16 rfl rfl))⟩,
      .inl ⟨wants_guard false rfl rfl rfl (av_bool (gt5_no hp0) (av_rs 13 rfl rfl)), does_cmp (m := (((dg BB q0.natAbs).length : Nat) : Int)) (n := 5) _ _ _ _ _ rfl rfl rfl rfl rfl rfl .i64 (ar_tmp (av_rs 17 rfl rfl)) (ar_const (fun _ => rfl))⟩,
      .inl ⟨wants_plain rfl, does_pick false _ _ _ rfl rfl rfl rfl rfl (ar_tmp (av_bool (gt5_no hp0) (av_rs 13 rfl rfl))) (ar_tmp (av_rs 18 rfl rfl))⟩,
      .inl ⟨wants_plain rfl, does_move _ (.inl rfl) rfl rfl rfl rfl (ar_tmp (av_rs 19 rfl rfl))⟩,
      .inl ⟨wants_guard false rfl rfl rfl (av_bool (gt5_no hq0) (av_rs 20 rfl rfl)), does_loadAgg _ ty_agg_api_Frac rfl rfl rfl rfl rfl rfl (pt_box (av_fs 6 rfl)) (av_fs 6 rfl)⟩,
      .inl ⟨wants_guard false rfl rfl rfl (av_bool (gt5_no hq0) (av_rs 20 rfl rfl)), does_call (g_right p0 q0 (lle hp0 (by decide)) (lle hq0 (by decide))) rfl hb_collator_collatorref02_Right rfl rfl rfl rfl ⟨(ar_tmp (av_rs 21 rfl rfl)), trivial⟩⟩,
      .inl ⟨wants_guard false rfl rfl rfl (av_bool (gt5_no hq0) (av_rs 20 rfl rfl)), does_not true _ _ rfl rfl rfl rfl rfl (ar_tmp (av_bool hb0 (av_rs 22 rfl rfl)))⟩,
      .inl ⟨wants_plain rfl, does_pick false _ _ _ rfl rfl rfl rfl rfl (ar_tmp (av_bool (gt5_no hq0) (av_rs 20 rfl rfl))) (ar_tmp (av_rs 23 rfl rfl))⟩,
      trivial⟩ ?_
    refine nx_sub (fs' := [.rows 5 3 (fodd3_EA_c p0 q0 x1 y1 x2 y2), .slot 6 (VP.int .i64 ((3 : Nat) : Int)), .slot 7 (VP.int .i64 ((0 : Nat) : Int)), .slot 8 (VP.bool (decide (((0 : Nat) : Int) < ((3 : Nat) : Int)))), .rp 9 5 0, .slot 10 (VP.agg [Bz p0, Dz p0, Bz q0, Dz q0]), .box 4 26 [Bz p0, Dz p0, Bz q0, Dz q0], .fp 11 4 0, .slot 12 (INT p0), .fp 13 4 2, .slot 14 (INT q0), .arr 15 24 2 [Bz p0, Dz p0, Bz q0, Dz q0], .slot 16 (VP.bool false), .slot 17 (VP.bool false), .fp 18 4 0, .fp 19 4 1, .slot 20 (Dz p0), .slot 21 (VP.int .i64 (((dg BB p0.natAbs).length : Nat) : Int)), .slot 22 (VP.bool (decide ((((dg BB p0.natAbs).length : Nat) : Int) > 5))), .slot 23 (VP.bool (decide ((((dg BB p0.natAbs).length : Nat) : Int) > 5))), .slot 24 (VP.bool (decide ((((dg BB p0.natAbs).length : Nat) : Int) > 5))), .fp 25 4 2, .fp 26 4 3, .slot 27 (Dz q0), .slot 28 (VP.int .i64 (((dg BB q0.natAbs).length : Nat) : Int)), .slot 29 (VP.bool (decide ((((dg BB q0.natAbs).length : Nat) : Int) > 5))), .slot 30 (VP.bool (decide ((((dg BB q0.natAbs).length : Nat) : Int) > 5))), .slot 31 (VP.bool (decide ((((dg BB q0.natAbs).length : Nat) : Int) > 5))), .slot 32 (VP.agg [Bz p0, Dz p0, Bz q0, Dz q0]), .slot 33 (VP.bool (rightF p0 q0)), .slot 34 (VP.bool false), .slot 35 (VP.bool false)]) [0, 1, 2, 3, 4, 5, 6, 7, 8, 9, 10, 11, 12, 13, 14, 15, 16, 17, 18, 19, 20, 21, 22, 23, 24, 25, 26, 27, 28, 29, 30, 31] rfl ?_
    refine nx_then ?_
    refine t_cond_f 31 rfl ?_
    refine t_skip ?_
    refine nx_block ?_
    refine nx_then ?_
    refine t_region (F := ⟨_, _, _, _⟩) [.rows 5 3 (fodd3_EA_c p0 q0 x1 y1 x2 y2), .slot 6 (VP.int .i64 ((3 : Nat) : Int)), .slot 8 (VP.bool (decide (((0 : Nat) : Int) < ((3 : Nat) : Int)))), .rp 9 5 0, .slot 10 (VP.agg [Bz p0, Dz p0, Bz q0, Dz q0]), .box 4 26 [Bz p0, Dz p0, Bz q0, Dz q0], .fp 11 4 0, .slot 12 (INT p0), .fp 13 4 2, .slot 14 (INT q0), .arr 15 24 2 [Bz p0, Dz p0, Bz q0, Dz q0], .slot 16 (VP.bool false), .slot 17 (VP.bool false), .fp 18 4 0, .fp 19 4 1, .slot 20 (Dz p0), .slot 21 (VP.int .i64 (((dg BB p0.natAbs).length : Nat) : Int)), .slot 22 (VP.bool (decide ((((dg BB p0.natAbs).length : Nat) : Int) > 5))), .slot 23 (VP.bool (decide ((((dg BB p0.natAbs).length : Nat) : Int) > 5))), .slot 24 (VP.bool (decide ((((dg BB p0.natAbs).length : Nat) : Int) > 5))), .fp 25 4 2, .fp 26 4 3, .slot 27 (Dz q0), .slot 28 (VP.int .i64 (((dg BB q0.natAbs).length : Nat) : Int)), .slot 29 (VP.bool (decide ((((dg BB q0.natAbs).length : Nat) : Int) > 5))), .slot 30 (VP.bool (decide ((((dg BB q0.natAbs).length : Nat) : Int) > 5))), .slot 31 (VP.bool (decide ((((dg BB q0.natAbs).length : Nat) : Int) > 5))), .slot 32 (VP.agg [Bz p0, Dz p0, Bz q0, Dz q0]), .slot 33 (VP.bool (rightF p0 q0)), .slot 34 (VP.bool false), .slot 35 (VP.bool false)] [(1, .slot 7 (VP.int .i64 ((0 : Nat) : Int)))] [(0, .slot 36 (VP.int .i64 ((1 : Nat) : Int))), (1, .slot 7 (VP.int .i64 ((1 : Nat) : Int)))] [] [0, 1, 3, 4, 5, 6, 7, 8, 9, 10, 11, 12, 13, 14, 15, 16, 17, 18, 19, 20, 21, 22, 23, 24, 25, 26, 27, 28, 29, 30, 31] [2] rfl rfl follow rfl ⟨
      .inl ⟨wants_plain rfl, does_addInt (m := ((0 : Nat) : Int)) (n := 1) _ _ _ _ rfl rfl rfl rfl rfl (by omega) (ar_tmp (av_os 0 rfl rfl)) (ar_const (fun _ => rfl))⟩,
      .inl ⟨wants_plain rfl, does_move _ (.inl rfl) rfl rfl rfl rfl (ar_tmp (av_rs 0 rfl rfl))⟩,
      trivial⟩ ?_
    refine nx_sub (fs' := [.rows 5 3 (fodd3_EA_c p0 q0 x1 y1 x2 y2), .slot 6 (VP.int .i64 ((3 : Nat) : Int)), .slot 8 (VP.bool (decide (((0 : Nat) : Int) < ((3 : Nat) : Int)))), .rp 9 5 0, .slot 10 (VP.agg [Bz p0, Dz p0, Bz q0, Dz q0]), .box 4 26 [Bz p0, Dz p0, Bz q0, Dz q0], .fp 11 4 0, .slot 12 (INT p0), .fp 13 4 2, .slot 14 (INT q0), .arr 15 24 2 [Bz p0, Dz p0, Bz q0, Dz q0], .slot 16 (VP.bool false), .slot 17 (VP.bool false), .fp 18 4 0, .fp 19 4 1, .slot 20 (Dz p0), .slot 21 (VP.int .i64 (((dg BB p0.natAbs).length : Nat) : Int)), .slot 22 (VP.bool (decide ((((dg BB p0.natAbs).length : Nat) : Int) > 5))), .slot 23 (VP.bool (decide ((((dg BB p0.natAbs).length : Nat) : Int) > 5))), .slot 24 (VP.bool (decide ((((dg BB p0.natAbs).length : Nat) : Int) > 5))), .fp 25 4 2, .fp 26 4 3, .slot 27 (Dz q0), .slot 28 (VP.int .i64 (((dg BB q0.natAbs).length : Nat) : Int)), .slot 29 (VP.bool (decide ((((dg BB q0.natAbs).length : Nat) : Int) > 5))), .slot 30 (VP.bool (decide ((((dg BB q0.natAbs).length : Nat) : Int) > 5))), .slot 31 (VP.bool (decide ((((dg BB q0.natAbs).length : Nat) : Int) > 5))), .slot 32 (VP.agg [Bz p0, Dz p0, Bz q0, Dz q0]), .slot 33 (VP.bool (rightF p0 q0)), .slot 34 (VP.bool false), .slot 35 (VP.bool false), .slot 36 (VP.int .i64 ((1 : Nat) : Int)), .slot 7 (VP.int .i64 ((1 : Nat) : Int))]) [0, 1, 2, 3, 4, 5, 6, 7, 8, 9, 10, 11, 12, 13, 14, 15, 16, 17, 18, 19, 20, 21, 22, 23, 24, 25, 26, 27, 28, 29, 30, 31, 32] rfl ?_
    exact nx_round ⟨1, by decide⟩ (by show 3 - 1 < 3 - 0; decide) [0, 1, 32] rfl
  case inr =>
    refine t_seq ?_
    refine t_region (F := ⟨_, _, _, _⟩) [.rows 5 3 (fodd3_EA_c p0 q0 x1 y1 x2 y2), .slot 6 (VP.int .i64 ((3 : Nat) : Int)), .slot 7 (VP.int .i64 ((1 : Nat) : Int))] [] [(0, .slot 8 (VP.bool (decide (((1 : Nat) : Int) < ((3 : Nat) : Int)))))] [] [0, 1, 2] [] rfl rfl follow rfl ⟨
      .inl ⟨wants_plain rfl, does_cmp (m := ((1 : Nat) : Int)) (n := ((3 : Nat) : Int)) _ _ _ _ _ rfl rfl rfl rfl rfl rfl .i64 (ar_tmp (av_fs 2 rfl)) (ar_tmp (av_fs 1 rfl))⟩,
      trivial⟩ ?_
    refine nx_sub (fs' := [.rows 5 3 (fodd3_EA_c p0 q0 x1 y1 x2 y2), .slot 6 (VP.int .i64 ((3 : Nat) : Int)), .slot 7 (VP.int .i64 ((1 : Nat) : Int)), .slot 8 (VP.bool (decide (((1 : Nat) : Int) < ((3 : Nat) : Int))))]) [0, 1, 2, 3] rfl ?_
    refine nx_then ?_
    refine t_seq ?_
    refine t_cond_te 3 rfl rfl ?_
    refine t_skip ?_
    refine nx_then ?_
    refine t_seq ?_
    refine t_block ?_
    refine t_seq ?_
    refine t_region (F := ⟨_, _, _, _⟩) [.rows 5 3 (fodd3_EA_c p0 q0 x1 y1 x2 y2), .slot 6 (VP.int .i64 ((3 : Nat) : Int)), .slot 7 (VP.int .i64 ((1 : Nat) : Int)), .slot 8 (VP.bool (decide (((1 : Nat) : Int) < ((3 : Nat) : Int))))] [] [(0, .rp 9 5 4), (1, .slot 10 (VP.agg [VP.bool x1.1, VP.nums .u32 x1.2, VP.bool y1.1, VP.nums .u32 y1.2])), (2, .own 4 26 4), (3, .box 4 26 [VP.bool x1.1, VP.nums .u32 x1.2, VP.bool y1.1, VP.nums .u32 y1.2])] [] [0, 1, 2, 3] [] rfl rfl follow rfl ⟨
      .inl ⟨wants_plain rfl, does_indexRows (m := 1) (sz := 4) _ _ rfl Try.underlying122 (fun w => run_sizeAgg ty_agg_api_Frac w) rfl rfl rfl rfl rfl rfl (by decide) rfl (av_fs 0 rfl) (ar_tmp (av_fs 2 rfl))⟩,
      .inl ⟨wants_plain rfl, does_loadRows _ rfl ty_agg_api_Frac rfl rfl rfl rfl rfl rfl rfl (av_rs 0 rfl rfl) (av_fs 0 rfl)⟩,
      .inl ⟨wants_plain rfl, does_allocOwn [Bz 0, Dz 0, Bz 0, Dz 0] ty_zero_api_Frac rfl rfl rfl rfl rfl z_frac rfl⟩,
      .inl ⟨wants_plain rfl, does_storeNew 4 _ _ ty_agg_api_Frac rfl rfl rfl rfl rfl (pt_own (av_rs 2 rfl rfl)) (av_rs 2 rfl rfl) (ar_tmp (av_rs 1 rfl rfl))⟩,
      trivial⟩ ?_
    refine nx_sub (fs' := [.rows 5 3 (fodd3_EA_c p0 q0 x1 y1 x2 y2), .slot 6 (VP.int .i64 ((3 : Nat) : Int)), .slot 7 (VP.int .i64 ((1 : Nat) : Int)), .slot 8 (VP.bool (decide (((1 : Nat) : Int) < ((3 : Nat) : Int)))), .rp 9 5 4, .slot 10 (VP.agg [VP.bool x1.1, VP.nums .u32 x1.2, VP.bool y1.1, VP.nums .u32 y1.2]), .box 4 26 [VP.bool x1.1, VP.nums .u32 x1.2, VP.bool y1.1, VP.nums .u32 y1.2]]) [0, 1, 2, 3, 4, 5, 7] rfl ?_
    refine nx_then ?_
    refine t_seq ?_
    refine t_region (F := ⟨_, _, _, _⟩) [.rows 5 3 (fodd3_EA_c p0 q0 x1 y1 x2 y2), .slot 6 (VP.int .i64 ((3 : Nat) : Int)), .slot 7 (VP.int .i64 ((1 : Nat) : Int)), .slot 8 (VP.bool (decide (((1 : Nat) : Int) < ((3 : Nat) : Int)))), .rp 9 5 4, .slot 10 (VP.agg [VP.bool x1.1, VP.nums .u32 x1.2, VP.bool y1.1, VP.nums .u32 y1.2]), .box 4 26 [VP.bool x1.1, VP.nums .u32 x1.2, VP.bool y1.1, VP.nums .u32 y1.2]] [] [(0, .fp 11 4 0), (1, .slot 12 (VP.agg [VP.bool x1.1, VP.nums .u32 x1.2])), (2, .fp 13 4 2), (3, .slot 14 (VP.agg [VP.bool y1.1, VP.nums .u32 y1.2])), (4, .arr 15 24 2 [VP.bool x1.1, VP.nums .u32 x1.2, VP.bool y1.1, VP.nums .u32 y1.2]), (5, .slot 16 (VP.bool true)), (6, .slot 17 (VP.bool true)), (7, .slot 18 (VP.undef)), (8, .slot 19 (VP.undef)), (9, .slot 20 (VP.undef)), (10, .slot 21 (VP.undef)), (11, .slot 22 (VP.undef)), (12, .slot 23 (VP.bool true)), (13, .slot 24 (VP.bool true)), (14, .slot 25 (VP.undef)), (15, .slot 26 (VP.undef)), (16, .slot 27 (VP.undef)), (17, .slot 28 (VP.undef)), (18, .slot 29 (VP.undef)), (19, .slot 30 (VP.bool true)), (20, .slot 31 (VP.bool true)), (21, .slot 32 (VP.undef)), (22, .slot 33 (VP.undef)), (23, .slot 34 (VP.undef)), (24, .slot 35 (VP.bool true))] [] [0, 1, 2, 3, 4, 5, 6] [] rfl rfl follow rfl ⟨
      .inl ⟨wants_plain rfl, does_field _ _ _ 0 ty_f0_api_Frac rfl rfl rfl rfl rfl rfl rfl (pt_box (av_fs 6 rfl))⟩,
      .inl ⟨wants_plain rfl, does_loadAgg _ ty_agg_api_Int rfl rfl rfl rfl rfl rfl (pt_fp (av_rs 0 rfl rfl)) (av_fs 6 rfl)⟩,
      .inl ⟨wants_plain rfl, does_field _ _ _ 2 ty_f1_api_Frac rfl rfl rfl rfl rfl rfl rfl (pt_box (av_fs 6 rfl))⟩,
      .inl ⟨wants_plain rfl, does_loadAgg _ ty_agg_api_Int rfl rfl rfl rfl rfl rfl (pt_fp (av_rs 2 rfl rfl)) (av_fs 6 rfl)⟩,
      .inl ⟨wants_plain rfl, does_buildSlice (sz := 2) [Bz 0, Dz 0, Bz 0, Dz 0] ty_zero_api_Int (by kernel_rfl) (fun w => run_sizeAgg ty_agg_api_Int w) rfl rfl rfl rfl rfl rfl (by kernel_rfl) (fun w => by exact z_int_2 w) (.cons 0 [VP.bool x1.1, VP.nums .u32 x1.2] rfl rfl (ar_cells_agg (ar_tmp (av_rs 1 rfl rfl))) (.cons 2 [VP.bool y1.1, VP.nums .u32 y1.2] rfl rfl (ar_cells_agg (ar_tmp (av_rs 3 rfl rfl))) (.nil _)))⟩,
      .inl ⟨wants_plain rfl, does_call (s_odd2 x1 y1 hx1 hy1 ho) rfl hb_collator_collatorlaw01_Odd rfl rfl rfl rfl ⟨(ar_arr (av_rs 4 rfl rfl)), trivial⟩⟩,
      .inl ⟨wants_plain rfl, does_move _ (.inl rfl) rfl rfl rfl rfl (ar_tmp (av_rs 5 rfl rfl))⟩,
      .inr (skips_guardU true rfl rfl rfl (av_rs 6 rfl rfl) rfl rfl rfl rfl),
      .inr (skips_guardU true rfl rfl rfl (av_rs 6 rfl rfl) rfl rfl rfl rfl),
      .inr (skips_guardU true rfl rfl rfl (av_rs 6 rfl rfl) rfl rfl rfl rfl),
      .inr (skips_guardU true rfl rfl rfl (av_rs 6 rfl rfl) rfl rfl rfl rfl),
      .inr (skips_guardU true rfl rfl rfl (av_rs 6 rfl rfl) rfl rfl rfl rfl),
      .inl ⟨wants_plain rfl, does_pick true _ _ _ rfl rfl rfl rfl rfl (ar_tmp (av_rs 6 rfl rfl)) (ar_const (fun _ => rfl))⟩,
      .inl ⟨wants_plain rfl, does_move _ (.inl rfl) rfl rfl rfl rfl (ar_tmp (av_rs 12 rfl rfl))⟩,
      .inr (skips_guardU true rfl rfl rfl (av_rs 13 rfl rfl) rfl rfl rfl rfl),
      .inr (skips_guardU true rfl rfl rfl (av_rs 13 rfl rfl) rfl rfl rfl rfl),
      .inr (skips_guardU true rfl rfl rfl (av_rs 13 rfl rfl) rfl rfl rfl rfl),
      .inr (skips_guardU true rfl rfl rfl (av_rs 13 rfl rfl) rfl rfl rfl rfl),
      .inr (skips_guardU true rfl rfl rfl (av_rs 13 rfl rfl) rfl rfl rfl rfl),
      .inl ⟨wants_plain rfl, does_pick true _ _ _ rfl rfl rfl rfl rfl (ar_tmp (av_rs 13 rfl rfl)) (ar_const (fun _ => rfl))⟩,
      .inl ⟨wants_plain rfl, does_move _ (.inl rfl) rfl rfl rfl rfl (ar_tmp (av_rs 19 rfl rfl))⟩,
      .inr (skips_guardU true rfl rfl rfl (av_rs 20 rfl rfl) rfl rfl rfl rfl),
      .inr (skips_guardU true rfl rfl rfl (av_rs 20 rfl rfl) rfl rfl rfl rfl),
      .inr (skips_guardU true rfl rfl rfl (av_rs 20 rfl rfl) rfl rfl rfl rfl),
      .inl ⟨wants_plain rfl, does_pick true _ _ _ rfl rfl rfl rfl rfl (ar_tmp (av_rs 20 rfl rfl)) (ar_const (fun _ => rfl))⟩,
      trivial⟩ ?_
    refine nx_sub (fs' := [.rows 5 3 (fodd3_EA_c p0 q0 x1 y1 x2 y2), .slot 6 (VP.int .i64 ((3 : Nat) : Int)), .slot 7 (VP.int .i64 ((1 : Nat) : Int)), .slot 8 (VP.bool (decide (((1 : Nat) : Int) < ((3 : Nat) : Int)))), .rp 9 5 4, .slot 10 (VP.agg [VP.bool x1.1, VP.nums .u32 x1.2, VP.bool y1.1, VP.nums .u32 y1.2]), .box 4 26 [VP.bool x1.1, VP.nums .u32 x1.2, VP.bool y1.1, VP.nums .u32 y1.2], .fp 11 4 0, .slot 12 (VP.agg [VP.bool x1.1, VP.nums .u32 x1.2]), .fp 13 4 2, .slot 14 (VP.agg [VP.bool y1.1, VP.nums .u32 y1.2]), .arr 15 24 2 [VP.bool x1.1, VP.nums .u32 x1.2, VP.bool y1.1, VP.nums .u32 y1.2], .slot 16 (VP.bool true), .slot 17 (VP.bool true), .slot 18 (VP.undef), .slot 19 (VP.undef), .slot 20 (VP.undef), .slot 21 (VP.undef), .slot 22 (VP.undef), .slot 23 (VP.bool true), .slot 24 (VP.bool true), .slot 25 (VP.undef), .slot 26 (VP.undef), .slot 27 (VP.undef), .slot 28 (VP.undef), .slot 29 (VP.undef), .slot 30 (VP.bool true), .slot 31 (VP.bool true), .slot 32 (VP.undef), .slot 33 (VP.undef), .slot 34 (VP.undef), .slot 35 (VP.bool true)]) [0, 1, 2, 3, 4, 5, 6, 7, 8, 9, 10, 11, 12, 13, 14, 15, 16, 17, 18, 19, 20, 21, 22, 23, 24, 25, 26, 27, 28, 29, 30, 31] rfl ?_
    refine nx_then ?_
    refine t_cond_t 31 rfl ?_
    refine t_seq ?_
    refine t_region (F := ⟨_, _, _, _⟩) [.rows 5 3 (fodd3_EA_c p0 q0 x1 y1 x2 y2), .slot 6 (VP.int .i64 ((3 : Nat) : Int)), .slot 7 (VP.int .i64 ((1 : Nat) : Int)), .slot 8 (VP.bool (decide (((1 : Nat) : Int) < ((3 : Nat) : Int)))), .rp 9 5 4, .slot 10 (VP.agg [VP.bool x1.1, VP.nums .u32 x1.2, VP.bool y1.1, VP.nums .u32 y1.2]), .box 4 26 [VP.bool x1.1, VP.nums .u32 x1.2, VP.bool y1.1, VP.nums .u32 y1.2], .fp 11 4 0, .slot 12 (VP.agg [VP.bool x1.1, VP.nums .u32 x1.2]), .fp 13 4 2, .slot 14 (VP.agg [VP.bool y1.1, VP.nums .u32 y1.2]), .arr 15 24 2 [VP.bool x1.1, VP.nums .u32 x1.2, VP.bool y1.1, VP.nums .u32 y1.2], .slot 16 (VP.bool true), .slot 17 (VP.bool true), .slot 18 (VP.undef), .slot 19 (VP.undef), .slot 20 (VP.undef), .slot 21 (VP.undef), .slot 22 (VP.undef), .slot 23 (VP.bool true), .slot 24 (VP.bool true), .slot 25 (VP.undef), .slot 26 (VP.undef), .slot 27 (VP.undef), .slot 28 (VP.undef), .slot 29 (VP.undef), .slot 30 (VP.bool true), .slot 31 (VP.bool true), .slot 32 (VP.undef), .slot 33 (VP.undef), .slot 34 (VP.undef), .slot 35 (VP.bool true)] [] [(0, .slot 2 (VP.bool true))] [] [0, 1, 2, 3, 4, 5, 6, 7, 8, 9, 10, 11, 12, 13, 14, 15, 16, 17, 18, 19, 20, 21, 22, 23, 24, 25, 26, 27, 28, 29, 30, 31] [] rfl rfl follow rfl ⟨
      .inl ⟨wants_plain rfl, does_move _ (.inr rfl) rfl rfl rfl rfl (ar_const (fun _ => rfl))⟩,
      trivial⟩ ?_
    refine nx_sub (fs' := [.rows 5 3 (fodd3_EA_c p0 q0 x1 y1 x2 y2), .slot 6 (VP.int .i64 ((3 : Nat) : Int)), .slot 7 (VP.int .i64 ((1 : Nat) : Int)), .slot 8 (VP.bool (decide (((1 : Nat) : Int) < ((3 : Nat) : Int)))), .rp 9 5 4, .slot 10 (VP.agg [VP.bool x1.1, VP.nums .u32 x1.2, VP.bool y1.1, VP.nums .u32 y1.2]), .box 4 26 [VP.bool x1.1, VP.nums .u32 x1.2, VP.bool y1.1, VP.nums .u32 y1.2], .fp 11 4 0, .slot 12 (VP.agg [VP.bool x1.1, VP.nums .u32 x1.2]), .fp 13 4 2, .slot 14 (VP.agg [VP.bool y1.1, VP.nums .u32 y1.2]), .arr 15 24 2 [VP.bool x1.1, VP.nums .u32 x1.2, VP.bool y1.1, VP.nums .u32 y1.2], .slot 16 (VP.bool true), .slot 17 (VP.bool true), .slot 18 (VP.undef), .slot 19 (VP.undef), .slot 20 (VP.undef), .slot 21 (VP.undef), .slot 22 (VP.undef), .slot 23 (VP.bool true), .slot 24 (VP.bool true), .slot 25 (VP.undef), .slot 26 (VP.undef), .slot 27 (VP.undef), .slot 28 (VP.undef), .slot 29 (VP.undef), .slot 30 (VP.bool true), .slot 31 (VP.bool true), .slot 32 (VP.undef), .slot 33 (VP.undef), .slot 34 (VP.undef), .slot 35 (VP.bool true), .slot 2 (VP.bool true)]) [0, 1, 2, 3, 4, 5, 6, 7, 8, 9, 10, 11, 12, 13, 14, 15, 16, 17, 18, 19, 20, 21, 22, 23, 24, 25, 26, 27, 28, 29, 30, 31, 32] rfl ?_
    refine nx_then ?_
    refine t_ret ?_
    refine rt_block ?_
    refine rt_then ?_
    refine rt_then ?_
    refine rt_block ?_
    refine rt_then ?_
    exact rt_one rfl (res_tmp 32 rfl)
abbrev fodd3_EB_c (p0 q0 : Int) (p1 q1 : Int) (x2 y2 : Raw) : List VP := [Bz p0, Dz p0, Bz q0, Dz q0, Bz p1, Dz p1, Bz q1, Dz q1, VP.bool x2.1, VP.nums .u32 x2.2, VP.bool y2.1, VP.nums .u32 y2.2]
set_option maxRecDepth 100000 in
set_option maxHeartbeats 4000000 in
theorem fodd3_EB (p0 q0 : Int) (hp0 : L p0 ≤ 5) (hq0 : L q0 ≤ 5) (hb0 : rightF p0 q0 = true) (p1 q1 : Int) (hp1 : L p1 ≤ 10) (hq1 : L q1 ≤ 10) (hb1 : 5 < L p1) (x2 y2 : Raw) : Spec Try.prog 16 [isRows 3 (fodd3_EB_c p0 q0 p1 q1 x2 y2)] (VP.bool true) := by
  refine spec_ofP (xs := [.rows 3 (fodd3_EB_c p0 q0 p1 q1 x2 y2)]) 37 [4] Try.func16 rfl Try.ntmps16 rfl fun w0 => ?_
  refine t_seq ?_
  refine t_region (F := ⟨_, _, _, _⟩) [.rows 0 3 (fodd3_EB_c p0 q0 p1 q1 x2 y2)] [] [(0, .slot 2 (VP.bool false))] [] [0] [] rfl rfl follow rfl ⟨
    .inl ⟨wants_plain rfl, does_move _ (.inr rfl) rfl rfl rfl rfl (ar_const (fun _ => rfl))⟩,
    trivial⟩ ?_
  refine nx_sub (fs' := [.rows 0 3 (fodd3_EB_c p0 q0 p1 q1 x2 y2), .slot 2 (VP.bool false)]) [0, 1] rfl ?_
  refine nx_then ?_
  refine t_seq ?_
  refine t_seq ?_
  refine t_region (F := ⟨_, _, _, _⟩) [.rows 0 3 (fodd3_EB_c p0 q0 p1 q1 x2 y2), .slot 2 (VP.bool false)] [] [(0, .rows 5 3 (fodd3_EB_c p0 q0 p1 q1 x2 y2)), (1, .slot 6 (VP.int .i64 ((3 : Nat) : Int))), (2, .slot 7 (VP.int .i64 0))] [] [0, 1] [] rfl rfl follow rfl ⟨
    .inl ⟨wants_plain rfl, does_moveRows _ (.inl rfl) rfl rfl rfl rfl rfl (av_fs 0 rfl)⟩,
    .inl ⟨wants_plain rfl, does_lenRows _ _ rfl (by kernel_rfl) rfl rfl rfl rfl rfl (av_rs 0 rfl rfl)⟩,
    .inl ⟨wants_plain rfl, does_move _ (.inl rfl) rfl rfl rfl rfl (ar_const (fun _ => rfl))⟩,
    trivial⟩ ?_
  refine nx_sub (fs' := [.slot 2 (VP.bool false), .rows 5 3 (fodd3_EB_c p0 q0 p1 q1 x2 y2), .slot 6 (VP.int .i64 ((3 : Nat) : Int)), .slot 7 (VP.int .i64 0)]) [1, 2, 3, 4] rfl ?_
  refine nx_then ?_
  refine t_block ?_
  refine t_loop (σ := {k : Nat // k ≤ 1}) (fun s => [.rows 5 3 (fodd3_EB_c p0 q0 p1 q1 x2 y2), .slot 6 (VP.int .i64 ((3 : Nat) : Int)), .slot 7 (VP.int .i64 ((s.1 : Nat) : Int))]) (fun s => 3 - s.1) (⟨0, by decide⟩) [1, 2, 3] rfl ?_
  intro s
  obtain ⟨k, hk⟩ := s
  have hc : k = 0 ∨ k = 1 := by omega
  rcases hc with rfl | rfl
  case inl =>
    refine t_seq ?_
    refine t_region (F := ⟨_, _, _, _⟩) [.rows 5 3 (fodd3_EB_c p0 q0 p1 q1 x2 y2), .slot 6 (VP.int .i64 ((3 : Nat) : Int)), .slot 7 (VP.int .i64 ((0 : Nat) : Int))] [] [(0, .slot 8 (VP.bool (decide (((0 : Nat) : Int) < ((3 : Nat) : Int)))))] [] [0, 1, 2] [] rfl rfl follow rfl ⟨
      .inl ⟨wants_plain rfl, does_cmp (m := ((0 : Nat) : Int)) (n := ((3 : Nat) : Int)) _ _ _ _ _ rfl rfl rfl rfl rfl rfl .i64 (ar_tmp (av_fs 2 rfl)) (ar_tmp (av_fs 1 rfl))⟩,
      trivial⟩ ?_
    refine nx_sub (fs' := [.rows 5 3 (fodd3_EB_c p0 q0 p1 q1 x2 y2), .slot 6 (VP.int .i64 ((3 : Nat) : Int)), .slot 7 (VP.int .i64 ((0 : Nat) : Int)), .slot 8 (VP.bool (decide (((0 : Nat) : Int) < ((3 : Nat) : Int))))]) [0, 1, 2, 3] rfl ?_
    refine nx_then ?_
    refine t_seq ?_
    refine t_cond_te 3 rfl rfl ?_
    refine t_skip ?_
    refine nx_then ?_
    refine t_seq ?_
    refine t_block ?_
    refine t_seq ?_
    refine t_region (F := ⟨_, _, _, _⟩) [.rows 5 3 (fodd3_EB_c p0 q0 p1 q1 x2 y2), .slot 6 (VP.int .i64 ((3 : Nat) : Int)), .slot 7 (VP.int .i64 ((0 : Nat) : Int)), .slot 8 (VP.bool (decide (((0 : Nat) : Int) < ((3 : Nat) : Int))))] [] [(0, .rp 9 5 0), (1, .slot 10 (VP.agg [Bz p0, Dz p0, Bz q0, Dz q0])), (2, .own 4 26 4), (3, .box 4 26 [Bz p0, Dz p0, Bz q0, Dz q0])] [] [0, 1, 2, 3] [] rfl rfl follow rfl ⟨
      .inl ⟨wants_plain rfl, does_indexRows (m := 0) (sz := 4) _ _ rfl Try.underlying122 (fun w => run_sizeAgg ty_agg_api_Frac w) rfl rfl rfl rfl rfl rfl (by decide) rfl (av_fs 0 rfl) (ar_tmp (av_fs 2 rfl))⟩,
      .inl ⟨wants_plain rfl, does_loadRows _ rfl ty_agg_api_Frac rfl rfl rfl rfl rfl rfl rfl (av_rs 0 rfl rfl) (av_fs 0 rfl)⟩,
      .inl ⟨wants_plain rfl, does_allocOwn [Bz 0, Dz 0, Bz 0, Dz 0] ty_zero_api_Frac rfl rfl rfl rfl rfl z_frac rfl⟩,
      .inl ⟨wants_plain rfl, does_storeNew 4 _ _ ty_agg_api_Frac rfl rfl rfl rfl rfl (pt_own (av_rs 2 rfl rfl)) (av_rs 2 rfl rfl) (ar_tmp (av_rs 1 rfl rfl))⟩,
      trivial⟩ ?_
    refine nx_sub (fs' := [.rows 5 3 (fodd3_EB_c p0 q0 p1 q1 x2 y2), .slot 6 (VP.int .i64 ((3 : Nat) : Int)), .slot 7 (VP.int .i64 ((0 : Nat) : Int)), .slot 8 (VP.bool (decide (((0 : Nat) : Int) < ((3 : Nat) : Int)))), .rp 9 5 0, .slot 10 (VP.agg [Bz p0, Dz p0, Bz q0, Dz q0]), .box 4 26 [Bz p0, Dz p0, Bz q0, Dz q0]]) [0, 1, 2, 3, 4, 5, 7] rfl ?_
    refine nx_then ?_
    refine t_seq ?_
    refine t_region (F := ⟨_, _, _, _⟩) [.rows 5 3 (fodd3_EB_c p0 q0 p1 q1 x2 y2), .slot 6 (VP.int .i64 ((3 : Nat) : Int)), .slot 7 (VP.int .i64 ((0 : Nat) : Int)), .slot 8 (VP.bool (decide (((0 : Nat) : Int) < ((3 : Nat) : Int)))), .rp 9 5 0, .slot 10 (VP.agg [Bz p0, Dz p0, Bz q0, Dz q0]), .box 4 26 [Bz p0, Dz p0, Bz q0, Dz q0]] [] [(0, .fp 11 4 0), (1, .slot 12 (INT p0)), (2, .fp 13 4 2), (3, .slot 14 (INT q0)), (4, .arr 15 24 2 [Bz p0, Dz p0, Bz q0, Dz q0]), (5, .slot 16 (VP.bool false)), (6, .slot 17 (VP.bool false)), (7, .fp 18 4 0), (8, .fp 19 4 1), (9, .slot 20 (Dz p0)), (10, .slot 21 (VP.int .i64 (((dg BB p0.natAbs).length : Nat) : Int))), (11, .slot 22 (VP.bool (decide ((((dg BB p0.natAbs).length : Nat) : Int) > 5)))), (12, .slot 23 (VP.bool (decide ((((dg BB p0.natAbs).length : Nat) : Int) > 5)))), (13, .slot 24 (VP.bool (decide ((((dg BB p0.natAbs).length : Nat) : Int) > 5)))), (14, .fp 25 4 2), (15, .fp 26 4 3), (16, .slot 27 (Dz q0)), (17, .slot 28 (VP.int .i64 (((dg BB q0.natAbs).length : Nat) : Int))), (18, .slot 29 (VP.bool (decide ((((dg BB q0.natAbs).length : Nat) : Int) > 5)))), (19, .slot 30 (VP.bool (decide ((((dg BB q0.natAbs).length : Nat) : Int) > 5)))), (20, .slot 31 (VP.bool (decide ((((dg BB q0.natAbs).length : Nat) : Int) > 5)))), (21, .slot 32 (VP.agg [Bz p0, Dz p0, Bz q0, Dz q0])), (22, .slot 33 (VP.bool (rightF p0 q0))), (23, .slot 34 (VP.bool false)), (24, .slot 35 (VP.bool false))] [] [0, 1, 2, 3, 4, 5, 6] [] rfl rfl follow rfl ⟨
      .inl ⟨wants_plain rfl, does_field _ _ _ 0 ty_f0_api_Frac rfl rfl rfl rfl rfl rfl rfl (pt_box (av_fs 6 rfl))⟩,
      .inl ⟨wants_plain rfl, does_loadAgg _ ty_agg_api_Int rfl rfl rfl rfl rfl rfl (pt_fp (av_rs 0 rfl rfl)) (av_fs 6 rfl)⟩,
      .inl ⟨wants_plain rfl, does_field _ _ _ 2 ty_f1_api_Frac rfl rfl rfl rfl rfl rfl rfl (pt_box (av_fs 6 rfl))⟩,
      .inl ⟨wants_plain rfl, does_loadAgg _ ty_agg_api_Int rfl rfl rfl rfl rfl rfl (pt_fp (av_rs 2 rfl rfl)) (av_fs 6 rfl)⟩,
      .inl ⟨wants_plain rfl, does_buildSlice (sz := 2) [Bz 0, Dz 0, Bz 0, Dz 0] ty_zero_api_Int (by kernel_rfl) (fun w => run_sizeAgg ty_agg_api_Int w) rfl rfl rfl rfl rfl rfl (by kernel_rfl) (fun w => by exact z_int_2 w) (.cons 0 [Bz p0, Dz p0] rfl rfl (ar_cells_agg (ar_tmp (av_rs 1 rfl rfl))) (.cons 2 [Bz q0, Dz q0] rfl rfl (ar_cells_agg (ar_tmp (av_rs 3 rfl rfl))) (.nil _)))⟩,
      .inl ⟨wants_plain rfl, does_call (s_even2 p0 q0 (lle hp0 (by decide)) (lle hq0 (by decide))) rfl hb_collator_collatorlaw01_Odd rfl rfl rfl rfl ⟨(ar_arr (av_rs 4 rfl rfl)), trivial⟩⟩,
      .inl ⟨wants_plain rfl, does_move _ (.inl rfl) rfl rfl rfl rfl (ar_tmp (av_rs 5 rfl rfl))⟩,
      .inl ⟨wants_guard false rfl rfl rfl (av_rs 6 rfl rfl), does_field _ _ _ 0 ty_f0_api_Frac rfl rfl rfl rfl rfl rfl rfl (pt_box (av_fs 6 rfl))⟩,
      .inl ⟨wants_guard false rfl rfl rfl (av_rs 6 rfl rfl), does_field _ _ _ 1 ty_f1_api_Int rfl rfl rfl rfl rfl rfl rfl (pt_fp (av_rs 7 rfl rfl))⟩,
      .inl ⟨wants_guard false rfl rfl rfl (av_rs 6 rfl rfl), does_loadOne _ ty_one___uint32 rfl rfl rfl rfl rfl rfl (pt_fp (av_rs 8 rfl rfl)) (av_fs 6 rfl)⟩,
      .inl ⟨wants_guard false rfl rfl rfl (av_rs 6 rfl rfl), does_len _ _ (by kernel_rfl) rfl rfl rfl rfl rfl (ar_tmp (av_rs 9 rfl rfl))⟩,
      .inl ⟨wants_guard false rfl rfl rfl (av_rs 6 rfl rfl), does_cmp (m := (((dg BB p0.natAbs).length : Nat) : Int)) (n := 5) _ _ _ _ _ rfl rfl rfl rfl rfl rfl .i64 (ar_tmp (av_rs 10 rfl rfl)) (ar_const (fun _ => rfl))⟩,
      .inl ⟨wants_plain rfl, does_pick false _ _ _ rfl rfl rfl rfl rfl (ar_tmp (av_rs 6 rfl rfl)) (ar_tmp (av_rs 11 rfl rfl))⟩,
      .inl ⟨wants_plain rfl, does_move _ (.inl rfl) rfl rfl rfl rfl (ar_tmp (av_rs 12 rfl rfl))⟩,
      .inl ⟨wants_guard false rfl rfl rfl (av_bool (gt5_no hp0) (av_rs 13 rfl rfl)), does_field _ _ _ 2 ty_f1_api_Frac rfl rfl rfl rfl rfl rfl rfl (pt_box (av_fs 6 rfl))⟩,
      .inl ⟨wants_guard false rfl rfl rfl (av_bool (gt5_no hp0) (av_rs 13 rfl rfl)), does_field _ _ _ 1 ty_f1_api_Int rfl rfl rfl rfl rfl rfl rfl (pt_fp (av_rs 14 rfl rfl))⟩,
      .inl ⟨wants_guard false rfl rfl rfl (av_bool (gt5_no hp0) (av_rs 13 rfl rfl)), does_loadOne _ ty_one___uint32 rfl rfl rfl rfl rfl rfl (pt_fp (av_rs 15 rfl rfl)) (av_fs 6 rfl)⟩,
      .inl ⟨wants_guard false rfl rfl rfl (av_bool (gt5_no hp0) (av_rs 13 rfl rfl)), does_len _ _ (by kernel_rfl) rfl rfl rfl rfl rfl (ar_tmp (av_rs 16 rfl rfl))⟩,
      .inl ⟨wants_guard false rfl rfl rfl (av_bool (gt5_no hp0) (av_rs 13 rfl rfl)), does_cmp (m := (((dg BB q0.natAbs).length : Nat) : Int)) (n := 5) _ _ _ _ _ rfl rfl rfl rfl rfl rfl .i64 (ar_tmp (av_rs 17 rfl rfl)) (ar_const (fun _ => rfl))⟩,
      .inl ⟨wants_plain rfl, does_pick false _ _ _ rfl rfl rfl rfl rfl (ar_tmp (av_bool (gt5_no hp0) (av_rs 13 rfl rfl))) (ar_tmp (av_rs 18 rfl rfl))⟩,
      .inl ⟨wants_plain rfl, does_move _ (.inl rfl) rfl rfl rfl rfl (ar_tmp (av_rs 19 rfl rfl))⟩,
      .inl ⟨wants_guard false rfl rfl rfl (av_bool (gt5_no hq0) (av_rs 20 rfl rfl)), does_loadAgg _ ty_agg_api_Frac rfl rfl rfl rfl rfl rfl (pt_box (av_fs 6 rfl)) (av_fs 6 rfl)⟩,
      .inl ⟨wants_guard false rfl rfl rfl (av_bool (gt5_no hq0) (av_rs 20 rfl rfl)), does_call (g_right p0 q0 (lle hp0 (by decide)) (lle hq0 (by decide))) rfl hb_collator_collatorref02_Right rfl rfl rfl rfl ⟨(ar_tmp (av_rs 21 rfl rfl)), trivial⟩⟩,
      .inl ⟨wants_guard false rfl rfl rfl (av_bool (gt5_no hq0) (av_rs 20 rfl rfl)), does_not true _ _ rfl rfl rfl rfl rfl (ar_tmp (av_bool hb0 (av_rs 22 rfl rfl)))⟩,
      .inl ⟨wants_plain rfl, does_pick false _ _ _ rfl rfl rfl rfl rfl (ar_tmp (av_bool (gt5_no hq0) (av_rs 20 rfl rfl))) (ar_tmp (av_rs 23 rfl rfl))⟩,
      trivial⟩ ?_
    refine nx_sub (fs' := [.rows 5 3 (fodd3_EB_c p0 q0 p1 q1 x2 y2), .slot 6 (VP.int .i64 ((3 : Nat) : Int)), .slot 7 (VP.int .i64 ((0 : Nat) : Int)), .slot 8 (VP.bool (decide (((0 : Nat) : Int) < ((3 : Nat) : Int)))), .rp 9 5 0, .slot 10 (VP.agg [Bz p0, Dz p0, Bz q0, Dz q0]), .box 4 26 [Bz p0, Dz p0, Bz q0, Dz q0], .fp 11 4 0, .slot 12 (INT p0), .fp 13 4 2, .slot 14 (INT q0), .arr 15 24 2 [Bz p0, Dz p0, Bz q0, Dz q0], .slot 16 (VP.bool false), .slot 17 (VP.bool false), .fp 18 4 0, .fp 19 4 1, .slot 20 (Dz p0), .slot 21 (VP.int .i64 (((dg BB p0.natAbs).length : Nat) : Int)), .slot 22 (VP.bool (decide ((((dg BB p0.natAbs).length : Nat) : Int) > 5))), .slot 23 (VP.bool (decide ((((dg BB p0.natAbs).length : Nat) : Int) > 5))), .slot 24 (VP.bool (decide ((((dg BB p0.natAbs).length : Nat) : Int) > 5))), .fp 25 4 2, .fp 26 4 3, .slot 27 (Dz q0), .slot 28 (VP.int .i64 (((dg BB q0.natAbs).length : Nat) : Int)), .slot 29 (VP.bool (decide ((((dg BB q0.natAbs).length : Nat) : Int) > 5))), .slot 30 (VP.bool (decide ((((dg BB q0.natAbs).length : Nat) : Int) > 5))), .slot 31 (VP.bool (decide ((((dg BB q0.natAbs).length : Nat) : Int) > 5))), .slot 32 (VP.agg [Bz p0, Dz p0, Bz q0, Dz q0]), .slot 33 (VP.bool (rightF p0 q0)), .slot 34 (VP.bool false), .slot 35 (VP.bool false)]) [0, 1, 2, 3, 4, 5, 6, 7, 8, 9, 10, 11, 12, 13, 14, 15, 16, 17, 18, 19, 20, 21, 22, 23, 24, 25, 26, 27, 28, 29, 30, 31] rfl ?_
    refine nx_then ?_
    refine t_cond_f 31 rfl ?_
    refine t_skip ?_
    refine nx_block ?_
    refine nx_then ?_
    refine t_region (F := ⟨_, _, _, _⟩) [.rows 5 3 (fodd3_EB_c p0 q0 p1 q1 x2 y2), .slot 6 (VP.int .i64 ((3 : Nat) : Int)), .slot 8 (VP.bool (decide (((0 : Nat) : Int) < ((3 : Nat) : Int)))), .rp 9 5 0, .slot 10 (VP.agg [Bz p0, Dz p0, Bz q0, Dz q0]), .box 4 26 [Bz p0, Dz p0, Bz q0, Dz q0], .fp 11 4 0, .slot 12 (INT p0), .fp 13 4 2, .slot 14 (INT q0), .arr 15 24 2 [Bz p0, Dz p0, Bz q0, Dz q0], .slot 16 (VP.bool false), .slot 17 (VP.bool false), .fp 18 4 0, .fp 19 4 1, .slot 20 (Dz p0), .slot 21 (VP.int .i64 (((dg BB p0.natAbs).length : Nat) : Int)), .slot 22 (VP.bool (decide ((((dg BB p0.natAbs).length : Nat) : Int) > 5))), .slot 23 (VP.bool (decide ((((dg BB p0.natAbs).length : Nat) : Int) > 5))), .slot 24 (VP.bool (decide ((((dg BB p0.natAbs).length : Nat) : Int) > 5))), .fp 25 4 2, .fp 26 4 3, .slot 27 (Dz q0), .slot 28 (VP.int .i64 (((dg BB q0.natAbs).length : Nat) : Int)), .slot 29 (VP.bool (decide ((((dg BB q0.natAbs).length : Nat) : Int) > 5))), .slot 30 (VP.bool (decide ((((dg BB q0.natAbs).length : Nat) : Int) > 5))), .slot 31 (VP.bool (decide ((((dg BB q0.natAbs).length : Nat) : Int) > 5))), .slot 32 (VP.agg [Bz p0, Dz p0, Bz q0, Dz q0]), .slot 33 (VP.bool (rightF p0 q0)), .slot 34 (VP.bool false), .slot 35 (VP.bool false)] [(1, .slot 7 (VP.int .i64 ((0 : Nat) : Int)))] [(0, .slot 36 (VP.int .i64 ((1 : Nat) : Int))), (1, .slot 7 (VP.int .i64 ((1 : Nat) : Int)))] [] [0, 1, 3, 4, 5, 6, 7, 8, 9, 10, 11, 12, 13, 14, 15, 16, 17, 18, 19, 20, 21, 22, 23, 24, 25, 26, 27, 28, 29, 30, 31] [2] rfl rfl follow rfl ⟨
      .inl ⟨wants_plain rfl, does_addInt (m := ((0 : Nat) : Int)) (n := 1) _ _ _ _ rfl rfl rfl rfl rfl (by omega) (ar_tmp (av_os 0 rfl rfl)) (ar_const (fun _ => rfl))⟩,
      .inl ⟨wants_plain rfl, does_move _ (.inl rfl) rfl rfl rfl rfl (ar_tmp (av_rs 0 rfl rfl))⟩,
      trivial⟩ ?_
    refine nx_sub (fs' := [.rows 5 3 (fodd3_EB_c p0 q0 p1 q1 x2 y2), .slot 6 (VP.int .i64 ((3 : Nat) : Int)), .slot 8 (VP.bool (decide (((0 : Nat) : Int) < ((3 : Nat) : Int)))), .rp 9 5 0, .slot 10 (VP.agg [Bz p0, Dz p0, Bz q0, Dz q0]), .box 4 26 [Bz p0, Dz p0, Bz q0, Dz q0], .fp 11 4 0, .slot 12 (INT p0), .fp 13 4 2, .slot 14 (INT q0), .arr 15 24 2 [Bz p0, Dz p0, Bz q0, Dz q0], .slot 16 (VP.bool false), .slot 17 (VP.bool false), .fp 18 4 0, .fp 19 4 1, .slot 20 (Dz p0), .slot 21 (VP.int .i64 (((dg BB p0.natAbs).length : Nat) : Int)), .slot 22 (VP.bool (decide ((((dg BB p0.natAbs).length : Nat) : Int) > 5))), .slot 23 (VP.bool (decide ((((dg BB p0.natAbs).length : Nat) : Int) > 5))), .slot 24 (VP.bool (decide ((((dg BB p0.natAbs).length : Nat) : Int) > 5))), .fp 25 4 2, .fp 26 4 3, .slot 27 (Dz q0), .slot 28 (VP.int .i64 (((dg BB q0.natAbs).length : Nat) : Int)), .slot 29 (VP.bool (decide ((((dg BB q0.natAbs).length : Nat) : Int) > 5))), .slot 30 (VP.bool (decide ((((dg BB q0.natAbs).length : Nat) : Int) > 5))), .slot 31 (VP.bool (decide ((((dg BB q0.natAbs).length : Nat) : Int) > 5))), .slot 32 (VP.agg [Bz p0, Dz p0, Bz q0, Dz q0]), .slot 33 (VP.bool (rightF p0 q0)), .slot 34 (VP.bool false), .slot 35 (VP.bool false), .slot 36 (VP.int .i64 ((1 : Nat) : Int)), .slot 7 (VP.int .i64 ((1 : Nat) : Int))]) [0, 1, 2, 3, 4, 5, 6, 7, 8, 9, 10, 11, 12, 13, 14, 15, 16, 17, 18, 19, 20, 21, 22, 23, 24, 25, 26, 27, 28, 29, 30, 31, 32] rfl ?_
    exact nx_round ⟨1, by decide⟩ (by show 3 - 1 < 3 - 0; decide) [0, 1, 32] rfl
  case inr =>
    refine t_seq ?_
    refine t_region (F := ⟨_, _, _, _⟩) [.rows 5 3 (fodd3_EB_c p0 q0 p1 q1 x2 y2), .slot 6 (VP.int .i64 ((3 : Nat) : Int)), .slot 7 (VP.int .i64 ((1 : Nat) : Int))] [] [(0, .slot 8 (VP.bool (decide (((1 : Nat) : Int) < ((3 : Nat) : Int)))))] [] [0, 1, 2] [] rfl rfl follow rfl ⟨
      .inl ⟨wants_plain rfl, does_cmp (m := ((1 : Nat) : Int)) (n := ((3 : Nat) : Int)) _ _ _ _ _ rfl rfl rfl rfl rfl rfl .i64 (ar_tmp (av_fs 2 rfl)) (ar_tmp (av_fs 1 rfl))⟩,
      trivial⟩ ?_
    refine nx_sub (fs' := [.rows 5 3 (fodd3_EB_c p0 q0 p1 q1 x2 y2), .slot 6 (VP.int .i64 ((3 : Nat) : Int)), .slot 7 (VP.int .i64 ((1 : Nat) : Int)), .slot 8 (VP.bool (decide (((1 : Nat) : Int) < ((3 : Nat) : Int))))]) [0, 1, 2, 3] rfl ?_
    refine nx_then ?_
    refine t_seq ?_
    refine t_cond_te 3 rfl rfl ?_
    refine t_skip ?_
    refine nx_then ?_
    refine t_seq ?_
    refine t_block ?_
    refine t_seq ?_
    refine t_region (F := ⟨_, _, _, _⟩) [.rows 5 3 (fodd3_EB_c p0 q0 p1 q1 x2 y2), .slot 6 (VP.int .i64 ((3 : Nat) : Int)), .slot 7 (VP.int .i64 ((1 : Nat) : Int)), .slot 8 (VP.bool (decide (((1 : Nat) : Int) < ((3 : Nat) : Int))))] [] [(0, .rp 9 5 4), (1, .slot 10 (VP.agg [Bz p1, Dz p1, Bz q1, Dz q1])), (2, .own 4 26 4), (3, .box 4 26 [Bz p1, Dz p1, Bz q1, Dz q1])] [] [0, 1, 2, 3] [] rfl rfl follow rfl ⟨
      .inl ⟨wants_plain rfl, does_indexRows (m := 1) (sz := 4) _ _ rfl Try.underlying122 (fun w => run_sizeAgg ty_agg_api_Frac w) rfl rfl rfl rfl rfl rfl (by decide) rfl (av_fs 0 rfl) (ar_tmp (av_fs 2 rfl))⟩,
      .inl ⟨wants_plain rfl, does_loadRows _ rfl ty_agg_api_Frac rfl rfl rfl rfl rfl rfl rfl (av_rs 0 rfl rfl) (av_fs 0 rfl)⟩,
      .inl ⟨wants_plain rfl, does_allocOwn [Bz 0, Dz 0, Bz 0, Dz 0] ty_zero_api_Frac rfl rfl rfl rfl rfl z_frac rfl⟩,
      .inl ⟨wants_plain rfl, does_storeNew 4 _ _ ty_agg_api_Frac rfl rfl rfl rfl rfl (pt_own (av_rs 2 rfl rfl)) (av_rs 2 rfl rfl) (ar_tmp (av_rs 1 rfl rfl))⟩,
      trivial⟩ ?_
    refine nx_sub (fs' := [.rows 5 3 (fodd3_EB_c p0 q0 p1 q1 x2 y2), .slot 6 (VP.int .i64 ((3 : Nat) : Int)), .slot 7 (VP.int .i64 ((1 : Nat) : Int)), .slot 8 (VP.bool (decide (((1 : Nat) : Int) < ((3 : Nat) : Int)))), .rp 9 5 4, .slot 10 (VP.agg [Bz p1, Dz p1, Bz q1, Dz q1]), .box 4 26 [Bz p1, Dz p1, Bz q1, Dz q1]]) [0, 1, 2, 3, 4, 5, 7] rfl ?_
    refine nx_then ?_
    refine t_seq ?_
    refine t_region (F := ⟨_, _, _, _⟩) [.rows 5 3 (fodd3_EB_c p0 q0 p1 q1 x2 y2), .slot 6 (VP.int .i64 ((3 : Nat) : Int)), .slot 7 (VP.int .i64 ((1 : Nat) : Int)), .slot 8 (VP.bool (decide (((1 : Nat) : Int) < ((3 : Nat) : Int)))), .rp 9 5 4, .slot 10 (VP.agg [Bz p1, Dz p1, Bz q1, Dz q1]), .box 4 26 [Bz p1, Dz p1, Bz q1, Dz q1]] [] [(0, .fp 11 4 0), (1, .slot 12 (INT p1)), (2, .fp 13 4 2), (3, .slot 14 (INT q1)), (4, .arr 15 24 2 [Bz p1, Dz p1, Bz q1, Dz q1]), (5, .slot 16 (VP.bool false)), (6, .slot 17 (VP.bool false)), (7, .fp 18 4 0), (8, .fp 19 4 1), (9, .slot 20 (Dz p1)), (10, .slot 21 (VP.int .i64 (((dg BB p1.natAbs).length : Nat) : Int))), (11, .slot 22 (VP.bool (decide ((((dg BB p1.natAbs).length : Nat) : Int) > 5)))), (12, .slot 23 (VP.bool (decide ((((dg BB p1.natAbs).length : Nat) : Int) > 5)))), (13, .slot 24 (VP.bool (decide ((((dg BB p1.natAbs).length : Nat) : Int) > 5)))), (14, .slot 25 (VP.undef)), (15, .slot 26 (VP.undef)), (16, .slot 27 (VP.undef)), (17, .slot 28 (VP.undef)), (18, .slot 29 (VP.undef)), (19, .slot 30 (VP.bool true)), (20, .slot 31 (VP.bool true)), (21, .slot 32 (VP.undef)), (22, .slot 33 (VP.undef)), (23, .slot 34 (VP.undef)), (24, .slot 35 (VP.bool true))] [] [0, 1, 2, 3, 4, 5, 6] [] rfl rfl follow rfl ⟨
      .inl ⟨wants_plain rfl, does_field _ _ _ 0 ty_f0_api_Frac rfl rfl rfl rfl rfl rfl rfl (pt_box (av_fs 6 rfl))⟩,
      .inl ⟨wants_plain rfl, does_loadAgg _ ty_agg_api_Int rfl rfl rfl rfl rfl rfl (pt_fp (av_rs 0 rfl rfl)) (av_fs 6 rfl)⟩,
      .inl ⟨wants_plain rfl, does_field _ _ _ 2 ty_f1_api_Frac rfl rfl rfl rfl rfl rfl rfl (pt_box (av_fs 6 rfl))⟩,
      .inl ⟨wants_plain rfl, does_loadAgg _ ty_agg_api_Int rfl rfl rfl rfl rfl rfl (pt_fp (av_rs 2 rfl rfl)) (av_fs 6 rfl)⟩,
      .inl ⟨wants_plain rfl, does_buildSlice (sz := 2) [Bz 0, Dz 0, Bz 0, Dz 0] ty_zero_api_Int (by kernel_rfl) (fun w => run_sizeAgg ty_agg_api_Int w) rfl rfl rfl rfl rfl rfl (by kernel_rfl) (fun w => by exact z_int_2 w) (.cons 0 [Bz p1, Dz p1] rfl rfl (ar_cells_agg (ar_tmp (av_rs 1 rfl rfl))) (.cons 2 [Bz q1, Dz q1] rfl rfl (ar_cells_agg (ar_tmp (av_rs 3 rfl rfl))) (.nil _)))⟩,
      .inl ⟨wants_plain rfl, does_call (s_even2 p1 q1 hp1 hq1) rfl hb_collator_collatorlaw01_Odd rfl rfl rfl rfl ⟨(ar_arr (av_rs 4 rfl rfl)), trivial⟩⟩,
      .inl ⟨wants_plain rfl, does_move _ (.inl rfl) rfl rfl rfl rfl (ar_tmp (av_rs 5 rfl rfl))⟩,
      .inl ⟨wants_guard false rfl rfl rfl (av_rs 6 rfl rfl), does_field _ _ _ 0 ty_f0_api_Frac rfl rfl rfl rfl rfl rfl rfl (pt_box (av_fs 6 rfl))⟩,
      .inl ⟨wants_guard false rfl rfl rfl (av_rs 6 rfl rfl), does_field _ _ _ 1 ty_f1_api_Int rfl rfl rfl rfl rfl rfl rfl (pt_fp (av_rs 7 rfl rfl))⟩,
      .inl ⟨wants_guard false rfl rfl rfl (av_rs 6 rfl rfl), does_loadOne _ ty_one___uint32 rfl rfl rfl rfl rfl rfl (pt_fp (av_rs 8 rfl rfl)) (av_fs 6 rfl)⟩,
      .inl ⟨wants_guard false rfl rfl rfl (av_rs 6 rfl rfl), does_len _ _ (by kernel_rfl) rfl rfl rfl rfl rfl (ar_tmp (av_rs 9 rfl rfl))⟩,
      .inl ⟨wants_guard false rfl rfl rfl (av_rs 6 rfl rfl), does_cmp (m := (((dg BB p1.natAbs).length : Nat) : Int)) (n := 5) _ _ _ _ _ rfl rfl rfl rfl rfl rfl .i64 (ar_tmp (av_rs 10 rfl rfl)) (ar_const (fun _ => rfl))⟩,
      .inl ⟨wants_plain rfl, does_pick false _ _ _ rfl rfl rfl rfl rfl (ar_tmp (av_rs 6 rfl rfl)) (ar_tmp (av_rs 11 rfl rfl))⟩,
      .inl ⟨wants_plain rfl, does_move _ (.inl rfl) rfl rfl rfl rfl (ar_tmp (av_rs 12 rfl rfl))⟩,
      .inr (skips_guardU true rfl rfl rfl (av_bool (gt5_yes hb1) (av_rs 13 rfl rfl)) rfl rfl rfl rfl),
      .inr (skips_guardU true rfl rfl rfl (av_bool (gt5_yes hb1) (av_rs 13 rfl rfl)) rfl rfl rfl rfl),
      .inr (skips_guardU true rfl rfl rfl (av_bool (gt5_yes hb1) (av_rs 13 rfl rfl)) rfl rfl rfl rfl),
      .inr (skips_guardU true rfl rfl rfl (av_bool (gt5_yes hb1) (av_rs 13 rfl rfl)) rfl rfl rfl rfl),
      .inr (skips_guardU true rfl rfl rfl (av_bool (gt5_yes hb1) (av_rs 13 rfl rfl)) rfl rfl rfl rfl),
      .inl ⟨wants_plain rfl, does_pick true _ _ _ rfl rfl rfl rfl rfl (ar_tmp (av_bool (gt5_yes hb1) (av_rs 13 rfl rfl))) (ar_const (fun _ => rfl))⟩,
      .inl ⟨wants_plain rfl, does_move _ (.inl rfl) rfl rfl rfl rfl (ar_tmp (av_rs 19 rfl rfl))⟩,
      .inr (skips_guardU true rfl rfl rfl (av_rs 20 rfl rfl) rfl rfl rfl rfl),
      .inr (skips_guardU true rfl rfl rfl (av_rs 20 rfl rfl) rfl rfl rfl rfl),
      .inr (skips_guardU true rfl rfl rfl (av_rs 20 rfl rfl) rfl rfl rfl rfl),
      .inl ⟨wants_plain rfl, does_pick true _ _ _ rfl rfl rfl rfl rfl (ar_tmp (av_rs 20 rfl rfl)) (ar_const (fun _ => rfl))⟩,
      trivial⟩ ?_
    refine nx_sub (fs' := [.rows 5 3 (fodd3_EB_c p0 q0 p1 q1 x2 y2), .slot 6 (VP.int .i64 ((3 : Nat) : Int)), .slot 7 (VP.int .i64 ((1 : Nat) : Int)), .slot 8 (VP.bool (decide (((1 : Nat) : Int) < ((3 : Nat) : Int)))), .rp 9 5 4, .slot 10 (VP.agg [Bz p1, Dz p1, Bz q1, Dz q1]), .box 4 26 [Bz p1, Dz p1, Bz q1, Dz q1], .fp 11 4 0, .slot 12 (INT p1), .fp 13 4 2, .slot 14 (INT q1), .arr 15 24 2 [Bz p1, Dz p1, Bz q1, Dz q1], .slot 16 (VP.bool false), .slot 17 (VP.bool false), .fp 18 4 0, .fp 19 4 1, .slot 20 (Dz p1), .slot 21 (VP.int .i64 (((dg BB p1.natAbs).length : Nat) : Int)), .slot 22 (VP.bool (decide ((((dg BB p1.natAbs).length : Nat) : Int) > 5))), .slot 23 (VP.bool (decide ((((dg BB p1.natAbs).length : Nat) : Int) > 5))), .slot 24 (VP.bool (decide ((((dg BB p1.natAbs).length : Nat) : Int) > 5))), .slot 25 (VP.undef), .slot 26 (VP.undef), .slot 27 (VP.undef), .slot 28 (VP.undef), .slot 29 (VP.undef), .slot 30 (VP.bool true), .slot 31 (VP.bool true), .slot 32 (VP.undef), .slot 33 (VP.undef), .slot 34 (VP.undef), .slot 35 (VP.bool true)]) [0, 1, 2, 3, 4, 5, 6, 7, 8, 9, 10, 11, 12, 13, 14, 15, 16, 17, 18, 19, 20, 21, 22, 23, 24, 25, 26, 27, 28, 29, 30, 31] rfl ?_
    refine nx_then ?_
    refine t_cond_t 31 rfl ?_
    refine t_seq ?_
    refine t_region (F := ⟨_, _, _, _⟩) [.rows 5 3 (fodd3_EB_c p0 q0 p1 q1 x2 y2), .slot 6 (VP.int .i64 ((3 : Nat) : Int)), .slot 7 (VP.int .i64 ((1 : Nat) : Int)), .slot 8 (VP.bool (decide (((1 : Nat) : Int) < ((3 : Nat) : Int)))), .rp 9 5 4, .slot 10 (VP.agg [Bz p1, Dz p1, Bz q1, Dz q1]), .box 4 26 [Bz p1, Dz p1, Bz q1, Dz q1], .fp 11 4 0, .slot 12 (INT p1), .fp 13 4 2, .slot 14 (INT q1), .arr 15 24 2 [Bz p1, Dz p1, Bz q1, Dz q1], .slot 16 (VP.bool false), .slot 17 (VP.bool false), .fp 18 4 0, .fp 19 4 1, .slot 20 (Dz p1), .slot 21 (VP.int .i64 (((dg BB p1.natAbs).length : Nat) : Int)), .slot 22 (VP.bool (decide ((((dg BB p1.natAbs).length : Nat) : Int) > 5))), .slot 23 (VP.bool (decide ((((dg BB p1.natAbs).length : Nat) : Int) > 5))), .slot 24 (VP.bool (decide ((((dg BB p1.natAbs).length : Nat) : Int) > 5))), .slot 25 (VP.undef), .slot 26 (VP.undef), .slot 27 (VP.undef), .slot 28 (VP.undef), .slot 29 (VP.undef), .slot 30 (VP.bool true), .slot 31 (VP.bool true), .slot 32 (VP.undef), .slot 33 (VP.undef), .slot 34 (VP.undef), .slot 35 (VP.bool true)] [] [(0, .slot 2 (VP.bool true))] [] [0, 1, 2, 3, 4, 5, 6, 7, 8, 9, 10, 11, 12, 13, 14, 15, 16, 17, 18, 19, 20, 21, 22, 23, 24, 25, 26, 27, 28, 29, 30, 31] [] rfl rfl follow rfl ⟨
      .inl ⟨wants_plain rfl, does_move _ (.inr rfl) rfl rfl rfl rfl (ar_const (fun _ => rfl))⟩,
      trivial⟩ ?_
    refine nx_sub (fs' := [.rows 5 3 (fodd3_EB_c p0 q0 p1 q1 x2 y2), .slot 6 (VP.int .i64 ((3 : Nat) : Int)), .slot 7 (VP.int .i64 ((1 : Nat) : Int)), .slot 8 (VP.bool (decide (((1 : Nat) : Int) < ((3 : Nat) : Int)))), .rp 9 5 4, .slot 10 (VP.agg [Bz p1, Dz p1, Bz q1, Dz q1]), .box 4 26 [Bz p1, Dz p1, Bz q1, Dz q1], .fp 11 4 0, .slot 12 (INT p1), .fp 13 4 2, .slot 14 (INT q1), .arr 15 24 2 [Bz p1, Dz p1, Bz q1, Dz q1], .slot 16 (VP.bool false), .slot 17 (VP.bool false), .fp 18 4 0, .fp 19 4 1, .slot 20 (Dz p1), .slot 21 (VP.int .i64 (((dg BB p1.natAbs).length : Nat) : Int)), .slot 22 (VP.bool (decide ((((dg BB p1.natAbs).length : Nat) : Int) > 5))), .slot 23 (VP.bool (decide ((((dg BB p1.natAbs).length : Nat) : Int) > 5))), .slot 24 (VP.bool (decide ((((dg BB p1.natAbs).length : Nat) : Int) > 5))), .slot 25 (VP.undef), .slot 26 (VP.undef), .slot 27 (VP.undef), .slot 28 (VP.undef), .slot 29 (VP.undef), .slot 30 (VP.bool true), .slot 31 (VP.bool true), .slot 32 (VP.undef), .slot 33 (VP.undef), .slot 34 (VP.undef), .slot 35 (VP.bool true), .slot 2 (VP.bool true)]) [0, 1, 2, 3, 4, 5, 6, 7, 8, 9, 10, 11, 12, 13, 14, 15, 16, 17, 18, 19, 20, 21, 22, 23, 24, 25, 26, 27, 28, 29, 30, 31, 32] rfl ?_
    refine nx_then ?_
    refine t_ret ?_
    refine rt_block ?_
    refine rt_then ?_
    refine rt_then ?_
    refine rt_block ?_
    refine rt_then ?_
    exact rt_one rfl (res_tmp 32 rfl)
abbrev fodd3_EC_c (p0 q0 : Int) (p1 q1 : Int) (x2 y2 : Raw) : List VP := [Bz p0, Dz p0, Bz q0, Dz q0, Bz p1, Dz p1, Bz q1, Dz q1, VP.bool x2.1, VP.nums .u32 x2.2, VP.bool y2.1, VP.nums .u32 y2.2]
set_option maxRecDepth 100000 in
set_option maxHeartbeats 4000000 in
theorem fodd3_EC (p0 q0 : Int) (hp0 : L p0 ≤ 5) (hq0 : L q0 ≤ 5) (hb0 : rightF p0 q0 = true) (p1 q1 : Int) (hp1 : L p1 ≤ 5) (hq1 : L q1 ≤ 10) (hb1 : 5 < L q1) (x2 y2 : Raw) : Spec Try.prog 16 [isRows 3 (fodd3_EC_c p0 q0 p1 q1 x2 y2)] (VP.bool true) := by
  refine spec_ofP (xs := [.rows 3 (fodd3_EC_c p0 q0 p1 q1 x2 y2)]) 37 [4] Try.func16 rfl Try.ntmps16 rfl fun w0 => ?_
  refine t_seq ?_
  refine t_region (F := ⟨_, _, _, _⟩) [.rows 0 3 (fodd3_EC_c p0 q0 p1 q1 x2 y2)] [] [(0, .slot 2 (VP.bool false))] [] [0] [] rfl rfl follow rfl ⟨
    .inl ⟨wants_plain rfl, does_move _ (.inr rfl) rfl rfl rfl rfl (ar_const (fun _ => rfl))⟩,
    trivial⟩ ?_
  refine nx_sub (fs' := [.rows 0 3 (fodd3_EC_c p0 q0 p1 q1 x2 y2), .slot 2 (VP.bool false)]) [0, 1] rfl ?_
  refine nx_then ?_
  refine t_seq ?_
  refine t_seq ?_
  refine t_region (F := ⟨_, _, _, _⟩) [.rows 0 3 (fodd3_EC_c p0 q0 p1 q1 x2 y2), .slot 2 (VP.bool false)] [] [(0, .rows 5 3 (fodd3_EC_c p0 q0 p1 q1 x2 y2)), (1, .slot 6 (VP.int .i64 ((3 : Nat) : Int))), (2, .slot 7 (VP.int .i64 0))] [] [0, 1] [] rfl rfl follow rfl ⟨
    .inl ⟨wants_plain rfl, does_moveRows _ (.inl rfl) rfl rfl rfl rfl rfl (av_fs 0 rfl)⟩,
    .inl ⟨wants_plain rfl, does_lenRows _ _ rfl (by kernel_rfl) rfl rfl rfl rfl rfl (av_rs 0 rfl rfl)⟩,
    .inl ⟨wants_plain rfl, does_move _ (.inl rfl) rfl rfl rfl rfl (ar_const (fun _ => rfl))⟩,
    trivial⟩ ?_
  refine nx_sub (fs' := [.slot 2 (VP.bool false), .rows 5 3 (fodd3_EC_c p0 q0 p1 q1 x2 y2), .slot 6 (VP.int .i64 ((3 : Nat) : Int)), .slot 7 (VP.int .i64 0)]) [1, 2, 3, 4] rfl ?_
  refine nx_then ?_
  refine t_block ?_
  refine t_loop (σ := {k : Nat // k ≤ 1}) (fun s => [.rows 5 3 (fodd3_EC_c p0 q0 p1 q1 x2 y2), .slot 6 (VP.int .i64 ((3 : Nat) : Int)), .slot 7 (VP.int .i64 ((s.1 : Nat) : Int))]) (fun s => 3 - s.1) (⟨0, by decide⟩) [1, 2, 3] rfl ?_
  intro s
  obtain ⟨k, hk⟩ := s
  have hc : k = 0 ∨ k = 1 := by omega
  rcases hc with rfl | rfl
  case inl =>
    refine t_seq ?_
    refine t_region (F := ⟨_, _, _, _⟩) [.rows 5 3 (fodd3_EC_c p0 q0 p1 q1 x2 y2), .slot 6 (VP.int .i64 ((3 : Nat) : Int)), .slot 7 (VP.int .i64 ((0 : Nat) : Int))] [] [(0, .slot 8 (VP.bool (decide (((0 : Nat) : Int) < ((3 : Nat) : Int)))))] [] [0, 1, 2] [] rfl rfl follow rfl ⟨
      .inl ⟨wants_plain rfl, does_cmp (m := ((0 : Nat) : Int)) (n := ((3 : Nat) : Int)) _ _ _ _ _ rfl rfl rfl rfl rfl rfl .i64 (ar_tmp (av_fs 2 rfl)) (ar_tmp (av_fs 1 rfl))⟩,
      trivial⟩ ?_
    refine nx_sub (fs' := [.rows 5 3 (fodd3_EC_c p0 q0 p1 q1 x2 y2), .slot 6 (VP.int .i64 ((3 : Nat) : Int)), .slot 7 (VP.int .i64 ((0 : Nat) : Int)), .slot 8 (VP.bool (decide (((0 : Nat) : Int) < ((3 : Nat) : Int))))]) [0, 1, 2, 3] rfl ?_
    refine nx_then ?_
    refine t_seq ?_
    refine t_cond_te 3 rfl rfl ?_
    refine t_skip ?_
    refine nx_then ?_
    refine t_seq ?_
    refine t_block ?_
    refine t_seq ?_
    refine t_region (F := ⟨_, _, _, _⟩) [.rows 5 3 (fodd3_EC_c p0 q0 p1 q1 x2 y2), .slot 6 (VP.int .i64 ((3 : Nat) : Int)), .slot 7 (VP.int .i64 ((0 : Nat) : Int)), .slot 8 (VP.bool (decide (((0 : Nat) : Int) < ((3 : Nat) : Int))))] [] [(0, .rp 9 5 0), (1, .slot 10 (VP.agg [Bz p0, Dz p0, Bz q0, Dz q0])), (2, .own 4 26 4), (3, .box 4 26 [Bz p0, Dz p0, Bz q0, Dz q0])] [] [0, 1, 2, 3] [] rfl rfl follow rfl ⟨
      .inl ⟨wants_plain rfl, does_indexRows (m := 0) (sz := 4) _ _ rfl Try.underlying122 (fun w => run_sizeAgg ty_agg_api_Frac w) rfl rfl rfl rfl rfl rfl (by decide) rfl (av_fs 0 rfl) (ar_tmp (av_fs 2 rfl))⟩,
      .inl ⟨wants_plain rfl, does_loadRows _ rfl ty_agg_api_Frac rfl rfl rfl rfl rfl rfl rfl (av_rs 0 rfl rfl) (av_fs 0 rfl)⟩,
      .inl ⟨wants_plain rfl, does_allocOwn [Bz 0, Dz 0, Bz 0, Dz 0] ty_zero_api_Frac rfl rfl rfl rfl rfl z_frac rfl⟩,
      .inl ⟨wants_plain rfl, does_storeNew 4 _ _ ty_agg_api_Frac rfl rfl rfl rfl rfl (pt_own (av_rs 2 rfl rfl)) (av_rs 2 rfl rfl) (ar_tmp (av_rs 1 rfl rfl))⟩,
      trivial⟩ ?_
    refine nx_sub (fs' := [.rows 5 3 (fodd3_EC_c p0 q0 p1 q1 x2 y2), .slot 6 (VP.int .i64 ((3 : Nat) : Int)), .slot 7 (VP.int .i64 ((0 : Nat) : Int)), .slot 8 (VP.bool (decide (((0 : Nat) : Int) < ((3 : Nat) : Int)))), .rp 9 5 0, .slot 10 (VP.agg [Bz p0, Dz p0, Bz q0, Dz q0]), .box 4 26 [Bz p0, Dz p0, Bz q0, Dz q0]]) [0, 1, 2, 3, 4, 5, 7] rfl ?_
    refine nx_then ?_
    refine t_seq ?_
    refine t_region (F := ⟨_, _, _, _⟩) [.rows 5 3 (fodd3_EC_c p0 q0 p1 q1 x2 y2), .slot 6 (VP.int .i64 ((3 : Nat) : Int)), .slot 7 (VP.int .i64 ((0 : Nat) : Int)), .slot 8 (VP.bool (decide (((0 : Nat) : Int) < ((3 : Nat) : Int)))), .rp 9 5 0, .slot 10 (VP.agg [Bz p0, Dz p0, Bz q0, Dz q0]), .box 4 26 [Bz p0, Dz p0, Bz q0, Dz q0]] [] [(0, .fp 11 4 0), (1, .slot 12 (INT p0)), (2, .fp 13 4 2), (3, .slot 14 (INT q0)), (4, .arr 15 24 2 [Bz p0, Dz p0, Bz q0, Dz q0]), (5, .slot 16 (VP.bool false)), (6, .slot 17 (VP.bool false)), (7, .fp 18 4 0), (8, .fp 19 4 1), (9, .slot 20 (Dz p0)), (10, .slot 21 (VP.int .i64 (((dg BB p0.natAbs).length : Nat) : Int))), (11, .slot 22 (VP.bool (decide ((((dg BB p0.natAbs).length : Nat) : Int) > 5)))), (12, .slot 23 (VP.bool (decide ((((dg BB p0.natAbs).length : Nat) : Int) > 5)))), (13, .slot 24 (VP.bool (decide ((((dg BB p0.natAbs).length : Nat) : Int) > 5)))), (14, .fp 25 4 2), (15, .fp 26 4 3), (16, .slot 27 (Dz q0)), (17, .slot 28 (VP.int .i64 (((dg BB q0.natAbs).length : Nat) : Int))), (18, .slot 29 (VP.bool (decide ((((dg BB q0.natAbs).length : Nat) : Int) > 5)))), (19, .slot 30 (VP.bool (decide ((((dg BB q0.natAbs).length : Nat) : Int) > 5)))), (20, .slot 31 (VP.bool (decide ((((dg BB q0.natAbs).length : Nat) : Int) > 5)))), (21, .slot 32 (VP.agg [Bz p0, Dz p0, Bz q0, Dz q0])), (22, .slot 33 (VP.bool (rightF p0 q0))), (23, .slot 34 (VP.bool false)), (24, .slot 35 (VP.bool false))] [] [0, 1, 2, 3, 4, 5, 6] [] rfl rfl follow rfl ⟨
      .inl ⟨wants_plain rfl, does_field _ _ _ 0 ty_f0_api_Frac rfl rfl rfl rfl rfl rfl rfl (pt_box (av_fs 6 rfl))⟩,
      .inl ⟨wants_plain rfl, does_loadAgg _ ty_agg_api_Int rfl rfl rfl rfl rfl rfl (pt_fp (av_rs 0 rfl rfl)) (av_fs 6 rfl)⟩,
      .inl ⟨wants_plain rfl, does_field _ _ _ 2 ty_f1_api_Frac rfl rfl rfl rfl rfl rfl rfl (pt_box (av_fs 6 rfl))⟩,
      .inl ⟨wants_plain rfl, does_loadAgg _ ty_agg_api_Int rfl rfl rfl rfl rfl rfl (pt_fp (av_rs 2 rfl rfl)) (av_fs 6 rfl)⟩,
      .inl ⟨wants_plain rfl, does_buildSlice (sz := 2) [Bz 0, Dz 0, Bz 0, Dz 0] ty_zero_api_Int (by kernel_rfl) (fun w => run_sizeAgg ty_agg_api_Int w) rfl rfl rfl rfl rfl rfl (by kernel_rfl) (fun w => by exact z_int_2 w) (.cons 0 [Bz p0, Dz p0] rfl rfl (ar_cells_agg (ar_tmp (av_rs 1 rfl rfl))) (.cons 2 [Bz q0, Dz q0] rfl rfl (ar_cells_agg (ar_tmp (av_rs 3 rfl rfl))) (.nil _)))⟩,
      .inl ⟨wants_plain rfl, does_call (s_even2 p0 q0 (lle hp0 (by decide)) (lle hq0 (by decide))) rfl hb_collator_collatorlaw01_Odd rfl rfl rfl rfl ⟨(ar_arr (av_rs 4 rfl rfl)), trivial⟩⟩,
      .inl ⟨wants_plain rfl, does_move _ (.inl rfl) rfl rfl rfl rfl (ar_tmp (av_rs 5 rfl rfl))⟩,
      .inl ⟨wants_guard false rfl rfl rfl (av_rs 6 rfl rfl), does_field _ _ _ 0 ty_f0_api_Frac rfl rfl rfl rfl rfl rfl rfl (pt_box (av_fs 6 rfl))⟩,
      .inl ⟨wants_guard false rfl rfl rfl (av_rs 6 rfl rfl), does_field _ _ _ 1 ty_f1_api_Int rfl rfl rfl rfl rfl rfl rfl (pt_fp (av_rs 7 rfl rfl))⟩,
      .inl ⟨wants_guard false rfl rfl rfl (av_rs 6 rfl rfl), does_loadOne _ ty_one___uint32 rfl rfl rfl rfl rfl rfl (pt_fp (av_rs 8 rfl rfl)) (av_fs 6 rfl)⟩,
      .inl ⟨wants_guard false rfl rfl rfl (av_rs 6 rfl rfl), does_len _ _ (by kernel_rfl) rfl rfl rfl rfl rfl (ar_tmp (av_rs 9 rfl rfl))⟩,
      .inl ⟨wants_guard false rfl rfl rfl (av_rs 6 rfl rfl), does_cmp (m := (((dg BB p0.natAbs).length : Nat) : Int)) (n := 5) _ _ _ _ _ rfl rfl rfl rfl rfl rfl .i64 (ar_tmp (av_rs 10 rfl rfl)) (ar_const (fun _ => rfl))⟩,
      .inl ⟨wants_plain rfl, does_pick false _ _ _ rfl rfl rfl rfl rfl (ar_tmp (av_rs 6 rfl rfl)) (ar_tmp (av_rs 11 rfl rfl))⟩,
      .inl ⟨wants_plain rfl, does_move _ (.inl rfl) rfl rfl rfl rfl (ar_tmp (av_rs 12 rfl rfl))⟩,
      .inl ⟨wants_guard false rfl rfl rfl (av_bool (gt5_no hp0) (av_rs 13 rfl rfl)), does_field _ _ _ 2 ty_f1_api_Frac rfl rfl rfl rfl rfl rfl rfl (pt_box (av_fs 6 rfl))⟩,
      .inl ⟨wants_guard false rfl rfl rfl (av_bool (gt5_no hp0) (av_rs 13 rfl rfl)), does_field _ _ _ 1 ty_f1_api_Int rfl rfl rfl rfl rfl rfl rfl (pt_fp (av_rs 14 rfl rfl))⟩,
      .inl ⟨wants_guard false rfl rfl rfl (av_bool (gt5_no hp0) (av_rs 13 rfl rfl)), does_loadOne _ ty_one___uint32 rfl rfl rfl rfl rfl rfl (pt_fp (av_rs 15 rfl rfl)) (av_fs 6 rfl)⟩,
      .inl ⟨wants_guard false rfl rfl rfl (av_bool (gt5_no hp0) (av_rs 13 rfl rfl)), does_len _ _ (by kernel_rfl) rfl rfl rfl rfl rfl (ar_tmp (av_rs 16 rfl rfl))⟩,
      .inl ⟨wants_guard false rfl rfl rfl (av_bool (gt5_no hp0) (av_rs 13 rfl rfl)), does_cmp (m := (((dg BB q0.natAbs).length : Nat) : Int)) (n := 5) _ _ _ _ _ rfl rfl rfl rfl rfl rfl .i64 (ar_tmp (av_rs 17 rfl rfl)) (ar_const (fun _ => rfl))⟩,
      .inl ⟨wants_plain rfl, does_pick false _ _ _ rfl rfl rfl rfl rfl (ar_tmp (av_bool (gt5_no hp0) (av_rs 13 rfl rfl))) (ar_tmp (av_rs 18 rfl rfl))⟩,
      .inl ⟨wants_plain rfl, does_move _ (.inl rfl) rfl rfl rfl rfl (ar_tmp (av_rs 19 rfl rfl))⟩,
      .inl ⟨wants_guard false rfl rfl rfl (av_bool (gt5_no hq0) (av_rs 20 rfl rfl)), does_loadAgg _ ty_agg_api_Frac rfl rfl rfl rfl rfl rfl (pt_box (av_fs 6 rfl)) (av_fs 6 rfl)⟩,
      .inl ⟨wants_guard false rfl rfl rfl (av_bool (gt5_no hq0) (av_rs 20 rfl rfl)), does_call (g_right p0 q0 (lle hp0 (by decide)) (lle hq0 (by decide))) rfl hb_collator_collatorref02_Right rfl rfl rfl rfl ⟨(ar_tmp (av_rs 21 rfl rfl)), trivial⟩⟩,
      .inl ⟨wants_guard false rfl rfl rfl (av_bool (gt5_no hq0) (av_rs 20 rfl rfl)), does_not true _ _ rfl rfl rfl rfl rfl (ar_tmp (av_bool hb0 (av_rs 22 rfl rfl)))⟩,
      .inl ⟨wants_plain rfl, does_pick false _ _ _ rfl rfl rfl rfl rfl (ar_tmp (av_bool (gt5_no hq0) (av_rs 20 rfl rfl))) (ar_tmp (av_rs 23 rfl rfl))⟩,
      trivial⟩ ?_
    refine nx_sub (fs' := [.rows 5 3 (fodd3_EC_c p0 q0 p1 q1 x2 y2), .slot 6 (VP.int .i64 ((3 : Nat) : Int)), .slot 7 (VP.int .i64 ((0 : Nat) : Int)), .slot 8 (VP.bool (decide (((0 : Nat) : Int) < ((3 : Nat) : Int)))), .rp 9 5 0, .slot 10 (VP.agg [Bz p0, Dz p0, Bz q0, Dz q0]), .box 4 26 [Bz p0, Dz p0, Bz q0, Dz q0], .fp 11 4 0, .slot 12 (INT p0), .fp 13 4 2, .slot 14 (INT q0), .arr 15 24 2 [Bz p0, Dz p0, Bz q0, Dz q0], .slot 16 (VP.bool false), .slot 17 (VP.bool false), .fp 18 4 0, .fp 19 4 1, .slot 20 (Dz p0), .slot 21 (VP.int .i64 (((dg BB p0.natAbs).length : Nat) : Int)), .slot 22 (VP.bool (decide ((((dg BB p0.natAbs).length : Nat) : Int) > 5))), .slot 23 (VP.bool (decide ((((dg BB p0.natAbs).length : Nat) : Int) > 5))), .slot 24 (VP.bool (decide ((((dg BB p0.natAbs).length : Nat) : Int) > 5))), .fp 25 4 2, .fp 26 4 3, .slot 27 (Dz q0), .slot 28 (VP.int .i64 (((dg BB q0.natAbs).length : Nat) : Int)), .slot 29 (VP.bool (decide ((((dg BB q0.natAbs).length : Nat) : Int) > 5))), .slot 30 (VP.bool (decide ((((dg BB q0.natAbs).length : Nat) : Int) > 5))), .slot 31 (VP.bool (decide ((((dg BB q0.natAbs).length : Nat) : Int) > 5))), .slot 32 (VP.agg [Bz p0, Dz p0, Bz q0, Dz q0]), .slot 33 (VP.bool (rightF p0 q0)), .slot 34 (VP.bool false), .slot 35 (VP.bool false)]) [0, 1, 2, 3, 4, 5, 6, 7, 8, 9, 10, 11, 12, 13, 14, 15, 16, 17, 18, 19, 20, 21, 22, 23, 24, 25, 26, 27, 28, 29, 30, 31] rfl ?_
    refine nx_then ?_
    refine t_cond_f 31 rfl ?_
    refine t_skip ?_
    refine nx_block ?_
    refine nx_then ?_
    refine t_region (F := ⟨_, _, _, _⟩) [.rows 5 3 (fodd3_EC_c p0 q0 p1 q1 x2 y2), .slot 6 (VP.int .i64 ((3 : Nat) : Int)), .slot 8 (VP.bool (decide (((0 : Nat) : Int) < ((3 : Nat) : Int)))), .rp 9 5 0, .slot 10 (VP.agg [Bz p0, Dz p0, Bz q0, Dz q0]), .box 4 26 [Bz p0, Dz p0, Bz q0, Dz q0], .fp 11 4 0, .slot 12 (INT p0), .fp 13 4 2, .slot 14 (INT q0), .arr 15 24 2 [Bz p0, Dz p0, Bz q0, Dz q0], .slot 16 (VP.bool false), .slot 17 (VP.bool false), .fp 18 4 0, .fp 19 4 1, .slot 20 (Dz p0), .slot 21 (VP.int .i64 (((dg BB p0.natAbs).length : Nat) : Int)), .slot 22 (VP.bool (decide ((((dg BB p0.natAbs).length : Nat) : Int) > 5))), .slot 23 (VP.bool (decide ((((dg BB p0.natAbs).length : Nat) : Int) > 5))), .slot 24 (VP.bool (decide ((((dg BB p0.natAbs).length : Nat) : Int) > 5))), .fp 25 4 2, .fp 26 4 3, .slot 27 (Dz q0), .slot 28 (VP.int .i64 (((dg BB q0.natAbs).length : Nat) : Int)), .slot 29 (VP.bool (decide ((((dg BB q0.natAbs).length : Nat) : Int) > 5))), .slot 30 (VP.bool (decide ((((dg BB q0.natAbs).length : Nat) : Int) > 5))), .slot 31 (VP.bool (decide ((((dg BB q0.natAbs).length : Nat) : Int) > 5))), .slot 32 (VP.agg [Bz p0, Dz p0, Bz q0, Dz q0]), .slot 33 (VP.bool (rightF p0 q0)), .slot 34 (VP.bool false), .slot 35 (VP.bool false)] [(1, .slot 7 (VP.int .i64 ((0 : Nat) : Int)))] [(0, .slot 36 (VP.int .i64 ((1 : Nat) : Int))), (1, .slot 7 (VP.int .i64 ((1 : Nat) : Int)))] [] [0, 1, 3, 4, 5, 6, 7, 8, 9, 10, 11, 12, 13, 14, 15, 16, 17, 18, 19, 20, 21, 22, 23, 24, 25, 26, 27, 28, 29, 30, 31] [2] rfl rfl follow rfl ⟨
      .inl ⟨wants_plain rfl, does_addInt (m := ((0 : Nat) : Int)) (n := 1) _ _ _ _ rfl rfl rfl rfl rfl (by omega) (ar_tmp (av_os 0 rfl rfl)) (ar_const (fun _ => rfl))⟩,
      .inl ⟨wants_plain rfl, does_move _ (.inl rfl) rfl rfl rfl rfl (ar_tmp (av_rs 0 rfl rfl))⟩,
      trivial⟩ ?_
    refine nx_sub (fs' := [.rows 5 3 (fodd3_EC_c p0 q0 p1 q1 x2 y2), .slot 6 (VP.int .i64 ((3 : Nat) : Int)), .slot 8 (VP.bool (decide (((0 : Nat) : Int) < ((3 : Nat) : Int)))), .rp 9 5 0, .slot 10 (VP.agg [Bz p0, Dz p0, Bz q0, Dz q0]), .box 4 26 [Bz p0, Dz p0, Bz q0, Dz q0], .fp 11 4 0, .slot 12 (INT p0), .fp 13 4 2, .slot 14 (INT q0), .arr 15 24 2 [Bz p0, Dz p0, Bz q0, Dz q0], .slot 16 (VP.bool false), .slot 17 (VP.bool false), .fp 18 4 0, .fp 19 4 1, .slot 20 (Dz p0), .slot 21 (VP.int .i64 (((dg BB p0.natAbs).length : Nat) : Int)), .slot 22 (VP.bool (decide ((((dg BB p0.natAbs).length : Nat) : Int) > 5))), .slot 23 (VP.bool (decide ((((dg BB p0.natAbs).length : Nat) : Int) > 5))), .slot 24 (VP.bool (decide ((((dg BB p0.natAbs).length : Nat) : Int) > 5))), .fp 25 4 2, .fp 26 4 3, .slot 27 (Dz q0), .slot 28 (VP.int .i64 (((dg BB q0.natAbs).length : Nat) : Int)), .slot 29 (VP.bool (decide ((((dg BB q0.natAbs).length : Nat) : Int) > 5))), .slot 30 (VP.bool (decide ((((dg BB q0.natAbs).length : Nat) : Int) > 5))), .slot 31 (VP.bool (decide ((((dg BB q0.natAbs).length : Nat) : Int) > 5))), .slot 32 (VP.agg [Bz p0, Dz p0, Bz q0, Dz q0]), .slot 33 (VP.bool (rightF p0 q0)), .slot 34 (VP.bool false), .slot 35 (VP.bool false), .slot 36 (VP.int .i64 ((1 : Nat) : Int)), .slot 7 (VP.int .i64 ((1 : Nat) : Int))]) [0, 1, 2, 3, 4, 5, 6, 7, 8, 9, 10, 11, 12, 13, 14, 15, 16, 17, 18, 19, 20, 21, 22, 23, 24, 25, 26, 27, 28, 29, 30, 31, 32] rfl ?_
    exact nx_round ⟨1, by decide⟩ (by show 3 - 1 < 3 - 0; decide) [0, 1, 32] rfl
  case inr =>
    refine t_seq ?_
    refine t_region (F := ⟨_, _, _, _⟩) [.rows 5 3 (fodd3_EC_c p0 q0 p1 q1 x2 y2), .slot 6 (VP.int .i64 ((3 : Nat) : Int)), .slot 7 (VP.int .i64 ((1 : Nat) : Int))] [] [(0, .slot 8 (VP.bool (decide (((1 : Nat) : Int) < ((3 : Nat) : Int)))))] [] [0, 1, 2] [] rfl rfl follow rfl ⟨
      .inl ⟨wants_plain rfl, does_cmp (m := ((1 : Nat) : Int)) (n := ((3 : Nat) : Int)) _ _ _ _ _ rfl rfl rfl rfl rfl rfl .i64 (ar_tmp (av_fs 2 rfl)) (ar_tmp (av_fs 1 rfl))⟩,
      trivial⟩ ?_
    refine nx_sub (fs' := [.rows 5 3 (fodd3_EC_c p0 q0 p1 q1 x2 y2), .slot 6 (VP.int .i64 ((3 : Nat) : Int)), .slot 7 (VP.int .i64 ((1 : Nat) : Int)), .slot 8 (VP.bool (decide (((1 : Nat) : Int) < ((3 : Nat) : Int))))]) [0, 1, 2, 3] rfl ?_
    refine nx_then ?_
    refine t_seq ?_
    refine t_cond_te 3 rfl rfl ?_
    refine t_skip ?_
    refine nx_then ?_
    refine t_seq ?_
    refine t_block ?_
    refine t_seq ?_
    refine t_region (F := ⟨_, _, _, _⟩) [.rows 5 3 (fodd3_EC_c p0 q0 p1 q1 x2 y2), .slot 6 (VP.int .i64 ((3 : Nat) : Int)), .slot 7 (VP.int .i64 ((1 : Nat) : Int)), .slot 8 (VP.bool (decide (((1 : Nat) : Int) < ((3 : Nat) : Int))))] [] [(0, .rp 9 5 4), (1, .slot 10 (VP.agg [Bz p1, Dz p1, Bz q1, Dz q1])), (2, .own 4 26 4), (3, .box 4 26 [Bz p1, Dz p1, Bz q1, Dz q1])] [] [0, 1, 2, 3] [] rfl rfl follow rfl ⟨
      .inl ⟨wants_plain rfl, does_indexRows (m := 1) (sz := 4) _ _ rfl Try.underlying122 (fun w => run_sizeAgg ty_agg_api_Frac w) rfl rfl rfl rfl rfl rfl (by decide) rfl (av_fs 0 rfl) (ar_tmp (av_fs 2 rfl))⟩,
      .inl ⟨wants_plain rfl, does_loadRows _ rfl ty_agg_api_Frac rfl rfl rfl rfl rfl rfl rfl (av_rs 0 rfl rfl) (av_fs 0 rfl)⟩,
      .inl ⟨wants_plain rfl, does_allocOwn [Bz 0, Dz 0, Bz 0, Dz 0] ty_zero_api_Frac rfl rfl rfl rfl rfl z_frac rfl⟩,
      .inl ⟨wants_plain rfl, does_storeNew 4 _ _ ty_agg_api_Frac rfl rfl rfl rfl rfl (pt_own (av_rs 2 rfl rfl)) (av_rs 2 rfl rfl) (ar_tmp (av_rs 1 rfl rfl))⟩,
      trivial⟩ ?_
    refine nx_sub (fs' := [.rows 5 3 (fodd3_EC_c p0 q0 p1 q1 x2 y2), .slot 6 (VP.int .i64 ((3 : Nat) : Int)), .slot 7 (VP.int .i64 ((1 : Nat) : Int)), .slot 8 (VP.bool (decide (((1 : Nat) : Int) < ((3 : Nat) : Int)))), .rp 9 5 4, .slot 10 (VP.agg [Bz p1, Dz p1, Bz q1, Dz q1]), .box 4 26 [Bz p1, Dz p1, Bz q1, Dz q1]]) [0, 1, 2, 3, 4, 5, 7] rfl ?_
    refine nx_then ?_
    refine t_seq ?_
    refine t_region (F := ⟨_, _, _, _⟩) [.rows 5 3 (fodd3_EC_c p0 q0 p1 q1 x2 y2), .slot 6 (VP.int .i64 ((3 : Nat) : Int)), .slot 7 (VP.int .i64 ((1 : Nat) : Int)), .slot 8 (VP.bool (decide (((1 : Nat) : Int) < ((3 : Nat) : Int)))), .rp 9 5 4, .slot 10 (VP.agg [Bz p1, Dz p1, Bz q1, Dz q1]), .box 4 26 [Bz p1, Dz p1, Bz q1, Dz q1]] [] [(0, .fp 11 4 0), (1, .slot 12 (INT p1)), (2, .fp 13 4 2), (3, .slot 14 (INT q1)), (4, .arr 15 24 2 [Bz p1, Dz p1, Bz q1, Dz q1]), (5, .slot 16 (VP.bool false)), (6, .slot 17 (VP.bool false)), (7, .fp 18 4 0), (8, .fp 19 4 1), (9, .slot 20 (Dz p1)), (10, .slot 21 (VP.int .i64 (((dg BB p1.natAbs).length : Nat) : Int))), (11, .slot 22 (VP.bool (decide ((((dg BB p1.natAbs).length : Nat) : Int) > 5)))), (12, .slot 23 (VP.bool (decide ((((dg BB p1.natAbs).length : Nat) : Int) > 5)))), (13, .slot 24 (VP.bool (decide ((((dg BB p1.natAbs).length : Nat) : Int) > 5)))), (14, .fp 25 4 2), (15, .fp 26 4 3), (16, .slot 27 (Dz q1)), (17, .slot 28 (VP.int .i64 (((dg BB q1.natAbs).length : Nat) : Int))), (18, .slot 29 (VP.bool (decide ((((dg BB q1.natAbs).length : Nat) : Int) > 5)))), (19, .slot 30 (VP.bool (decide ((((dg BB q1.natAbs).length : Nat) : Int) > 5)))), (20, .slot 31 (VP.bool (decide ((((dg BB q1.natAbs).length : Nat) : Int) > 5)))), (21, .slot 32 (VP.undef)), (22, .slot 33 (VP.undef)), (23, .slot 34 (VP.undef)), (24, .slot 35 (VP.bool true))] [] [0, 1, 2, 3, 4, 5, 6] [] rfl rfl follow rfl ⟨
      .inl ⟨wants_plain rfl, does_field _ _ _ 0 ty_f0_api_Frac rfl rfl rfl rfl rfl rfl rfl (pt_box (av_fs 6 rfl))⟩,
      .inl ⟨wants_plain rfl, does_loadAgg _ ty_agg_api_Int rfl rfl rfl rfl rfl rfl (pt_fp (av_rs 0 rfl rfl)) (av_fs 6 rfl)⟩,
      .inl ⟨wants_plain rfl, does_field _ _ _ 2 ty_f1_api_Frac rfl rfl rfl rfl rfl rfl rfl (pt_box (av_fs 6 rfl))⟩,
      .inl ⟨wants_plain rfl, does_loadAgg _ ty_agg_api_Int rfl rfl rfl rfl rfl rfl (pt_fp (av_rs 2 rfl rfl)) (av_fs 6 rfl)⟩,
      .inl ⟨wants_plain rfl, does_buildSlice (sz := 2) [Bz 0, Dz 0, Bz 0, Dz 0] ty_zero_api_Int (by kernel_rfl) (fun w => run_sizeAgg ty_agg_api_Int w) rfl rfl rfl rfl rfl rfl (by kernel_rfl) (fun w => by exact z_int_2 w) (.cons 0 [Bz p1, Dz p1] rfl rfl (ar_cells_agg (ar_tmp (av_rs 1 rfl rfl))) (.cons 2 [Bz q1, Dz q1] rfl rfl (ar_cells_agg (ar_tmp (av_rs 3 rfl rfl))) (.nil _)))⟩,
      .inl ⟨wants_plain rfl, does_call (s_even2 p1 q1 (lle hp1 (by decide)) hq1) rfl hb_collator_collatorlaw01_Odd rfl rfl rfl rfl ⟨(ar_arr (av_rs 4 rfl rfl)), trivial⟩⟩,
      .inl ⟨wants_plain rfl, does_move _ (.inl rfl) rfl rfl rfl rfl (ar_tmp (av_rs 5 rfl rfl))⟩,
      .inl ⟨wants_guard false rfl rfl rfl (av_rs 6 rfl rfl), does_field _ _ _ 0 ty_f0_api_Frac rfl rfl rfl rfl rfl rfl rfl (pt_box (av_fs 6 rfl))⟩,
      .inl ⟨wants_guard false rfl rfl rfl (av_rs 6 rfl rfl), does_field _ _ _ 1 ty_f1_api_Int rfl rfl rfl rfl rfl rfl rfl (pt_fp (av_rs 7 rfl rfl))⟩,
      .inl ⟨wants_guard false rfl rfl rfl (av_rs 6 rfl rfl), does_loadOne _ ty_one___uint32 rfl rfl rfl rfl rfl rfl (pt_fp (av_rs 8 rfl rfl)) (av_fs 6 rfl)⟩,
      .inl ⟨wants_guard false rfl rfl rfl (av_rs 6 rfl rfl), does_len _ _ (by kernel_rfl) rfl rfl rfl rfl rfl (ar_tmp (av_rs 9 rfl rfl))⟩,
      .inl ⟨wants_guard false rfl rfl rfl (av_rs 6 rfl rfl), does_cmp (m := (((dg BB p1.natAbs).length : Nat) : Int)) (n := 5) _ _ _ _ _ rfl rfl rfl rfl rfl rfl .i64 (ar_tmp (av_rs 10 rfl rfl)) (ar_const (fun _ => rfl))⟩,
      .inl ⟨wants_plain rfl, does_pick false _ _ _ rfl rfl rfl rfl rfl (ar_tmp (av_rs 6 rfl rfl)) (ar_tmp (av_rs 11 rfl rfl))⟩,
      .inl ⟨wants_plain rfl, does_move _ (.inl rfl) rfl rfl rfl rfl (ar_tmp (av_rs 12 rfl rfl))⟩,
      .inl ⟨wants_guard false rfl rfl rfl (av_bool (gt5_no hp1) (av_rs 13 rfl rfl)), does_field _ _ _ 2 ty_f1_api_Frac rfl rfl rfl rfl rfl rfl rfl (pt_box (av_fs 6 rfl))⟩,
      .inl ⟨wants_guard false rfl rfl rfl (av_bool (gt5_no hp1) (av_rs 13 rfl rfl)), does_field _ _ _ 1 ty_f1_api_Int rfl rfl rfl rfl rfl rfl rfl (pt_fp (av_rs 14 rfl rfl))⟩,
      .inl ⟨wants_guard false rfl rfl rfl (av_bool (gt5_no hp1) (av_rs 13 rfl rfl)), does_loadOne _ ty_one___uint32 rfl rfl rfl rfl rfl rfl (pt_fp (av_rs 15 rfl rfl)) (av_fs 6 rfl)⟩,
      .inl ⟨wants_guard false rfl rfl rfl (av_bool (gt5_no hp1) (av_rs 13 rfl rfl)), does_len _ _ (by kernel_rfl) rfl rfl rfl rfl rfl (ar_tmp (av_rs 16 rfl rfl))⟩,
      .inl ⟨wants_guard false rfl rfl rfl (av_bool (gt5_no hp1) (av_rs 13 rfl rfl)), does_cmp (m := (((dg BB q1.natAbs).length : Nat) : Int)) (n := 5) _ _ _ _ _ rfl rfl rfl rfl rfl rfl .i64 (ar_tmp (av_rs 17 rfl rfl)) (ar_const (fun _ => rfl))⟩,
      .inl ⟨wants_plain rfl, does_pick false _ _ _ rfl rfl rfl rfl rfl (ar_tmp (av_bool (gt5_no hp1) (av_rs 13 rfl rfl))) (ar_tmp (av_rs 18 rfl rfl))⟩,
      .inl ⟨wants_plain rfl, does_move _ (.inl rfl) rfl rfl rfl rfl (ar_tmp (av_rs 19 rfl rfl))⟩,
      .inr (skips_guardU true rfl rfl rfl (av_bool (gt5_yes hb1) (av_rs 20 rfl rfl)) rfl rfl rfl rfl),
      .inr (skips_guardU true rfl rfl rfl (av_bool (gt5_yes hb1) (av_rs 20 rfl rfl)) rfl rfl rfl rfl),
      .inr (skips_guardU true rfl rfl rfl (av_bool (gt5_yes hb1) (av_rs 20 rfl rfl)) rfl rfl rfl rfl),
      .inl ⟨wants_plain rfl, does_pick true _ _ _ rfl rfl rfl rfl rfl (ar_tmp (av_bool (gt5_yes hb1) (av_rs 20 rfl rfl))) (ar_const (fun _ => rfl))⟩,
      trivial⟩ ?_
    refine nx_sub (fs' := [.rows 5 3 (fodd3_EC_c p0 q0 p1 q1 x2 y2), .slot 6 (VP.int .i64 ((3 : Nat) : Int)), .slot 7 (VP.int .i64 ((1 : Nat) : Int)), .slot 8 (VP.bool (decide (((1 : Nat) : Int) < ((3 : Nat) : Int)))), .rp 9 5 4, .slot 10 (VP.agg [Bz p1, Dz p1, Bz q1, Dz q1]), .box 4 26 [Bz p1, Dz p1, Bz q1, Dz q1], .fp 11 4 0, .slot 12 (INT p1), .fp 13 4 2, .slot 14 (INT q1), .arr 15 24 2 [Bz p1, Dz p1, Bz q1, Dz q1], .slot 16 (VP.bool false), .slot 17 (VP.bool false), .fp 18 4 0, .fp 19 4 1, .slot 20 (Dz p1), .slot 21 (VP.int .i64 (((dg BB p1.natAbs).length : Nat) : Int)), .slot 22 (VP.bool (decide ((((dg BB p1.natAbs).length : Nat) : Int) > 5))), .slot 23 (VP.bool (decide ((((dg BB p1.natAbs).length : Nat) : Int) > 5))), .slot 24 (VP.bool (decide ((((dg BB p1.natAbs).length : Nat) : Int) > 5))), .fp 25 4 2, .fp 26 4 3, .slot 27 (Dz q1), .slot 28 (VP.int .i64 (((dg BB q1.natAbs).length : Nat) : Int)), .slot 29 (VP.bool (decide ((((dg BB q1.natAbs).length : Nat) : Int) > 5))), .slot 30 (VP.bool (decide ((((dg BB q1.natAbs).length : Nat) : Int) > 5))), .slot 31 (VP.bool (decide ((((dg BB q1.natAbs).length : Nat) : Int) > 5))), .slot 32 (VP.undef), .slot 33 (VP.undef), .slot 34 (VP.undef), .slot 35 (VP.bool true)]) [0, 1, 2, 3, 4, 5, 6, 7, 8, 9, 10, 11, 12, 13, 14, 15, 16, 17, 18, 19, 20, 21, 22, 23, 24, 25, 26, 27, 28, 29, 30, 31] rfl ?_
    refine nx_then ?_
    refine t_cond_t 31 rfl ?_
    refine t_seq ?_
    refine t_region (F := ⟨_, _, _, _⟩) [.rows 5 3 (fodd3_EC_c p0 q0 p1 q1 x2 y2), .slot 6 (VP.int .i64 ((3 : Nat) : Int)), .slot 7 (VP.int .i64 ((1 : Nat) : Int)), .slot 8 (VP.bool (decide (((1 : Nat) : Int) < ((3 : Nat) : Int)))), .rp 9 5 4, .slot 10 (VP.agg [Bz p1, Dz p1, Bz q1, Dz q1]), .box 4 26 [Bz p1, Dz p1, Bz q1, Dz q1], .fp 11 4 0, .slot 12 (INT p1), .fp 13 4 2, .slot 14 (INT q1), .arr 15 24 2 [Bz p1, Dz p1, Bz q1, Dz q1], .slot 16 (VP.bool false), .slot 17 (VP.bool false), .fp 18 4 0, .fp 19 4 1, .slot 20 (Dz p1), .slot 21 (VP.int .i64 (((dg BB p1.natAbs).length : Nat) : Int)), .slot 22 (VP.bool (decide ((((dg BB p1.natAbs).length : Nat) : Int) > 5))), .slot 23 (VP.bool (decide ((((dg BB p1.natAbs).length : Nat) : Int) > 5))), .slot 24 (VP.bool (decide ((((dg BB p1.natAbs).length : Nat) : Int) > 5))), .fp 25 4 2, .fp 26 4 3, .slot 27 (Dz q1), .slot 28 (VP.int .i64 (((dg BB q1.natAbs).length : Nat) : Int)), .slot 29 (VP.bool (decide ((((dg BB q1.natAbs).length : Nat) : Int) > 5))), .slot 30 (VP.bool (decide ((((dg BB q1.natAbs).length : Nat) : Int) > 5))), .slot 31 (VP.bool (decide ((((dg BB q1.natAbs).length : Nat) : Int) > 5))), .slot 32 (VP.undef), .slot 33 (VP.undef), .slot 34 (VP.undef), .slot 35 (VP.bool true)] [] [(0, .slot 2 (VP.bool true))] [] [0, 1, 2, 3, 4, 5, 6, 7, 8, 9, 10, 11, 12, 13, 14, 15, 16, 17, 18, 19, 20, 21, 22, 23, 24, 25, 26, 27, 28, 29, 30, 31] [] rfl rfl follow rfl ⟨
      .inl ⟨wants_plain rfl, does_move _ (.inr rfl) rfl rfl rfl rfl (ar_const (fun _ => rfl))⟩,
      trivial⟩ ?_
    refine nx_sub (fs' := [.rows 5 3 (fodd3_EC_c p0 q0 p1 q1 x2 y2), .slot 6 (VP.int .i64 ((3 : Nat) : Int)), .slot 7 (VP.int .i64 ((1 : Nat) : Int)), .slot 8 (VP.bool (decide (((1 : Nat) : Int) < ((3 : Nat) : Int)))), .rp 9 5 4, .slot 10 (VP.agg [Bz p1, Dz p1, Bz q1, Dz q1]), .box 4 26 [Bz p1, Dz p1, Bz q1, Dz q1], .fp 11 4 0, .slot 12 (INT p1), .fp 13 4 2, .slot 14 (INT q1), .arr 15 24 2 [Bz p1, Dz p1, Bz q1, Dz q1], .slot 16 (VP.bool false), .slot 17 (VP.bool false), .fp 18 4 0, .fp 19 4 1, .slot 20 (Dz p1), .slot 21 (VP.int .i64 (((dg BB p1.natAbs).length : Nat) : Int)), .slot 22 (VP.bool (decide ((((dg BB p1.natAbs).length : Nat) : Int) > 5))), .slot 23 (VP.bool (decide ((((dg BB p1.natAbs).length : Nat) : Int) > 5))), .slot 24 (VP.bool (decide ((((dg BB p1.natAbs).length : Nat) : Int) > 5))), .fp 25 4 2, .fp 26 4 3, .slot 27 (Dz q1), .slot 28 (VP.int .i64 (((dg BB q1.natAbs).length : Nat) : Int)), .slot 29 (VP.bool (decide ((((dg BB q1.natAbs).length : Nat) : Int) > 5))), .slot 30 (VP.bool (decide ((((dg BB q1.natAbs).length : Nat) : Int) > 5))), .slot 31 (VP.bool (decide ((((dg BB q1.natAbs).length : Nat) : Int) > 5))), .slot 32 (VP.undef), .slot 33 (VP.undef), .slot 34 (VP.undef), .slot 35 (VP.bool true), .slot 2 (VP.bool true)]) [0, 1, 2, 3, 4, 5, 6, 7, 8, 9, 10, 11, 12, 13, 14, 15, 16, 17, 18, 19, 20, 21, 22, 23, 24, 25, 26, 27, 28, 29, 30, 31, 32] rfl ?_
    refine nx_then ?_
    refine t_ret ?_
    refine rt_block ?_
    refine rt_then ?_
    refine rt_then ?_
    refine rt_block ?_
    refine rt_then ?_
    exact rt_one rfl (res_tmp 32 rfl)
abbrev fodd3_ED_c (p0 q0 : Int) (p1 q1 : Int) (x2 y2 : Raw) : List VP := [Bz p0, Dz p0, Bz q0, Dz q0, Bz p1, Dz p1, Bz q1, Dz q1, VP.bool x2.1, VP.nums .u32 x2.2, VP.bool y2.1, VP.nums .u32 y2.2]
set_option maxRecDepth 100000 in
set_option maxHeartbeats 4000000 in
theorem fodd3_ED (p0 q0 : Int) (hp0 : L p0 ≤ 5) (hq0 : L q0 ≤ 5) (hb0 : rightF p0 q0 = true) (p1 q1 : Int) (hp1 : L p1 ≤ 5) (hq1 : L q1 ≤ 5) (hb1 : rightF p1 q1 = false) (x2 y2 : Raw) : Spec Try.prog 16 [isRows 3 (fodd3_ED_c p0 q0 p1 q1 x2 y2)] (VP.bool true) := by
  refine spec_ofP (xs := [.rows 3 (fodd3_ED_c p0 q0 p1 q1 x2 y2)]) 37 [4] Try.func16 rfl Try.ntmps16 rfl fun w0 => ?_
  refine t_seq ?_
  refine t_region (F := ⟨_, _, _, _⟩) [.rows 0 3 (fodd3_ED_c p0 q0 p1 q1 x2 y2)] [] [(0, .slot 2 (VP.bool false))] [] [0] [] rfl rfl follow rfl ⟨
    .inl ⟨wants_plain rfl, does_move _ (.inr rfl) rfl rfl rfl rfl (ar_const (fun _ => rfl))⟩,
    trivial⟩ ?_
  refine nx_sub (fs' := [.rows 0 3 (fodd3_ED_c p0 q0 p1 q1 x2 y2), .slot 2 (VP.bool false)]) [0, 1] rfl ?_
  refine nx_then ?_
  refine t_seq ?_
  refine t_seq ?_
  refine t_region (F := ⟨_, _, _, _⟩) [.rows 0 3 (fodd3_ED_c p0 q0 p1 q1 x2 y2), .slot 2 (VP.bool false)] [] [(0, .rows 5 3 (fodd3_ED_c p0 q0 p1 q1 x2 y2)), (1, .slot 6 (VP.int .i64 ((3 : Nat) : Int))), (2, .slot 7 (VP.int .i64 0))] [] [0, 1] [] rfl rfl follow rfl ⟨
    .inl ⟨wants_plain rfl, does_moveRows _ (.inl rfl) rfl rfl rfl rfl rfl (av_fs 0 rfl)⟩,
    .inl ⟨wants_plain rfl, does_lenRows _ _ rfl (by kernel_rfl) rfl rfl rfl rfl rfl (av_rs 0 rfl rfl)⟩,
    .inl ⟨wants_plain rfl, does_move _ (.inl rfl) rfl rfl rfl rfl (ar_const (fun _ => rfl))⟩,
    trivial⟩ ?_
  refine nx_sub (fs' := [.slot 2 (VP.bool false), .rows 5 3 (fodd3_ED_c p0 q0 p1 q1 x2 y2), .slot 6 (VP.int .i64 ((3 : Nat) : Int)), .slot 7 (VP.int .i64 0)]) [1, 2, 3, 4] rfl ?_
  refine nx_then ?_
  refine t_block ?_
  refine t_loop (σ := {k : Nat // k ≤ 1}) (fun s => [.rows 5 3 (fodd3_ED_c p0 q0 p1 q1 x2 y2), .slot 6 (VP.int .i64 ((3 : Nat) : Int)), .slot 7 (VP.int .i64 ((s.1 : Nat) : Int))]) (fun s => 3 - s.1) (⟨0, by decide⟩) [1, 2, 3] rfl ?_
  intro s
  obtain ⟨k, hk⟩ := s
  have hc : k = 0 ∨ k = 1 := by omega
  rcases hc with rfl | rfl
  case inl =>
    refine t_seq ?_
    refine t_region (F := ⟨_, _, _, _⟩) [.rows 5 3 (fodd3_ED_c p0 q0 p1 q1 x2 y2), .slot 6 (VP.int .i64 ((3 : Nat) : Int)), .slot 7 (VP.int .i64 ((0 : Nat) : Int))] [] [(0, .slot 8 (VP.bool (decide (((0 : Nat) : Int) < ((3 : Nat) : Int)))))] [] [0, 1, 2] [] rfl rfl follow rfl ⟨
      .inl ⟨wants_plain rfl, does_cmp (m := ((0 : Nat) : Int)) (n := ((3 : Nat) : Int)) _ _ _ _ _ rfl rfl rfl rfl rfl rfl .i64 (ar_tmp (av_fs 2 rfl)) (ar_tmp (av_fs 1 rfl))⟩,
      trivial⟩ ?_
    refine nx_sub (fs' := [.rows 5 3 (fodd3_ED_c p0 q0 p1 q1 x2 y2), .slot 6 (VP.int .i64 ((3 : Nat) : Int)), .slot 7 (VP.int .i64 ((0 : Nat) : Int)), .slot 8 (VP.bool (decide (((0 : Nat) : Int) < ((3 : Nat) : Int))))]) [0, 1, 2, 3] rfl ?_
    refine nx_then ?_
    refine t_seq ?_
    refine t_cond_te 3 rfl rfl ?_
    refine t_skip ?_
    refine nx_then ?_
    refine t_seq ?_
    refine t_block ?_
    refine t_seq ?_
    refine t_region (F := ⟨_, _, _, _⟩) [.rows 5 3 (fodd3_ED_c p0 q0 p1 q1 x2 y2), .slot 6 (VP.int .i64 ((3 : Nat) : Int)), .slot 7 (VP.int .i64 ((0 : Nat) : Int)), .slot 8 (VP.bool (decide (((0 : Nat) : Int) < ((3 : Nat) : Int))))] [] [(0, .rp 9 5 0), (1, .slot 10 (VP.agg [Bz p0, Dz p0, Bz q0, Dz q0])), (2, .own 4 26 4), (3, .box 4 26 [Bz p0, Dz p0, Bz q0, Dz q0])] [] [0, 1, 2, 3] [] rfl rfl follow rfl ⟨
      .inl ⟨wants_plain rfl, does_indexRows (m := 0) (sz := 4) _ _ rfl Try.underlying122 (fun w => run_sizeAgg ty_agg_api_Frac w) rfl rfl rfl rfl rfl rfl (by decide) rfl (av_fs 0 rfl) (ar_tmp (av_fs 2 rfl))⟩,
      .inl ⟨wants_plain rfl, does_loadRows _ rfl ty_agg_api_Frac rfl rfl rfl rfl rfl rfl rfl (av_rs 0 rfl rfl) (av_fs 0 rfl)⟩,
      .inl ⟨wants_plain rfl, does_allocOwn [Bz 0, Dz 0, Bz 0, Dz 0] ty_zero_api_Frac rfl rfl rfl rfl rfl z_frac rfl⟩,
      .inl ⟨wants_plain rfl, does_storeNew 4 _ _ ty_agg_api_Frac rfl rfl rfl rfl rfl (pt_own (av_rs 2 rfl rfl)) (av_rs 2 rfl rfl) (ar_tmp (av_rs 1 rfl rfl))⟩,
      trivial⟩ ?_
    refine nx_sub (fs' := [.rows 5 3 (fodd3_ED_c p0 q0 p1 q1 x2 y2), .slot 6 (VP.int .i64 ((3 : Nat) : Int)), .slot 7 (VP.int .i64 ((0 : Nat) : Int)), .slot 8 (VP.bool (decide (((0 : Nat) : Int) < ((3 : Nat) : Int)))), .rp 9 5 0, .slot 10 (VP.agg [Bz p0, Dz p0, Bz q0, Dz q0]), .box 4 26 [Bz p0, Dz p0, Bz q0, Dz q0]]) [0, 1, 2, 3, 4, 5, 7] rfl ?_
    refine nx_then ?_
    refine t_seq ?_
    refine t_region (F := ⟨_, _, _, _⟩) [.rows 5 3 (fodd3_ED_c p0 q0 p1 q1 x2 y2), .slot 6 (VP.int .i64 ((3 : Nat) : Int)), .slot 7 (VP.int .i64 ((0 : Nat) : Int)), .slot 8 (VP.bool (decide (((0 : Nat) : Int) < ((3 : Nat) : Int)))), .rp 9 5 0, .slot 10 (VP.agg [Bz p0, Dz p0, Bz q0, Dz q0]), .box 4 26 [Bz p0, Dz p0, Bz q0, Dz q0]] [] [(0, .fp 11 4 0), (1, .slot 12 (INT p0)), (2, .fp 13 4 2), (3, .slot 14 (INT q0)), (4, .arr 15 24 2 [Bz p0, Dz p0, Bz q0, Dz q0]), (5, .slot 16 (VP.bool false)), (6, .slot 17 (VP.bool false)), (7, .fp 18 4 0), (8, .fp 19 4 1), (9, .slot 20 (Dz p0)), (10, .slot 21 (VP.int .i64 (((dg BB p0.natAbs).length : Nat) : Int))), (11, .slot 22 (VP.bool (decide ((((dg BB p0.natAbs).length : Nat) : Int) > 5)))), (12, .slot 23 (VP.bool (decide ((((dg BB p0.natAbs).length : Nat) : Int) > 5)))), (13, .slot 24 (VP.bool (decide ((((dg BB p0.natAbs).length : Nat) : Int) > 5)))), (14, .fp 25 4 2), (15, .fp 26 4 3), (16, .slot 27 (Dz q0)), (17, .slot 28 (VP.int .i64 (((dg BB q0.natAbs).length : Nat) : Int))), (18, .slot 29 (VP.bool (decide ((((dg BB q0.natAbs).length : Nat) : Int) > 5)))), (19, .slot 30 (VP.bool (decide ((((dg BB q0.natAbs).length : Nat) : Int) > 5)))), (20, .slot 31 (VP.bool (decide ((((dg BB q0.natAbs).length : Nat) : Int) > 5)))), (21, .slot 32 (VP.agg [Bz p0, Dz p0, Bz q0, Dz q0])), (22, .slot 33 (VP.bool (rightF p0 q0))), (23, .slot 34 (VP.bool false)), (24, .slot 35 (VP.bool false))] [] [0, 1, 2, 3, 4, 5, 6] [] rfl rfl follow rfl ⟨
      .inl ⟨wants_plain rfl, does_field _ _ _ 0 ty_f0_api_Frac rfl rfl rfl rfl rfl rfl rfl (pt_box (av_fs 6 rfl))⟩,
      .inl ⟨wants_plain rfl, does_loadAgg _ ty_agg_api_Int rfl rfl rfl rfl rfl rfl (pt_fp (av_rs 0 rfl rfl)) (av_fs 6 rfl)⟩,
      .inl ⟨wants_plain rfl, does_field _ _ _ 2 ty_f1_api_Frac rfl rfl rfl rfl rfl rfl rfl (pt_box (av_fs 6 rfl))⟩,
      .inl ⟨wants_plain rfl, does_loadAgg _ ty_agg_api_Int rfl rfl rfl rfl rfl rfl (pt_fp (av_rs 2 rfl rfl)) (av_fs 6 rfl)⟩,
      .inl ⟨wants_plain rfl, does_buildSlice (sz := 2) [Bz 0, Dz 0, Bz 0, Dz 0] ty_zero_api_Int (by kernel_rfl) (fun w => run_sizeAgg ty_agg_api_Int w) rfl rfl rfl rfl rfl rfl (by kernel_rfl) (fun w => by exact z_int_2 w) (.cons 0 [Bz p0, Dz p0] rfl rfl (ar_cells_agg (ar_tmp (av_rs 1 rfl rfl))) (.cons 2 [Bz q0, Dz q0] rfl rfl (ar_cells_agg (ar_tmp (av_rs 3 rfl rfl))) (.nil _)))⟩,
      .inl ⟨wants_plain rfl, does_call (s_even2 p0 q0 (lle hp0 (by decide)) (lle hq0 (by decide))) rfl hb_collator_collatorlaw01_Odd rfl rfl rfl rfl ⟨(ar_arr (av_rs 4 rfl rfl)), trivial⟩⟩,
      .inl ⟨wants_plain rfl, does_move _ (.inl rfl) rfl rfl rfl rfl (ar_tmp (av_rs 5 rfl rfl))⟩,
      .inl ⟨wants_guard false rfl rfl rfl (av_rs 6 rfl rfl), does_field _ _ _ 0 ty_f0_api_Frac rfl rfl rfl rfl rfl rfl rfl (pt_box (av_fs 6 rfl))⟩,
      .inl ⟨wants_guard false rfl rfl rfl (av_rs 6 rfl rfl), does_field _ _ _ 1 ty_f1_api_Int rfl rfl rfl rfl rfl rfl rfl (pt_fp (av_rs 7 rfl rfl))⟩,
      .inl ⟨wants_guard false rfl rfl rfl (av_rs 6 rfl rfl), does_loadOne _ ty_one___uint32 rfl rfl rfl rfl rfl rfl (pt_fp (av_rs 8 rfl rfl)) (av_fs 6 rfl)⟩,
      .inl ⟨wants_guard false rfl rfl rfl (av_rs 6 rfl rfl), does_len _ _ (by kernel_rfl) rfl rfl rfl rfl rfl (ar_tmp (av_rs 9 rfl rfl))⟩,
      .inl ⟨wants_guard false rfl rfl rfl (av_rs 6 rfl rfl), does_cmp (m := (((dg BB p0.natAbs).length : Nat) : Int)) (n := 5) _ _ _ _ _ rfl rfl rfl rfl rfl rfl .i64 (ar_tmp (av_rs 10 rfl rfl)) (ar_const (fun _ => rfl))⟩,
      .inl ⟨wants_plain rfl, does_pick false _ _ _ rfl rfl rfl rfl rfl (ar_tmp (av_rs 6 rfl rfl)) (ar_tmp (av_rs 11 rfl rfl))⟩,
      .inl ⟨wants_plain rfl, does_move _ (.inl rfl) rfl rfl rfl rfl (ar_tmp (av_rs 12 rfl rfl))⟩,
      .inl ⟨wants_guard false rfl rfl rfl (av_bool (gt5_no hp0) (av_rs 13 rfl rfl)), does_field _ _ _ 2 ty_f1_api_Frac rfl rfl rfl rfl rfl rfl rfl (pt_box (av_fs 6 rfl))⟩,
      .inl ⟨wants_guard false rfl rfl rfl (av_bool (gt5_no hp0) (av_rs 13 rfl rfl)), does_field _ _ _ 1 ty_f1_api_Int rfl rfl rfl rfl rfl rfl rfl (pt_fp (av_rs 14 rfl rfl))⟩,
      .inl ⟨wants_guard false rfl rfl rfl (av_bool (gt5_no hp0) (av_rs 13 rfl rfl)), does_loadOne _ ty_one___uint32 rfl rfl rfl rfl rfl rfl (pt_fp (av_rs 15 rfl rfl)) (av_fs 6 rfl)⟩,
      .inl ⟨wants_guard false rfl rfl rfl (av_bool (gt5_no hp0) (av_rs 13 rfl rfl)), does_len _ _ (by kernel_rfl) rfl rfl rfl rfl rfl (ar_tmp (av_rs 16 rfl rfl))⟩,
      .inl ⟨wants_guard false rfl rfl rfl (av_bool (gt5_no hp0) (av_rs 13 rfl rfl)), does_cmp (m := (((dg BB q0.natAbs).length : Nat) : Int)) (n := 5) _ _ _ _ _ rfl rfl rfl rfl rfl rfl .i64 (ar_tmp (av_rs 17 rfl rfl)) (ar_const (fun _ => rfl))⟩,
      .inl ⟨wants_plain rfl, does_pick false _ _ _ rfl rfl rfl rfl rfl (ar_tmp (av_bool (gt5_no hp0) (av_rs 13 rfl rfl))) (ar_tmp (av_rs 18 rfl rfl))⟩,
      .inl ⟨wants_plain rfl, does_move _ (.inl rfl) rfl rfl rfl rfl (ar_tmp (av_rs 19 rfl rfl))⟩,
      .inl ⟨wants_guard false rfl rfl rfl (av_bool (gt5_no hq0) (av_rs 20 rfl rfl)), does_loadAgg _ ty_agg_api_Frac rfl rfl rfl rfl rfl rfl (pt_box (av_fs 6 rfl)) (av_fs 6 rfl)⟩,
      .inl ⟨wants_guard false rfl rfl rfl (av_bool (gt5_no hq0) (av_rs 20 rfl rfl)), does_call (g_right p0 q0 (lle hp0 (by decide)) (lle hq0 (by decide))) rfl hb_collator_collatorref02_Right rfl rfl rfl rfl ⟨(ar_tmp (av_rs 21 rfl rfl)), trivial⟩⟩,
      .inl ⟨wants_guard false rfl rfl rfl (av_bool (gt5_no hq0) (av_rs 20 rfl rfl)), does_not true _ _ rfl rfl rfl rfl rfl (ar_tmp (av_bool hb0 (av_rs 22 rfl rfl)))⟩,
      .inl ⟨wants_plain rfl, does_pick false _ _ _ rfl rfl rfl rfl rfl (ar_tmp (av_bool (gt5_no hq0) (av_rs 20 rfl rfl))) (ar_tmp (av_rs 23 rfl rfl))⟩,
      trivial⟩ ?_
    refine nx_sub (fs' := [.rows 5 3 (fodd3_ED_c p0 q0 p1 q1 x2 y2), .slot 6 (VP.int .i64 ((3 : Nat) : Int)), .slot 7 (VP.int .i64 ((0 : Nat) : Int)), .slot 8 (VP.bool (decide (((0 : Nat) : Int) < ((3 : Nat) : Int)))), .rp 9 5 0, .slot 10 (VP.agg [Bz p0, Dz p0, Bz q0, Dz q0]), .box 4 26 [Bz p0, Dz p0, Bz q0, Dz q0], .fp 11 4 0, .slot 12 (INT p0), .fp 13 4 2, .slot 14 (INT q0), .arr 15 24 2 [Bz p0, Dz p0, Bz q0, Dz q0], .slot 16 (VP.bool false), .slot 17 (VP.bool false), .fp 18 4 0, .fp 19 4 1, .slot 20 (Dz p0), .slot 21 (VP.int .i64 (((dg BB p0.natAbs).length : Nat) : Int)), .slot 22 (VP.bool (decide ((((dg BB p0.natAbs).length : Nat) : Int) > 5))), .slot 23 (VP.bool (decide ((((dg BB p0.natAbs).length : Nat) : Int) > 5))), .slot 24 (VP.bool (decide ((((dg BB p0.natAbs).length : Nat) : Int) > 5))), .fp 25 4 2, .fp 26 4 3, .slot 27 (Dz q0), .slot 28 (VP.int .i64 (((dg BB q0.natAbs).length : Nat) : Int)), .slot 29 (VP.bool (decide ((((dg BB q0.natAbs).length : Nat) : Int) > 5))), .slot 30 (VP.bool (decide ((((dg BB q0.natAbs).length : Nat) : Int) > 5))), .slot 31 (VP.bool (decide ((((dg BB q0.natAbs).length : Nat) : Int) > 5))), .slot 32 (VP.agg [Bz p0, Dz p0, Bz q0, Dz q0]), .slot 33 (VP.bool (rightF p0 q0)), .slot 34 (VP.bool false), .slot 35 (VP.bool false)]) [0, 1, 2, 3, 4, 5, 6, 7, 8, 9, 10, 11, 12, 13, 14, 15, 16, 17, 18, 19, 20, 21, 22, 23, 24, 25, 26, 27, 28, 29, 30, 31] rfl ?_
    refine nx_then ?_
    refine t_cond_f 31 rfl ?_
    refine t_skip ?_
    refine nx_block ?_
    refine nx_then ?_
    refine t_region (F := ⟨_, _, _, _⟩) [.rows 5 3 (fodd3_ED_c p0 q0 p1 q1 x2 y2), .slot 6 (VP.int .i64 ((3 : Nat) : Int)), .slot 8 (VP.bool (decide (((0 : Nat) : Int) < ((3 : Nat) : Int)))), .rp 9 5 0, .slot 10 (VP.agg [Bz p0, Dz p0, Bz q0, Dz q0]), .box 4 26 [Bz p0, Dz p0, Bz q0, Dz q0], .fp 11 4 0, .slot 12 (INT p0), .fp 13 4 2, .slot 14 (INT q0), .arr 15 24 2 [Bz p0, Dz p0, Bz q0, Dz q0], .slot 16 (VP.bool false), .slot 17 (VP.bool false), .fp 18 4 0, .fp 19 4 1, .slot 20 (Dz p0), .slot 21 (VP.int .i64 (((dg BB p0.natAbs).length : Nat) : Int)), .slot 22 (VP.bool (decide ((((dg BB p0.natAbs).length : Nat) : Int) > 5))), .slot 23 (VP.bool (decide ((((dg BB p0.natAbs).length : Nat) : Int) > 5))), .slot 24 (VP.bool (decide ((((dg BB p0.natAbs).length : Nat) : Int) > 5))), .fp 25 4 2, .fp 26 4 3, .slot 27 (Dz q0), .slot 28 (VP.int .i64 (((dg BB q0.natAbs).length : Nat) : Int)), .slot 29 (VP.bool (decide ((((dg BB q0.natAbs).length : Nat) : Int) > 5))), .slot 30 (VP.bool (decide ((((dg BB q0.natAbs).length : Nat) : Int) > 5))), .slot 31 (VP.bool (decide ((((dg BB q0.natAbs).length : Nat) : Int) > 5))), .slot 32 (VP.agg [Bz p0, Dz p0, Bz q0, Dz q0]), .slot 33 (VP.bool (rightF p0 q0)), .slot 34 (VP.bool false), .slot 35 (VP.bool false)] [(1, .slot 7 (VP.int .i64 ((0 : Nat) : Int)))] [(0, .slot 36 (VP.int .i64 ((1 : Nat) : Int))), (1, .slot 7 (VP.int .i64 ((1 : Nat) : Int)))] [] [0, 1, 3, 4, 5, 6, 7, 8, 9, 10, 11, 12, 13, 14, 15, 16, 17, 18, 19, 20, 21, 22, 23, 24, 25, 26, 27, 28, 29, 30, 31] [2] rfl rfl follow rfl ⟨
      .inl ⟨wants_plain rfl, does_addInt (m := ((0 : Nat) : Int)) (n := 1) _ _ _ _ rfl rfl rfl rfl rfl (by omega) (ar_tmp (av_os 0 rfl rfl)) (ar_const (fun _ => rfl))⟩,
      .inl ⟨wants_plain rfl, does_move _ (.inl rfl) rfl rfl rfl rfl (ar_tmp (av_rs 0 rfl rfl))⟩,
      trivial⟩ ?_
    refine nx_sub (fs' := [.rows 5 3 (fodd3_ED_c p0 q0 p1 q1 x2 y2), .slot 6 (VP.int .i64 ((3 : Nat) : Int)), .slot 8 (VP.bool (decide (((0 : Nat) : Int) < ((3 : Nat) : Int)))), .rp 9 5 0, .slot 10 (VP.agg [Bz p0, Dz p0, Bz q0, Dz q0]), .box 4 26 [Bz p0, Dz p0, Bz q0, Dz q0], .fp 11 4 0, .slot 12 (INT p0), .fp 13 4 2, .slot 14 (INT q0), .arr 15 24 2 [Bz p0, Dz p0, Bz q0, Dz q0], .slot 16 (VP.bool false), .slot 17 (VP.bool false), .fp 18 4 0, .fp 19 4 1, .slot 20 (Dz p0), .slot 21 (VP.int .i64 (((dg BB p0.natAbs).length : Nat) : Int)), .slot 22 (VP.bool (decide ((((dg BB p0.natAbs).length : Nat) : Int) > 5))), .slot 23 (VP.bool (decide ((((dg BB p0.natAbs).length : Nat) : Int) > 5))), .slot 24 (VP.bool (decide ((((dg BB p0.natAbs).length : Nat) : Int) > 5))), .fp 25 4 2, .fp 26 4 3, .slot 27 (Dz q0), .slot 28 (VP.int .i64 (((dg BB q0.natAbs).length : Nat) : Int)), .slot 29 (VP.bool (decide ((((dg BB q0.natAbs).length : Nat) : Int) > 5))), .slot 30 (VP.bool (decide ((((dg BB q0.natAbs).length : Nat) : Int) > 5))), .slot 31 (VP.bool (decide ((((dg BB q0.natAbs).length : Nat) : Int) > 5))), .slot 32 (VP.agg [Bz p0, Dz p0, Bz q0, Dz q0]), .slot 33 (VP.bool (rightF p0 q0)), .slot 34 (VP.bool false), .slot 35 (VP.bool false), .slot 36 (VP.int .i64 ((1 : Nat) : Int)), .slot 7 (VP.int .i64 ((1 : Nat) : Int))]) [0, 1, 2, 3, 4, 5, 6, 7, 8, 9, 10, 11, 12, 13, 14, 15, 16, 17, 18, 19, 20, 21, 22, 23, 24, 25, 26, 27, 28, 29, 30, 31, 32] rfl ?_
    exact nx_round ⟨1, by decide⟩ (by show 3 - 1 < 3 - 0; decide) [0, 1, 32] rfl
  case inr =>
    refine t_seq ?_
    refine t_region (F := ⟨_, _, _, _⟩) [.rows 5 3 (fodd3_ED_c p0 q0 p1 q1 x2 y2), .slot 6 (VP.int .i64 ((3 : Nat) : Int)), .slot 7 (VP.int .i64 ((1 : Nat) : Int))] [] [(0, .slot 8 (VP.bool (decide (((1 : Nat) : Int) < ((3 : Nat) : Int)))))] [] [0, 1, 2] [] rfl rfl follow rfl ⟨
      .inl ⟨wants_plain rfl, does_cmp (m := ((1 : Nat) : Int)) (n := ((3 : Nat) : Int)) _ _ _ _ _ rfl rfl rfl rfl rfl rfl .i64 (ar_tmp (av_fs 2 rfl)) (ar_tmp (av_fs 1 rfl))⟩,
      trivial⟩ ?_
    refine nx_sub (fs' := [.rows 5 3 (fodd3_ED_c p0 q0 p1 q1 x2 y2), .slot 6 (VP.int .i64 ((3 : Nat) : Int)), .slot 7 (VP.int .i64 ((1 : Nat) : Int)), .slot 8 (VP.bool (decide (((1 : Nat) : Int) < ((3 : Nat) : Int))))]) [0, 1, 2, 3] rfl ?_
    refine nx_then ?_
    refine t_seq ?_
    refine t_cond_te 3 rfl rfl ?_
    refine t_skip ?_
    refine nx_then ?_
    refine t_seq ?_
    refine t_block ?_
    refine t_seq ?_
    refine t_region (F := ⟨_, _, _, _⟩) [.rows 5 3 (fodd3_ED_c p0 q0 p1 q1 x2 y2), .slot 6 (VP.int .i64 ((3 : Nat) : Int)), .slot 7 (VP.int .i64 ((1 : Nat) : Int)), .slot 8 (VP.bool (decide (((1 : Nat) : Int) < ((3 : Nat) : Int))))] [] [(0, .rp 9 5 4), (1, .slot 10 (VP.agg [Bz p1, Dz p1, Bz q1, Dz q1])), (2, .own 4 26 4), (3, .box 4 26 [Bz p1, Dz p1, Bz q1, Dz q1])] [] [0, 1, 2, 3] [] rfl rfl follow rfl ⟨
      .inl ⟨wants_plain rfl, does_indexRows (m := 1) (sz := 4) _ _ rfl Try.underlying122 (fun w => run_sizeAgg ty_agg_api_Frac w) rfl rfl rfl rfl rfl rfl (by decide) rfl (av_fs 0 rfl) (ar_tmp (av_fs 2 rfl))⟩,
      .inl ⟨wants_plain rfl, does_loadRows _ rfl ty_agg_api_Frac rfl rfl rfl rfl rfl rfl rfl (av_rs 0 rfl rfl) (av_fs 0 rfl)⟩,
      .inl ⟨wants_plain rfl, does_allocOwn [Bz 0, Dz 0, Bz 0, Dz 0] ty_zero_api_Frac rfl rfl rfl rfl rfl z_frac rfl⟩,
      .inl ⟨wants_plain rfl, does_storeNew 4 _ _ ty_agg_api_Frac rfl rfl rfl rfl rfl (pt_own (av_rs 2 rfl rfl)) (av_rs 2 rfl rfl) (ar_tmp (av_rs 1 rfl rfl))⟩,
      trivial⟩ ?_
    refine nx_sub (fs' := [.rows 5 3 (fodd3_ED_c p0 q0 p1 q1 x2 y2), .slot 6 (VP.int .i64 ((3 : Nat) : Int)), .slot 7 (VP.int .i64 ((1 : Nat) : Int)), .slot 8 (VP.bool (decide (((1 : Nat) : Int) < ((3 : Nat) : Int)))), .rp 9 5 4, .slot 10 (VP.agg [Bz p1, Dz p1, Bz q1, Dz q1]), .box 4 26 [Bz p1, Dz p1, Bz q1, Dz q1]]) [0, 1, 2, 3, 4, 5, 7] rfl ?_
    refine nx_then ?_
    refine t_seq ?_
    refine t_region (F := ⟨_, _, _, _⟩) [.rows 5 3 (fodd3_ED_c p0 q0 p1 q1 x2 y2), .slot 6 (VP.int .i64 ((3 : Nat) : Int)), .slot 7 (VP.int .i64 ((1 : Nat) : Int)), .slot 8 (VP.bool (decide (((1 : Nat) : Int) < ((3 : Nat) : Int)))), .rp 9 5 4, .slot 10 (VP.agg [Bz p1, Dz p1, Bz q1, Dz q1]), .box 4 26 [Bz p1, Dz p1, Bz q1, Dz q1]] [] [(0, .fp 11 4 0), (1, .slot 12 (INT p1)), (2, .fp 13 4 2), (3, .slot 14 (INT q1)), (4, .arr 15 24 2 [Bz p1, Dz p1, Bz q1, Dz q1]), (5, .slot 16 (VP.bool false)), (6, .slot 17 (VP.bool false)), (7, .fp 18 4 0), (8, .fp 19 4 1), (9, .slot 20 (Dz p1)), (10, .slot 21 (VP.int .i64 (((dg BB p1.natAbs).length : Nat) : Int))), (11, .slot 22 (VP.bool (decide ((((dg BB p1.natAbs).length : Nat) : Int) > 5)))), (12, .slot 23 (VP.bool (decide ((((dg BB p1.natAbs).length : Nat) : Int) > 5)))), (13, .slot 24 (VP.bool (decide ((((dg BB p1.natAbs).length : Nat) : Int) > 5)))), (14, .fp 25 4 2), (15, .fp 26 4 3), (16, .slot 27 (Dz q1)), (17, .slot 28 (VP.int .i64 (((dg BB q1.natAbs).length : Nat) : Int))), (18, .slot 29 (VP.bool (decide ((((dg BB q1.natAbs).length : Nat) : Int) > 5)))), (19, .slot 30 (VP.bool (decide ((((dg BB q1.natAbs).length : Nat) : Int) > 5)))), (20, .slot 31 (VP.bool (decide ((((dg BB q1.natAbs).length : Nat) : Int) > 5)))), (21, .slot 32 (VP.agg [Bz p1, Dz p1, Bz q1, Dz q1])), (22, .slot 33 (VP.bool (rightF p1 q1))), (23, .slot 34 (VP.bool true)), (24, .slot 35 (VP.bool true))] [] [0, 1, 2, 3, 4, 5, 6] [] rfl rfl follow rfl ⟨
      .inl ⟨wants_plain rfl, does_field _ _ _ 0 ty_f0_api_Frac rfl rfl rfl rfl rfl rfl rfl (pt_box (av_fs 6 rfl))⟩,
      .inl ⟨wants_plain rfl, does_loadAgg _ ty_agg_api_Int rfl rfl rfl rfl rfl rfl (pt_fp (av_rs 0 rfl rfl)) (av_fs 6 rfl)⟩,
      .inl ⟨wants_plain rfl, does_field _ _ _ 2 ty_f1_api_Frac rfl rfl rfl rfl rfl rfl rfl (pt_box (av_fs 6 rfl))⟩,
      .inl ⟨wants_plain rfl, does_loadAgg _ ty_agg_api_Int rfl rfl rfl rfl rfl rfl (pt_fp (av_rs 2 rfl rfl)) (av_fs 6 rfl)⟩,
      .inl ⟨wants_plain rfl, does_buildSlice (sz := 2) [Bz 0, Dz 0, Bz 0, Dz 0] ty_zero_api_Int (by kernel_rfl) (fun w => run_sizeAgg ty_agg_api_Int w) rfl rfl rfl rfl rfl rfl (by kernel_rfl) (fun w => by exact z_int_2 w) (.cons 0 [Bz p1, Dz p1] rfl rfl (ar_cells_agg (ar_tmp (av_rs 1 rfl rfl))) (.cons 2 [Bz q1, Dz q1] rfl rfl (ar_cells_agg (ar_tmp (av_rs 3 rfl rfl))) (.nil _)))⟩,
      .inl ⟨wants_plain rfl, does_call (s_even2 p1 q1 (lle hp1 (by decide)) (lle hq1 (by decide))) rfl hb_collator_collatorlaw01_Odd rfl rfl rfl rfl ⟨(ar_arr (av_rs 4 rfl rfl)), trivial⟩⟩,
      .inl ⟨wants_plain rfl, does_move _ (.inl rfl) rfl rfl rfl rfl (ar_tmp (av_rs 5 rfl rfl))⟩,
      .inl ⟨wants_guard false rfl rfl rfl (av_rs 6 rfl rfl), does_field _ _ _ 0 ty_f0_api_Frac rfl rfl rfl rfl rfl rfl rfl (pt_box (av_fs 6 rfl))⟩,
      .inl ⟨wants_guard false rfl rfl rfl (av_rs 6 rfl rfl), does_field _ _ _ 1 ty_f1_api_Int rfl rfl rfl rfl rfl rfl rfl (pt_fp (av_rs 7 rfl rfl))⟩,
      .inl ⟨wants_guard false rfl rfl rfl (av_rs 6 rfl rfl), does_loadOne _ ty_one___uint32 rfl rfl rfl rfl rfl rfl (pt_fp (av_rs 8 rfl rfl)) (av_fs 6 rfl)⟩,
      .inl ⟨wants_guard false rfl rfl rfl (av_rs 6 rfl rfl), does_len _ _ (by kernel_rfl) rfl rfl rfl rfl rfl (ar_tmp (av_rs 9 rfl rfl))⟩,
      .inl ⟨wants_guard false rfl rfl rfl (av_rs 6 rfl rfl), does_cmp (m := (((dg BB p1.natAbs).length : Nat) : Int)) (n := 5) _ _ _ _ _ rfl rfl rfl rfl rfl rfl .i64 (ar_tmp (av_rs 10 rfl rfl)) (ar_const (fun _ => rfl))⟩,
      .inl ⟨wants_plain rfl, does_pick false _ _ _ rfl rfl rfl rfl rfl (ar_tmp (av_rs 6 rfl rfl)) (ar_tmp (av_rs 11 rfl rfl))⟩,
      .inl ⟨wants_plain rfl, does_move _ (.inl rfl) rfl rfl rfl rfl (ar_tmp (av_rs 12 rfl rfl))⟩,
      .inl ⟨wants_guard false rfl rfl rfl (av_bool (gt5_no hp1) (av_rs 13 rfl rfl)), does_field _ _ _ 2 ty_f1_api_Frac rfl rfl rfl rfl rfl rfl rfl (pt_box (av_fs 6 rfl))⟩,
      .inl ⟨wants_guard false rfl rfl rfl (av_bool (gt5_no hp1) (av_rs 13 rfl rfl)), does_field _ _ _ 1 ty_f1_api_Int rfl rfl rfl rfl rfl rfl rfl (pt_fp (av_rs 14 rfl rfl))⟩,
      .inl ⟨wants_guard false rfl rfl rfl (av_bool (gt5_no hp1) (av_rs 13 rfl rfl)), does_loadOne _ ty_one___uint32 rfl rfl rfl rfl rfl rfl (pt_fp (av_rs 15 rfl rfl)) (av_fs 6 rfl)⟩,
      .inl ⟨wants_guard false rfl rfl rfl (av_bool (gt5_no hp1) (av_rs 13 rfl rfl)), does_len _ _ (by kernel_rfl) rfl rfl rfl rfl rfl (ar_tmp (av_rs 16 rfl rfl))⟩,
      .inl ⟨wants_guard false rfl rfl rfl (av_bool (gt5_no hp1) (av_rs 13 rfl rfl)), does_cmp (m := (((dg BB q1.natAbs).length : Nat) : Int)) (n := 5) _ _ _ _ _ rfl rfl rfl rfl rfl rfl .i64 (ar_tmp (av_rs 17 rfl rfl)) (ar_const (fun _ => rfl))⟩,
      .inl ⟨wants_plain rfl, does_pick false _ _ _ rfl rfl rfl rfl rfl (ar_tmp (av_bool (gt5_no hp1) (av_rs 13 rfl rfl))) (ar_tmp (av_rs 18 rfl rfl))⟩,
      .inl ⟨wants_plain rfl, does_move _ (.inl rfl) rfl rfl rfl rfl (ar_tmp (av_rs 19 rfl rfl))⟩,
      .inl ⟨wants_guard false rfl rfl rfl (av_bool (gt5_no hq1) (av_rs 20 rfl rfl)), does_loadAgg _ ty_agg_api_Frac rfl rfl rfl rfl rfl rfl (pt_box (av_fs 6 rfl)) (av_fs 6 rfl)⟩,
      .inl ⟨wants_guard false rfl rfl rfl (av_bool (gt5_no hq1) (av_rs 20 rfl rfl)), does_call (g_right p1 q1 (lle hp1 (by decide)) (lle hq1 (by decide))) rfl hb_collator_collatorref02_Right rfl rfl rfl rfl ⟨(ar_tmp (av_rs 21 rfl rfl)), trivial⟩⟩,
      .inl ⟨wants_guard false rfl rfl rfl (av_bool (gt5_no hq1) (av_rs 20 rfl rfl)), does_not false _ _ rfl rfl rfl rfl rfl (ar_tmp (av_bool hb1 (av_rs 22 rfl rfl)))⟩,
      .inl ⟨wants_plain rfl, does_pick false _ _ _ rfl rfl rfl rfl rfl (ar_tmp (av_bool (gt5_no hq1) (av_rs 20 rfl rfl))) (ar_tmp (av_rs 23 rfl rfl))⟩,
      trivial⟩ ?_
    refine nx_sub (fs' := [.rows 5 3 (fodd3_ED_c p0 q0 p1 q1 x2 y2), .slot 6 (VP.int .i64 ((3 : Nat) : Int)), .slot 7 (VP.int .i64 ((1 : Nat) : Int)), .slot 8 (VP.bool (decide (((1 : Nat) : Int) < ((3 : Nat) : Int)))), .rp 9 5 4, .slot 10 (VP.agg [Bz p1, Dz p1, Bz q1, Dz q1]), .box 4 26 [Bz p1, Dz p1, Bz q1, Dz q1], .fp 11 4 0, .slot 12 (INT p1), .fp 13 4 2, .slot 14 (INT q1), .arr 15 24 2 [Bz p1, Dz p1, Bz q1, Dz q1], .slot 16 (VP.bool false), .slot 17 (VP.bool false), .fp 18 4 0, .fp 19 4 1, .slot 20 (Dz p1), .slot 21 (VP.int .i64 (((dg BB p1.natAbs).length : Nat) : Int)), .slot 22 (VP.bool (decide ((((dg BB p1.natAbs).length : Nat) : Int) > 5))), .slot 23 (VP.bool (decide ((((dg BB p1.natAbs).length : Nat) : Int) > 5))), .slot 24 (VP.bool (decide ((((dg BB p1.natAbs).length : Nat) : Int) > 5))), .fp 25 4 2, .fp 26 4 3, .slot 27 (Dz q1), .slot 28 (VP.int .i64 (((dg BB q1.natAbs).length : Nat) : Int)), .slot 29 (VP.bool (decide ((((dg BB q1.natAbs).length : Nat) : Int) > 5))), .slot 30 (VP.bool (decide ((((dg BB q1.natAbs).length : Nat) : Int) > 5))), .slot 31 (VP.bool (decide ((((dg BB q1.natAbs).length : Nat) : Int) > 5))), .slot 32 (VP.agg [Bz p1, Dz p1, Bz q1, Dz q1]), .slot 33 (VP.bool (rightF p1 q1)), .slot 34 (VP.bool true), .slot 35 (VP.bool true)]) [0, 1, 2, 3, 4, 5, 6, 7, 8, 9, 10, 11, 12, 13, 14, 15, 16, 17, 18, 19, 20, 21, 22, 23, 24, 25, 26, 27, 28, 29, 30, 31] rfl ?_
    refine nx_then ?_
    refine t_cond_t 31 rfl ?_
    refine t_seq ?_
    refine t_region (F := ⟨_, _, _, _⟩) [.rows 5 3 (fodd3_ED_c p0 q0 p1 q1 x2 y2), .slot 6 (VP.int .i64 ((3 : Nat) : Int)), .slot 7 (VP.int .i64 ((1 : Nat) : Int)), .slot 8 (VP.bool (decide (((1 : Nat) : Int) < ((3 : Nat) : Int)))), .rp 9 5 4, .slot 10 (VP.agg [Bz p1, Dz p1, Bz q1, Dz q1]), .box 4 26 [Bz p1, Dz p1, Bz q1, Dz q1], .fp 11 4 0, .slot 12 (INT p1), .fp 13 4 2, .slot 14 (INT q1), .arr 15 24 2 [Bz p1, Dz p1, Bz q1, Dz q1], .slot 16 (VP.bool false), .slot 17 (VP.bool false), .fp 18 4 0, .fp 19 4 1, .slot 20 (Dz p1), .slot 21 (VP.int .i64 (((dg BB p1.natAbs).length : Nat) : Int)), .slot 22 (VP.bool (decide ((((dg BB p1.natAbs).length : Nat) : Int) > 5))), .slot 23 (VP.bool (decide ((((dg BB p1.natAbs).length : Nat) : Int) > 5))), .slot 24 (VP.bool (decide ((((dg BB p1.natAbs).length : Nat) : Int) > 5))), .fp 25 4 2, .fp 26 4 3, .slot 27 (Dz q1), .slot 28 (VP.int .i64 (((dg BB q1.natAbs).length : Nat) : Int)), .slot 29 (VP.bool (decide ((((dg BB q1.natAbs).length : Nat) : Int) > 5))), .slot 30 (VP.bool (decide ((((dg BB q1.natAbs).length : Nat) : Int) > 5))), .slot 31 (VP.bool (decide ((((dg BB q1.natAbs).length : Nat) : Int) > 5))), .slot 32 (VP.agg [Bz p1, Dz p1, Bz q1, Dz q1]), .slot 33 (VP.bool (rightF p1 q1)), .slot 34 (VP.bool true), .slot 35 (VP.bool true)] [] [(0, .slot 2 (VP.bool true))] [] [0, 1, 2, 3, 4, 5, 6, 7, 8, 9, 10, 11, 12, 13, 14, 15, 16, 17, 18, 19, 20, 21, 22, 23, 24, 25, 26, 27, 28, 29, 30, 31] [] rfl rfl follow rfl ⟨
      .inl ⟨wants_plain rfl, does_move _ (.inr rfl) rfl rfl rfl rfl (ar_const (fun _ => rfl))⟩,
      trivial⟩ ?_
    refine nx_sub (fs' := [.rows 5 3 (fodd3_ED_c p0 q0 p1 q1 x2 y2), .slot 6 (VP.int .i64 ((3 : Nat) : Int)), .slot 7 (VP.int .i64 ((1 : Nat) : Int)), .slot 8 (VP.bool (decide (((1 : Nat) : Int) < ((3 : Nat) : Int)))), .rp 9 5 4, .slot 10 (VP.agg [Bz p1, Dz p1, Bz q1, Dz q1]), .box 4 26 [Bz p1, Dz p1, Bz q1, Dz q1], .fp 11 4 0, .slot 12 (INT p1), .fp 13 4 2, .slot 14 (INT q1), .arr 15 24 2 [Bz p1, Dz p1, Bz q1, Dz q1], .slot 16 (VP.bool false), .slot 17 (VP.bool false), .fp 18 4 0, .fp 19 4 1, .slot 20 (Dz p1), .slot 21 (VP.int .i64 (((dg BB p1.natAbs).length : Nat) : Int)), .slot 22 (VP.bool (decide ((((dg BB p1.natAbs).length : Nat) : Int) > 5))), .slot 23 (VP.bool (decide ((((dg BB p1.natAbs).length : Nat) : Int) > 5))), .slot 24 (VP.bool (decide ((((dg BB p1.natAbs).length : Nat) : Int) > 5))), .fp 25 4 2, .fp 26 4 3, .slot 27 (Dz q1), .slot 28 (VP.int .i64 (((dg BB q1.natAbs).length : Nat) : Int)), .slot 29 (VP.bool (decide ((((dg BB q1.natAbs).length : Nat) : Int) > 5))), .slot 30 (VP.bool (decide ((((dg BB q1.natAbs).length : Nat) : Int) > 5))), .slot 31 (VP.bool (decide ((((dg BB q1.natAbs).length : Nat) : Int) > 5))), .slot 32 (VP.agg [Bz p1, Dz p1, Bz q1, Dz q1]), .slot 33 (VP.bool (rightF p1 q1)), .slot 34 (VP.bool true), .slot 35 (VP.bool true), .slot 2 (VP.bool true)]) [0, 1, 2, 3, 4, 5, 6, 7, 8, 9, 10, 11, 12, 13, 14, 15, 16, 17, 18, 19, 20, 21, 22, 23, 24, 25, 26, 27, 28, 29, 30, 31, 32] rfl ?_
    refine nx_then ?_
    refine t_ret ?_
    refine rt_block ?_
    refine rt_then ?_
    refine rt_then ?_
    refine rt_block ?_
    refine rt_then ?_
    exact rt_one rfl (res_tmp 32 rfl)
end Go.Proofs.Ytmlnpagkabmmpaa
