/- Part of the proof that a law returns true for all that comes in, and that what came in reads as it did. No condition. -/
import Derived.Test.YtogodjiemgilaaaMgB1
/- FracOrder: the walks. -/
namespace Go.Proofs.Ytogodjiemgilaaa
open Go.RowKit
theorem cmpR_bd (a b : Rat) : -1 ≤ cmpR a b ∧ cmpR a b ≤ 1 := by
  unfold cmpR; split
  · omega
  · split <;> omega
theorem cmpR_mul_bd (a b c d : Rat) : -9223372036854775808 ≤ cmpR a b * cmpR c d ∧ cmpR a b * cmpR c d < 9223372036854775808 := by
  unfold cmpR
  split <;> split <;> (try split) <;> (try split) <;> omega
theorem cmpR_neg_bd (a b : Rat) : -9223372036854775808 ≤ -(cmpR a b) ∧ -(cmpR a b) < 9223372036854775808 := by
  have := cmpR_bd a b; omega
theorem cmpR_lt {a b : Rat} (h : a < b) : cmpR a b = -1 := if_pos h
theorem cmpR_eq {a b : Rat} (h : a = b) : cmpR a b = 0 := by subst h; unfold cmpR; rw [if_neg (Rat.lt_irrefl), if_pos rfl]
theorem cmpR_gt {a b : Rat} (h : b < a) : cmpR a b = 1 := by
  unfold cmpR
  rw [if_neg (fun h2 => by grind), if_neg (fun e => by subst e; exact Rat.lt_irrefl h)]
theorem tri (a b : Rat) : a < b ∨ a = b ∨ b < a := by
  by_cases h1 : a < b
  · exact .inl h1
  · by_cases h2 : b < a
    · exact .inr (.inr h2)
    · rw [Rat.not_lt] at h1 h2
      exact .inr (.inl (Rat.le_antisymm h2 h1))
theorem cmpR_mul (a b c : Rat) : cmpR (a * c) (b * c) = cmpR a b * cmpR c 0 := by
  rcases tri c 0 with hc | rfl | hc
  · rw [cmpR_lt hc]
    rcases tri a b with h | rfl | h
    · rw [cmpR_lt h, cmpR_gt (show b * c < a * c by have := Rat.mul_lt_mul_of_pos_right h (show (0 : Rat) < -c by grind); grind)]; rfl
    · rw [cmpR_eq rfl, cmpR_eq rfl]; rfl
    · rw [cmpR_gt h, cmpR_lt (show a * c < b * c by have := Rat.mul_lt_mul_of_pos_right h (show (0 : Rat) < -c by grind); grind)]; rfl
  · rw [cmpR_eq (show (0 : Rat) = 0 from rfl), cmpR_eq (show a * 0 = b * 0 by grind), Int.mul_zero]
  · rw [cmpR_gt hc, Int.mul_one]
    rcases tri a b with h | rfl | h
    · rw [cmpR_lt h, cmpR_lt (Rat.mul_lt_mul_of_pos_right h hc)]
    · rw [cmpR_eq rfl, cmpR_eq rfl]
    · rw [cmpR_gt h, cmpR_gt (Rat.mul_lt_mul_of_pos_right h hc)]
theorem cmpR_neg (a b : Rat) : cmpR (-a) (-b) = -(cmpR a b) := by
  rcases tri a b with h | rfl | h
  · rw [cmpR_lt h, cmpR_gt (show -b < -a by grind)]; rfl
  · rw [cmpR_eq rfl, cmpR_eq rfl]; rfl
  · rw [cmpR_gt h, cmpR_lt (show -a < -b by grind)]
theorem cmpR_pos {a : Rat} (h : ¬ cmpR a 0 ≤ 0) : 0 < a := by
  rcases tri a 0 with g | rfl | g
  · rw [cmpR_lt g] at h; omega
  · rw [cmpR_eq rfl] at h; omega
  · exact g
theorem inv_lt {a b : Rat} (ha : 0 < a) (hb : 0 < b) (h : a < b) : ((1 : Int) : Rat) / b < ((1 : Int) : Rat) / a := by
  have e1 : ((1 : Int) : Rat) / b * (a * b) = a := by have : b ≠ 0 := fun e => by subst e; exact Rat.lt_irrefl hb
                                                      grind
  have e2 : ((1 : Int) : Rat) / a * (a * b) = b := by have : a ≠ 0 := fun e => by subst e; exact Rat.lt_irrefl ha
                                                      grind
  have hab : 0 < a * b := Rat.mul_pos ha hb
  rcases tri (((1 : Int) : Rat) / b) (((1 : Int) : Rat) / a) with g | g | g
  · exact g
  · exfalso; rw [g, e2] at e1; subst e1; exact Rat.lt_irrefl h
  · exfalso
    have := Rat.mul_lt_mul_of_pos_right g hab
    rw [e1, e2] at this
    grind
theorem cmpR_inv {a b : Rat} (ha : ¬ cmpR a 0 ≤ 0) (hb : ¬ cmpR b 0 ≤ 0) : cmpR (((1 : Int) : Rat) / a) (((1 : Int) : Rat) / b) = -(cmpR a b) := by
  have ha := cmpR_pos ha
  have hb := cmpR_pos hb
  rcases tri a b with h | rfl | h
  · rw [cmpR_lt h, cmpR_gt (inv_lt ha hb h)]; rfl
  · rw [cmpR_eq rfl, cmpR_eq rfl]; rfl
  · rw [cmpR_gt h, cmpR_lt (inv_lt hb ha h)]
set_option maxRecDepth 100000 in
set_option maxHeartbeats 4000000 in
theorem forder1 (a b c : Rat) (ha : LR a 5) (hb : LR b 5) (hc : LR c 5) (HO : Spec Try.prog 73 [isRows 3 [Bz a.num, Dz a.num, Bz (fD a.den), Dz (fD a.den), Bz b.num, Dz b.num, Bz (fD b.den), Dz (fD b.den), Bz c.num, Dz c.num, Bz (fD c.den), Dz (fD c.den)]] (VP.bool false)) (h : cmpR a 0 ≤ 0) : Spec Try.prog 11 [(RAT a).p, (RAT b).p, (RAT c).p] (VP.bool true) := by
  refine spec_of (xs := [RAT a, RAT b, RAT c]) 66 [3, 4, 5, 9] Try.func11 rfl Try.ntmps11 rfl fun w0 => ?_
  refine t_seq ?_
  refine t_region (F := ⟨_, _, _, _⟩) [.slot 0 (RAT a), .slot 1 (RAT b), .slot 2 (RAT c)] [] [(0, .box 3 100 [Bz a.num, Dz a.num, Bz (fD a.den), Dz (fD a.den)]), (1, .box 4 100 [Bz b.num, Dz b.num, Bz (fD b.den), Dz (fD b.den)]), (2, .box 5 100 [Bz c.num, Dz c.num, Bz (fD c.den), Dz (fD c.den)]), (3, .slot 6 (VP.bool false))] [0, 1, 2] [] rfl rfl follow rfl ⟨
    .inl ⟨wants_plain rfl, does_box _ rfl rfl rfl rfl rfl (ar_tmp (av_fs 0 rfl))⟩,
    .inl ⟨wants_plain rfl, does_box _ rfl rfl rfl rfl rfl (ar_tmp (av_fs 1 rfl))⟩,
    .inl ⟨wants_plain rfl, does_box _ rfl rfl rfl rfl rfl (ar_tmp (av_fs 2 rfl))⟩,
    .inl ⟨wants_plain rfl, does_move _ (.inr rfl) rfl rfl rfl rfl (ar_const (fun _ => rfl))⟩,
    trivial⟩ ?_
  refine nx_sub (fs' := [.box 3 100 [Bz a.num, Dz a.num, Bz (fD a.den), Dz (fD a.den)], .box 4 100 [Bz b.num, Dz b.num, Bz (fD b.den), Dz (fD b.den)], .box 5 100 [Bz c.num, Dz c.num, Bz (fD c.den), Dz (fD c.den)], .slot 6 (VP.bool false)]) [3, 4, 5, 6] rfl ?_
  refine nx_then ?_
  refine t_seq ?_
  refine t_seq ?_
  refine t_region (F := ⟨_, _, _, _⟩) [.box 3 100 [Bz a.num, Dz a.num, Bz (fD a.den), Dz (fD a.den)], .box 4 100 [Bz b.num, Dz b.num, Bz (fD b.den), Dz (fD b.den)], .box 5 100 [Bz c.num, Dz c.num, Bz (fD c.den), Dz (fD c.den)], .slot 6 (VP.bool false)] [] [(0, .slot 10 (VP.bool true)), (1, .slot 11 (VP.bool false))] [0, 1, 2, 3] [] rfl rfl follow rfl ⟨
    .inl ⟨wants_plain rfl, does_call sp2_spec rfl hb_collator_collatorlaw02_speaks rfl rfl rfl rfl trivial⟩,
    .inl ⟨wants_plain rfl, does_not true _ _ rfl rfl rfl rfl rfl (ar_tmp (av_rs 0 rfl rfl))⟩,
    trivial⟩ ?_
  refine nx_sub (fs' := [.box 3 100 [Bz a.num, Dz a.num, Bz (fD a.den), Dz (fD a.den)], .box 4 100 [Bz b.num, Dz b.num, Bz (fD b.den), Dz (fD b.den)], .box 5 100 [Bz c.num, Dz c.num, Bz (fD c.den), Dz (fD c.den)], .slot 6 (VP.bool false), .slot 11 (VP.bool false)]) [0, 1, 2, 3, 5] rfl ?_
  refine nx_then ?_
  refine t_cond_f 4 rfl ?_
  refine t_skip ?_
  refine nx_then ?_
  refine t_seq ?_
  refine t_seq ?_
  refine t_region (F := ⟨_, _, _, _⟩) [.box 3 100 [Bz a.num, Dz a.num, Bz (fD a.den), Dz (fD a.den)], .box 4 100 [Bz b.num, Dz b.num, Bz (fD b.den), Dz (fD b.den)], .box 5 100 [Bz c.num, Dz c.num, Bz (fD c.den), Dz (fD c.den)], .slot 6 (VP.bool false), .slot 11 (VP.bool false)] [] [(0, .slot 12 (RAT a)), (1, .slot 13 (RAT b)), (2, .slot 14 (RAT c)), (3, .arr 15 100 3 [Bz a.num, Dz a.num, Bz (fD a.den), Dz (fD a.den), Bz b.num, Dz b.num, Bz (fD b.den), Dz (fD b.den), Bz c.num, Dz c.num, Bz (fD c.den), Dz (fD c.den)]), (4, .slot 16 (VP.bool false))] [0, 1, 2, 3, 4] [] rfl rfl follow rfl ⟨
    .inl ⟨wants_plain rfl, does_loadAgg _ ty_agg_api_Frac rfl rfl rfl rfl rfl rfl (pt_box (av_fs 0 rfl)) (av_fs 0 rfl)⟩,
    .inl ⟨wants_plain rfl, does_loadAgg _ ty_agg_api_Frac rfl rfl rfl rfl rfl rfl (pt_box (av_fs 1 rfl)) (av_fs 1 rfl)⟩,
    .inl ⟨wants_plain rfl, does_loadAgg _ ty_agg_api_Frac rfl rfl rfl rfl rfl rfl (pt_box (av_fs 2 rfl)) (av_fs 2 rfl)⟩,
    .inl ⟨wants_plain rfl, does_buildSlice (sz := 4) [Bz 0, Dz 0, Bz 0, Dz 0, Bz 0, Dz 0, Bz 0, Dz 0, Bz 0, Dz 0, Bz 0, Dz 0] ty_zero_api_Frac (by kernel_rfl) (fun w => run_sizeAgg ty_agg_api_Frac w) rfl rfl rfl rfl rfl rfl (by kernel_rfl) (fun w => by exact z_frac_3 w) (.cons 0 [Bz a.num, Dz a.num, Bz (fD a.den), Dz (fD a.den)] rfl rfl (ar_cells_agg (ar_tmp (av_rs 0 rfl rfl))) (.cons 4 [Bz b.num, Dz b.num, Bz (fD b.den), Dz (fD b.den)] rfl rfl (ar_cells_agg (ar_tmp (av_rs 1 rfl rfl))) (.cons 8 [Bz c.num, Dz c.num, Bz (fD c.den), Dz (fD c.den)] rfl rfl (ar_cells_agg (ar_tmp (av_rs 2 rfl rfl))) (.nil _))))⟩,
    .inl ⟨wants_plain rfl, does_call HO rfl hb_collator_collatorlaw02_Odd rfl rfl rfl rfl ⟨(ar_arr_rows (by simp [maxLen]) (av_rs 3 rfl rfl)), trivial⟩⟩,
    trivial⟩ ?_
  refine nx_sub (fs' := [.box 3 100 [Bz a.num, Dz a.num, Bz (fD a.den), Dz (fD a.den)], .box 4 100 [Bz b.num, Dz b.num, Bz (fD b.den), Dz (fD b.den)], .box 5 100 [Bz c.num, Dz c.num, Bz (fD c.den), Dz (fD c.den)], .slot 6 (VP.bool false), .slot 16 (VP.bool false)]) [0, 1, 2, 3, 9] rfl ?_
  refine nx_then ?_
  refine t_cond_f 4 rfl ?_
  refine t_skip ?_
  refine nx_then ?_
  refine t_seq ?_
  refine t_region (F := ⟨_, _, _, _⟩) [.box 3 100 [Bz a.num, Dz a.num, Bz (fD a.den), Dz (fD a.den)], .box 4 100 [Bz b.num, Dz b.num, Bz (fD b.den), Dz (fD b.den)], .box 5 100 [Bz c.num, Dz c.num, Bz (fD c.den), Dz (fD c.den)], .slot 6 (VP.bool false), .slot 16 (VP.bool false)] [] [(0, .slot 17 (RAT a)), (1, .slot 18 (RAT b)), (2, .slot 19 (VP.int .i64 (cmpR a b))), (3, .slot 20 (RAT c)), (4, .slot 21 (VP.agg [Bz 0, Dz 0, Bz 0, Dz 0])), (5, .slot 22 (VP.int .i64 (cmpR c 0))), (6, .slot 7 (VP.int .i64 (cmpR a b))), (7, .slot 8 (VP.int .i64 (cmpR c 0)))] [0, 1, 2, 3, 4] [] rfl rfl follow rfl ⟨
    .inl ⟨wants_plain rfl, does_loadAgg _ ty_agg_api_Frac rfl rfl rfl rfl rfl rfl (pt_box (av_fs 0 rfl)) (av_fs 0 rfl)⟩,
    .inl ⟨wants_plain rfl, does_loadAgg _ ty_agg_api_Frac rfl rfl rfl rfl rfl rfl (pt_box (av_fs 1 rfl)) (av_fs 1 rfl)⟩,
    .inl ⟨wants_plain rfl, does_call (q_cmp a b (LR.le ha (by decide)) (LR.le hb (by decide))) rfl hb_collator_frac_Cmp rfl rfl rfl rfl ⟨(ar_tmp (av_rs 0 rfl rfl)), (ar_tmp (av_rs 1 rfl rfl)), trivial⟩⟩,
    .inl ⟨wants_plain rfl, does_loadAgg _ ty_agg_api_Frac rfl rfl rfl rfl rfl rfl (pt_box (av_fs 2 rfl)) (av_fs 2 rfl)⟩,
    .inl ⟨wants_plain rfl, does_build [Bz 0, Dz 0, Bz 0, Dz 0] ty_zero_api_Frac ty_pl_api_Frac rfl rfl rfl rfl rfl z_frac (.nil _)⟩,
    .inl ⟨wants_plain rfl, does_call (q_cmp c 0 (LR.le hc (by decide)) (LR.le lrzero (by decide))) rfl hb_collator_frac_Cmp rfl rfl rfl rfl ⟨(ar_tmp (av_rs 3 rfl rfl)), (ar_tmp (av_rs 4 rfl rfl)), trivial⟩⟩,
    .inl ⟨wants_plain rfl, does_move _ (.inr rfl) rfl rfl rfl rfl (ar_tmp (av_rs 2 rfl rfl))⟩,
    .inl ⟨wants_plain rfl, does_move _ (.inr rfl) rfl rfl rfl rfl (ar_tmp (av_rs 5 rfl rfl))⟩,
    trivial⟩ ?_
  refine nx_sub (fs' := [.box 3 100 [Bz a.num, Dz a.num, Bz (fD a.den), Dz (fD a.den)], .box 4 100 [Bz b.num, Dz b.num, Bz (fD b.den), Dz (fD b.den)], .box 5 100 [Bz c.num, Dz c.num, Bz (fD c.den), Dz (fD c.den)], .slot 6 (VP.bool false), .slot 7 (VP.int .i64 (cmpR a b)), .slot 8 (VP.int .i64 (cmpR c 0))]) [0, 1, 2, 3, 11, 12] rfl ?_
  refine nx_then ?_
  refine t_seq ?_
  refine t_seq ?_
  refine t_region (F := ⟨_, _, _, _⟩) [.box 3 100 [Bz a.num, Dz a.num, Bz (fD a.den), Dz (fD a.den)], .box 4 100 [Bz b.num, Dz b.num, Bz (fD b.den), Dz (fD b.den)], .box 5 100 [Bz c.num, Dz c.num, Bz (fD c.den), Dz (fD c.den)], .slot 6 (VP.bool false), .slot 7 (VP.int .i64 (cmpR a b)), .slot 8 (VP.int .i64 (cmpR c 0))] [] [(0, .slot 23 (RAT a)), (1, .slot 24 (RAT c)), (2, .slot 25 (RAT (a * c))), (3, .slot 26 (RAT b)), (4, .slot 27 (RAT c)), (5, .slot 28 (RAT (b * c))), (6, .slot 29 (VP.int .i64 (cmpR (a * c) (b * c)))), (7, .slot 30 (VP.int .i64 (cmpR a b))), (8, .slot 31 (VP.int .i64 (cmpR c 0))), (9, .slot 32 (VP.int .i64 ((cmpR a b) * (cmpR c 0)))), (10, .slot 33 (VP.bool ((cmpR (a * c) (b * c)) != ((cmpR a b) * (cmpR c 0))))), (11, .slot 34 (VP.bool ((cmpR (a * c) (b * c)) != ((cmpR a b) * (cmpR c 0))))), (12, .slot 35 (RAT a)), (13, .slot 36 (RAT (-a))), (14, .slot 37 (RAT b)), (15, .slot 38 (RAT (-b))), (16, .slot 39 (VP.int .i64 (cmpR (-a) (-b)))), (17, .slot 40 (VP.int .i64 (cmpR a b))), (18, .slot 41 (VP.int .i64 (-(cmpR a b)))), (19, .slot 42 (VP.bool ((cmpR (-a) (-b)) != (-(cmpR a b))))), (20, .slot 43 (VP.bool ((cmpR (-a) (-b)) != (-(cmpR a b)))))] [0, 1, 2, 3, 4, 5] [] rfl rfl follow rfl ⟨
    .inl ⟨wants_plain rfl, does_loadAgg _ ty_agg_api_Frac rfl rfl rfl rfl rfl rfl (pt_box (av_fs 0 rfl)) (av_fs 0 rfl)⟩,
    .inl ⟨wants_plain rfl, does_loadAgg _ ty_agg_api_Frac rfl rfl rfl rfl rfl rfl (pt_box (av_fs 2 rfl)) (av_fs 2 rfl)⟩,
    .inl ⟨wants_plain rfl, does_call (q_mul a c (LR.le ha (by decide)) (LR.le hc (by decide))) rfl hb_collator_frac_Mul rfl rfl rfl rfl ⟨(ar_tmp (av_rs 0 rfl rfl)), (ar_tmp (av_rs 1 rfl rfl)), trivial⟩⟩,
    .inl ⟨wants_plain rfl, does_loadAgg _ ty_agg_api_Frac rfl rfl rfl rfl rfl rfl (pt_box (av_fs 1 rfl)) (av_fs 1 rfl)⟩,
    .inl ⟨wants_plain rfl, does_loadAgg _ ty_agg_api_Frac rfl rfl rfl rfl rfl rfl (pt_box (av_fs 2 rfl)) (av_fs 2 rfl)⟩,
    .inl ⟨wants_plain rfl, does_call (q_mul b c (LR.le hb (by decide)) (LR.le hc (by decide))) rfl hb_collator_frac_Mul rfl rfl rfl rfl ⟨(ar_tmp (av_rs 3 rfl rfl)), (ar_tmp (av_rs 4 rfl rfl)), trivial⟩⟩,
    .inl ⟨wants_plain rfl, does_call (q_cmp (a * c) (b * c) (LR.le (lrmul ha hc) (by decide)) (LR.le (lrmul hb hc) (by decide))) rfl hb_collator_frac_Cmp rfl rfl rfl rfl ⟨(ar_tmp (av_rs 2 rfl rfl)), (ar_tmp (av_rs 5 rfl rfl)), trivial⟩⟩,
    .inl ⟨wants_plain rfl, does_move _ (.inl rfl) rfl rfl rfl rfl (ar_tmp (av_fs 4 rfl))⟩,
    .inl ⟨wants_plain rfl, does_move _ (.inl rfl) rfl rfl rfl rfl (ar_tmp (av_fs 5 rfl))⟩,
    .inl ⟨wants_plain rfl, does_mulInt (m := (cmpR a b)) (n := (cmpR c 0)) _ _ _ _ rfl rfl rfl rfl rfl (cmpR_mul_bd _ _ _ _) (ar_tmp (av_rs 7 rfl rfl)) (ar_tmp (av_rs 8 rfl rfl))⟩,
    .inl ⟨wants_plain rfl, does_cmp (m := (cmpR (a * c) (b * c))) (n := ((cmpR a b) * (cmpR c 0))) _ _ _ _ _ rfl rfl rfl rfl rfl rfl .i64 (ar_tmp (av_rs 6 rfl rfl)) (ar_tmp (av_rs 9 rfl rfl))⟩,
    .inl ⟨wants_plain rfl, does_move _ (.inl rfl) rfl rfl rfl rfl (ar_tmp (av_rs 10 rfl rfl))⟩,
    .inl ⟨wants_guard false rfl rfl rfl (av_bool (by rw [cmpR_mul, bne_self_eq_false]) (av_rs 11 rfl rfl)), does_loadAgg _ ty_agg_api_Frac rfl rfl rfl rfl rfl rfl (pt_box (av_fs 0 rfl)) (av_fs 0 rfl)⟩,
    .inl ⟨wants_guard false rfl rfl rfl (av_bool (by rw [cmpR_mul, bne_self_eq_false]) (av_rs 11 rfl rfl)), does_call (q_neg a (LR.le ha (by decide))) rfl hb_collator_frac_Neg rfl rfl rfl rfl ⟨(ar_tmp (av_rs 12 rfl rfl)), trivial⟩⟩,
    .inl ⟨wants_guard false rfl rfl rfl (av_bool (by rw [cmpR_mul, bne_self_eq_false]) (av_rs 11 rfl rfl)), does_loadAgg _ ty_agg_api_Frac rfl rfl rfl rfl rfl rfl (pt_box (av_fs 1 rfl)) (av_fs 1 rfl)⟩,
    .inl ⟨wants_guard false rfl rfl rfl (av_bool (by rw [cmpR_mul, bne_self_eq_false]) (av_rs 11 rfl rfl)), does_call (q_neg b (LR.le hb (by decide))) rfl hb_collator_frac_Neg rfl rfl rfl rfl ⟨(ar_tmp (av_rs 14 rfl rfl)), trivial⟩⟩,
    .inl ⟨wants_guard false rfl rfl rfl (av_bool (by rw [cmpR_mul, bne_self_eq_false]) (av_rs 11 rfl rfl)), does_call (q_cmp (-a) (-b) (LR.le (lrneg ha) (by decide)) (LR.le (lrneg hb) (by decide))) rfl hb_collator_frac_Cmp rfl rfl rfl rfl ⟨(ar_tmp (av_rs 13 rfl rfl)), (ar_tmp (av_rs 15 rfl rfl)), trivial⟩⟩,
    .inl ⟨wants_guard false rfl rfl rfl (av_bool (by rw [cmpR_mul, bne_self_eq_false]) (av_rs 11 rfl rfl)), does_move _ (.inl rfl) rfl rfl rfl rfl (ar_tmp (av_fs 4 rfl))⟩,
    .inl ⟨wants_guard false rfl rfl rfl (av_bool (by rw [cmpR_mul, bne_self_eq_false]) (av_rs 11 rfl rfl)), does_negInt (m := (cmpR a b)) _ _ rfl rfl rfl rfl rfl (cmpR_neg_bd _ _) (ar_tmp (av_rs 17 rfl rfl))⟩,
    .inl ⟨wants_guard false rfl rfl rfl (av_bool (by rw [cmpR_mul, bne_self_eq_false]) (av_rs 11 rfl rfl)), does_cmp (m := (cmpR (-a) (-b))) (n := (-(cmpR a b))) _ _ _ _ _ rfl rfl rfl rfl rfl rfl .i64 (ar_tmp (av_rs 16 rfl rfl)) (ar_tmp (av_rs 18 rfl rfl))⟩,
    .inl ⟨wants_plain rfl, does_pick false _ _ _ rfl rfl rfl rfl rfl (ar_tmp (av_bool (by rw [cmpR_mul, bne_self_eq_false]) (av_rs 11 rfl rfl))) (ar_tmp (av_rs 19 rfl rfl))⟩,
    trivial⟩ ?_
  refine nx_sub (fs' := [.box 3 100 [Bz a.num, Dz a.num, Bz (fD a.den), Dz (fD a.den)], .box 4 100 [Bz b.num, Dz b.num, Bz (fD b.den), Dz (fD b.den)], .slot 6 (VP.bool false), .slot 7 (VP.int .i64 (cmpR a b)), .slot 43 (VP.bool ((cmpR (-a) (-b)) != (-(cmpR a b))))]) [0, 1, 3, 4, 26] rfl ?_
  refine nx_then ?_
  refine t_cond_fe 4 rfl (by rw [cmpR_neg, bne_self_eq_false]) ?_
  refine t_skip ?_
  refine nx_then ?_
  refine t_seq ?_
  refine t_region (F := ⟨_, _, _, _⟩) [.box 3 100 [Bz a.num, Dz a.num, Bz (fD a.den), Dz (fD a.den)], .box 4 100 [Bz b.num, Dz b.num, Bz (fD b.den), Dz (fD b.den)], .slot 6 (VP.bool false), .slot 7 (VP.int .i64 (cmpR a b)), .slot 43 (VP.bool ((cmpR (-a) (-b)) != (-(cmpR a b))))] [] [(0, .slot 44 (INT 1)), (1, .slot 45 (RAT ((1 : Int) : Rat))), (2, .own 9 100 4), (3, .box 9 100 [Bz (((1 : Int) : Rat).num), Dz (((1 : Int) : Rat).num), Bz (fD ((1 : Int) : Rat).den), Dz (fD ((1 : Int) : Rat).den)])] [0, 1, 2, 3, 4] [] rfl rfl follow rfl ⟨
    .inl ⟨wants_plain rfl, does_call (s_of 1 (by decide) (by decide)) rfl hb_collator_whole_Of rfl rfl rfl rfl ⟨(ar_const (fun _ => rfl)), trivial⟩⟩,
    .inl ⟨wants_plain rfl, does_call (q_of 1 (lle lone (by decide))) rfl hb_collator_frac_Of rfl rfl rfl rfl ⟨(ar_tmp (av_rs 0 rfl rfl)), trivial⟩⟩,
    .inl ⟨wants_plain rfl, does_allocOwn [Bz 0, Dz 0, Bz 0, Dz 0] ty_zero_api_Frac rfl rfl rfl rfl rfl z_frac rfl⟩,
    .inl ⟨wants_plain rfl, does_storeNew 4 _ _ ty_agg_api_Frac rfl rfl rfl rfl rfl (pt_own (av_rs 2 rfl rfl)) (av_rs 2 rfl rfl) (ar_tmp (av_rs 1 rfl rfl))⟩,
    trivial⟩ ?_
  refine nx_sub (fs' := [.box 3 100 [Bz a.num, Dz a.num, Bz (fD a.den), Dz (fD a.den)], .box 4 100 [Bz b.num, Dz b.num, Bz (fD b.den), Dz (fD b.den)], .slot 6 (VP.bool false), .slot 7 (VP.int .i64 (cmpR a b)), .box 9 100 [Bz (((1 : Int) : Rat).num), Dz (((1 : Int) : Rat).num), Bz (fD ((1 : Int) : Rat).den), Dz (fD ((1 : Int) : Rat).den)]]) [0, 1, 2, 3, 8] rfl ?_
  refine nx_then ?_
  refine t_seq ?_
  refine t_seq ?_
  refine t_region (F := ⟨_, _, _, _⟩) [.box 3 100 [Bz a.num, Dz a.num, Bz (fD a.den), Dz (fD a.den)], .box 4 100 [Bz b.num, Dz b.num, Bz (fD b.den), Dz (fD b.den)], .slot 6 (VP.bool false), .slot 7 (VP.int .i64 (cmpR a b)), .box 9 100 [Bz (((1 : Int) : Rat).num), Dz (((1 : Int) : Rat).num), Bz (fD ((1 : Int) : Rat).den), Dz (fD ((1 : Int) : Rat).den)]] [] [(0, .slot 46 (RAT a)), (1, .slot 47 (VP.agg [Bz 0, Dz 0, Bz 0, Dz 0])), (2, .slot 48 (VP.int .i64 (cmpR a 0))), (3, .slot 49 (VP.bool (decide ((cmpR a 0) ≤ 0)))), (4, .slot 50 (VP.bool (decide ((cmpR a 0) ≤ 0)))), (9, .slot 55 (VP.bool true))] [0, 1, 2, 3, 4] [] rfl rfl follow rfl ⟨
    .inl ⟨wants_plain rfl, does_loadAgg _ ty_agg_api_Frac rfl rfl rfl rfl rfl rfl (pt_box (av_fs 0 rfl)) (av_fs 0 rfl)⟩,
    .inl ⟨wants_plain rfl, does_build [Bz 0, Dz 0, Bz 0, Dz 0] ty_zero_api_Frac ty_pl_api_Frac rfl rfl rfl rfl rfl z_frac (.nil _)⟩,
    .inl ⟨wants_plain rfl, does_call (q_cmp a 0 (LR.le ha (by decide)) (LR.le lrzero (by decide))) rfl hb_collator_frac_Cmp rfl rfl rfl rfl ⟨(ar_tmp (av_rs 0 rfl rfl)), (ar_tmp (av_rs 1 rfl rfl)), trivial⟩⟩,
    .inl ⟨wants_plain rfl, does_cmp (m := (cmpR a 0)) (n := 0) _ _ _ _ _ rfl rfl rfl rfl rfl rfl .i64 (ar_tmp (av_rs 2 rfl rfl)) (ar_const (fun _ => rfl))⟩,
    .inl ⟨wants_plain rfl, does_move _ (.inl rfl) rfl rfl rfl rfl (ar_tmp (av_rs 3 rfl rfl))⟩,
    .inr (skips_guard true rfl rfl rfl (av_bool (decide_eq_true h) (av_rs 4 rfl rfl)) rfl rfl rfl rfl),
    .inr (skips_guard true rfl rfl rfl (av_bool (decide_eq_true h) (av_rs 4 rfl rfl)) rfl rfl rfl rfl),
    .inr (skips_guard true rfl rfl rfl (av_bool (decide_eq_true h) (av_rs 4 rfl rfl)) rfl rfl rfl rfl),
    .inr (skips_guard true rfl rfl rfl (av_bool (decide_eq_true h) (av_rs 4 rfl rfl)) rfl rfl rfl rfl),
    .inl ⟨wants_plain rfl, does_pick true _ _ _ rfl rfl rfl rfl rfl (ar_tmp (av_bool (decide_eq_true h) (av_rs 4 rfl rfl))) (ar_const (fun _ => rfl))⟩,
    trivial⟩ ?_
  refine nx_sub (fs' := [.box 3 100 [Bz a.num, Dz a.num, Bz (fD a.den), Dz (fD a.den)], .box 4 100 [Bz b.num, Dz b.num, Bz (fD b.den), Dz (fD b.den)], .slot 6 (VP.bool false), .slot 7 (VP.int .i64 (cmpR a b)), .box 9 100 [Bz (((1 : Int) : Rat).num), Dz (((1 : Int) : Rat).num), Bz (fD ((1 : Int) : Rat).den), Dz (fD ((1 : Int) : Rat).den)], .slot 55 (VP.bool true)]) [0, 1, 2, 3, 4, 10] rfl ?_
  refine nx_then ?_
  refine t_cond_t 5 rfl ?_
  refine t_seq ?_
  refine t_region (F := ⟨_, _, _, _⟩) [.box 3 100 [Bz a.num, Dz a.num, Bz (fD a.den), Dz (fD a.den)], .box 4 100 [Bz b.num, Dz b.num, Bz (fD b.den), Dz (fD b.den)], .slot 7 (VP.int .i64 (cmpR a b)), .box 9 100 [Bz (((1 : Int) : Rat).num), Dz (((1 : Int) : Rat).num), Bz (fD ((1 : Int) : Rat).den), Dz (fD ((1 : Int) : Rat).den)], .slot 55 (VP.bool true)] [(0, .slot 6 (VP.bool false))] [(0, .slot 6 (VP.bool true))] [0, 1, 3, 4, 5] [2] rfl rfl follow rfl ⟨
    .inl ⟨wants_plain rfl, does_move _ (.inr rfl) rfl rfl rfl rfl (ar_const (fun _ => rfl))⟩,
    trivial⟩ ?_
  refine nx_sub (fs' := [.box 3 100 [Bz a.num, Dz a.num, Bz (fD a.den), Dz (fD a.den)], .box 4 100 [Bz b.num, Dz b.num, Bz (fD b.den), Dz (fD b.den)], .slot 7 (VP.int .i64 (cmpR a b)), .box 9 100 [Bz (((1 : Int) : Rat).num), Dz (((1 : Int) : Rat).num), Bz (fD ((1 : Int) : Rat).den), Dz (fD ((1 : Int) : Rat).den)], .slot 6 (VP.bool true)]) [0, 1, 2, 3, 5] rfl ?_
  refine nx_then ?_
  refine t_ret ?_
  refine rt_then ?_
  exact rt_one rfl (res_tmp 4 rfl)
set_option maxRecDepth 100000 in
set_option maxHeartbeats 4000000 in
theorem forder2 (a b c : Rat) (ha : LR a 5) (hb : LR b 5) (hc : LR c 5) (HO : Spec Try.prog 73 [isRows 3 [Bz a.num, Dz a.num, Bz (fD a.den), Dz (fD a.den), Bz b.num, Dz b.num, Bz (fD b.den), Dz (fD b.den), Bz c.num, Dz c.num, Bz (fD c.den), Dz (fD c.den)]] (VP.bool false)) (h : ¬ cmpR a 0 ≤ 0) (k : cmpR b 0 ≤ 0) : Spec Try.prog 11 [(RAT a).p, (RAT b).p, (RAT c).p] (VP.bool true) := by
  refine spec_of (xs := [RAT a, RAT b, RAT c]) 66 [3, 4, 5, 9] Try.func11 rfl Try.ntmps11 rfl fun w0 => ?_
  refine t_seq ?_
  refine t_region (F := ⟨_, _, _, _⟩) [.slot 0 (RAT a), .slot 1 (RAT b), .slot 2 (RAT c)] [] [(0, .box 3 100 [Bz a.num, Dz a.num, Bz (fD a.den), Dz (fD a.den)]), (1, .box 4 100 [Bz b.num, Dz b.num, Bz (fD b.den), Dz (fD b.den)]), (2, .box 5 100 [Bz c.num, Dz c.num, Bz (fD c.den), Dz (fD c.den)]), (3, .slot 6 (VP.bool false))] [0, 1, 2] [] rfl rfl follow rfl ⟨
    .inl ⟨wants_plain rfl, does_box _ rfl rfl rfl rfl rfl (ar_tmp (av_fs 0 rfl))⟩,
    .inl ⟨wants_plain rfl, does_box _ rfl rfl rfl rfl rfl (ar_tmp (av_fs 1 rfl))⟩,
    .inl ⟨wants_plain rfl, does_box _ rfl rfl rfl rfl rfl (ar_tmp (av_fs 2 rfl))⟩,
    .inl ⟨wants_plain rfl, does_move _ (.inr rfl) rfl rfl rfl rfl (ar_const (fun _ => rfl))⟩,
    trivial⟩ ?_
  refine nx_sub (fs' := [.box 3 100 [Bz a.num, Dz a.num, Bz (fD a.den), Dz (fD a.den)], .box 4 100 [Bz b.num, Dz b.num, Bz (fD b.den), Dz (fD b.den)], .box 5 100 [Bz c.num, Dz c.num, Bz (fD c.den), Dz (fD c.den)], .slot 6 (VP.bool false)]) [3, 4, 5, 6] rfl ?_
  refine nx_then ?_
  refine t_seq ?_
  refine t_seq ?_
  refine t_region (F := ⟨_, _, _, _⟩) [.box 3 100 [Bz a.num, Dz a.num, Bz (fD a.den), Dz (fD a.den)], .box 4 100 [Bz b.num, Dz b.num, Bz (fD b.den), Dz (fD b.den)], .box 5 100 [Bz c.num, Dz c.num, Bz (fD c.den), Dz (fD c.den)], .slot 6 (VP.bool false)] [] [(0, .slot 10 (VP.bool true)), (1, .slot 11 (VP.bool false))] [0, 1, 2, 3] [] rfl rfl follow rfl ⟨
    .inl ⟨wants_plain rfl, does_call sp2_spec rfl hb_collator_collatorlaw02_speaks rfl rfl rfl rfl trivial⟩,
    .inl ⟨wants_plain rfl, does_not true _ _ rfl rfl rfl rfl rfl (ar_tmp (av_rs 0 rfl rfl))⟩,
    trivial⟩ ?_
  refine nx_sub (fs' := [.box 3 100 [Bz a.num, Dz a.num, Bz (fD a.den), Dz (fD a.den)], .box 4 100 [Bz b.num, Dz b.num, Bz (fD b.den), Dz (fD b.den)], .box 5 100 [Bz c.num, Dz c.num, Bz (fD c.den), Dz (fD c.den)], .slot 6 (VP.bool false), .slot 11 (VP.bool false)]) [0, 1, 2, 3, 5] rfl ?_
  refine nx_then ?_
  refine t_cond_f 4 rfl ?_
  refine t_skip ?_
  refine nx_then ?_
  refine t_seq ?_
  refine t_seq ?_
  refine t_region (F := ⟨_, _, _, _⟩) [.box 3 100 [Bz a.num, Dz a.num, Bz (fD a.den), Dz (fD a.den)], .box 4 100 [Bz b.num, Dz b.num, Bz (fD b.den), Dz (fD b.den)], .box 5 100 [Bz c.num, Dz c.num, Bz (fD c.den), Dz (fD c.den)], .slot 6 (VP.bool false), .slot 11 (VP.bool false)] [] [(0, .slot 12 (RAT a)), (1, .slot 13 (RAT b)), (2, .slot 14 (RAT c)), (3, .arr 15 100 3 [Bz a.num, Dz a.num, Bz (fD a.den), Dz (fD a.den), Bz b.num, Dz b.num, Bz (fD b.den), Dz (fD b.den), Bz c.num, Dz c.num, Bz (fD c.den), Dz (fD c.den)]), (4, .slot 16 (VP.bool false))] [0, 1, 2, 3, 4] [] rfl rfl follow rfl ⟨
    .inl ⟨wants_plain rfl, does_loadAgg _ ty_agg_api_Frac rfl rfl rfl rfl rfl rfl (pt_box (av_fs 0 rfl)) (av_fs 0 rfl)⟩,
    .inl ⟨wants_plain rfl, does_loadAgg _ ty_agg_api_Frac rfl rfl rfl rfl rfl rfl (pt_box (av_fs 1 rfl)) (av_fs 1 rfl)⟩,
    .inl ⟨wants_plain rfl, does_loadAgg _ ty_agg_api_Frac rfl rfl rfl rfl rfl rfl (pt_box (av_fs 2 rfl)) (av_fs 2 rfl)⟩,
    .inl ⟨wants_plain rfl, does_buildSlice (sz := 4) [Bz 0, Dz 0, Bz 0, Dz 0, Bz 0, Dz 0, Bz 0, Dz 0, Bz 0, Dz 0, Bz 0, Dz 0] ty_zero_api_Frac (by kernel_rfl) (fun w => run_sizeAgg ty_agg_api_Frac w) rfl rfl rfl rfl rfl rfl (by kernel_rfl) (fun w => by exact z_frac_3 w) (.cons 0 [Bz a.num, Dz a.num, Bz (fD a.den), Dz (fD a.den)] rfl rfl (ar_cells_agg (ar_tmp (av_rs 0 rfl rfl))) (.cons 4 [Bz b.num, Dz b.num, Bz (fD b.den), Dz (fD b.den)] rfl rfl (ar_cells_agg (ar_tmp (av_rs 1 rfl rfl))) (.cons 8 [Bz c.num, Dz c.num, Bz (fD c.den), Dz (fD c.den)] rfl rfl (ar_cells_agg (ar_tmp (av_rs 2 rfl rfl))) (.nil _))))⟩,
    .inl ⟨wants_plain rfl, does_call HO rfl hb_collator_collatorlaw02_Odd rfl rfl rfl rfl ⟨(ar_arr_rows (by simp [maxLen]) (av_rs 3 rfl rfl)), trivial⟩⟩,
    trivial⟩ ?_
  refine nx_sub (fs' := [.box 3 100 [Bz a.num, Dz a.num, Bz (fD a.den), Dz (fD a.den)], .box 4 100 [Bz b.num, Dz b.num, Bz (fD b.den), Dz (fD b.den)], .box 5 100 [Bz c.num, Dz c.num, Bz (fD c.den), Dz (fD c.den)], .slot 6 (VP.bool false), .slot 16 (VP.bool false)]) [0, 1, 2, 3, 9] rfl ?_
  refine nx_then ?_
  refine t_cond_f 4 rfl ?_
  refine t_skip ?_
  refine nx_then ?_
  refine t_seq ?_
  refine t_region (F := ⟨_, _, _, _⟩) [.box 3 100 [Bz a.num, Dz a.num, Bz (fD a.den), Dz (fD a.den)], .box 4 100 [Bz b.num, Dz b.num, Bz (fD b.den), Dz (fD b.den)], .box 5 100 [Bz c.num, Dz c.num, Bz (fD c.den), Dz (fD c.den)], .slot 6 (VP.bool false), .slot 16 (VP.bool false)] [] [(0, .slot 17 (RAT a)), (1, .slot 18 (RAT b)), (2, .slot 19 (VP.int .i64 (cmpR a b))), (3, .slot 20 (RAT c)), (4, .slot 21 (VP.agg [Bz 0, Dz 0, Bz 0, Dz 0])), (5, .slot 22 (VP.int .i64 (cmpR c 0))), (6, .slot 7 (VP.int .i64 (cmpR a b))), (7, .slot 8 (VP.int .i64 (cmpR c 0)))] [0, 1, 2, 3, 4] [] rfl rfl follow rfl ⟨
    .inl ⟨wants_plain rfl, does_loadAgg _ ty_agg_api_Frac rfl rfl rfl rfl rfl rfl (pt_box (av_fs 0 rfl)) (av_fs 0 rfl)⟩,
    .inl ⟨wants_plain rfl, does_loadAgg _ ty_agg_api_Frac rfl rfl rfl rfl rfl rfl (pt_box (av_fs 1 rfl)) (av_fs 1 rfl)⟩,
    .inl ⟨wants_plain rfl, does_call (q_cmp a b (LR.le ha (by decide)) (LR.le hb (by decide))) rfl hb_collator_frac_Cmp rfl rfl rfl rfl ⟨(ar_tmp (av_rs 0 rfl rfl)), (ar_tmp (av_rs 1 rfl rfl)), trivial⟩⟩,
    .inl ⟨wants_plain rfl, does_loadAgg _ ty_agg_api_Frac rfl rfl rfl rfl rfl rfl (pt_box (av_fs 2 rfl)) (av_fs 2 rfl)⟩,
    .inl ⟨wants_plain rfl, does_build [Bz 0, Dz 0, Bz 0, Dz 0] ty_zero_api_Frac ty_pl_api_Frac rfl rfl rfl rfl rfl z_frac (.nil _)⟩,
    .inl ⟨wants_plain rfl, does_call (q_cmp c 0 (LR.le hc (by decide)) (LR.le lrzero (by decide))) rfl hb_collator_frac_Cmp rfl rfl rfl rfl ⟨(ar_tmp (av_rs 3 rfl rfl)), (ar_tmp (av_rs 4 rfl rfl)), trivial⟩⟩,
    .inl ⟨wants_plain rfl, does_move _ (.inr rfl) rfl rfl rfl rfl (ar_tmp (av_rs 2 rfl rfl))⟩,
    .inl ⟨wants_plain rfl, does_move _ (.inr rfl) rfl rfl rfl rfl (ar_tmp (av_rs 5 rfl rfl))⟩,
    trivial⟩ ?_
  refine nx_sub (fs' := [.box 3 100 [Bz a.num, Dz a.num, Bz (fD a.den), Dz (fD a.den)], .box 4 100 [Bz b.num, Dz b.num, Bz (fD b.den), Dz (fD b.den)], .box 5 100 [Bz c.num, Dz c.num, Bz (fD c.den), Dz (fD c.den)], .slot 6 (VP.bool false), .slot 7 (VP.int .i64 (cmpR a b)), .slot 8 (VP.int .i64 (cmpR c 0))]) [0, 1, 2, 3, 11, 12] rfl ?_
  refine nx_then ?_
  refine t_seq ?_
  refine t_seq ?_
  refine t_region (F := ⟨_, _, _, _⟩) [.box 3 100 [Bz a.num, Dz a.num, Bz (fD a.den), Dz (fD a.den)], .box 4 100 [Bz b.num, Dz b.num, Bz (fD b.den), Dz (fD b.den)], .box 5 100 [Bz c.num, Dz c.num, Bz (fD c.den), Dz (fD c.den)], .slot 6 (VP.bool false), .slot 7 (VP.int .i64 (cmpR a b)), .slot 8 (VP.int .i64 (cmpR c 0))] [] [(0, .slot 23 (RAT a)), (1, .slot 24 (RAT c)), (2, .slot 25 (RAT (a * c))), (3, .slot 26 (RAT b)), (4, .slot 27 (RAT c)), (5, .slot 28 (RAT (b * c))), (6, .slot 29 (VP.int .i64 (cmpR (a * c) (b * c)))), (7, .slot 30 (VP.int .i64 (cmpR a b))), (8, .slot 31 (VP.int .i64 (cmpR c 0))), (9, .slot 32 (VP.int .i64 ((cmpR a b) * (cmpR c 0)))), (10, .slot 33 (VP.bool ((cmpR (a * c) (b * c)) != ((cmpR a b) * (cmpR c 0))))), (11, .slot 34 (VP.bool ((cmpR (a * c) (b * c)) != ((cmpR a b) * (cmpR c 0))))), (12, .slot 35 (RAT a)), (13, .slot 36 (RAT (-a))), (14, .slot 37 (RAT b)), (15, .slot 38 (RAT (-b))), (16, .slot 39 (VP.int .i64 (cmpR (-a) (-b)))), (17, .slot 40 (VP.int .i64 (cmpR a b))), (18, .slot 41 (VP.int .i64 (-(cmpR a b)))), (19, .slot 42 (VP.bool ((cmpR (-a) (-b)) != (-(cmpR a b))))), (20, .slot 43 (VP.bool ((cmpR (-a) (-b)) != (-(cmpR a b)))))] [0, 1, 2, 3, 4, 5] [] rfl rfl follow rfl ⟨
    .inl ⟨wants_plain rfl, does_loadAgg _ ty_agg_api_Frac rfl rfl rfl rfl rfl rfl (pt_box (av_fs 0 rfl)) (av_fs 0 rfl)⟩,
    .inl ⟨wants_plain rfl, does_loadAgg _ ty_agg_api_Frac rfl rfl rfl rfl rfl rfl (pt_box (av_fs 2 rfl)) (av_fs 2 rfl)⟩,
    .inl ⟨wants_plain rfl, does_call (q_mul a c (LR.le ha (by decide)) (LR.le hc (by decide))) rfl hb_collator_frac_Mul rfl rfl rfl rfl ⟨(ar_tmp (av_rs 0 rfl rfl)), (ar_tmp (av_rs 1 rfl rfl)), trivial⟩⟩,
    .inl ⟨wants_plain rfl, does_loadAgg _ ty_agg_api_Frac rfl rfl rfl rfl rfl rfl (pt_box (av_fs 1 rfl)) (av_fs 1 rfl)⟩,
    .inl ⟨wants_plain rfl, does_loadAgg _ ty_agg_api_Frac rfl rfl rfl rfl rfl rfl (pt_box (av_fs 2 rfl)) (av_fs 2 rfl)⟩,
    .inl ⟨wants_plain rfl, does_call (q_mul b c (LR.le hb (by decide)) (LR.le hc (by decide))) rfl hb_collator_frac_Mul rfl rfl rfl rfl ⟨(ar_tmp (av_rs 3 rfl rfl)), (ar_tmp (av_rs 4 rfl rfl)), trivial⟩⟩,
    .inl ⟨wants_plain rfl, does_call (q_cmp (a * c) (b * c) (LR.le (lrmul ha hc) (by decide)) (LR.le (lrmul hb hc) (by decide))) rfl hb_collator_frac_Cmp rfl rfl rfl rfl ⟨(ar_tmp (av_rs 2 rfl rfl)), (ar_tmp (av_rs 5 rfl rfl)), trivial⟩⟩,
    .inl ⟨wants_plain rfl, does_move _ (.inl rfl) rfl rfl rfl rfl (ar_tmp (av_fs 4 rfl))⟩,
    .inl ⟨wants_plain rfl, does_move _ (.inl rfl) rfl rfl rfl rfl (ar_tmp (av_fs 5 rfl))⟩,
    .inl ⟨wants_plain rfl, does_mulInt (m := (cmpR a b)) (n := (cmpR c 0)) _ _ _ _ rfl rfl rfl rfl rfl (cmpR_mul_bd _ _ _ _) (ar_tmp (av_rs 7 rfl rfl)) (ar_tmp (av_rs 8 rfl rfl))⟩,
    .inl ⟨wants_plain rfl, does_cmp (m := (cmpR (a * c) (b * c))) (n := ((cmpR a b) * (cmpR c 0))) _ _ _ _ _ rfl rfl rfl rfl rfl rfl .i64 (ar_tmp (av_rs 6 rfl rfl)) (ar_tmp (av_rs 9 rfl rfl))⟩,
    .inl ⟨wants_plain rfl, does_move _ (.inl rfl) rfl rfl rfl rfl (ar_tmp (av_rs 10 rfl rfl))⟩,
    .inl ⟨wants_guard false rfl rfl rfl (av_bool (by rw [cmpR_mul, bne_self_eq_false]) (av_rs 11 rfl rfl)), does_loadAgg _ ty_agg_api_Frac rfl rfl rfl rfl rfl rfl (pt_box (av_fs 0 rfl)) (av_fs 0 rfl)⟩,
    .inl ⟨wants_guard false rfl rfl rfl (av_bool (by rw [cmpR_mul, bne_self_eq_false]) (av_rs 11 rfl rfl)), does_call (q_neg a (LR.le ha (by decide))) rfl hb_collator_frac_Neg rfl rfl rfl rfl ⟨(ar_tmp (av_rs 12 rfl rfl)), trivial⟩⟩,
    .inl ⟨wants_guard false rfl rfl rfl (av_bool (by rw [cmpR_mul, bne_self_eq_false]) (av_rs 11 rfl rfl)), does_loadAgg _ ty_agg_api_Frac rfl rfl rfl rfl rfl rfl (pt_box (av_fs 1 rfl)) (av_fs 1 rfl)⟩,
    .inl ⟨wants_guard false rfl rfl rfl (av_bool (by rw [cmpR_mul, bne_self_eq_false]) (av_rs 11 rfl rfl)), does_call (q_neg b (LR.le hb (by decide))) rfl hb_collator_frac_Neg rfl rfl rfl rfl ⟨(ar_tmp (av_rs 14 rfl rfl)), trivial⟩⟩,
    .inl ⟨wants_guard false rfl rfl rfl (av_bool (by rw [cmpR_mul, bne_self_eq_false]) (av_rs 11 rfl rfl)), does_call (q_cmp (-a) (-b) (LR.le (lrneg ha) (by decide)) (LR.le (lrneg hb) (by decide))) rfl hb_collator_frac_Cmp rfl rfl rfl rfl ⟨(ar_tmp (av_rs 13 rfl rfl)), (ar_tmp (av_rs 15 rfl rfl)), trivial⟩⟩,
    .inl ⟨wants_guard false rfl rfl rfl (av_bool (by rw [cmpR_mul, bne_self_eq_false]) (av_rs 11 rfl rfl)), does_move _ (.inl rfl) rfl rfl rfl rfl (ar_tmp (av_fs 4 rfl))⟩,
    .inl ⟨wants_guard false rfl rfl rfl (av_bool (by rw [cmpR_mul, bne_self_eq_false]) (av_rs 11 rfl rfl)), does_negInt (m := (cmpR a b)) _ _ rfl rfl rfl rfl rfl (cmpR_neg_bd _ _) (ar_tmp (av_rs 17 rfl rfl))⟩,
    .inl ⟨wants_guard false rfl rfl rfl (av_bool (by rw [cmpR_mul, bne_self_eq_false]) (av_rs 11 rfl rfl)), does_cmp (m := (cmpR (-a) (-b))) (n := (-(cmpR a b))) _ _ _ _ _ rfl rfl rfl rfl rfl rfl .i64 (ar_tmp (av_rs 16 rfl rfl)) (ar_tmp (av_rs 18 rfl rfl))⟩,
    .inl ⟨wants_plain rfl, does_pick false _ _ _ rfl rfl rfl rfl rfl (ar_tmp (av_bool (by rw [cmpR_mul, bne_self_eq_false]) (av_rs 11 rfl rfl))) (ar_tmp (av_rs 19 rfl rfl))⟩,
    trivial⟩ ?_
  refine nx_sub (fs' := [.box 3 100 [Bz a.num, Dz a.num, Bz (fD a.den), Dz (fD a.den)], .box 4 100 [Bz b.num, Dz b.num, Bz (fD b.den), Dz (fD b.den)], .slot 6 (VP.bool false), .slot 7 (VP.int .i64 (cmpR a b)), .slot 43 (VP.bool ((cmpR (-a) (-b)) != (-(cmpR a b))))]) [0, 1, 3, 4, 26] rfl ?_
  refine nx_then ?_
  refine t_cond_fe 4 rfl (by rw [cmpR_neg, bne_self_eq_false]) ?_
  refine t_skip ?_
  refine nx_then ?_
  refine t_seq ?_
  refine t_region (F := ⟨_, _, _, _⟩) [.box 3 100 [Bz a.num, Dz a.num, Bz (fD a.den), Dz (fD a.den)], .box 4 100 [Bz b.num, Dz b.num, Bz (fD b.den), Dz (fD b.den)], .slot 6 (VP.bool false), .slot 7 (VP.int .i64 (cmpR a b)), .slot 43 (VP.bool ((cmpR (-a) (-b)) != (-(cmpR a b))))] [] [(0, .slot 44 (INT 1)), (1, .slot 45 (RAT ((1 : Int) : Rat))), (2, .own 9 100 4), (3, .box 9 100 [Bz (((1 : Int) : Rat).num), Dz (((1 : Int) : Rat).num), Bz (fD ((1 : Int) : Rat).den), Dz (fD ((1 : Int) : Rat).den)])] [0, 1, 2, 3, 4] [] rfl rfl follow rfl ⟨
    .inl ⟨wants_plain rfl, does_call (s_of 1 (by decide) (by decide)) rfl hb_collator_whole_Of rfl rfl rfl rfl ⟨(ar_const (fun _ => rfl)), trivial⟩⟩,
    .inl ⟨wants_plain rfl, does_call (q_of 1 (lle lone (by decide))) rfl hb_collator_frac_Of rfl rfl rfl rfl ⟨(ar_tmp (av_rs 0 rfl rfl)), trivial⟩⟩,
    .inl ⟨wants_plain rfl, does_allocOwn [Bz 0, Dz 0, Bz 0, Dz 0] ty_zero_api_Frac rfl rfl rfl rfl rfl z_frac rfl⟩,
    .inl ⟨wants_plain rfl, does_storeNew 4 _ _ ty_agg_api_Frac rfl rfl rfl rfl rfl (pt_own (av_rs 2 rfl rfl)) (av_rs 2 rfl rfl) (ar_tmp (av_rs 1 rfl rfl))⟩,
    trivial⟩ ?_
  refine nx_sub (fs' := [.box 3 100 [Bz a.num, Dz a.num, Bz (fD a.den), Dz (fD a.den)], .box 4 100 [Bz b.num, Dz b.num, Bz (fD b.den), Dz (fD b.den)], .slot 6 (VP.bool false), .slot 7 (VP.int .i64 (cmpR a b)), .box 9 100 [Bz (((1 : Int) : Rat).num), Dz (((1 : Int) : Rat).num), Bz (fD ((1 : Int) : Rat).den), Dz (fD ((1 : Int) : Rat).den)]]) [0, 1, 2, 3, 8] rfl ?_
  refine nx_then ?_
  refine t_seq ?_
  refine t_seq ?_
  refine t_region (F := ⟨_, _, _, _⟩) [.box 3 100 [Bz a.num, Dz a.num, Bz (fD a.den), Dz (fD a.den)], .box 4 100 [Bz b.num, Dz b.num, Bz (fD b.den), Dz (fD b.den)], .slot 6 (VP.bool false), .slot 7 (VP.int .i64 (cmpR a b)), .box 9 100 [Bz (((1 : Int) : Rat).num), Dz (((1 : Int) : Rat).num), Bz (fD ((1 : Int) : Rat).den), Dz (fD ((1 : Int) : Rat).den)]] [] [(0, .slot 46 (RAT a)), (1, .slot 47 (VP.agg [Bz 0, Dz 0, Bz 0, Dz 0])), (2, .slot 48 (VP.int .i64 (cmpR a 0))), (3, .slot 49 (VP.bool (decide ((cmpR a 0) ≤ 0)))), (4, .slot 50 (VP.bool (decide ((cmpR a 0) ≤ 0)))), (5, .slot 51 (RAT b)), (6, .slot 52 (VP.agg [Bz 0, Dz 0, Bz 0, Dz 0])), (7, .slot 53 (VP.int .i64 (cmpR b 0))), (8, .slot 54 (VP.bool (decide ((cmpR b 0) ≤ 0)))), (9, .slot 55 (VP.bool (decide ((cmpR b 0) ≤ 0))))] [0, 1, 2, 3, 4] [] rfl rfl follow rfl ⟨
    .inl ⟨wants_plain rfl, does_loadAgg _ ty_agg_api_Frac rfl rfl rfl rfl rfl rfl (pt_box (av_fs 0 rfl)) (av_fs 0 rfl)⟩,
    .inl ⟨wants_plain rfl, does_build [Bz 0, Dz 0, Bz 0, Dz 0] ty_zero_api_Frac ty_pl_api_Frac rfl rfl rfl rfl rfl z_frac (.nil _)⟩,
    .inl ⟨wants_plain rfl, does_call (q_cmp a 0 (LR.le ha (by decide)) (LR.le lrzero (by decide))) rfl hb_collator_frac_Cmp rfl rfl rfl rfl ⟨(ar_tmp (av_rs 0 rfl rfl)), (ar_tmp (av_rs 1 rfl rfl)), trivial⟩⟩,
    .inl ⟨wants_plain rfl, does_cmp (m := (cmpR a 0)) (n := 0) _ _ _ _ _ rfl rfl rfl rfl rfl rfl .i64 (ar_tmp (av_rs 2 rfl rfl)) (ar_const (fun _ => rfl))⟩,
    .inl ⟨wants_plain rfl, does_move _ (.inl rfl) rfl rfl rfl rfl (ar_tmp (av_rs 3 rfl rfl))⟩,
    .inl ⟨wants_guard false rfl rfl rfl (av_bool (decide_eq_false h) (av_rs 4 rfl rfl)), does_loadAgg _ ty_agg_api_Frac rfl rfl rfl rfl rfl rfl (pt_box (av_fs 1 rfl)) (av_fs 1 rfl)⟩,
    .inl ⟨wants_guard false rfl rfl rfl (av_bool (decide_eq_false h) (av_rs 4 rfl rfl)), does_build [Bz 0, Dz 0, Bz 0, Dz 0] ty_zero_api_Frac ty_pl_api_Frac rfl rfl rfl rfl rfl z_frac (.nil _)⟩,
    .inl ⟨wants_guard false rfl rfl rfl (av_bool (decide_eq_false h) (av_rs 4 rfl rfl)), does_call (q_cmp b 0 (LR.le hb (by decide)) (LR.le lrzero (by decide))) rfl hb_collator_frac_Cmp rfl rfl rfl rfl ⟨(ar_tmp (av_rs 5 rfl rfl)), (ar_tmp (av_rs 6 rfl rfl)), trivial⟩⟩,
    .inl ⟨wants_guard false rfl rfl rfl (av_bool (decide_eq_false h) (av_rs 4 rfl rfl)), does_cmp (m := (cmpR b 0)) (n := 0) _ _ _ _ _ rfl rfl rfl rfl rfl rfl .i64 (ar_tmp (av_rs 7 rfl rfl)) (ar_const (fun _ => rfl))⟩,
    .inl ⟨wants_plain rfl, does_pick false _ _ _ rfl rfl rfl rfl rfl (ar_tmp (av_bool (decide_eq_false h) (av_rs 4 rfl rfl))) (ar_tmp (av_rs 8 rfl rfl))⟩,
    trivial⟩ ?_
  refine nx_sub (fs' := [.box 3 100 [Bz a.num, Dz a.num, Bz (fD a.den), Dz (fD a.den)], .box 4 100 [Bz b.num, Dz b.num, Bz (fD b.den), Dz (fD b.den)], .slot 6 (VP.bool false), .slot 7 (VP.int .i64 (cmpR a b)), .box 9 100 [Bz (((1 : Int) : Rat).num), Dz (((1 : Int) : Rat).num), Bz (fD ((1 : Int) : Rat).den), Dz (fD ((1 : Int) : Rat).den)], .slot 55 (VP.bool (decide ((cmpR b 0) ≤ 0)))]) [0, 1, 2, 3, 4, 14] rfl ?_
  refine nx_then ?_
  refine t_cond_te 5 rfl (decide_eq_true k) ?_
  refine t_seq ?_
  refine t_region (F := ⟨_, _, _, _⟩) [.box 3 100 [Bz a.num, Dz a.num, Bz (fD a.den), Dz (fD a.den)], .box 4 100 [Bz b.num, Dz b.num, Bz (fD b.den), Dz (fD b.den)], .slot 7 (VP.int .i64 (cmpR a b)), .box 9 100 [Bz (((1 : Int) : Rat).num), Dz (((1 : Int) : Rat).num), Bz (fD ((1 : Int) : Rat).den), Dz (fD ((1 : Int) : Rat).den)], .slot 55 (VP.bool (decide ((cmpR b 0) ≤ 0)))] [(0, .slot 6 (VP.bool false))] [(0, .slot 6 (VP.bool true))] [0, 1, 3, 4, 5] [2] rfl rfl follow rfl ⟨
    .inl ⟨wants_plain rfl, does_move _ (.inr rfl) rfl rfl rfl rfl (ar_const (fun _ => rfl))⟩,
    trivial⟩ ?_
  refine nx_sub (fs' := [.box 3 100 [Bz a.num, Dz a.num, Bz (fD a.den), Dz (fD a.den)], .box 4 100 [Bz b.num, Dz b.num, Bz (fD b.den), Dz (fD b.den)], .slot 7 (VP.int .i64 (cmpR a b)), .box 9 100 [Bz (((1 : Int) : Rat).num), Dz (((1 : Int) : Rat).num), Bz (fD ((1 : Int) : Rat).den), Dz (fD ((1 : Int) : Rat).den)], .slot 6 (VP.bool true)]) [0, 1, 2, 3, 5] rfl ?_
  refine nx_then ?_
  refine t_ret ?_
  refine rt_then ?_
  exact rt_one rfl (res_tmp 4 rfl)
set_option maxRecDepth 100000 in
set_option maxHeartbeats 4000000 in
theorem forder3 (a b c : Rat) (ha : LR a 5) (hb : LR b 5) (hc : LR c 5) (HO : Spec Try.prog 73 [isRows 3 [Bz a.num, Dz a.num, Bz (fD a.den), Dz (fD a.den), Bz b.num, Dz b.num, Bz (fD b.den), Dz (fD b.den), Bz c.num, Dz c.num, Bz (fD c.den), Dz (fD c.den)]] (VP.bool false)) (h : ¬ cmpR a 0 ≤ 0) (k : ¬ cmpR b 0 ≤ 0) : Spec Try.prog 11 [(RAT a).p, (RAT b).p, (RAT c).p] (VP.bool true) := by
  refine spec_of (xs := [RAT a, RAT b, RAT c]) 66 [3, 4, 5, 9] Try.func11 rfl Try.ntmps11 rfl fun w0 => ?_
  refine t_seq ?_
  refine t_region (F := ⟨_, _, _, _⟩) [.slot 0 (RAT a), .slot 1 (RAT b), .slot 2 (RAT c)] [] [(0, .box 3 100 [Bz a.num, Dz a.num, Bz (fD a.den), Dz (fD a.den)]), (1, .box 4 100 [Bz b.num, Dz b.num, Bz (fD b.den), Dz (fD b.den)]), (2, .box 5 100 [Bz c.num, Dz c.num, Bz (fD c.den), Dz (fD c.den)]), (3, .slot 6 (VP.bool false))] [0, 1, 2] [] rfl rfl follow rfl ⟨
    .inl ⟨wants_plain rfl, does_box _ rfl rfl rfl rfl rfl (ar_tmp (av_fs 0 rfl))⟩,
    .inl ⟨wants_plain rfl, does_box _ rfl rfl rfl rfl rfl (ar_tmp (av_fs 1 rfl))⟩,
    .inl ⟨wants_plain rfl, does_box _ rfl rfl rfl rfl rfl (ar_tmp (av_fs 2 rfl))⟩,
    .inl ⟨wants_plain rfl, does_move _ (.inr rfl) rfl rfl rfl rfl (ar_const (fun _ => rfl))⟩,
    trivial⟩ ?_
  refine nx_sub (fs' := [.box 3 100 [Bz a.num, Dz a.num, Bz (fD a.den), Dz (fD a.den)], .box 4 100 [Bz b.num, Dz b.num, Bz (fD b.den), Dz (fD b.den)], .box 5 100 [Bz c.num, Dz c.num, Bz (fD c.den), Dz (fD c.den)], .slot 6 (VP.bool false)]) [3, 4, 5, 6] rfl ?_
  refine nx_then ?_
  refine t_seq ?_
  refine t_seq ?_
  refine t_region (F := ⟨_, _, _, _⟩) [.box 3 100 [Bz a.num, Dz a.num, Bz (fD a.den), Dz (fD a.den)], .box 4 100 [Bz b.num, Dz b.num, Bz (fD b.den), Dz (fD b.den)], .box 5 100 [Bz c.num, Dz c.num, Bz (fD c.den), Dz (fD c.den)], .slot 6 (VP.bool false)] [] [(0, .slot 10 (VP.bool true)), (1, .slot 11 (VP.bool false))] [0, 1, 2, 3] [] rfl rfl follow rfl ⟨
    .inl ⟨wants_plain rfl, does_call sp2_spec rfl hb_collator_collatorlaw02_speaks rfl rfl rfl rfl trivial⟩,
    .inl ⟨wants_plain rfl, does_not true _ _ rfl rfl rfl rfl rfl (ar_tmp (av_rs 0 rfl rfl))⟩,
    trivial⟩ ?_
  refine nx_sub (fs' := [.box 3 100 [Bz a.num, Dz a.num, Bz (fD a.den), Dz (fD a.den)], .box 4 100 [Bz b.num, Dz b.num, Bz (fD b.den), Dz (fD b.den)], .box 5 100 [Bz c.num, Dz c.num, Bz (fD c.den), Dz (fD c.den)], .slot 6 (VP.bool false), .slot 11 (VP.bool false)]) [0, 1, 2, 3, 5] rfl ?_
  refine nx_then ?_
  refine t_cond_f 4 rfl ?_
  refine t_skip ?_
  refine nx_then ?_
  refine t_seq ?_
  refine t_seq ?_
  refine t_region (F := ⟨_, _, _, _⟩) [.box 3 100 [Bz a.num, Dz a.num, Bz (fD a.den), Dz (fD a.den)], .box 4 100 [Bz b.num, Dz b.num, Bz (fD b.den), Dz (fD b.den)], .box 5 100 [Bz c.num, Dz c.num, Bz (fD c.den), Dz (fD c.den)], .slot 6 (VP.bool false), .slot 11 (VP.bool false)] [] [(0, .slot 12 (RAT a)), (1, .slot 13 (RAT b)), (2, .slot 14 (RAT c)), (3, .arr 15 100 3 [Bz a.num, Dz a.num, Bz (fD a.den), Dz (fD a.den), Bz b.num, Dz b.num, Bz (fD b.den), Dz (fD b.den), Bz c.num, Dz c.num, Bz (fD c.den), Dz (fD c.den)]), (4, .slot 16 (VP.bool false))] [0, 1, 2, 3, 4] [] rfl rfl follow rfl ⟨
    .inl ⟨wants_plain rfl, does_loadAgg _ ty_agg_api_Frac rfl rfl rfl rfl rfl rfl (pt_box (av_fs 0 rfl)) (av_fs 0 rfl)⟩,
    .inl ⟨wants_plain rfl, does_loadAgg _ ty_agg_api_Frac rfl rfl rfl rfl rfl rfl (pt_box (av_fs 1 rfl)) (av_fs 1 rfl)⟩,
    .inl ⟨wants_plain rfl, does_loadAgg _ ty_agg_api_Frac rfl rfl rfl rfl rfl rfl (pt_box (av_fs 2 rfl)) (av_fs 2 rfl)⟩,
    .inl ⟨wants_plain rfl, does_buildSlice (sz := 4) [Bz 0, Dz 0, Bz 0, Dz 0, Bz 0, Dz 0, Bz 0, Dz 0, Bz 0, Dz 0, Bz 0, Dz 0] ty_zero_api_Frac (by kernel_rfl) (fun w => run_sizeAgg ty_agg_api_Frac w) rfl rfl rfl rfl rfl rfl (by kernel_rfl) (fun w => by exact z_frac_3 w) (.cons 0 [Bz a.num, Dz a.num, Bz (fD a.den), Dz (fD a.den)] rfl rfl (ar_cells_agg (ar_tmp (av_rs 0 rfl rfl))) (.cons 4 [Bz b.num, Dz b.num, Bz (fD b.den), Dz (fD b.den)] rfl rfl (ar_cells_agg (ar_tmp (av_rs 1 rfl rfl))) (.cons 8 [Bz c.num, Dz c.num, Bz (fD c.den), Dz (fD c.den)] rfl rfl (ar_cells_agg (ar_tmp (av_rs 2 rfl rfl))) (.nil _))))⟩,
    .inl ⟨wants_plain rfl, does_call HO rfl hb_collator_collatorlaw02_Odd rfl rfl rfl rfl ⟨(ar_arr_rows (by simp [maxLen]) (av_rs 3 rfl rfl)), trivial⟩⟩,
    trivial⟩ ?_
  refine nx_sub (fs' := [.box 3 100 [Bz a.num, Dz a.num, Bz (fD a.den), Dz (fD a.den)], .box 4 100 [Bz b.num, Dz b.num, Bz (fD b.den), Dz (fD b.den)], .box 5 100 [Bz c.num, Dz c.num, Bz (fD c.den), Dz (fD c.den)], .slot 6 (VP.bool false), .slot 16 (VP.bool false)]) [0, 1, 2, 3, 9] rfl ?_
  refine nx_then ?_
  refine t_cond_f 4 rfl ?_
  refine t_skip ?_
  refine nx_then ?_
  refine t_seq ?_
  refine t_region (F := ⟨_, _, _, _⟩) [.box 3 100 [Bz a.num, Dz a.num, Bz (fD a.den), Dz (fD a.den)], .box 4 100 [Bz b.num, Dz b.num, Bz (fD b.den), Dz (fD b.den)], .box 5 100 [Bz c.num, Dz c.num, Bz (fD c.den), Dz (fD c.den)], .slot 6 (VP.bool false), .slot 16 (VP.bool false)] [] [(0, .slot 17 (RAT a)), (1, .slot 18 (RAT b)), (2, .slot 19 (VP.int .i64 (cmpR a b))), (3, .slot 20 (RAT c)), (4, .slot 21 (VP.agg [Bz 0, Dz 0, Bz 0, Dz 0])), (5, .slot 22 (VP.int .i64 (cmpR c 0))), (6, .slot 7 (VP.int .i64 (cmpR a b))), (7, .slot 8 (VP.int .i64 (cmpR c 0)))] [0, 1, 2, 3, 4] [] rfl rfl follow rfl ⟨
    .inl ⟨wants_plain rfl, does_loadAgg _ ty_agg_api_Frac rfl rfl rfl rfl rfl rfl (pt_box (av_fs 0 rfl)) (av_fs 0 rfl)⟩,
    .inl ⟨wants_plain rfl, does_loadAgg _ ty_agg_api_Frac rfl rfl rfl rfl rfl rfl (pt_box (av_fs 1 rfl)) (av_fs 1 rfl)⟩,
    .inl ⟨wants_plain rfl, does_call (q_cmp a b (LR.le ha (by decide)) (LR.le hb (by decide))) rfl hb_collator_frac_Cmp rfl rfl rfl rfl ⟨(ar_tmp (av_rs 0 rfl rfl)), (ar_tmp (av_rs 1 rfl rfl)), trivial⟩⟩,
    .inl ⟨wants_plain rfl, does_loadAgg _ ty_agg_api_Frac rfl rfl rfl rfl rfl rfl (pt_box (av_fs 2 rfl)) (av_fs 2 rfl)⟩,
    .inl ⟨wants_plain rfl, does_build [Bz 0, Dz 0, Bz 0, Dz 0] ty_zero_api_Frac ty_pl_api_Frac rfl rfl rfl rfl rfl z_frac (.nil _)⟩,
    .inl ⟨wants_plain rfl, does_call (q_cmp c 0 (LR.le hc (by decide)) (LR.le lrzero (by decide))) rfl hb_collator_frac_Cmp rfl rfl rfl rfl ⟨(ar_tmp (av_rs 3 rfl rfl)), (ar_tmp (av_rs 4 rfl rfl)), trivial⟩⟩,
    .inl ⟨wants_plain rfl, does_move _ (.inr rfl) rfl rfl rfl rfl (ar_tmp (av_rs 2 rfl rfl))⟩,
    .inl ⟨wants_plain rfl, does_move _ (.inr rfl) rfl rfl rfl rfl (ar_tmp (av_rs 5 rfl rfl))⟩,
    trivial⟩ ?_
  refine nx_sub (fs' := [.box 3 100 [Bz a.num, Dz a.num, Bz (fD a.den), Dz (fD a.den)], .box 4 100 [Bz b.num, Dz b.num, Bz (fD b.den), Dz (fD b.den)], .box 5 100 [Bz c.num, Dz c.num, Bz (fD c.den), Dz (fD c.den)], .slot 6 (VP.bool false), .slot 7 (VP.int .i64 (cmpR a b)), .slot 8 (VP.int .i64 (cmpR c 0))]) [0, 1, 2, 3, 11, 12] rfl ?_
  refine nx_then ?_
  refine t_seq ?_
  refine t_seq ?_
  refine t_region (F := ⟨_, _, _, _⟩) [.box 3 100 [Bz a.num, Dz a.num, Bz (fD a.den), Dz (fD a.den)], .box 4 100 [Bz b.num, Dz b.num, Bz (fD b.den), Dz (fD b.den)], .box 5 100 [Bz c.num, Dz c.num, Bz (fD c.den), Dz (fD c.den)], .slot 6 (VP.bool false), .slot 7 (VP.int .i64 (cmpR a b)), .slot 8 (VP.int .i64 (cmpR c 0))] [] [(0, .slot 23 (RAT a)), (1, .slot 24 (RAT c)), (2, .slot 25 (RAT (a * c))), (3, .slot 26 (RAT b)), (4, .slot 27 (RAT c)), (5, .slot 28 (RAT (b * c))), (6, .slot 29 (VP.int .i64 (cmpR (a * c) (b * c)))), (7, .slot 30 (VP.int .i64 (cmpR a b))), (8, .slot 31 (VP.int .i64 (cmpR c 0))), (9, .slot 32 (VP.int .i64 ((cmpR a b) * (cmpR c 0)))), (10, .slot 33 (VP.bool ((cmpR (a * c) (b * c)) != ((cmpR a b) * (cmpR c 0))))), (11, .slot 34 (VP.bool ((cmpR (a * c) (b * c)) != ((cmpR a b) * (cmpR c 0))))), (12, .slot 35 (RAT a)), (13, .slot 36 (RAT (-a))), (14, .slot 37 (RAT b)), (15, .slot 38 (RAT (-b))), (16, .slot 39 (VP.int .i64 (cmpR (-a) (-b)))), (17, .slot 40 (VP.int .i64 (cmpR a b))), (18, .slot 41 (VP.int .i64 (-(cmpR a b)))), (19, .slot 42 (VP.bool ((cmpR (-a) (-b)) != (-(cmpR a b))))), (20, .slot 43 (VP.bool ((cmpR (-a) (-b)) != (-(cmpR a b)))))] [0, 1, 2, 3, 4, 5] [] rfl rfl follow rfl ⟨
    .inl ⟨wants_plain rfl, does_loadAgg _ ty_agg_api_Frac rfl rfl rfl rfl rfl rfl (pt_box (av_fs 0 rfl)) (av_fs 0 rfl)⟩,
    .inl ⟨wants_plain rfl, does_loadAgg _ ty_agg_api_Frac rfl rfl rfl rfl rfl rfl (pt_box (av_fs 2 rfl)) (av_fs 2 rfl)⟩,
    .inl ⟨wants_plain rfl, does_call (q_mul a c (LR.le ha (by decide)) (LR.le hc (by decide))) rfl hb_collator_frac_Mul rfl rfl rfl rfl ⟨(ar_tmp (av_rs 0 rfl rfl)), (ar_tmp (av_rs 1 rfl rfl)), trivial⟩⟩,
    .inl ⟨wants_plain rfl, does_loadAgg _ ty_agg_api_Frac rfl rfl rfl rfl rfl rfl (pt_box (av_fs 1 rfl)) (av_fs 1 rfl)⟩,
    .inl ⟨wants_plain rfl, does_loadAgg _ ty_agg_api_Frac rfl rfl rfl rfl rfl rfl (pt_box (av_fs 2 rfl)) (av_fs 2 rfl)⟩,
    .inl ⟨wants_plain rfl, does_call (q_mul b c (LR.le hb (by decide)) (LR.le hc (by decide))) rfl hb_collator_frac_Mul rfl rfl rfl rfl ⟨(ar_tmp (av_rs 3 rfl rfl)), (ar_tmp (av_rs 4 rfl rfl)), trivial⟩⟩,
    .inl ⟨wants_plain rfl, does_call (q_cmp (a * c) (b * c) (LR.le (lrmul ha hc) (by decide)) (LR.le (lrmul hb hc) (by decide))) rfl hb_collator_frac_Cmp rfl rfl rfl rfl ⟨(ar_tmp (av_rs 2 rfl rfl)), (ar_tmp (av_rs 5 rfl rfl)), trivial⟩⟩,
    .inl ⟨wants_plain rfl, does_move _ (.inl rfl) rfl rfl rfl rfl (ar_tmp (av_fs 4 rfl))⟩,
    .inl ⟨wants_plain rfl, does_move _ (.inl rfl) rfl rfl rfl rfl (ar_tmp (av_fs 5 rfl))⟩,
    .inl ⟨wants_plain rfl, does_mulInt (m := (cmpR a b)) (n := (cmpR c 0)) _ _ _ _ rfl rfl rfl rfl rfl (cmpR_mul_bd _ _ _ _) (ar_tmp (av_rs 7 rfl rfl)) (ar_tmp (av_rs 8 rfl rfl))⟩,
    .inl ⟨wants_plain rfl, does_cmp (m := (cmpR (a * c) (b * c))) (n := ((cmpR a b) * (cmpR c 0))) _ _ _ _ _ rfl rfl rfl rfl rfl rfl .i64 (ar_tmp (av_rs 6 rfl rfl)) (ar_tmp (av_rs 9 rfl rfl))⟩,
    .inl ⟨wants_plain rfl, does_move _ (.inl rfl) rfl rfl rfl rfl (ar_tmp (av_rs 10 rfl rfl))⟩,
    .inl ⟨wants_guard false rfl rfl rfl (av_bool (by rw [cmpR_mul, bne_self_eq_false]) (av_rs 11 rfl rfl)), does_loadAgg _ ty_agg_api_Frac rfl rfl rfl rfl rfl rfl (pt_box (av_fs 0 rfl)) (av_fs 0 rfl)⟩,
    .inl ⟨wants_guard false rfl rfl rfl (av_bool (by rw [cmpR_mul, bne_self_eq_false]) (av_rs 11 rfl rfl)), does_call (q_neg a (LR.le ha (by decide))) rfl hb_collator_frac_Neg rfl rfl rfl rfl ⟨(ar_tmp (av_rs 12 rfl rfl)), trivial⟩⟩,
    .inl ⟨wants_guard false rfl rfl rfl (av_bool (by rw [cmpR_mul, bne_self_eq_false]) (av_rs 11 rfl rfl)), does_loadAgg _ ty_agg_api_Frac rfl rfl rfl rfl rfl rfl (pt_box (av_fs 1 rfl)) (av_fs 1 rfl)⟩,
    .inl ⟨wants_guard false rfl rfl rfl (av_bool (by rw [cmpR_mul, bne_self_eq_false]) (av_rs 11 rfl rfl)), does_call (q_neg b (LR.le hb (by decide))) rfl hb_collator_frac_Neg rfl rfl rfl rfl ⟨(ar_tmp (av_rs 14 rfl rfl)), trivial⟩⟩,
    .inl ⟨wants_guard false rfl rfl rfl (av_bool (by rw [cmpR_mul, bne_self_eq_false]) (av_rs 11 rfl rfl)), does_call (q_cmp (-a) (-b) (LR.le (lrneg ha) (by decide)) (LR.le (lrneg hb) (by decide))) rfl hb_collator_frac_Cmp rfl rfl rfl rfl ⟨(ar_tmp (av_rs 13 rfl rfl)), (ar_tmp (av_rs 15 rfl rfl)), trivial⟩⟩,
    .inl ⟨wants_guard false rfl rfl rfl (av_bool (by rw [cmpR_mul, bne_self_eq_false]) (av_rs 11 rfl rfl)), does_move _ (.inl rfl) rfl rfl rfl rfl (ar_tmp (av_fs 4 rfl))⟩,
    .inl ⟨wants_guard false rfl rfl rfl (av_bool (by rw [cmpR_mul, bne_self_eq_false]) (av_rs 11 rfl rfl)), does_negInt (m := (cmpR a b)) _ _ rfl rfl rfl rfl rfl (cmpR_neg_bd _ _) (ar_tmp (av_rs 17 rfl rfl))⟩,
    .inl ⟨wants_guard false rfl rfl rfl (av_bool (by rw [cmpR_mul, bne_self_eq_false]) (av_rs 11 rfl rfl)), does_cmp (m := (cmpR (-a) (-b))) (n := (-(cmpR a b))) _ _ _ _ _ rfl rfl rfl rfl rfl rfl .i64 (ar_tmp (av_rs 16 rfl rfl)) (ar_tmp (av_rs 18 rfl rfl))⟩,
    .inl ⟨wants_plain rfl, does_pick false _ _ _ rfl rfl rfl rfl rfl (ar_tmp (av_bool (by rw [cmpR_mul, bne_self_eq_false]) (av_rs 11 rfl rfl))) (ar_tmp (av_rs 19 rfl rfl))⟩,
    trivial⟩ ?_
  refine nx_sub (fs' := [.box 3 100 [Bz a.num, Dz a.num, Bz (fD a.den), Dz (fD a.den)], .box 4 100 [Bz b.num, Dz b.num, Bz (fD b.den), Dz (fD b.den)], .slot 6 (VP.bool false), .slot 7 (VP.int .i64 (cmpR a b)), .slot 43 (VP.bool ((cmpR (-a) (-b)) != (-(cmpR a b))))]) [0, 1, 3, 4, 26] rfl ?_
  refine nx_then ?_
  refine t_cond_fe 4 rfl (by rw [cmpR_neg, bne_self_eq_false]) ?_
  refine t_skip ?_
  refine nx_then ?_
  refine t_seq ?_
  refine t_region (F := ⟨_, _, _, _⟩) [.box 3 100 [Bz a.num, Dz a.num, Bz (fD a.den), Dz (fD a.den)], .box 4 100 [Bz b.num, Dz b.num, Bz (fD b.den), Dz (fD b.den)], .slot 6 (VP.bool false), .slot 7 (VP.int .i64 (cmpR a b)), .slot 43 (VP.bool ((cmpR (-a) (-b)) != (-(cmpR a b))))] [] [(0, .slot 44 (INT 1)), (1, .slot 45 (RAT ((1 : Int) : Rat))), (2, .own 9 100 4), (3, .box 9 100 [Bz (((1 : Int) : Rat).num), Dz (((1 : Int) : Rat).num), Bz (fD ((1 : Int) : Rat).den), Dz (fD ((1 : Int) : Rat).den)])] [0, 1, 2, 3, 4] [] rfl rfl follow rfl ⟨
    .inl ⟨wants_plain rfl, does_call (s_of 1 (by decide) (by decide)) rfl hb_collator_whole_Of rfl rfl rfl rfl ⟨(ar_const (fun _ => rfl)), trivial⟩⟩,
    .inl ⟨wants_plain rfl, does_call (q_of 1 (lle lone (by decide))) rfl hb_collator_frac_Of rfl rfl rfl rfl ⟨(ar_tmp (av_rs 0 rfl rfl)), trivial⟩⟩,
    .inl ⟨wants_plain rfl, does_allocOwn [Bz 0, Dz 0, Bz 0, Dz 0] ty_zero_api_Frac rfl rfl rfl rfl rfl z_frac rfl⟩,
    .inl ⟨wants_plain rfl, does_storeNew 4 _ _ ty_agg_api_Frac rfl rfl rfl rfl rfl (pt_own (av_rs 2 rfl rfl)) (av_rs 2 rfl rfl) (ar_tmp (av_rs 1 rfl rfl))⟩,
    trivial⟩ ?_
  refine nx_sub (fs' := [.box 3 100 [Bz a.num, Dz a.num, Bz (fD a.den), Dz (fD a.den)], .box 4 100 [Bz b.num, Dz b.num, Bz (fD b.den), Dz (fD b.den)], .slot 6 (VP.bool false), .slot 7 (VP.int .i64 (cmpR a b)), .box 9 100 [Bz (((1 : Int) : Rat).num), Dz (((1 : Int) : Rat).num), Bz (fD ((1 : Int) : Rat).den), Dz (fD ((1 : Int) : Rat).den)]]) [0, 1, 2, 3, 8] rfl ?_
  refine nx_then ?_
  refine t_seq ?_
  refine t_seq ?_
  refine t_region (F := ⟨_, _, _, _⟩) [.box 3 100 [Bz a.num, Dz a.num, Bz (fD a.den), Dz (fD a.den)], .box 4 100 [Bz b.num, Dz b.num, Bz (fD b.den), Dz (fD b.den)], .slot 6 (VP.bool false), .slot 7 (VP.int .i64 (cmpR a b)), .box 9 100 [Bz (((1 : Int) : Rat).num), Dz (((1 : Int) : Rat).num), Bz (fD ((1 : Int) : Rat).den), Dz (fD ((1 : Int) : Rat).den)]] [] [(0, .slot 46 (RAT a)), (1, .slot 47 (VP.agg [Bz 0, Dz 0, Bz 0, Dz 0])), (2, .slot 48 (VP.int .i64 (cmpR a 0))), (3, .slot 49 (VP.bool (decide ((cmpR a 0) ≤ 0)))), (4, .slot 50 (VP.bool (decide ((cmpR a 0) ≤ 0)))), (5, .slot 51 (RAT b)), (6, .slot 52 (VP.agg [Bz 0, Dz 0, Bz 0, Dz 0])), (7, .slot 53 (VP.int .i64 (cmpR b 0))), (8, .slot 54 (VP.bool (decide ((cmpR b 0) ≤ 0)))), (9, .slot 55 (VP.bool (decide ((cmpR b 0) ≤ 0))))] [0, 1, 2, 3, 4] [] rfl rfl follow rfl ⟨
    .inl ⟨wants_plain rfl, does_loadAgg _ ty_agg_api_Frac rfl rfl rfl rfl rfl rfl (pt_box (av_fs 0 rfl)) (av_fs 0 rfl)⟩,
    .inl ⟨wants_plain rfl, does_build [Bz 0, Dz 0, Bz 0, Dz 0] ty_zero_api_Frac ty_pl_api_Frac rfl rfl rfl rfl rfl z_frac (.nil _)⟩,
    .inl ⟨wants_plain rfl, does_call (q_cmp a 0 (LR.le ha (by decide)) (LR.le lrzero (by decide))) rfl hb_collator_frac_Cmp rfl rfl rfl rfl ⟨(ar_tmp (av_rs 0 rfl rfl)), (ar_tmp (av_rs 1 rfl rfl)), trivial⟩⟩,
    .inl ⟨wants_plain rfl, does_cmp (m := (cmpR a 0)) (n := 0) _ _ _ _ _ rfl rfl rfl rfl rfl rfl .i64 (ar_tmp (av_rs 2 rfl rfl)) (ar_const (fun _ => rfl))⟩,
    .inl ⟨wants_plain rfl, does_move _ (.inl rfl) rfl rfl rfl rfl (ar_tmp (av_rs 3 rfl rfl))⟩,
    .inl ⟨wants_guard false rfl rfl rfl (av_bool (decide_eq_false h) (av_rs 4 rfl rfl)), does_loadAgg _ ty_agg_api_Frac rfl rfl rfl rfl rfl rfl (pt_box (av_fs 1 rfl)) (av_fs 1 rfl)⟩,
    .inl ⟨wants_guard false rfl rfl rfl (av_bool (decide_eq_false h) (av_rs 4 rfl rfl)), does_build [Bz 0, Dz 0, Bz 0, Dz 0] ty_zero_api_Frac ty_pl_api_Frac rfl rfl rfl rfl rfl z_frac (.nil _)⟩,
    .inl ⟨wants_guard false rfl rfl rfl (av_bool (decide_eq_false h) (av_rs 4 rfl rfl)), does_call (q_cmp b 0 (LR.le hb (by decide)) (LR.le lrzero (by decide))) rfl hb_collator_frac_Cmp rfl rfl rfl rfl ⟨(ar_tmp (av_rs 5 rfl rfl)), (ar_tmp (av_rs 6 rfl rfl)), trivial⟩⟩,
    .inl ⟨wants_guard false rfl rfl rfl (av_bool (decide_eq_false h) (av_rs 4 rfl rfl)), does_cmp (m := (cmpR b 0)) (n := 0) _ _ _ _ _ rfl rfl rfl rfl rfl rfl .i64 (ar_tmp (av_rs 7 rfl rfl)) (ar_const (fun _ => rfl))⟩,
    .inl ⟨wants_plain rfl, does_pick false _ _ _ rfl rfl rfl rfl rfl (ar_tmp (av_bool (decide_eq_false h) (av_rs 4 rfl rfl))) (ar_tmp (av_rs 8 rfl rfl))⟩,
    trivial⟩ ?_
  refine nx_sub (fs' := [.box 3 100 [Bz a.num, Dz a.num, Bz (fD a.den), Dz (fD a.den)], .box 4 100 [Bz b.num, Dz b.num, Bz (fD b.den), Dz (fD b.den)], .slot 6 (VP.bool false), .slot 7 (VP.int .i64 (cmpR a b)), .box 9 100 [Bz (((1 : Int) : Rat).num), Dz (((1 : Int) : Rat).num), Bz (fD ((1 : Int) : Rat).den), Dz (fD ((1 : Int) : Rat).den)], .slot 55 (VP.bool (decide ((cmpR b 0) ≤ 0)))]) [0, 1, 2, 3, 4, 14] rfl ?_
  refine nx_then ?_
  refine t_cond_fe 5 rfl (decide_eq_false k) ?_
  refine t_skip ?_
  refine nx_then ?_
  refine t_seq ?_
  refine t_region (F := ⟨_, _, _, _⟩) [.box 3 100 [Bz a.num, Dz a.num, Bz (fD a.den), Dz (fD a.den)], .box 4 100 [Bz b.num, Dz b.num, Bz (fD b.den), Dz (fD b.den)], .slot 7 (VP.int .i64 (cmpR a b)), .box 9 100 [Bz (((1 : Int) : Rat).num), Dz (((1 : Int) : Rat).num), Bz (fD ((1 : Int) : Rat).den), Dz (fD ((1 : Int) : Rat).den)], .slot 55 (VP.bool (decide ((cmpR b 0) ≤ 0)))] [(10, .slot 6 (VP.bool false))] [(0, .slot 56 (RAT ((1 : Int) : Rat))), (1, .slot 57 (RAT a)), (2, .slot 58 (RAT (((1 : Int) : Rat) / a))), (3, .slot 59 (RAT ((1 : Int) : Rat))), (4, .slot 60 (RAT b)), (5, .slot 61 (RAT (((1 : Int) : Rat) / b))), (6, .slot 62 (VP.int .i64 (cmpR (((1 : Int) : Rat) / a) (((1 : Int) : Rat) / b)))), (7, .slot 63 (VP.int .i64 (cmpR a b))), (8, .slot 64 (VP.int .i64 (-(cmpR a b)))), (9, .slot 65 (VP.bool ((cmpR (((1 : Int) : Rat) / a) (((1 : Int) : Rat) / b)) == (-(cmpR a b))))), (10, .slot 6 (VP.bool ((cmpR (((1 : Int) : Rat) / a) (((1 : Int) : Rat) / b)) == (-(cmpR a b)))))] [0, 1, 3, 4, 5] [2] rfl rfl follow rfl ⟨
    .inl ⟨wants_plain rfl, does_loadAgg _ ty_agg_api_Frac rfl rfl rfl rfl rfl rfl (pt_box (av_fs 3 rfl)) (av_fs 3 rfl)⟩,
    .inl ⟨wants_plain rfl, does_loadAgg _ ty_agg_api_Frac rfl rfl rfl rfl rfl rfl (pt_box (av_fs 0 rfl)) (av_fs 0 rfl)⟩,
    .inl ⟨wants_plain rfl, does_call (q_div ((1 : Int) : Rat) a (LR.le (lrint lone (by decide)) (by decide)) (LR.le ha (by decide))) rfl hb_collator_frac_Div rfl rfl rfl rfl ⟨(ar_tmp (av_rs 0 rfl rfl)), (ar_tmp (av_rs 1 rfl rfl)), trivial⟩⟩,
    .inl ⟨wants_plain rfl, does_loadAgg _ ty_agg_api_Frac rfl rfl rfl rfl rfl rfl (pt_box (av_fs 3 rfl)) (av_fs 3 rfl)⟩,
    .inl ⟨wants_plain rfl, does_loadAgg _ ty_agg_api_Frac rfl rfl rfl rfl rfl rfl (pt_box (av_fs 1 rfl)) (av_fs 1 rfl)⟩,
    .inl ⟨wants_plain rfl, does_call (q_div ((1 : Int) : Rat) b (LR.le (lrint lone (by decide)) (by decide)) (LR.le hb (by decide))) rfl hb_collator_frac_Div rfl rfl rfl rfl ⟨(ar_tmp (av_rs 3 rfl rfl)), (ar_tmp (av_rs 4 rfl rfl)), trivial⟩⟩,
    .inl ⟨wants_plain rfl, does_call (q_cmp (((1 : Int) : Rat) / a) (((1 : Int) : Rat) / b) (LR.le (lrdiv (lrint lone (by decide)) ha) (by decide)) (LR.le (lrdiv (lrint lone (by decide)) hb) (by decide))) rfl hb_collator_frac_Cmp rfl rfl rfl rfl ⟨(ar_tmp (av_rs 2 rfl rfl)), (ar_tmp (av_rs 5 rfl rfl)), trivial⟩⟩,
    .inl ⟨wants_plain rfl, does_move _ (.inl rfl) rfl rfl rfl rfl (ar_tmp (av_fs 2 rfl))⟩,
    .inl ⟨wants_plain rfl, does_negInt (m := (cmpR a b)) _ _ rfl rfl rfl rfl rfl (cmpR_neg_bd _ _) (ar_tmp (av_rs 7 rfl rfl))⟩,
    .inl ⟨wants_plain rfl, does_cmp (m := (cmpR (((1 : Int) : Rat) / a) (((1 : Int) : Rat) / b))) (n := (-(cmpR a b))) _ _ _ _ _ rfl rfl rfl rfl rfl rfl .i64 (ar_tmp (av_rs 6 rfl rfl)) (ar_tmp (av_rs 8 rfl rfl))⟩,
    .inl ⟨wants_plain rfl, does_move _ (.inr rfl) rfl rfl rfl rfl (ar_tmp (av_rs 9 rfl rfl))⟩,
    trivial⟩ ?_
  refine nx_sub (fs' := [.slot 6 (VP.bool ((cmpR (((1 : Int) : Rat) / a) (((1 : Int) : Rat) / b)) == (-(cmpR a b))))]) [15] rfl ?_
  refine nx_then ?_
  refine t_ret ?_
  exact rt_one rfl (res_tmpb 0 rfl (by rw [cmpR_inv h k]; exact beq_self_eq_true _))
set_option maxRecDepth 100000 in
set_option maxHeartbeats 4000000 in
theorem forder_odd (x y z : Raw × Raw) (HO : Spec Try.prog 73 [isRows 3 (fcells [x, y, z])] (VP.bool true)) : Spec Try.prog 11 [(VP.agg [VP.bool x.1.1, VP.nums .u32 x.1.2, VP.bool x.2.1, VP.nums .u32 x.2.2]).p, (VP.agg [VP.bool y.1.1, VP.nums .u32 y.1.2, VP.bool y.2.1, VP.nums .u32 y.2.2]).p, (VP.agg [VP.bool z.1.1, VP.nums .u32 z.1.2, VP.bool z.2.1, VP.nums .u32 z.2.2]).p] (VP.bool true) := by
  refine spec_of (xs := [VP.agg [VP.bool x.1.1, VP.nums .u32 x.1.2, VP.bool x.2.1, VP.nums .u32 x.2.2], VP.agg [VP.bool y.1.1, VP.nums .u32 y.1.2, VP.bool y.2.1, VP.nums .u32 y.2.2], VP.agg [VP.bool z.1.1, VP.nums .u32 z.1.2, VP.bool z.2.1, VP.nums .u32 z.2.2]]) 66 [3, 4, 5, 9] Try.func11 rfl Try.ntmps11 rfl fun w0 => ?_
  refine t_seq ?_
  refine t_region (F := ⟨_, _, _, _⟩) [.slot 0 (VP.agg [VP.bool x.1.1, VP.nums .u32 x.1.2, VP.bool x.2.1, VP.nums .u32 x.2.2]), .slot 1 (VP.agg [VP.bool y.1.1, VP.nums .u32 y.1.2, VP.bool y.2.1, VP.nums .u32 y.2.2]), .slot 2 (VP.agg [VP.bool z.1.1, VP.nums .u32 z.1.2, VP.bool z.2.1, VP.nums .u32 z.2.2])] [] [(0, .box 3 100 [VP.bool x.1.1, VP.nums .u32 x.1.2, VP.bool x.2.1, VP.nums .u32 x.2.2]), (1, .box 4 100 [VP.bool y.1.1, VP.nums .u32 y.1.2, VP.bool y.2.1, VP.nums .u32 y.2.2]), (2, .box 5 100 [VP.bool z.1.1, VP.nums .u32 z.1.2, VP.bool z.2.1, VP.nums .u32 z.2.2]), (3, .slot 6 (VP.bool false))] [0, 1, 2] [] rfl rfl follow rfl ⟨
    .inl ⟨wants_plain rfl, does_box _ rfl rfl rfl rfl rfl (ar_tmp (av_fs 0 rfl))⟩,
    .inl ⟨wants_plain rfl, does_box _ rfl rfl rfl rfl rfl (ar_tmp (av_fs 1 rfl))⟩,
    .inl ⟨wants_plain rfl, does_box _ rfl rfl rfl rfl rfl (ar_tmp (av_fs 2 rfl))⟩,
    .inl ⟨wants_plain rfl, does_move _ (.inr rfl) rfl rfl rfl rfl (ar_const (fun _ => rfl))⟩,
    trivial⟩ ?_
  refine nx_sub (fs' := [.box 3 100 [VP.bool x.1.1, VP.nums .u32 x.1.2, VP.bool x.2.1, VP.nums .u32 x.2.2], .box 4 100 [VP.bool y.1.1, VP.nums .u32 y.1.2, VP.bool y.2.1, VP.nums .u32 y.2.2], .box 5 100 [VP.bool z.1.1, VP.nums .u32 z.1.2, VP.bool z.2.1, VP.nums .u32 z.2.2], .slot 6 (VP.bool false)]) [3, 4, 5, 6] rfl ?_
  refine nx_then ?_
  refine t_seq ?_
  refine t_seq ?_
  refine t_region (F := ⟨_, _, _, _⟩) [.box 3 100 [VP.bool x.1.1, VP.nums .u32 x.1.2, VP.bool x.2.1, VP.nums .u32 x.2.2], .box 4 100 [VP.bool y.1.1, VP.nums .u32 y.1.2, VP.bool y.2.1, VP.nums .u32 y.2.2], .box 5 100 [VP.bool z.1.1, VP.nums .u32 z.1.2, VP.bool z.2.1, VP.nums .u32 z.2.2], .slot 6 (VP.bool false)] [] [(0, .slot 10 (VP.bool true)), (1, .slot 11 (VP.bool false))] [0, 1, 2, 3] [] rfl rfl follow rfl ⟨
    .inl ⟨wants_plain rfl, does_call sp2_spec rfl hb_collator_collatorlaw02_speaks rfl rfl rfl rfl trivial⟩,
    .inl ⟨wants_plain rfl, does_not true _ _ rfl rfl rfl rfl rfl (ar_tmp (av_rs 0 rfl rfl))⟩,
    trivial⟩ ?_
  refine nx_sub (fs' := [.box 3 100 [VP.bool x.1.1, VP.nums .u32 x.1.2, VP.bool x.2.1, VP.nums .u32 x.2.2], .box 4 100 [VP.bool y.1.1, VP.nums .u32 y.1.2, VP.bool y.2.1, VP.nums .u32 y.2.2], .box 5 100 [VP.bool z.1.1, VP.nums .u32 z.1.2, VP.bool z.2.1, VP.nums .u32 z.2.2], .slot 6 (VP.bool false), .slot 11 (VP.bool false)]) [0, 1, 2, 3, 5] rfl ?_
  refine nx_then ?_
  refine t_cond_f 4 rfl ?_
  refine t_skip ?_
  refine nx_then ?_
  refine t_seq ?_
  refine t_seq ?_
  refine t_region (F := ⟨_, _, _, _⟩) [.box 3 100 [VP.bool x.1.1, VP.nums .u32 x.1.2, VP.bool x.2.1, VP.nums .u32 x.2.2], .box 4 100 [VP.bool y.1.1, VP.nums .u32 y.1.2, VP.bool y.2.1, VP.nums .u32 y.2.2], .box 5 100 [VP.bool z.1.1, VP.nums .u32 z.1.2, VP.bool z.2.1, VP.nums .u32 z.2.2], .slot 6 (VP.bool false), .slot 11 (VP.bool false)] [] [(0, .slot 12 (VP.agg [VP.bool x.1.1, VP.nums .u32 x.1.2, VP.bool x.2.1, VP.nums .u32 x.2.2])), (1, .slot 13 (VP.agg [VP.bool y.1.1, VP.nums .u32 y.1.2, VP.bool y.2.1, VP.nums .u32 y.2.2])), (2, .slot 14 (VP.agg [VP.bool z.1.1, VP.nums .u32 z.1.2, VP.bool z.2.1, VP.nums .u32 z.2.2])), (3, .arr 15 100 3 [VP.bool x.1.1, VP.nums .u32 x.1.2, VP.bool x.2.1, VP.nums .u32 x.2.2, VP.bool y.1.1, VP.nums .u32 y.1.2, VP.bool y.2.1, VP.nums .u32 y.2.2, VP.bool z.1.1, VP.nums .u32 z.1.2, VP.bool z.2.1, VP.nums .u32 z.2.2]), (4, .slot 16 (VP.bool true))] [0, 1, 2, 3, 4] [] rfl rfl follow rfl ⟨
    .inl ⟨wants_plain rfl, does_loadAgg _ ty_agg_api_Frac rfl rfl rfl rfl rfl rfl (pt_box (av_fs 0 rfl)) (av_fs 0 rfl)⟩,
    .inl ⟨wants_plain rfl, does_loadAgg _ ty_agg_api_Frac rfl rfl rfl rfl rfl rfl (pt_box (av_fs 1 rfl)) (av_fs 1 rfl)⟩,
    .inl ⟨wants_plain rfl, does_loadAgg _ ty_agg_api_Frac rfl rfl rfl rfl rfl rfl (pt_box (av_fs 2 rfl)) (av_fs 2 rfl)⟩,
    .inl ⟨wants_plain rfl, does_buildSlice (sz := 4) [Bz 0, Dz 0, Bz 0, Dz 0, Bz 0, Dz 0, Bz 0, Dz 0, Bz 0, Dz 0, Bz 0, Dz 0] ty_zero_api_Frac (by kernel_rfl) (fun w => run_sizeAgg ty_agg_api_Frac w) rfl rfl rfl rfl rfl rfl (by kernel_rfl) (fun w => by exact z_frac_3 w) (.cons 0 [VP.bool x.1.1, VP.nums .u32 x.1.2, VP.bool x.2.1, VP.nums .u32 x.2.2] rfl rfl (ar_cells_agg (ar_tmp (av_rs 0 rfl rfl))) (.cons 4 [VP.bool y.1.1, VP.nums .u32 y.1.2, VP.bool y.2.1, VP.nums .u32 y.2.2] rfl rfl (ar_cells_agg (ar_tmp (av_rs 1 rfl rfl))) (.cons 8 [VP.bool z.1.1, VP.nums .u32 z.1.2, VP.bool z.2.1, VP.nums .u32 z.2.2] rfl rfl (ar_cells_agg (ar_tmp (av_rs 2 rfl rfl))) (.nil _))))⟩,
    .inl ⟨wants_plain rfl, does_call HO rfl hb_collator_collatorlaw02_Odd rfl rfl rfl rfl ⟨(ar_arr_rows (by simp [maxLen]) (av_rs 3 rfl rfl)), trivial⟩⟩,
    trivial⟩ ?_
  refine nx_sub (fs' := [.box 3 100 [VP.bool x.1.1, VP.nums .u32 x.1.2, VP.bool x.2.1, VP.nums .u32 x.2.2], .box 4 100 [VP.bool y.1.1, VP.nums .u32 y.1.2, VP.bool y.2.1, VP.nums .u32 y.2.2], .box 5 100 [VP.bool z.1.1, VP.nums .u32 z.1.2, VP.bool z.2.1, VP.nums .u32 z.2.2], .slot 6 (VP.bool false), .slot 16 (VP.bool true)]) [0, 1, 2, 3, 9] rfl ?_
  refine nx_then ?_
  refine t_cond_t 4 rfl ?_
  refine t_seq ?_
  refine t_region (F := ⟨_, _, _, _⟩) [.box 3 100 [VP.bool x.1.1, VP.nums .u32 x.1.2, VP.bool x.2.1, VP.nums .u32 x.2.2], .box 4 100 [VP.bool y.1.1, VP.nums .u32 y.1.2, VP.bool y.2.1, VP.nums .u32 y.2.2], .box 5 100 [VP.bool z.1.1, VP.nums .u32 z.1.2, VP.bool z.2.1, VP.nums .u32 z.2.2], .slot 16 (VP.bool true)] [(0, .slot 6 (VP.bool false))] [(0, .slot 6 (VP.bool true))] [0, 1, 2, 4] [3] rfl rfl follow rfl ⟨
    .inl ⟨wants_plain rfl, does_move _ (.inr rfl) rfl rfl rfl rfl (ar_const (fun _ => rfl))⟩,
    trivial⟩ ?_
  refine nx_sub (fs' := [.box 3 100 [VP.bool x.1.1, VP.nums .u32 x.1.2, VP.bool x.2.1, VP.nums .u32 x.2.2], .box 4 100 [VP.bool y.1.1, VP.nums .u32 y.1.2, VP.bool y.2.1, VP.nums .u32 y.2.2], .box 5 100 [VP.bool z.1.1, VP.nums .u32 z.1.2, VP.bool z.2.1, VP.nums .u32 z.2.2], .slot 6 (VP.bool true)]) [0, 1, 2, 4] rfl ?_
  refine nx_then ?_
  refine t_ret ?_
  refine rt_then ?_
  exact rt_one rfl (res_tmp 3 rfl)
theorem forder_even (a b c : Rat) (ha : LR a 5) (hb : LR b 5) (hc : LR c 5) (HO : Spec Try.prog 73 [isRows 3 [Bz a.num, Dz a.num, Bz (fD a.den), Dz (fD a.den), Bz b.num, Dz b.num, Bz (fD b.den), Dz (fD b.den), Bz c.num, Dz c.num, Bz (fD c.den), Dz (fD c.den)]] (VP.bool false)) : Spec Try.prog 11 [(RAT a).p, (RAT b).p, (RAT c).p] (VP.bool true) := by
  by_cases h : cmpR a 0 ≤ 0
  · exact forder1 a b c ha hb hc HO h
  · by_cases k : cmpR b 0 ≤ 0
    · exact forder2 a b c ha hb hc HO h k
    · exact forder3 a b c ha hb hc HO h k
end Go.Proofs.Ytogodjiemgilaaa

/- Fractions: which are looked at. -/
namespace Go.Proofs.Ytogodjiemgilaaa
open Go.RowKit
abbrev fodd3_A_c (x0 y0 : Raw) (x1 y1 : Raw) (x2 y2 : Raw) : List VP := [VP.bool x0.1, VP.nums .u32 x0.2, VP.bool y0.1, VP.nums .u32 y0.2, VP.bool x1.1, VP.nums .u32 x1.2, VP.bool y1.1, VP.nums .u32 y1.2, VP.bool x2.1, VP.nums .u32 x2.2, VP.bool y2.1, VP.nums .u32 y2.2]
set_option maxRecDepth 100000 in
set_option maxHeartbeats 4000000 in
theorem fodd3_A (x0 y0 : Raw) (hx0 : x0.ok) (hy0 : y0.ok) (ho : [x0, y0].any oddP = true) (x1 y1 : Raw) (x2 y2 : Raw) : Spec Try.prog 73 [isRows 3 (fodd3_A_c x0 y0 x1 y1 x2 y2)] (VP.bool true) := by
  refine spec_ofP (xs := [.rows 3 (fodd3_A_c x0 y0 x1 y1 x2 y2)]) 37 [4] Try.func73 rfl Try.ntmps73 rfl fun w0 => ?_
  refine t_seq ?_
  refine t_region (F := ⟨_, _, _, _⟩) [.rows 0 3 (fodd3_A_c x0 y0 x1 y1 x2 y2)] [] [(0, .slot 2 (VP.bool false))] [0] [] rfl rfl follow rfl ⟨
    .inl ⟨wants_plain rfl, does_move _ (.inr rfl) rfl rfl rfl rfl (ar_const (fun _ => rfl))⟩,
    trivial⟩ ?_
  refine nx_sub (fs' := [.rows 0 3 (fodd3_A_c x0 y0 x1 y1 x2 y2), .slot 2 (VP.bool false)]) [0, 1] rfl ?_
  refine nx_then ?_
  refine t_seq ?_
  refine t_seq ?_
  refine t_region (F := ⟨_, _, _, _⟩) [.rows 0 3 (fodd3_A_c x0 y0 x1 y1 x2 y2), .slot 2 (VP.bool false)] [] [(0, .rows 5 3 (fodd3_A_c x0 y0 x1 y1 x2 y2)), (1, .slot 6 (VP.int .i64 ((3 : Nat) : Int))), (2, .slot 7 (VP.int .i64 0))] [0, 1] [] rfl rfl follow rfl ⟨
    .inl ⟨wants_plain rfl, does_moveRows _ (.inl rfl) rfl rfl rfl rfl rfl (av_fs 0 rfl)⟩,
    .inl ⟨wants_plain rfl, does_lenRows _ _ rfl (by kernel_rfl) rfl rfl rfl rfl rfl (av_rs 0 rfl rfl)⟩,
    .inl ⟨wants_plain rfl, does_move _ (.inl rfl) rfl rfl rfl rfl (ar_const (fun _ => rfl))⟩,
    trivial⟩ ?_
  refine nx_sub (fs' := [.slot 2 (VP.bool false), .rows 5 3 (fodd3_A_c x0 y0 x1 y1 x2 y2), .slot 6 (VP.int .i64 ((3 : Nat) : Int)), .slot 7 (VP.int .i64 0)]) [1, 2, 3, 4] rfl ?_
  refine nx_then ?_
  refine t_block ?_
  refine t_loop (σ := {k : Nat // k ≤ 0}) (fun s => [.rows 5 3 (fodd3_A_c x0 y0 x1 y1 x2 y2), .slot 6 (VP.int .i64 ((3 : Nat) : Int)), .slot 7 (VP.int .i64 ((s.1 : Nat) : Int))]) (fun s => 3 - s.1) (⟨0, by decide⟩) [1, 2, 3] rfl ?_
  intro s
  obtain ⟨k, hk⟩ := s
  rcases (show k = 0 ∨ False by omega) with rfl | hF
  case inr => exact hF.elim
  case inl =>
    refine t_seq ?_
    refine t_region (F := ⟨_, _, _, _⟩) [.rows 5 3 (fodd3_A_c x0 y0 x1 y1 x2 y2), .slot 6 (VP.int .i64 ((3 : Nat) : Int)), .slot 7 (VP.int .i64 ((0 : Nat) : Int))] [] [(0, .slot 8 (VP.bool (decide (((0 : Nat) : Int) < ((3 : Nat) : Int)))))] [0, 1, 2] [] rfl rfl follow rfl ⟨
      .inl ⟨wants_plain rfl, does_cmp (m := ((0 : Nat) : Int)) (n := ((3 : Nat) : Int)) _ _ _ _ _ rfl rfl rfl rfl rfl rfl .i64 (ar_tmp (av_fs 2 rfl)) (ar_tmp (av_fs 1 rfl))⟩,
      trivial⟩ ?_
    refine nx_sub (fs' := [.rows 5 3 (fodd3_A_c x0 y0 x1 y1 x2 y2), .slot 6 (VP.int .i64 ((3 : Nat) : Int)), .slot 7 (VP.int .i64 ((0 : Nat) : Int)), .slot 8 (VP.bool (decide (((0 : Nat) : Int) < ((3 : Nat) : Int))))]) [0, 1, 2, 3] rfl ?_
    refine nx_then ?_
    refine t_seq ?_
    refine t_cond_te 3 rfl rfl ?_
    refine t_skip ?_
    refine nx_then ?_
    refine t_seq ?_
    refine t_block ?_
    refine t_seq ?_
    refine t_region (F := ⟨_, _, _, _⟩) [.rows 5 3 (fodd3_A_c x0 y0 x1 y1 x2 y2), .slot 6 (VP.int .i64 ((3 : Nat) : Int)), .slot 7 (VP.int .i64 ((0 : Nat) : Int)), .slot 8 (VP.bool (decide (((0 : Nat) : Int) < ((3 : Nat) : Int))))] [] [(0, .rp 9 5 0), (1, .slot 10 (VP.agg [VP.bool x0.1, VP.nums .u32 x0.2, VP.bool y0.1, VP.nums .u32 y0.2])), (2, .own 4 100 4), (3, .box 4 100 [VP.bool x0.1, VP.nums .u32 x0.2, VP.bool y0.1, VP.nums .u32 y0.2])] [0, 1, 2, 3] [] rfl rfl follow rfl ⟨
      .inl ⟨wants_plain rfl, does_indexRows (m := 0) (sz := 4) _ _ rfl Try.underlying178 (fun w => run_sizeAgg ty_agg_api_Frac w) rfl rfl rfl rfl rfl rfl (by decide) rfl (av_fs 0 rfl) (ar_tmp (av_fs 2 rfl))⟩,
      .inl ⟨wants_plain rfl, does_loadRows _ rfl ty_agg_api_Frac rfl rfl rfl rfl rfl rfl rfl (av_rs 0 rfl rfl) (av_fs 0 rfl)⟩,
      .inl ⟨wants_plain rfl, does_allocOwn [Bz 0, Dz 0, Bz 0, Dz 0] ty_zero_api_Frac rfl rfl rfl rfl rfl z_frac rfl⟩,
      .inl ⟨wants_plain rfl, does_storeNew 4 _ _ ty_agg_api_Frac rfl rfl rfl rfl rfl (pt_own (av_rs 2 rfl rfl)) (av_rs 2 rfl rfl) (ar_tmp (av_rs 1 rfl rfl))⟩,
      trivial⟩ ?_
    refine nx_sub (fs' := [.rows 5 3 (fodd3_A_c x0 y0 x1 y1 x2 y2), .slot 6 (VP.int .i64 ((3 : Nat) : Int)), .slot 7 (VP.int .i64 ((0 : Nat) : Int)), .slot 8 (VP.bool (decide (((0 : Nat) : Int) < ((3 : Nat) : Int)))), .rp 9 5 0, .slot 10 (VP.agg [VP.bool x0.1, VP.nums .u32 x0.2, VP.bool y0.1, VP.nums .u32 y0.2]), .box 4 100 [VP.bool x0.1, VP.nums .u32 x0.2, VP.bool y0.1, VP.nums .u32 y0.2]]) [0, 1, 2, 3, 4, 5, 7] rfl ?_
    refine nx_then ?_
    refine t_seq ?_
    refine t_region (F := ⟨_, _, _, _⟩) [.rows 5 3 (fodd3_A_c x0 y0 x1 y1 x2 y2), .slot 6 (VP.int .i64 ((3 : Nat) : Int)), .slot 7 (VP.int .i64 ((0 : Nat) : Int)), .slot 8 (VP.bool (decide (((0 : Nat) : Int) < ((3 : Nat) : Int)))), .rp 9 5 0, .slot 10 (VP.agg [VP.bool x0.1, VP.nums .u32 x0.2, VP.bool y0.1, VP.nums .u32 y0.2]), .box 4 100 [VP.bool x0.1, VP.nums .u32 x0.2, VP.bool y0.1, VP.nums .u32 y0.2]] [] [(0, .fp 11 4 0), (1, .slot 12 (VP.agg [VP.bool x0.1, VP.nums .u32 x0.2])), (2, .fp 13 4 2), (3, .slot 14 (VP.agg [VP.bool y0.1, VP.nums .u32 y0.2])), (4, .arr 15 69 2 [VP.bool x0.1, VP.nums .u32 x0.2, VP.bool y0.1, VP.nums .u32 y0.2]), (5, .slot 16 (VP.bool true)), (6, .slot 17 (VP.bool true)), (12, .slot 23 (VP.bool true)), (13, .slot 24 (VP.bool true)), (19, .slot 30 (VP.bool true)), (20, .slot 31 (VP.bool true)), (24, .slot 35 (VP.bool true))] [0, 1, 2, 3, 4, 5, 6] [] rfl rfl follow rfl ⟨
      .inl ⟨wants_plain rfl, does_field _ _ _ 0 ty_f0_api_Frac rfl rfl rfl rfl rfl rfl rfl (pt_box (av_fs 6 rfl))⟩,
      .inl ⟨wants_plain rfl, does_loadAgg _ ty_agg_api_Int rfl rfl rfl rfl rfl rfl (pt_fp (av_rs 0 rfl rfl)) (av_fs 6 rfl)⟩,
      .inl ⟨wants_plain rfl, does_field _ _ _ 2 ty_f1_api_Frac rfl rfl rfl rfl rfl rfl rfl (pt_box (av_fs 6 rfl))⟩,
      .inl ⟨wants_plain rfl, does_loadAgg _ ty_agg_api_Int rfl rfl rfl rfl rfl rfl (pt_fp (av_rs 2 rfl rfl)) (av_fs 6 rfl)⟩,
      .inl ⟨wants_plain rfl, does_buildSlice (sz := 2) [Bz 0, Dz 0, Bz 0, Dz 0] ty_zero_api_Int (by kernel_rfl) (fun w => run_sizeAgg ty_agg_api_Int w) rfl rfl rfl rfl rfl rfl (by kernel_rfl) (fun w => by exact z_int_2 w) (.cons 0 [VP.bool x0.1, VP.nums .u32 x0.2] rfl rfl (ar_cells_agg (ar_tmp (av_rs 1 rfl rfl))) (.cons 2 [VP.bool y0.1, VP.nums .u32 y0.2] rfl rfl (ar_cells_agg (ar_tmp (av_rs 3 rfl rfl))) (.nil _)))⟩,
      .inl ⟨wants_plain rfl, does_call (s_odd2 x0 y0 hx0 hy0 ho) rfl hb_collator_collatorlaw01_Odd rfl rfl rfl rfl ⟨(ar_arr (av_rs 4 rfl rfl)), trivial⟩⟩,
      .inl ⟨wants_plain rfl, does_move _ (.inl rfl) rfl rfl rfl rfl (ar_tmp (av_rs 5 rfl rfl))⟩,
      .inr (skips_guard true rfl rfl rfl (av_rs 6 rfl rfl) rfl rfl rfl rfl),
      .inr (skips_guard true rfl rfl rfl (av_rs 6 rfl rfl) rfl rfl rfl rfl),
      .inr (skips_guard true rfl rfl rfl (av_rs 6 rfl rfl) rfl rfl rfl rfl),
      .inr (skips_guard true rfl rfl rfl (av_rs 6 rfl rfl) rfl rfl rfl rfl),
      .inr (skips_guard true rfl rfl rfl (av_rs 6 rfl rfl) rfl rfl rfl rfl),
      .inl ⟨wants_plain rfl, does_pick true _ _ _ rfl rfl rfl rfl rfl (ar_tmp (av_rs 6 rfl rfl)) (ar_const (fun _ => rfl))⟩,
      .inl ⟨wants_plain rfl, does_move _ (.inl rfl) rfl rfl rfl rfl (ar_tmp (av_rs 7 rfl rfl))⟩,
      .inr (skips_guard true rfl rfl rfl (av_rs 8 rfl rfl) rfl rfl rfl rfl),
      .inr (skips_guard true rfl rfl rfl (av_rs 8 rfl rfl) rfl rfl rfl rfl),
      .inr (skips_guard true rfl rfl rfl (av_rs 8 rfl rfl) rfl rfl rfl rfl),
      .inr (skips_guard true rfl rfl rfl (av_rs 8 rfl rfl) rfl rfl rfl rfl),
      .inr (skips_guard true rfl rfl rfl (av_rs 8 rfl rfl) rfl rfl rfl rfl),
      .inl ⟨wants_plain rfl, does_pick true _ _ _ rfl rfl rfl rfl rfl (ar_tmp (av_rs 8 rfl rfl)) (ar_const (fun _ => rfl))⟩,
      .inl ⟨wants_plain rfl, does_move _ (.inl rfl) rfl rfl rfl rfl (ar_tmp (av_rs 9 rfl rfl))⟩,
      .inr (skips_guard true rfl rfl rfl (av_rs 10 rfl rfl) rfl rfl rfl rfl),
      .inr (skips_guard true rfl rfl rfl (av_rs 10 rfl rfl) rfl rfl rfl rfl),
      .inr (skips_guard true rfl rfl rfl (av_rs 10 rfl rfl) rfl rfl rfl rfl),
      .inl ⟨wants_plain rfl, does_pick true _ _ _ rfl rfl rfl rfl rfl (ar_tmp (av_rs 10 rfl rfl)) (ar_const (fun _ => rfl))⟩,
      trivial⟩ ?_
    refine nx_sub (fs' := [.rows 5 3 (fodd3_A_c x0 y0 x1 y1 x2 y2), .slot 6 (VP.int .i64 ((3 : Nat) : Int)), .slot 7 (VP.int .i64 ((0 : Nat) : Int)), .slot 8 (VP.bool (decide (((0 : Nat) : Int) < ((3 : Nat) : Int)))), .rp 9 5 0, .slot 10 (VP.agg [VP.bool x0.1, VP.nums .u32 x0.2, VP.bool y0.1, VP.nums .u32 y0.2]), .box 4 100 [VP.bool x0.1, VP.nums .u32 x0.2, VP.bool y0.1, VP.nums .u32 y0.2], .fp 11 4 0, .slot 12 (VP.agg [VP.bool x0.1, VP.nums .u32 x0.2]), .fp 13 4 2, .slot 14 (VP.agg [VP.bool y0.1, VP.nums .u32 y0.2]), .arr 15 69 2 [VP.bool x0.1, VP.nums .u32 x0.2, VP.bool y0.1, VP.nums .u32 y0.2], .slot 16 (VP.bool true), .slot 17 (VP.bool true), .slot 23 (VP.bool true), .slot 24 (VP.bool true), .slot 30 (VP.bool true), .slot 31 (VP.bool true), .slot 35 (VP.bool true)]) [0, 1, 2, 3, 4, 5, 6, 7, 8, 9, 10, 11, 12, 13, 14, 15, 16, 17, 18] rfl ?_
    refine nx_then ?_
    refine t_cond_t 18 rfl ?_
    refine t_seq ?_
    refine t_region (F := ⟨_, _, _, _⟩) [.rows 5 3 (fodd3_A_c x0 y0 x1 y1 x2 y2), .slot 6 (VP.int .i64 ((3 : Nat) : Int)), .slot 7 (VP.int .i64 ((0 : Nat) : Int)), .slot 8 (VP.bool (decide (((0 : Nat) : Int) < ((3 : Nat) : Int)))), .rp 9 5 0, .slot 10 (VP.agg [VP.bool x0.1, VP.nums .u32 x0.2, VP.bool y0.1, VP.nums .u32 y0.2]), .box 4 100 [VP.bool x0.1, VP.nums .u32 x0.2, VP.bool y0.1, VP.nums .u32 y0.2], .fp 11 4 0, .slot 12 (VP.agg [VP.bool x0.1, VP.nums .u32 x0.2]), .fp 13 4 2, .slot 14 (VP.agg [VP.bool y0.1, VP.nums .u32 y0.2]), .arr 15 69 2 [VP.bool x0.1, VP.nums .u32 x0.2, VP.bool y0.1, VP.nums .u32 y0.2], .slot 16 (VP.bool true), .slot 17 (VP.bool true), .slot 23 (VP.bool true), .slot 24 (VP.bool true), .slot 30 (VP.bool true), .slot 31 (VP.bool true), .slot 35 (VP.bool true)] [] [(0, .slot 2 (VP.bool true))] [0, 1, 2, 3, 4, 5, 6, 7, 8, 9, 10, 11, 12, 13, 14, 15, 16, 17, 18] [] rfl rfl follow rfl ⟨
      .inl ⟨wants_plain rfl, does_move _ (.inr rfl) rfl rfl rfl rfl (ar_const (fun _ => rfl))⟩,
      trivial⟩ ?_
    refine nx_sub (fs' := [.rows 5 3 (fodd3_A_c x0 y0 x1 y1 x2 y2), .slot 6 (VP.int .i64 ((3 : Nat) : Int)), .slot 7 (VP.int .i64 ((0 : Nat) : Int)), .slot 8 (VP.bool (decide (((0 : Nat) : Int) < ((3 : Nat) : Int)))), .rp 9 5 0, .slot 10 (VP.agg [VP.bool x0.1, VP.nums .u32 x0.2, VP.bool y0.1, VP.nums .u32 y0.2]), .box 4 100 [VP.bool x0.1, VP.nums .u32 x0.2, VP.bool y0.1, VP.nums .u32 y0.2], .fp 11 4 0, .slot 12 (VP.agg [VP.bool x0.1, VP.nums .u32 x0.2]), .fp 13 4 2, .slot 14 (VP.agg [VP.bool y0.1, VP.nums .u32 y0.2]), .arr 15 69 2 [VP.bool x0.1, VP.nums .u32 x0.2, VP.bool y0.1, VP.nums .u32 y0.2], .slot 16 (VP.bool true), .slot 17 (VP.bool true), .slot 23 (VP.bool true), .slot 24 (VP.bool true), .slot 30 (VP.bool true), .slot 31 (VP.bool true), .slot 35 (VP.bool true), .slot 2 (VP.bool true)]) [0, 1, 2, 3, 4, 5, 6, 7, 8, 9, 10, 11, 12, 13, 14, 15, 16, 17, 18, 19] rfl ?_
    refine nx_then ?_
    refine t_ret ?_
    refine rt_block ?_
    refine rt_then ?_
    refine rt_then ?_
    refine rt_block ?_
    refine rt_then ?_
    exact rt_one rfl (res_tmp 19 rfl)
abbrev fodd3_B_c (p0 q0 : Int) (x1 y1 : Raw) (x2 y2 : Raw) : List VP := [Bz p0, Dz p0, Bz q0, Dz q0, VP.bool x1.1, VP.nums .u32 x1.2, VP.bool y1.1, VP.nums .u32 y1.2, VP.bool x2.1, VP.nums .u32 x2.2, VP.bool y2.1, VP.nums .u32 y2.2]
set_option maxRecDepth 100000 in
set_option maxHeartbeats 4000000 in
theorem fodd3_B (p0 q0 : Int) (hp0 : L p0 ≤ 10) (hq0 : L q0 ≤ 10) (hb0 : 5 < L p0) (x1 y1 : Raw) (x2 y2 : Raw) : Spec Try.prog 73 [isRows 3 (fodd3_B_c p0 q0 x1 y1 x2 y2)] (VP.bool true) := by
  refine spec_ofP (xs := [.rows 3 (fodd3_B_c p0 q0 x1 y1 x2 y2)]) 37 [4] Try.func73 rfl Try.ntmps73 rfl fun w0 => ?_
  refine t_seq ?_
  refine t_region (F := ⟨_, _, _, _⟩) [.rows 0 3 (fodd3_B_c p0 q0 x1 y1 x2 y2)] [] [(0, .slot 2 (VP.bool false))] [0] [] rfl rfl follow rfl ⟨
    .inl ⟨wants_plain rfl, does_move _ (.inr rfl) rfl rfl rfl rfl (ar_const (fun _ => rfl))⟩,
    trivial⟩ ?_
  refine nx_sub (fs' := [.rows 0 3 (fodd3_B_c p0 q0 x1 y1 x2 y2), .slot 2 (VP.bool false)]) [0, 1] rfl ?_
  refine nx_then ?_
  refine t_seq ?_
  refine t_seq ?_
  refine t_region (F := ⟨_, _, _, _⟩) [.rows 0 3 (fodd3_B_c p0 q0 x1 y1 x2 y2), .slot 2 (VP.bool false)] [] [(0, .rows 5 3 (fodd3_B_c p0 q0 x1 y1 x2 y2)), (1, .slot 6 (VP.int .i64 ((3 : Nat) : Int))), (2, .slot 7 (VP.int .i64 0))] [0, 1] [] rfl rfl follow rfl ⟨
    .inl ⟨wants_plain rfl, does_moveRows _ (.inl rfl) rfl rfl rfl rfl rfl (av_fs 0 rfl)⟩,
    .inl ⟨wants_plain rfl, does_lenRows _ _ rfl (by kernel_rfl) rfl rfl rfl rfl rfl (av_rs 0 rfl rfl)⟩,
    .inl ⟨wants_plain rfl, does_move _ (.inl rfl) rfl rfl rfl rfl (ar_const (fun _ => rfl))⟩,
    trivial⟩ ?_
  refine nx_sub (fs' := [.slot 2 (VP.bool false), .rows 5 3 (fodd3_B_c p0 q0 x1 y1 x2 y2), .slot 6 (VP.int .i64 ((3 : Nat) : Int)), .slot 7 (VP.int .i64 0)]) [1, 2, 3, 4] rfl ?_
  refine nx_then ?_
  refine t_block ?_
  refine t_loop (σ := {k : Nat // k ≤ 0}) (fun s => [.rows 5 3 (fodd3_B_c p0 q0 x1 y1 x2 y2), .slot 6 (VP.int .i64 ((3 : Nat) : Int)), .slot 7 (VP.int .i64 ((s.1 : Nat) : Int))]) (fun s => 3 - s.1) (⟨0, by decide⟩) [1, 2, 3] rfl ?_
  intro s
  obtain ⟨k, hk⟩ := s
  rcases (show k = 0 ∨ False by omega) with rfl | hF
  case inr => exact hF.elim
  case inl =>
    refine t_seq ?_
    refine t_region (F := ⟨_, _, _, _⟩) [.rows 5 3 (fodd3_B_c p0 q0 x1 y1 x2 y2), .slot 6 (VP.int .i64 ((3 : Nat) : Int)), .slot 7 (VP.int .i64 ((0 : Nat) : Int))] [] [(0, .slot 8 (VP.bool (decide (((0 : Nat) : Int) < ((3 : Nat) : Int)))))] [0, 1, 2] [] rfl rfl follow rfl ⟨
      .inl ⟨wants_plain rfl, does_cmp (m := ((0 : Nat) : Int)) (n := ((3 : Nat) : Int)) _ _ _ _ _ rfl rfl rfl rfl rfl rfl .i64 (ar_tmp (av_fs 2 rfl)) (ar_tmp (av_fs 1 rfl))⟩,
      trivial⟩ ?_
    refine nx_sub (fs' := [.rows 5 3 (fodd3_B_c p0 q0 x1 y1 x2 y2), .slot 6 (VP.int .i64 ((3 : Nat) : Int)), .slot 7 (VP.int .i64 ((0 : Nat) : Int)), .slot 8 (VP.bool (decide (((0 : Nat) : Int) < ((3 : Nat) : Int))))]) [0, 1, 2, 3] rfl ?_
    refine nx_then ?_
    refine t_seq ?_
    refine t_cond_te 3 rfl rfl ?_
    refine t_skip ?_
    refine nx_then ?_
    refine t_seq ?_
    refine t_block ?_
    refine t_seq ?_
    refine t_region (F := ⟨_, _, _, _⟩) [.rows 5 3 (fodd3_B_c p0 q0 x1 y1 x2 y2), .slot 6 (VP.int .i64 ((3 : Nat) : Int)), .slot 7 (VP.int .i64 ((0 : Nat) : Int)), .slot 8 (VP.bool (decide (((0 : Nat) : Int) < ((3 : Nat) : Int))))] [] [(0, .rp 9 5 0), (1, .slot 10 (VP.agg [Bz p0, Dz p0, Bz q0, Dz q0])), (2, .own 4 100 4), (3, .box 4 100 [Bz p0, Dz p0, Bz q0, Dz q0])] [0, 1, 2, 3] [] rfl rfl follow rfl ⟨
      .inl ⟨wants_plain rfl, does_indexRows (m := 0) (sz := 4) _ _ rfl Try.underlying178 (fun w => run_sizeAgg ty_agg_api_Frac w) rfl rfl rfl rfl rfl rfl (by decide) rfl (av_fs 0 rfl) (ar_tmp (av_fs 2 rfl))⟩,
      .inl ⟨wants_plain rfl, does_loadRows _ rfl ty_agg_api_Frac rfl rfl rfl rfl rfl rfl rfl (av_rs 0 rfl rfl) (av_fs 0 rfl)⟩,
      .inl ⟨wants_plain rfl, does_allocOwn [Bz 0, Dz 0, Bz 0, Dz 0] ty_zero_api_Frac rfl rfl rfl rfl rfl z_frac rfl⟩,
      .inl ⟨wants_plain rfl, does_storeNew 4 _ _ ty_agg_api_Frac rfl rfl rfl rfl rfl (pt_own (av_rs 2 rfl rfl)) (av_rs 2 rfl rfl) (ar_tmp (av_rs 1 rfl rfl))⟩,
      trivial⟩ ?_
    refine nx_sub (fs' := [.rows 5 3 (fodd3_B_c p0 q0 x1 y1 x2 y2), .slot 6 (VP.int .i64 ((3 : Nat) : Int)), .slot 7 (VP.int .i64 ((0 : Nat) : Int)), .slot 8 (VP.bool (decide (((0 : Nat) : Int) < ((3 : Nat) : Int)))), .rp 9 5 0, .slot 10 (VP.agg [Bz p0, Dz p0, Bz q0, Dz q0]), .box 4 100 [Bz p0, Dz p0, Bz q0, Dz q0]]) [0, 1, 2, 3, 4, 5, 7] rfl ?_
    refine nx_then ?_
    refine t_seq ?_
    refine t_region (F := ⟨_, _, _, _⟩) [.rows 5 3 (fodd3_B_c p0 q0 x1 y1 x2 y2), .slot 6 (VP.int .i64 ((3 : Nat) : Int)), .slot 7 (VP.int .i64 ((0 : Nat) : Int)), .slot 8 (VP.bool (decide (((0 : Nat) : Int) < ((3 : Nat) : Int)))), .rp 9 5 0, .slot 10 (VP.agg [Bz p0, Dz p0, Bz q0, Dz q0]), .box 4 100 [Bz p0, Dz p0, Bz q0, Dz q0]] [] [(0, .fp 11 4 0), (1, .slot 12 (INT p0)), (2, .fp 13 4 2), (3, .slot 14 (INT q0)), (4, .arr 15 69 2 [Bz p0, Dz p0, Bz q0, Dz q0]), (5, .slot 16 (VP.bool false)), (6, .slot 17 (VP.bool false)), (7, .fp 18 4 0), (8, .fp 19 4 1), (9, .slot 20 (Dz p0)), (10, .slot 21 (VP.int .i64 (((dg BB p0.natAbs).length : Nat) : Int))), (11, .slot 22 (VP.bool (decide ((((dg BB p0.natAbs).length : Nat) : Int) > 5)))), (12, .slot 23 (VP.bool (decide ((((dg BB p0.natAbs).length : Nat) : Int) > 5)))), (13, .slot 24 (VP.bool (decide ((((dg BB p0.natAbs).length : Nat) : Int) > 5)))), (19, .slot 30 (VP.bool true)), (20, .slot 31 (VP.bool true)), (24, .slot 35 (VP.bool true))] [0, 1, 2, 3, 4, 5, 6] [] rfl rfl follow rfl ⟨
      .inl ⟨wants_plain rfl, does_field _ _ _ 0 ty_f0_api_Frac rfl rfl rfl rfl rfl rfl rfl (pt_box (av_fs 6 rfl))⟩,
      .inl ⟨wants_plain rfl, does_loadAgg _ ty_agg_api_Int rfl rfl rfl rfl rfl rfl (pt_fp (av_rs 0 rfl rfl)) (av_fs 6 rfl)⟩,
      .inl ⟨wants_plain rfl, does_field _ _ _ 2 ty_f1_api_Frac rfl rfl rfl rfl rfl rfl rfl (pt_box (av_fs 6 rfl))⟩,
      .inl ⟨wants_plain rfl, does_loadAgg _ ty_agg_api_Int rfl rfl rfl rfl rfl rfl (pt_fp (av_rs 2 rfl rfl)) (av_fs 6 rfl)⟩,
      .inl ⟨wants_plain rfl, does_buildSlice (sz := 2) [Bz 0, Dz 0, Bz 0, Dz 0] ty_zero_api_Int (by kernel_rfl) (fun w => run_sizeAgg ty_agg_api_Int w) rfl rfl rfl rfl rfl rfl (by kernel_rfl) (fun w => by exact z_int_2 w) (.cons 0 [Bz p0, Dz p0] rfl rfl (ar_cells_agg (ar_tmp (av_rs 1 rfl rfl))) (.cons 2 [Bz q0, Dz q0] rfl rfl (ar_cells_agg (ar_tmp (av_rs 3 rfl rfl))) (.nil _)))⟩,
      .inl ⟨wants_plain rfl, does_call (s_even2 p0 q0 hp0 hq0) rfl hb_collator_collatorlaw01_Odd rfl rfl rfl rfl ⟨(ar_arr (av_rs 4 rfl rfl)), trivial⟩⟩,
      .inl ⟨wants_plain rfl, does_move _ (.inl rfl) rfl rfl rfl rfl (ar_tmp (av_rs 5 rfl rfl))⟩,
      .inl ⟨wants_guard false rfl rfl rfl (av_rs 6 rfl rfl), does_field _ _ _ 0 ty_f0_api_Frac rfl rfl rfl rfl rfl rfl rfl (pt_box (av_fs 6 rfl))⟩,
      .inl ⟨wants_guard false rfl rfl rfl (av_rs 6 rfl rfl), does_field _ _ _ 1 ty_f1_api_Int rfl rfl rfl rfl rfl rfl rfl (pt_fp (av_rs 7 rfl rfl))⟩,
      .inl ⟨wants_guard false rfl rfl rfl (av_rs 6 rfl rfl), does_loadOne _ ty_one___uint32 rfl rfl rfl rfl rfl rfl (pt_fp (av_rs 8 rfl rfl)) (av_fs 6 rfl)⟩,
      .inl ⟨wants_guard false rfl rfl rfl (av_rs 6 rfl rfl), does_len _ _ (by kernel_rfl) rfl rfl rfl rfl rfl (ar_tmp (av_rs 9 rfl rfl))⟩,
      .inl ⟨wants_guard false rfl rfl rfl (av_rs 6 rfl rfl), does_cmp (m := (((dg BB p0.natAbs).length : Nat) : Int)) (n := 5) _ _ _ _ _ rfl rfl rfl rfl rfl rfl .i64 (ar_tmp (av_rs 10 rfl rfl)) (ar_const (fun _ => rfl))⟩,
      .inl ⟨wants_plain rfl, does_pick false _ _ _ rfl rfl rfl rfl rfl (ar_tmp (av_rs 6 rfl rfl)) (ar_tmp (av_rs 11 rfl rfl))⟩,
      .inl ⟨wants_plain rfl, does_move _ (.inl rfl) rfl rfl rfl rfl (ar_tmp (av_rs 12 rfl rfl))⟩,
      .inr (skips_guard true rfl rfl rfl (av_bool (gt5_yes hb0) (av_rs 13 rfl rfl)) rfl rfl rfl rfl),
      .inr (skips_guard true rfl rfl rfl (av_bool (gt5_yes hb0) (av_rs 13 rfl rfl)) rfl rfl rfl rfl),
      .inr (skips_guard true rfl rfl rfl (av_bool (gt5_yes hb0) (av_rs 13 rfl rfl)) rfl rfl rfl rfl),
      .inr (skips_guard true rfl rfl rfl (av_bool (gt5_yes hb0) (av_rs 13 rfl rfl)) rfl rfl rfl rfl),
      .inr (skips_guard true rfl rfl rfl (av_bool (gt5_yes hb0) (av_rs 13 rfl rfl)) rfl rfl rfl rfl),
      .inl ⟨wants_plain rfl, does_pick true _ _ _ rfl rfl rfl rfl rfl (ar_tmp (av_bool (gt5_yes hb0) (av_rs 13 rfl rfl))) (ar_const (fun _ => rfl))⟩,
      .inl ⟨wants_plain rfl, does_move _ (.inl rfl) rfl rfl rfl rfl (ar_tmp (av_rs 14 rfl rfl))⟩,
      .inr (skips_guard true rfl rfl rfl (av_rs 15 rfl rfl) rfl rfl rfl rfl),
      .inr (skips_guard true rfl rfl rfl (av_rs 15 rfl rfl) rfl rfl rfl rfl),
      .inr (skips_guard true rfl rfl rfl (av_rs 15 rfl rfl) rfl rfl rfl rfl),
      .inl ⟨wants_plain rfl, does_pick true _ _ _ rfl rfl rfl rfl rfl (ar_tmp (av_rs 15 rfl rfl)) (ar_const (fun _ => rfl))⟩,
      trivial⟩ ?_
    refine nx_sub (fs' := [.rows 5 3 (fodd3_B_c p0 q0 x1 y1 x2 y2), .slot 6 (VP.int .i64 ((3 : Nat) : Int)), .slot 7 (VP.int .i64 ((0 : Nat) : Int)), .slot 8 (VP.bool (decide (((0 : Nat) : Int) < ((3 : Nat) : Int)))), .rp 9 5 0, .slot 10 (VP.agg [Bz p0, Dz p0, Bz q0, Dz q0]), .box 4 100 [Bz p0, Dz p0, Bz q0, Dz q0], .fp 11 4 0, .slot 12 (INT p0), .fp 13 4 2, .slot 14 (INT q0), .arr 15 69 2 [Bz p0, Dz p0, Bz q0, Dz q0], .slot 16 (VP.bool false), .slot 17 (VP.bool false), .fp 18 4 0, .fp 19 4 1, .slot 20 (Dz p0), .slot 21 (VP.int .i64 (((dg BB p0.natAbs).length : Nat) : Int)), .slot 22 (VP.bool (decide ((((dg BB p0.natAbs).length : Nat) : Int) > 5))), .slot 23 (VP.bool (decide ((((dg BB p0.natAbs).length : Nat) : Int) > 5))), .slot 24 (VP.bool (decide ((((dg BB p0.natAbs).length : Nat) : Int) > 5))), .slot 30 (VP.bool true), .slot 31 (VP.bool true), .slot 35 (VP.bool true)]) [0, 1, 2, 3, 4, 5, 6, 7, 8, 9, 10, 11, 12, 13, 14, 15, 16, 17, 18, 19, 20, 21, 22, 23] rfl ?_
    refine nx_then ?_
    refine t_cond_t 23 rfl ?_
    refine t_seq ?_
    refine t_region (F := ⟨_, _, _, _⟩) [.rows 5 3 (fodd3_B_c p0 q0 x1 y1 x2 y2), .slot 6 (VP.int .i64 ((3 : Nat) : Int)), .slot 7 (VP.int .i64 ((0 : Nat) : Int)), .slot 8 (VP.bool (decide (((0 : Nat) : Int) < ((3 : Nat) : Int)))), .rp 9 5 0, .slot 10 (VP.agg [Bz p0, Dz p0, Bz q0, Dz q0]), .box 4 100 [Bz p0, Dz p0, Bz q0, Dz q0], .fp 11 4 0, .slot 12 (INT p0), .fp 13 4 2, .slot 14 (INT q0), .arr 15 69 2 [Bz p0, Dz p0, Bz q0, Dz q0], .slot 16 (VP.bool false), .slot 17 (VP.bool false), .fp 18 4 0, .fp 19 4 1, .slot 20 (Dz p0), .slot 21 (VP.int .i64 (((dg BB p0.natAbs).length : Nat) : Int)), .slot 22 (VP.bool (decide ((((dg BB p0.natAbs).length : Nat) : Int) > 5))), .slot 23 (VP.bool (decide ((((dg BB p0.natAbs).length : Nat) : Int) > 5))), .slot 24 (VP.bool (decide ((((dg BB p0.natAbs).length : Nat) : Int) > 5))), .slot 30 (VP.bool true), .slot 31 (VP.bool true), .slot 35 (VP.bool true)] [] [(0, .slot 2 (VP.bool true))] [0, 1, 2, 3, 4, 5, 6, 7, 8, 9, 10, 11, 12, 13, 14, 15, 16, 17, 18, 19, 20, 21, 22, 23] [] rfl rfl follow rfl ⟨
      .inl ⟨wants_plain rfl, does_move _ (.inr rfl) rfl rfl rfl rfl (ar_const (fun _ => rfl))⟩,
      trivial⟩ ?_
    refine nx_sub (fs' := [.rows 5 3 (fodd3_B_c p0 q0 x1 y1 x2 y2), .slot 6 (VP.int .i64 ((3 : Nat) : Int)), .slot 7 (VP.int .i64 ((0 : Nat) : Int)), .slot 8 (VP.bool (decide (((0 : Nat) : Int) < ((3 : Nat) : Int)))), .rp 9 5 0, .slot 10 (VP.agg [Bz p0, Dz p0, Bz q0, Dz q0]), .box 4 100 [Bz p0, Dz p0, Bz q0, Dz q0], .fp 11 4 0, .slot 12 (INT p0), .fp 13 4 2, .slot 14 (INT q0), .arr 15 69 2 [Bz p0, Dz p0, Bz q0, Dz q0], .slot 16 (VP.bool false), .slot 17 (VP.bool false), .fp 18 4 0, .fp 19 4 1, .slot 20 (Dz p0), .slot 21 (VP.int .i64 (((dg BB p0.natAbs).length : Nat) : Int)), .slot 22 (VP.bool (decide ((((dg BB p0.natAbs).length : Nat) : Int) > 5))), .slot 23 (VP.bool (decide ((((dg BB p0.natAbs).length : Nat) : Int) > 5))), .slot 24 (VP.bool (decide ((((dg BB p0.natAbs).length : Nat) : Int) > 5))), .slot 30 (VP.bool true), .slot 31 (VP.bool true), .slot 35 (VP.bool true), .slot 2 (VP.bool true)]) [0, 1, 2, 3, 4, 5, 6, 7, 8, 9, 10, 11, 12, 13, 14, 15, 16, 17, 18, 19, 20, 21, 22, 23, 24] rfl ?_
    refine nx_then ?_
    refine t_ret ?_
    refine rt_block ?_
    refine rt_then ?_
    refine rt_then ?_
    refine rt_block ?_
    refine rt_then ?_
    exact rt_one rfl (res_tmp 24 rfl)
abbrev fodd3_C_c (p0 q0 : Int) (x1 y1 : Raw) (x2 y2 : Raw) : List VP := [Bz p0, Dz p0, Bz q0, Dz q0, VP.bool x1.1, VP.nums .u32 x1.2, VP.bool y1.1, VP.nums .u32 y1.2, VP.bool x2.1, VP.nums .u32 x2.2, VP.bool y2.1, VP.nums .u32 y2.2]
set_option maxRecDepth 100000 in
set_option maxHeartbeats 4000000 in
theorem fodd3_C (p0 q0 : Int) (hp0 : L p0 ≤ 5) (hq0 : L q0 ≤ 10) (hb0 : 5 < L q0) (x1 y1 : Raw) (x2 y2 : Raw) : Spec Try.prog 73 [isRows 3 (fodd3_C_c p0 q0 x1 y1 x2 y2)] (VP.bool true) := by
  refine spec_ofP (xs := [.rows 3 (fodd3_C_c p0 q0 x1 y1 x2 y2)]) 37 [4] Try.func73 rfl Try.ntmps73 rfl fun w0 => ?_
  refine t_seq ?_
  refine t_region (F := ⟨_, _, _, _⟩) [.rows 0 3 (fodd3_C_c p0 q0 x1 y1 x2 y2)] [] [(0, .slot 2 (VP.bool false))] [0] [] rfl rfl follow rfl ⟨
    .inl ⟨wants_plain rfl, does_move _ (.inr rfl) rfl rfl rfl rfl (ar_const (fun _ => rfl))⟩,
    trivial⟩ ?_
  refine nx_sub (fs' := [.rows 0 3 (fodd3_C_c p0 q0 x1 y1 x2 y2), .slot 2 (VP.bool false)]) [0, 1] rfl ?_
  refine nx_then ?_
  refine t_seq ?_
  refine t_seq ?_
  refine t_region (F := ⟨_, _, _, _⟩) [.rows 0 3 (fodd3_C_c p0 q0 x1 y1 x2 y2), .slot 2 (VP.bool false)] [] [(0, .rows 5 3 (fodd3_C_c p0 q0 x1 y1 x2 y2)), (1, .slot 6 (VP.int .i64 ((3 : Nat) : Int))), (2, .slot 7 (VP.int .i64 0))] [0, 1] [] rfl rfl follow rfl ⟨
    .inl ⟨wants_plain rfl, does_moveRows _ (.inl rfl) rfl rfl rfl rfl rfl (av_fs 0 rfl)⟩,
    .inl ⟨wants_plain rfl, does_lenRows _ _ rfl (by kernel_rfl) rfl rfl rfl rfl rfl (av_rs 0 rfl rfl)⟩,
    .inl ⟨wants_plain rfl, does_move _ (.inl rfl) rfl rfl rfl rfl (ar_const (fun _ => rfl))⟩,
    trivial⟩ ?_
  refine nx_sub (fs' := [.slot 2 (VP.bool false), .rows 5 3 (fodd3_C_c p0 q0 x1 y1 x2 y2), .slot 6 (VP.int .i64 ((3 : Nat) : Int)), .slot 7 (VP.int .i64 0)]) [1, 2, 3, 4] rfl ?_
  refine nx_then ?_
  refine t_block ?_
  refine t_loop (σ := {k : Nat // k ≤ 0}) (fun s => [.rows 5 3 (fodd3_C_c p0 q0 x1 y1 x2 y2), .slot 6 (VP.int .i64 ((3 : Nat) : Int)), .slot 7 (VP.int .i64 ((s.1 : Nat) : Int))]) (fun s => 3 - s.1) (⟨0, by decide⟩) [1, 2, 3] rfl ?_
  intro s
  obtain ⟨k, hk⟩ := s
  rcases (show k = 0 ∨ False by omega) with rfl | hF
  case inr => exact hF.elim
  case inl =>
    refine t_seq ?_
    refine t_region (F := ⟨_, _, _, _⟩) [.rows 5 3 (fodd3_C_c p0 q0 x1 y1 x2 y2), .slot 6 (VP.int .i64 ((3 : Nat) : Int)), .slot 7 (VP.int .i64 ((0 : Nat) : Int))] [] [(0, .slot 8 (VP.bool (decide (((0 : Nat) : Int) < ((3 : Nat) : Int)))))] [0, 1, 2] [] rfl rfl follow rfl ⟨
      .inl ⟨wants_plain rfl, does_cmp (m := ((0 : Nat) : Int)) (n := ((3 : Nat) : Int)) _ _ _ _ _ rfl rfl rfl rfl rfl rfl .i64 (ar_tmp (av_fs 2 rfl)) (ar_tmp (av_fs 1 rfl))⟩,
      trivial⟩ ?_
    refine nx_sub (fs' := [.rows 5 3 (fodd3_C_c p0 q0 x1 y1 x2 y2), .slot 6 (VP.int .i64 ((3 : Nat) : Int)), .slot 7 (VP.int .i64 ((0 : Nat) : Int)), .slot 8 (VP.bool (decide (((0 : Nat) : Int) < ((3 : Nat) : Int))))]) [0, 1, 2, 3] rfl ?_
    refine nx_then ?_
    refine t_seq ?_
    refine t_cond_te 3 rfl rfl ?_
    refine t_skip ?_
    refine nx_then ?_
    refine t_seq ?_
    refine t_block ?_
    refine t_seq ?_
    refine t_region (F := ⟨_, _, _, _⟩) [.rows 5 3 (fodd3_C_c p0 q0 x1 y1 x2 y2), .slot 6 (VP.int .i64 ((3 : Nat) : Int)), .slot 7 (VP.int .i64 ((0 : Nat) : Int)), .slot 8 (VP.bool (decide (((0 : Nat) : Int) < ((3 : Nat) : Int))))] [] [(0, .rp 9 5 0), (1, .slot 10 (VP.agg [Bz p0, Dz p0, Bz q0, Dz q0])), (2, .own 4 100 4), (3, .box 4 100 [Bz p0, Dz p0, Bz q0, Dz q0])] [0, 1, 2, 3] [] rfl rfl follow rfl ⟨
      .inl ⟨wants_plain rfl, does_indexRows (m := 0) (sz := 4) _ _ rfl Try.underlying178 (fun w => run_sizeAgg ty_agg_api_Frac w) rfl rfl rfl rfl rfl rfl (by decide) rfl (av_fs 0 rfl) (ar_tmp (av_fs 2 rfl))⟩,
      .inl ⟨wants_plain rfl, does_loadRows _ rfl ty_agg_api_Frac rfl rfl rfl rfl rfl rfl rfl (av_rs 0 rfl rfl) (av_fs 0 rfl)⟩,
      .inl ⟨wants_plain rfl, does_allocOwn [Bz 0, Dz 0, Bz 0, Dz 0] ty_zero_api_Frac rfl rfl rfl rfl rfl z_frac rfl⟩,
      .inl ⟨wants_plain rfl, does_storeNew 4 _ _ ty_agg_api_Frac rfl rfl rfl rfl rfl (pt_own (av_rs 2 rfl rfl)) (av_rs 2 rfl rfl) (ar_tmp (av_rs 1 rfl rfl))⟩,
      trivial⟩ ?_
    refine nx_sub (fs' := [.rows 5 3 (fodd3_C_c p0 q0 x1 y1 x2 y2), .slot 6 (VP.int .i64 ((3 : Nat) : Int)), .slot 7 (VP.int .i64 ((0 : Nat) : Int)), .slot 8 (VP.bool (decide (((0 : Nat) : Int) < ((3 : Nat) : Int)))), .rp 9 5 0, .slot 10 (VP.agg [Bz p0, Dz p0, Bz q0, Dz q0]), .box 4 100 [Bz p0, Dz p0, Bz q0, Dz q0]]) [0, 1, 2, 3, 4, 5, 7] rfl ?_
    refine nx_then ?_
    refine t_seq ?_
    refine t_region (F := ⟨_, _, _, _⟩) [.rows 5 3 (fodd3_C_c p0 q0 x1 y1 x2 y2), .slot 6 (VP.int .i64 ((3 : Nat) : Int)), .slot 7 (VP.int .i64 ((0 : Nat) : Int)), .slot 8 (VP.bool (decide (((0 : Nat) : Int) < ((3 : Nat) : Int)))), .rp 9 5 0, .slot 10 (VP.agg [Bz p0, Dz p0, Bz q0, Dz q0]), .box 4 100 [Bz p0, Dz p0, Bz q0, Dz q0]] [] [(0, .fp 11 4 0), (1, .slot 12 (INT p0)), (2, .fp 13 4 2), (3, .slot 14 (INT q0)), (4, .arr 15 69 2 [Bz p0, Dz p0, Bz q0, Dz q0]), (5, .slot 16 (VP.bool false)), (6, .slot 17 (VP.bool false)), (7, .fp 18 4 0), (8, .fp 19 4 1), (9, .slot 20 (Dz p0)), (10, .slot 21 (VP.int .i64 (((dg BB p0.natAbs).length : Nat) : Int))), (11, .slot 22 (VP.bool (decide ((((dg BB p0.natAbs).length : Nat) : Int) > 5)))), (12, .slot 23 (VP.bool (decide ((((dg BB p0.natAbs).length : Nat) : Int) > 5)))), (13, .slot 24 (VP.bool (decide ((((dg BB p0.natAbs).length : Nat) : Int) > 5)))), (14, .fp 25 4 2), (15, .fp 26 4 3), (16, .slot 27 (Dz q0)), (17, .slot 28 (VP.int .i64 (((dg BB q0.natAbs).length : Nat) : Int))), (18, .slot 29 (VP.bool (decide ((((dg BB q0.natAbs).length : Nat) : Int) > 5)))), (19, .slot 30 (VP.bool (decide ((((dg BB q0.natAbs).length : Nat) : Int) > 5)))), (20, .slot 31 (VP.bool (decide ((((dg BB q0.natAbs).length : Nat) : Int) > 5)))), (24, .slot 35 (VP.bool true))] [0, 1, 2, 3, 4, 5, 6] [] rfl rfl follow rfl ⟨
      .inl ⟨wants_plain rfl, does_field _ _ _ 0 ty_f0_api_Frac rfl rfl rfl rfl rfl rfl rfl (pt_box (av_fs 6 rfl))⟩,
      .inl ⟨wants_plain rfl, does_loadAgg _ ty_agg_api_Int rfl rfl rfl rfl rfl rfl (pt_fp (av_rs 0 rfl rfl)) (av_fs 6 rfl)⟩,
      .inl ⟨wants_plain rfl, does_field _ _ _ 2 ty_f1_api_Frac rfl rfl rfl rfl rfl rfl rfl (pt_box (av_fs 6 rfl))⟩,
      .inl ⟨wants_plain rfl, does_loadAgg _ ty_agg_api_Int rfl rfl rfl rfl rfl rfl (pt_fp (av_rs 2 rfl rfl)) (av_fs 6 rfl)⟩,
      .inl ⟨wants_plain rfl, does_buildSlice (sz := 2) [Bz 0, Dz 0, Bz 0, Dz 0] ty_zero_api_Int (by kernel_rfl) (fun w => run_sizeAgg ty_agg_api_Int w) rfl rfl rfl rfl rfl rfl (by kernel_rfl) (fun w => by exact z_int_2 w) (.cons 0 [Bz p0, Dz p0] rfl rfl (ar_cells_agg (ar_tmp (av_rs 1 rfl rfl))) (.cons 2 [Bz q0, Dz q0] rfl rfl (ar_cells_agg (ar_tmp (av_rs 3 rfl rfl))) (.nil _)))⟩,
      .inl ⟨wants_plain rfl, does_call (s_even2 p0 q0 (lle hp0 (by decide)) hq0) rfl hb_collator_collatorlaw01_Odd rfl rfl rfl rfl ⟨(ar_arr (av_rs 4 rfl rfl)), trivial⟩⟩,
      .inl ⟨wants_plain rfl, does_move _ (.inl rfl) rfl rfl rfl rfl (ar_tmp (av_rs 5 rfl rfl))⟩,
      .inl ⟨wants_guard false rfl rfl rfl (av_rs 6 rfl rfl), does_field _ _ _ 0 ty_f0_api_Frac rfl rfl rfl rfl rfl rfl rfl (pt_box (av_fs 6 rfl))⟩,
      .inl ⟨wants_guard false rfl rfl rfl (av_rs 6 rfl rfl), does_field _ _ _ 1 ty_f1_api_Int rfl rfl rfl rfl rfl rfl rfl (pt_fp (av_rs 7 rfl rfl))⟩,
      .inl ⟨wants_guard false rfl rfl rfl (av_rs 6 rfl rfl), does_loadOne _ ty_one___uint32 rfl rfl rfl rfl rfl rfl (pt_fp (av_rs 8 rfl rfl)) (av_fs 6 rfl)⟩,
      .inl ⟨wants_guard false rfl rfl rfl (av_rs 6 rfl rfl), does_len _ _ (by kernel_rfl) rfl rfl rfl rfl rfl (ar_tmp (av_rs 9 rfl rfl))⟩,
      .inl ⟨wants_guard false rfl rfl rfl (av_rs 6 rfl rfl), does_cmp (m := (((dg BB p0.natAbs).length : Nat) : Int)) (n := 5) _ _ _ _ _ rfl rfl rfl rfl rfl rfl .i64 (ar_tmp (av_rs 10 rfl rfl)) (ar_const (fun _ => rfl))⟩,
      .inl ⟨wants_plain rfl, does_pick false _ _ _ rfl rfl rfl rfl rfl (ar_tmp (av_rs 6 rfl rfl)) (ar_tmp (av_rs 11 rfl rfl))⟩,
      .inl ⟨wants_plain rfl, does_move _ (.inl rfl) rfl rfl rfl rfl (ar_tmp (av_rs 12 rfl rfl))⟩,
      .inl ⟨wants_guard false rfl rfl rfl (av_bool (gt5_no hp0) (av_rs 13 rfl rfl)), does_field _ _ _ 2 ty_f1_api_Frac rfl rfl rfl rfl rfl rfl rfl (pt_box (av_fs 6 rfl))⟩,
      .inl ⟨wants_guard false rfl rfl rfl (av_bool (gt5_no hp0) (av_rs 13 rfl rfl)), does_field _ _ _ 1 ty_f1_api_Int rfl rfl rfl rfl rfl rfl rfl (pt_fp (av_rs 14 rfl rfl))⟩,
      .inl ⟨wants_guard false rfl rfl rfl (av_bool (gt5_no hp0) (av_rs 13 rfl rfl)), does_loadOne _ ty_one___uint32 rfl rfl rfl rfl rfl rfl (pt_fp (av_rs 15 rfl rfl)) (av_fs 6 rfl)⟩,
      .inl ⟨wants_guard false rfl rfl rfl (av_bool (gt5_no hp0) (av_rs 13 rfl rfl)), does_len _ _ (by kernel_rfl) rfl rfl rfl rfl rfl (ar_tmp (av_rs 16 rfl rfl))⟩,
      .inl ⟨wants_guard false rfl rfl rfl (av_bool (gt5_no hp0) (av_rs 13 rfl rfl)), does_cmp (m := (((dg BB q0.natAbs).length : Nat) : Int)) (n := 5) _ _ _ _ _ rfl rfl rfl rfl rfl rfl .i64 (ar_tmp (av_rs 17 rfl rfl)) (ar_const (fun _ => rfl))⟩,
      .inl ⟨wants_plain rfl, does_pick false _ _ _ rfl rfl rfl rfl rfl (ar_tmp (av_bool (gt5_no hp0) (av_rs 13 rfl rfl))) (ar_tmp (av_rs 18 rfl rfl))⟩,
      .inl ⟨wants_plain rfl, does_move _ (.inl rfl) rfl rfl rfl rfl (ar_tmp (av_rs 19 rfl rfl))⟩,
      .inr (skips_guard true rfl rfl rfl (av_bool (gt5_yes hb0) (av_rs 20 rfl rfl)) rfl rfl rfl rfl),
      .inr (skips_guard true rfl rfl rfl (av_bool (gt5_yes hb0) (av_rs 20 rfl rfl)) rfl rfl rfl rfl),
      .inr (skips_guard true rfl rfl rfl (av_bool (gt5_yes hb0) (av_rs 20 rfl rfl)) rfl rfl rfl rfl),
      .inl ⟨wants_plain rfl, does_pick true _ _ _ rfl rfl rfl rfl rfl (ar_tmp (av_bool (gt5_yes hb0) (av_rs 20 rfl rfl))) (ar_const (fun _ => rfl))⟩,
      trivial⟩ ?_
    refine nx_sub (fs' := [.rows 5 3 (fodd3_C_c p0 q0 x1 y1 x2 y2), .slot 6 (VP.int .i64 ((3 : Nat) : Int)), .slot 7 (VP.int .i64 ((0 : Nat) : Int)), .slot 8 (VP.bool (decide (((0 : Nat) : Int) < ((3 : Nat) : Int)))), .rp 9 5 0, .slot 10 (VP.agg [Bz p0, Dz p0, Bz q0, Dz q0]), .box 4 100 [Bz p0, Dz p0, Bz q0, Dz q0], .fp 11 4 0, .slot 12 (INT p0), .fp 13 4 2, .slot 14 (INT q0), .arr 15 69 2 [Bz p0, Dz p0, Bz q0, Dz q0], .slot 16 (VP.bool false), .slot 17 (VP.bool false), .fp 18 4 0, .fp 19 4 1, .slot 20 (Dz p0), .slot 21 (VP.int .i64 (((dg BB p0.natAbs).length : Nat) : Int)), .slot 22 (VP.bool (decide ((((dg BB p0.natAbs).length : Nat) : Int) > 5))), .slot 23 (VP.bool (decide ((((dg BB p0.natAbs).length : Nat) : Int) > 5))), .slot 24 (VP.bool (decide ((((dg BB p0.natAbs).length : Nat) : Int) > 5))), .fp 25 4 2, .fp 26 4 3, .slot 27 (Dz q0), .slot 28 (VP.int .i64 (((dg BB q0.natAbs).length : Nat) : Int)), .slot 29 (VP.bool (decide ((((dg BB q0.natAbs).length : Nat) : Int) > 5))), .slot 30 (VP.bool (decide ((((dg BB q0.natAbs).length : Nat) : Int) > 5))), .slot 31 (VP.bool (decide ((((dg BB q0.natAbs).length : Nat) : Int) > 5))), .slot 35 (VP.bool true)]) [0, 1, 2, 3, 4, 5, 6, 7, 8, 9, 10, 11, 12, 13, 14, 15, 16, 17, 18, 19, 20, 21, 22, 23, 24, 25, 26, 27, 28] rfl ?_
    refine nx_then ?_
    refine t_cond_t 28 rfl ?_
    refine t_seq ?_
    refine t_region (F := ⟨_, _, _, _⟩) [.rows 5 3 (fodd3_C_c p0 q0 x1 y1 x2 y2), .slot 6 (VP.int .i64 ((3 : Nat) : Int)), .slot 7 (VP.int .i64 ((0 : Nat) : Int)), .slot 8 (VP.bool (decide (((0 : Nat) : Int) < ((3 : Nat) : Int)))), .rp 9 5 0, .slot 10 (VP.agg [Bz p0, Dz p0, Bz q0, Dz q0]), .box 4 100 [Bz p0, Dz p0, Bz q0, Dz q0], .fp 11 4 0, .slot 12 (INT p0), .fp 13 4 2, .slot 14 (INT q0), .arr 15 69 2 [Bz p0, Dz p0, Bz q0, Dz q0], .slot 16 (VP.bool false), .slot 17 (VP.bool false), .fp 18 4 0, .fp 19 4 1, .slot 20 (Dz p0), .slot 21 (VP.int .i64 (((dg BB p0.natAbs).length : Nat) : Int)), .slot 22 (VP.bool (decide ((((dg BB p0.natAbs).length : Nat) : Int) > 5))), .slot 23 (VP.bool (decide ((((dg BB p0.natAbs).length : Nat) : Int) > 5))), .slot 24 (VP.bool (decide ((((dg BB p0.natAbs).length : Nat) : Int) > 5))), .fp 25 4 2, .fp 26 4 3, .slot 27 (Dz q0), .slot 28 (VP.int .i64 (((dg BB q0.natAbs).length : Nat) : Int)), .slot 29 (VP.bool (decide ((((dg BB q0.natAbs).length : Nat) : Int) > 5))), .slot 30 (VP.bool (decide ((((dg BB q0.natAbs).length : Nat) : Int) > 5))), .slot 31 (VP.bool (decide ((((dg BB q0.natAbs).length : Nat) : Int) > 5))), .slot 35 (VP.bool true)] [] [(0, .slot 2 (VP.bool true))] [0, 1, 2, 3, 4, 5, 6, 7, 8, 9, 10, 11, 12, 13, 14, 15, 16, 17, 18, 19, 20, 21, 22, 23, 24, 25, 26, 27, 28] [] rfl rfl follow rfl ⟨
      .inl ⟨wants_plain rfl, does_move _ (.inr rfl) rfl rfl rfl rfl (ar_const (fun _ => rfl))⟩,
      trivial⟩ ?_
    refine nx_sub (fs' := [.rows 5 3 (fodd3_C_c p0 q0 x1 y1 x2 y2), .slot 6 (VP.int .i64 ((3 : Nat) : Int)), .slot 7 (VP.int .i64 ((0 : Nat) : Int)), .slot 8 (VP.bool (decide (((0 : Nat) : Int) < ((3 : Nat) : Int)))), .rp 9 5 0, .slot 10 (VP.agg [Bz p0, Dz p0, Bz q0, Dz q0]), .box 4 100 [Bz p0, Dz p0, Bz q0, Dz q0], .fp 11 4 0, .slot 12 (INT p0), .fp 13 4 2, .slot 14 (INT q0), .arr 15 69 2 [Bz p0, Dz p0, Bz q0, Dz q0], .slot 16 (VP.bool false), .slot 17 (VP.bool false), .fp 18 4 0, .fp 19 4 1, .slot 20 (Dz p0), .slot 21 (VP.int .i64 (((dg BB p0.natAbs).length : Nat) : Int)), .slot 22 (VP.bool (decide ((((dg BB p0.natAbs).length : Nat) : Int) > 5))), .slot 23 (VP.bool (decide ((((dg BB p0.natAbs).length : Nat) : Int) > 5))), .slot 24 (VP.bool (decide ((((dg BB p0.natAbs).length : Nat) : Int) > 5))), .fp 25 4 2, .fp 26 4 3, .slot 27 (Dz q0), .slot 28 (VP.int .i64 (((dg BB q0.natAbs).length : Nat) : Int)), .slot 29 (VP.bool (decide ((((dg BB q0.natAbs).length : Nat) : Int) > 5))), .slot 30 (VP.bool (decide ((((dg BB q0.natAbs).length : Nat) : Int) > 5))), .slot 31 (VP.bool (decide ((((dg BB q0.natAbs).length : Nat) : Int) > 5))), .slot 35 (VP.bool true), .slot 2 (VP.bool true)]) [0, 1, 2, 3, 4, 5, 6, 7, 8, 9, 10, 11, 12, 13, 14, 15, 16, 17, 18, 19, 20, 21, 22, 23, 24, 25, 26, 27, 28, 29] rfl ?_
    refine nx_then ?_
    refine t_ret ?_
    refine rt_block ?_
    refine rt_then ?_
    refine rt_then ?_
    refine rt_block ?_
    refine rt_then ?_
    exact rt_one rfl (res_tmp 29 rfl)
abbrev fodd3_D_c (p0 q0 : Int) (x1 y1 : Raw) (x2 y2 : Raw) : List VP := [Bz p0, Dz p0, Bz q0, Dz q0, VP.bool x1.1, VP.nums .u32 x1.2, VP.bool y1.1, VP.nums .u32 y1.2, VP.bool x2.1, VP.nums .u32 x2.2, VP.bool y2.1, VP.nums .u32 y2.2]
set_option maxRecDepth 100000 in
set_option maxHeartbeats 4000000 in
theorem fodd3_D (p0 q0 : Int) (hp0 : L p0 ≤ 5) (hq0 : L q0 ≤ 5) (hb0 : rightF p0 q0 = false) (x1 y1 : Raw) (x2 y2 : Raw) : Spec Try.prog 73 [isRows 3 (fodd3_D_c p0 q0 x1 y1 x2 y2)] (VP.bool true) := by
  refine spec_ofP (xs := [.rows 3 (fodd3_D_c p0 q0 x1 y1 x2 y2)]) 37 [4] Try.func73 rfl Try.ntmps73 rfl fun w0 => ?_
  refine t_seq ?_
  refine t_region (F := ⟨_, _, _, _⟩) [.rows 0 3 (fodd3_D_c p0 q0 x1 y1 x2 y2)] [] [(0, .slot 2 (VP.bool false))] [0] [] rfl rfl follow rfl ⟨
    .inl ⟨wants_plain rfl, does_move _ (.inr rfl) rfl rfl rfl rfl (ar_const (fun _ => rfl))⟩,
    trivial⟩ ?_
  refine nx_sub (fs' := [.rows 0 3 (fodd3_D_c p0 q0 x1 y1 x2 y2), .slot 2 (VP.bool false)]) [0, 1] rfl ?_
  refine nx_then ?_
  refine t_seq ?_
  refine t_seq ?_
  refine t_region (F := ⟨_, _, _, _⟩) [.rows 0 3 (fodd3_D_c p0 q0 x1 y1 x2 y2), .slot 2 (VP.bool false)] [] [(0, .rows 5 3 (fodd3_D_c p0 q0 x1 y1 x2 y2)), (1, .slot 6 (VP.int .i64 ((3 : Nat) : Int))), (2, .slot 7 (VP.int .i64 0))] [0, 1] [] rfl rfl follow rfl ⟨
    .inl ⟨wants_plain rfl, does_moveRows _ (.inl rfl) rfl rfl rfl rfl rfl (av_fs 0 rfl)⟩,
    .inl ⟨wants_plain rfl, does_lenRows _ _ rfl (by kernel_rfl) rfl rfl rfl rfl rfl (av_rs 0 rfl rfl)⟩,
    .inl ⟨wants_plain rfl, does_move _ (.inl rfl) rfl rfl rfl rfl (ar_const (fun _ => rfl))⟩,
    trivial⟩ ?_
  refine nx_sub (fs' := [.slot 2 (VP.bool false), .rows 5 3 (fodd3_D_c p0 q0 x1 y1 x2 y2), .slot 6 (VP.int .i64 ((3 : Nat) : Int)), .slot 7 (VP.int .i64 0)]) [1, 2, 3, 4] rfl ?_
  refine nx_then ?_
  refine t_block ?_
  refine t_loop (σ := {k : Nat // k ≤ 0}) (fun s => [.rows 5 3 (fodd3_D_c p0 q0 x1 y1 x2 y2), .slot 6 (VP.int .i64 ((3 : Nat) : Int)), .slot 7 (VP.int .i64 ((s.1 : Nat) : Int))]) (fun s => 3 - s.1) (⟨0, by decide⟩) [1, 2, 3] rfl ?_
  intro s
  obtain ⟨k, hk⟩ := s
  rcases (show k = 0 ∨ False by omega) with rfl | hF
  case inr => exact hF.elim
  case inl =>
    refine t_seq ?_
    refine t_region (F := ⟨_, _, _, _⟩) [.rows 5 3 (fodd3_D_c p0 q0 x1 y1 x2 y2), .slot 6 (VP.int .i64 ((3 : Nat) : Int)), .slot 7 (VP.int .i64 ((0 : Nat) : Int))] [] [(0, .slot 8 (VP.bool (decide (((0 : Nat) : Int) < ((3 : Nat) : Int)))))] [0, 1, 2] [] rfl rfl follow rfl ⟨
      .inl ⟨wants_plain rfl, does_cmp (m := ((0 : Nat) : Int)) (n := ((3 : Nat) : Int)) _ _ _ _ _ rfl rfl rfl rfl rfl rfl .i64 (ar_tmp (av_fs 2 rfl)) (ar_tmp (av_fs 1 rfl))⟩,
      trivial⟩ ?_
    refine nx_sub (fs' := [.rows 5 3 (fodd3_D_c p0 q0 x1 y1 x2 y2), .slot 6 (VP.int .i64 ((3 : Nat) : Int)), .slot 7 (VP.int .i64 ((0 : Nat) : Int)), .slot 8 (VP.bool (decide (((0 : Nat) : Int) < ((3 : Nat) : Int))))]) [0, 1, 2, 3] rfl ?_
    refine nx_then ?_
    refine t_seq ?_
    refine t_cond_te 3 rfl rfl ?_
    refine t_skip ?_
    refine nx_then ?_
    refine t_seq ?_
    refine t_block ?_
    refine t_seq ?_
    refine t_region (F := ⟨_, _, _, _⟩) [.rows 5 3 (fodd3_D_c p0 q0 x1 y1 x2 y2), .slot 6 (VP.int .i64 ((3 : Nat) : Int)), .slot 7 (VP.int .i64 ((0 : Nat) : Int)), .slot 8 (VP.bool (decide (((0 : Nat) : Int) < ((3 : Nat) : Int))))] [] [(0, .rp 9 5 0), (1, .slot 10 (VP.agg [Bz p0, Dz p0, Bz q0, Dz q0])), (2, .own 4 100 4), (3, .box 4 100 [Bz p0, Dz p0, Bz q0, Dz q0])] [0, 1, 2, 3] [] rfl rfl follow rfl ⟨
      .inl ⟨wants_plain rfl, does_indexRows (m := 0) (sz := 4) _ _ rfl Try.underlying178 (fun w => run_sizeAgg ty_agg_api_Frac w) rfl rfl rfl rfl rfl rfl (by decide) rfl (av_fs 0 rfl) (ar_tmp (av_fs 2 rfl))⟩,
      .inl ⟨wants_plain rfl, does_loadRows _ rfl ty_agg_api_Frac rfl rfl rfl rfl rfl rfl rfl (av_rs 0 rfl rfl) (av_fs 0 rfl)⟩,
      .inl ⟨wants_plain rfl, does_allocOwn [Bz 0, Dz 0, Bz 0, Dz 0] ty_zero_api_Frac rfl rfl rfl rfl rfl z_frac rfl⟩,
      .inl ⟨wants_plain rfl, does_storeNew 4 _ _ ty_agg_api_Frac rfl rfl rfl rfl rfl (pt_own (av_rs 2 rfl rfl)) (av_rs 2 rfl rfl) (ar_tmp (av_rs 1 rfl rfl))⟩,
      trivial⟩ ?_
    refine nx_sub (fs' := [.rows 5 3 (fodd3_D_c p0 q0 x1 y1 x2 y2), .slot 6 (VP.int .i64 ((3 : Nat) : Int)), .slot 7 (VP.int .i64 ((0 : Nat) : Int)), .slot 8 (VP.bool (decide (((0 : Nat) : Int) < ((3 : Nat) : Int)))), .rp 9 5 0, .slot 10 (VP.agg [Bz p0, Dz p0, Bz q0, Dz q0]), .box 4 100 [Bz p0, Dz p0, Bz q0, Dz q0]]) [0, 1, 2, 3, 4, 5, 7] rfl ?_
    refine nx_then ?_
    refine t_seq ?_
    refine t_region (F := ⟨_, _, _, _⟩) [.rows 5 3 (fodd3_D_c p0 q0 x1 y1 x2 y2), .slot 6 (VP.int .i64 ((3 : Nat) : Int)), .slot 7 (VP.int .i64 ((0 : Nat) : Int)), .slot 8 (VP.bool (decide (((0 : Nat) : Int) < ((3 : Nat) : Int)))), .rp 9 5 0, .slot 10 (VP.agg [Bz p0, Dz p0, Bz q0, Dz q0]), .box 4 100 [Bz p0, Dz p0, Bz q0, Dz q0]] [] [(0, .fp 11 4 0), (1, .slot 12 (INT p0)), (2, .fp 13 4 2), (3, .slot 14 (INT q0)), (4, .arr 15 69 2 [Bz p0, Dz p0, Bz q0, Dz q0]), (5, .slot 16 (VP.bool false)), (6, .slot 17 (VP.bool false)), (7, .fp 18 4 0), (8, .fp 19 4 1), (9, .slot 20 (Dz p0)), (10, .slot 21 (VP.int .i64 (((dg BB p0.natAbs).length : Nat) : Int))), (11, .slot 22 (VP.bool (decide ((((dg BB p0.natAbs).length : Nat) : Int) > 5)))), (12, .slot 23 (VP.bool (decide ((((dg BB p0.natAbs).length : Nat) : Int) > 5)))), (13, .slot 24 (VP.bool (decide ((((dg BB p0.natAbs).length : Nat) : Int) > 5)))), (14, .fp 25 4 2), (15, .fp 26 4 3), (16, .slot 27 (Dz q0)), (17, .slot 28 (VP.int .i64 (((dg BB q0.natAbs).length : Nat) : Int))), (18, .slot 29 (VP.bool (decide ((((dg BB q0.natAbs).length : Nat) : Int) > 5)))), (19, .slot 30 (VP.bool (decide ((((dg BB q0.natAbs).length : Nat) : Int) > 5)))), (20, .slot 31 (VP.bool (decide ((((dg BB q0.natAbs).length : Nat) : Int) > 5)))), (21, .slot 32 (VP.agg [Bz p0, Dz p0, Bz q0, Dz q0])), (22, .slot 33 (VP.bool (rightF p0 q0))), (23, .slot 34 (VP.bool true)), (24, .slot 35 (VP.bool true))] [0, 1, 2, 3, 4, 5, 6] [] rfl rfl follow rfl ⟨
      .inl ⟨wants_plain rfl, does_field _ _ _ 0 ty_f0_api_Frac rfl rfl rfl rfl rfl rfl rfl (pt_box (av_fs 6 rfl))⟩,
      .inl ⟨wants_plain rfl, does_loadAgg _ ty_agg_api_Int rfl rfl rfl rfl rfl rfl (pt_fp (av_rs 0 rfl rfl)) (av_fs 6 rfl)⟩,
      .inl ⟨wants_plain rfl, does_field _ _ _ 2 ty_f1_api_Frac rfl rfl rfl rfl rfl rfl rfl (pt_box (av_fs 6 rfl))⟩,
      .inl ⟨wants_plain rfl, does_loadAgg _ ty_agg_api_Int rfl rfl rfl rfl rfl rfl (pt_fp (av_rs 2 rfl rfl)) (av_fs 6 rfl)⟩,
      .inl ⟨wants_plain rfl, does_buildSlice (sz := 2) [Bz 0, Dz 0, Bz 0, Dz 0] ty_zero_api_Int (by kernel_rfl) (fun w => run_sizeAgg ty_agg_api_Int w) rfl rfl rfl rfl rfl rfl (by kernel_rfl) (fun w => by exact z_int_2 w) (.cons 0 [Bz p0, Dz p0] rfl rfl (ar_cells_agg (ar_tmp (av_rs 1 rfl rfl))) (.cons 2 [Bz q0, Dz q0] rfl rfl (ar_cells_agg (ar_tmp (av_rs 3 rfl rfl))) (.nil _)))⟩,
      .inl ⟨wants_plain rfl, does_call (s_even2 p0 q0 (lle hp0 (by decide)) (lle hq0 (by decide))) rfl hb_collator_collatorlaw01_Odd rfl rfl rfl rfl ⟨(ar_arr (av_rs 4 rfl rfl)), trivial⟩⟩,
      .inl ⟨wants_plain rfl, does_move _ (.inl rfl) rfl rfl rfl rfl (ar_tmp (av_rs 5 rfl rfl))⟩,
      .inl ⟨wants_guard false rfl rfl rfl (av_rs 6 rfl rfl), does_field _ _ _ 0 ty_f0_api_Frac rfl rfl rfl rfl rfl rfl rfl (pt_box (av_fs 6 rfl))⟩,
      .inl ⟨wants_guard false rfl rfl rfl (av_rs 6 rfl rfl), does_field _ _ _ 1 ty_f1_api_Int rfl rfl rfl rfl rfl rfl rfl (pt_fp (av_rs 7 rfl rfl))⟩,
      .inl ⟨wants_guard false rfl rfl rfl (av_rs 6 rfl rfl), does_loadOne _ ty_one___uint32 rfl rfl rfl rfl rfl rfl (pt_fp (av_rs 8 rfl rfl)) (av_fs 6 rfl)⟩,
      .inl ⟨wants_guard false rfl rfl rfl (av_rs 6 rfl rfl), does_len _ _ (by kernel_rfl) rfl rfl rfl rfl rfl (ar_tmp (av_rs 9 rfl rfl))⟩,
      .inl ⟨wants_guard false rfl rfl rfl (av_rs 6 rfl rfl), does_cmp (m := (((dg BB p0.natAbs).length : Nat) : Int)) (n := 5) _ _ _ _ _ rfl rfl rfl rfl rfl rfl .i64 (ar_tmp (av_rs 10 rfl rfl)) (ar_const (fun _ => rfl))⟩,
      .inl ⟨wants_plain rfl, does_pick false _ _ _ rfl rfl rfl rfl rfl (ar_tmp (av_rs 6 rfl rfl)) (ar_tmp (av_rs 11 rfl rfl))⟩,
      .inl ⟨wants_plain rfl, does_move _ (.inl rfl) rfl rfl rfl rfl (ar_tmp (av_rs 12 rfl rfl))⟩,
      .inl ⟨wants_guard false rfl rfl rfl (av_bool (gt5_no hp0) (av_rs 13 rfl rfl)), does_field _ _ _ 2 ty_f1_api_Frac rfl rfl rfl rfl rfl rfl rfl (pt_box (av_fs 6 rfl))⟩,
      .inl ⟨wants_guard false rfl rfl rfl (av_bool (gt5_no hp0) (av_rs 13 rfl rfl)), does_field _ _ _ 1 ty_f1_api_Int rfl rfl rfl rfl rfl rfl rfl (pt_fp (av_rs 14 rfl rfl))⟩,
      .inl ⟨wants_guard false rfl rfl rfl (av_bool (gt5_no hp0) (av_rs 13 rfl rfl)), does_loadOne _ ty_one___uint32 rfl rfl rfl rfl rfl rfl (pt_fp (av_rs 15 rfl rfl)) (av_fs 6 rfl)⟩,
      .inl ⟨wants_guard false rfl rfl rfl (av_bool (gt5_no hp0) (av_rs 13 rfl rfl)), does_len _ _ (by kernel_rfl) rfl rfl rfl rfl rfl (ar_tmp (av_rs 16 rfl rfl))⟩,
      .inl ⟨wants_guard false rfl rfl rfl (av_bool (gt5_no hp0) (av_rs 13 rfl rfl)), does_cmp (m := (((dg BB q0.natAbs).length : Nat) : Int)) (n := 5) _ _ _ _ _ rfl rfl rfl rfl rfl rfl .i64 (ar_tmp (av_rs 17 rfl rfl)) (ar_const (fun _ => rfl))⟩,
      .inl ⟨wants_plain rfl, does_pick false _ _ _ rfl rfl rfl rfl rfl (ar_tmp (av_bool (gt5_no hp0) (av_rs 13 rfl rfl))) (ar_tmp (av_rs 18 rfl rfl))⟩,
      .inl ⟨wants_plain rfl, does_move _ (.inl rfl) rfl rfl rfl rfl (ar_tmp (av_rs 19 rfl rfl))⟩,
      .inl ⟨wants_guard false rfl rfl rfl (av_bool (gt5_no hq0) (av_rs 20 rfl rfl)), does_loadAgg _ ty_agg_api_Frac rfl rfl rfl rfl rfl rfl (pt_box (av_fs 6 rfl)) (av_fs 6 rfl)⟩,
      .inl ⟨wants_guard false rfl rfl rfl (av_bool (gt5_no hq0) (av_rs 20 rfl rfl)), does_call (g_right p0 q0 (lle hp0 (by decide)) (lle hq0 (by decide))) rfl hb_collator_collatorref02_Right rfl rfl rfl rfl ⟨(ar_tmp (av_rs 21 rfl rfl)), trivial⟩⟩,
      .inl ⟨wants_guard false rfl rfl rfl (av_bool (gt5_no hq0) (av_rs 20 rfl rfl)), does_not false _ _ rfl rfl rfl rfl rfl (ar_tmp (av_bool hb0 (av_rs 22 rfl rfl)))⟩,
      .inl ⟨wants_plain rfl, does_pick false _ _ _ rfl rfl rfl rfl rfl (ar_tmp (av_bool (gt5_no hq0) (av_rs 20 rfl rfl))) (ar_tmp (av_rs 23 rfl rfl))⟩,
      trivial⟩ ?_
    refine nx_sub (fs' := [.rows 5 3 (fodd3_D_c p0 q0 x1 y1 x2 y2), .slot 6 (VP.int .i64 ((3 : Nat) : Int)), .slot 7 (VP.int .i64 ((0 : Nat) : Int)), .slot 8 (VP.bool (decide (((0 : Nat) : Int) < ((3 : Nat) : Int)))), .rp 9 5 0, .slot 10 (VP.agg [Bz p0, Dz p0, Bz q0, Dz q0]), .box 4 100 [Bz p0, Dz p0, Bz q0, Dz q0], .fp 11 4 0, .slot 12 (INT p0), .fp 13 4 2, .slot 14 (INT q0), .arr 15 69 2 [Bz p0, Dz p0, Bz q0, Dz q0], .slot 16 (VP.bool false), .slot 17 (VP.bool false), .fp 18 4 0, .fp 19 4 1, .slot 20 (Dz p0), .slot 21 (VP.int .i64 (((dg BB p0.natAbs).length : Nat) : Int)), .slot 22 (VP.bool (decide ((((dg BB p0.natAbs).length : Nat) : Int) > 5))), .slot 23 (VP.bool (decide ((((dg BB p0.natAbs).length : Nat) : Int) > 5))), .slot 24 (VP.bool (decide ((((dg BB p0.natAbs).length : Nat) : Int) > 5))), .fp 25 4 2, .fp 26 4 3, .slot 27 (Dz q0), .slot 28 (VP.int .i64 (((dg BB q0.natAbs).length : Nat) : Int)), .slot 29 (VP.bool (decide ((((dg BB q0.natAbs).length : Nat) : Int) > 5))), .slot 30 (VP.bool (decide ((((dg BB q0.natAbs).length : Nat) : Int) > 5))), .slot 31 (VP.bool (decide ((((dg BB q0.natAbs).length : Nat) : Int) > 5))), .slot 32 (VP.agg [Bz p0, Dz p0, Bz q0, Dz q0]), .slot 33 (VP.bool (rightF p0 q0)), .slot 34 (VP.bool true), .slot 35 (VP.bool true)]) [0, 1, 2, 3, 4, 5, 6, 7, 8, 9, 10, 11, 12, 13, 14, 15, 16, 17, 18, 19, 20, 21, 22, 23, 24, 25, 26, 27, 28, 29, 30, 31] rfl ?_
    refine nx_then ?_
    refine t_cond_t 31 rfl ?_
    refine t_seq ?_
    refine t_region (F := ⟨_, _, _, _⟩) [.rows 5 3 (fodd3_D_c p0 q0 x1 y1 x2 y2), .slot 6 (VP.int .i64 ((3 : Nat) : Int)), .slot 7 (VP.int .i64 ((0 : Nat) : Int)), .slot 8 (VP.bool (decide (((0 : Nat) : Int) < ((3 : Nat) : Int)))), .rp 9 5 0, .slot 10 (VP.agg [Bz p0, Dz p0, Bz q0, Dz q0]), .box 4 100 [Bz p0, Dz p0, Bz q0, Dz q0], .fp 11 4 0, .slot 12 (INT p0), .fp 13 4 2, .slot 14 (INT q0), .arr 15 69 2 [Bz p0, Dz p0, Bz q0, Dz q0], .slot 16 (VP.bool false), .slot 17 (VP.bool false), .fp 18 4 0, .fp 19 4 1, .slot 20 (Dz p0), .slot 21 (VP.int .i64 (((dg BB p0.natAbs).length : Nat) : Int)), .slot 22 (VP.bool (decide ((((dg BB p0.natAbs).length : Nat) : Int) > 5))), .slot 23 (VP.bool (decide ((((dg BB p0.natAbs).length : Nat) : Int) > 5))), .slot 24 (VP.bool (decide ((((dg BB p0.natAbs).length : Nat) : Int) > 5))), .fp 25 4 2, .fp 26 4 3, .slot 27 (Dz q0), .slot 28 (VP.int .i64 (((dg BB q0.natAbs).length : Nat) : Int)), .slot 29 (VP.bool (decide ((((dg BB q0.natAbs).length : Nat) : Int) > 5))), .slot 30 (VP.bool (decide ((((dg BB q0.natAbs).length : Nat) : Int) > 5))), .slot 31 (VP.bool (decide ((((dg BB q0.natAbs).length : Nat) : Int) > 5))), .slot 32 (VP.agg [Bz p0, Dz p0, Bz q0, Dz q0]), .slot 33 (VP.bool (rightF p0 q0)), .slot 34 (VP.bool true), .slot 35 (VP.bool true)] [] [(0, .slot 2 (VP.bool true))] [0, 1, 2, 3, 4, 5, 6, 7, 8, 9, 10, 11, 12, 13, 14, 15, 16, 17, 18, 19, 20, 21, 22, 23, 24, 25, 26, 27, 28, 29, 30, 31] [] rfl rfl follow rfl ⟨
      .inl ⟨wants_plain rfl, does_move _ (.inr rfl) rfl rfl rfl rfl (ar_const (fun _ => rfl))⟩,
      trivial⟩ ?_
    refine nx_sub (fs' := [.rows 5 3 (fodd3_D_c p0 q0 x1 y1 x2 y2), .slot 6 (VP.int .i64 ((3 : Nat) : Int)), .slot 7 (VP.int .i64 ((0 : Nat) : Int)), .slot 8 (VP.bool (decide (((0 : Nat) : Int) < ((3 : Nat) : Int)))), .rp 9 5 0, .slot 10 (VP.agg [Bz p0, Dz p0, Bz q0, Dz q0]), .box 4 100 [Bz p0, Dz p0, Bz q0, Dz q0], .fp 11 4 0, .slot 12 (INT p0), .fp 13 4 2, .slot 14 (INT q0), .arr 15 69 2 [Bz p0, Dz p0, Bz q0, Dz q0], .slot 16 (VP.bool false), .slot 17 (VP.bool false), .fp 18 4 0, .fp 19 4 1, .slot 20 (Dz p0), .slot 21 (VP.int .i64 (((dg BB p0.natAbs).length : Nat) : Int)), .slot 22 (VP.bool (decide ((((dg BB p0.natAbs).length : Nat) : Int) > 5))), .slot 23 (VP.bool (decide ((((dg BB p0.natAbs).length : Nat) : Int) > 5))), .slot 24 (VP.bool (decide ((((dg BB p0.natAbs).length : Nat) : Int) > 5))), .fp 25 4 2, .fp 26 4 3, .slot 27 (Dz q0), .slot 28 (VP.int .i64 (((dg BB q0.natAbs).length : Nat) : Int)), .slot 29 (VP.bool (decide ((((dg BB q0.natAbs).length : Nat) : Int) > 5))), .slot 30 (VP.bool (decide ((((dg BB q0.natAbs).length : Nat) : Int) > 5))), .slot 31 (VP.bool (decide ((((dg BB q0.natAbs).length : Nat) : Int) > 5))), .slot 32 (VP.agg [Bz p0, Dz p0, Bz q0, Dz q0]), .slot 33 (VP.bool (rightF p0 q0)), .slot 34 (VP.bool true), .slot 35 (VP.bool true), .slot 2 (VP.bool true)]) [0, 1, 2, 3, 4, 5, 6, 7, 8, 9, 10, 11, 12, 13, 14, 15, 16, 17, 18, 19, 20, 21, 22, 23, 24, 25, 26, 27, 28, 29, 30, 31, 32] rfl ?_
    refine nx_then ?_
    refine t_ret ?_
    refine rt_block ?_
    refine rt_then ?_
    refine rt_then ?_
    refine rt_block ?_
    refine rt_then ?_
    exact rt_one rfl (res_tmp 32 rfl)
abbrev fodd3_EA_c (p0 q0 : Int) (x1 y1 : Raw) (x2 y2 : Raw) : List VP := [Bz p0, Dz p0, Bz q0, Dz q0, VP.bool x1.1, VP.nums .u32 x1.2, VP.bool y1.1, VP.nums .u32 y1.2, VP.bool x2.1, VP.nums .u32 x2.2, VP.bool y2.1, VP.nums .u32 y2.2]
set_option maxRecDepth 100000 in
set_option maxHeartbeats 4000000 in
theorem fodd3_EA (p0 q0 : Int) (hp0 : L p0 ≤ 5) (hq0 : L q0 ≤ 5) (hb0 : rightF p0 q0 = true) (x1 y1 : Raw) (hx1 : x1.ok) (hy1 : y1.ok) (ho : [x1, y1].any oddP = true) (x2 y2 : Raw) : Spec Try.prog 73 [isRows 3 (fodd3_EA_c p0 q0 x1 y1 x2 y2)] (VP.bool true) := by
  refine spec_ofP (xs := [.rows 3 (fodd3_EA_c p0 q0 x1 y1 x2 y2)]) 37 [4] Try.func73 rfl Try.ntmps73 rfl fun w0 => ?_
  refine t_seq ?_
  refine t_region (F := ⟨_, _, _, _⟩) [.rows 0 3 (fodd3_EA_c p0 q0 x1 y1 x2 y2)] [] [(0, .slot 2 (VP.bool false))] [0] [] rfl rfl follow rfl ⟨
    .inl ⟨wants_plain rfl, does_move _ (.inr rfl) rfl rfl rfl rfl (ar_const (fun _ => rfl))⟩,
    trivial⟩ ?_
  refine nx_sub (fs' := [.rows 0 3 (fodd3_EA_c p0 q0 x1 y1 x2 y2), .slot 2 (VP.bool false)]) [0, 1] rfl ?_
  refine nx_then ?_
  refine t_seq ?_
  refine t_seq ?_
  refine t_region (F := ⟨_, _, _, _⟩) [.rows 0 3 (fodd3_EA_c p0 q0 x1 y1 x2 y2), .slot 2 (VP.bool false)] [] [(0, .rows 5 3 (fodd3_EA_c p0 q0 x1 y1 x2 y2)), (1, .slot 6 (VP.int .i64 ((3 : Nat) : Int))), (2, .slot 7 (VP.int .i64 0))] [0, 1] [] rfl rfl follow rfl ⟨
    .inl ⟨wants_plain rfl, does_moveRows _ (.inl rfl) rfl rfl rfl rfl rfl (av_fs 0 rfl)⟩,
    .inl ⟨wants_plain rfl, does_lenRows _ _ rfl (by kernel_rfl) rfl rfl rfl rfl rfl (av_rs 0 rfl rfl)⟩,
    .inl ⟨wants_plain rfl, does_move _ (.inl rfl) rfl rfl rfl rfl (ar_const (fun _ => rfl))⟩,
    trivial⟩ ?_
  refine nx_sub (fs' := [.slot 2 (VP.bool false), .rows 5 3 (fodd3_EA_c p0 q0 x1 y1 x2 y2), .slot 6 (VP.int .i64 ((3 : Nat) : Int)), .slot 7 (VP.int .i64 0)]) [1, 2, 3, 4] rfl ?_
  refine nx_then ?_
  refine t_block ?_
  refine t_loop (σ := {k : Nat // k ≤ 1}) (fun s => [.rows 5 3 (fodd3_EA_c p0 q0 x1 y1 x2 y2), .slot 6 (VP.int .i64 ((3 : Nat) : Int)), .slot 7 (VP.int .i64 ((s.1 : Nat) : Int))]) (fun s => 3 - s.1) (⟨0, by decide⟩) [1, 2, 3] rfl ?_
  intro s
  obtain ⟨k, hk⟩ := s
  have hc : k = 0 ∨ k = 1 := by omega
  rcases hc with rfl | rfl
  case inl =>
    refine t_seq ?_
    refine t_region (F := ⟨_, _, _, _⟩) [.rows 5 3 (fodd3_EA_c p0 q0 x1 y1 x2 y2), .slot 6 (VP.int .i64 ((3 : Nat) : Int)), .slot 7 (VP.int .i64 ((0 : Nat) : Int))] [] [(0, .slot 8 (VP.bool (decide (((0 : Nat) : Int) < ((3 : Nat) : Int)))))] [0, 1, 2] [] rfl rfl follow rfl ⟨
      .inl ⟨wants_plain rfl, does_cmp (m := ((0 : Nat) : Int)) (n := ((3 : Nat) : Int)) _ _ _ _ _ rfl rfl rfl rfl rfl rfl .i64 (ar_tmp (av_fs 2 rfl)) (ar_tmp (av_fs 1 rfl))⟩,
      trivial⟩ ?_
    refine nx_sub (fs' := [.rows 5 3 (fodd3_EA_c p0 q0 x1 y1 x2 y2), .slot 6 (VP.int .i64 ((3 : Nat) : Int)), .slot 7 (VP.int .i64 ((0 : Nat) : Int)), .slot 8 (VP.bool (decide (((0 : Nat) : Int) < ((3 : Nat) : Int))))]) [0, 1, 2, 3] rfl ?_
    refine nx_then ?_
    refine t_seq ?_
    refine t_cond_te 3 rfl rfl ?_
    refine t_skip ?_
    refine nx_then ?_
    refine t_seq ?_
    refine t_block ?_
    refine t_seq ?_
    refine t_region (F := ⟨_, _, _, _⟩) [.rows 5 3 (fodd3_EA_c p0 q0 x1 y1 x2 y2), .slot 6 (VP.int .i64 ((3 : Nat) : Int)), .slot 7 (VP.int .i64 ((0 : Nat) : Int)), .slot 8 (VP.bool (decide (((0 : Nat) : Int) < ((3 : Nat) : Int))))] [] [(0, .rp 9 5 0), (1, .slot 10 (VP.agg [Bz p0, Dz p0, Bz q0, Dz q0])), (2, .own 4 100 4), (3, .box 4 100 [Bz p0, Dz p0, Bz q0, Dz q0])] [0, 1, 2, 3] [] rfl rfl follow rfl ⟨
      .inl ⟨wants_plain rfl, does_indexRows (m := 0) (sz := 4) _ _ rfl Try.underlying178 (fun w => run_sizeAgg ty_agg_api_Frac w) rfl rfl rfl rfl rfl rfl (by decide) rfl (av_fs 0 rfl) (ar_tmp (av_fs 2 rfl))⟩,
      .inl ⟨wants_plain rfl, does_loadRows _ rfl ty_agg_api_Frac rfl rfl rfl rfl rfl rfl rfl (av_rs 0 rfl rfl) (av_fs 0 rfl)⟩,
      .inl ⟨wants_plain rfl, does_allocOwn [Bz 0, Dz 0, Bz 0, Dz 0] ty_zero_api_Frac rfl rfl rfl rfl rfl z_frac rfl⟩,
      .inl ⟨wants_plain rfl, does_storeNew 4 _ _ ty_agg_api_Frac rfl rfl rfl rfl rfl (pt_own (av_rs 2 rfl rfl)) (av_rs 2 rfl rfl) (ar_tmp (av_rs 1 rfl rfl))⟩,
      trivial⟩ ?_
    refine nx_sub (fs' := [.rows 5 3 (fodd3_EA_c p0 q0 x1 y1 x2 y2), .slot 6 (VP.int .i64 ((3 : Nat) : Int)), .slot 7 (VP.int .i64 ((0 : Nat) : Int)), .slot 8 (VP.bool (decide (((0 : Nat) : Int) < ((3 : Nat) : Int)))), .rp 9 5 0, .slot 10 (VP.agg [Bz p0, Dz p0, Bz q0, Dz q0]), .box 4 100 [Bz p0, Dz p0, Bz q0, Dz q0]]) [0, 1, 2, 3, 4, 5, 7] rfl ?_
    refine nx_then ?_
    refine t_seq ?_
    refine t_region (F := ⟨_, _, _, _⟩) [.rows 5 3 (fodd3_EA_c p0 q0 x1 y1 x2 y2), .slot 6 (VP.int .i64 ((3 : Nat) : Int)), .slot 7 (VP.int .i64 ((0 : Nat) : Int)), .slot 8 (VP.bool (decide (((0 : Nat) : Int) < ((3 : Nat) : Int)))), .rp 9 5 0, .slot 10 (VP.agg [Bz p0, Dz p0, Bz q0, Dz q0]), .box 4 100 [Bz p0, Dz p0, Bz q0, Dz q0]] [] [(0, .fp 11 4 0), (1, .slot 12 (INT p0)), (2, .fp 13 4 2), (3, .slot 14 (INT q0)), (4, .arr 15 69 2 [Bz p0, Dz p0, Bz q0, Dz q0]), (5, .slot 16 (VP.bool false)), (6, .slot 17 (VP.bool false)), (7, .fp 18 4 0), (8, .fp 19 4 1), (9, .slot 20 (Dz p0)), (10, .slot 21 (VP.int .i64 (((dg BB p0.natAbs).length : Nat) : Int))), (11, .slot 22 (VP.bool (decide ((((dg BB p0.natAbs).length : Nat) : Int) > 5)))), (12, .slot 23 (VP.bool (decide ((((dg BB p0.natAbs).length : Nat) : Int) > 5)))), (13, .slot 24 (VP.bool (decide ((((dg BB p0.natAbs).length : Nat) : Int) > 5)))), (14, .fp 25 4 2), (15, .fp 26 4 3), (16, .slot 27 (Dz q0)), (17, .slot 28 (VP.int .i64 (((dg BB q0.natAbs).length : Nat) : Int))), (18, .slot 29 (VP.bool (decide ((((dg BB q0.natAbs).length : Nat) : Int) > 5)))), (19, .slot 30 (VP.bool (decide ((((dg BB q0.natAbs).length : Nat) : Int) > 5)))), (20, .slot 31 (VP.bool (decide ((((dg BB q0.natAbs).length : Nat) : Int) > 5)))), (21, .slot 32 (VP.agg [Bz p0, Dz p0, Bz q0, Dz q0])), (22, .slot 33 (VP.bool (rightF p0 q0))), (23, .slot 34 (VP.bool false)), (24, .slot 35 (VP.bool false))] [0, 1, 2, 3, 4, 5, 6] [] rfl rfl follow rfl ⟨
      .inl ⟨wants_plain rfl, does_field _ _ _ 0 ty_f0_api_Frac rfl rfl rfl rfl rfl rfl rfl (pt_box (av_fs 6 rfl))⟩,
      .inl ⟨wants_plain rfl, does_loadAgg _ ty_agg_api_Int rfl rfl rfl rfl rfl rfl (pt_fp (av_rs 0 rfl rfl)) (av_fs 6 rfl)⟩,
      .inl ⟨wants_plain rfl, does_field _ _ _ 2 ty_f1_api_Frac rfl rfl rfl rfl rfl rfl rfl (pt_box (av_fs 6 rfl))⟩,
      .inl ⟨wants_plain rfl, does_loadAgg _ ty_agg_api_Int rfl rfl rfl rfl rfl rfl (pt_fp (av_rs 2 rfl rfl)) (av_fs 6 rfl)⟩,
      .inl ⟨wants_plain rfl, does_buildSlice (sz := 2) [Bz 0, Dz 0, Bz 0, Dz 0] ty_zero_api_Int (by kernel_rfl) (fun w => run_sizeAgg ty_agg_api_Int w) rfl rfl rfl rfl rfl rfl (by kernel_rfl) (fun w => by exact z_int_2 w) (.cons 0 [Bz p0, Dz p0] rfl rfl (ar_cells_agg (ar_tmp (av_rs 1 rfl rfl))) (.cons 2 [Bz q0, Dz q0] rfl rfl (ar_cells_agg (ar_tmp (av_rs 3 rfl rfl))) (.nil _)))⟩,
      .inl ⟨wants_plain rfl, does_call (s_even2 p0 q0 (lle hp0 (by decide)) (lle hq0 (by decide))) rfl hb_collator_collatorlaw01_Odd rfl rfl rfl rfl ⟨(ar_arr (av_rs 4 rfl rfl)), trivial⟩⟩,
      .inl ⟨wants_plain rfl, does_move _ (.inl rfl) rfl rfl rfl rfl (ar_tmp (av_rs 5 rfl rfl))⟩,
      .inl ⟨wants_guard false rfl rfl rfl (av_rs 6 rfl rfl), does_field _ _ _ 0 ty_f0_api_Frac rfl rfl rfl rfl rfl rfl rfl (pt_box (av_fs 6 rfl))⟩,
      .inl ⟨wants_guard false rfl rfl rfl (av_rs 6 rfl rfl), does_field _ _ _ 1 ty_f1_api_Int rfl rfl rfl rfl rfl rfl rfl (pt_fp (av_rs 7 rfl rfl))⟩,
      .inl ⟨wants_guard false rfl rfl rfl (av_rs 6 rfl rfl), does_loadOne _ ty_one___uint32 rfl rfl rfl rfl rfl rfl (pt_fp (av_rs 8 rfl rfl)) (av_fs 6 rfl)⟩,
      .inl ⟨wants_guard false rfl rfl rfl (av_rs 6 rfl rfl), does_len _ _ (by kernel_rfl) rfl rfl rfl rfl rfl (ar_tmp (av_rs 9 rfl rfl))⟩,
      .inl ⟨wants_guard false rfl rfl rfl (av_rs 6 rfl rfl), does_cmp (m := (((dg BB p0.natAbs).length : Nat) : Int)) (n := 5) _ _ _ _ _ rfl rfl rfl rfl rfl rfl .i64 (ar_tmp (av_rs 10 rfl rfl)) (ar_const (fun _ => rfl))⟩,
      .inl ⟨wants_plain rfl, does_pick false _ _ _ rfl rfl rfl rfl rfl (ar_tmp (av_rs 6 rfl rfl)) (ar_tmp (av_rs 11 rfl rfl))⟩,
      .inl ⟨wants_plain rfl, does_move _ (.inl rfl) rfl rfl rfl rfl (ar_tmp (av_rs 12 rfl rfl))⟩,
      .inl ⟨wants_guard false rfl rfl rfl (av_bool (gt5_no hp0) (av_rs 13 rfl rfl)), does_field _ _ _ 2 ty_f1_api_Frac rfl rfl rfl rfl rfl rfl rfl (pt_box (av_fs 6 rfl))⟩,
      .inl ⟨wants_guard false rfl rfl rfl (av_bool (gt5_no hp0) (av_rs 13 rfl rfl)), does_field _ _ _ 1 ty_f1_api_Int rfl rfl rfl rfl rfl rfl rfl (pt_fp (av_rs 14 rfl rfl))⟩,
      .inl ⟨wants_guard false rfl rfl rfl (av_bool (gt5_no hp0) (av_rs 13 rfl rfl)), does_loadOne _ ty_one___uint32 rfl rfl rfl rfl rfl rfl (pt_fp (av_rs 15 rfl rfl)) (av_fs 6 rfl)⟩,
      .inl ⟨wants_guard false rfl rfl rfl (av_bool (gt5_no hp0) (av_rs 13 rfl rfl)), does_len _ _ (by kernel_rfl) rfl rfl rfl rfl rfl (ar_tmp (av_rs 16 rfl rfl))⟩,
      .inl ⟨wants_guard false rfl rfl rfl (av_bool (gt5_no hp0) (av_rs 13 rfl rfl)), does_cmp (m := (((dg BB q0.natAbs).length : Nat) : Int)) (n := 5) _ _ _ _ _ rfl rfl rfl rfl rfl rfl .i64 (ar_tmp (av_rs 17 rfl rfl)) (ar_const (fun _ => rfl))⟩,
      .inl ⟨wants_plain rfl, does_pick false _ _ _ rfl rfl rfl rfl rfl (ar_tmp (av_bool (gt5_no hp0) (av_rs 13 rfl rfl))) (ar_tmp (av_rs 18 rfl rfl))⟩,
      .inl ⟨wants_plain rfl, does_move _ (.inl rfl) rfl rfl rfl rfl (ar_tmp (av_rs 19 rfl rfl))⟩,
      .inl ⟨wants_guard false rfl rfl rfl (av_bool (gt5_no hq0) (av_rs 20 rfl rfl)), does_loadAgg _ ty_agg_api_Frac rfl rfl rfl rfl rfl rfl (pt_box (av_fs 6 rfl)) (av_fs 6 rfl)⟩,
      .inl ⟨wants_guard false rfl rfl rfl (av_bool (gt5_no hq0) (av_rs 20 rfl rfl)), does_call (g_right p0 q0 (lle hp0 (by decide)) (lle hq0 (by decide))) rfl hb_collator_collatorref02_Right rfl rfl rfl rfl ⟨(ar_tmp (av_rs 21 rfl rfl)), trivial⟩⟩,
      .inl ⟨wants_guard false rfl rfl rfl (av_bool (gt5_no hq0) (av_rs 20 rfl rfl)), does_not true _ _ rfl rfl rfl rfl rfl (ar_tmp (av_bool hb0 (av_rs 22 rfl rfl)))⟩,
      .inl ⟨wants_plain rfl, does_pick false _ _ _ rfl rfl rfl rfl rfl (ar_tmp (av_bool (gt5_no hq0) (av_rs 20 rfl rfl))) (ar_tmp (av_rs 23 rfl rfl))⟩,
      trivial⟩ ?_
    refine nx_sub (fs' := [.rows 5 3 (fodd3_EA_c p0 q0 x1 y1 x2 y2), .slot 6 (VP.int .i64 ((3 : Nat) : Int)), .slot 7 (VP.int .i64 ((0 : Nat) : Int)), .slot 8 (VP.bool (decide (((0 : Nat) : Int) < ((3 : Nat) : Int)))), .rp 9 5 0, .slot 10 (VP.agg [Bz p0, Dz p0, Bz q0, Dz q0]), .box 4 100 [Bz p0, Dz p0, Bz q0, Dz q0], .fp 11 4 0, .slot 12 (INT p0), .fp 13 4 2, .slot 14 (INT q0), .arr 15 69 2 [Bz p0, Dz p0, Bz q0, Dz q0], .slot 16 (VP.bool false), .slot 17 (VP.bool false), .fp 18 4 0, .fp 19 4 1, .slot 20 (Dz p0), .slot 21 (VP.int .i64 (((dg BB p0.natAbs).length : Nat) : Int)), .slot 22 (VP.bool (decide ((((dg BB p0.natAbs).length : Nat) : Int) > 5))), .slot 23 (VP.bool (decide ((((dg BB p0.natAbs).length : Nat) : Int) > 5))), .slot 24 (VP.bool (decide ((((dg BB p0.natAbs).length : Nat) : Int) > 5))), .fp 25 4 2, .fp 26 4 3, .slot 27 (Dz q0), .slot 28 (VP.int .i64 (((dg BB q0.natAbs).length : Nat) : Int)), .slot 29 (VP.bool (decide ((((dg BB q0.natAbs).length : Nat) : Int) > 5))), .slot 30 (VP.bool (decide ((((dg BB q0.natAbs).length : Nat) : Int) > 5))), .slot 31 (VP.bool (decide ((((dg BB q0.natAbs).length : Nat) : Int) > 5))), .slot 32 (VP.agg [Bz p0, Dz p0, Bz q0, Dz q0]), .slot 33 (VP.bool (rightF p0 q0)), .slot 34 (VP.bool false), .slot 35 (VP.bool false)]) [0, 1, 2, 3, 4, 5, 6, 7, 8, 9, 10, 11, 12, 13, 14, 15, 16, 17, 18, 19, 20, 21, 22, 23, 24, 25, 26, 27, 28, 29, 30, 31] rfl ?_
    refine nx_then ?_
    refine t_cond_f 31 rfl ?_
    refine t_skip ?_
    refine nx_block ?_
    refine nx_then ?_
    refine t_region (F := ⟨_, _, _, _⟩) [.rows 5 3 (fodd3_EA_c p0 q0 x1 y1 x2 y2), .slot 6 (VP.int .i64 ((3 : Nat) : Int)), .slot 8 (VP.bool (decide (((0 : Nat) : Int) < ((3 : Nat) : Int)))), .rp 9 5 0, .slot 10 (VP.agg [Bz p0, Dz p0, Bz q0, Dz q0]), .box 4 100 [Bz p0, Dz p0, Bz q0, Dz q0], .fp 11 4 0, .slot 12 (INT p0), .fp 13 4 2, .slot 14 (INT q0), .arr 15 69 2 [Bz p0, Dz p0, Bz q0, Dz q0], .slot 16 (VP.bool false), .slot 17 (VP.bool false), .fp 18 4 0, .fp 19 4 1, .slot 20 (Dz p0), .slot 21 (VP.int .i64 (((dg BB p0.natAbs).length : Nat) : Int)), .slot 22 (VP.bool (decide ((((dg BB p0.natAbs).length : Nat) : Int) > 5))), .slot 23 (VP.bool (decide ((((dg BB p0.natAbs).length : Nat) : Int) > 5))), .slot 24 (VP.bool (decide ((((dg BB p0.natAbs).length : Nat) : Int) > 5))), .fp 25 4 2, .fp 26 4 3, .slot 27 (Dz q0), .slot 28 (VP.int .i64 (((dg BB q0.natAbs).length : Nat) : Int)), .slot 29 (VP.bool (decide ((((dg BB q0.natAbs).length : Nat) : Int) > 5))), .slot 30 (VP.bool (decide ((((dg BB q0.natAbs).length : Nat) : Int) > 5))), .slot 31 (VP.bool (decide ((((dg BB q0.natAbs).length : Nat) : Int) > 5))), .slot 32 (VP.agg [Bz p0, Dz p0, Bz q0, Dz q0]), .slot 33 (VP.bool (rightF p0 q0)), .slot 34 (VP.bool false), .slot 35 (VP.bool false)] [(1, .slot 7 (VP.int .i64 ((0 : Nat) : Int)))] [(0, .slot 36 (VP.int .i64 ((1 : Nat) : Int))), (1, .slot 7 (VP.int .i64 ((1 : Nat) : Int)))] [0, 1, 3, 4, 5, 6, 7, 8, 9, 10, 11, 12, 13, 14, 15, 16, 17, 18, 19, 20, 21, 22, 23, 24, 25, 26, 27, 28, 29, 30, 31] [2] rfl rfl follow rfl ⟨
      .inl ⟨wants_plain rfl, does_addInt (m := ((0 : Nat) : Int)) (n := 1) _ _ _ _ rfl rfl rfl rfl rfl (by omega) (ar_tmp (av_os 0 rfl rfl)) (ar_const (fun _ => rfl))⟩,
      .inl ⟨wants_plain rfl, does_move _ (.inl rfl) rfl rfl rfl rfl (ar_tmp (av_rs 0 rfl rfl))⟩,
      trivial⟩ ?_
    refine nx_sub (fs' := [.rows 5 3 (fodd3_EA_c p0 q0 x1 y1 x2 y2), .slot 6 (VP.int .i64 ((3 : Nat) : Int)), .slot 8 (VP.bool (decide (((0 : Nat) : Int) < ((3 : Nat) : Int)))), .rp 9 5 0, .slot 10 (VP.agg [Bz p0, Dz p0, Bz q0, Dz q0]), .box 4 100 [Bz p0, Dz p0, Bz q0, Dz q0], .fp 11 4 0, .slot 12 (INT p0), .fp 13 4 2, .slot 14 (INT q0), .arr 15 69 2 [Bz p0, Dz p0, Bz q0, Dz q0], .slot 16 (VP.bool false), .slot 17 (VP.bool false), .fp 18 4 0, .fp 19 4 1, .slot 20 (Dz p0), .slot 21 (VP.int .i64 (((dg BB p0.natAbs).length : Nat) : Int)), .slot 22 (VP.bool (decide ((((dg BB p0.natAbs).length : Nat) : Int) > 5))), .slot 23 (VP.bool (decide ((((dg BB p0.natAbs).length : Nat) : Int) > 5))), .slot 24 (VP.bool (decide ((((dg BB p0.natAbs).length : Nat) : Int) > 5))), .fp 25 4 2, .fp 26 4 3, .slot 27 (Dz q0), .slot 28 (VP.int .i64 (((dg BB q0.natAbs).length : Nat) : Int)), .slot 29 (VP.bool (decide ((((dg BB q0.natAbs).length : Nat) : Int) > 5))), .slot 30 (VP.bool (decide ((((dg BB q0.natAbs).length : Nat) : Int) > 5))), .slot 31 (VP.bool (decide ((((dg BB q0.natAbs).length : Nat) : Int) > 5))), .slot 32 (VP.agg [Bz p0, Dz p0, Bz q0, Dz q0]), .slot 33 (VP.bool (rightF p0 q0)), .slot 34 (VP.bool false), .slot 35 (VP.bool false), .slot 36 (VP.int .i64 ((1 : Nat) : Int)), .slot 7 (VP.int .i64 ((1 : Nat) : Int))]) [0, 1, 2, 3, 4, 5, 6, 7, 8, 9, 10, 11, 12, 13, 14, 15, 16, 17, 18, 19, 20, 21, 22, 23, 24, 25, 26, 27, 28, 29, 30, 31, 32] rfl ?_
    exact nx_round ⟨1, by decide⟩ (by show 3 - 1 < 3 - 0; decide) [0, 1, 32] rfl
  case inr =>
    refine t_seq ?_
    refine t_region (F := ⟨_, _, _, _⟩) [.rows 5 3 (fodd3_EA_c p0 q0 x1 y1 x2 y2), .slot 6 (VP.int .i64 ((3 : Nat) : Int)), .slot 7 (VP.int .i64 ((1 : Nat) : Int))] [] [(0, .slot 8 (VP.bool (decide (((1 : Nat) : Int) < ((3 : Nat) : Int)))))] [0, 1, 2] [] rfl rfl follow rfl ⟨
      .inl ⟨wants_plain rfl, does_cmp (m := ((1 : Nat) : Int)) (n := ((3 : Nat) : Int)) _ _ _ _ _ rfl rfl rfl rfl rfl rfl .i64 (ar_tmp (av_fs 2 rfl)) (ar_tmp (av_fs 1 rfl))⟩,
      trivial⟩ ?_
    refine nx_sub (fs' := [.rows 5 3 (fodd3_EA_c p0 q0 x1 y1 x2 y2), .slot 6 (VP.int .i64 ((3 : Nat) : Int)), .slot 7 (VP.int .i64 ((1 : Nat) : Int)), .slot 8 (VP.bool (decide (((1 : Nat) : Int) < ((3 : Nat) : Int))))]) [0, 1, 2, 3] rfl ?_
    refine nx_then ?_
    refine t_seq ?_
    refine t_cond_te 3 rfl rfl ?_
    refine t_skip ?_
    refine nx_then ?_
    refine t_seq ?_
    refine t_block ?_
    refine t_seq ?_
    refine t_region (F := ⟨_, _, _, _⟩) [.rows 5 3 (fodd3_EA_c p0 q0 x1 y1 x2 y2), .slot 6 (VP.int .i64 ((3 : Nat) : Int)), .slot 7 (VP.int .i64 ((1 : Nat) : Int)), .slot 8 (VP.bool (decide (((1 : Nat) : Int) < ((3 : Nat) : Int))))] [] [(0, .rp 9 5 4), (1, .slot 10 (VP.agg [VP.bool x1.1, VP.nums .u32 x1.2, VP.bool y1.1, VP.nums .u32 y1.2])), (2, .own 4 100 4), (3, .box 4 100 [VP.bool x1.1, VP.nums .u32 x1.2, VP.bool y1.1, VP.nums .u32 y1.2])] [0, 1, 2, 3] [] rfl rfl follow rfl ⟨
      .inl ⟨wants_plain rfl, does_indexRows (m := 1) (sz := 4) _ _ rfl Try.underlying178 (fun w => run_sizeAgg ty_agg_api_Frac w) rfl rfl rfl rfl rfl rfl (by decide) rfl (av_fs 0 rfl) (ar_tmp (av_fs 2 rfl))⟩,
      .inl ⟨wants_plain rfl, does_loadRows _ rfl ty_agg_api_Frac rfl rfl rfl rfl rfl rfl rfl (av_rs 0 rfl rfl) (av_fs 0 rfl)⟩,
      .inl ⟨wants_plain rfl, does_allocOwn [Bz 0, Dz 0, Bz 0, Dz 0] ty_zero_api_Frac rfl rfl rfl rfl rfl z_frac rfl⟩,
      .inl ⟨wants_plain rfl, does_storeNew 4 _ _ ty_agg_api_Frac rfl rfl rfl rfl rfl (pt_own (av_rs 2 rfl rfl)) (av_rs 2 rfl rfl) (ar_tmp (av_rs 1 rfl rfl))⟩,
      trivial⟩ ?_
    refine nx_sub (fs' := [.rows 5 3 (fodd3_EA_c p0 q0 x1 y1 x2 y2), .slot 6 (VP.int .i64 ((3 : Nat) : Int)), .slot 7 (VP.int .i64 ((1 : Nat) : Int)), .slot 8 (VP.bool (decide (((1 : Nat) : Int) < ((3 : Nat) : Int)))), .rp 9 5 4, .slot 10 (VP.agg [VP.bool x1.1, VP.nums .u32 x1.2, VP.bool y1.1, VP.nums .u32 y1.2]), .box 4 100 [VP.bool x1.1, VP.nums .u32 x1.2, VP.bool y1.1, VP.nums .u32 y1.2]]) [0, 1, 2, 3, 4, 5, 7] rfl ?_
    refine nx_then ?_
    refine t_seq ?_
    refine t_region (F := ⟨_, _, _, _⟩) [.rows 5 3 (fodd3_EA_c p0 q0 x1 y1 x2 y2), .slot 6 (VP.int .i64 ((3 : Nat) : Int)), .slot 7 (VP.int .i64 ((1 : Nat) : Int)), .slot 8 (VP.bool (decide (((1 : Nat) : Int) < ((3 : Nat) : Int)))), .rp 9 5 4, .slot 10 (VP.agg [VP.bool x1.1, VP.nums .u32 x1.2, VP.bool y1.1, VP.nums .u32 y1.2]), .box 4 100 [VP.bool x1.1, VP.nums .u32 x1.2, VP.bool y1.1, VP.nums .u32 y1.2]] [] [(0, .fp 11 4 0), (1, .slot 12 (VP.agg [VP.bool x1.1, VP.nums .u32 x1.2])), (2, .fp 13 4 2), (3, .slot 14 (VP.agg [VP.bool y1.1, VP.nums .u32 y1.2])), (4, .arr 15 69 2 [VP.bool x1.1, VP.nums .u32 x1.2, VP.bool y1.1, VP.nums .u32 y1.2]), (5, .slot 16 (VP.bool true)), (6, .slot 17 (VP.bool true)), (12, .slot 23 (VP.bool true)), (13, .slot 24 (VP.bool true)), (19, .slot 30 (VP.bool true)), (20, .slot 31 (VP.bool true)), (24, .slot 35 (VP.bool true))] [0, 1, 2, 3, 4, 5, 6] [] rfl rfl follow rfl ⟨
      .inl ⟨wants_plain rfl, does_field _ _ _ 0 ty_f0_api_Frac rfl rfl rfl rfl rfl rfl rfl (pt_box (av_fs 6 rfl))⟩,
      .inl ⟨wants_plain rfl, does_loadAgg _ ty_agg_api_Int rfl rfl rfl rfl rfl rfl (pt_fp (av_rs 0 rfl rfl)) (av_fs 6 rfl)⟩,
      .inl ⟨wants_plain rfl, does_field _ _ _ 2 ty_f1_api_Frac rfl rfl rfl rfl rfl rfl rfl (pt_box (av_fs 6 rfl))⟩,
      .inl ⟨wants_plain rfl, does_loadAgg _ ty_agg_api_Int rfl rfl rfl rfl rfl rfl (pt_fp (av_rs 2 rfl rfl)) (av_fs 6 rfl)⟩,
      .inl ⟨wants_plain rfl, does_buildSlice (sz := 2) [Bz 0, Dz 0, Bz 0, Dz 0] ty_zero_api_Int (by kernel_rfl) (fun w => run_sizeAgg ty_agg_api_Int w) rfl rfl rfl rfl rfl rfl (by kernel_rfl) (fun w => by exact z_int_2 w) (.cons 0 [VP.bool x1.1, VP.nums .u32 x1.2] rfl rfl (ar_cells_agg (ar_tmp (av_rs 1 rfl rfl))) (.cons 2 [VP.bool y1.1, VP.nums .u32 y1.2] rfl rfl (ar_cells_agg (ar_tmp (av_rs 3 rfl rfl))) (.nil _)))⟩,
      .inl ⟨wants_plain rfl, does_call (s_odd2 x1 y1 hx1 hy1 ho) rfl hb_collator_collatorlaw01_Odd rfl rfl rfl rfl ⟨(ar_arr (av_rs 4 rfl rfl)), trivial⟩⟩,
      .inl ⟨wants_plain rfl, does_move _ (.inl rfl) rfl rfl rfl rfl (ar_tmp (av_rs 5 rfl rfl))⟩,
      .inr (skips_guard true rfl rfl rfl (av_rs 6 rfl rfl) rfl rfl rfl rfl),
      .inr (skips_guard true rfl rfl rfl (av_rs 6 rfl rfl) rfl rfl rfl rfl),
      .inr (skips_guard true rfl rfl rfl (av_rs 6 rfl rfl) rfl rfl rfl rfl),
      .inr (skips_guard true rfl rfl rfl (av_rs 6 rfl rfl) rfl rfl rfl rfl),
      .inr (skips_guard true rfl rfl rfl (av_rs 6 rfl rfl) rfl rfl rfl rfl),
      .inl ⟨wants_plain rfl, does_pick true _ _ _ rfl rfl rfl rfl rfl (ar_tmp (av_rs 6 rfl rfl)) (ar_const (fun _ => rfl))⟩,
      .inl ⟨wants_plain rfl, does_move _ (.inl rfl) rfl rfl rfl rfl (ar_tmp (av_rs 7 rfl rfl))⟩,
      .inr (skips_guard true rfl rfl rfl (av_rs 8 rfl rfl) rfl rfl rfl rfl),
      .inr (skips_guard true rfl rfl rfl (av_rs 8 rfl rfl) rfl rfl rfl rfl),
      .inr (skips_guard true rfl rfl rfl (av_rs 8 rfl rfl) rfl rfl rfl rfl),
      .inr (skips_guard true rfl rfl rfl (av_rs 8 rfl rfl) rfl rfl rfl rfl),
      .inr (skips_guard true rfl rfl rfl (av_rs 8 rfl rfl) rfl rfl rfl rfl),
      .inl ⟨wants_plain rfl, does_pick true _ _ _ rfl rfl rfl rfl rfl (ar_tmp (av_rs 8 rfl rfl)) (ar_const (fun _ => rfl))⟩,
      .inl ⟨wants_plain rfl, does_move _ (.inl rfl) rfl rfl rfl rfl (ar_tmp (av_rs 9 rfl rfl))⟩,
      .inr (skips_guard true rfl rfl rfl (av_rs 10 rfl rfl) rfl rfl rfl rfl),
      .inr (skips_guard true rfl rfl rfl (av_rs 10 rfl rfl) rfl rfl rfl rfl),
      .inr (skips_guard true rfl rfl rfl (av_rs 10 rfl rfl) rfl rfl rfl rfl),
      .inl ⟨wants_plain rfl, does_pick true _ _ _ rfl rfl rfl rfl rfl (ar_tmp (av_rs 10 rfl rfl)) (ar_const (fun _ => rfl))⟩,
      trivial⟩ ?_
    refine nx_sub (fs' := [.rows 5 3 (fodd3_EA_c p0 q0 x1 y1 x2 y2), .slot 6 (VP.int .i64 ((3 : Nat) : Int)), .slot 7 (VP.int .i64 ((1 : Nat) : Int)), .slot 8 (VP.bool (decide (((1 : Nat) : Int) < ((3 : Nat) : Int)))), .rp 9 5 4, .slot 10 (VP.agg [VP.bool x1.1, VP.nums .u32 x1.2, VP.bool y1.1, VP.nums .u32 y1.2]), .box 4 100 [VP.bool x1.1, VP.nums .u32 x1.2, VP.bool y1.1, VP.nums .u32 y1.2], .fp 11 4 0, .slot 12 (VP.agg [VP.bool x1.1, VP.nums .u32 x1.2]), .fp 13 4 2, .slot 14 (VP.agg [VP.bool y1.1, VP.nums .u32 y1.2]), .arr 15 69 2 [VP.bool x1.1, VP.nums .u32 x1.2, VP.bool y1.1, VP.nums .u32 y1.2], .slot 16 (VP.bool true), .slot 17 (VP.bool true), .slot 23 (VP.bool true), .slot 24 (VP.bool true), .slot 30 (VP.bool true), .slot 31 (VP.bool true), .slot 35 (VP.bool true)]) [0, 1, 2, 3, 4, 5, 6, 7, 8, 9, 10, 11, 12, 13, 14, 15, 16, 17, 18] rfl ?_
    refine nx_then ?_
    refine t_cond_t 18 rfl ?_
    refine t_seq ?_
    refine t_region (F := ⟨_, _, _, _⟩) [.rows 5 3 (fodd3_EA_c p0 q0 x1 y1 x2 y2), .slot 6 (VP.int .i64 ((3 : Nat) : Int)), .slot 7 (VP.int .i64 ((1 : Nat) : Int)), .slot 8 (VP.bool (decide (((1 : Nat) : Int) < ((3 : Nat) : Int)))), .rp 9 5 4, .slot 10 (VP.agg [VP.bool x1.1, VP.nums .u32 x1.2, VP.bool y1.1, VP.nums .u32 y1.2]), .box 4 100 [VP.bool x1.1, VP.nums .u32 x1.2, VP.bool y1.1, VP.nums .u32 y1.2], .fp 11 4 0, .slot 12 (VP.agg [VP.bool x1.1, VP.nums .u32 x1.2]), .fp 13 4 2, .slot 14 (VP.agg [VP.bool y1.1, VP.nums .u32 y1.2]), .arr 15 69 2 [VP.bool x1.1, VP.nums .u32 x1.2, VP.bool y1.1, VP.nums .u32 y1.2], .slot 16 (VP.bool true), .slot 17 (VP.bool true), .slot 23 (VP.bool true), .slot 24 (VP.bool true), .slot 30 (VP.bool true), .slot 31 (VP.bool true), .slot 35 (VP.bool true)] [] [(0, .slot 2 (VP.bool true))] [0, 1, 2, 3, 4, 5, 6, 7, 8, 9, 10, 11, 12, 13, 14, 15, 16, 17, 18] [] rfl rfl follow rfl ⟨
      .inl ⟨wants_plain rfl, does_move _ (.inr rfl) rfl rfl rfl rfl (ar_const (fun _ => rfl))⟩,
      trivial⟩ ?_
    refine nx_sub (fs' := [.rows 5 3 (fodd3_EA_c p0 q0 x1 y1 x2 y2), .slot 6 (VP.int .i64 ((3 : Nat) : Int)), .slot 7 (VP.int .i64 ((1 : Nat) : Int)), .slot 8 (VP.bool (decide (((1 : Nat) : Int) < ((3 : Nat) : Int)))), .rp 9 5 4, .slot 10 (VP.agg [VP.bool x1.1, VP.nums .u32 x1.2, VP.bool y1.1, VP.nums .u32 y1.2]), .box 4 100 [VP.bool x1.1, VP.nums .u32 x1.2, VP.bool y1.1, VP.nums .u32 y1.2], .fp 11 4 0, .slot 12 (VP.agg [VP.bool x1.1, VP.nums .u32 x1.2]), .fp 13 4 2, .slot 14 (VP.agg [VP.bool y1.1, VP.nums .u32 y1.2]), .arr 15 69 2 [VP.bool x1.1, VP.nums .u32 x1.2, VP.bool y1.1, VP.nums .u32 y1.2], .slot 16 (VP.bool true), .slot 17 (VP.bool true), .slot 23 (VP.bool true), .slot 24 (VP.bool true), .slot 30 (VP.bool true), .slot 31 (VP.bool true), .slot 35 (VP.bool true), .slot 2 (VP.bool true)]) [0, 1, 2, 3, 4, 5, 6, 7, 8, 9, 10, 11, 12, 13, 14, 15, 16, 17, 18, 19] rfl ?_
    refine nx_then ?_
    refine t_ret ?_
    refine rt_block ?_
    refine rt_then ?_
    refine rt_then ?_
    refine rt_block ?_
    refine rt_then ?_
    exact rt_one rfl (res_tmp 19 rfl)
abbrev fodd3_EB_c (p0 q0 : Int) (p1 q1 : Int) (x2 y2 : Raw) : List VP := [Bz p0, Dz p0, Bz q0, Dz q0, Bz p1, Dz p1, Bz q1, Dz q1, VP.bool x2.1, VP.nums .u32 x2.2, VP.bool y2.1, VP.nums .u32 y2.2]
set_option maxRecDepth 100000 in
set_option maxHeartbeats 4000000 in
theorem fodd3_EB (p0 q0 : Int) (hp0 : L p0 ≤ 5) (hq0 : L q0 ≤ 5) (hb0 : rightF p0 q0 = true) (p1 q1 : Int) (hp1 : L p1 ≤ 10) (hq1 : L q1 ≤ 10) (hb1 : 5 < L p1) (x2 y2 : Raw) : Spec Try.prog 73 [isRows 3 (fodd3_EB_c p0 q0 p1 q1 x2 y2)] (VP.bool true) := by
  refine spec_ofP (xs := [.rows 3 (fodd3_EB_c p0 q0 p1 q1 x2 y2)]) 37 [4] Try.func73 rfl Try.ntmps73 rfl fun w0 => ?_
  refine t_seq ?_
  refine t_region (F := ⟨_, _, _, _⟩) [.rows 0 3 (fodd3_EB_c p0 q0 p1 q1 x2 y2)] [] [(0, .slot 2 (VP.bool false))] [0] [] rfl rfl follow rfl ⟨
    .inl ⟨wants_plain rfl, does_move _ (.inr rfl) rfl rfl rfl rfl (ar_const (fun _ => rfl))⟩,
    trivial⟩ ?_
  refine nx_sub (fs' := [.rows 0 3 (fodd3_EB_c p0 q0 p1 q1 x2 y2), .slot 2 (VP.bool false)]) [0, 1] rfl ?_
  refine nx_then ?_
  refine t_seq ?_
  refine t_seq ?_
  refine t_region (F := ⟨_, _, _, _⟩) [.rows 0 3 (fodd3_EB_c p0 q0 p1 q1 x2 y2), .slot 2 (VP.bool false)] [] [(0, .rows 5 3 (fodd3_EB_c p0 q0 p1 q1 x2 y2)), (1, .slot 6 (VP.int .i64 ((3 : Nat) : Int))), (2, .slot 7 (VP.int .i64 0))] [0, 1] [] rfl rfl follow rfl ⟨
    .inl ⟨wants_plain rfl, does_moveRows _ (.inl rfl) rfl rfl rfl rfl rfl (av_fs 0 rfl)⟩,
    .inl ⟨wants_plain rfl, does_lenRows _ _ rfl (by kernel_rfl) rfl rfl rfl rfl rfl (av_rs 0 rfl rfl)⟩,
    .inl ⟨wants_plain rfl, does_move _ (.inl rfl) rfl rfl rfl rfl (ar_const (fun _ => rfl))⟩,
    trivial⟩ ?_
  refine nx_sub (fs' := [.slot 2 (VP.bool false), .rows 5 3 (fodd3_EB_c p0 q0 p1 q1 x2 y2), .slot 6 (VP.int .i64 ((3 : Nat) : Int)), .slot 7 (VP.int .i64 0)]) [1, 2, 3, 4] rfl ?_
  refine nx_then ?_
  refine t_block ?_
  refine t_loop (σ := {k : Nat // k ≤ 1}) (fun s => [.rows 5 3 (fodd3_EB_c p0 q0 p1 q1 x2 y2), .slot 6 (VP.int .i64 ((3 : Nat) : Int)), .slot 7 (VP.int .i64 ((s.1 : Nat) : Int))]) (fun s => 3 - s.1) (⟨0, by decide⟩) [1, 2, 3] rfl ?_
  intro s
  obtain ⟨k, hk⟩ := s
  have hc : k = 0 ∨ k = 1 := by omega
  rcases hc with rfl | rfl
  case inl =>
    refine t_seq ?_
    refine t_region (F := ⟨_, _, _, _⟩) [.rows 5 3 (fodd3_EB_c p0 q0 p1 q1 x2 y2), .slot 6 (VP.int .i64 ((3 : Nat) : Int)), .slot 7 (VP.int .i64 ((0 : Nat) : Int))] [] [(0, .slot 8 (VP.bool (decide (((0 : Nat) : Int) < ((3 : Nat) : Int)))))] [0, 1, 2] [] rfl rfl follow rfl ⟨
      .inl ⟨wants_plain rfl, does_cmp (m := ((0 : Nat) : Int)) (n := ((3 : Nat) : Int)) _ _ _ _ _ rfl rfl rfl rfl rfl rfl .i64 (ar_tmp (av_fs 2 rfl)) (ar_tmp (av_fs 1 rfl))⟩,
      trivial⟩ ?_
    refine nx_sub (fs' := [.rows 5 3 (fodd3_EB_c p0 q0 p1 q1 x2 y2), .slot 6 (VP.int .i64 ((3 : Nat) : Int)), .slot 7 (VP.int .i64 ((0 : Nat) : Int)), .slot 8 (VP.bool (decide (((0 : Nat) : Int) < ((3 : Nat) : Int))))]) [0, 1, 2, 3] rfl ?_
    refine nx_then ?_
    refine t_seq ?_
    refine t_cond_te 3 rfl rfl ?_
    refine t_skip ?_
    refine nx_then ?_
    refine t_seq ?_
    refine t_block ?_
    refine t_seq ?_
    refine t_region (F := ⟨_, _, _, _⟩) [.rows 5 3 (fodd3_EB_c p0 q0 p1 q1 x2 y2), .slot 6 (VP.int .i64 ((3 : Nat) : Int)), .slot 7 (VP.int .i64 ((0 : Nat) : Int)), .slot 8 (VP.bool (decide (((0 : Nat) : Int) < ((3 : Nat) : Int))))] [] [(0, .rp 9 5 0), (1, .slot 10 (VP.agg [Bz p0, Dz p0, Bz q0, Dz q0])), (2, .own 4 100 4), (3, .box 4 100 [Bz p0, Dz p0, Bz q0, Dz q0])] [0, 1, 2, 3] [] rfl rfl follow rfl ⟨
      .inl ⟨wants_plain rfl, does_indexRows (m := 0) (sz := 4) _ _ rfl Try.underlying178 (fun w => run_sizeAgg ty_agg_api_Frac w) rfl rfl rfl rfl rfl rfl (by decide) rfl (av_fs 0 rfl) (ar_tmp (av_fs 2 rfl))⟩,
      .inl ⟨wants_plain rfl, does_loadRows _ rfl ty_agg_api_Frac rfl rfl rfl rfl rfl rfl rfl (av_rs 0 rfl rfl) (av_fs 0 rfl)⟩,
      .inl ⟨wants_plain rfl, does_allocOwn [Bz 0, Dz 0, Bz 0, Dz 0] ty_zero_api_Frac rfl rfl rfl rfl rfl z_frac rfl⟩,
      .inl ⟨wants_plain rfl, does_storeNew 4 _ _ ty_agg_api_Frac rfl rfl rfl rfl rfl (pt_own (av_rs 2 rfl rfl)) (av_rs 2 rfl rfl) (ar_tmp (av_rs 1 rfl rfl))⟩,
      trivial⟩ ?_
    refine nx_sub (fs' := [.rows 5 3 (fodd3_EB_c p0 q0 p1 q1 x2 y2), .slot 6 (VP.int .i64 ((3 : Nat) : Int)), .slot 7 (VP.int .i64 ((0 : Nat) : Int)), .slot 8 (VP.bool (decide (((0 : Nat) : Int) < ((3 : Nat) : Int)))), .rp 9 5 0, .slot 10 (VP.agg [Bz p0, Dz p0, Bz q0, Dz q0]), .box 4 100 [Bz p0, Dz p0, Bz q0, Dz q0]]) [0, 1, 2, 3, 4, 5, 7] rfl ?_
    refine nx_then ?_
    refine t_seq ?_
    refine t_region (F := ⟨_, _, _, _⟩) [.rows 5 3 (fodd3_EB_c p0 q0 p1 q1 x2 y2), .slot 6 (VP.int .i64 ((3 : Nat) : Int)), .slot 7 (VP.int .i64 ((0 : Nat) : Int)), .slot 8 (VP.bool (decide (((0 : Nat) : Int) < ((3 : Nat) : Int)))), .rp 9 5 0, .slot 10 (VP.agg [Bz p0, Dz p0, Bz q0, Dz q0]), .box 4 100 [Bz p0, Dz p0, Bz q0, Dz q0]] [] [(0, .fp 11 4 0), (1, .slot 12 (INT p0)), (2, .fp 13 4 2), (3, .slot 14 (INT q0)), (4, .arr 15 69 2 [Bz p0, Dz p0, Bz q0, Dz q0]), (5, .slot 16 (VP.bool false)), (6, .slot 17 (VP.bool false)), (7, .fp 18 4 0), (8, .fp 19 4 1), (9, .slot 20 (Dz p0)), (10, .slot 21 (VP.int .i64 (((dg BB p0.natAbs).length : Nat) : Int))), (11, .slot 22 (VP.bool (decide ((((dg BB p0.natAbs).length : Nat) : Int) > 5)))), (12, .slot 23 (VP.bool (decide ((((dg BB p0.natAbs).length : Nat) : Int) > 5)))), (13, .slot 24 (VP.bool (decide ((((dg BB p0.natAbs).length : Nat) : Int) > 5)))), (14, .fp 25 4 2), (15, .fp 26 4 3), (16, .slot 27 (Dz q0)), (17, .slot 28 (VP.int .i64 (((dg BB q0.natAbs).length : Nat) : Int))), (18, .slot 29 (VP.bool (decide ((((dg BB q0.natAbs).length : Nat) : Int) > 5)))), (19, .slot 30 (VP.bool (decide ((((dg BB q0.natAbs).length : Nat) : Int) > 5)))), (20, .slot 31 (VP.bool (decide ((((dg BB q0.natAbs).length : Nat) : Int) > 5)))), (21, .slot 32 (VP.agg [Bz p0, Dz p0, Bz q0, Dz q0])), (22, .slot 33 (VP.bool (rightF p0 q0))), (23, .slot 34 (VP.bool false)), (24, .slot 35 (VP.bool false))] [0, 1, 2, 3, 4, 5, 6] [] rfl rfl follow rfl ⟨
      .inl ⟨wants_plain rfl, does_field _ _ _ 0 ty_f0_api_Frac rfl rfl rfl rfl rfl rfl rfl (pt_box (av_fs 6 rfl))⟩,
      .inl ⟨wants_plain rfl, does_loadAgg _ ty_agg_api_Int rfl rfl rfl rfl rfl rfl (pt_fp (av_rs 0 rfl rfl)) (av_fs 6 rfl)⟩,
      .inl ⟨wants_plain rfl, does_field _ _ _ 2 ty_f1_api_Frac rfl rfl rfl rfl rfl rfl rfl (pt_box (av_fs 6 rfl))⟩,
      .inl ⟨wants_plain rfl, does_loadAgg _ ty_agg_api_Int rfl rfl rfl rfl rfl rfl (pt_fp (av_rs 2 rfl rfl)) (av_fs 6 rfl)⟩,
      .inl ⟨wants_plain rfl, does_buildSlice (sz := 2) [Bz 0, Dz 0, Bz 0, Dz 0] ty_zero_api_Int (by kernel_rfl) (fun w => run_sizeAgg ty_agg_api_Int w) rfl rfl rfl rfl rfl rfl (by kernel_rfl) (fun w => by exact z_int_2 w) (.cons 0 [Bz p0, Dz p0] rfl rfl (ar_cells_agg (ar_tmp (av_rs 1 rfl rfl))) (.cons 2 [Bz q0, Dz q0] rfl rfl (ar_cells_agg (ar_tmp (av_rs 3 rfl rfl))) (.nil _)))⟩,
      .inl ⟨wants_plain rfl, does_call (s_even2 p0 q0 (lle hp0 (by decide)) (lle hq0 (by decide))) rfl hb_collator_collatorlaw01_Odd rfl rfl rfl rfl ⟨(ar_arr (av_rs 4 rfl rfl)), trivial⟩⟩,
      .inl ⟨wants_plain rfl, does_move _ (.inl rfl) rfl rfl rfl rfl (ar_tmp (av_rs 5 rfl rfl))⟩,
      .inl ⟨wants_guard false rfl rfl rfl (av_rs 6 rfl rfl), does_field _ _ _ 0 ty_f0_api_Frac rfl rfl rfl rfl rfl rfl rfl (pt_box (av_fs 6 rfl))⟩,
      .inl ⟨wants_guard false rfl rfl rfl (av_rs 6 rfl rfl), does_field _ _ _ 1 ty_f1_api_Int rfl rfl rfl rfl rfl rfl rfl (pt_fp (av_rs 7 rfl rfl))⟩,
      .inl ⟨wants_guard false rfl rfl rfl (av_rs 6 rfl rfl), does_loadOne _ ty_one___uint32 rfl rfl rfl rfl rfl rfl (pt_fp (av_rs 8 rfl rfl)) (av_fs 6 rfl)⟩,
      .inl ⟨wants_guard false rfl rfl rfl (av_rs 6 rfl rfl), does_len _ _ (by kernel_rfl) rfl rfl rfl rfl rfl (ar_tmp (av_rs 9 rfl rfl))⟩,
      .inl ⟨wants_guard false rfl rfl rfl (av_rs 6 rfl rfl), does_cmp (m := (((dg BB p0.natAbs).length : Nat) : Int)) (n := 5) _ _ _ _ _ rfl rfl rfl rfl rfl rfl .i64 (ar_tmp (av_rs 10 rfl rfl)) (ar_const (fun _ => rfl))⟩,
      .inl ⟨wants_plain rfl, does_pick false _ _ _ rfl rfl rfl rfl rfl (ar_tmp (av_rs 6 rfl rfl)) (ar_tmp (av_rs 11 rfl rfl))⟩,
      .inl ⟨wants_plain rfl, does_move _ (.inl rfl) rfl rfl rfl rfl (ar_tmp (av_rs 12 rfl rfl))⟩,
      .inl ⟨wants_guard false rfl rfl rfl (av_bool (gt5_no hp0) (av_rs 13 rfl rfl)), does_field _ _ _ 2 ty_f1_api_Frac rfl rfl rfl rfl rfl rfl rfl (pt_box (av_fs 6 rfl))⟩,
      .inl ⟨wants_guard false rfl rfl rfl (av_bool (gt5_no hp0) (av_rs 13 rfl rfl)), does_field _ _ _ 1 ty_f1_api_Int rfl rfl rfl rfl rfl rfl rfl (pt_fp (av_rs 14 rfl rfl))⟩,
      .inl ⟨wants_guard false rfl rfl rfl (av_bool (gt5_no hp0) (av_rs 13 rfl rfl)), does_loadOne _ ty_one___uint32 rfl rfl rfl rfl rfl rfl (pt_fp (av_rs 15 rfl rfl)) (av_fs 6 rfl)⟩,
      .inl ⟨wants_guard false rfl rfl rfl (av_bool (gt5_no hp0) (av_rs 13 rfl rfl)), does_len _ _ (by kernel_rfl) rfl rfl rfl rfl rfl (ar_tmp (av_rs 16 rfl rfl))⟩,
      .inl ⟨wants_guard false rfl rfl rfl (av_bool (gt5_no hp0) (av_rs 13 rfl rfl)), does_cmp (m := (((dg BB q0.natAbs).length : Nat) : Int)) (n := 5) _ _ _ _ _ rfl rfl rfl rfl rfl rfl .i64 (ar_tmp (av_rs 17 rfl rfl)) (ar_const (fun _ => rfl))⟩,
      .inl ⟨wants_plain rfl, does_pick false _ _ _ rfl rfl rfl rfl rfl (ar_tmp (av_bool (gt5_no hp0) (av_rs 13 rfl rfl))) (ar_tmp (av_rs 18 rfl rfl))⟩,
      .inl ⟨wants_plain rfl, does_move _ (.inl rfl) rfl rfl rfl rfl (ar_tmp (av_rs 19 rfl rfl))⟩,
      .inl ⟨wants_guard false rfl rfl rfl (av_bool (gt5_no hq0) (av_rs 20 rfl rfl)), does_loadAgg _ ty_agg_api_Frac rfl rfl rfl rfl rfl rfl (pt_box (av_fs 6 rfl)) (av_fs 6 rfl)⟩,
      .inl ⟨wants_guard false rfl rfl rfl (av_bool (gt5_no hq0) (av_rs 20 rfl rfl)), does_call (g_right p0 q0 (lle hp0 (by decide)) (lle hq0 (by decide))) rfl hb_collator_collatorref02_Right rfl rfl rfl rfl ⟨(ar_tmp (av_rs 21 rfl rfl)), trivial⟩⟩,
      .inl ⟨wants_guard false rfl rfl rfl (av_bool (gt5_no hq0) (av_rs 20 rfl rfl)), does_not true _ _ rfl rfl rfl rfl rfl (ar_tmp (av_bool hb0 (av_rs 22 rfl rfl)))⟩,
      .inl ⟨wants_plain rfl, does_pick false _ _ _ rfl rfl rfl rfl rfl (ar_tmp (av_bool (gt5_no hq0) (av_rs 20 rfl rfl))) (ar_tmp (av_rs 23 rfl rfl))⟩,
      trivial⟩ ?_
    refine nx_sub (fs' := [.rows 5 3 (fodd3_EB_c p0 q0 p1 q1 x2 y2), .slot 6 (VP.int .i64 ((3 : Nat) : Int)), .slot 7 (VP.int .i64 ((0 : Nat) : Int)), .slot 8 (VP.bool (decide (((0 : Nat) : Int) < ((3 : Nat) : Int)))), .rp 9 5 0, .slot 10 (VP.agg [Bz p0, Dz p0, Bz q0, Dz q0]), .box 4 100 [Bz p0, Dz p0, Bz q0, Dz q0], .fp 11 4 0, .slot 12 (INT p0), .fp 13 4 2, .slot 14 (INT q0), .arr 15 69 2 [Bz p0, Dz p0, Bz q0, Dz q0], .slot 16 (VP.bool false), .slot 17 (VP.bool false), .fp 18 4 0, .fp 19 4 1, .slot 20 (Dz p0), .slot 21 (VP.int .i64 (((dg BB p0.natAbs).length : Nat) : Int)), .slot 22 (VP.bool (decide ((((dg BB p0.natAbs).length : Nat) : Int) > 5))), .slot 23 (VP.bool (decide ((((dg BB p0.natAbs).length : Nat) : Int) > 5))), .slot 24 (VP.bool (decide ((((dg BB p0.natAbs).length : Nat) : Int) > 5))), .fp 25 4 2, .fp 26 4 3, .slot 27 (Dz q0), .slot 28 (VP.int .i64 (((dg BB q0.natAbs).length : Nat) : Int)), .slot 29 (VP.bool (decide ((((dg BB q0.natAbs).length : Nat) : Int) > 5))), .slot 30 (VP.bool (decide ((((dg BB q0.natAbs).length : Nat) : Int) > 5))), .slot 31 (VP.bool (decide ((((dg BB q0.natAbs).length : Nat) : Int) > 5))), .slot 32 (VP.agg [Bz p0, Dz p0, Bz q0, Dz q0]), .slot 33 (VP.bool (rightF p0 q0)), .slot 34 (VP.bool false), .slot 35 (VP.bool false)]) [0, 1, 2, 3, 4, 5, 6, 7, 8, 9, 10, 11, 12, 13, 14, 15, 16, 17, 18, 19, 20, 21, 22, 23, 24, 25, 26, 27, 28, 29, 30, 31] rfl ?_
    refine nx_then ?_
    refine t_cond_f 31 rfl ?_
    refine t_skip ?_
    refine nx_block ?_
    refine nx_then ?_
    refine t_region (F := ⟨_, _, _, _⟩) [.rows 5 3 (fodd3_EB_c p0 q0 p1 q1 x2 y2), .slot 6 (VP.int .i64 ((3 : Nat) : Int)), .slot 8 (VP.bool (decide (((0 : Nat) : Int) < ((3 : Nat) : Int)))), .rp 9 5 0, .slot 10 (VP.agg [Bz p0, Dz p0, Bz q0, Dz q0]), .box 4 100 [Bz p0, Dz p0, Bz q0, Dz q0], .fp 11 4 0, .slot 12 (INT p0), .fp 13 4 2, .slot 14 (INT q0), .arr 15 69 2 [Bz p0, Dz p0, Bz q0, Dz q0], .slot 16 (VP.bool false), .slot 17 (VP.bool false), .fp 18 4 0, .fp 19 4 1, .slot 20 (Dz p0), .slot 21 (VP.int .i64 (((dg BB p0.natAbs).length : Nat) : Int)), .slot 22 (VP.bool (decide ((((dg BB p0.natAbs).length : Nat) : Int) > 5))), .slot 23 (VP.bool (decide ((((dg BB p0.natAbs).length : Nat) : Int) > 5))), .slot 24 (VP.bool (decide ((((dg BB p0.natAbs).length : Nat) : Int) > 5))), .fp 25 4 2, .fp 26 4 3, .slot 27 (Dz q0), .slot 28 (VP.int .i64 (((dg BB q0.natAbs).length : Nat) : Int)), .slot 29 (VP.bool (decide ((((dg BB q0.natAbs).length : Nat) : Int) > 5))), .slot 30 (VP.bool (decide ((((dg BB q0.natAbs).length : Nat) : Int) > 5))), .slot 31 (VP.bool (decide ((((dg BB q0.natAbs).length : Nat) : Int) > 5))), .slot 32 (VP.agg [Bz p0, Dz p0, Bz q0, Dz q0]), .slot 33 (VP.bool (rightF p0 q0)), .slot 34 (VP.bool false), .slot 35 (VP.bool false)] [(1, .slot 7 (VP.int .i64 ((0 : Nat) : Int)))] [(0, .slot 36 (VP.int .i64 ((1 : Nat) : Int))), (1, .slot 7 (VP.int .i64 ((1 : Nat) : Int)))] [0, 1, 3, 4, 5, 6, 7, 8, 9, 10, 11, 12, 13, 14, 15, 16, 17, 18, 19, 20, 21, 22, 23, 24, 25, 26, 27, 28, 29, 30, 31] [2] rfl rfl follow rfl ⟨
      .inl ⟨wants_plain rfl, does_addInt (m := ((0 : Nat) : Int)) (n := 1) _ _ _ _ rfl rfl rfl rfl rfl (by omega) (ar_tmp (av_os 0 rfl rfl)) (ar_const (fun _ => rfl))⟩,
      .inl ⟨wants_plain rfl, does_move _ (.inl rfl) rfl rfl rfl rfl (ar_tmp (av_rs 0 rfl rfl))⟩,
      trivial⟩ ?_
    refine nx_sub (fs' := [.rows 5 3 (fodd3_EB_c p0 q0 p1 q1 x2 y2), .slot 6 (VP.int .i64 ((3 : Nat) : Int)), .slot 8 (VP.bool (decide (((0 : Nat) : Int) < ((3 : Nat) : Int)))), .rp 9 5 0, .slot 10 (VP.agg [Bz p0, Dz p0, Bz q0, Dz q0]), .box 4 100 [Bz p0, Dz p0, Bz q0, Dz q0], .fp 11 4 0, .slot 12 (INT p0), .fp 13 4 2, .slot 14 (INT q0), .arr 15 69 2 [Bz p0, Dz p0, Bz q0, Dz q0], .slot 16 (VP.bool false), .slot 17 (VP.bool false), .fp 18 4 0, .fp 19 4 1, .slot 20 (Dz p0), .slot 21 (VP.int .i64 (((dg BB p0.natAbs).length : Nat) : Int)), .slot 22 (VP.bool (decide ((((dg BB p0.natAbs).length : Nat) : Int) > 5))), .slot 23 (VP.bool (decide ((((dg BB p0.natAbs).length : Nat) : Int) > 5))), .slot 24 (VP.bool (decide ((((dg BB p0.natAbs).length : Nat) : Int) > 5))), .fp 25 4 2, .fp 26 4 3, .slot 27 (Dz q0), .slot 28 (VP.int .i64 (((dg BB q0.natAbs).length : Nat) : Int)), .slot 29 (VP.bool (decide ((((dg BB q0.natAbs).length : Nat) : Int) > 5))), .slot 30 (VP.bool (decide ((((dg BB q0.natAbs).length : Nat) : Int) > 5))), .slot 31 (VP.bool (decide ((((dg BB q0.natAbs).length : Nat) : Int) > 5))), .slot 32 (VP.agg [Bz p0, Dz p0, Bz q0, Dz q0]), .slot 33 (VP.bool (rightF p0 q0)), .slot 34 (VP.bool false), .slot 35 (VP.bool false), .slot 36 (VP.int .i64 ((1 : Nat) : Int)), .slot 7 (VP.int .i64 ((1 : Nat) : Int))]) [0, 1, 2, 3, 4, 5, 6, 7, 8, 9, 10, 11, 12, 13, 14, 15, 16, 17, 18, 19, 20, 21, 22, 23, 24, 25, 26, 27, 28, 29, 30, 31, 32] rfl ?_
    exact nx_round ⟨1, by decide⟩ (by show 3 - 1 < 3 - 0; decide) [0, 1, 32] rfl
  case inr =>
    refine t_seq ?_
    refine t_region (F := ⟨_, _, _, _⟩) [.rows 5 3 (fodd3_EB_c p0 q0 p1 q1 x2 y2), .slot 6 (VP.int .i64 ((3 : Nat) : Int)), .slot 7 (VP.int .i64 ((1 : Nat) : Int))] [] [(0, .slot 8 (VP.bool (decide (((1 : Nat) : Int) < ((3 : Nat) : Int)))))] [0, 1, 2] [] rfl rfl follow rfl ⟨
      .inl ⟨wants_plain rfl, does_cmp (m := ((1 : Nat) : Int)) (n := ((3 : Nat) : Int)) _ _ _ _ _ rfl rfl rfl rfl rfl rfl .i64 (ar_tmp (av_fs 2 rfl)) (ar_tmp (av_fs 1 rfl))⟩,
      trivial⟩ ?_
    refine nx_sub (fs' := [.rows 5 3 (fodd3_EB_c p0 q0 p1 q1 x2 y2), .slot 6 (VP.int .i64 ((3 : Nat) : Int)), .slot 7 (VP.int .i64 ((1 : Nat) : Int)), .slot 8 (VP.bool (decide (((1 : Nat) : Int) < ((3 : Nat) : Int))))]) [0, 1, 2, 3] rfl ?_
    refine nx_then ?_
    refine t_seq ?_
    refine t_cond_te 3 rfl rfl ?_
    refine t_skip ?_
    refine nx_then ?_
    refine t_seq ?_
    refine t_block ?_
    refine t_seq ?_
    refine t_region (F := ⟨_, _, _, _⟩) [.rows 5 3 (fodd3_EB_c p0 q0 p1 q1 x2 y2), .slot 6 (VP.int .i64 ((3 : Nat) : Int)), .slot 7 (VP.int .i64 ((1 : Nat) : Int)), .slot 8 (VP.bool (decide (((1 : Nat) : Int) < ((3 : Nat) : Int))))] [] [(0, .rp 9 5 4), (1, .slot 10 (VP.agg [Bz p1, Dz p1, Bz q1, Dz q1])), (2, .own 4 100 4), (3, .box 4 100 [Bz p1, Dz p1, Bz q1, Dz q1])] [0, 1, 2, 3] [] rfl rfl follow rfl ⟨
      .inl ⟨wants_plain rfl, does_indexRows (m := 1) (sz := 4) _ _ rfl Try.underlying178 (fun w => run_sizeAgg ty_agg_api_Frac w) rfl rfl rfl rfl rfl rfl (by decide) rfl (av_fs 0 rfl) (ar_tmp (av_fs 2 rfl))⟩,
      .inl ⟨wants_plain rfl, does_loadRows _ rfl ty_agg_api_Frac rfl rfl rfl rfl rfl rfl rfl (av_rs 0 rfl rfl) (av_fs 0 rfl)⟩,
      .inl ⟨wants_plain rfl, does_allocOwn [Bz 0, Dz 0, Bz 0, Dz 0] ty_zero_api_Frac rfl rfl rfl rfl rfl z_frac rfl⟩,
      .inl ⟨wants_plain rfl, does_storeNew 4 _ _ ty_agg_api_Frac rfl rfl rfl rfl rfl (pt_own (av_rs 2 rfl rfl)) (av_rs 2 rfl rfl) (ar_tmp (av_rs 1 rfl rfl))⟩,
      trivial⟩ ?_
    refine nx_sub (fs' := [.rows 5 3 (fodd3_EB_c p0 q0 p1 q1 x2 y2), .slot 6 (VP.int .i64 ((3 : Nat) : Int)), .slot 7 (VP.int .i64 ((1 : Nat) : Int)), .slot 8 (VP.bool (decide (((1 : Nat) : Int) < ((3 : Nat) : Int)))), .rp 9 5 4, .slot 10 (VP.agg [Bz p1, Dz p1, Bz q1, Dz q1]), .box 4 100 [Bz p1, Dz p1, Bz q1, Dz q1]]) [0, 1, 2, 3, 4, 5, 7] rfl ?_
    refine nx_then ?_
    refine t_seq ?_
    refine t_region (F := ⟨_, _, _, _⟩) [.rows 5 3 (fodd3_EB_c p0 q0 p1 q1 x2 y2), .slot 6 (VP.int .i64 ((3 : Nat) : Int)), .slot 7 (VP.int .i64 ((1 : Nat) : Int)), .slot 8 (VP.bool (decide (((1 : Nat) : Int) < ((3 : Nat) : Int)))), .rp 9 5 4, .slot 10 (VP.agg [Bz p1, Dz p1, Bz q1, Dz q1]), .box 4 100 [Bz p1, Dz p1, Bz q1, Dz q1]] [] [(0, .fp 11 4 0), (1, .slot 12 (INT p1)), (2, .fp 13 4 2), (3, .slot 14 (INT q1)), (4, .arr 15 69 2 [Bz p1, Dz p1, Bz q1, Dz q1]), (5, .slot 16 (VP.bool false)), (6, .slot 17 (VP.bool false)), (7, .fp 18 4 0), (8, .fp 19 4 1), (9, .slot 20 (Dz p1)), (10, .slot 21 (VP.int .i64 (((dg BB p1.natAbs).length : Nat) : Int))), (11, .slot 22 (VP.bool (decide ((((dg BB p1.natAbs).length : Nat) : Int) > 5)))), (12, .slot 23 (VP.bool (decide ((((dg BB p1.natAbs).length : Nat) : Int) > 5)))), (13, .slot 24 (VP.bool (decide ((((dg BB p1.natAbs).length : Nat) : Int) > 5)))), (19, .slot 30 (VP.bool true)), (20, .slot 31 (VP.bool true)), (24, .slot 35 (VP.bool true))] [0, 1, 2, 3, 4, 5, 6] [] rfl rfl follow rfl ⟨
      .inl ⟨wants_plain rfl, does_field _ _ _ 0 ty_f0_api_Frac rfl rfl rfl rfl rfl rfl rfl (pt_box (av_fs 6 rfl))⟩,
      .inl ⟨wants_plain rfl, does_loadAgg _ ty_agg_api_Int rfl rfl rfl rfl rfl rfl (pt_fp (av_rs 0 rfl rfl)) (av_fs 6 rfl)⟩,
      .inl ⟨wants_plain rfl, does_field _ _ _ 2 ty_f1_api_Frac rfl rfl rfl rfl rfl rfl rfl (pt_box (av_fs 6 rfl))⟩,
      .inl ⟨wants_plain rfl, does_loadAgg _ ty_agg_api_Int rfl rfl rfl rfl rfl rfl (pt_fp (av_rs 2 rfl rfl)) (av_fs 6 rfl)⟩,
      .inl ⟨wants_plain rfl, does_buildSlice (sz := 2) [Bz 0, Dz 0, Bz 0, Dz 0] ty_zero_api_Int (by kernel_rfl) (fun w => run_sizeAgg ty_agg_api_Int w) rfl rfl rfl rfl rfl rfl (by kernel_rfl) (fun w => by exact z_int_2 w) (.cons 0 [Bz p1, Dz p1] rfl rfl (ar_cells_agg (ar_tmp (av_rs 1 rfl rfl))) (.cons 2 [Bz q1, Dz q1] rfl rfl (ar_cells_agg (ar_tmp (av_rs 3 rfl rfl))) (.nil _)))⟩,
      .inl ⟨wants_plain rfl, does_call (s_even2 p1 q1 hp1 hq1) rfl hb_collator_collatorlaw01_Odd rfl rfl rfl rfl ⟨(ar_arr (av_rs 4 rfl rfl)), trivial⟩⟩,
      .inl ⟨wants_plain rfl, does_move _ (.inl rfl) rfl rfl rfl rfl (ar_tmp (av_rs 5 rfl rfl))⟩,
      .inl ⟨wants_guard false rfl rfl rfl (av_rs 6 rfl rfl), does_field _ _ _ 0 ty_f0_api_Frac rfl rfl rfl rfl rfl rfl rfl (pt_box (av_fs 6 rfl))⟩,
      .inl ⟨wants_guard false rfl rfl rfl (av_rs 6 rfl rfl), does_field _ _ _ 1 ty_f1_api_Int rfl rfl rfl rfl rfl rfl rfl (pt_fp (av_rs 7 rfl rfl))⟩,
      .inl ⟨wants_guard false rfl rfl rfl (av_rs 6 rfl rfl), does_loadOne _ ty_one___uint32 rfl rfl rfl rfl rfl rfl (pt_fp (av_rs 8 rfl rfl)) (av_fs 6 rfl)⟩,
      .inl ⟨wants_guard false rfl rfl rfl (av_rs 6 rfl rfl), does_len _ _ (by kernel_rfl) rfl rfl rfl rfl rfl (ar_tmp (av_rs 9 rfl rfl))⟩,
      .inl ⟨wants_guard false rfl rfl rfl (av_rs 6 rfl rfl), does_cmp (m := (((dg BB p1.natAbs).length : Nat) : Int)) (n := 5) _ _ _ _ _ rfl rfl rfl rfl rfl rfl .i64 (ar_tmp (av_rs 10 rfl rfl)) (ar_const (fun _ => rfl))⟩,
      .inl ⟨wants_plain rfl, does_pick false _ _ _ rfl rfl rfl rfl rfl (ar_tmp (av_rs 6 rfl rfl)) (ar_tmp (av_rs 11 rfl rfl))⟩,
      .inl ⟨wants_plain rfl, does_move _ (.inl rfl) rfl rfl rfl rfl (ar_tmp (av_rs 12 rfl rfl))⟩,
      .inr (skips_guard true rfl rfl rfl (av_bool (gt5_yes hb1) (av_rs 13 rfl rfl)) rfl rfl rfl rfl),
      .inr (skips_guard true rfl rfl rfl (av_bool (gt5_yes hb1) (av_rs 13 rfl rfl)) rfl rfl rfl rfl),
      .inr (skips_guard true rfl rfl rfl (av_bool (gt5_yes hb1) (av_rs 13 rfl rfl)) rfl rfl rfl rfl),
      .inr (skips_guard true rfl rfl rfl (av_bool (gt5_yes hb1) (av_rs 13 rfl rfl)) rfl rfl rfl rfl),
      .inr (skips_guard true rfl rfl rfl (av_bool (gt5_yes hb1) (av_rs 13 rfl rfl)) rfl rfl rfl rfl),
      .inl ⟨wants_plain rfl, does_pick true _ _ _ rfl rfl rfl rfl rfl (ar_tmp (av_bool (gt5_yes hb1) (av_rs 13 rfl rfl))) (ar_const (fun _ => rfl))⟩,
      .inl ⟨wants_plain rfl, does_move _ (.inl rfl) rfl rfl rfl rfl (ar_tmp (av_rs 14 rfl rfl))⟩,
      .inr (skips_guard true rfl rfl rfl (av_rs 15 rfl rfl) rfl rfl rfl rfl),
      .inr (skips_guard true rfl rfl rfl (av_rs 15 rfl rfl) rfl rfl rfl rfl),
      .inr (skips_guard true rfl rfl rfl (av_rs 15 rfl rfl) rfl rfl rfl rfl),
      .inl ⟨wants_plain rfl, does_pick true _ _ _ rfl rfl rfl rfl rfl (ar_tmp (av_rs 15 rfl rfl)) (ar_const (fun _ => rfl))⟩,
      trivial⟩ ?_
    refine nx_sub (fs' := [.rows 5 3 (fodd3_EB_c p0 q0 p1 q1 x2 y2), .slot 6 (VP.int .i64 ((3 : Nat) : Int)), .slot 7 (VP.int .i64 ((1 : Nat) : Int)), .slot 8 (VP.bool (decide (((1 : Nat) : Int) < ((3 : Nat) : Int)))), .rp 9 5 4, .slot 10 (VP.agg [Bz p1, Dz p1, Bz q1, Dz q1]), .box 4 100 [Bz p1, Dz p1, Bz q1, Dz q1], .fp 11 4 0, .slot 12 (INT p1), .fp 13 4 2, .slot 14 (INT q1), .arr 15 69 2 [Bz p1, Dz p1, Bz q1, Dz q1], .slot 16 (VP.bool false), .slot 17 (VP.bool false), .fp 18 4 0, .fp 19 4 1, .slot 20 (Dz p1), .slot 21 (VP.int .i64 (((dg BB p1.natAbs).length : Nat) : Int)), .slot 22 (VP.bool (decide ((((dg BB p1.natAbs).length : Nat) : Int) > 5))), .slot 23 (VP.bool (decide ((((dg BB p1.natAbs).length : Nat) : Int) > 5))), .slot 24 (VP.bool (decide ((((dg BB p1.natAbs).length : Nat) : Int) > 5))), .slot 30 (VP.bool true), .slot 31 (VP.bool true), .slot 35 (VP.bool true)]) [0, 1, 2, 3, 4, 5, 6, 7, 8, 9, 10, 11, 12, 13, 14, 15, 16, 17, 18, 19, 20, 21, 22, 23] rfl ?_
    refine nx_then ?_
    refine t_cond_t 23 rfl ?_
    refine t_seq ?_
    refine t_region (F := ⟨_, _, _, _⟩) [.rows 5 3 (fodd3_EB_c p0 q0 p1 q1 x2 y2), .slot 6 (VP.int .i64 ((3 : Nat) : Int)), .slot 7 (VP.int .i64 ((1 : Nat) : Int)), .slot 8 (VP.bool (decide (((1 : Nat) : Int) < ((3 : Nat) : Int)))), .rp 9 5 4, .slot 10 (VP.agg [Bz p1, Dz p1, Bz q1, Dz q1]), .box 4 100 [Bz p1, Dz p1, Bz q1, Dz q1], .fp 11 4 0, .slot 12 (INT p1), .fp 13 4 2, .slot 14 (INT q1), .arr 15 69 2 [Bz p1, Dz p1, Bz q1, Dz q1], .slot 16 (VP.bool false), .slot 17 (VP.bool false), .fp 18 4 0, .fp 19 4 1, .slot 20 (Dz p1), .slot 21 (VP.int .i64 (((dg BB p1.natAbs).length : Nat) : Int)), .slot 22 (VP.bool (decide ((((dg BB p1.natAbs).length : Nat) : Int) > 5))), .slot 23 (VP.bool (decide ((((dg BB p1.natAbs).length : Nat) : Int) > 5))), .slot 24 (VP.bool (decide ((((dg BB p1.natAbs).length : Nat) : Int) > 5))), .slot 30 (VP.bool true), .slot 31 (VP.bool true), .slot 35 (VP.bool true)] [] [(0, .slot 2 (VP.bool true))] [0, 1, 2, 3, 4, 5, 6, 7, 8, 9, 10, 11, 12, 13, 14, 15, 16, 17, 18, 19, 20, 21, 22, 23] [] rfl rfl follow rfl ⟨
      .inl ⟨wants_plain rfl, does_move _ (.inr rfl) rfl rfl rfl rfl (ar_const (fun _ => rfl))⟩,
      trivial⟩ ?_
    refine nx_sub (fs' := [.rows 5 3 (fodd3_EB_c p0 q0 p1 q1 x2 y2), .slot 6 (VP.int .i64 ((3 : Nat) : Int)), .slot 7 (VP.int .i64 ((1 : Nat) : Int)), .slot 8 (VP.bool (decide (((1 : Nat) : Int) < ((3 : Nat) : Int)))), .rp 9 5 4, .slot 10 (VP.agg [Bz p1, Dz p1, Bz q1, Dz q1]), .box 4 100 [Bz p1, Dz p1, Bz q1, Dz q1], .fp 11 4 0, .slot 12 (INT p1), .fp 13 4 2, .slot 14 (INT q1), .arr 15 69 2 [Bz p1, Dz p1, Bz q1, Dz q1], .slot 16 (VP.bool false), .slot 17 (VP.bool false), .fp 18 4 0, .fp 19 4 1, .slot 20 (Dz p1), .slot 21 (VP.int .i64 (((dg BB p1.natAbs).length : Nat) : Int)), .slot 22 (VP.bool (decide ((((dg BB p1.natAbs).length : Nat) : Int) > 5))), .slot 23 (VP.bool (decide ((((dg BB p1.natAbs).length : Nat) : Int) > 5))), .slot 24 (VP.bool (decide ((((dg BB p1.natAbs).length : Nat) : Int) > 5))), .slot 30 (VP.bool true), .slot 31 (VP.bool true), .slot 35 (VP.bool true), .slot 2 (VP.bool true)]) [0, 1, 2, 3, 4, 5, 6, 7, 8, 9, 10, 11, 12, 13, 14, 15, 16, 17, 18, 19, 20, 21, 22, 23, 24] rfl ?_
    refine nx_then ?_
    refine t_ret ?_
    refine rt_block ?_
    refine rt_then ?_
    refine rt_then ?_
    refine rt_block ?_
    refine rt_then ?_
    exact rt_one rfl (res_tmp 24 rfl)
abbrev fodd3_EC_c (p0 q0 : Int) (p1 q1 : Int) (x2 y2 : Raw) : List VP := [Bz p0, Dz p0, Bz q0, Dz q0, Bz p1, Dz p1, Bz q1, Dz q1, VP.bool x2.1, VP.nums .u32 x2.2, VP.bool y2.1, VP.nums .u32 y2.2]
set_option maxRecDepth 100000 in
set_option maxHeartbeats 4000000 in
theorem fodd3_EC (p0 q0 : Int) (hp0 : L p0 ≤ 5) (hq0 : L q0 ≤ 5) (hb0 : rightF p0 q0 = true) (p1 q1 : Int) (hp1 : L p1 ≤ 5) (hq1 : L q1 ≤ 10) (hb1 : 5 < L q1) (x2 y2 : Raw) : Spec Try.prog 73 [isRows 3 (fodd3_EC_c p0 q0 p1 q1 x2 y2)] (VP.bool true) := by
  refine spec_ofP (xs := [.rows 3 (fodd3_EC_c p0 q0 p1 q1 x2 y2)]) 37 [4] Try.func73 rfl Try.ntmps73 rfl fun w0 => ?_
  refine t_seq ?_
  refine t_region (F := ⟨_, _, _, _⟩) [.rows 0 3 (fodd3_EC_c p0 q0 p1 q1 x2 y2)] [] [(0, .slot 2 (VP.bool false))] [0] [] rfl rfl follow rfl ⟨
    .inl ⟨wants_plain rfl, does_move _ (.inr rfl) rfl rfl rfl rfl (ar_const (fun _ => rfl))⟩,
    trivial⟩ ?_
  refine nx_sub (fs' := [.rows 0 3 (fodd3_EC_c p0 q0 p1 q1 x2 y2), .slot 2 (VP.bool false)]) [0, 1] rfl ?_
  refine nx_then ?_
  refine t_seq ?_
  refine t_seq ?_
  refine t_region (F := ⟨_, _, _, _⟩) [.rows 0 3 (fodd3_EC_c p0 q0 p1 q1 x2 y2), .slot 2 (VP.bool false)] [] [(0, .rows 5 3 (fodd3_EC_c p0 q0 p1 q1 x2 y2)), (1, .slot 6 (VP.int .i64 ((3 : Nat) : Int))), (2, .slot 7 (VP.int .i64 0))] [0, 1] [] rfl rfl follow rfl ⟨
    .inl ⟨wants_plain rfl, does_moveRows _ (.inl rfl) rfl rfl rfl rfl rfl (av_fs 0 rfl)⟩,
    .inl ⟨wants_plain rfl, does_lenRows _ _ rfl (by kernel_rfl) rfl rfl rfl rfl rfl (av_rs 0 rfl rfl)⟩,
    .inl ⟨wants_plain rfl, does_move _ (.inl rfl) rfl rfl rfl rfl (ar_const (fun _ => rfl))⟩,
    trivial⟩ ?_
  refine nx_sub (fs' := [.slot 2 (VP.bool false), .rows 5 3 (fodd3_EC_c p0 q0 p1 q1 x2 y2), .slot 6 (VP.int .i64 ((3 : Nat) : Int)), .slot 7 (VP.int .i64 0)]) [1, 2, 3, 4] rfl ?_
  refine nx_then ?_
  refine t_block ?_
  refine t_loop (σ := {k : Nat // k ≤ 1}) (fun s => [.rows 5 3 (fodd3_EC_c p0 q0 p1 q1 x2 y2), .slot 6 (VP.int .i64 ((3 : Nat) : Int)), .slot 7 (VP.int .i64 ((s.1 : Nat) : Int))]) (fun s => 3 - s.1) (⟨0, by decide⟩) [1, 2, 3] rfl ?_
  intro s
  obtain ⟨k, hk⟩ := s
  have hc : k = 0 ∨ k = 1 := by omega
  rcases hc with rfl | rfl
  case inl =>
    refine t_seq ?_
    refine t_region (F := ⟨_, _, _, _⟩) [.rows 5 3 (fodd3_EC_c p0 q0 p1 q1 x2 y2), .slot 6 (VP.int .i64 ((3 : Nat) : Int)), .slot 7 (VP.int .i64 ((0 : Nat) : Int))] [] [(0, .slot 8 (VP.bool (decide (((0 : Nat) : Int) < ((3 : Nat) : Int)))))] [0, 1, 2] [] rfl rfl follow rfl ⟨
      .inl ⟨wants_plain rfl, does_cmp (m := ((0 : Nat) : Int)) (n := ((3 : Nat) : Int)) _ _ _ _ _ rfl rfl rfl rfl rfl rfl .i64 (ar_tmp (av_fs 2 rfl)) (ar_tmp (av_fs 1 rfl))⟩,
      trivial⟩ ?_
    refine nx_sub (fs' := [.rows 5 3 (fodd3_EC_c p0 q0 p1 q1 x2 y2), .slot 6 (VP.int .i64 ((3 : Nat) : Int)), .slot 7 (VP.int .i64 ((0 : Nat) : Int)), .slot 8 (VP.bool (decide (((0 : Nat) : Int) < ((3 : Nat) : Int))))]) [0, 1, 2, 3] rfl ?_
    refine nx_then ?_
    refine t_seq ?_
    refine t_cond_te 3 rfl rfl ?_
    refine t_skip ?_
    refine nx_then ?_
    refine t_seq ?_
    refine t_block ?_
    refine t_seq ?_
    refine t_region (F := ⟨_, _, _, _⟩) [.rows 5 3 (fodd3_EC_c p0 q0 p1 q1 x2 y2), .slot 6 (VP.int .i64 ((3 : Nat) : Int)), .slot 7 (VP.int .i64 ((0 : Nat) : Int)), .slot 8 (VP.bool (decide (((0 : Nat) : Int) < ((3 : Nat) : Int))))] [] [(0, .rp 9 5 0), (1, .slot 10 (VP.agg [Bz p0, Dz p0, Bz q0, Dz q0])), (2, .own 4 100 4), (3, .box 4 100 [Bz p0, Dz p0, Bz q0, Dz q0])] [0, 1, 2, 3] [] rfl rfl follow rfl ⟨
      .inl ⟨wants_plain rfl, does_indexRows (m := 0) (sz := 4) _ _ rfl Try.underlying178 (fun w => run_sizeAgg ty_agg_api_Frac w) rfl rfl rfl rfl rfl rfl (by decide) rfl (av_fs 0 rfl) (ar_tmp (av_fs 2 rfl))⟩,
      .inl ⟨wants_plain rfl, does_loadRows _ rfl ty_agg_api_Frac rfl rfl rfl rfl rfl rfl rfl (av_rs 0 rfl rfl) (av_fs 0 rfl)⟩,
      .inl ⟨wants_plain rfl, does_allocOwn [Bz 0, Dz 0, Bz 0, Dz 0] ty_zero_api_Frac rfl rfl rfl rfl rfl z_frac rfl⟩,
      .inl ⟨wants_plain rfl, does_storeNew 4 _ _ ty_agg_api_Frac rfl rfl rfl rfl rfl (pt_own (av_rs 2 rfl rfl)) (av_rs 2 rfl rfl) (ar_tmp (av_rs 1 rfl rfl))⟩,
      trivial⟩ ?_
    refine nx_sub (fs' := [.rows 5 3 (fodd3_EC_c p0 q0 p1 q1 x2 y2), .slot 6 (VP.int .i64 ((3 : Nat) : Int)), .slot 7 (VP.int .i64 ((0 : Nat) : Int)), .slot 8 (VP.bool (decide (((0 : Nat) : Int) < ((3 : Nat) : Int)))), .rp 9 5 0, .slot 10 (VP.agg [Bz p0, Dz p0, Bz q0, Dz q0]), .box 4 100 [Bz p0, Dz p0, Bz q0, Dz q0]]) [0, 1, 2, 3, 4, 5, 7] rfl ?_
    refine nx_then ?_
    refine t_seq ?_
    refine t_region (F := ⟨_, _, _, _⟩) [.rows 5 3 (fodd3_EC_c p0 q0 p1 q1 x2 y2), .slot 6 (VP.int .i64 ((3 : Nat) : Int)), .slot 7 (VP.int .i64 ((0 : Nat) : Int)), .slot 8 (VP.bool (decide (((0 : Nat) : Int) < ((3 : Nat) : Int)))), .rp 9 5 0, .slot 10 (VP.agg [Bz p0, Dz p0, Bz q0, Dz q0]), .box 4 100 [Bz p0, Dz p0, Bz q0, Dz q0]] [] [(0, .fp 11 4 0), (1, .slot 12 (INT p0)), (2, .fp 13 4 2), (3, .slot 14 (INT q0)), (4, .arr 15 69 2 [Bz p0, Dz p0, Bz q0, Dz q0]), (5, .slot 16 (VP.bool false)), (6, .slot 17 (VP.bool false)), (7, .fp 18 4 0), (8, .fp 19 4 1), (9, .slot 20 (Dz p0)), (10, .slot 21 (VP.int .i64 (((dg BB p0.natAbs).length : Nat) : Int))), (11, .slot 22 (VP.bool (decide ((((dg BB p0.natAbs).length : Nat) : Int) > 5)))), (12, .slot 23 (VP.bool (decide ((((dg BB p0.natAbs).length : Nat) : Int) > 5)))), (13, .slot 24 (VP.bool (decide ((((dg BB p0.natAbs).length : Nat) : Int) > 5)))), (14, .fp 25 4 2), (15, .fp 26 4 3), (16, .slot 27 (Dz q0)), (17, .slot 28 (VP.int .i64 (((dg BB q0.natAbs).length : Nat) : Int))), (18, .slot 29 (VP.bool (decide ((((dg BB q0.natAbs).length : Nat) : Int) > 5)))), (19, .slot 30 (VP.bool (decide ((((dg BB q0.natAbs).length : Nat) : Int) > 5)))), (20, .slot 31 (VP.bool (decide ((((dg BB q0.natAbs).length : Nat) : Int) > 5)))), (21, .slot 32 (VP.agg [Bz p0, Dz p0, Bz q0, Dz q0])), (22, .slot 33 (VP.bool (rightF p0 q0))), (23, .slot 34 (VP.bool false)), (24, .slot 35 (VP.bool false))] [0, 1, 2, 3, 4, 5, 6] [] rfl rfl follow rfl ⟨
      .inl ⟨wants_plain rfl, does_field _ _ _ 0 ty_f0_api_Frac rfl rfl rfl rfl rfl rfl rfl (pt_box (av_fs 6 rfl))⟩,
      .inl ⟨wants_plain rfl, does_loadAgg _ ty_agg_api_Int rfl rfl rfl rfl rfl rfl (pt_fp (av_rs 0 rfl rfl)) (av_fs 6 rfl)⟩,
      .inl ⟨wants_plain rfl, does_field _ _ _ 2 ty_f1_api_Frac rfl rfl rfl rfl rfl rfl rfl (pt_box (av_fs 6 rfl))⟩,
      .inl ⟨wants_plain rfl, does_loadAgg _ ty_agg_api_Int rfl rfl rfl rfl rfl rfl (pt_fp (av_rs 2 rfl rfl)) (av_fs 6 rfl)⟩,
      .inl ⟨wants_plain rfl, does_buildSlice (sz := 2) [Bz 0, Dz 0, Bz 0, Dz 0] ty_zero_api_Int (by kernel_rfl) (fun w => run_sizeAgg ty_agg_api_Int w) rfl rfl rfl rfl rfl rfl (by kernel_rfl) (fun w => by exact z_int_2 w) (.cons 0 [Bz p0, Dz p0] rfl rfl (ar_cells_agg (ar_tmp (av_rs 1 rfl rfl))) (.cons 2 [Bz q0, Dz q0] rfl rfl (ar_cells_agg (ar_tmp (av_rs 3 rfl rfl))) (.nil _)))⟩,
      .inl ⟨wants_plain rfl, does_call (s_even2 p0 q0 (lle hp0 (by decide)) (lle hq0 (by decide))) rfl hb_collator_collatorlaw01_Odd rfl rfl rfl rfl ⟨(ar_arr (av_rs 4 rfl rfl)), trivial⟩⟩,
      .inl ⟨wants_plain rfl, does_move _ (.inl rfl) rfl rfl rfl rfl (ar_tmp (av_rs 5 rfl rfl))⟩,
      .inl ⟨wants_guard false rfl rfl rfl (av_rs 6 rfl rfl), does_field _ _ _ 0 ty_f0_api_Frac rfl rfl rfl rfl rfl rfl rfl (pt_box (av_fs 6 rfl))⟩,
      .inl ⟨wants_guard false rfl rfl rfl (av_rs 6 rfl rfl), does_field _ _ _ 1 ty_f1_api_Int rfl rfl rfl rfl rfl rfl rfl (pt_fp (av_rs 7 rfl rfl))⟩,
      .inl ⟨wants_guard false rfl rfl rfl (av_rs 6 rfl rfl), does_loadOne _ ty_one___uint32 rfl rfl rfl rfl rfl rfl (pt_fp (av_rs 8 rfl rfl)) (av_fs 6 rfl)⟩,
      .inl ⟨wants_guard false rfl rfl rfl (av_rs 6 rfl rfl), does_len _ _ (by kernel_rfl) rfl rfl rfl rfl rfl (ar_tmp (av_rs 9 rfl rfl))⟩,
      .inl ⟨wants_guard false rfl rfl rfl (av_rs 6 rfl rfl), does_cmp (m := (((dg BB p0.natAbs).length : Nat) : Int)) (n := 5) _ _ _ _ _ rfl rfl rfl rfl rfl rfl .i64 (ar_tmp (av_rs 10 rfl rfl)) (ar_const (fun _ => rfl))⟩,
      .inl ⟨wants_plain rfl, does_pick false _ _ _ rfl rfl rfl rfl rfl (ar_tmp (av_rs 6 rfl rfl)) (ar_tmp (av_rs 11 rfl rfl))⟩,
      .inl ⟨wants_plain rfl, does_move _ (.inl rfl) rfl rfl rfl rfl (ar_tmp (av_rs 12 rfl rfl))⟩,
      .inl ⟨wants_guard false rfl rfl rfl (av_bool (gt5_no hp0) (av_rs 13 rfl rfl)), does_field _ _ _ 2 ty_f1_api_Frac rfl rfl rfl rfl rfl rfl rfl (pt_box (av_fs 6 rfl))⟩,
      .inl ⟨wants_guard false rfl rfl rfl (av_bool (gt5_no hp0) (av_rs 13 rfl rfl)), does_field _ _ _ 1 ty_f1_api_Int rfl rfl rfl rfl rfl rfl rfl (pt_fp (av_rs 14 rfl rfl))⟩,
      .inl ⟨wants_guard false rfl rfl rfl (av_bool (gt5_no hp0) (av_rs 13 rfl rfl)), does_loadOne _ ty_one___uint32 rfl rfl rfl rfl rfl rfl (pt_fp (av_rs 15 rfl rfl)) (av_fs 6 rfl)⟩,
      .inl ⟨wants_guard false rfl rfl rfl (av_bool (gt5_no hp0) (av_rs 13 rfl rfl)), does_len _ _ (by kernel_rfl) rfl rfl rfl rfl rfl (ar_tmp (av_rs 16 rfl rfl))⟩,
      .inl ⟨wants_guard false rfl rfl rfl (av_bool (gt5_no hp0) (av_rs 13 rfl rfl)), does_cmp (m := (((dg BB q0.natAbs).length : Nat) : Int)) (n := 5) _ _ _ _ _ rfl rfl rfl rfl rfl rfl .i64 (ar_tmp (av_rs 17 rfl rfl)) (ar_const (fun _ => rfl))⟩,
      .inl ⟨wants_plain rfl, does_pick false _ _ _ rfl rfl rfl rfl rfl (ar_tmp (av_bool (gt5_no hp0) (av_rs 13 rfl rfl))) (ar_tmp (av_rs 18 rfl rfl))⟩,
      .inl ⟨wants_plain rfl, does_move _ (.inl rfl) rfl rfl rfl rfl (ar_tmp (av_rs 19 rfl rfl))⟩,
      .inl ⟨wants_guard false rfl rfl rfl (av_bool (gt5_no hq0) (av_rs 20 rfl rfl)), does_loadAgg _ ty_agg_api_Frac rfl rfl rfl rfl rfl rfl (pt_box (av_fs 6 rfl)) (av_fs 6 rfl)⟩,
      .inl ⟨wants_guard false rfl rfl rfl (av_bool (gt5_no hq0) (av_rs 20 rfl rfl)), does_call (g_right p0 q0 (lle hp0 (by decide)) (lle hq0 (by decide))) rfl hb_collator_collatorref02_Right rfl rfl rfl rfl ⟨(ar_tmp (av_rs 21 rfl rfl)), trivial⟩⟩,
      .inl ⟨wants_guard false rfl rfl rfl (av_bool (gt5_no hq0) (av_rs 20 rfl rfl)), does_not true _ _ rfl rfl rfl rfl rfl (ar_tmp (av_bool hb0 (av_rs 22 rfl rfl)))⟩,
      .inl ⟨wants_plain rfl, does_pick false _ _ _ rfl rfl rfl rfl rfl (ar_tmp (av_bool (gt5_no hq0) (av_rs 20 rfl rfl))) (ar_tmp (av_rs 23 rfl rfl))⟩,
      trivial⟩ ?_
    refine nx_sub (fs' := [.rows 5 3 (fodd3_EC_c p0 q0 p1 q1 x2 y2), .slot 6 (VP.int .i64 ((3 : Nat) : Int)), .slot 7 (VP.int .i64 ((0 : Nat) : Int)), .slot 8 (VP.bool (decide (((0 : Nat) : Int) < ((3 : Nat) : Int)))), .rp 9 5 0, .slot 10 (VP.agg [Bz p0, Dz p0, Bz q0, Dz q0]), .box 4 100 [Bz p0, Dz p0, Bz q0, Dz q0], .fp 11 4 0, .slot 12 (INT p0), .fp 13 4 2, .slot 14 (INT q0), .arr 15 69 2 [Bz p0, Dz p0, Bz q0, Dz q0], .slot 16 (VP.bool false), .slot 17 (VP.bool false), .fp 18 4 0, .fp 19 4 1, .slot 20 (Dz p0), .slot 21 (VP.int .i64 (((dg BB p0.natAbs).length : Nat) : Int)), .slot 22 (VP.bool (decide ((((dg BB p0.natAbs).length : Nat) : Int) > 5))), .slot 23 (VP.bool (decide ((((dg BB p0.natAbs).length : Nat) : Int) > 5))), .slot 24 (VP.bool (decide ((((dg BB p0.natAbs).length : Nat) : Int) > 5))), .fp 25 4 2, .fp 26 4 3, .slot 27 (Dz q0), .slot 28 (VP.int .i64 (((dg BB q0.natAbs).length : Nat) : Int)), .slot 29 (VP.bool (decide ((((dg BB q0.natAbs).length : Nat) : Int) > 5))), .slot 30 (VP.bool (decide ((((dg BB q0.natAbs).length : Nat) : Int) > 5))), .slot 31 (VP.bool (decide ((((dg BB q0.natAbs).length : Nat) : Int) > 5))), .slot 32 (VP.agg [Bz p0, Dz p0, Bz q0, Dz q0]), .slot 33 (VP.bool (rightF p0 q0)), .slot 34 (VP.bool false), .slot 35 (VP.bool false)]) [0, 1, 2, 3, 4, 5, 6, 7, 8, 9, 10, 11, 12, 13, 14, 15, 16, 17, 18, 19, 20, 21, 22, 23, 24, 25, 26, 27, 28, 29, 30, 31] rfl ?_
    refine nx_then ?_
    refine t_cond_f 31 rfl ?_
    refine t_skip ?_
    refine nx_block ?_
    refine nx_then ?_
    refine t_region (F := ⟨_, _, _, _⟩) [.rows 5 3 (fodd3_EC_c p0 q0 p1 q1 x2 y2), .slot 6 (VP.int .i64 ((3 : Nat) : Int)), .slot 8 (VP.bool (decide (((0 : Nat) : Int) < ((3 : Nat) : Int)))), .rp 9 5 0, .slot 10 (VP.agg [Bz p0, Dz p0, Bz q0, Dz q0]), .box 4 100 [Bz p0, Dz p0, Bz q0, Dz q0], .fp 11 4 0, .slot 12 (INT p0), .fp 13 4 2, .slot 14 (INT q0), .arr 15 69 2 [Bz p0, Dz p0, Bz q0, Dz q0], .slot 16 (VP.bool false), .slot 17 (VP.bool false), .fp 18 4 0, .fp 19 4 1, .slot 20 (Dz p0), .slot 21 (VP.int .i64 (((dg BB p0.natAbs).length : Nat) : Int)), .slot 22 (VP.bool (decide ((((dg BB p0.natAbs).length : Nat) : Int) > 5))), .slot 23 (VP.bool (decide ((((dg BB p0.natAbs).length : Nat) : Int) > 5))), .slot 24 (VP.bool (decide ((((dg BB p0.natAbs).length : Nat) : Int) > 5))), .fp 25 4 2, .fp 26 4 3, .slot 27 (Dz q0), .slot 28 (VP.int .i64 (((dg BB q0.natAbs).length : Nat) : Int)), .slot 29 (VP.bool (decide ((((dg BB q0.natAbs).length : Nat) : Int) > 5))), .slot 30 (VP.bool (decide ((((dg BB q0.natAbs).length : Nat) : Int) > 5))), .slot 31 (VP.bool (decide ((((dg BB q0.natAbs).length : Nat) : Int) > 5))), .slot 32 (VP.agg [Bz p0, Dz p0, Bz q0, Dz q0]), .slot 33 (VP.bool (rightF p0 q0)), .slot 34 (VP.bool false), .slot 35 (VP.bool false)] [(1, .slot 7 (VP.int .i64 ((0 : Nat) : Int)))] [(0, .slot 36 (VP.int .i64 ((1 : Nat) : Int))), (1, .slot 7 (VP.int .i64 ((1 : Nat) : Int)))] [0, 1, 3, 4, 5, 6, 7, 8, 9, 10, 11, 12, 13, 14, 15, 16, 17, 18, 19, 20, 21, 22, 23, 24, 25, 26, 27, 28, 29, 30, 31] [2] rfl rfl follow rfl ⟨
      .inl ⟨wants_plain rfl, does_addInt (m := ((0 : Nat) : Int)) (n := 1) _ _ _ _ rfl rfl rfl rfl rfl (by omega) (ar_tmp (av_os 0 rfl rfl)) (ar_const (fun _ => rfl))⟩,
      .inl ⟨wants_plain rfl, does_move _ (.inl rfl) rfl rfl rfl rfl (ar_tmp (av_rs 0 rfl rfl))⟩,
      trivial⟩ ?_
    refine nx_sub (fs' := [.rows 5 3 (fodd3_EC_c p0 q0 p1 q1 x2 y2), .slot 6 (VP.int .i64 ((3 : Nat) : Int)), .slot 8 (VP.bool (decide (((0 : Nat) : Int) < ((3 : Nat) : Int)))), .rp 9 5 0, .slot 10 (VP.agg [Bz p0, Dz p0, Bz q0, Dz q0]), .box 4 100 [Bz p0, Dz p0, Bz q0, Dz q0], .fp 11 4 0, .slot 12 (INT p0), .fp 13 4 2, .slot 14 (INT q0), .arr 15 69 2 [Bz p0, Dz p0, Bz q0, Dz q0], .slot 16 (VP.bool false), .slot 17 (VP.bool false), .fp 18 4 0, .fp 19 4 1, .slot 20 (Dz p0), .slot 21 (VP.int .i64 (((dg BB p0.natAbs).length : Nat) : Int)), .slot 22 (VP.bool (decide ((((dg BB p0.natAbs).length : Nat) : Int) > 5))), .slot 23 (VP.bool (decide ((((dg BB p0.natAbs).length : Nat) : Int) > 5))), .slot 24 (VP.bool (decide ((((dg BB p0.natAbs).length : Nat) : Int) > 5))), .fp 25 4 2, .fp 26 4 3, .slot 27 (Dz q0), .slot 28 (VP.int .i64 (((dg BB q0.natAbs).length : Nat) : Int)), .slot 29 (VP.bool (decide ((((dg BB q0.natAbs).length : Nat) : Int) > 5))), .slot 30 (VP.bool (decide ((((dg BB q0.natAbs).length : Nat) : Int) > 5))), .slot 31 (VP.bool (decide ((((dg BB q0.natAbs).length : Nat) : Int) > 5))), .slot 32 (VP.agg [Bz p0, Dz p0, Bz q0, Dz q0]), .slot 33 (VP.bool (rightF p0 q0)), .slot 34 (VP.bool false), .slot 35 (VP.bool false), .slot 36 (VP.int .i64 ((1 : Nat) : Int)), .slot 7 (VP.int .i64 ((1 : Nat) : Int))]) [0, 1, 2, 3, 4, 5, 6, 7, 8, 9, 10, 11, 12, 13, 14, 15, 16, 17, 18, 19, 20, 21, 22, 23, 24, 25, 26, 27, 28, 29, 30, 31, 32] rfl ?_
    exact nx_round ⟨1, by decide⟩ (by show 3 - 1 < 3 - 0; decide) [0, 1, 32] rfl
  case inr =>
    refine t_seq ?_
    refine t_region (F := ⟨_, _, _, _⟩) [.rows 5 3 (fodd3_EC_c p0 q0 p1 q1 x2 y2), .slot 6 (VP.int .i64 ((3 : Nat) : Int)), .slot 7 (VP.int .i64 ((1 : Nat) : Int))] [] [(0, .slot 8 (VP.bool (decide (((1 : Nat) : Int) < ((3 : Nat) : Int)))))] [0, 1, 2] [] rfl rfl follow rfl ⟨
      .inl ⟨wants_plain rfl, does_cmp (m := ((1 : Nat) : Int)) (n := ((3 : Nat) : Int)) _ _ _ _ _ rfl rfl rfl rfl rfl rfl .i64 (ar_tmp (av_fs 2 rfl)) (ar_tmp (av_fs 1 rfl))⟩,
      trivial⟩ ?_
    refine nx_sub (fs' := [.rows 5 3 (fodd3_EC_c p0 q0 p1 q1 x2 y2), .slot 6 (VP.int .i64 ((3 : Nat) : Int)), .slot 7 (VP.int .i64 ((1 : Nat) : Int)), .slot 8 (VP.bool (decide (((1 : Nat) : Int) < ((3 : Nat) : Int))))]) [0, 1, 2, 3] rfl ?_
    refine nx_then ?_
    refine t_seq ?_
    refine t_cond_te 3 rfl rfl ?_
    refine t_skip ?_
    refine nx_then ?_
    refine t_seq ?_
    refine t_block ?_
    refine t_seq ?_
    refine t_region (F := ⟨_, _, _, _⟩) [.rows 5 3 (fodd3_EC_c p0 q0 p1 q1 x2 y2), .slot 6 (VP.int .i64 ((3 : Nat) : Int)), .slot 7 (VP.int .i64 ((1 : Nat) : Int)), .slot 8 (VP.bool (decide (((1 : Nat) : Int) < ((3 : Nat) : Int))))] [] [(0, .rp 9 5 4), (1, .slot 10 (VP.agg [Bz p1, Dz p1, Bz q1, Dz q1])), (2, .own 4 100 4), (3, .box 4 100 [Bz p1, Dz p1, Bz q1, Dz q1])] [0, 1, 2, 3] [] rfl rfl follow rfl ⟨
      .inl ⟨wants_plain rfl, does_indexRows (m := 1) (sz := 4) _ _ rfl Try.underlying178 (fun w => run_sizeAgg ty_agg_api_Frac w) rfl rfl rfl rfl rfl rfl (by decide) rfl (av_fs 0 rfl) (ar_tmp (av_fs 2 rfl))⟩,
      .inl ⟨wants_plain rfl, does_loadRows _ rfl ty_agg_api_Frac rfl rfl rfl rfl rfl rfl rfl (av_rs 0 rfl rfl) (av_fs 0 rfl)⟩,
      .inl ⟨wants_plain rfl, does_allocOwn [Bz 0, Dz 0, Bz 0, Dz 0] ty_zero_api_Frac rfl rfl rfl rfl rfl z_frac rfl⟩,
      .inl ⟨wants_plain rfl, does_storeNew 4 _ _ ty_agg_api_Frac rfl rfl rfl rfl rfl (pt_own (av_rs 2 rfl rfl)) (av_rs 2 rfl rfl) (ar_tmp (av_rs 1 rfl rfl))⟩,
      trivial⟩ ?_
    refine nx_sub (fs' := [.rows 5 3 (fodd3_EC_c p0 q0 p1 q1 x2 y2), .slot 6 (VP.int .i64 ((3 : Nat) : Int)), .slot 7 (VP.int .i64 ((1 : Nat) : Int)), .slot 8 (VP.bool (decide (((1 : Nat) : Int) < ((3 : Nat) : Int)))), .rp 9 5 4, .slot 10 (VP.agg [Bz p1, Dz p1, Bz q1, Dz q1]), .box 4 100 [Bz p1, Dz p1, Bz q1, Dz q1]]) [0, 1, 2, 3, 4, 5, 7] rfl ?_
    refine nx_then ?_
    refine t_seq ?_
    refine t_region (F := ⟨_, _, _, _⟩) [.rows 5 3 (fodd3_EC_c p0 q0 p1 q1 x2 y2), .slot 6 (VP.int .i64 ((3 : Nat) : Int)), .slot 7 (VP.int .i64 ((1 : Nat) : Int)), .slot 8 (VP.bool (decide (((1 : Nat) : Int) < ((3 : Nat) : Int)))), .rp 9 5 4, .slot 10 (VP.agg [Bz p1, Dz p1, Bz q1, Dz q1]), .box 4 100 [Bz p1, Dz p1, Bz q1, Dz q1]] [] [(0, .fp 11 4 0), (1, .slot 12 (INT p1)), (2, .fp 13 4 2), (3, .slot 14 (INT q1)), (4, .arr 15 69 2 [Bz p1, Dz p1, Bz q1, Dz q1]), (5, .slot 16 (VP.bool false)), (6, .slot 17 (VP.bool false)), (7, .fp 18 4 0), (8, .fp 19 4 1), (9, .slot 20 (Dz p1)), (10, .slot 21 (VP.int .i64 (((dg BB p1.natAbs).length : Nat) : Int))), (11, .slot 22 (VP.bool (decide ((((dg BB p1.natAbs).length : Nat) : Int) > 5)))), (12, .slot 23 (VP.bool (decide ((((dg BB p1.natAbs).length : Nat) : Int) > 5)))), (13, .slot 24 (VP.bool (decide ((((dg BB p1.natAbs).length : Nat) : Int) > 5)))), (14, .fp 25 4 2), (15, .fp 26 4 3), (16, .slot 27 (Dz q1)), (17, .slot 28 (VP.int .i64 (((dg BB q1.natAbs).length : Nat) : Int))), (18, .slot 29 (VP.bool (decide ((((dg BB q1.natAbs).length : Nat) : Int) > 5)))), (19, .slot 30 (VP.bool (decide ((((dg BB q1.natAbs).length : Nat) : Int) > 5)))), (20, .slot 31 (VP.bool (decide ((((dg BB q1.natAbs).length : Nat) : Int) > 5)))), (24, .slot 35 (VP.bool true))] [0, 1, 2, 3, 4, 5, 6] [] rfl rfl follow rfl ⟨
      .inl ⟨wants_plain rfl, does_field _ _ _ 0 ty_f0_api_Frac rfl rfl rfl rfl rfl rfl rfl (pt_box (av_fs 6 rfl))⟩,
      .inl ⟨wants_plain rfl, does_loadAgg _ ty_agg_api_Int rfl rfl rfl rfl rfl rfl (pt_fp (av_rs 0 rfl rfl)) (av_fs 6 rfl)⟩,
      .inl ⟨wants_plain rfl, does_field _ _ _ 2 ty_f1_api_Frac rfl rfl rfl rfl rfl rfl rfl (pt_box (av_fs 6 rfl))⟩,
      .inl ⟨wants_plain rfl, does_loadAgg _ ty_agg_api_Int rfl rfl rfl rfl rfl rfl (pt_fp (av_rs 2 rfl rfl)) (av_fs 6 rfl)⟩,
      .inl ⟨wants_plain rfl, does_buildSlice (sz := 2) [Bz 0, Dz 0, Bz 0, Dz 0] ty_zero_api_Int (by kernel_rfl) (fun w => run_sizeAgg ty_agg_api_Int w) rfl rfl rfl rfl rfl rfl (by kernel_rfl) (fun w => by exact z_int_2 w) (.cons 0 [Bz p1, Dz p1] rfl rfl (ar_cells_agg (ar_tmp (av_rs 1 rfl rfl))) (.cons 2 [Bz q1, Dz q1] rfl rfl (ar_cells_agg (ar_tmp (av_rs 3 rfl rfl))) (.nil _)))⟩,
      .inl ⟨wants_plain rfl, does_call (s_even2 p1 q1 (lle hp1 (by decide)) hq1) rfl hb_collator_collatorlaw01_Odd rfl rfl rfl rfl ⟨(ar_arr (av_rs 4 rfl rfl)), trivial⟩⟩,
      .inl ⟨wants_plain rfl, does_move _ (.inl rfl) rfl rfl rfl rfl (ar_tmp (av_rs 5 rfl rfl))⟩,
      .inl ⟨wants_guard false rfl rfl rfl (av_rs 6 rfl rfl), does_field _ _ _ 0 ty_f0_api_Frac rfl rfl rfl rfl rfl rfl rfl (pt_box (av_fs 6 rfl))⟩,
      .inl ⟨wants_guard false rfl rfl rfl (av_rs 6 rfl rfl), does_field _ _ _ 1 ty_f1_api_Int rfl rfl rfl rfl rfl rfl rfl (pt_fp (av_rs 7 rfl rfl))⟩,
      .inl ⟨wants_guard false rfl rfl rfl (av_rs 6 rfl rfl), does_loadOne _ ty_one___uint32 rfl rfl rfl rfl rfl rfl (pt_fp (av_rs 8 rfl rfl)) (av_fs 6 rfl)⟩,
      .inl ⟨wants_guard false rfl rfl rfl (av_rs 6 rfl rfl), does_len _ _ (by kernel_rfl) rfl rfl rfl rfl rfl (ar_tmp (av_rs 9 rfl rfl))⟩,
      .inl ⟨wants_guard false rfl rfl rfl (av_rs 6 rfl rfl), does_cmp (m := (((dg BB p1.natAbs).length : Nat) : Int)) (n := 5) _ _ _ _ _ rfl rfl rfl rfl rfl rfl .i64 (ar_tmp (av_rs 10 rfl rfl)) (ar_const (fun _ => rfl))⟩,
      .inl ⟨wants_plain rfl, does_pick false _ _ _ rfl rfl rfl rfl rfl (ar_tmp (av_rs 6 rfl rfl)) (ar_tmp (av_rs 11 rfl rfl))⟩,
      .inl ⟨wants_plain rfl, does_move _ (.inl rfl) rfl rfl rfl rfl (ar_tmp (av_rs 12 rfl rfl))⟩,
      .inl ⟨wants_guard false rfl rfl rfl (av_bool (gt5_no hp1) (av_rs 13 rfl rfl)), does_field _ _ _ 2 ty_f1_api_Frac rfl rfl rfl rfl rfl rfl rfl (pt_box (av_fs 6 rfl))⟩,
      .inl ⟨wants_guard false rfl rfl rfl (av_bool (gt5_no hp1) (av_rs 13 rfl rfl)), does_field _ _ _ 1 ty_f1_api_Int rfl rfl rfl rfl rfl rfl rfl (pt_fp (av_rs 14 rfl rfl))⟩,
      .inl ⟨wants_guard false rfl rfl rfl (av_bool (gt5_no hp1) (av_rs 13 rfl rfl)), does_loadOne _ ty_one___uint32 rfl rfl rfl rfl rfl rfl (pt_fp (av_rs 15 rfl rfl)) (av_fs 6 rfl)⟩,
      .inl ⟨wants_guard false rfl rfl rfl (av_bool (gt5_no hp1) (av_rs 13 rfl rfl)), does_len _ _ (by kernel_rfl) rfl rfl rfl rfl rfl (ar_tmp (av_rs 16 rfl rfl))⟩,
      .inl ⟨wants_guard false rfl rfl rfl (av_bool (gt5_no hp1) (av_rs 13 rfl rfl)), does_cmp (m := (((dg BB q1.natAbs).length : Nat) : Int)) (n := 5) _ _ _ _ _ rfl rfl rfl rfl rfl rfl .i64 (ar_tmp (av_rs 17 rfl rfl)) (ar_const (fun _ => rfl))⟩,
      .inl ⟨wants_plain rfl, does_pick false _ _ _ rfl rfl rfl rfl rfl (ar_tmp (av_bool (gt5_no hp1) (av_rs 13 rfl rfl))) (ar_tmp (av_rs 18 rfl rfl))⟩,
      .inl ⟨wants_plain rfl, does_move _ (.inl rfl) rfl rfl rfl rfl (ar_tmp (av_rs 19 rfl rfl))⟩,
      .inr (skips_guard true rfl rfl rfl (av_bool (gt5_yes hb1) (av_rs 20 rfl rfl)) rfl rfl rfl rfl),
      .inr (skips_guard true rfl rfl rfl (av_bool (gt5_yes hb1) (av_rs 20 rfl rfl)) rfl rfl rfl rfl),
      .inr (skips_guard true rfl rfl rfl (av_bool (gt5_yes hb1) (av_rs 20 rfl rfl)) rfl rfl rfl rfl),
      .inl ⟨wants_plain rfl, does_pick true _ _ _ rfl rfl rfl rfl rfl (ar_tmp (av_bool (gt5_yes hb1) (av_rs 20 rfl rfl))) (ar_const (fun _ => rfl))⟩,
      trivial⟩ ?_
    refine nx_sub (fs' := [.rows 5 3 (fodd3_EC_c p0 q0 p1 q1 x2 y2), .slot 6 (VP.int .i64 ((3 : Nat) : Int)), .slot 7 (VP.int .i64 ((1 : Nat) : Int)), .slot 8 (VP.bool (decide (((1 : Nat) : Int) < ((3 : Nat) : Int)))), .rp 9 5 4, .slot 10 (VP.agg [Bz p1, Dz p1, Bz q1, Dz q1]), .box 4 100 [Bz p1, Dz p1, Bz q1, Dz q1], .fp 11 4 0, .slot 12 (INT p1), .fp 13 4 2, .slot 14 (INT q1), .arr 15 69 2 [Bz p1, Dz p1, Bz q1, Dz q1], .slot 16 (VP.bool false), .slot 17 (VP.bool false), .fp 18 4 0, .fp 19 4 1, .slot 20 (Dz p1), .slot 21 (VP.int .i64 (((dg BB p1.natAbs).length : Nat) : Int)), .slot 22 (VP.bool (decide ((((dg BB p1.natAbs).length : Nat) : Int) > 5))), .slot 23 (VP.bool (decide ((((dg BB p1.natAbs).length : Nat) : Int) > 5))), .slot 24 (VP.bool (decide ((((dg BB p1.natAbs).length : Nat) : Int) > 5))), .fp 25 4 2, .fp 26 4 3, .slot 27 (Dz q1), .slot 28 (VP.int .i64 (((dg BB q1.natAbs).length : Nat) : Int)), .slot 29 (VP.bool (decide ((((dg BB q1.natAbs).length : Nat) : Int) > 5))), .slot 30 (VP.bool (decide ((((dg BB q1.natAbs).length : Nat) : Int) > 5))), .slot 31 (VP.bool (decide ((((dg BB q1.natAbs).length : Nat) : Int) > 5))), .slot 35 (VP.bool true)]) [0, 1, 2, 3, 4, 5, 6, 7, 8, 9, 10, 11, 12, 13, 14, 15, 16, 17, 18, 19, 20, 21, 22, 23, 24, 25, 26, 27, 28] rfl ?_
    refine nx_then ?_
    refine t_cond_t 28 rfl ?_
    refine t_seq ?_
    refine t_region (F := ⟨_, _, _, _⟩) [.rows 5 3 (fodd3_EC_c p0 q0 p1 q1 x2 y2), .slot 6 (VP.int .i64 ((3 : Nat) : Int)), .slot 7 (VP.int .i64 ((1 : Nat) : Int)), .slot 8 (VP.bool (decide (((1 : Nat) : Int) < ((3 : Nat) : Int)))), .rp 9 5 4, .slot 10 (VP.agg [Bz p1, Dz p1, Bz q1, Dz q1]), .box 4 100 [Bz p1, Dz p1, Bz q1, Dz q1], .fp 11 4 0, .slot 12 (INT p1), .fp 13 4 2, .slot 14 (INT q1), .arr 15 69 2 [Bz p1, Dz p1, Bz q1, Dz q1], .slot 16 (VP.bool false), .slot 17 (VP.bool false), .fp 18 4 0, .fp 19 4 1, .slot 20 (Dz p1), .slot 21 (VP.int .i64 (((dg BB p1.natAbs).length : Nat) : Int)), .slot 22 (VP.bool (decide ((((dg BB p1.natAbs).length : Nat) : Int) > 5))), .slot 23 (VP.bool (decide ((((dg BB p1.natAbs).length : Nat) : Int) > 5))), .slot 24 (VP.bool (decide ((((dg BB p1.natAbs).length : Nat) : Int) > 5))), .fp 25 4 2, .fp 26 4 3, .slot 27 (Dz q1), .slot 28 (VP.int .i64 (((dg BB q1.natAbs).length : Nat) : Int)), .slot 29 (VP.bool (decide ((((dg BB q1.natAbs).length : Nat) : Int) > 5))), .slot 30 (VP.bool (decide ((((dg BB q1.natAbs).length : Nat) : Int) > 5))), .slot 31 (VP.bool (decide ((((dg BB q1.natAbs).length : Nat) : Int) > 5))), .slot 35 (VP.bool true)] [] [(0, .slot 2 (VP.bool true))] [0, 1, 2, 3, 4, 5, 6, 7, 8, 9, 10, 11, 12, 13, 14, 15, 16, 17, 18, 19, 20, 21, 22, 23, 24, 25, 26, 27, 28] [] rfl rfl follow rfl ⟨
      .inl ⟨wants_plain rfl, does_move _ (.inr rfl) rfl rfl rfl rfl (ar_const (fun _ => rfl))⟩,
      trivial⟩ ?_
    refine nx_sub (fs' := [.rows 5 3 (fodd3_EC_c p0 q0 p1 q1 x2 y2), .slot 6 (VP.int .i64 ((3 : Nat) : Int)), .slot 7 (VP.int .i64 ((1 : Nat) : Int)), .slot 8 (VP.bool (decide (((1 : Nat) : Int) < ((3 : Nat) : Int)))), .rp 9 5 4, .slot 10 (VP.agg [Bz p1, Dz p1, Bz q1, Dz q1]), .box 4 100 [Bz p1, Dz p1, Bz q1, Dz q1], .fp 11 4 0, .slot 12 (INT p1), .fp 13 4 2, .slot 14 (INT q1), .arr 15 69 2 [Bz p1, Dz p1, Bz q1, Dz q1], .slot 16 (VP.bool false), .slot 17 (VP.bool false), .fp 18 4 0, .fp 19 4 1, .slot 20 (Dz p1), .slot 21 (VP.int .i64 (((dg BB p1.natAbs).length : Nat) : Int)), .slot 22 (VP.bool (decide ((((dg BB p1.natAbs).length : Nat) : Int) > 5))), .slot 23 (VP.bool (decide ((((dg BB p1.natAbs).length : Nat) : Int) > 5))), .slot 24 (VP.bool (decide ((((dg BB p1.natAbs).length : Nat) : Int) > 5))), .fp 25 4 2, .fp 26 4 3, .slot 27 (Dz q1), .slot 28 (VP.int .i64 (((dg BB q1.natAbs).length : Nat) : Int)), .slot 29 (VP.bool (decide ((((dg BB q1.natAbs).length : Nat) : Int) > 5))), .slot 30 (VP.bool (decide ((((dg BB q1.natAbs).length : Nat) : Int) > 5))), .slot 31 (VP.bool (decide ((((dg BB q1.natAbs).length : Nat) : Int) > 5))), .slot 35 (VP.bool true), .slot 2 (VP.bool true)]) [0, 1, 2, 3, 4, 5, 6, 7, 8, 9, 10, 11, 12, 13, 14, 15, 16, 17, 18, 19, 20, 21, 22, 23, 24, 25, 26, 27, 28, 29] rfl ?_
    refine nx_then ?_
    refine t_ret ?_
    refine rt_block ?_
    refine rt_then ?_
    refine rt_then ?_
    refine rt_block ?_
    refine rt_then ?_
    exact rt_one rfl (res_tmp 29 rfl)
abbrev fodd3_ED_c (p0 q0 : Int) (p1 q1 : Int) (x2 y2 : Raw) : List VP := [Bz p0, Dz p0, Bz q0, Dz q0, Bz p1, Dz p1, Bz q1, Dz q1, VP.bool x2.1, VP.nums .u32 x2.2, VP.bool y2.1, VP.nums .u32 y2.2]
set_option maxRecDepth 100000 in
set_option maxHeartbeats 4000000 in
theorem fodd3_ED (p0 q0 : Int) (hp0 : L p0 ≤ 5) (hq0 : L q0 ≤ 5) (hb0 : rightF p0 q0 = true) (p1 q1 : Int) (hp1 : L p1 ≤ 5) (hq1 : L q1 ≤ 5) (hb1 : rightF p1 q1 = false) (x2 y2 : Raw) : Spec Try.prog 73 [isRows 3 (fodd3_ED_c p0 q0 p1 q1 x2 y2)] (VP.bool true) := by
  refine spec_ofP (xs := [.rows 3 (fodd3_ED_c p0 q0 p1 q1 x2 y2)]) 37 [4] Try.func73 rfl Try.ntmps73 rfl fun w0 => ?_
  refine t_seq ?_
  refine t_region (F := ⟨_, _, _, _⟩) [.rows 0 3 (fodd3_ED_c p0 q0 p1 q1 x2 y2)] [] [(0, .slot 2 (VP.bool false))] [0] [] rfl rfl follow rfl ⟨
    .inl ⟨wants_plain rfl, does_move _ (.inr rfl) rfl rfl rfl rfl (ar_const (fun _ => rfl))⟩,
    trivial⟩ ?_
  refine nx_sub (fs' := [.rows 0 3 (fodd3_ED_c p0 q0 p1 q1 x2 y2), .slot 2 (VP.bool false)]) [0, 1] rfl ?_
  refine nx_then ?_
  refine t_seq ?_
  refine t_seq ?_
  refine t_region (F := ⟨_, _, _, _⟩) [.rows 0 3 (fodd3_ED_c p0 q0 p1 q1 x2 y2), .slot 2 (VP.bool false)] [] [(0, .rows 5 3 (fodd3_ED_c p0 q0 p1 q1 x2 y2)), (1, .slot 6 (VP.int .i64 ((3 : Nat) : Int))), (2, .slot 7 (VP.int .i64 0))] [0, 1] [] rfl rfl follow rfl ⟨
    .inl ⟨wants_plain rfl, does_moveRows _ (.inl rfl) rfl rfl rfl rfl rfl (av_fs 0 rfl)⟩,
    .inl ⟨wants_plain rfl, does_lenRows _ _ rfl (by kernel_rfl) rfl rfl rfl rfl rfl (av_rs 0 rfl rfl)⟩,
    .inl ⟨wants_plain rfl, does_move _ (.inl rfl) rfl rfl rfl rfl (ar_const (fun _ => rfl))⟩,
    trivial⟩ ?_
  refine nx_sub (fs' := [.slot 2 (VP.bool false), .rows 5 3 (fodd3_ED_c p0 q0 p1 q1 x2 y2), .slot 6 (VP.int .i64 ((3 : Nat) : Int)), .slot 7 (VP.int .i64 0)]) [1, 2, 3, 4] rfl ?_
  refine nx_then ?_
  refine t_block ?_
  refine t_loop (σ := {k : Nat // k ≤ 1}) (fun s => [.rows 5 3 (fodd3_ED_c p0 q0 p1 q1 x2 y2), .slot 6 (VP.int .i64 ((3 : Nat) : Int)), .slot 7 (VP.int .i64 ((s.1 : Nat) : Int))]) (fun s => 3 - s.1) (⟨0, by decide⟩) [1, 2, 3] rfl ?_
  intro s
  obtain ⟨k, hk⟩ := s
  have hc : k = 0 ∨ k = 1 := by omega
  rcases hc with rfl | rfl
  case inl =>
    refine t_seq ?_
    refine t_region (F := ⟨_, _, _, _⟩) [.rows 5 3 (fodd3_ED_c p0 q0 p1 q1 x2 y2), .slot 6 (VP.int .i64 ((3 : Nat) : Int)), .slot 7 (VP.int .i64 ((0 : Nat) : Int))] [] [(0, .slot 8 (VP.bool (decide (((0 : Nat) : Int) < ((3 : Nat) : Int)))))] [0, 1, 2] [] rfl rfl follow rfl ⟨
      .inl ⟨wants_plain rfl, does_cmp (m := ((0 : Nat) : Int)) (n := ((3 : Nat) : Int)) _ _ _ _ _ rfl rfl rfl rfl rfl rfl .i64 (ar_tmp (av_fs 2 rfl)) (ar_tmp (av_fs 1 rfl))⟩,
      trivial⟩ ?_
    refine nx_sub (fs' := [.rows 5 3 (fodd3_ED_c p0 q0 p1 q1 x2 y2), .slot 6 (VP.int .i64 ((3 : Nat) : Int)), .slot 7 (VP.int .i64 ((0 : Nat) : Int)), .slot 8 (VP.bool (decide (((0 : Nat) : Int) < ((3 : Nat) : Int))))]) [0, 1, 2, 3] rfl ?_
    refine nx_then ?_
    refine t_seq ?_
    refine t_cond_te 3 rfl rfl ?_
    refine t_skip ?_
    refine nx_then ?_
    refine t_seq ?_
    refine t_block ?_
    refine t_seq ?_
    refine t_region (F := ⟨_, _, _, _⟩) [.rows 5 3 (fodd3_ED_c p0 q0 p1 q1 x2 y2), .slot 6 (VP.int .i64 ((3 : Nat) : Int)), .slot 7 (VP.int .i64 ((0 : Nat) : Int)), .slot 8 (VP.bool (decide (((0 : Nat) : Int) < ((3 : Nat) : Int))))] [] [(0, .rp 9 5 0), (1, .slot 10 (VP.agg [Bz p0, Dz p0, Bz q0, Dz q0])), (2, .own 4 100 4), (3, .box 4 100 [Bz p0, Dz p0, Bz q0, Dz q0])] [0, 1, 2, 3] [] rfl rfl follow rfl ⟨
      .inl ⟨wants_plain rfl, does_indexRows (m := 0) (sz := 4) _ _ rfl Try.underlying178 (fun w => run_sizeAgg ty_agg_api_Frac w) rfl rfl rfl rfl rfl rfl (by decide) rfl (av_fs 0 rfl) (ar_tmp (av_fs 2 rfl))⟩,
      .inl ⟨wants_plain rfl, does_loadRows _ rfl ty_agg_api_Frac rfl rfl rfl rfl rfl rfl rfl (av_rs 0 rfl rfl) (av_fs 0 rfl)⟩,
      .inl ⟨wants_plain rfl, does_allocOwn [Bz 0, Dz 0, Bz 0, Dz 0] ty_zero_api_Frac rfl rfl rfl rfl rfl z_frac rfl⟩,
      .inl ⟨wants_plain rfl, does_storeNew 4 _ _ ty_agg_api_Frac rfl rfl rfl rfl rfl (pt_own (av_rs 2 rfl rfl)) (av_rs 2 rfl rfl) (ar_tmp (av_rs 1 rfl rfl))⟩,
      trivial⟩ ?_
    refine nx_sub (fs' := [.rows 5 3 (fodd3_ED_c p0 q0 p1 q1 x2 y2), .slot 6 (VP.int .i64 ((3 : Nat) : Int)), .slot 7 (VP.int .i64 ((0 : Nat) : Int)), .slot 8 (VP.bool (decide (((0 : Nat) : Int) < ((3 : Nat) : Int)))), .rp 9 5 0, .slot 10 (VP.agg [Bz p0, Dz p0, Bz q0, Dz q0]), .box 4 100 [Bz p0, Dz p0, Bz q0, Dz q0]]) [0, 1, 2, 3, 4, 5, 7] rfl ?_
    refine nx_then ?_
    refine t_seq ?_
    refine t_region (F := ⟨_, _, _, _⟩) [.rows 5 3 (fodd3_ED_c p0 q0 p1 q1 x2 y2), .slot 6 (VP.int .i64 ((3 : Nat) : Int)), .slot 7 (VP.int .i64 ((0 : Nat) : Int)), .slot 8 (VP.bool (decide (((0 : Nat) : Int) < ((3 : Nat) : Int)))), .rp 9 5 0, .slot 10 (VP.agg [Bz p0, Dz p0, Bz q0, Dz q0]), .box 4 100 [Bz p0, Dz p0, Bz q0, Dz q0]] [] [(0, .fp 11 4 0), (1, .slot 12 (INT p0)), (2, .fp 13 4 2), (3, .slot 14 (INT q0)), (4, .arr 15 69 2 [Bz p0, Dz p0, Bz q0, Dz q0]), (5, .slot 16 (VP.bool false)), (6, .slot 17 (VP.bool false)), (7, .fp 18 4 0), (8, .fp 19 4 1), (9, .slot 20 (Dz p0)), (10, .slot 21 (VP.int .i64 (((dg BB p0.natAbs).length : Nat) : Int))), (11, .slot 22 (VP.bool (decide ((((dg BB p0.natAbs).length : Nat) : Int) > 5)))), (12, .slot 23 (VP.bool (decide ((((dg BB p0.natAbs).length : Nat) : Int) > 5)))), (13, .slot 24 (VP.bool (decide ((((dg BB p0.natAbs).length : Nat) : Int) > 5)))), (14, .fp 25 4 2), (15, .fp 26 4 3), (16, .slot 27 (Dz q0)), (17, .slot 28 (VP.int .i64 (((dg BB q0.natAbs).length : Nat) : Int))), (18, .slot 29 (VP.bool (decide ((((dg BB q0.natAbs).length : Nat) : Int) > 5)))), (19, .slot 30 (VP.bool (decide ((((dg BB q0.natAbs).length : Nat) : Int) > 5)))), (20, .slot 31 (VP.bool (decide ((((dg BB q0.natAbs).length : Nat) : Int) > 5)))), (21, .slot 32 (VP.agg [Bz p0, Dz p0, Bz q0, Dz q0])), (22, .slot 33 (VP.bool (rightF p0 q0))), (23, .slot 34 (VP.bool false)), (24, .slot 35 (VP.bool false))] [0, 1, 2, 3, 4, 5, 6] [] rfl rfl follow rfl ⟨
      .inl ⟨wants_plain rfl, does_field _ _ _ 0 ty_f0_api_Frac rfl rfl rfl rfl rfl rfl rfl (pt_box (av_fs 6 rfl))⟩,
      .inl ⟨wants_plain rfl, does_loadAgg _ ty_agg_api_Int rfl rfl rfl rfl rfl rfl (pt_fp (av_rs 0 rfl rfl)) (av_fs 6 rfl)⟩,
      .inl ⟨wants_plain rfl, does_field _ _ _ 2 ty_f1_api_Frac rfl rfl rfl rfl rfl rfl rfl (pt_box (av_fs 6 rfl))⟩,
      .inl ⟨wants_plain rfl, does_loadAgg _ ty_agg_api_Int rfl rfl rfl rfl rfl rfl (pt_fp (av_rs 2 rfl rfl)) (av_fs 6 rfl)⟩,
      .inl ⟨wants_plain rfl, does_buildSlice (sz := 2) [Bz 0, Dz 0, Bz 0, Dz 0] ty_zero_api_Int (by kernel_rfl) (fun w => run_sizeAgg ty_agg_api_Int w) rfl rfl rfl rfl rfl rfl (by kernel_rfl) (fun w => by exact z_int_2 w) (.cons 0 [Bz p0, Dz p0] rfl rfl (ar_cells_agg (ar_tmp (av_rs 1 rfl rfl))) (.cons 2 [Bz q0, Dz q0] rfl rfl (ar_cells_agg (ar_tmp (av_rs 3 rfl rfl))) (.nil _)))⟩,
      .inl ⟨wants_plain rfl, does_call (s_even2 p0 q0 (lle hp0 (by decide)) (lle hq0 (by decide))) rfl hb_collator_collatorlaw01_Odd rfl rfl rfl rfl ⟨(ar_arr (av_rs 4 rfl rfl)), trivial⟩⟩,
      .inl ⟨wants_plain rfl, does_move _ (.inl rfl) rfl rfl rfl rfl (ar_tmp (av_rs 5 rfl rfl))⟩,
      .inl ⟨wants_guard false rfl rfl rfl (av_rs 6 rfl rfl), does_field _ _ _ 0 ty_f0_api_Frac rfl rfl rfl rfl rfl rfl rfl (pt_box (av_fs 6 rfl))⟩,
      .inl ⟨wants_guard false rfl rfl rfl (av_rs 6 rfl rfl), does_field _ _ _ 1 ty_f1_api_Int rfl rfl rfl rfl rfl rfl rfl (pt_fp (av_rs 7 rfl rfl))⟩,
      .inl ⟨wants_guard false rfl rfl rfl (av_rs 6 rfl rfl), does_loadOne _ ty_one___uint32 rfl rfl rfl rfl rfl rfl (pt_fp (av_rs 8 rfl rfl)) (av_fs 6 rfl)⟩,
      .inl ⟨wants_guard false rfl rfl rfl (av_rs 6 rfl rfl), does_len _ _ (by kernel_rfl) rfl rfl rfl rfl rfl (ar_tmp (av_rs 9 rfl rfl))⟩,
      .inl ⟨wants_guard false rfl rfl rfl (av_rs 6 rfl rfl), does_cmp (m := (((dg BB p0.natAbs).length : Nat) : Int)) (n := 5) _ _ _ _ _ rfl rfl rfl rfl rfl rfl .i64 (ar_tmp (av_rs 10 rfl rfl)) (ar_const (fun _ => rfl))⟩,
      .inl ⟨wants_plain rfl, does_pick false _ _ _ rfl rfl rfl rfl rfl (ar_tmp (av_rs 6 rfl rfl)) (ar_tmp (av_rs 11 rfl rfl))⟩,
      .inl ⟨wants_plain rfl, does_move _ (.inl rfl) rfl rfl rfl rfl (ar_tmp (av_rs 12 rfl rfl))⟩,
      .inl ⟨wants_guard false rfl rfl rfl (av_bool (gt5_no hp0) (av_rs 13 rfl rfl)), does_field _ _ _ 2 ty_f1_api_Frac rfl rfl rfl rfl rfl rfl rfl (pt_box (av_fs 6 rfl))⟩,
      .inl ⟨wants_guard false rfl rfl rfl (av_bool (gt5_no hp0) (av_rs 13 rfl rfl)), does_field _ _ _ 1 ty_f1_api_Int rfl rfl rfl rfl rfl rfl rfl (pt_fp (av_rs 14 rfl rfl))⟩,
      .inl ⟨wants_guard false rfl rfl rfl (av_bool (gt5_no hp0) (av_rs 13 rfl rfl)), does_loadOne _ ty_one___uint32 rfl rfl rfl rfl rfl rfl (pt_fp (av_rs 15 rfl rfl)) (av_fs 6 rfl)⟩,
      .inl ⟨wants_guard false rfl rfl rfl (av_bool (gt5_no hp0) (av_rs 13 rfl rfl)), does_len _ _ (by kernel_rfl) rfl rfl rfl rfl rfl (ar_tmp (av_rs 16 rfl rfl))⟩,
      .inl ⟨wants_guard false rfl rfl rfl (av_bool (gt5_no hp0) (av_rs 13 rfl rfl)), does_cmp (m := (((dg BB q0.natAbs).length : Nat) : Int)) (n := 5) _ _ _ _ _ rfl rfl rfl rfl rfl rfl .i64 (ar_tmp (av_rs 17 rfl rfl)) (ar_const (fun _ => rfl))⟩,
      .inl ⟨wants_plain rfl, does_pick false _ _ _ rfl rfl rfl rfl rfl (ar_tmp (av_bool (gt5_no hp0) (av_rs 13 rfl rfl))) (ar_tmp (av_rs 18 rfl rfl))⟩,
      .inl ⟨wants_plain rfl, does_move _ (.inl rfl) rfl rfl rfl rfl (ar_tmp (av_rs 19 rfl rfl))⟩,
      .inl ⟨wants_guard false rfl rfl rfl (av_bool (gt5_no hq0) (av_rs 20 rfl rfl)), does_loadAgg _ ty_agg_api_Frac rfl rfl rfl rfl rfl rfl (pt_box (av_fs 6 rfl)) (av_fs 6 rfl)⟩,
      .inl ⟨wants_guard false rfl rfl rfl (av_bool (gt5_no hq0) (av_rs 20 rfl rfl)), does_call (g_right p0 q0 (lle hp0 (by decide)) (lle hq0 (by decide))) rfl hb_collator_collatorref02_Right rfl rfl rfl rfl ⟨(ar_tmp (av_rs 21 rfl rfl)), trivial⟩⟩,
      .inl ⟨wants_guard false rfl rfl rfl (av_bool (gt5_no hq0) (av_rs 20 rfl rfl)), does_not true _ _ rfl rfl rfl rfl rfl (ar_tmp (av_bool hb0 (av_rs 22 rfl rfl)))⟩,
      .inl ⟨wants_plain rfl, does_pick false _ _ _ rfl rfl rfl rfl rfl (ar_tmp (av_bool (gt5_no hq0) (av_rs 20 rfl rfl))) (ar_tmp (av_rs 23 rfl rfl))⟩,
      trivial⟩ ?_
    refine nx_sub (fs' := [.rows 5 3 (fodd3_ED_c p0 q0 p1 q1 x2 y2), .slot 6 (VP.int .i64 ((3 : Nat) : Int)), .slot 7 (VP.int .i64 ((0 : Nat) : Int)), .slot 8 (VP.bool (decide (((0 : Nat) : Int) < ((3 : Nat) : Int)))), .rp 9 5 0, .slot 10 (VP.agg [Bz p0, Dz p0, Bz q0, Dz q0]), .box 4 100 [Bz p0, Dz p0, Bz q0, Dz q0], .fp 11 4 0, .slot 12 (INT p0), .fp 13 4 2, .slot 14 (INT q0), .arr 15 69 2 [Bz p0, Dz p0, Bz q0, Dz q0], .slot 16 (VP.bool false), .slot 17 (VP.bool false), .fp 18 4 0, .fp 19 4 1, .slot 20 (Dz p0), .slot 21 (VP.int .i64 (((dg BB p0.natAbs).length : Nat) : Int)), .slot 22 (VP.bool (decide ((((dg BB p0.natAbs).length : Nat) : Int) > 5))), .slot 23 (VP.bool (decide ((((dg BB p0.natAbs).length : Nat) : Int) > 5))), .slot 24 (VP.bool (decide ((((dg BB p0.natAbs).length : Nat) : Int) > 5))), .fp 25 4 2, .fp 26 4 3, .slot 27 (Dz q0), .slot 28 (VP.int .i64 (((dg BB q0.natAbs).length : Nat) : Int)), .slot 29 (VP.bool (decide ((((dg BB q0.natAbs).length : Nat) : Int) > 5))), .slot 30 (VP.bool (decide ((((dg BB q0.natAbs).length : Nat) : Int) > 5))), .slot 31 (VP.bool (decide ((((dg BB q0.natAbs).length : Nat) : Int) > 5))), .slot 32 (VP.agg [Bz p0, Dz p0, Bz q0, Dz q0]), .slot 33 (VP.bool (rightF p0 q0)), .slot 34 (VP.bool false), .slot 35 (VP.bool false)]) [0, 1, 2, 3, 4, 5, 6, 7, 8, 9, 10, 11, 12, 13, 14, 15, 16, 17, 18, 19, 20, 21, 22, 23, 24, 25, 26, 27, 28, 29, 30, 31] rfl ?_
    refine nx_then ?_
    refine t_cond_f 31 rfl ?_
    refine t_skip ?_
    refine nx_block ?_
    refine nx_then ?_
    refine t_region (F := ⟨_, _, _, _⟩) [.rows 5 3 (fodd3_ED_c p0 q0 p1 q1 x2 y2), .slot 6 (VP.int .i64 ((3 : Nat) : Int)), .slot 8 (VP.bool (decide (((0 : Nat) : Int) < ((3 : Nat) : Int)))), .rp 9 5 0, .slot 10 (VP.agg [Bz p0, Dz p0, Bz q0, Dz q0]), .box 4 100 [Bz p0, Dz p0, Bz q0, Dz q0], .fp 11 4 0, .slot 12 (INT p0), .fp 13 4 2, .slot 14 (INT q0), .arr 15 69 2 [Bz p0, Dz p0, Bz q0, Dz q0], .slot 16 (VP.bool false), .slot 17 (VP.bool false), .fp 18 4 0, .fp 19 4 1, .slot 20 (Dz p0), .slot 21 (VP.int .i64 (((dg BB p0.natAbs).length : Nat) : Int)), .slot 22 (VP.bool (decide ((((dg BB p0.natAbs).length : Nat) : Int) > 5))), .slot 23 (VP.bool (decide ((((dg BB p0.natAbs).length : Nat) : Int) > 5))), .slot 24 (VP.bool (decide ((((dg BB p0.natAbs).length : Nat) : Int) > 5))), .fp 25 4 2, .fp 26 4 3, .slot 27 (Dz q0), .slot 28 (VP.int .i64 (((dg BB q0.natAbs).length : Nat) : Int)), .slot 29 (VP.bool (decide ((((dg BB q0.natAbs).length : Nat) : Int) > 5))), .slot 30 (VP.bool (decide ((((dg BB q0.natAbs).length : Nat) : Int) > 5))), .slot 31 (VP.bool (decide ((((dg BB q0.natAbs).length : Nat) : Int) > 5))), .slot 32 (VP.agg [Bz p0, Dz p0, Bz q0, Dz q0]), .slot 33 (VP.bool (rightF p0 q0)), .slot 34 (VP.bool false), .slot 35 (VP.bool false)] [(1, .slot 7 (VP.int .i64 ((0 : Nat) : Int)))] [(0, .slot 36 (VP.int .i64 ((1 : Nat) : Int))), (1, .slot 7 (VP.int .i64 ((1 : Nat) : Int)))] [0, 1, 3, 4, 5, 6, 7, 8, 9, 10, 11, 12, 13, 14, 15, 16, 17, 18, 19, 20, 21, 22, 23, 24, 25, 26, 27, 28, 29, 30, 31] [2] rfl rfl follow rfl ⟨
      .inl ⟨wants_plain rfl, does_addInt (m := ((0 : Nat) : Int)) (n := 1) _ _ _ _ rfl rfl rfl rfl rfl (by omega) (ar_tmp (av_os 0 rfl rfl)) (ar_const (fun _ => rfl))⟩,
      .inl ⟨wants_plain rfl, does_move _ (.inl rfl) rfl rfl rfl rfl (ar_tmp (av_rs 0 rfl rfl))⟩,
      trivial⟩ ?_
    refine nx_sub (fs' := [.rows 5 3 (fodd3_ED_c p0 q0 p1 q1 x2 y2), .slot 6 (VP.int .i64 ((3 : Nat) : Int)), .slot 8 (VP.bool (decide (((0 : Nat) : Int) < ((3 : Nat) : Int)))), .rp 9 5 0, .slot 10 (VP.agg [Bz p0, Dz p0, Bz q0, Dz q0]), .box 4 100 [Bz p0, Dz p0, Bz q0, Dz q0], .fp 11 4 0, .slot 12 (INT p0), .fp 13 4 2, .slot 14 (INT q0), .arr 15 69 2 [Bz p0, Dz p0, Bz q0, Dz q0], .slot 16 (VP.bool false), .slot 17 (VP.bool false), .fp 18 4 0, .fp 19 4 1, .slot 20 (Dz p0), .slot 21 (VP.int .i64 (((dg BB p0.natAbs).length : Nat) : Int)), .slot 22 (VP.bool (decide ((((dg BB p0.natAbs).length : Nat) : Int) > 5))), .slot 23 (VP.bool (decide ((((dg BB p0.natAbs).length : Nat) : Int) > 5))), .slot 24 (VP.bool (decide ((((dg BB p0.natAbs).length : Nat) : Int) > 5))), .fp 25 4 2, .fp 26 4 3, .slot 27 (Dz q0), .slot 28 (VP.int .i64 (((dg BB q0.natAbs).length : Nat) : Int)), .slot 29 (VP.bool (decide ((((dg BB q0.natAbs).length : Nat) : Int) > 5))), .slot 30 (VP.bool (decide ((((dg BB q0.natAbs).length : Nat) : Int) > 5))), .slot 31 (VP.bool (decide ((((dg BB q0.natAbs).length : Nat) : Int) > 5))), .slot 32 (VP.agg [Bz p0, Dz p0, Bz q0, Dz q0]), .slot 33 (VP.bool (rightF p0 q0)), .slot 34 (VP.bool false), .slot 35 (VP.bool false), .slot 36 (VP.int .i64 ((1 : Nat) : Int)), .slot 7 (VP.int .i64 ((1 : Nat) : Int))]) [0, 1, 2, 3, 4, 5, 6, 7, 8, 9, 10, 11, 12, 13, 14, 15, 16, 17, 18, 19, 20, 21, 22, 23, 24, 25, 26, 27, 28, 29, 30, 31, 32] rfl ?_
    exact nx_round ⟨1, by decide⟩ (by show 3 - 1 < 3 - 0; decide) [0, 1, 32] rfl
  case inr =>
    refine t_seq ?_
    refine t_region (F := ⟨_, _, _, _⟩) [.rows 5 3 (fodd3_ED_c p0 q0 p1 q1 x2 y2), .slot 6 (VP.int .i64 ((3 : Nat) : Int)), .slot 7 (VP.int .i64 ((1 : Nat) : Int))] [] [(0, .slot 8 (VP.bool (decide (((1 : Nat) : Int) < ((3 : Nat) : Int)))))] [0, 1, 2] [] rfl rfl follow rfl ⟨
      .inl ⟨wants_plain rfl, does_cmp (m := ((1 : Nat) : Int)) (n := ((3 : Nat) : Int)) _ _ _ _ _ rfl rfl rfl rfl rfl rfl .i64 (ar_tmp (av_fs 2 rfl)) (ar_tmp (av_fs 1 rfl))⟩,
      trivial⟩ ?_
    refine nx_sub (fs' := [.rows 5 3 (fodd3_ED_c p0 q0 p1 q1 x2 y2), .slot 6 (VP.int .i64 ((3 : Nat) : Int)), .slot 7 (VP.int .i64 ((1 : Nat) : Int)), .slot 8 (VP.bool (decide (((1 : Nat) : Int) < ((3 : Nat) : Int))))]) [0, 1, 2, 3] rfl ?_
    refine nx_then ?_
    refine t_seq ?_
    refine t_cond_te 3 rfl rfl ?_
    refine t_skip ?_
    refine nx_then ?_
    refine t_seq ?_
    refine t_block ?_
    refine t_seq ?_
    refine t_region (F := ⟨_, _, _, _⟩) [.rows 5 3 (fodd3_ED_c p0 q0 p1 q1 x2 y2), .slot 6 (VP.int .i64 ((3 : Nat) : Int)), .slot 7 (VP.int .i64 ((1 : Nat) : Int)), .slot 8 (VP.bool (decide (((1 : Nat) : Int) < ((3 : Nat) : Int))))] [] [(0, .rp 9 5 4), (1, .slot 10 (VP.agg [Bz p1, Dz p1, Bz q1, Dz q1])), (2, .own 4 100 4), (3, .box 4 100 [Bz p1, Dz p1, Bz q1, Dz q1])] [0, 1, 2, 3] [] rfl rfl follow rfl ⟨
      .inl ⟨wants_plain rfl, does_indexRows (m := 1) (sz := 4) _ _ rfl Try.underlying178 (fun w => run_sizeAgg ty_agg_api_Frac w) rfl rfl rfl rfl rfl rfl (by decide) rfl (av_fs 0 rfl) (ar_tmp (av_fs 2 rfl))⟩,
      .inl ⟨wants_plain rfl, does_loadRows _ rfl ty_agg_api_Frac rfl rfl rfl rfl rfl rfl rfl (av_rs 0 rfl rfl) (av_fs 0 rfl)⟩,
      .inl ⟨wants_plain rfl, does_allocOwn [Bz 0, Dz 0, Bz 0, Dz 0] ty_zero_api_Frac rfl rfl rfl rfl rfl z_frac rfl⟩,
      .inl ⟨wants_plain rfl, does_storeNew 4 _ _ ty_agg_api_Frac rfl rfl rfl rfl rfl (pt_own (av_rs 2 rfl rfl)) (av_rs 2 rfl rfl) (ar_tmp (av_rs 1 rfl rfl))⟩,
      trivial⟩ ?_
    refine nx_sub (fs' := [.rows 5 3 (fodd3_ED_c p0 q0 p1 q1 x2 y2), .slot 6 (VP.int .i64 ((3 : Nat) : Int)), .slot 7 (VP.int .i64 ((1 : Nat) : Int)), .slot 8 (VP.bool (decide (((1 : Nat) : Int) < ((3 : Nat) : Int)))), .rp 9 5 4, .slot 10 (VP.agg [Bz p1, Dz p1, Bz q1, Dz q1]), .box 4 100 [Bz p1, Dz p1, Bz q1, Dz q1]]) [0, 1, 2, 3, 4, 5, 7] rfl ?_
    refine nx_then ?_
    refine t_seq ?_
    refine t_region (F := ⟨_, _, _, _⟩) [.rows 5 3 (fodd3_ED_c p0 q0 p1 q1 x2 y2), .slot 6 (VP.int .i64 ((3 : Nat) : Int)), .slot 7 (VP.int .i64 ((1 : Nat) : Int)), .slot 8 (VP.bool (decide (((1 : Nat) : Int) < ((3 : Nat) : Int)))), .rp 9 5 4, .slot 10 (VP.agg [Bz p1, Dz p1, Bz q1, Dz q1]), .box 4 100 [Bz p1, Dz p1, Bz q1, Dz q1]] [] [(0, .fp 11 4 0), (1, .slot 12 (INT p1)), (2, .fp 13 4 2), (3, .slot 14 (INT q1)), (4, .arr 15 69 2 [Bz p1, Dz p1, Bz q1, Dz q1]), (5, .slot 16 (VP.bool false)), (6, .slot 17 (VP.bool false)), (7, .fp 18 4 0), (8, .fp 19 4 1), (9, .slot 20 (Dz p1)), (10, .slot 21 (VP.int .i64 (((dg BB p1.natAbs).length : Nat) : Int))), (11, .slot 22 (VP.bool (decide ((((dg BB p1.natAbs).length : Nat) : Int) > 5)))), (12, .slot 23 (VP.bool (decide ((((dg BB p1.natAbs).length : Nat) : Int) > 5)))), (13, .slot 24 (VP.bool (decide ((((dg BB p1.natAbs).length : Nat) : Int) > 5)))), (14, .fp 25 4 2), (15, .fp 26 4 3), (16, .slot 27 (Dz q1)), (17, .slot 28 (VP.int .i64 (((dg BB q1.natAbs).length : Nat) : Int))), (18, .slot 29 (VP.bool (decide ((((dg BB q1.natAbs).length : Nat) : Int) > 5)))), (19, .slot 30 (VP.bool (decide ((((dg BB q1.natAbs).length : Nat) : Int) > 5)))), (20, .slot 31 (VP.bool (decide ((((dg BB q1.natAbs).length : Nat) : Int) > 5)))), (21, .slot 32 (VP.agg [Bz p1, Dz p1, Bz q1, Dz q1])), (22, .slot 33 (VP.bool (rightF p1 q1))), (23, .slot 34 (VP.bool true)), (24, .slot 35 (VP.bool true))] [0, 1, 2, 3, 4, 5, 6] [] rfl rfl follow rfl ⟨
      .inl ⟨wants_plain rfl, does_field _ _ _ 0 ty_f0_api_Frac rfl rfl rfl rfl rfl rfl rfl (pt_box (av_fs 6 rfl))⟩,
      .inl ⟨wants_plain rfl, does_loadAgg _ ty_agg_api_Int rfl rfl rfl rfl rfl rfl (pt_fp (av_rs 0 rfl rfl)) (av_fs 6 rfl)⟩,
      .inl ⟨wants_plain rfl, does_field _ _ _ 2 ty_f1_api_Frac rfl rfl rfl rfl rfl rfl rfl (pt_box (av_fs 6 rfl))⟩,
      .inl ⟨wants_plain rfl, does_loadAgg _ ty_agg_api_Int rfl rfl rfl rfl rfl rfl (pt_fp (av_rs 2 rfl rfl)) (av_fs 6 rfl)⟩,
      .inl ⟨wants_plain rfl, does_buildSlice (sz := 2) [Bz 0, Dz 0, Bz 0, Dz 0] ty_zero_api_Int (by kernel_rfl) (fun w => run_sizeAgg ty_agg_api_Int w) rfl rfl rfl rfl rfl rfl (by kernel_rfl) (fun w => by exact z_int_2 w) (.cons 0 [Bz p1, Dz p1] rfl rfl (ar_cells_agg (ar_tmp (av_rs 1 rfl rfl))) (.cons 2 [Bz q1, Dz q1] rfl rfl (ar_cells_agg (ar_tmp (av_rs 3 rfl rfl))) (.nil _)))⟩,
      .inl ⟨wants_plain rfl, does_call (s_even2 p1 q1 (lle hp1 (by decide)) (lle hq1 (by decide))) rfl hb_collator_collatorlaw01_Odd rfl rfl rfl rfl ⟨(ar_arr (av_rs 4 rfl rfl)), trivial⟩⟩,
      .inl ⟨wants_plain rfl, does_move _ (.inl rfl) rfl rfl rfl rfl (ar_tmp (av_rs 5 rfl rfl))⟩,
      .inl ⟨wants_guard false rfl rfl rfl (av_rs 6 rfl rfl), does_field _ _ _ 0 ty_f0_api_Frac rfl rfl rfl rfl rfl rfl rfl (pt_box (av_fs 6 rfl))⟩,
      .inl ⟨wants_guard false rfl rfl rfl (av_rs 6 rfl rfl), does_field _ _ _ 1 ty_f1_api_Int rfl rfl rfl rfl rfl rfl rfl (pt_fp (av_rs 7 rfl rfl))⟩,
      .inl ⟨wants_guard false rfl rfl rfl (av_rs 6 rfl rfl), does_loadOne _ ty_one___uint32 rfl rfl rfl rfl rfl rfl (pt_fp (av_rs 8 rfl rfl)) (av_fs 6 rfl)⟩,
      .inl ⟨wants_guard false rfl rfl rfl (av_rs 6 rfl rfl), does_len _ _ (by kernel_rfl) rfl rfl rfl rfl rfl (ar_tmp (av_rs 9 rfl rfl))⟩,
      .inl ⟨wants_guard false rfl rfl rfl (av_rs 6 rfl rfl), does_cmp (m := (((dg BB p1.natAbs).length : Nat) : Int)) (n := 5) _ _ _ _ _ rfl rfl rfl rfl rfl rfl .i64 (ar_tmp (av_rs 10 rfl rfl)) (ar_const (fun _ => rfl))⟩,
      .inl ⟨wants_plain rfl, does_pick false _ _ _ rfl rfl rfl rfl rfl (ar_tmp (av_rs 6 rfl rfl)) (ar_tmp (av_rs 11 rfl rfl))⟩,
      .inl ⟨wants_plain rfl, does_move _ (.inl rfl) rfl rfl rfl rfl (ar_tmp (av_rs 12 rfl rfl))⟩,
      .inl ⟨wants_guard false rfl rfl rfl (av_bool (gt5_no hp1) (av_rs 13 rfl rfl)), does_field _ _ _ 2 ty_f1_api_Frac rfl rfl rfl rfl rfl rfl rfl (pt_box (av_fs 6 rfl))⟩,
      .inl ⟨wants_guard false rfl rfl rfl (av_bool (gt5_no hp1) (av_rs 13 rfl rfl)), does_field _ _ _ 1 ty_f1_api_Int rfl rfl rfl rfl rfl rfl rfl (pt_fp (av_rs 14 rfl rfl))⟩,
      .inl ⟨wants_guard false rfl rfl rfl (av_bool (gt5_no hp1) (av_rs 13 rfl rfl)), does_loadOne _ ty_one___uint32 rfl rfl rfl rfl rfl rfl (pt_fp (av_rs 15 rfl rfl)) (av_fs 6 rfl)⟩,
      .inl ⟨wants_guard false rfl rfl rfl (av_bool (gt5_no hp1) (av_rs 13 rfl rfl)), does_len _ _ (by kernel_rfl) rfl rfl rfl rfl rfl (ar_tmp (av_rs 16 rfl rfl))⟩,
      .inl ⟨wants_guard false rfl rfl rfl (av_bool (gt5_no hp1) (av_rs 13 rfl rfl)), does_cmp (m := (((dg BB q1.natAbs).length : Nat) : Int)) (n := 5) _ _ _ _ _ rfl rfl rfl rfl rfl rfl .i64 (ar_tmp (av_rs 17 rfl rfl)) (ar_const (fun _ => rfl))⟩,
      .inl ⟨wants_plain rfl, does_pick false _ _ _ rfl rfl rfl rfl rfl (ar_tmp (av_bool (gt5_no hp1) (av_rs 13 rfl rfl))) (ar_tmp (av_rs 18 rfl rfl))⟩,
      .inl ⟨wants_plain rfl, does_move _ (.inl rfl) rfl rfl rfl rfl (ar_tmp (av_rs 19 rfl rfl))⟩,
      .inl ⟨wants_guard false rfl rfl rfl (av_bool (gt5_no hq1) (av_rs 20 rfl rfl)), does_loadAgg _ ty_agg_api_Frac rfl rfl rfl rfl rfl rfl (pt_box (av_fs 6 rfl)) (av_fs 6 rfl)⟩,
      .inl ⟨wants_guard false rfl rfl rfl (av_bool (gt5_no hq1) (av_rs 20 rfl rfl)), does_call (g_right p1 q1 (lle hp1 (by decide)) (lle hq1 (by decide))) rfl hb_collator_collatorref02_Right rfl rfl rfl rfl ⟨(ar_tmp (av_rs 21 rfl rfl)), trivial⟩⟩,
      .inl ⟨wants_guard false rfl rfl rfl (av_bool (gt5_no hq1) (av_rs 20 rfl rfl)), does_not false _ _ rfl rfl rfl rfl rfl (ar_tmp (av_bool hb1 (av_rs 22 rfl rfl)))⟩,
      .inl ⟨wants_plain rfl, does_pick false _ _ _ rfl rfl rfl rfl rfl (ar_tmp (av_bool (gt5_no hq1) (av_rs 20 rfl rfl))) (ar_tmp (av_rs 23 rfl rfl))⟩,
      trivial⟩ ?_
    refine nx_sub (fs' := [.rows 5 3 (fodd3_ED_c p0 q0 p1 q1 x2 y2), .slot 6 (VP.int .i64 ((3 : Nat) : Int)), .slot 7 (VP.int .i64 ((1 : Nat) : Int)), .slot 8 (VP.bool (decide (((1 : Nat) : Int) < ((3 : Nat) : Int)))), .rp 9 5 4, .slot 10 (VP.agg [Bz p1, Dz p1, Bz q1, Dz q1]), .box 4 100 [Bz p1, Dz p1, Bz q1, Dz q1], .fp 11 4 0, .slot 12 (INT p1), .fp 13 4 2, .slot 14 (INT q1), .arr 15 69 2 [Bz p1, Dz p1, Bz q1, Dz q1], .slot 16 (VP.bool false), .slot 17 (VP.bool false), .fp 18 4 0, .fp 19 4 1, .slot 20 (Dz p1), .slot 21 (VP.int .i64 (((dg BB p1.natAbs).length : Nat) : Int)), .slot 22 (VP.bool (decide ((((dg BB p1.natAbs).length : Nat) : Int) > 5))), .slot 23 (VP.bool (decide ((((dg BB p1.natAbs).length : Nat) : Int) > 5))), .slot 24 (VP.bool (decide ((((dg BB p1.natAbs).length : Nat) : Int) > 5))), .fp 25 4 2, .fp 26 4 3, .slot 27 (Dz q1), .slot 28 (VP.int .i64 (((dg BB q1.natAbs).length : Nat) : Int)), .slot 29 (VP.bool (decide ((((dg BB q1.natAbs).length : Nat) : Int) > 5))), .slot 30 (VP.bool (decide ((((dg BB q1.natAbs).length : Nat) : Int) > 5))), .slot 31 (VP.bool (decide ((((dg BB q1.natAbs).length : Nat) : Int) > 5))), .slot 32 (VP.agg [Bz p1, Dz p1, Bz q1, Dz q1]), .slot 33 (VP.bool (rightF p1 q1)), .slot 34 (VP.bool true), .slot 35 (VP.bool true)]) [0, 1, 2, 3, 4, 5, 6, 7, 8, 9, 10, 11, 12, 13, 14, 15, 16, 17, 18, 19, 20, 21, 22, 23, 24, 25, 26, 27, 28, 29, 30, 31] rfl ?_
    refine nx_then ?_
    refine t_cond_t 31 rfl ?_
    refine t_seq ?_
    refine t_region (F := ⟨_, _, _, _⟩) [.rows 5 3 (fodd3_ED_c p0 q0 p1 q1 x2 y2), .slot 6 (VP.int .i64 ((3 : Nat) : Int)), .slot 7 (VP.int .i64 ((1 : Nat) : Int)), .slot 8 (VP.bool (decide (((1 : Nat) : Int) < ((3 : Nat) : Int)))), .rp 9 5 4, .slot 10 (VP.agg [Bz p1, Dz p1, Bz q1, Dz q1]), .box 4 100 [Bz p1, Dz p1, Bz q1, Dz q1], .fp 11 4 0, .slot 12 (INT p1), .fp 13 4 2, .slot 14 (INT q1), .arr 15 69 2 [Bz p1, Dz p1, Bz q1, Dz q1], .slot 16 (VP.bool false), .slot 17 (VP.bool false), .fp 18 4 0, .fp 19 4 1, .slot 20 (Dz p1), .slot 21 (VP.int .i64 (((dg BB p1.natAbs).length : Nat) : Int)), .slot 22 (VP.bool (decide ((((dg BB p1.natAbs).length : Nat) : Int) > 5))), .slot 23 (VP.bool (decide ((((dg BB p1.natAbs).length : Nat) : Int) > 5))), .slot 24 (VP.bool (decide ((((dg BB p1.natAbs).length : Nat) : Int) > 5))), .fp 25 4 2, .fp 26 4 3, .slot 27 (Dz q1), .slot 28 (VP.int .i64 (((dg BB q1.natAbs).length : Nat) : Int)), .slot 29 (VP.bool (decide ((((dg BB q1.natAbs).length : Nat) : Int) > 5))), .slot 30 (VP.bool (decide ((((dg BB q1.natAbs).length : Nat) : Int) > 5))), .slot 31 (VP.bool (decide ((((dg BB q1.natAbs).length : Nat) : Int) > 5))), .slot 32 (VP.agg [Bz p1, Dz p1, Bz q1, Dz q1]), .slot 33 (VP.bool (rightF p1 q1)), .slot 34 (VP.bool true), .slot 35 (VP.bool true)] [] [(0, .slot 2 (VP.bool true))] [0, 1, 2, 3, 4, 5, 6, 7, 8, 9, 10, 11, 12, 13, 14, 15, 16, 17, 18, 19, 20, 21, 22, 23, 24, 25, 26, 27, 28, 29, 30, 31] [] rfl rfl follow rfl ⟨
      .inl ⟨wants_plain rfl, does_move _ (.inr rfl) rfl rfl rfl rfl (ar_const (fun _ => rfl))⟩,
      trivial⟩ ?_
    refine nx_sub (fs' := [.rows 5 3 (fodd3_ED_c p0 q0 p1 q1 x2 y2), .slot 6 (VP.int .i64 ((3 : Nat) : Int)), .slot 7 (VP.int .i64 ((1 : Nat) : Int)), .slot 8 (VP.bool (decide (((1 : Nat) : Int) < ((3 : Nat) : Int)))), .rp 9 5 4, .slot 10 (VP.agg [Bz p1, Dz p1, Bz q1, Dz q1]), .box 4 100 [Bz p1, Dz p1, Bz q1, Dz q1], .fp 11 4 0, .slot 12 (INT p1), .fp 13 4 2, .slot 14 (INT q1), .arr 15 69 2 [Bz p1, Dz p1, Bz q1, Dz q1], .slot 16 (VP.bool false), .slot 17 (VP.bool false), .fp 18 4 0, .fp 19 4 1, .slot 20 (Dz p1), .slot 21 (VP.int .i64 (((dg BB p1.natAbs).length : Nat) : Int)), .slot 22 (VP.bool (decide ((((dg BB p1.natAbs).length : Nat) : Int) > 5))), .slot 23 (VP.bool (decide ((((dg BB p1.natAbs).length : Nat) : Int) > 5))), .slot 24 (VP.bool (decide ((((dg BB p1.natAbs).length : Nat) : Int) > 5))), .fp 25 4 2, .fp 26 4 3, .slot 27 (Dz q1), .slot 28 (VP.int .i64 (((dg BB q1.natAbs).length : Nat) : Int)), .slot 29 (VP.bool (decide ((((dg BB q1.natAbs).length : Nat) : Int) > 5))), .slot 30 (VP.bool (decide ((((dg BB q1.natAbs).length : Nat) : Int) > 5))), .slot 31 (VP.bool (decide ((((dg BB q1.natAbs).length : Nat) : Int) > 5))), .slot 32 (VP.agg [Bz p1, Dz p1, Bz q1, Dz q1]), .slot 33 (VP.bool (rightF p1 q1)), .slot 34 (VP.bool true), .slot 35 (VP.bool true), .slot 2 (VP.bool true)]) [0, 1, 2, 3, 4, 5, 6, 7, 8, 9, 10, 11, 12, 13, 14, 15, 16, 17, 18, 19, 20, 21, 22, 23, 24, 25, 26, 27, 28, 29, 30, 31, 32] rfl ?_
    refine nx_then ?_
    refine t_ret ?_
    refine rt_block ?_
    refine rt_then ?_
    refine rt_then ?_
    refine rt_block ?_
    refine rt_then ?_
    exact rt_one rfl (res_tmp 32 rfl)
end Go.Proofs.Ytogodjiemgilaaa
