/- The reference's Div and Gcd, in the words of the logic over slots and boxes. -/
import Derived.Test.YtogodjiemgilaaaRef1J
namespace Go.Proofs.Ytogodjiemgilaaa
open Go.RowKit
theorem len10_yes {q : Int} (h : q = 0) : ((((dg 10 q.natAbs).length : Nat) : Int) == 0) = true := by subst h; rfl
theorem len10_no {q : Int} (h : q ≠ 0) : ((((dg 10 q.natAbs).length : Nat) : Int) == 0) = false := by
  have := dg_len0 ten_gt q.natAbs
  rw [beq_eq_false_iff_ne]; omega
theorem gcd_step {a b g : Nat} (h : Nat.gcd a b = g) : Nat.gcd b (a % b) = g := by
  rw [← h, Nat.gcd_comm a b, Nat.gcd_rec b a]; exact Nat.gcd_comm _ _
theorem pos10_no {q : Nat} (h : q = 0) : decide ((((dg 10 (sz false q).natAbs).length : Nat) : Int) > 0) = false := by subst h; rfl
theorem pos10_yes {q : Nat} (h : 0 < q) : decide ((((dg 10 (sz false q).natAbs).length : Nat) : Int) > 0) = true := by
  have := dg_len0 ten_gt (sz false q).natAbs
  rw [sz_abs] at *
  rw [decide_eq_true_eq]; omega
set_option maxRecDepth 100000 in
set_option maxHeartbeats 4000000 in
theorem rdiv_zero (x y : Int) (h : y = 0) : Spec Try.prog 50 [(NUM x).p, (NUM y).p] (VP.tup [NUM 0, NUM 0]) := by
  refine spec_of (xs := [NUM x, NUM y]) 82 [2, 3, 4, 5, 9, 10] Try.func50 rfl Try.ntmps50 rfl fun w0 => ?_
  refine t_seq ?_
  refine t_region (F := ⟨_, _, _, _⟩) [.slot 0 (NUM x), .slot 1 (NUM y)] [] [(0, .box 2 72 [Bz x, Tz x]), (1, .box 3 72 [Bz y, Tz y]), (2, .box 4 72 [Bz 0, Tz 0]), (3, .box 5 72 [Bz 0, Tz 0])] [0, 1] [] rfl rfl follow rfl ⟨
    .inl ⟨wants_plain rfl, does_box _ rfl rfl rfl rfl rfl (ar_tmp (av_fs 0 rfl))⟩,
    .inl ⟨wants_plain rfl, does_box _ rfl rfl rfl rfl rfl (ar_tmp (av_fs 1 rfl))⟩,
    .inl ⟨wants_plain rfl, does_alloc ty_zero_collatorref01_Num rfl rfl rfl rfl rfl z_num⟩,
    .inl ⟨wants_plain rfl, does_alloc ty_zero_collatorref01_Num rfl rfl rfl rfl rfl z_num⟩,
    trivial⟩ ?_
  refine nx_sub (fs' := [.box 2 72 [Bz x, Tz x], .box 3 72 [Bz y, Tz y], .box 4 72 [Bz 0, Tz 0], .box 5 72 [Bz 0, Tz 0]]) [2, 3, 4, 5] rfl ?_
  refine nx_then ?_
  refine t_seq ?_
  refine t_seq ?_
  refine t_region (F := ⟨_, _, _, _⟩) [.box 2 72 [Bz x, Tz x], .box 3 72 [Bz y, Tz y], .box 4 72 [Bz 0, Tz 0], .box 5 72 [Bz 0, Tz 0]] [] [(0, .fp 11 3 1), (1, .slot 12 (Tz y)), (2, .slot 13 (VP.int .i64 (((dg 10 y.natAbs).length : Nat) : Int))), (3, .slot 14 (VP.bool ((((dg 10 y.natAbs).length : Nat) : Int) == 0)))] [0, 1, 2, 3] [] rfl rfl follow rfl ⟨
    .inl ⟨wants_plain rfl, does_field _ _ _ 1 ty_f1_collatorref01_Num rfl rfl rfl rfl rfl rfl rfl (pt_box (av_fs 1 rfl))⟩,
    .inl ⟨wants_plain rfl, does_loadOne _ ty_one___int rfl rfl rfl rfl rfl rfl (pt_fp (av_rs 0 rfl rfl)) (av_fs 1 rfl)⟩,
    .inl ⟨wants_plain rfl, does_len _ _ (by kernel_rfl) rfl rfl rfl rfl rfl (ar_tmp (av_rs 1 rfl rfl))⟩,
    .inl ⟨wants_plain rfl, does_cmp (m := (((dg 10 y.natAbs).length : Nat) : Int)) (n := 0) _ _ _ _ _ rfl rfl rfl rfl rfl rfl .i64 (ar_tmp (av_rs 2 rfl rfl)) (ar_const (fun _ => rfl))⟩,
    trivial⟩ ?_
  refine nx_sub (fs' := [.box 2 72 [Bz x, Tz x], .box 3 72 [Bz y, Tz y], .box 4 72 [Bz 0, Tz 0], .box 5 72 [Bz 0, Tz 0], .slot 14 (VP.bool ((((dg 10 y.natAbs).length : Nat) : Int) == 0))]) [0, 1, 2, 3, 7] rfl ?_
  refine nx_then ?_
  refine t_cond_te 4 rfl (len10_yes h) ?_
  refine t_seq ?_
  refine t_region (F := ⟨_, _, _, _⟩) [.box 2 72 [Bz x, Tz x], .box 3 72 [Bz y, Tz y], .slot 14 (VP.bool ((((dg 10 y.natAbs).length : Nat) : Int) == 0))] [(2, .box 4 72 [Bz 0, Tz 0]), (3, .box 5 72 [Bz 0, Tz 0])] [(0, .slot 15 (NUM 0)), (1, .slot 16 (NUM 0)), (2, .box 4 72 [Bz 0, Tz 0]), (3, .box 5 72 [Bz 0, Tz 0])] [0, 1, 4] [2, 3] rfl rfl follow rfl ⟨
    .inl ⟨wants_plain rfl, does_build [Bz 0, Tz 0] ty_zero_collatorref01_Num ty_pl_collatorref01_Num rfl rfl rfl rfl rfl z_num (.nil _)⟩,
    .inl ⟨wants_plain rfl, does_build [Bz 0, Tz 0] ty_zero_collatorref01_Num ty_pl_collatorref01_Num rfl rfl rfl rfl rfl z_num (.nil _)⟩,
    .inl ⟨wants_plain rfl, does_storeAgg 2 _ _ ty_agg_collatorref01_Num rfl rfl rfl rfl rfl (pt_box (av_os 0 rfl rfl)) (av_os 0 rfl rfl) (ar_tmp (av_rs 0 rfl rfl))⟩,
    .inl ⟨wants_plain rfl, does_storeAgg 2 _ _ ty_agg_collatorref01_Num rfl rfl rfl rfl rfl (pt_box (av_os 1 rfl rfl)) (av_os 1 rfl rfl) (ar_tmp (av_rs 1 rfl rfl))⟩,
    trivial⟩ ?_
  refine nx_sub (fs' := [.box 2 72 [Bz x, Tz x], .box 3 72 [Bz y, Tz y], .box 4 72 [Bz 0, Tz 0], .box 5 72 [Bz 0, Tz 0]]) [0, 1, 5, 6] rfl ?_
  refine nx_then ?_
  refine t_ret ?_
  refine rt_then ?_
  exact rt_two rfl (res_agg 2 ty_agg_collatorref01_Num rfl) (res_agg 3 ty_agg_collatorref01_Num rfl)
theorem r_div (x y : Int) (h1 : (dg 10 x.natAbs).length ≤ 100000) (h2 : (dg 10 y.natAbs).length ≤ 100000) : Spec Try.prog 50 [(NUM x).p, (NUM y).p] (VP.tup [NUM (divZ x y), NUM (modZ x y)]) := by
  by_cases h : y = 0
  · have e1 : divZ x y = 0 := by unfold divZ; rw [if_pos h]
    have e2 : modZ x y = 0 := by unfold modZ; rw [if_pos h]
    rw [e1, e2]
    exact rdiv_zero x y h
  · exact spec2 fun v1 v2 w p1 p2 => by
      obtain ⟨a, c, rfl, i1⟩ := num_open p1
      obtain ⟨b, d, rfl, i2⟩ := num_open p2
      exact rdiv_walk x y a b c d w h1 h2 i1 i2 h
theorem r_divN (a b : Nat) (h0 : 0 < b) (h1 : (dg 10 a).length ≤ 100000) (h2 : (dg 10 b).length ≤ 100000) : Spec Try.prog 50 [(NUM (sz false a)).p, (NUM (sz false b)).p] (VP.tup [NUM (sz false (a / b)), NUM (sz false (a % b))]) := by
  have h := r_div (sz false a) (sz false b) (by rw [sz_abs]; exact h1) (by rw [sz_abs]; exact h2)
  have hb : sz false b ≠ 0 := by show (b : Int) ≠ 0; omega
  have e1 : divZ (sz false a) (sz false b) = sz false (a / b) := by unfold divZ; rw [if_neg hb]; rfl
  have e2 : modZ (sz false a) (sz false b) = sz false (a % b) := by unfold modZ; rw [if_neg hb]; rfl
  rwa [e1, e2] at h
set_option maxRecDepth 100000 in
set_option maxHeartbeats 4000000 in
theorem r_gcd (x y : Int) (h1 : (dg 10 x.natAbs).length ≤ 100000) (h2 : (dg 10 y.natAbs).length ≤ 100000) : Spec Try.prog 60 [(NUM x).p, (NUM y).p] (NUM (gcdZ x y)) := by
  refine spec_of (xs := [NUM x, NUM y]) 26 [2, 3, 4, 5, 6] Try.func60 rfl Try.ntmps60 rfl fun w0 => ?_
  refine t_seq ?_
  refine t_region (F := ⟨_, _, _, _⟩) [.slot 0 (NUM x), .slot 1 (NUM y)] [] [(0, .box 2 72 [Bz x, Tz x]), (1, .box 3 72 [Bz y, Tz y]), (2, .box 4 72 [Bz 0, Tz 0])] [0, 1] [] rfl rfl follow rfl ⟨
    .inl ⟨wants_plain rfl, does_box _ rfl rfl rfl rfl rfl (ar_tmp (av_fs 0 rfl))⟩,
    .inl ⟨wants_plain rfl, does_box _ rfl rfl rfl rfl rfl (ar_tmp (av_fs 1 rfl))⟩,
    .inl ⟨wants_plain rfl, does_alloc ty_zero_collatorref01_Num rfl rfl rfl rfl rfl z_num⟩,
    trivial⟩ ?_
  refine nx_sub (fs' := [.box 2 72 [Bz x, Tz x], .box 3 72 [Bz y, Tz y], .box 4 72 [Bz 0, Tz 0]]) [2, 3, 4] rfl ?_
  refine nx_then ?_
  refine t_seq ?_
  refine t_region (F := ⟨_, _, _, _⟩) [.box 3 72 [Bz y, Tz y], .box 4 72 [Bz 0, Tz 0]] [(3, .box 2 72 [Bz x, Tz x])] [(0, .fp 7 2 1), (1, .slot 8 (Tz x)), (2, .slot 9 (NUM (sz false x.natAbs))), (3, .box 2 72 [Bz (sz false x.natAbs), Tz (sz false x.natAbs)])] [1, 2] [0] rfl rfl follow rfl ⟨
    .inl ⟨wants_plain rfl, does_field _ _ _ 1 ty_f1_collatorref01_Num rfl rfl rfl rfl rfl rfl rfl (pt_box (av_os 0 rfl rfl))⟩,
    .inl ⟨wants_plain rfl, does_loadOne _ ty_one___int rfl rfl rfl rfl rfl rfl (pt_fp (av_rs 0 rfl rfl)) (av_os 0 rfl rfl)⟩,
    .inl ⟨wants_plain rfl, does_call (r_make1 false x.natAbs) rfl hb_collator_collatorref01_make1 rfl rfl rfl rfl ⟨(ar_const (fun _ => rfl)), (ar_tmp (av_rs 1 rfl rfl)), trivial⟩⟩,
    .inl ⟨wants_plain rfl, does_storeAgg 2 _ _ ty_agg_collatorref01_Num rfl rfl rfl rfl rfl (pt_box (av_os 0 rfl rfl)) (av_os 0 rfl rfl) (ar_tmp (av_rs 2 rfl rfl))⟩,
    trivial⟩ ?_
  refine nx_sub (fs' := [.box 3 72 [Bz y, Tz y], .box 4 72 [Bz 0, Tz 0], .box 2 72 [Bz (sz false x.natAbs), Tz (sz false x.natAbs)]]) [0, 1, 5] rfl ?_
  refine nx_then ?_
  refine t_seq ?_
  refine t_region (F := ⟨_, _, _, _⟩) [.box 4 72 [Bz 0, Tz 0], .box 2 72 [Bz (sz false x.natAbs), Tz (sz false x.natAbs)]] [(3, .box 3 72 [Bz y, Tz y])] [(0, .fp 10 3 1), (1, .slot 11 (Tz y)), (2, .slot 12 (NUM (sz false y.natAbs))), (3, .box 3 72 [Bz (sz false y.natAbs), Tz (sz false y.natAbs)])] [1, 2] [0] rfl rfl follow rfl ⟨
    .inl ⟨wants_plain rfl, does_field _ _ _ 1 ty_f1_collatorref01_Num rfl rfl rfl rfl rfl rfl rfl (pt_box (av_os 0 rfl rfl))⟩,
    .inl ⟨wants_plain rfl, does_loadOne _ ty_one___int rfl rfl rfl rfl rfl rfl (pt_fp (av_rs 0 rfl rfl)) (av_os 0 rfl rfl)⟩,
    .inl ⟨wants_plain rfl, does_call (r_make1 false y.natAbs) rfl hb_collator_collatorref01_make1 rfl rfl rfl rfl ⟨(ar_const (fun _ => rfl)), (ar_tmp (av_rs 1 rfl rfl)), trivial⟩⟩,
    .inl ⟨wants_plain rfl, does_storeAgg 2 _ _ ty_agg_collatorref01_Num rfl rfl rfl rfl rfl (pt_box (av_os 0 rfl rfl)) (av_os 0 rfl rfl) (ar_tmp (av_rs 2 rfl rfl))⟩,
    trivial⟩ ?_
  refine nx_sub (fs' := [.box 4 72 [Bz 0, Tz 0], .box 2 72 [Bz (sz false x.natAbs), Tz (sz false x.natAbs)], .box 3 72 [Bz (sz false y.natAbs), Tz (sz false y.natAbs)]]) [0, 1, 5] rfl ?_
  refine nx_then ?_
  refine t_seq ?_
  refine t_block ?_
  refine t_loop (σ := {s : Nat × Nat // Nat.gcd s.1 s.2 = Nat.gcd x.natAbs y.natAbs ∧ (dg 10 s.1).length ≤ 100000 ∧ (dg 10 s.2).length ≤ 100000}) (fun s => [.box 2 72 [Bz (sz false s.1.1), Tz (sz false s.1.1)], .box 3 72 [Bz (sz false s.1.2), Tz (sz false s.1.2)], .box 4 72 [Bz 0, Tz 0]]) (fun s => s.1.2) (⟨(x.natAbs, y.natAbs), rfl, h1, h2⟩) [1, 2, 0] rfl ?_
  intro s
  rcases Nat.eq_zero_or_pos s.1.2 with h | h
  case inl =>
    rw [show gcdZ x y = sz false s.1.1 from by have h3 := s.2.1; rw [h, Nat.gcd_zero_right] at h3; rw [h3]; rfl]
    refine t_seq ?_
    refine t_seq ?_
    refine t_region (F := ⟨_, _, _, _⟩) [.box 2 72 [Bz (sz false s.1.1), Tz (sz false s.1.1)], .box 3 72 [Bz (sz false s.1.2), Tz (sz false s.1.2)], .box 4 72 [Bz 0, Tz 0]] [] [(0, .fp 13 3 1), (1, .slot 14 (Tz (sz false s.1.2))), (2, .slot 15 (VP.int .i64 (((dg 10 (sz false s.1.2).natAbs).length : Nat) : Int))), (3, .slot 16 (VP.bool (decide ((((dg 10 (sz false s.1.2).natAbs).length : Nat) : Int) > 0))))] [0, 1, 2] [] rfl rfl follow rfl ⟨
      .inl ⟨wants_plain rfl, does_field _ _ _ 1 ty_f1_collatorref01_Num rfl rfl rfl rfl rfl rfl rfl (pt_box (av_fs 1 rfl))⟩,
      .inl ⟨wants_plain rfl, does_loadOne _ ty_one___int rfl rfl rfl rfl rfl rfl (pt_fp (av_rs 0 rfl rfl)) (av_fs 1 rfl)⟩,
      .inl ⟨wants_plain rfl, does_len _ _ (by kernel_rfl) rfl rfl rfl rfl rfl (ar_tmp (av_rs 1 rfl rfl))⟩,
      .inl ⟨wants_plain rfl, does_cmp (m := (((dg 10 (sz false s.1.2).natAbs).length : Nat) : Int)) (n := 0) _ _ _ _ _ rfl rfl rfl rfl rfl rfl .i64 (ar_tmp (av_rs 2 rfl rfl)) (ar_const (fun _ => rfl))⟩,
      trivial⟩ ?_
    refine nx_sub (fs' := [.box 2 72 [Bz (sz false s.1.1), Tz (sz false s.1.1)], .box 3 72 [Bz (sz false s.1.2), Tz (sz false s.1.2)], .box 4 72 [Bz 0, Tz 0], .fp 13 3 1, .slot 14 (Tz (sz false s.1.2)), .slot 15 (VP.int .i64 (((dg 10 (sz false s.1.2).natAbs).length : Nat) : Int)), .slot 16 (VP.bool (decide ((((dg 10 (sz false s.1.2).natAbs).length : Nat) : Int) > 0)))]) [0, 1, 2, 3, 4, 5, 6] rfl ?_
    refine nx_then ?_
    refine t_cond_fe 6 rfl (pos10_no h) ?_
    refine t_exit ?_
    refine ex_then ?_
    refine ex_then ?_
    refine ex_block ?_
    refine nx_then ?_
    refine t_seq ?_
    refine t_region (F := ⟨_, _, _, _⟩) [.box 2 72 [Bz (sz false s.1.1), Tz (sz false s.1.1)], .box 3 72 [Bz (sz false s.1.2), Tz (sz false s.1.2)], .fp 13 3 1, .slot 14 (Tz (sz false s.1.2)), .slot 15 (VP.int .i64 (((dg 10 (sz false s.1.2).natAbs).length : Nat) : Int)), .slot 16 (VP.bool (decide ((((dg 10 (sz false s.1.2).natAbs).length : Nat) : Int) > 0)))] [(1, .box 4 72 [Bz 0, Tz 0])] [(0, .slot 25 (NUM (sz false s.1.1))), (1, .box 4 72 [Bz (sz false s.1.1), Tz (sz false s.1.1)])] [0, 1, 3, 4, 5, 6] [2] rfl rfl follow rfl ⟨
      .inl ⟨wants_plain rfl, does_loadAgg _ ty_agg_collatorref01_Num rfl rfl rfl rfl rfl rfl (pt_box (av_fs 0 rfl)) (av_fs 0 rfl)⟩,
      .inl ⟨wants_plain rfl, does_storeAgg 2 _ _ ty_agg_collatorref01_Num rfl rfl rfl rfl rfl (pt_box (av_os 0 rfl rfl)) (av_os 0 rfl rfl) (ar_tmp (av_rs 0 rfl rfl))⟩,
      trivial⟩ ?_
    refine nx_sub (fs' := [.box 4 72 [Bz (sz false s.1.1), Tz (sz false s.1.1)]]) [7] rfl ?_
    refine nx_then ?_
    refine t_ret ?_
    exact rt_one rfl (res_agg 0 ty_agg_collatorref01_Num rfl)
  case inr =>
    refine t_seq ?_
    refine t_seq ?_
    refine t_region (F := ⟨_, _, _, _⟩) [.box 2 72 [Bz (sz false s.1.1), Tz (sz false s.1.1)], .box 3 72 [Bz (sz false s.1.2), Tz (sz false s.1.2)], .box 4 72 [Bz 0, Tz 0]] [] [(0, .fp 13 3 1), (1, .slot 14 (Tz (sz false s.1.2))), (2, .slot 15 (VP.int .i64 (((dg 10 (sz false s.1.2).natAbs).length : Nat) : Int))), (3, .slot 16 (VP.bool (decide ((((dg 10 (sz false s.1.2).natAbs).length : Nat) : Int) > 0))))] [0, 1, 2] [] rfl rfl follow rfl ⟨
      .inl ⟨wants_plain rfl, does_field _ _ _ 1 ty_f1_collatorref01_Num rfl rfl rfl rfl rfl rfl rfl (pt_box (av_fs 1 rfl))⟩,
      .inl ⟨wants_plain rfl, does_loadOne _ ty_one___int rfl rfl rfl rfl rfl rfl (pt_fp (av_rs 0 rfl rfl)) (av_fs 1 rfl)⟩,
      .inl ⟨wants_plain rfl, does_len _ _ (by kernel_rfl) rfl rfl rfl rfl rfl (ar_tmp (av_rs 1 rfl rfl))⟩,
      .inl ⟨wants_plain rfl, does_cmp (m := (((dg 10 (sz false s.1.2).natAbs).length : Nat) : Int)) (n := 0) _ _ _ _ _ rfl rfl rfl rfl rfl rfl .i64 (ar_tmp (av_rs 2 rfl rfl)) (ar_const (fun _ => rfl))⟩,
      trivial⟩ ?_
    refine nx_sub (fs' := [.box 2 72 [Bz (sz false s.1.1), Tz (sz false s.1.1)], .box 3 72 [Bz (sz false s.1.2), Tz (sz false s.1.2)], .box 4 72 [Bz 0, Tz 0], .fp 13 3 1, .slot 14 (Tz (sz false s.1.2)), .slot 15 (VP.int .i64 (((dg 10 (sz false s.1.2).natAbs).length : Nat) : Int)), .slot 16 (VP.bool (decide ((((dg 10 (sz false s.1.2).natAbs).length : Nat) : Int) > 0)))]) [0, 1, 2, 3, 4, 5, 6] rfl ?_
    refine nx_then ?_
    refine t_cond_te 6 rfl (pos10_yes h) ?_
    refine t_skip ?_
    refine nx_then ?_
    refine t_block ?_
    refine t_seq ?_
    refine t_region (F := ⟨_, _, _, _⟩) [.box 2 72 [Bz (sz false s.1.1), Tz (sz false s.1.1)], .box 3 72 [Bz (sz false s.1.2), Tz (sz false s.1.2)], .box 4 72 [Bz 0, Tz 0], .fp 13 3 1, .slot 14 (Tz (sz false s.1.2)), .slot 15 (VP.int .i64 (((dg 10 (sz false s.1.2).natAbs).length : Nat) : Int)), .slot 16 (VP.bool (decide ((((dg 10 (sz false s.1.2).natAbs).length : Nat) : Int) > 0)))] [] [(0, .slot 18 (NUM (sz false s.1.1))), (1, .slot 19 (NUM (sz false s.1.2))), (2, .slot 20 (VP.tup [NUM (sz false (s.1.1 / s.1.2)), NUM (sz false (s.1.1 % s.1.2))])), (3, .slot 17 (VP.tup [NUM (sz false (s.1.1 / s.1.2)), NUM (sz false (s.1.1 % s.1.2))])), (4, .slot 21 (NUM (sz false (s.1.1 / s.1.2)))), (5, .slot 22 (NUM (sz false (s.1.1 % s.1.2)))), (6, .own 5 72 2), (7, .own 6 72 2), (8, .box 5 72 [Bz (sz false (s.1.1 / s.1.2)), Tz (sz false (s.1.1 / s.1.2))]), (9, .box 6 72 [Bz (sz false (s.1.1 % s.1.2)), Tz (sz false (s.1.1 % s.1.2))])] [0, 1, 2, 3, 4, 5, 6] [] rfl rfl follow rfl ⟨
      .inl ⟨wants_plain rfl, does_loadAgg _ ty_agg_collatorref01_Num rfl rfl rfl rfl rfl rfl (pt_box (av_fs 0 rfl)) (av_fs 0 rfl)⟩,
      .inl ⟨wants_plain rfl, does_loadAgg _ ty_agg_collatorref01_Num rfl rfl rfl rfl rfl rfl (pt_box (av_fs 1 rfl)) (av_fs 1 rfl)⟩,
      .inl ⟨wants_plain rfl, does_call (r_divN s.1.1 s.1.2 h s.2.2.1 s.2.2.2) rfl hb_collator_collatorref01_Div rfl rfl rfl rfl ⟨(ar_tmp (av_rs 0 rfl rfl)), (ar_tmp (av_rs 1 rfl rfl)), trivial⟩⟩,
      .inl ⟨wants_plain rfl, does_move _ (.inl rfl) rfl rfl rfl rfl (ar_tmp (av_rs 2 rfl rfl))⟩,
      .inl ⟨wants_plain rfl, does_extract (ps := [NUM (sz false (s.1.1 / s.1.2)), NUM (sz false (s.1.1 % s.1.2))]) _ _ rfl rfl rfl rfl rfl (ar_tmp (av_rs 3 rfl rfl)) rfl⟩,
      .inl ⟨wants_plain rfl, does_extract (ps := [NUM (sz false (s.1.1 / s.1.2)), NUM (sz false (s.1.1 % s.1.2))]) _ _ rfl rfl rfl rfl rfl (ar_tmp (av_rs 3 rfl rfl)) rfl⟩,
      .inl ⟨wants_plain rfl, does_allocOwn [Bz 0, Tz 0] ty_zero_collatorref01_Num rfl rfl rfl rfl rfl z_num rfl⟩,
      .inl ⟨wants_plain rfl, does_allocOwn [Bz 0, Tz 0] ty_zero_collatorref01_Num rfl rfl rfl rfl rfl z_num rfl⟩,
      .inl ⟨wants_plain rfl, does_storeNew 2 _ _ ty_agg_collatorref01_Num rfl rfl rfl rfl rfl (pt_own (av_rs 6 rfl rfl)) (av_rs 6 rfl rfl) (ar_tmp (av_rs 4 rfl rfl))⟩,
      .inl ⟨wants_plain rfl, does_storeNew 2 _ _ ty_agg_collatorref01_Num rfl rfl rfl rfl rfl (pt_own (av_rs 7 rfl rfl)) (av_rs 7 rfl rfl) (ar_tmp (av_rs 5 rfl rfl))⟩,
      trivial⟩ ?_
    refine nx_sub (fs' := [.box 2 72 [Bz (sz false s.1.1), Tz (sz false s.1.1)], .box 3 72 [Bz (sz false s.1.2), Tz (sz false s.1.2)], .box 4 72 [Bz 0, Tz 0], .fp 13 3 1, .slot 14 (Tz (sz false s.1.2)), .slot 15 (VP.int .i64 (((dg 10 (sz false s.1.2).natAbs).length : Nat) : Int)), .slot 16 (VP.bool (decide ((((dg 10 (sz false s.1.2).natAbs).length : Nat) : Int) > 0))), .slot 18 (NUM (sz false s.1.1)), .slot 19 (NUM (sz false s.1.2)), .slot 20 (VP.tup [NUM (sz false (s.1.1 / s.1.2)), NUM (sz false (s.1.1 % s.1.2))]), .slot 17 (VP.tup [NUM (sz false (s.1.1 / s.1.2)), NUM (sz false (s.1.1 % s.1.2))]), .slot 21 (NUM (sz false (s.1.1 / s.1.2))), .slot 22 (NUM (sz false (s.1.1 % s.1.2))), .box 5 72 [Bz (sz false (s.1.1 / s.1.2)), Tz (sz false (s.1.1 / s.1.2))], .box 6 72 [Bz (sz false (s.1.1 % s.1.2)), Tz (sz false (s.1.1 % s.1.2))]]) [0, 1, 2, 3, 4, 5, 6, 7, 8, 9, 10, 11, 12, 15, 16] rfl ?_
    refine nx_then ?_
    refine t_region (F := ⟨_, _, _, _⟩) [.box 4 72 [Bz 0, Tz 0], .fp 13 3 1, .slot 14 (Tz (sz false s.1.2)), .slot 15 (VP.int .i64 (((dg 10 (sz false s.1.2).natAbs).length : Nat) : Int)), .slot 16 (VP.bool (decide ((((dg 10 (sz false s.1.2).natAbs).length : Nat) : Int) > 0))), .slot 18 (NUM (sz false s.1.1)), .slot 19 (NUM (sz false s.1.2)), .slot 20 (VP.tup [NUM (sz false (s.1.1 / s.1.2)), NUM (sz false (s.1.1 % s.1.2))]), .slot 17 (VP.tup [NUM (sz false (s.1.1 / s.1.2)), NUM (sz false (s.1.1 % s.1.2))]), .slot 21 (NUM (sz false (s.1.1 / s.1.2))), .slot 22 (NUM (sz false (s.1.1 % s.1.2))), .box 5 72 [Bz (sz false (s.1.1 / s.1.2)), Tz (sz false (s.1.1 / s.1.2))], .box 6 72 [Bz (sz false (s.1.1 % s.1.2)), Tz (sz false (s.1.1 % s.1.2))]] [(2, .box 2 72 [Bz (sz false s.1.1), Tz (sz false s.1.1)]), (3, .box 3 72 [Bz (sz false s.1.2), Tz (sz false s.1.2)])] [(0, .slot 23 (NUM (sz false s.1.2))), (1, .slot 24 (NUM (sz false (s.1.1 % s.1.2)))), (2, .box 2 72 [Bz (sz false s.1.2), Tz (sz false s.1.2)]), (3, .box 3 72 [Bz (sz false (s.1.1 % s.1.2)), Tz (sz false (s.1.1 % s.1.2))])] [2, 3, 4, 5, 6, 7, 8, 9, 10, 11, 12, 13, 14] [0, 1] rfl rfl follow rfl ⟨
      .inl ⟨wants_plain rfl, does_loadAgg _ ty_agg_collatorref01_Num rfl rfl rfl rfl rfl rfl (pt_box (av_os 1 rfl rfl)) (av_os 1 rfl rfl)⟩,
      .inl ⟨wants_plain rfl, does_loadAgg _ ty_agg_collatorref01_Num rfl rfl rfl rfl rfl rfl (pt_box (av_fs 12 rfl)) (av_fs 12 rfl)⟩,
      .inl ⟨wants_plain rfl, does_storeAgg 2 _ _ ty_agg_collatorref01_Num rfl rfl rfl rfl rfl (pt_box (av_os 0 rfl rfl)) (av_os 0 rfl rfl) (ar_tmp (av_rs 0 rfl rfl))⟩,
      .inl ⟨wants_plain rfl, does_storeAgg 2 _ _ ty_agg_collatorref01_Num rfl rfl rfl rfl rfl (pt_box (av_os 1 rfl rfl)) (av_os 1 rfl rfl) (ar_tmp (av_rs 1 rfl rfl))⟩,
      trivial⟩ ?_
    refine nx_sub (fs' := [.box 4 72 [Bz 0, Tz 0], .fp 13 3 1, .slot 14 (Tz (sz false s.1.2)), .slot 15 (VP.int .i64 (((dg 10 (sz false s.1.2).natAbs).length : Nat) : Int)), .slot 16 (VP.bool (decide ((((dg 10 (sz false s.1.2).natAbs).length : Nat) : Int) > 0))), .slot 18 (NUM (sz false s.1.1)), .slot 19 (NUM (sz false s.1.2)), .slot 20 (VP.tup [NUM (sz false (s.1.1 / s.1.2)), NUM (sz false (s.1.1 % s.1.2))]), .slot 17 (VP.tup [NUM (sz false (s.1.1 / s.1.2)), NUM (sz false (s.1.1 % s.1.2))]), .slot 21 (NUM (sz false (s.1.1 / s.1.2))), .slot 22 (NUM (sz false (s.1.1 % s.1.2))), .box 5 72 [Bz (sz false (s.1.1 / s.1.2)), Tz (sz false (s.1.1 / s.1.2))], .box 6 72 [Bz (sz false (s.1.1 % s.1.2)), Tz (sz false (s.1.1 % s.1.2))], .slot 23 (NUM (sz false s.1.2)), .slot 24 (NUM (sz false (s.1.1 % s.1.2))), .box 2 72 [Bz (sz false s.1.2), Tz (sz false s.1.2)], .box 3 72 [Bz (sz false (s.1.1 % s.1.2)), Tz (sz false (s.1.1 % s.1.2))]]) [0, 1, 2, 3, 4, 5, 6, 7, 8, 9, 10, 11, 12, 13, 14, 15, 16] rfl ?_
    refine nx_block ?_
    exact nx_round ⟨(s.1.2, s.1.1 % s.1.2), gcd_step s.2.1, s.2.2.2, Nat.le_trans (dg_len_mono ten_gt (Nat.mod_le _ _)) s.2.2.1⟩ (Nat.mod_lt _ h) [15, 16, 0] rfl
end Go.Proofs.Ytogodjiemgilaaa
