/- Part of the proof that a law returns true for all that comes in, and that what came in reads as it did. No condition. -/
import Derived.Test.YtogodjiemgilaaaMgWholeReads1
/- WholeReads: the walks. -/
namespace Go.Proofs.Ytogodjiemgilaaa
open Go.RowKit
/-- some bool, some slice -/
def VP.boolish : VP := ⟨fun v _ => ∃ b, v = .bool b, true, fun _ _ _ h _ => h, fun _ v _ ⟨_, h⟩ k n e => (by rw [h] at e; cases e), true, fun _ v _ ⟨_, h⟩ => (by rw [h]; rfl), true, fun _ _ _ _ h => h⟩
def VP.slish : VP := ⟨fun v _ => ∃ a n c, v = .slice a n c, true, fun _ _ _ h _ => h, fun _ v _ ⟨_, _, _, h⟩ k n e => (by rw [h] at e; cases e), true, fun _ v _ ⟨_, _, _, h⟩ => (by rw [h]; rfl), true, fun _ _ _ _ h => h⟩
theorem spec_weak {P : Program} {f : FuncId} {qs : List (Value → World → Prop)} {x y : VP} (h : Spec P f qs x) (k : ∀ v w, x.p v w → y.p v w) : Spec P f qs y := fun vs w hn hv =>
  (h vs w hn hv).mono fun _ _ ⟨v, h1, h2, h3⟩ => ⟨v, h1, k _ _ h2, h3⟩
theorem parseU_some {l : List Nat} {n : Nat} (h : parseU l = some n) : (0 < l.length ∧ l.length ≤ 10000 ∧ l.all isD = true) ∧ numU l = n := by
  unfold parseU at h
  split at h
  · rename_i hc; exact ⟨hc, Option.some.inj h⟩
  · cases h
theorem refW_some {neg : Bool} {at' : Nat} {s : ByteArray} {z : Int} (h : (parseU ((byt s).drop at')).map (sz neg) = some z) : refW neg at' s = VP.tup [NUM z, VP.bool true] := by
  obtain ⟨n, h1, rfl⟩ := Option.map_eq_some_iff.1 h
  obtain ⟨⟨h2, h3, h4⟩, rfl⟩ := parseU_some h1
  rw [List.length_drop, byt_len] at h2 h3
  unfold refW
  rw [if_pos h4, decide_eq_true (show at' < s.size by omega), decide_eq_true h3]; rfl
theorem refW_none {neg : Bool} {at' : Nat} {s : ByteArray} (h : (parseU ((byt s).drop at')).map (sz neg) = none) : ∀ v w, (refW neg at' s).p v w → (VP.tup [VP.agg [VP.boolish, VP.slish], VP.bool false]).p v w := by
  intro v w hv
  rw [Option.map_eq_none_iff] at h
  unfold refW at hv
  split at hv
  · rename_i hd
    have e : (decide (at' < s.size) && decide (s.size - at' ≤ 10000)) = false := by
      rw [Bool.eq_false_iff]
      intro ht
      rw [Bool.and_eq_true, decide_eq_true_eq, decide_eq_true_eq] at ht
      unfold parseU at h
      rw [List.length_drop, byt_len, if_pos ⟨by omega, ht.2, hd⟩] at h
      cases h
    rw [e] at hv
    obtain ⟨cs, rfl, h1⟩ := hv
    match cs, h1 with
    | [u1, u2], ⟨⟨ds, h5, h6⟩, h7, _⟩ =>
      match ds, h6 with
      | [d1, d2], ⟨h8, ⟨a, c, h9, _⟩, _⟩ => exact ⟨_, rfl, ⟨_, h5, ⟨_, h8⟩, ⟨a, _, c, h9⟩, trivial⟩, h7, trivial⟩
  · obtain ⟨cs, rfl, h1⟩ := hv
    match cs, h1 with
    | [u1, u2], ⟨⟨ds, h5, h6⟩, h7, _⟩ =>
      match ds, h6 with
      | [d1, d2], ⟨h8, h9, _⟩ => exact ⟨_, rfl, ⟨_, h5, ⟨_, h8⟩, ⟨none, 0, 0, h9⟩, trivial⟩, h7, trivial⟩
theorem r_parse_all (s : ByteArray) (hs : s.size ≤ 100000) : ∃ neg at', parseL (byt s) = (parseU ((byt s).drop at')).map (sz neg) ∧ Spec Try.prog 68 [(VP.str s).p] (refW neg at' s) := by
  by_cases h0 : s.size = 0
  · refine ⟨false, 0, ?_, rparseA s hs h0⟩
    have he : byt s = [] := List.length_eq_zero_iff.1 (by rw [byt_len]; exact h0)
    rw [he]; rfl
  · have hp : 0 < s.size := by omega
    have hg : (byt s)[0]?.getD 0 = s[0].toNat := by rw [List.getElem?_eq_getElem (by rw [byt_len]; exact hp), Option.getD_some, byt_get s 0 hp]
    by_cases h45 : s[0].toNat = 45
    · have := rparseB s hs s[0].toNat ⟨hp, rfl⟩ hp h45
      refine ⟨_, 1, ?_, this⟩
      unfold parseL; rw [hg, if_pos h45, show (((s[0].toNat : Nat) : Int) == 45) = true from beq_iff_eq.2 (by omega)]
    · have := rparseC s hs s[0].toNat ⟨hp, rfl⟩ hp h45
      refine ⟨_, 0, ?_, this⟩
      unfold parseL; rw [hg, if_neg h45, show (((s[0].toNat : Nat) : Int) == 45) = false from beq_eq_false_iff_ne.2 (by omega)]; rfl
theorem r_parse_some (s : ByteArray) (z : Int) (hs : s.size ≤ 100000) (h : parseL (byt s) = some z) : Spec Try.prog 68 [(VP.str s).p] (VP.tup [NUM z, VP.bool true]) := by
  obtain ⟨neg, at', h1, h2⟩ := r_parse_all s hs
  rw [h1] at h
  rw [refW_some h] at h2
  exact h2
theorem r_parse_none (s : ByteArray) (hs : s.size ≤ 100000) (h : parseL (byt s) = none) : Spec Try.prog 68 [(VP.str s).p] (VP.tup [VP.agg [VP.boolish, VP.slish], VP.bool false]) := by
  obtain ⟨neg, at', h1, h2⟩ := r_parse_all s hs
  rw [h1] at h
  exact spec_weak h2 (refW_none h)
theorem s_parse_some (s : ByteArray) (z : Int) (hs : s.size ≤ 100000) (h : parseL (byt s) = some z) : Spec Try.prog 67 [(VP.str s).p] (VP.tup [INT z, VP.bool true]) :=
  spec1 fun v1 w p1 => by
    have p1 : v1 = .string s := p1
    subst p1
    have hw := parse_walk s w (by omega)
    rw [h] at hw
    exact hw.mono fun e w' ⟨a, c, h1, h2, h3⟩ => ⟨_, h1, ⟨[_, _], rfl, int_shut h2, rfl, trivial⟩, h3⟩
theorem s_parse_none (s : ByteArray) (hs : s.size ≤ 100000) (h : parseL (byt s) = none) : Spec Try.prog 67 [(VP.str s).p] (VP.tup [INT 0, VP.bool false]) :=
  spec1 fun v1 w p1 => by
    have p1 : v1 = .string s := p1
    subst p1
    have hw := parse_walk s w (by omega)
    rw [h] at hw
    exact hw.mono fun e w' ⟨h1, h3⟩ => ⟨_, h1, ⟨[_, _], rfl, ⟨_, rfl, z_int w'⟩, rfl, trivial⟩, h3⟩
theorem numU_BB {l : List Nat} {k : Nat} (h : l.length ≤ 9 * k) : numU l < BB ^ k := by
  rw [BB_pow]; exact Nat.lt_of_lt_of_le (numU_lt l) (Nat.pow_le_pow_right (by decide) h)
theorem parse_len {s : ByteArray} {z : Int} (hs : s.size ≤ 200) (h : parseL (byt s) = some z) : L z ≤ 100 := by
  have hk : ∀ (l : List Nat) (b : Bool) (hl : l.length ≤ 200) (hz : (parseU l).map (sz b) = some z), L z ≤ 100 := by
    intro l b hl hz
    obtain ⟨n, h1, rfl⟩ := Option.map_eq_some_iff.1 hz
    obtain ⟨_, rfl⟩ := parseU_some h1
    unfold L
    rw [dg_len_le BB_gt, sz_abs]
    exact numU_BB (k := 100) (by omega)
  have hl := byt_len s
  unfold parseL at h
  split at h
  · exact hk _ _ (by rw [List.length_drop]; omega) h
  · exact hk _ _ (by omega) h
theorem s_small (n : Int) (hn : L n ≤ 100000) : Spec Try.prog 65 [(INT n).p] (VP.tup [VP.int .i64 (smallV n), VP.bool (small n)]) :=
  spec1 fun v1 w p1 => by
    obtain ⟨a, c, rfl, i1⟩ := int_open p1
    exact (small_walk n a c w hn i1).mono fun e w' h => ⟨_, h.1, ⟨[_, _], rfl, rfl, rfl, trivial⟩, h.2⟩
theorem s_smallT (n : Int) (hn : L n ≤ 100000) (h : small n = true) : Spec Try.prog 65 [(INT n).p] (VP.tup [VP.int .i64 n, VP.bool true]) := by
  have := s_small n hn
  rw [show smallV n = n from if_pos h, h] at this
  exact this
theorem s_smallF (n : Int) (hn : L n ≤ 100000) (h : small n = false) : Spec Try.prog 65 [(INT n).p] (VP.tup [VP.int .i64 0, VP.bool false]) := by
  have := s_small n hn
  rw [show smallV n = 0 from if_neg (by rw [h]; decide), h] at this
  exact this
theorem r_rightW (x : Raw) (hx : x.ok) (hl : x.2.length ≤ 100000000) : Spec Try.prog 70 [(RAW x).p] (VP.bool (rightB x.1 x.2)) :=
  spec1 fun v1 w p1 => by
    obtain ⟨cs, rfl, h⟩ := p1
    match cs, h with
    | [u, v], ⟨h1, ⟨a, c, h2, h3, h4, h5⟩, _⟩ =>
      have h1 : u = .bool x.1 := h1
      subst h1 h2
      exact (rright_walk x.1 x.2 a c w (by omega) hx h5).mono fun e w' h => ⟨_, h.1, rfl, h.2⟩
theorem r_rightZ (z : Int) (hz : L z ≤ 1000) : Spec Try.prog 70 [(INT z).p] (VP.bool true) := by
  have := r_rightW (raw z) (fun d hd => Nat.lt_trans (dg_lt BB_gt hd) (by decide)) (by show L z ≤ _; omega)
  rw [show rightB (raw z).1 (raw z).2 = true from int_right z] at this
  exact this
theorem of_len {n : Int} (h1 : -9223372036854775808 ≤ n) (h2 : n < 9223372036854775808) : L n ≤ 3 := by
  unfold L
  rw [dg_len_le BB_gt]
  exact Nat.lt_of_le_of_lt (show n.natAbs ≤ 9223372036854775808 by omega) (by decide)
theorem ty_one_whole_digits : oneTy Try.prog 162 = true := by kernel_rfl
set_option maxRecDepth 100000 in
set_option maxHeartbeats 4000000 in
theorem reads_long (s : ByteArray) (n : Int) (_h1 : -9223372036854775808 ≤ n) (_h2 : n < 9223372036854775808) (x : Raw) (_hx : x.ok) (hl : 200 < s.size) : Spec Try.prog 10 [(VP.str s).p, (VP.int .i64 n).p, (VP.agg [VP.bool x.1, VP.nums .u32 x.2]).p] (VP.bool true) := by
  refine spec_of (xs := [VP.str s, VP.int .i64 n, VP.agg [VP.bool x.1, VP.nums .u32 x.2]]) 111 [5, 7, 9, 11] Try.func10 rfl Try.ntmps10 rfl fun w0 => ?_
  refine t_seq ?_
  refine t_region (F := ⟨_, _, _, _⟩) [.slot 0 (VP.str s), .slot 1 (VP.int .i64 n), .slot 2 (VP.agg [VP.bool x.1, VP.nums .u32 x.2])] [] [(0, .box 5 69 [VP.bool x.1, VP.nums .u32 x.2]), (1, .slot 6 (VP.bool false))] [] [0, 1, 2] [] rfl rfl follow rfl ⟨
    .inl ⟨wants_plain rfl, does_box _ rfl rfl rfl rfl rfl (ar_tmp (av_fs 2 rfl))⟩,
    .inl ⟨wants_plain rfl, does_move _ (.inr rfl) rfl rfl rfl rfl (ar_const (fun _ => rfl))⟩,
    trivial⟩ ?_
  refine nx_sub (fs' := [.slot 0 (VP.str s), .slot 1 (VP.int .i64 n), .box 5 69 [VP.bool x.1, VP.nums .u32 x.2], .slot 6 (VP.bool false)]) [0, 1, 3, 4] rfl ?_
  refine nx_then ?_
  refine t_seq ?_
  refine t_seq ?_
  refine t_region (F := ⟨_, _, _, _⟩) [.slot 0 (VP.str s), .slot 1 (VP.int .i64 n), .box 5 69 [VP.bool x.1, VP.nums .u32 x.2], .slot 6 (VP.bool false)] [] [(0, .slot 14 (VP.bool true)), (1, .slot 15 (VP.bool false))] [] [0, 1, 2, 3] [] rfl rfl follow rfl ⟨
    .inl ⟨wants_plain rfl, does_call sp1_spec rfl hb_collator_collatorlaw01_speaks rfl rfl rfl rfl trivial⟩,
    .inl ⟨wants_plain rfl, does_not true _ _ rfl rfl rfl rfl rfl (ar_tmp (av_rs 0 rfl rfl))⟩,
    trivial⟩ ?_
  refine nx_sub (fs' := [.slot 0 (VP.str s), .slot 1 (VP.int .i64 n), .box 5 69 [VP.bool x.1, VP.nums .u32 x.2], .slot 6 (VP.bool false), .slot 15 (VP.bool false)]) [0, 1, 2, 3, 5] rfl ?_
  refine nx_then ?_
  refine t_cond_f 4 rfl ?_
  refine t_skip ?_
  refine nx_then ?_
  refine t_seq ?_
  refine t_seq ?_
  refine t_region (F := ⟨_, _, _, _⟩) [.slot 0 (VP.str s), .slot 1 (VP.int .i64 n), .box 5 69 [VP.bool x.1, VP.nums .u32 x.2], .slot 6 (VP.bool false), .slot 15 (VP.bool false)] [] [(0, .slot 16 (VP.str s)), (1, .slot 17 (VP.int .i64 ((s.size : Nat) : Int))), (2, .slot 18 (VP.bool (decide (((s.size : Nat) : Int) > 200)))), (3, .slot 19 (VP.bool (decide (((s.size : Nat) : Int) > 200)))), (4, .slot 20 (VP.undef)), (5, .slot 21 (VP.undef)), (6, .slot 22 (VP.undef)), (7, .slot 23 (VP.undef)), (8, .slot 24 (VP.bool true))] [] [0, 1, 2, 3, 4] [] rfl rfl follow rfl ⟨
    .inl ⟨wants_plain rfl, does_move _ (.inl rfl) rfl rfl rfl rfl (ar_tmp (av_fs 0 rfl))⟩,
    .inl ⟨wants_plain rfl, does_lenStr _ _ Try.underlying9 rfl rfl rfl rfl rfl (ar_tmp (av_rs 0 rfl rfl))⟩,
    .inl ⟨wants_plain rfl, does_cmp (m := ((s.size : Nat) : Int)) (n := 200) _ _ _ _ _ rfl rfl rfl rfl rfl rfl .i64 (ar_tmp (av_rs 1 rfl rfl)) (ar_const (fun _ => rfl))⟩,
    .inl ⟨wants_plain rfl, does_move _ (.inl rfl) rfl rfl rfl rfl (ar_tmp (av_rs 2 rfl rfl))⟩,
    .inr (skips_guardU true rfl rfl rfl (av_bool (decide_eq_true (by omega)) (av_rs 3 rfl rfl)) rfl rfl rfl rfl),
    .inr (skips_guardU true rfl rfl rfl (av_bool (decide_eq_true (by omega)) (av_rs 3 rfl rfl)) rfl rfl rfl rfl),
    .inr (skips_guardU true rfl rfl rfl (av_bool (decide_eq_true (by omega)) (av_rs 3 rfl rfl)) rfl rfl rfl rfl),
    .inr (skips_guardU true rfl rfl rfl (av_bool (decide_eq_true (by omega)) (av_rs 3 rfl rfl)) rfl rfl rfl rfl),
    .inl ⟨wants_plain rfl, does_pick true _ _ _ rfl rfl rfl rfl rfl (ar_tmp (av_bool (decide_eq_true (by omega)) (av_rs 3 rfl rfl))) (ar_const (fun _ => rfl))⟩,
    trivial⟩ ?_
  refine nx_sub (fs' := [.slot 0 (VP.str s), .slot 1 (VP.int .i64 n), .box 5 69 [VP.bool x.1, VP.nums .u32 x.2], .slot 6 (VP.bool false), .slot 24 (VP.bool true)]) [0, 1, 2, 3, 13] rfl ?_
  refine nx_then ?_
  refine t_cond_t 4 rfl ?_
  refine t_seq ?_
  refine t_region (F := ⟨_, _, _, _⟩) [.slot 0 (VP.str s), .slot 1 (VP.int .i64 n), .box 5 69 [VP.bool x.1, VP.nums .u32 x.2], .slot 24 (VP.bool true)] [(0, .slot 6 (VP.bool false))] [(0, .slot 6 (VP.bool true))] [] [0, 1, 2, 4] [3] rfl rfl follow rfl ⟨
    .inl ⟨wants_plain rfl, does_move _ (.inr rfl) rfl rfl rfl rfl (ar_const (fun _ => rfl))⟩,
    trivial⟩ ?_
  refine nx_sub (fs' := [.slot 0 (VP.str s), .slot 1 (VP.int .i64 n), .box 5 69 [VP.bool x.1, VP.nums .u32 x.2], .slot 6 (VP.bool true)]) [0, 1, 2, 4] rfl ?_
  refine nx_then ?_
  refine t_ret ?_
  refine rt_then ?_
  exact rt_one rfl (res_tmp 3 rfl)
set_option maxRecDepth 100000 in
set_option maxHeartbeats 4000000 in
theorem reads_wide (s : ByteArray) (n : Int) (_h1 : -9223372036854775808 ≤ n) (_h2 : n < 9223372036854775808) (x : Raw) (_hx : x.ok) (hl : s.size ≤ 200) (hw : 50 < x.2.length) : Spec Try.prog 10 [(VP.str s).p, (VP.int .i64 n).p, (VP.agg [VP.bool x.1, VP.nums .u32 x.2]).p] (VP.bool true) := by
  refine spec_of (xs := [VP.str s, VP.int .i64 n, VP.agg [VP.bool x.1, VP.nums .u32 x.2]]) 111 [5, 7, 9, 11] Try.func10 rfl Try.ntmps10 rfl fun w0 => ?_
  refine t_seq ?_
  refine t_region (F := ⟨_, _, _, _⟩) [.slot 0 (VP.str s), .slot 1 (VP.int .i64 n), .slot 2 (VP.agg [VP.bool x.1, VP.nums .u32 x.2])] [] [(0, .box 5 69 [VP.bool x.1, VP.nums .u32 x.2]), (1, .slot 6 (VP.bool false))] [] [0, 1, 2] [] rfl rfl follow rfl ⟨
    .inl ⟨wants_plain rfl, does_box _ rfl rfl rfl rfl rfl (ar_tmp (av_fs 2 rfl))⟩,
    .inl ⟨wants_plain rfl, does_move _ (.inr rfl) rfl rfl rfl rfl (ar_const (fun _ => rfl))⟩,
    trivial⟩ ?_
  refine nx_sub (fs' := [.slot 0 (VP.str s), .slot 1 (VP.int .i64 n), .box 5 69 [VP.bool x.1, VP.nums .u32 x.2], .slot 6 (VP.bool false)]) [0, 1, 3, 4] rfl ?_
  refine nx_then ?_
  refine t_seq ?_
  refine t_seq ?_
  refine t_region (F := ⟨_, _, _, _⟩) [.slot 0 (VP.str s), .slot 1 (VP.int .i64 n), .box 5 69 [VP.bool x.1, VP.nums .u32 x.2], .slot 6 (VP.bool false)] [] [(0, .slot 14 (VP.bool true)), (1, .slot 15 (VP.bool false))] [] [0, 1, 2, 3] [] rfl rfl follow rfl ⟨
    .inl ⟨wants_plain rfl, does_call sp1_spec rfl hb_collator_collatorlaw01_speaks rfl rfl rfl rfl trivial⟩,
    .inl ⟨wants_plain rfl, does_not true _ _ rfl rfl rfl rfl rfl (ar_tmp (av_rs 0 rfl rfl))⟩,
    trivial⟩ ?_
  refine nx_sub (fs' := [.slot 0 (VP.str s), .slot 1 (VP.int .i64 n), .box 5 69 [VP.bool x.1, VP.nums .u32 x.2], .slot 6 (VP.bool false), .slot 15 (VP.bool false)]) [0, 1, 2, 3, 5] rfl ?_
  refine nx_then ?_
  refine t_cond_f 4 rfl ?_
  refine t_skip ?_
  refine nx_then ?_
  refine t_seq ?_
  refine t_seq ?_
  refine t_region (F := ⟨_, _, _, _⟩) [.slot 0 (VP.str s), .slot 1 (VP.int .i64 n), .box 5 69 [VP.bool x.1, VP.nums .u32 x.2], .slot 6 (VP.bool false), .slot 15 (VP.bool false)] [] [(0, .slot 16 (VP.str s)), (1, .slot 17 (VP.int .i64 ((s.size : Nat) : Int))), (2, .slot 18 (VP.bool (decide (((s.size : Nat) : Int) > 200)))), (3, .slot 19 (VP.bool (decide (((s.size : Nat) : Int) > 200)))), (4, .fp 20 5 1), (5, .slot 21 (VP.nums .u32 x.2)), (6, .slot 22 (VP.int .i64 (((x.2).length : Nat) : Int))), (7, .slot 23 (VP.bool (decide ((((x.2).length : Nat) : Int) > 50)))), (8, .slot 24 (VP.bool (decide ((((x.2).length : Nat) : Int) > 50))))] [] [0, 1, 2, 3, 4] [] rfl rfl follow rfl ⟨
    .inl ⟨wants_plain rfl, does_move _ (.inl rfl) rfl rfl rfl rfl (ar_tmp (av_fs 0 rfl))⟩,
    .inl ⟨wants_plain rfl, does_lenStr _ _ Try.underlying9 rfl rfl rfl rfl rfl (ar_tmp (av_rs 0 rfl rfl))⟩,
    .inl ⟨wants_plain rfl, does_cmp (m := ((s.size : Nat) : Int)) (n := 200) _ _ _ _ _ rfl rfl rfl rfl rfl rfl .i64 (ar_tmp (av_rs 1 rfl rfl)) (ar_const (fun _ => rfl))⟩,
    .inl ⟨wants_plain rfl, does_move _ (.inl rfl) rfl rfl rfl rfl (ar_tmp (av_rs 2 rfl rfl))⟩,
    .inl ⟨wants_guard false rfl rfl rfl (av_bool (decide_eq_false (by omega)) (av_rs 3 rfl rfl)), does_field _ _ _ 1 ty_f1_api_Int rfl rfl rfl rfl rfl rfl rfl (pt_box (av_fs 2 rfl))⟩,
    .inl ⟨wants_guard false rfl rfl rfl (av_bool (decide_eq_false (by omega)) (av_rs 3 rfl rfl)), does_loadOne _ ty_one___uint32 rfl rfl rfl rfl rfl rfl (pt_fp (av_rs 4 rfl rfl)) (av_fs 2 rfl)⟩,
    .inl ⟨wants_guard false rfl rfl rfl (av_bool (decide_eq_false (by omega)) (av_rs 3 rfl rfl)), does_len _ _ (by kernel_rfl) rfl rfl rfl rfl rfl (ar_tmp (av_rs 5 rfl rfl))⟩,
    .inl ⟨wants_guard false rfl rfl rfl (av_bool (decide_eq_false (by omega)) (av_rs 3 rfl rfl)), does_cmp (m := (((x.2).length : Nat) : Int)) (n := 50) _ _ _ _ _ rfl rfl rfl rfl rfl rfl .i64 (ar_tmp (av_rs 6 rfl rfl)) (ar_const (fun _ => rfl))⟩,
    .inl ⟨wants_plain rfl, does_pick false _ _ _ rfl rfl rfl rfl rfl (ar_tmp (av_bool (decide_eq_false (by omega)) (av_rs 3 rfl rfl))) (ar_tmp (av_rs 7 rfl rfl))⟩,
    trivial⟩ ?_
  refine nx_sub (fs' := [.slot 0 (VP.str s), .slot 1 (VP.int .i64 n), .box 5 69 [VP.bool x.1, VP.nums .u32 x.2], .slot 6 (VP.bool false), .slot 24 (VP.bool (decide ((((x.2).length : Nat) : Int) > 50)))]) [0, 1, 2, 3, 13] rfl ?_
  refine nx_then ?_
  refine t_cond_te 4 rfl (decide_eq_true (by omega)) ?_
  refine t_seq ?_
  refine t_region (F := ⟨_, _, _, _⟩) [.slot 0 (VP.str s), .slot 1 (VP.int .i64 n), .box 5 69 [VP.bool x.1, VP.nums .u32 x.2], .slot 24 (VP.bool (decide ((((x.2).length : Nat) : Int) > 50)))] [(0, .slot 6 (VP.bool false))] [(0, .slot 6 (VP.bool true))] [] [0, 1, 2, 4] [3] rfl rfl follow rfl ⟨
    .inl ⟨wants_plain rfl, does_move _ (.inr rfl) rfl rfl rfl rfl (ar_const (fun _ => rfl))⟩,
    trivial⟩ ?_
  refine nx_sub (fs' := [.slot 0 (VP.str s), .slot 1 (VP.int .i64 n), .box 5 69 [VP.bool x.1, VP.nums .u32 x.2], .slot 6 (VP.bool true)]) [0, 1, 2, 4] rfl ?_
  refine nx_then ?_
  refine t_ret ?_
  refine rt_then ?_
  exact rt_one rfl (res_tmp 3 rfl)
set_option maxRecDepth 100000 in
set_option maxHeartbeats 4000000 in
theorem reads_Sa (s : ByteArray) (n : Int) (h1 : -9223372036854775808 ≤ n) (h2 : n < 9223372036854775808) (x : Raw) (hx : x.ok) (hl : s.size ≤ 200) (hw : x.2.length ≤ 50) (he : n = -4611686018427387904) (z : Int) (hz : L z ≤ 100) (hp : parseL (byt s) = some z) : Spec Try.prog 10 [(VP.str s).p, (VP.int .i64 n).p, (VP.agg [VP.bool x.1, VP.nums .u32 x.2]).p] (VP.bool true) := by
  refine spec_of (xs := [VP.str s, VP.int .i64 n, VP.agg [VP.bool x.1, VP.nums .u32 x.2]]) 111 [5, 7, 9, 11] Try.func10 rfl Try.ntmps10 rfl fun w0 => ?_
  refine t_seq ?_
  refine t_region (F := ⟨_, _, _, _⟩) [.slot 0 (VP.str s), .slot 1 (VP.int .i64 n), .slot 2 (VP.agg [VP.bool x.1, VP.nums .u32 x.2])] [] [(0, .box 5 69 [VP.bool x.1, VP.nums .u32 x.2]), (1, .slot 6 (VP.bool false))] [] [0, 1, 2] [] rfl rfl follow rfl ⟨
    .inl ⟨wants_plain rfl, does_box _ rfl rfl rfl rfl rfl (ar_tmp (av_fs 2 rfl))⟩,
    .inl ⟨wants_plain rfl, does_move _ (.inr rfl) rfl rfl rfl rfl (ar_const (fun _ => rfl))⟩,
    trivial⟩ ?_
  refine nx_sub (fs' := [.slot 0 (VP.str s), .slot 1 (VP.int .i64 n), .box 5 69 [VP.bool x.1, VP.nums .u32 x.2], .slot 6 (VP.bool false)]) [0, 1, 3, 4] rfl ?_
  refine nx_then ?_
  refine t_seq ?_
  refine t_seq ?_
  refine t_region (F := ⟨_, _, _, _⟩) [.slot 0 (VP.str s), .slot 1 (VP.int .i64 n), .box 5 69 [VP.bool x.1, VP.nums .u32 x.2], .slot 6 (VP.bool false)] [] [(0, .slot 14 (VP.bool true)), (1, .slot 15 (VP.bool false))] [] [0, 1, 2, 3] [] rfl rfl follow rfl ⟨
    .inl ⟨wants_plain rfl, does_call sp1_spec rfl hb_collator_collatorlaw01_speaks rfl rfl rfl rfl trivial⟩,
    .inl ⟨wants_plain rfl, does_not true _ _ rfl rfl rfl rfl rfl (ar_tmp (av_rs 0 rfl rfl))⟩,
    trivial⟩ ?_
  refine nx_sub (fs' := [.slot 0 (VP.str s), .slot 1 (VP.int .i64 n), .box 5 69 [VP.bool x.1, VP.nums .u32 x.2], .slot 6 (VP.bool false), .slot 15 (VP.bool false)]) [0, 1, 2, 3, 5] rfl ?_
  refine nx_then ?_
  refine t_cond_f 4 rfl ?_
  refine t_skip ?_
  refine nx_then ?_
  refine t_seq ?_
  refine t_seq ?_
  refine t_region (F := ⟨_, _, _, _⟩) [.slot 0 (VP.str s), .slot 1 (VP.int .i64 n), .box 5 69 [VP.bool x.1, VP.nums .u32 x.2], .slot 6 (VP.bool false), .slot 15 (VP.bool false)] [] [(0, .slot 16 (VP.str s)), (1, .slot 17 (VP.int .i64 ((s.size : Nat) : Int))), (2, .slot 18 (VP.bool (decide (((s.size : Nat) : Int) > 200)))), (3, .slot 19 (VP.bool (decide (((s.size : Nat) : Int) > 200)))), (4, .fp 20 5 1), (5, .slot 21 (VP.nums .u32 x.2)), (6, .slot 22 (VP.int .i64 (((x.2).length : Nat) : Int))), (7, .slot 23 (VP.bool (decide ((((x.2).length : Nat) : Int) > 50)))), (8, .slot 24 (VP.bool (decide ((((x.2).length : Nat) : Int) > 50))))] [] [0, 1, 2, 3, 4] [] rfl rfl follow rfl ⟨
    .inl ⟨wants_plain rfl, does_move _ (.inl rfl) rfl rfl rfl rfl (ar_tmp (av_fs 0 rfl))⟩,
    .inl ⟨wants_plain rfl, does_lenStr _ _ Try.underlying9 rfl rfl rfl rfl rfl (ar_tmp (av_rs 0 rfl rfl))⟩,
    .inl ⟨wants_plain rfl, does_cmp (m := ((s.size : Nat) : Int)) (n := 200) _ _ _ _ _ rfl rfl rfl rfl rfl rfl .i64 (ar_tmp (av_rs 1 rfl rfl)) (ar_const (fun _ => rfl))⟩,
    .inl ⟨wants_plain rfl, does_move _ (.inl rfl) rfl rfl rfl rfl (ar_tmp (av_rs 2 rfl rfl))⟩,
    .inl ⟨wants_guard false rfl rfl rfl (av_bool (decide_eq_false (by omega)) (av_rs 3 rfl rfl)), does_field _ _ _ 1 ty_f1_api_Int rfl rfl rfl rfl rfl rfl rfl (pt_box (av_fs 2 rfl))⟩,
    .inl ⟨wants_guard false rfl rfl rfl (av_bool (decide_eq_false (by omega)) (av_rs 3 rfl rfl)), does_loadOne _ ty_one___uint32 rfl rfl rfl rfl rfl rfl (pt_fp (av_rs 4 rfl rfl)) (av_fs 2 rfl)⟩,
    .inl ⟨wants_guard false rfl rfl rfl (av_bool (decide_eq_false (by omega)) (av_rs 3 rfl rfl)), does_len _ _ (by kernel_rfl) rfl rfl rfl rfl rfl (ar_tmp (av_rs 5 rfl rfl))⟩,
    .inl ⟨wants_guard false rfl rfl rfl (av_bool (decide_eq_false (by omega)) (av_rs 3 rfl rfl)), does_cmp (m := (((x.2).length : Nat) : Int)) (n := 50) _ _ _ _ _ rfl rfl rfl rfl rfl rfl .i64 (ar_tmp (av_rs 6 rfl rfl)) (ar_const (fun _ => rfl))⟩,
    .inl ⟨wants_plain rfl, does_pick false _ _ _ rfl rfl rfl rfl rfl (ar_tmp (av_bool (decide_eq_false (by omega)) (av_rs 3 rfl rfl))) (ar_tmp (av_rs 7 rfl rfl))⟩,
    trivial⟩ ?_
  refine nx_sub (fs' := [.slot 0 (VP.str s), .slot 1 (VP.int .i64 n), .box 5 69 [VP.bool x.1, VP.nums .u32 x.2], .slot 6 (VP.bool false), .slot 24 (VP.bool (decide ((((x.2).length : Nat) : Int) > 50)))]) [0, 1, 2, 3, 13] rfl ?_
  refine nx_then ?_
  refine t_cond_fe 4 rfl (decide_eq_false (by omega)) ?_
  refine t_skip ?_
  refine nx_then ?_
  refine t_seq ?_
  refine t_region (F := ⟨_, _, _, _⟩) [.slot 0 (VP.str s), .slot 1 (VP.int .i64 n), .box 5 69 [VP.bool x.1, VP.nums .u32 x.2], .slot 6 (VP.bool false), .slot 24 (VP.bool (decide ((((x.2).length : Nat) : Int) > 50)))] [] [(0, .slot 26 (VP.str s)), (1, .slot 27 (VP.tup [INT z, VP.bool true])), (2, .slot 25 (VP.tup [INT z, VP.bool true])), (3, .slot 28 (INT z)), (4, .slot 29 (VP.bool true)), (5, .own 7 69 2), (6, .box 7 69 [Bz z, Dz z]), (7, .slot 8 (VP.bool true))] [] [0, 1, 2, 3, 4] [] rfl rfl follow rfl ⟨
    .inl ⟨wants_plain rfl, does_move _ (.inl rfl) rfl rfl rfl rfl (ar_tmp (av_fs 0 rfl))⟩,
    .inl ⟨wants_plain rfl, does_call (s_parse_some s z (by omega) hp) rfl hb_collator_whole_Parse rfl rfl rfl rfl ⟨(ar_tmp (av_rs 0 rfl rfl)), trivial⟩⟩,
    .inl ⟨wants_plain rfl, does_move _ (.inl rfl) rfl rfl rfl rfl (ar_tmp (av_rs 1 rfl rfl))⟩,
    .inl ⟨wants_plain rfl, does_extract (ps := [INT z, VP.bool true]) _ _ rfl rfl rfl rfl rfl (ar_tmp (av_rs 2 rfl rfl)) rfl⟩,
    .inl ⟨wants_plain rfl, does_extract (ps := [INT z, VP.bool true]) _ _ rfl rfl rfl rfl rfl (ar_tmp (av_rs 2 rfl rfl)) rfl⟩,
    .inl ⟨wants_plain rfl, does_allocOwn [Bz 0, Dz 0] ty_zero_api_Int rfl rfl rfl rfl rfl z_int rfl⟩,
    .inl ⟨wants_plain rfl, does_storeNew 2 _ _ ty_agg_api_Int rfl rfl rfl rfl rfl (pt_own (av_rs 5 rfl rfl)) (av_rs 5 rfl rfl) (ar_tmp (av_rs 3 rfl rfl))⟩,
    .inl ⟨wants_plain rfl, does_move _ (.inr rfl) rfl rfl rfl rfl (ar_tmp (av_rs 4 rfl rfl))⟩,
    trivial⟩ ?_
  refine nx_sub (fs' := [.slot 0 (VP.str s), .slot 1 (VP.int .i64 n), .box 5 69 [VP.bool x.1, VP.nums .u32 x.2], .slot 6 (VP.bool false), .box 7 69 [Bz z, Dz z], .slot 8 (VP.bool true)]) [0, 1, 2, 3, 11, 12] rfl ?_
  refine nx_then ?_
  refine t_seq ?_
  refine t_region (F := ⟨_, _, _, _⟩) [.slot 0 (VP.str s), .slot 1 (VP.int .i64 n), .box 5 69 [VP.bool x.1, VP.nums .u32 x.2], .slot 6 (VP.bool false), .box 7 69 [Bz z, Dz z], .slot 8 (VP.bool true)] [] [(0, .slot 31 (VP.str s)), (1, .slot 32 (VP.tup [NUM z, VP.bool true])), (2, .slot 30 (VP.tup [NUM z, VP.bool true])), (3, .slot 33 (NUM z)), (4, .slot 34 (VP.bool true)), (5, .own 9 72 2), (6, .box 9 72 [Bz z, Tz z]), (7, .slot 10 (VP.bool true))] [] [0, 1, 2, 3, 4, 5] [] rfl rfl follow rfl ⟨
    .inl ⟨wants_plain rfl, does_move _ (.inl rfl) rfl rfl rfl rfl (ar_tmp (av_fs 0 rfl))⟩,
    .inl ⟨wants_plain rfl, does_call (r_parse_some s z (by omega) hp) rfl hb_collator_collatorref01_Parse rfl rfl rfl rfl ⟨(ar_tmp (av_rs 0 rfl rfl)), trivial⟩⟩,
    .inl ⟨wants_plain rfl, does_move _ (.inl rfl) rfl rfl rfl rfl (ar_tmp (av_rs 1 rfl rfl))⟩,
    .inl ⟨wants_plain rfl, does_extract (ps := [NUM z, VP.bool true]) _ _ rfl rfl rfl rfl rfl (ar_tmp (av_rs 2 rfl rfl)) rfl⟩,
    .inl ⟨wants_plain rfl, does_extract (ps := [NUM z, VP.bool true]) _ _ rfl rfl rfl rfl rfl (ar_tmp (av_rs 2 rfl rfl)) rfl⟩,
    .inl ⟨wants_plain rfl, does_allocOwn [Bz 0, Tz 0] ty_zero_collatorref01_Num rfl rfl rfl rfl rfl z_num rfl⟩,
    .inl ⟨wants_plain rfl, does_storeNew 2 _ _ ty_agg_collatorref01_Num rfl rfl rfl rfl rfl (pt_own (av_rs 5 rfl rfl)) (av_rs 5 rfl rfl) (ar_tmp (av_rs 3 rfl rfl))⟩,
    .inl ⟨wants_plain rfl, does_move _ (.inr rfl) rfl rfl rfl rfl (ar_tmp (av_rs 4 rfl rfl))⟩,
    trivial⟩ ?_
  refine nx_sub (fs' := [.slot 1 (VP.int .i64 n), .box 5 69 [VP.bool x.1, VP.nums .u32 x.2], .slot 6 (VP.bool false), .box 7 69 [Bz z, Dz z], .slot 8 (VP.bool true), .box 9 72 [Bz z, Tz z], .slot 10 (VP.bool true)]) [1, 2, 3, 4, 5, 12, 13] rfl ?_
  refine nx_then ?_
  refine t_seq ?_
  refine t_seq ?_
  refine t_region (F := ⟨_, _, _, _⟩) [.slot 1 (VP.int .i64 n), .box 5 69 [VP.bool x.1, VP.nums .u32 x.2], .slot 6 (VP.bool false), .box 7 69 [Bz z, Dz z], .slot 8 (VP.bool true), .box 9 72 [Bz z, Tz z], .slot 10 (VP.bool true)] [] [(0, .slot 35 (VP.bool true)), (1, .slot 36 (VP.bool true)), (2, .slot 37 (VP.bool false)), (3, .slot 38 (VP.bool false)), (4, .slot 39 (VP.bool true)), (5, .slot 40 (VP.bool true)), (6, .slot 41 (INT z)), (7, .slot 42 (NUM z)), (8, .slot 43 (INT z)), (9, .slot 44 (VP.bool true)), (10, .slot 45 (VP.bool false)), (11, .slot 46 (VP.bool false)), (12, .slot 47 (VP.bool false)), (13, .slot 48 (VP.bool false)), (14, .slot 49 (VP.bool true)), (15, .slot 50 (VP.bool false)), (16, .slot 51 (VP.bool false)), (17, .slot 52 (VP.undef)), (18, .slot 53 (VP.undef)), (19, .slot 54 (VP.undef)), (20, .slot 55 (VP.undef)), (21, .slot 56 (VP.bool false)), (22, .slot 57 (VP.bool false)), (23, .slot 58 (VP.bool false)), (24, .slot 59 (VP.agg [VP.bool x.1, VP.nums .u32 x.2])), (25, .slot 60 (VP.bool (rightB x.1 x.2))), (26, .slot 61 (VP.agg [VP.bool x.1, VP.nums .u32 x.2])), (27, .slot 62 (VP.bool (rightB x.1 x.2))), (28, .slot 63 (VP.bool (!((rightB x.1 x.2) == (rightB x.1 x.2))))), (29, .slot 64 (VP.bool (!((rightB x.1 x.2) == (rightB x.1 x.2)))))] [] [0, 1, 2, 3, 4, 5, 6] [] rfl rfl follow rfl ⟨
    .inl ⟨wants_plain rfl, does_move _ (.inl rfl) rfl rfl rfl rfl (ar_tmp (av_fs 4 rfl))⟩,
    .inl ⟨wants_plain rfl, does_move _ (.inl rfl) rfl rfl rfl rfl (ar_tmp (av_fs 6 rfl))⟩,
    .inl ⟨wants_plain rfl, does_eqBool (u := true) (v := true) _ _ _ _ _ (by kernel_rfl) rfl rfl rfl rfl rfl rfl (ar_tmp (av_rs 0 rfl rfl)) (ar_tmp (av_rs 1 rfl rfl))⟩,
    .inl ⟨wants_plain rfl, does_move _ (.inl rfl) rfl rfl rfl rfl (ar_tmp (av_rs 2 rfl rfl))⟩,
    .inl ⟨wants_guard false rfl rfl rfl (av_rs 3 rfl rfl), does_move _ (.inl rfl) rfl rfl rfl rfl (ar_tmp (av_fs 4 rfl))⟩,
    .inl ⟨wants_guard false rfl rfl rfl (av_rs 3 rfl rfl), does_move _ (.inl rfl) rfl rfl rfl rfl (ar_tmp (av_rs 4 rfl rfl))⟩,
    .inl ⟨wants_guard true rfl rfl rfl (av_rs 5 rfl rfl), does_loadAgg _ ty_agg_api_Int rfl rfl rfl rfl rfl rfl (pt_box (av_fs 3 rfl)) (av_fs 3 rfl)⟩,
    .inl ⟨wants_guard true rfl rfl rfl (av_rs 5 rfl rfl), does_loadAgg _ ty_agg_collatorref01_Num rfl rfl rfl rfl rfl rfl (pt_box (av_fs 5 rfl)) (av_fs 5 rfl)⟩,
    .inl ⟨wants_guard true rfl rfl rfl (av_rs 5 rfl rfl), does_call (r_form z (n10 hz (by decide))) rfl hb_collator_collatorref01_Form rfl rfl rfl rfl ⟨(ar_tmp (av_rs 7 rfl rfl)), trivial⟩⟩,
    .inl ⟨wants_guard true rfl rfl rfl (av_rs 5 rfl rfl), does_call (r_same1 z (lle hz (by decide))) rfl hb_collator_collatorref01_Same rfl rfl rfl rfl ⟨(ar_tmp (av_rs 6 rfl rfl)), (ar_tmp (av_rs 8 rfl rfl)), trivial⟩⟩,
    .inl ⟨wants_guard true rfl rfl rfl (av_rs 5 rfl rfl), does_not true _ _ rfl rfl rfl rfl rfl (ar_tmp (av_rs 9 rfl rfl))⟩,
    .inl ⟨wants_guard false rfl rfl rfl (av_rs 3 rfl rfl), does_pick true _ _ _ rfl rfl rfl rfl rfl (ar_tmp (av_rs 5 rfl rfl)) (ar_tmp (av_rs 10 rfl rfl))⟩,
    .inl ⟨wants_plain rfl, does_pick false _ _ _ rfl rfl rfl rfl rfl (ar_tmp (av_rs 3 rfl rfl)) (ar_tmp (av_rs 11 rfl rfl))⟩,
    .inl ⟨wants_plain rfl, does_move _ (.inl rfl) rfl rfl rfl rfl (ar_tmp (av_rs 12 rfl rfl))⟩,
    .inl ⟨wants_guard false rfl rfl rfl (av_rs 13 rfl rfl), does_move _ (.inl rfl) rfl rfl rfl rfl (ar_tmp (av_fs 4 rfl))⟩,
    .inl ⟨wants_guard false rfl rfl rfl (av_rs 13 rfl rfl), does_not true _ _ rfl rfl rfl rfl rfl (ar_tmp (av_rs 14 rfl rfl))⟩,
    .inl ⟨wants_guard false rfl rfl rfl (av_rs 13 rfl rfl), does_move _ (.inl rfl) rfl rfl rfl rfl (ar_tmp (av_rs 15 rfl rfl))⟩,
    .inr (skips_guardU false rfl rfl rfl (av_rs 16 rfl rfl) rfl rfl rfl rfl),
    .inr (skips_guardU false rfl rfl rfl (av_rs 16 rfl rfl) rfl rfl rfl rfl),
    .inr (skips_guardU false rfl rfl rfl (av_rs 16 rfl rfl) rfl rfl rfl rfl),
    .inr (skips_guardU false rfl rfl rfl (av_rs 16 rfl rfl) rfl rfl rfl rfl),
    .inl ⟨wants_guard false rfl rfl rfl (av_rs 13 rfl rfl), does_pick false _ _ _ rfl rfl rfl rfl rfl (ar_tmp (av_rs 16 rfl rfl)) (ar_const (fun _ => rfl))⟩,
    .inl ⟨wants_plain rfl, does_pick false _ _ _ rfl rfl rfl rfl rfl (ar_tmp (av_rs 13 rfl rfl)) (ar_tmp (av_rs 21 rfl rfl))⟩,
    .inl ⟨wants_plain rfl, does_move _ (.inl rfl) rfl rfl rfl rfl (ar_tmp (av_rs 22 rfl rfl))⟩,
    .inl ⟨wants_guard false rfl rfl rfl (av_rs 23 rfl rfl), does_loadAgg _ ty_agg_api_Int rfl rfl rfl rfl rfl rfl (pt_box (av_fs 1 rfl)) (av_fs 1 rfl)⟩,
    .inl ⟨wants_guard false rfl rfl rfl (av_rs 23 rfl rfl), does_call (s_right x (by omega)) rfl hb_collator_whole_Right rfl rfl rfl rfl ⟨(ar_tmp (av_rs 24 rfl rfl)), trivial⟩⟩,
    .inl ⟨wants_guard false rfl rfl rfl (av_rs 23 rfl rfl), does_loadAgg _ ty_agg_api_Int rfl rfl rfl rfl rfl rfl (pt_box (av_fs 1 rfl)) (av_fs 1 rfl)⟩,
    .inl ⟨wants_guard false rfl rfl rfl (av_rs 23 rfl rfl), does_call (r_rightW x hx (by omega)) rfl hb_collator_collatorref01_Right rfl rfl rfl rfl ⟨(ar_tmp (av_rs 26 rfl rfl)), trivial⟩⟩,
    .inl ⟨wants_guard false rfl rfl rfl (av_rs 23 rfl rfl), does_eqBool (u := (rightB x.1 x.2)) (v := (rightB x.1 x.2)) _ _ _ _ _ (by kernel_rfl) rfl rfl rfl rfl rfl rfl (ar_tmp (av_rs 25 rfl rfl)) (ar_tmp (av_rs 27 rfl rfl))⟩,
    .inl ⟨wants_plain rfl, does_pick false _ _ _ rfl rfl rfl rfl rfl (ar_tmp (av_rs 23 rfl rfl)) (ar_tmp (av_rs 28 rfl rfl))⟩,
    trivial⟩ ?_
  refine nx_sub (fs' := [.slot 1 (VP.int .i64 n), .slot 6 (VP.bool false), .slot 64 (VP.bool (!((rightB x.1 x.2) == (rightB x.1 x.2))))]) [0, 2, 36] rfl ?_
  refine nx_then ?_
  refine t_cond_fe 2 rfl (by rw [beq_self_eq_true]; rfl) ?_
  refine t_skip ?_
  refine nx_then ?_
  refine t_seq ?_
  refine t_region (F := ⟨_, _, _, _⟩) [.slot 1 (VP.int .i64 n), .slot 6 (VP.bool false), .slot 64 (VP.bool (!((rightB x.1 x.2) == (rightB x.1 x.2))))] [] [(0, .slot 65 (VP.int .i64 n)), (1, .slot 66 (INT n)), (2, .own 11 69 2), (3, .box 11 69 [Bz n, Dz n])] [] [0, 1, 2] [] rfl rfl follow rfl ⟨
    .inl ⟨wants_plain rfl, does_move _ (.inl rfl) rfl rfl rfl rfl (ar_tmp (av_fs 0 rfl))⟩,
    .inl ⟨wants_plain rfl, does_call (s_of n h1 h2) rfl hb_collator_whole_Of rfl rfl rfl rfl ⟨(ar_tmp (av_rs 0 rfl rfl)), trivial⟩⟩,
    .inl ⟨wants_plain rfl, does_allocOwn [Bz 0, Dz 0] ty_zero_api_Int rfl rfl rfl rfl rfl z_int rfl⟩,
    .inl ⟨wants_plain rfl, does_storeNew 2 _ _ ty_agg_api_Int rfl rfl rfl rfl rfl (pt_own (av_rs 2 rfl rfl)) (av_rs 2 rfl rfl) (ar_tmp (av_rs 1 rfl rfl))⟩,
    trivial⟩ ?_
  refine nx_sub (fs' := [.slot 1 (VP.int .i64 n), .slot 6 (VP.bool false), .box 11 69 [Bz n, Dz n]]) [0, 1, 6] rfl ?_
  refine nx_then ?_
  refine t_seq ?_
  refine t_seq ?_
  refine t_region (F := ⟨_, _, _, _⟩) [.slot 1 (VP.int .i64 n), .slot 6 (VP.bool false), .box 11 69 [Bz n, Dz n]] [] [(0, .slot 67 (INT n)), (1, .slot 68 (VP.bool true)), (2, .slot 69 (VP.bool false)), (3, .slot 70 (VP.bool false)), (4, .slot 71 (VP.int .i64 n)), (5, .slot 72 (VP.bool (decide (n > (-4611686018427387904))))), (6, .slot 73 (VP.bool (decide (n > (-4611686018427387904))))), (7, .slot 74 (VP.undef)), (8, .slot 75 (VP.undef)), (9, .slot 76 (VP.undef)), (10, .slot 77 (VP.undef)), (11, .slot 78 (VP.undef)), (12, .slot 79 (VP.undef)), (13, .slot 80 (VP.bool false)), (14, .slot 81 (VP.bool false))] [] [0, 1, 2] [] rfl rfl follow rfl ⟨
    .inl ⟨wants_plain rfl, does_loadAgg _ ty_agg_api_Int rfl rfl rfl rfl rfl rfl (pt_box (av_fs 2 rfl)) (av_fs 2 rfl)⟩,
    .inl ⟨wants_plain rfl, does_call (r_rightZ n (lle (of_len h1 h2) (by decide))) rfl hb_collator_collatorref01_Right rfl rfl rfl rfl ⟨(ar_tmp (av_rs 0 rfl rfl)), trivial⟩⟩,
    .inl ⟨wants_plain rfl, does_not true _ _ rfl rfl rfl rfl rfl (ar_tmp (av_rs 1 rfl rfl))⟩,
    .inl ⟨wants_plain rfl, does_move _ (.inl rfl) rfl rfl rfl rfl (ar_tmp (av_rs 2 rfl rfl))⟩,
    .inl ⟨wants_guard false rfl rfl rfl (av_rs 3 rfl rfl), does_move _ (.inl rfl) rfl rfl rfl rfl (ar_tmp (av_fs 0 rfl))⟩,
    .inl ⟨wants_guard false rfl rfl rfl (av_rs 3 rfl rfl), does_cmp (m := n) (n := (-4611686018427387904)) _ _ _ _ _ rfl rfl rfl rfl rfl rfl .i64 (ar_tmp (av_rs 4 rfl rfl)) (ar_const (fun _ => rfl))⟩,
    .inl ⟨wants_guard false rfl rfl rfl (av_rs 3 rfl rfl), does_move _ (.inl rfl) rfl rfl rfl rfl (ar_tmp (av_rs 5 rfl rfl))⟩,
    .inr (skips_guardU false rfl rfl rfl (av_bool (decide_eq_false (by omega)) (av_rs 6 rfl rfl)) rfl rfl rfl rfl),
    .inr (skips_guardU false rfl rfl rfl (av_bool (decide_eq_false (by omega)) (av_rs 6 rfl rfl)) rfl rfl rfl rfl),
    .inr (skips_guardU false rfl rfl rfl (av_bool (decide_eq_false (by omega)) (av_rs 6 rfl rfl)) rfl rfl rfl rfl),
    .inr (skips_guardU false rfl rfl rfl (av_bool (decide_eq_false (by omega)) (av_rs 6 rfl rfl)) rfl rfl rfl rfl),
    .inr (skips_guardU false rfl rfl rfl (av_bool (decide_eq_false (by omega)) (av_rs 6 rfl rfl)) rfl rfl rfl rfl),
    .inr (skips_guardU false rfl rfl rfl (av_bool (decide_eq_false (by omega)) (av_rs 6 rfl rfl)) rfl rfl rfl rfl),
    .inl ⟨wants_guard false rfl rfl rfl (av_rs 3 rfl rfl), does_pick false _ _ _ rfl rfl rfl rfl rfl (ar_tmp (av_bool (decide_eq_false (by omega)) (av_rs 6 rfl rfl))) (ar_const (fun _ => rfl))⟩,
    .inl ⟨wants_plain rfl, does_pick false _ _ _ rfl rfl rfl rfl rfl (ar_tmp (av_rs 3 rfl rfl)) (ar_tmp (av_rs 13 rfl rfl))⟩,
    trivial⟩ ?_
  refine nx_sub (fs' := [.slot 1 (VP.int .i64 n), .slot 6 (VP.bool false), .box 11 69 [Bz n, Dz n], .slot 81 (VP.bool false)]) [0, 1, 2, 17] rfl ?_
  refine nx_then ?_
  refine t_cond_f 3 rfl ?_
  refine t_skip ?_
  refine nx_then ?_
  refine t_seq ?_
  refine t_region (F := ⟨_, _, _, _⟩) [.slot 1 (VP.int .i64 n), .slot 6 (VP.bool false), .box 11 69 [Bz n, Dz n], .slot 81 (VP.bool false)] [] [(0, .slot 83 (INT n)), (1, .slot 84 (VP.tup [VP.int .i64 n, VP.bool true])), (2, .slot 82 (VP.tup [VP.int .i64 n, VP.bool true])), (3, .slot 85 (VP.int .i64 n)), (4, .slot 86 (VP.bool true)), (5, .slot 12 (VP.int .i64 n)), (6, .slot 13 (VP.bool true))] [] [0, 1, 2, 3] [] rfl rfl follow rfl ⟨
    .inl ⟨wants_plain rfl, does_loadAgg _ ty_agg_api_Int rfl rfl rfl rfl rfl rfl (pt_box (av_fs 2 rfl)) (av_fs 2 rfl)⟩,
    .inl ⟨wants_plain rfl, does_call (s_smallT n (lle (of_len h1 h2) (by decide)) (decide_eq_true (by omega))) rfl hb_collator_whole_Small rfl rfl rfl rfl ⟨(ar_tmp (av_rs 0 rfl rfl)), trivial⟩⟩,
    .inl ⟨wants_plain rfl, does_move _ (.inl rfl) rfl rfl rfl rfl (ar_tmp (av_rs 1 rfl rfl))⟩,
    .inl ⟨wants_plain rfl, does_extract (ps := [VP.int .i64 n, VP.bool true]) _ _ rfl rfl rfl rfl rfl (ar_tmp (av_rs 2 rfl rfl)) rfl⟩,
    .inl ⟨wants_plain rfl, does_extract (ps := [VP.int .i64 n, VP.bool true]) _ _ rfl rfl rfl rfl rfl (ar_tmp (av_rs 2 rfl rfl)) rfl⟩,
    .inl ⟨wants_plain rfl, does_move _ (.inr rfl) rfl rfl rfl rfl (ar_tmp (av_rs 3 rfl rfl))⟩,
    .inl ⟨wants_plain rfl, does_move _ (.inr rfl) rfl rfl rfl rfl (ar_tmp (av_rs 4 rfl rfl))⟩,
    trivial⟩ ?_
  refine nx_sub (fs' := [.slot 1 (VP.int .i64 n), .slot 6 (VP.bool false), .slot 12 (VP.int .i64 n), .slot 13 (VP.bool true)]) [0, 1, 9, 10] rfl ?_
  refine nx_then ?_
  refine t_seq ?_
  refine t_region (F := ⟨_, _, _, _⟩) [.slot 1 (VP.int .i64 n), .slot 12 (VP.int .i64 n), .slot 13 (VP.bool true)] [(24, .slot 6 (VP.bool false))] [(0, .slot 87 (VP.bool true)), (1, .slot 88 (VP.int .i64 n)), (2, .slot 89 (VP.bool (decide (n ≥ (-4611686018427387904))))), (3, .slot 90 (VP.bool (decide (n ≥ (-4611686018427387904))))), (4, .slot 91 (VP.int .i64 n)), (5, .slot 92 (VP.bool (decide (n ≤ 4611686018427387904)))), (6, .slot 93 (VP.bool (decide (n ≤ 4611686018427387904)))), (7, .slot 94 (VP.bool true)), (8, .slot 95 (VP.bool true)), (9, .slot 96 (VP.bool true)), (10, .slot 97 (VP.bool false)), (11, .slot 98 (VP.bool false)), (12, .slot 99 (VP.undef)), (13, .slot 100 (VP.undef)), (14, .slot 101 (VP.bool false)), (15, .slot 102 (VP.bool false)), (16, .slot 103 (VP.bool true)), (17, .slot 104 (VP.bool true)), (18, .slot 105 (VP.int .i64 n)), (19, .slot 106 (VP.int .i64 n)), (20, .slot 107 (VP.bool (n == n))), (21, .slot 108 (VP.bool (n == n))), (22, .slot 109 (VP.bool (n == n))), (23, .slot 110 (VP.bool (n == n))), (24, .slot 6 (VP.bool (n == n)))] [] [0, 2, 3] [1] rfl rfl follow rfl ⟨
    .inl ⟨wants_plain rfl, does_move _ (.inl rfl) rfl rfl rfl rfl (ar_tmp (av_fs 2 rfl))⟩,
    .inl ⟨wants_plain rfl, does_move _ (.inl rfl) rfl rfl rfl rfl (ar_tmp (av_fs 0 rfl))⟩,
    .inl ⟨wants_plain rfl, does_cmp (m := n) (n := (-4611686018427387904)) _ _ _ _ _ rfl rfl rfl rfl rfl rfl .i64 (ar_tmp (av_rs 1 rfl rfl)) (ar_const (fun _ => rfl))⟩,
    .inl ⟨wants_plain rfl, does_move _ (.inl rfl) rfl rfl rfl rfl (ar_tmp (av_rs 2 rfl rfl))⟩,
    .inl ⟨wants_guard true rfl rfl rfl (av_bool (decide_eq_true (by omega)) (av_rs 3 rfl rfl)), does_move _ (.inl rfl) rfl rfl rfl rfl (ar_tmp (av_fs 0 rfl))⟩,
    .inl ⟨wants_guard true rfl rfl rfl (av_bool (decide_eq_true (by omega)) (av_rs 3 rfl rfl)), does_cmp (m := n) (n := 4611686018427387904) _ _ _ _ _ rfl rfl rfl rfl rfl rfl .i64 (ar_tmp (av_rs 4 rfl rfl)) (ar_const (fun _ => rfl))⟩,
    .inl ⟨wants_plain rfl, does_pick true _ _ _ rfl rfl rfl rfl rfl (ar_tmp (av_bool (decide_eq_true (by omega)) (av_rs 3 rfl rfl))) (ar_tmp (av_rs 5 rfl rfl))⟩,
    .inl ⟨wants_plain rfl, does_eqBool (u := true) (v := true) _ _ _ _ _ (by kernel_rfl) rfl rfl rfl rfl rfl rfl (ar_tmp (av_rs 0 rfl rfl)) (ar_tmp (av_bool (decide_eq_true (by omega)) (av_rs 6 rfl rfl)))⟩,
    .inl ⟨wants_plain rfl, does_move _ (.inl rfl) rfl rfl rfl rfl (ar_tmp (av_rs 7 rfl rfl))⟩,
    .inl ⟨wants_guard true rfl rfl rfl (av_rs 8 rfl rfl), does_move _ (.inl rfl) rfl rfl rfl rfl (ar_tmp (av_fs 2 rfl))⟩,
    .inl ⟨wants_guard true rfl rfl rfl (av_rs 8 rfl rfl), does_not true _ _ rfl rfl rfl rfl rfl (ar_tmp (av_rs 9 rfl rfl))⟩,
    .inl ⟨wants_guard true rfl rfl rfl (av_rs 8 rfl rfl), does_move _ (.inl rfl) rfl rfl rfl rfl (ar_tmp (av_rs 10 rfl rfl))⟩,
    .inr (skips_guardU false rfl rfl rfl (av_rs 11 rfl rfl) rfl rfl rfl rfl),
    .inr (skips_guardU false rfl rfl rfl (av_rs 11 rfl rfl) rfl rfl rfl rfl),
    .inl ⟨wants_guard true rfl rfl rfl (av_rs 8 rfl rfl), does_pick false _ _ _ rfl rfl rfl rfl rfl (ar_tmp (av_rs 11 rfl rfl)) (ar_const (fun _ => rfl))⟩,
    .inl ⟨wants_guard true rfl rfl rfl (av_rs 8 rfl rfl), does_move _ (.inl rfl) rfl rfl rfl rfl (ar_tmp (av_rs 14 rfl rfl))⟩,
    .inl ⟨wants_guard false rfl rfl rfl (av_rs 15 rfl rfl), does_move _ (.inl rfl) rfl rfl rfl rfl (ar_tmp (av_fs 2 rfl))⟩,
    .inl ⟨wants_guard false rfl rfl rfl (av_rs 15 rfl rfl), does_move _ (.inl rfl) rfl rfl rfl rfl (ar_tmp (av_rs 16 rfl rfl))⟩,
    .inl ⟨wants_guard true rfl rfl rfl (av_rs 17 rfl rfl), does_move _ (.inl rfl) rfl rfl rfl rfl (ar_tmp (av_fs 1 rfl))⟩,
    .inl ⟨wants_guard true rfl rfl rfl (av_rs 17 rfl rfl), does_move _ (.inl rfl) rfl rfl rfl rfl (ar_tmp (av_fs 0 rfl))⟩,
    .inl ⟨wants_guard true rfl rfl rfl (av_rs 17 rfl rfl), does_cmp (m := n) (n := n) _ _ _ _ _ rfl rfl rfl rfl rfl rfl .i64 (ar_tmp (av_rs 18 rfl rfl)) (ar_tmp (av_rs 19 rfl rfl))⟩,
    .inl ⟨wants_guard false rfl rfl rfl (av_rs 15 rfl rfl), does_pick true _ _ _ rfl rfl rfl rfl rfl (ar_tmp (av_rs 17 rfl rfl)) (ar_tmp (av_rs 20 rfl rfl))⟩,
    .inl ⟨wants_guard true rfl rfl rfl (av_rs 8 rfl rfl), does_pick false _ _ _ rfl rfl rfl rfl rfl (ar_tmp (av_rs 15 rfl rfl)) (ar_tmp (av_rs 21 rfl rfl))⟩,
    .inl ⟨wants_plain rfl, does_pick true _ _ _ rfl rfl rfl rfl rfl (ar_tmp (av_rs 8 rfl rfl)) (ar_tmp (av_rs 22 rfl rfl))⟩,
    .inl ⟨wants_plain rfl, does_move _ (.inr rfl) rfl rfl rfl rfl (ar_tmp (av_rs 23 rfl rfl))⟩,
    trivial⟩ ?_
  refine nx_sub (fs' := [.slot 6 (VP.bool (n == n))]) [27] rfl ?_
  refine nx_then ?_
  refine t_ret ?_
  exact rt_one rfl (res_tmpb 0 rfl (beq_self_eq_true _))
set_option maxRecDepth 100000 in
set_option maxHeartbeats 4000000 in
theorem reads_Sb (s : ByteArray) (n : Int) (h1 : -9223372036854775808 ≤ n) (h2 : n < 9223372036854775808) (x : Raw) (hx : x.ok) (hl : s.size ≤ 200) (hw : x.2.length ≤ 50) (he : n < -4611686018427387904) (z : Int) (hz : L z ≤ 100) (hp : parseL (byt s) = some z) : Spec Try.prog 10 [(VP.str s).p, (VP.int .i64 n).p, (VP.agg [VP.bool x.1, VP.nums .u32 x.2]).p] (VP.bool true) := by
  refine spec_of (xs := [VP.str s, VP.int .i64 n, VP.agg [VP.bool x.1, VP.nums .u32 x.2]]) 111 [5, 7, 9, 11] Try.func10 rfl Try.ntmps10 rfl fun w0 => ?_
  refine t_seq ?_
  refine t_region (F := ⟨_, _, _, _⟩) [.slot 0 (VP.str s), .slot 1 (VP.int .i64 n), .slot 2 (VP.agg [VP.bool x.1, VP.nums .u32 x.2])] [] [(0, .box 5 69 [VP.bool x.1, VP.nums .u32 x.2]), (1, .slot 6 (VP.bool false))] [] [0, 1, 2] [] rfl rfl follow rfl ⟨
    .inl ⟨wants_plain rfl, does_box _ rfl rfl rfl rfl rfl (ar_tmp (av_fs 2 rfl))⟩,
    .inl ⟨wants_plain rfl, does_move _ (.inr rfl) rfl rfl rfl rfl (ar_const (fun _ => rfl))⟩,
    trivial⟩ ?_
  refine nx_sub (fs' := [.slot 0 (VP.str s), .slot 1 (VP.int .i64 n), .box 5 69 [VP.bool x.1, VP.nums .u32 x.2], .slot 6 (VP.bool false)]) [0, 1, 3, 4] rfl ?_
  refine nx_then ?_
  refine t_seq ?_
  refine t_seq ?_
  refine t_region (F := ⟨_, _, _, _⟩) [.slot 0 (VP.str s), .slot 1 (VP.int .i64 n), .box 5 69 [VP.bool x.1, VP.nums .u32 x.2], .slot 6 (VP.bool false)] [] [(0, .slot 14 (VP.bool true)), (1, .slot 15 (VP.bool false))] [] [0, 1, 2, 3] [] rfl rfl follow rfl ⟨
    .inl ⟨wants_plain rfl, does_call sp1_spec rfl hb_collator_collatorlaw01_speaks rfl rfl rfl rfl trivial⟩,
    .inl ⟨wants_plain rfl, does_not true _ _ rfl rfl rfl rfl rfl (ar_tmp (av_rs 0 rfl rfl))⟩,
    trivial⟩ ?_
  refine nx_sub (fs' := [.slot 0 (VP.str s), .slot 1 (VP.int .i64 n), .box 5 69 [VP.bool x.1, VP.nums .u32 x.2], .slot 6 (VP.bool false), .slot 15 (VP.bool false)]) [0, 1, 2, 3, 5] rfl ?_
  refine nx_then ?_
  refine t_cond_f 4 rfl ?_
  refine t_skip ?_
  refine nx_then ?_
  refine t_seq ?_
  refine t_seq ?_
  refine t_region (F := ⟨_, _, _, _⟩) [.slot 0 (VP.str s), .slot 1 (VP.int .i64 n), .box 5 69 [VP.bool x.1, VP.nums .u32 x.2], .slot 6 (VP.bool false), .slot 15 (VP.bool false)] [] [(0, .slot 16 (VP.str s)), (1, .slot 17 (VP.int .i64 ((s.size : Nat) : Int))), (2, .slot 18 (VP.bool (decide (((s.size : Nat) : Int) > 200)))), (3, .slot 19 (VP.bool (decide (((s.size : Nat) : Int) > 200)))), (4, .fp 20 5 1), (5, .slot 21 (VP.nums .u32 x.2)), (6, .slot 22 (VP.int .i64 (((x.2).length : Nat) : Int))), (7, .slot 23 (VP.bool (decide ((((x.2).length : Nat) : Int) > 50)))), (8, .slot 24 (VP.bool (decide ((((x.2).length : Nat) : Int) > 50))))] [] [0, 1, 2, 3, 4] [] rfl rfl follow rfl ⟨
    .inl ⟨wants_plain rfl, does_move _ (.inl rfl) rfl rfl rfl rfl (ar_tmp (av_fs 0 rfl))⟩,
    .inl ⟨wants_plain rfl, does_lenStr _ _ Try.underlying9 rfl rfl rfl rfl rfl (ar_tmp (av_rs 0 rfl rfl))⟩,
    .inl ⟨wants_plain rfl, does_cmp (m := ((s.size : Nat) : Int)) (n := 200) _ _ _ _ _ rfl rfl rfl rfl rfl rfl .i64 (ar_tmp (av_rs 1 rfl rfl)) (ar_const (fun _ => rfl))⟩,
    .inl ⟨wants_plain rfl, does_move _ (.inl rfl) rfl rfl rfl rfl (ar_tmp (av_rs 2 rfl rfl))⟩,
    .inl ⟨wants_guard false rfl rfl rfl (av_bool (decide_eq_false (by omega)) (av_rs 3 rfl rfl)), does_field _ _ _ 1 ty_f1_api_Int rfl rfl rfl rfl rfl rfl rfl (pt_box (av_fs 2 rfl))⟩,
    .inl ⟨wants_guard false rfl rfl rfl (av_bool (decide_eq_false (by omega)) (av_rs 3 rfl rfl)), does_loadOne _ ty_one___uint32 rfl rfl rfl rfl rfl rfl (pt_fp (av_rs 4 rfl rfl)) (av_fs 2 rfl)⟩,
    .inl ⟨wants_guard false rfl rfl rfl (av_bool (decide_eq_false (by omega)) (av_rs 3 rfl rfl)), does_len _ _ (by kernel_rfl) rfl rfl rfl rfl rfl (ar_tmp (av_rs 5 rfl rfl))⟩,
    .inl ⟨wants_guard false rfl rfl rfl (av_bool (decide_eq_false (by omega)) (av_rs 3 rfl rfl)), does_cmp (m := (((x.2).length : Nat) : Int)) (n := 50) _ _ _ _ _ rfl rfl rfl rfl rfl rfl .i64 (ar_tmp (av_rs 6 rfl rfl)) (ar_const (fun _ => rfl))⟩,
    .inl ⟨wants_plain rfl, does_pick false _ _ _ rfl rfl rfl rfl rfl (ar_tmp (av_bool (decide_eq_false (by omega)) (av_rs 3 rfl rfl))) (ar_tmp (av_rs 7 rfl rfl))⟩,
    trivial⟩ ?_
  refine nx_sub (fs' := [.slot 0 (VP.str s), .slot 1 (VP.int .i64 n), .box 5 69 [VP.bool x.1, VP.nums .u32 x.2], .slot 6 (VP.bool false), .slot 24 (VP.bool (decide ((((x.2).length : Nat) : Int) > 50)))]) [0, 1, 2, 3, 13] rfl ?_
  refine nx_then ?_
  refine t_cond_fe 4 rfl (decide_eq_false (by omega)) ?_
  refine t_skip ?_
  refine nx_then ?_
  refine t_seq ?_
  refine t_region (F := ⟨_, _, _, _⟩) [.slot 0 (VP.str s), .slot 1 (VP.int .i64 n), .box 5 69 [VP.bool x.1, VP.nums .u32 x.2], .slot 6 (VP.bool false), .slot 24 (VP.bool (decide ((((x.2).length : Nat) : Int) > 50)))] [] [(0, .slot 26 (VP.str s)), (1, .slot 27 (VP.tup [INT z, VP.bool true])), (2, .slot 25 (VP.tup [INT z, VP.bool true])), (3, .slot 28 (INT z)), (4, .slot 29 (VP.bool true)), (5, .own 7 69 2), (6, .box 7 69 [Bz z, Dz z]), (7, .slot 8 (VP.bool true))] [] [0, 1, 2, 3, 4] [] rfl rfl follow rfl ⟨
    .inl ⟨wants_plain rfl, does_move _ (.inl rfl) rfl rfl rfl rfl (ar_tmp (av_fs 0 rfl))⟩,
    .inl ⟨wants_plain rfl, does_call (s_parse_some s z (by omega) hp) rfl hb_collator_whole_Parse rfl rfl rfl rfl ⟨(ar_tmp (av_rs 0 rfl rfl)), trivial⟩⟩,
    .inl ⟨wants_plain rfl, does_move _ (.inl rfl) rfl rfl rfl rfl (ar_tmp (av_rs 1 rfl rfl))⟩,
    .inl ⟨wants_plain rfl, does_extract (ps := [INT z, VP.bool true]) _ _ rfl rfl rfl rfl rfl (ar_tmp (av_rs 2 rfl rfl)) rfl⟩,
    .inl ⟨wants_plain rfl, does_extract (ps := [INT z, VP.bool true]) _ _ rfl rfl rfl rfl rfl (ar_tmp (av_rs 2 rfl rfl)) rfl⟩,
    .inl ⟨wants_plain rfl, does_allocOwn [Bz 0, Dz 0] ty_zero_api_Int rfl rfl rfl rfl rfl z_int rfl⟩,
    .inl ⟨wants_plain rfl, does_storeNew 2 _ _ ty_agg_api_Int rfl rfl rfl rfl rfl (pt_own (av_rs 5 rfl rfl)) (av_rs 5 rfl rfl) (ar_tmp (av_rs 3 rfl rfl))⟩,
    .inl ⟨wants_plain rfl, does_move _ (.inr rfl) rfl rfl rfl rfl (ar_tmp (av_rs 4 rfl rfl))⟩,
    trivial⟩ ?_
  refine nx_sub (fs' := [.slot 0 (VP.str s), .slot 1 (VP.int .i64 n), .box 5 69 [VP.bool x.1, VP.nums .u32 x.2], .slot 6 (VP.bool false), .box 7 69 [Bz z, Dz z], .slot 8 (VP.bool true)]) [0, 1, 2, 3, 11, 12] rfl ?_
  refine nx_then ?_
  refine t_seq ?_
  refine t_region (F := ⟨_, _, _, _⟩) [.slot 0 (VP.str s), .slot 1 (VP.int .i64 n), .box 5 69 [VP.bool x.1, VP.nums .u32 x.2], .slot 6 (VP.bool false), .box 7 69 [Bz z, Dz z], .slot 8 (VP.bool true)] [] [(0, .slot 31 (VP.str s)), (1, .slot 32 (VP.tup [NUM z, VP.bool true])), (2, .slot 30 (VP.tup [NUM z, VP.bool true])), (3, .slot 33 (NUM z)), (4, .slot 34 (VP.bool true)), (5, .own 9 72 2), (6, .box 9 72 [Bz z, Tz z]), (7, .slot 10 (VP.bool true))] [] [0, 1, 2, 3, 4, 5] [] rfl rfl follow rfl ⟨
    .inl ⟨wants_plain rfl, does_move _ (.inl rfl) rfl rfl rfl rfl (ar_tmp (av_fs 0 rfl))⟩,
    .inl ⟨wants_plain rfl, does_call (r_parse_some s z (by omega) hp) rfl hb_collator_collatorref01_Parse rfl rfl rfl rfl ⟨(ar_tmp (av_rs 0 rfl rfl)), trivial⟩⟩,
    .inl ⟨wants_plain rfl, does_move _ (.inl rfl) rfl rfl rfl rfl (ar_tmp (av_rs 1 rfl rfl))⟩,
    .inl ⟨wants_plain rfl, does_extract (ps := [NUM z, VP.bool true]) _ _ rfl rfl rfl rfl rfl (ar_tmp (av_rs 2 rfl rfl)) rfl⟩,
    .inl ⟨wants_plain rfl, does_extract (ps := [NUM z, VP.bool true]) _ _ rfl rfl rfl rfl rfl (ar_tmp (av_rs 2 rfl rfl)) rfl⟩,
    .inl ⟨wants_plain rfl, does_allocOwn [Bz 0, Tz 0] ty_zero_collatorref01_Num rfl rfl rfl rfl rfl z_num rfl⟩,
    .inl ⟨wants_plain rfl, does_storeNew 2 _ _ ty_agg_collatorref01_Num rfl rfl rfl rfl rfl (pt_own (av_rs 5 rfl rfl)) (av_rs 5 rfl rfl) (ar_tmp (av_rs 3 rfl rfl))⟩,
    .inl ⟨wants_plain rfl, does_move _ (.inr rfl) rfl rfl rfl rfl (ar_tmp (av_rs 4 rfl rfl))⟩,
    trivial⟩ ?_
  refine nx_sub (fs' := [.slot 1 (VP.int .i64 n), .box 5 69 [VP.bool x.1, VP.nums .u32 x.2], .slot 6 (VP.bool false), .box 7 69 [Bz z, Dz z], .slot 8 (VP.bool true), .box 9 72 [Bz z, Tz z], .slot 10 (VP.bool true)]) [1, 2, 3, 4, 5, 12, 13] rfl ?_
  refine nx_then ?_
  refine t_seq ?_
  refine t_seq ?_
  refine t_region (F := ⟨_, _, _, _⟩) [.slot 1 (VP.int .i64 n), .box 5 69 [VP.bool x.1, VP.nums .u32 x.2], .slot 6 (VP.bool false), .box 7 69 [Bz z, Dz z], .slot 8 (VP.bool true), .box 9 72 [Bz z, Tz z], .slot 10 (VP.bool true)] [] [(0, .slot 35 (VP.bool true)), (1, .slot 36 (VP.bool true)), (2, .slot 37 (VP.bool false)), (3, .slot 38 (VP.bool false)), (4, .slot 39 (VP.bool true)), (5, .slot 40 (VP.bool true)), (6, .slot 41 (INT z)), (7, .slot 42 (NUM z)), (8, .slot 43 (INT z)), (9, .slot 44 (VP.bool true)), (10, .slot 45 (VP.bool false)), (11, .slot 46 (VP.bool false)), (12, .slot 47 (VP.bool false)), (13, .slot 48 (VP.bool false)), (14, .slot 49 (VP.bool true)), (15, .slot 50 (VP.bool false)), (16, .slot 51 (VP.bool false)), (17, .slot 52 (VP.undef)), (18, .slot 53 (VP.undef)), (19, .slot 54 (VP.undef)), (20, .slot 55 (VP.undef)), (21, .slot 56 (VP.bool false)), (22, .slot 57 (VP.bool false)), (23, .slot 58 (VP.bool false)), (24, .slot 59 (VP.agg [VP.bool x.1, VP.nums .u32 x.2])), (25, .slot 60 (VP.bool (rightB x.1 x.2))), (26, .slot 61 (VP.agg [VP.bool x.1, VP.nums .u32 x.2])), (27, .slot 62 (VP.bool (rightB x.1 x.2))), (28, .slot 63 (VP.bool (!((rightB x.1 x.2) == (rightB x.1 x.2))))), (29, .slot 64 (VP.bool (!((rightB x.1 x.2) == (rightB x.1 x.2)))))] [] [0, 1, 2, 3, 4, 5, 6] [] rfl rfl follow rfl ⟨
    .inl ⟨wants_plain rfl, does_move _ (.inl rfl) rfl rfl rfl rfl (ar_tmp (av_fs 4 rfl))⟩,
    .inl ⟨wants_plain rfl, does_move _ (.inl rfl) rfl rfl rfl rfl (ar_tmp (av_fs 6 rfl))⟩,
    .inl ⟨wants_plain rfl, does_eqBool (u := true) (v := true) _ _ _ _ _ (by kernel_rfl) rfl rfl rfl rfl rfl rfl (ar_tmp (av_rs 0 rfl rfl)) (ar_tmp (av_rs 1 rfl rfl))⟩,
    .inl ⟨wants_plain rfl, does_move _ (.inl rfl) rfl rfl rfl rfl (ar_tmp (av_rs 2 rfl rfl))⟩,
    .inl ⟨wants_guard false rfl rfl rfl (av_rs 3 rfl rfl), does_move _ (.inl rfl) rfl rfl rfl rfl (ar_tmp (av_fs 4 rfl))⟩,
    .inl ⟨wants_guard false rfl rfl rfl (av_rs 3 rfl rfl), does_move _ (.inl rfl) rfl rfl rfl rfl (ar_tmp (av_rs 4 rfl rfl))⟩,
    .inl ⟨wants_guard true rfl rfl rfl (av_rs 5 rfl rfl), does_loadAgg _ ty_agg_api_Int rfl rfl rfl rfl rfl rfl (pt_box (av_fs 3 rfl)) (av_fs 3 rfl)⟩,
    .inl ⟨wants_guard true rfl rfl rfl (av_rs 5 rfl rfl), does_loadAgg _ ty_agg_collatorref01_Num rfl rfl rfl rfl rfl rfl (pt_box (av_fs 5 rfl)) (av_fs 5 rfl)⟩,
    .inl ⟨wants_guard true rfl rfl rfl (av_rs 5 rfl rfl), does_call (r_form z (n10 hz (by decide))) rfl hb_collator_collatorref01_Form rfl rfl rfl rfl ⟨(ar_tmp (av_rs 7 rfl rfl)), trivial⟩⟩,
    .inl ⟨wants_guard true rfl rfl rfl (av_rs 5 rfl rfl), does_call (r_same1 z (lle hz (by decide))) rfl hb_collator_collatorref01_Same rfl rfl rfl rfl ⟨(ar_tmp (av_rs 6 rfl rfl)), (ar_tmp (av_rs 8 rfl rfl)), trivial⟩⟩,
    .inl ⟨wants_guard true rfl rfl rfl (av_rs 5 rfl rfl), does_not true _ _ rfl rfl rfl rfl rfl (ar_tmp (av_rs 9 rfl rfl))⟩,
    .inl ⟨wants_guard false rfl rfl rfl (av_rs 3 rfl rfl), does_pick true _ _ _ rfl rfl rfl rfl rfl (ar_tmp (av_rs 5 rfl rfl)) (ar_tmp (av_rs 10 rfl rfl))⟩,
    .inl ⟨wants_plain rfl, does_pick false _ _ _ rfl rfl rfl rfl rfl (ar_tmp (av_rs 3 rfl rfl)) (ar_tmp (av_rs 11 rfl rfl))⟩,
    .inl ⟨wants_plain rfl, does_move _ (.inl rfl) rfl rfl rfl rfl (ar_tmp (av_rs 12 rfl rfl))⟩,
    .inl ⟨wants_guard false rfl rfl rfl (av_rs 13 rfl rfl), does_move _ (.inl rfl) rfl rfl rfl rfl (ar_tmp (av_fs 4 rfl))⟩,
    .inl ⟨wants_guard false rfl rfl rfl (av_rs 13 rfl rfl), does_not true _ _ rfl rfl rfl rfl rfl (ar_tmp (av_rs 14 rfl rfl))⟩,
    .inl ⟨wants_guard false rfl rfl rfl (av_rs 13 rfl rfl), does_move _ (.inl rfl) rfl rfl rfl rfl (ar_tmp (av_rs 15 rfl rfl))⟩,
    .inr (skips_guardU false rfl rfl rfl (av_rs 16 rfl rfl) rfl rfl rfl rfl),
    .inr (skips_guardU false rfl rfl rfl (av_rs 16 rfl rfl) rfl rfl rfl rfl),
    .inr (skips_guardU false rfl rfl rfl (av_rs 16 rfl rfl) rfl rfl rfl rfl),
    .inr (skips_guardU false rfl rfl rfl (av_rs 16 rfl rfl) rfl rfl rfl rfl),
    .inl ⟨wants_guard false rfl rfl rfl (av_rs 13 rfl rfl), does_pick false _ _ _ rfl rfl rfl rfl rfl (ar_tmp (av_rs 16 rfl rfl)) (ar_const (fun _ => rfl))⟩,
    .inl ⟨wants_plain rfl, does_pick false _ _ _ rfl rfl rfl rfl rfl (ar_tmp (av_rs 13 rfl rfl)) (ar_tmp (av_rs 21 rfl rfl))⟩,
    .inl ⟨wants_plain rfl, does_move _ (.inl rfl) rfl rfl rfl rfl (ar_tmp (av_rs 22 rfl rfl))⟩,
    .inl ⟨wants_guard false rfl rfl rfl (av_rs 23 rfl rfl), does_loadAgg _ ty_agg_api_Int rfl rfl rfl rfl rfl rfl (pt_box (av_fs 1 rfl)) (av_fs 1 rfl)⟩,
    .inl ⟨wants_guard false rfl rfl rfl (av_rs 23 rfl rfl), does_call (s_right x (by omega)) rfl hb_collator_whole_Right rfl rfl rfl rfl ⟨(ar_tmp (av_rs 24 rfl rfl)), trivial⟩⟩,
    .inl ⟨wants_guard false rfl rfl rfl (av_rs 23 rfl rfl), does_loadAgg _ ty_agg_api_Int rfl rfl rfl rfl rfl rfl (pt_box (av_fs 1 rfl)) (av_fs 1 rfl)⟩,
    .inl ⟨wants_guard false rfl rfl rfl (av_rs 23 rfl rfl), does_call (r_rightW x hx (by omega)) rfl hb_collator_collatorref01_Right rfl rfl rfl rfl ⟨(ar_tmp (av_rs 26 rfl rfl)), trivial⟩⟩,
    .inl ⟨wants_guard false rfl rfl rfl (av_rs 23 rfl rfl), does_eqBool (u := (rightB x.1 x.2)) (v := (rightB x.1 x.2)) _ _ _ _ _ (by kernel_rfl) rfl rfl rfl rfl rfl rfl (ar_tmp (av_rs 25 rfl rfl)) (ar_tmp (av_rs 27 rfl rfl))⟩,
    .inl ⟨wants_plain rfl, does_pick false _ _ _ rfl rfl rfl rfl rfl (ar_tmp (av_rs 23 rfl rfl)) (ar_tmp (av_rs 28 rfl rfl))⟩,
    trivial⟩ ?_
  refine nx_sub (fs' := [.slot 1 (VP.int .i64 n), .slot 6 (VP.bool false), .slot 64 (VP.bool (!((rightB x.1 x.2) == (rightB x.1 x.2))))]) [0, 2, 36] rfl ?_
  refine nx_then ?_
  refine t_cond_fe 2 rfl (by rw [beq_self_eq_true]; rfl) ?_
  refine t_skip ?_
  refine nx_then ?_
  refine t_seq ?_
  refine t_region (F := ⟨_, _, _, _⟩) [.slot 1 (VP.int .i64 n), .slot 6 (VP.bool false), .slot 64 (VP.bool (!((rightB x.1 x.2) == (rightB x.1 x.2))))] [] [(0, .slot 65 (VP.int .i64 n)), (1, .slot 66 (INT n)), (2, .own 11 69 2), (3, .box 11 69 [Bz n, Dz n])] [] [0, 1, 2] [] rfl rfl follow rfl ⟨
    .inl ⟨wants_plain rfl, does_move _ (.inl rfl) rfl rfl rfl rfl (ar_tmp (av_fs 0 rfl))⟩,
    .inl ⟨wants_plain rfl, does_call (s_of n h1 h2) rfl hb_collator_whole_Of rfl rfl rfl rfl ⟨(ar_tmp (av_rs 0 rfl rfl)), trivial⟩⟩,
    .inl ⟨wants_plain rfl, does_allocOwn [Bz 0, Dz 0] ty_zero_api_Int rfl rfl rfl rfl rfl z_int rfl⟩,
    .inl ⟨wants_plain rfl, does_storeNew 2 _ _ ty_agg_api_Int rfl rfl rfl rfl rfl (pt_own (av_rs 2 rfl rfl)) (av_rs 2 rfl rfl) (ar_tmp (av_rs 1 rfl rfl))⟩,
    trivial⟩ ?_
  refine nx_sub (fs' := [.slot 1 (VP.int .i64 n), .slot 6 (VP.bool false), .box 11 69 [Bz n, Dz n]]) [0, 1, 6] rfl ?_
  refine nx_then ?_
  refine t_seq ?_
  refine t_seq ?_
  refine t_region (F := ⟨_, _, _, _⟩) [.slot 1 (VP.int .i64 n), .slot 6 (VP.bool false), .box 11 69 [Bz n, Dz n]] [] [(0, .slot 67 (INT n)), (1, .slot 68 (VP.bool true)), (2, .slot 69 (VP.bool false)), (3, .slot 70 (VP.bool false)), (4, .slot 71 (VP.int .i64 n)), (5, .slot 72 (VP.bool (decide (n > (-4611686018427387904))))), (6, .slot 73 (VP.bool (decide (n > (-4611686018427387904))))), (7, .slot 74 (VP.undef)), (8, .slot 75 (VP.undef)), (9, .slot 76 (VP.undef)), (10, .slot 77 (VP.undef)), (11, .slot 78 (VP.undef)), (12, .slot 79 (VP.undef)), (13, .slot 80 (VP.bool false)), (14, .slot 81 (VP.bool false))] [] [0, 1, 2] [] rfl rfl follow rfl ⟨
    .inl ⟨wants_plain rfl, does_loadAgg _ ty_agg_api_Int rfl rfl rfl rfl rfl rfl (pt_box (av_fs 2 rfl)) (av_fs 2 rfl)⟩,
    .inl ⟨wants_plain rfl, does_call (r_rightZ n (lle (of_len h1 h2) (by decide))) rfl hb_collator_collatorref01_Right rfl rfl rfl rfl ⟨(ar_tmp (av_rs 0 rfl rfl)), trivial⟩⟩,
    .inl ⟨wants_plain rfl, does_not true _ _ rfl rfl rfl rfl rfl (ar_tmp (av_rs 1 rfl rfl))⟩,
    .inl ⟨wants_plain rfl, does_move _ (.inl rfl) rfl rfl rfl rfl (ar_tmp (av_rs 2 rfl rfl))⟩,
    .inl ⟨wants_guard false rfl rfl rfl (av_rs 3 rfl rfl), does_move _ (.inl rfl) rfl rfl rfl rfl (ar_tmp (av_fs 0 rfl))⟩,
    .inl ⟨wants_guard false rfl rfl rfl (av_rs 3 rfl rfl), does_cmp (m := n) (n := (-4611686018427387904)) _ _ _ _ _ rfl rfl rfl rfl rfl rfl .i64 (ar_tmp (av_rs 4 rfl rfl)) (ar_const (fun _ => rfl))⟩,
    .inl ⟨wants_guard false rfl rfl rfl (av_rs 3 rfl rfl), does_move _ (.inl rfl) rfl rfl rfl rfl (ar_tmp (av_rs 5 rfl rfl))⟩,
    .inr (skips_guardU false rfl rfl rfl (av_bool (decide_eq_false (by omega)) (av_rs 6 rfl rfl)) rfl rfl rfl rfl),
    .inr (skips_guardU false rfl rfl rfl (av_bool (decide_eq_false (by omega)) (av_rs 6 rfl rfl)) rfl rfl rfl rfl),
    .inr (skips_guardU false rfl rfl rfl (av_bool (decide_eq_false (by omega)) (av_rs 6 rfl rfl)) rfl rfl rfl rfl),
    .inr (skips_guardU false rfl rfl rfl (av_bool (decide_eq_false (by omega)) (av_rs 6 rfl rfl)) rfl rfl rfl rfl),
    .inr (skips_guardU false rfl rfl rfl (av_bool (decide_eq_false (by omega)) (av_rs 6 rfl rfl)) rfl rfl rfl rfl),
    .inr (skips_guardU false rfl rfl rfl (av_bool (decide_eq_false (by omega)) (av_rs 6 rfl rfl)) rfl rfl rfl rfl),
    .inl ⟨wants_guard false rfl rfl rfl (av_rs 3 rfl rfl), does_pick false _ _ _ rfl rfl rfl rfl rfl (ar_tmp (av_bool (decide_eq_false (by omega)) (av_rs 6 rfl rfl))) (ar_const (fun _ => rfl))⟩,
    .inl ⟨wants_plain rfl, does_pick false _ _ _ rfl rfl rfl rfl rfl (ar_tmp (av_rs 3 rfl rfl)) (ar_tmp (av_rs 13 rfl rfl))⟩,
    trivial⟩ ?_
  refine nx_sub (fs' := [.slot 1 (VP.int .i64 n), .slot 6 (VP.bool false), .box 11 69 [Bz n, Dz n], .slot 81 (VP.bool false)]) [0, 1, 2, 17] rfl ?_
  refine nx_then ?_
  refine t_cond_f 3 rfl ?_
  refine t_skip ?_
  refine nx_then ?_
  refine t_seq ?_
  refine t_region (F := ⟨_, _, _, _⟩) [.slot 1 (VP.int .i64 n), .slot 6 (VP.bool false), .box 11 69 [Bz n, Dz n], .slot 81 (VP.bool false)] [] [(0, .slot 83 (INT n)), (1, .slot 84 (VP.tup [VP.int .i64 0, VP.bool false])), (2, .slot 82 (VP.tup [VP.int .i64 0, VP.bool false])), (3, .slot 85 (VP.int .i64 0)), (4, .slot 86 (VP.bool false)), (5, .slot 12 (VP.int .i64 0)), (6, .slot 13 (VP.bool false))] [] [0, 1, 2, 3] [] rfl rfl follow rfl ⟨
    .inl ⟨wants_plain rfl, does_loadAgg _ ty_agg_api_Int rfl rfl rfl rfl rfl rfl (pt_box (av_fs 2 rfl)) (av_fs 2 rfl)⟩,
    .inl ⟨wants_plain rfl, does_call (s_smallF n (lle (of_len h1 h2) (by decide)) (decide_eq_false (by omega))) rfl hb_collator_whole_Small rfl rfl rfl rfl ⟨(ar_tmp (av_rs 0 rfl rfl)), trivial⟩⟩,
    .inl ⟨wants_plain rfl, does_move _ (.inl rfl) rfl rfl rfl rfl (ar_tmp (av_rs 1 rfl rfl))⟩,
    .inl ⟨wants_plain rfl, does_extract (ps := [VP.int .i64 0, VP.bool false]) _ _ rfl rfl rfl rfl rfl (ar_tmp (av_rs 2 rfl rfl)) rfl⟩,
    .inl ⟨wants_plain rfl, does_extract (ps := [VP.int .i64 0, VP.bool false]) _ _ rfl rfl rfl rfl rfl (ar_tmp (av_rs 2 rfl rfl)) rfl⟩,
    .inl ⟨wants_plain rfl, does_move _ (.inr rfl) rfl rfl rfl rfl (ar_tmp (av_rs 3 rfl rfl))⟩,
    .inl ⟨wants_plain rfl, does_move _ (.inr rfl) rfl rfl rfl rfl (ar_tmp (av_rs 4 rfl rfl))⟩,
    trivial⟩ ?_
  refine nx_sub (fs' := [.slot 1 (VP.int .i64 n), .slot 6 (VP.bool false), .slot 12 (VP.int .i64 0), .slot 13 (VP.bool false)]) [0, 1, 9, 10] rfl ?_
  refine nx_then ?_
  refine t_seq ?_
  refine t_region (F := ⟨_, _, _, _⟩) [.slot 1 (VP.int .i64 n), .slot 12 (VP.int .i64 0), .slot 13 (VP.bool false)] [(24, .slot 6 (VP.bool false))] [(0, .slot 87 (VP.bool false)), (1, .slot 88 (VP.int .i64 n)), (2, .slot 89 (VP.bool (decide (n ≥ (-4611686018427387904))))), (3, .slot 90 (VP.bool (decide (n ≥ (-4611686018427387904))))), (4, .slot 91 (VP.undef)), (5, .slot 92 (VP.undef)), (6, .slot 93 (VP.bool false)), (7, .slot 94 (VP.bool true)), (8, .slot 95 (VP.bool true)), (9, .slot 96 (VP.bool false)), (10, .slot 97 (VP.bool true)), (11, .slot 98 (VP.bool true)), (12, .slot 99 (VP.int .i64 0)), (13, .slot 100 (VP.bool (0 == 0))), (14, .slot 101 (VP.bool (0 == 0))), (15, .slot 102 (VP.bool (0 == 0))), (16, .slot 103 (VP.undef)), (17, .slot 104 (VP.undef)), (18, .slot 105 (VP.undef)), (19, .slot 106 (VP.undef)), (20, .slot 107 (VP.undef)), (21, .slot 108 (VP.undef)), (22, .slot 109 (VP.bool true)), (23, .slot 110 (VP.bool true)), (24, .slot 6 (VP.bool true))] [] [0, 2, 3] [1] rfl rfl follow rfl ⟨
    .inl ⟨wants_plain rfl, does_move _ (.inl rfl) rfl rfl rfl rfl (ar_tmp (av_fs 2 rfl))⟩,
    .inl ⟨wants_plain rfl, does_move _ (.inl rfl) rfl rfl rfl rfl (ar_tmp (av_fs 0 rfl))⟩,
    .inl ⟨wants_plain rfl, does_cmp (m := n) (n := (-4611686018427387904)) _ _ _ _ _ rfl rfl rfl rfl rfl rfl .i64 (ar_tmp (av_rs 1 rfl rfl)) (ar_const (fun _ => rfl))⟩,
    .inl ⟨wants_plain rfl, does_move _ (.inl rfl) rfl rfl rfl rfl (ar_tmp (av_rs 2 rfl rfl))⟩,
    .inr (skips_guardU false rfl rfl rfl (av_bool (decide_eq_false (by omega)) (av_rs 3 rfl rfl)) rfl rfl rfl rfl),
    .inr (skips_guardU false rfl rfl rfl (av_bool (decide_eq_false (by omega)) (av_rs 3 rfl rfl)) rfl rfl rfl rfl),
    .inl ⟨wants_plain rfl, does_pick false _ _ _ rfl rfl rfl rfl rfl (ar_tmp (av_bool (decide_eq_false (by omega)) (av_rs 3 rfl rfl))) (ar_const (fun _ => rfl))⟩,
    .inl ⟨wants_plain rfl, does_eqBool (u := false) (v := false) _ _ _ _ _ (by kernel_rfl) rfl rfl rfl rfl rfl rfl (ar_tmp (av_rs 0 rfl rfl)) (ar_tmp (av_rs 6 rfl rfl))⟩,
    .inl ⟨wants_plain rfl, does_move _ (.inl rfl) rfl rfl rfl rfl (ar_tmp (av_rs 7 rfl rfl))⟩,
    .inl ⟨wants_guard true rfl rfl rfl (av_rs 8 rfl rfl), does_move _ (.inl rfl) rfl rfl rfl rfl (ar_tmp (av_fs 2 rfl))⟩,
    .inl ⟨wants_guard true rfl rfl rfl (av_rs 8 rfl rfl), does_not false _ _ rfl rfl rfl rfl rfl (ar_tmp (av_rs 9 rfl rfl))⟩,
    .inl ⟨wants_guard true rfl rfl rfl (av_rs 8 rfl rfl), does_move _ (.inl rfl) rfl rfl rfl rfl (ar_tmp (av_rs 10 rfl rfl))⟩,
    .inl ⟨wants_guard true rfl rfl rfl (av_rs 11 rfl rfl), does_move _ (.inl rfl) rfl rfl rfl rfl (ar_tmp (av_fs 1 rfl))⟩,
    .inl ⟨wants_guard true rfl rfl rfl (av_rs 11 rfl rfl), does_cmp (m := 0) (n := 0) _ _ _ _ _ rfl rfl rfl rfl rfl rfl .i64 (ar_tmp (av_rs 12 rfl rfl)) (ar_const (fun _ => rfl))⟩,
    .inl ⟨wants_guard true rfl rfl rfl (av_rs 8 rfl rfl), does_pick true _ _ _ rfl rfl rfl rfl rfl (ar_tmp (av_rs 11 rfl rfl)) (ar_tmp (av_rs 13 rfl rfl))⟩,
    .inl ⟨wants_guard true rfl rfl rfl (av_rs 8 rfl rfl), does_move _ (.inl rfl) rfl rfl rfl rfl (ar_tmp (av_rs 14 rfl rfl))⟩,
    .inr (skips_guardU true rfl rfl rfl (av_bool rfl (av_rs 15 rfl rfl)) rfl rfl rfl rfl),
    .inr (skips_guardU true rfl rfl rfl (av_bool rfl (av_rs 15 rfl rfl)) rfl rfl rfl rfl),
    .inr (skips_undefU true rfl rfl rfl (av_rs 17 rfl rfl) rfl rfl rfl rfl),
    .inr (skips_undefU true rfl rfl rfl (av_rs 17 rfl rfl) rfl rfl rfl rfl),
    .inr (skips_undefU true rfl rfl rfl (av_rs 17 rfl rfl) rfl rfl rfl rfl),
    .inr (skips_guardU true rfl rfl rfl (av_bool rfl (av_rs 15 rfl rfl)) rfl rfl rfl rfl),
    .inl ⟨wants_guard true rfl rfl rfl (av_rs 8 rfl rfl), does_pick true _ _ _ rfl rfl rfl rfl rfl (ar_tmp (av_bool rfl (av_rs 15 rfl rfl))) (ar_const (fun _ => rfl))⟩,
    .inl ⟨wants_plain rfl, does_pick true _ _ _ rfl rfl rfl rfl rfl (ar_tmp (av_rs 8 rfl rfl)) (ar_tmp (av_rs 22 rfl rfl))⟩,
    .inl ⟨wants_plain rfl, does_move _ (.inr rfl) rfl rfl rfl rfl (ar_tmp (av_rs 23 rfl rfl))⟩,
    trivial⟩ ?_
  refine nx_sub (fs' := [.slot 6 (VP.bool true)]) [27] rfl ?_
  refine nx_then ?_
  refine t_ret ?_
  exact rt_one rfl (res_tmp 0 rfl)
set_option maxRecDepth 100000 in
set_option maxHeartbeats 4000000 in
theorem reads_Sc (s : ByteArray) (n : Int) (h1 : -9223372036854775808 ≤ n) (h2 : n < 9223372036854775808) (x : Raw) (hx : x.ok) (hl : s.size ≤ 200) (hw : x.2.length ≤ 50) (he : -4611686018427387904 < n ∧ n ≤ 4611686018427387904) (z : Int) (hz : L z ≤ 100) (hp : parseL (byt s) = some z) : Spec Try.prog 10 [(VP.str s).p, (VP.int .i64 n).p, (VP.agg [VP.bool x.1, VP.nums .u32 x.2]).p] (VP.bool true) := by
  refine spec_of (xs := [VP.str s, VP.int .i64 n, VP.agg [VP.bool x.1, VP.nums .u32 x.2]]) 111 [5, 7, 9, 11] Try.func10 rfl Try.ntmps10 rfl fun w0 => ?_
  refine t_seq ?_
  refine t_region (F := ⟨_, _, _, _⟩) [.slot 0 (VP.str s), .slot 1 (VP.int .i64 n), .slot 2 (VP.agg [VP.bool x.1, VP.nums .u32 x.2])] [] [(0, .box 5 69 [VP.bool x.1, VP.nums .u32 x.2]), (1, .slot 6 (VP.bool false))] [] [0, 1, 2] [] rfl rfl follow rfl ⟨
    .inl ⟨wants_plain rfl, does_box _ rfl rfl rfl rfl rfl (ar_tmp (av_fs 2 rfl))⟩,
    .inl ⟨wants_plain rfl, does_move _ (.inr rfl) rfl rfl rfl rfl (ar_const (fun _ => rfl))⟩,
    trivial⟩ ?_
  refine nx_sub (fs' := [.slot 0 (VP.str s), .slot 1 (VP.int .i64 n), .box 5 69 [VP.bool x.1, VP.nums .u32 x.2], .slot 6 (VP.bool false)]) [0, 1, 3, 4] rfl ?_
  refine nx_then ?_
  refine t_seq ?_
  refine t_seq ?_
  refine t_region (F := ⟨_, _, _, _⟩) [.slot 0 (VP.str s), .slot 1 (VP.int .i64 n), .box 5 69 [VP.bool x.1, VP.nums .u32 x.2], .slot 6 (VP.bool false)] [] [(0, .slot 14 (VP.bool true)), (1, .slot 15 (VP.bool false))] [] [0, 1, 2, 3] [] rfl rfl follow rfl ⟨
    .inl ⟨wants_plain rfl, does_call sp1_spec rfl hb_collator_collatorlaw01_speaks rfl rfl rfl rfl trivial⟩,
    .inl ⟨wants_plain rfl, does_not true _ _ rfl rfl rfl rfl rfl (ar_tmp (av_rs 0 rfl rfl))⟩,
    trivial⟩ ?_
  refine nx_sub (fs' := [.slot 0 (VP.str s), .slot 1 (VP.int .i64 n), .box 5 69 [VP.bool x.1, VP.nums .u32 x.2], .slot 6 (VP.bool false), .slot 15 (VP.bool false)]) [0, 1, 2, 3, 5] rfl ?_
  refine nx_then ?_
  refine t_cond_f 4 rfl ?_
  refine t_skip ?_
  refine nx_then ?_
  refine t_seq ?_
  refine t_seq ?_
  refine t_region (F := ⟨_, _, _, _⟩) [.slot 0 (VP.str s), .slot 1 (VP.int .i64 n), .box 5 69 [VP.bool x.1, VP.nums .u32 x.2], .slot 6 (VP.bool false), .slot 15 (VP.bool false)] [] [(0, .slot 16 (VP.str s)), (1, .slot 17 (VP.int .i64 ((s.size : Nat) : Int))), (2, .slot 18 (VP.bool (decide (((s.size : Nat) : Int) > 200)))), (3, .slot 19 (VP.bool (decide (((s.size : Nat) : Int) > 200)))), (4, .fp 20 5 1), (5, .slot 21 (VP.nums .u32 x.2)), (6, .slot 22 (VP.int .i64 (((x.2).length : Nat) : Int))), (7, .slot 23 (VP.bool (decide ((((x.2).length : Nat) : Int) > 50)))), (8, .slot 24 (VP.bool (decide ((((x.2).length : Nat) : Int) > 50))))] [] [0, 1, 2, 3, 4] [] rfl rfl follow rfl ⟨
    .inl ⟨wants_plain rfl, does_move _ (.inl rfl) rfl rfl rfl rfl (ar_tmp (av_fs 0 rfl))⟩,
    .inl ⟨wants_plain rfl, does_lenStr _ _ Try.underlying9 rfl rfl rfl rfl rfl (ar_tmp (av_rs 0 rfl rfl))⟩,
    .inl ⟨wants_plain rfl, does_cmp (m := ((s.size : Nat) : Int)) (n := 200) _ _ _ _ _ rfl rfl rfl rfl rfl rfl .i64 (ar_tmp (av_rs 1 rfl rfl)) (ar_const (fun _ => rfl))⟩,
    .inl ⟨wants_plain rfl, does_move _ (.inl rfl) rfl rfl rfl rfl (ar_tmp (av_rs 2 rfl rfl))⟩,
    .inl ⟨wants_guard false rfl rfl rfl (av_bool (decide_eq_false (by omega)) (av_rs 3 rfl rfl)), does_field _ _ _ 1 ty_f1_api_Int rfl rfl rfl rfl rfl rfl rfl (pt_box (av_fs 2 rfl))⟩,
    .inl ⟨wants_guard false rfl rfl rfl (av_bool (decide_eq_false (by omega)) (av_rs 3 rfl rfl)), does_loadOne _ ty_one___uint32 rfl rfl rfl rfl rfl rfl (pt_fp (av_rs 4 rfl rfl)) (av_fs 2 rfl)⟩,
    .inl ⟨wants_guard false rfl rfl rfl (av_bool (decide_eq_false (by omega)) (av_rs 3 rfl rfl)), does_len _ _ (by kernel_rfl) rfl rfl rfl rfl rfl (ar_tmp (av_rs 5 rfl rfl))⟩,
    .inl ⟨wants_guard false rfl rfl rfl (av_bool (decide_eq_false (by omega)) (av_rs 3 rfl rfl)), does_cmp (m := (((x.2).length : Nat) : Int)) (n := 50) _ _ _ _ _ rfl rfl rfl rfl rfl rfl .i64 (ar_tmp (av_rs 6 rfl rfl)) (ar_const (fun _ => rfl))⟩,
    .inl ⟨wants_plain rfl, does_pick false _ _ _ rfl rfl rfl rfl rfl (ar_tmp (av_bool (decide_eq_false (by omega)) (av_rs 3 rfl rfl))) (ar_tmp (av_rs 7 rfl rfl))⟩,
    trivial⟩ ?_
  refine nx_sub (fs' := [.slot 0 (VP.str s), .slot 1 (VP.int .i64 n), .box 5 69 [VP.bool x.1, VP.nums .u32 x.2], .slot 6 (VP.bool false), .slot 24 (VP.bool (decide ((((x.2).length : Nat) : Int) > 50)))]) [0, 1, 2, 3, 13] rfl ?_
  refine nx_then ?_
  refine t_cond_fe 4 rfl (decide_eq_false (by omega)) ?_
  refine t_skip ?_
  refine nx_then ?_
  refine t_seq ?_
  refine t_region (F := ⟨_, _, _, _⟩) [.slot 0 (VP.str s), .slot 1 (VP.int .i64 n), .box 5 69 [VP.bool x.1, VP.nums .u32 x.2], .slot 6 (VP.bool false), .slot 24 (VP.bool (decide ((((x.2).length : Nat) : Int) > 50)))] [] [(0, .slot 26 (VP.str s)), (1, .slot 27 (VP.tup [INT z, VP.bool true])), (2, .slot 25 (VP.tup [INT z, VP.bool true])), (3, .slot 28 (INT z)), (4, .slot 29 (VP.bool true)), (5, .own 7 69 2), (6, .box 7 69 [Bz z, Dz z]), (7, .slot 8 (VP.bool true))] [] [0, 1, 2, 3, 4] [] rfl rfl follow rfl ⟨
    .inl ⟨wants_plain rfl, does_move _ (.inl rfl) rfl rfl rfl rfl (ar_tmp (av_fs 0 rfl))⟩,
    .inl ⟨wants_plain rfl, does_call (s_parse_some s z (by omega) hp) rfl hb_collator_whole_Parse rfl rfl rfl rfl ⟨(ar_tmp (av_rs 0 rfl rfl)), trivial⟩⟩,
    .inl ⟨wants_plain rfl, does_move _ (.inl rfl) rfl rfl rfl rfl (ar_tmp (av_rs 1 rfl rfl))⟩,
    .inl ⟨wants_plain rfl, does_extract (ps := [INT z, VP.bool true]) _ _ rfl rfl rfl rfl rfl (ar_tmp (av_rs 2 rfl rfl)) rfl⟩,
    .inl ⟨wants_plain rfl, does_extract (ps := [INT z, VP.bool true]) _ _ rfl rfl rfl rfl rfl (ar_tmp (av_rs 2 rfl rfl)) rfl⟩,
    .inl ⟨wants_plain rfl, does_allocOwn [Bz 0, Dz 0] ty_zero_api_Int rfl rfl rfl rfl rfl z_int rfl⟩,
    .inl ⟨wants_plain rfl, does_storeNew 2 _ _ ty_agg_api_Int rfl rfl rfl rfl rfl (pt_own (av_rs 5 rfl rfl)) (av_rs 5 rfl rfl) (ar_tmp (av_rs 3 rfl rfl))⟩,
    .inl ⟨wants_plain rfl, does_move _ (.inr rfl) rfl rfl rfl rfl (ar_tmp (av_rs 4 rfl rfl))⟩,
    trivial⟩ ?_
  refine nx_sub (fs' := [.slot 0 (VP.str s), .slot 1 (VP.int .i64 n), .box 5 69 [VP.bool x.1, VP.nums .u32 x.2], .slot 6 (VP.bool false), .box 7 69 [Bz z, Dz z], .slot 8 (VP.bool true)]) [0, 1, 2, 3, 11, 12] rfl ?_
  refine nx_then ?_
  refine t_seq ?_
  refine t_region (F := ⟨_, _, _, _⟩) [.slot 0 (VP.str s), .slot 1 (VP.int .i64 n), .box 5 69 [VP.bool x.1, VP.nums .u32 x.2], .slot 6 (VP.bool false), .box 7 69 [Bz z, Dz z], .slot 8 (VP.bool true)] [] [(0, .slot 31 (VP.str s)), (1, .slot 32 (VP.tup [NUM z, VP.bool true])), (2, .slot 30 (VP.tup [NUM z, VP.bool true])), (3, .slot 33 (NUM z)), (4, .slot 34 (VP.bool true)), (5, .own 9 72 2), (6, .box 9 72 [Bz z, Tz z]), (7, .slot 10 (VP.bool true))] [] [0, 1, 2, 3, 4, 5] [] rfl rfl follow rfl ⟨
    .inl ⟨wants_plain rfl, does_move _ (.inl rfl) rfl rfl rfl rfl (ar_tmp (av_fs 0 rfl))⟩,
    .inl ⟨wants_plain rfl, does_call (r_parse_some s z (by omega) hp) rfl hb_collator_collatorref01_Parse rfl rfl rfl rfl ⟨(ar_tmp (av_rs 0 rfl rfl)), trivial⟩⟩,
    .inl ⟨wants_plain rfl, does_move _ (.inl rfl) rfl rfl rfl rfl (ar_tmp (av_rs 1 rfl rfl))⟩,
    .inl ⟨wants_plain rfl, does_extract (ps := [NUM z, VP.bool true]) _ _ rfl rfl rfl rfl rfl (ar_tmp (av_rs 2 rfl rfl)) rfl⟩,
    .inl ⟨wants_plain rfl, does_extract (ps := [NUM z, VP.bool true]) _ _ rfl rfl rfl rfl rfl (ar_tmp (av_rs 2 rfl rfl)) rfl⟩,
    .inl ⟨wants_plain rfl, does_allocOwn [Bz 0, Tz 0] ty_zero_collatorref01_Num rfl rfl rfl rfl rfl z_num rfl⟩,
    .inl ⟨wants_plain rfl, does_storeNew 2 _ _ ty_agg_collatorref01_Num rfl rfl rfl rfl rfl (pt_own (av_rs 5 rfl rfl)) (av_rs 5 rfl rfl) (ar_tmp (av_rs 3 rfl rfl))⟩,
    .inl ⟨wants_plain rfl, does_move _ (.inr rfl) rfl rfl rfl rfl (ar_tmp (av_rs 4 rfl rfl))⟩,
    trivial⟩ ?_
  refine nx_sub (fs' := [.slot 1 (VP.int .i64 n), .box 5 69 [VP.bool x.1, VP.nums .u32 x.2], .slot 6 (VP.bool false), .box 7 69 [Bz z, Dz z], .slot 8 (VP.bool true), .box 9 72 [Bz z, Tz z], .slot 10 (VP.bool true)]) [1, 2, 3, 4, 5, 12, 13] rfl ?_
  refine nx_then ?_
  refine t_seq ?_
  refine t_seq ?_
  refine t_region (F := ⟨_, _, _, _⟩) [.slot 1 (VP.int .i64 n), .box 5 69 [VP.bool x.1, VP.nums .u32 x.2], .slot 6 (VP.bool false), .box 7 69 [Bz z, Dz z], .slot 8 (VP.bool true), .box 9 72 [Bz z, Tz z], .slot 10 (VP.bool true)] [] [(0, .slot 35 (VP.bool true)), (1, .slot 36 (VP.bool true)), (2, .slot 37 (VP.bool false)), (3, .slot 38 (VP.bool false)), (4, .slot 39 (VP.bool true)), (5, .slot 40 (VP.bool true)), (6, .slot 41 (INT z)), (7, .slot 42 (NUM z)), (8, .slot 43 (INT z)), (9, .slot 44 (VP.bool true)), (10, .slot 45 (VP.bool false)), (11, .slot 46 (VP.bool false)), (12, .slot 47 (VP.bool false)), (13, .slot 48 (VP.bool false)), (14, .slot 49 (VP.bool true)), (15, .slot 50 (VP.bool false)), (16, .slot 51 (VP.bool false)), (17, .slot 52 (VP.undef)), (18, .slot 53 (VP.undef)), (19, .slot 54 (VP.undef)), (20, .slot 55 (VP.undef)), (21, .slot 56 (VP.bool false)), (22, .slot 57 (VP.bool false)), (23, .slot 58 (VP.bool false)), (24, .slot 59 (VP.agg [VP.bool x.1, VP.nums .u32 x.2])), (25, .slot 60 (VP.bool (rightB x.1 x.2))), (26, .slot 61 (VP.agg [VP.bool x.1, VP.nums .u32 x.2])), (27, .slot 62 (VP.bool (rightB x.1 x.2))), (28, .slot 63 (VP.bool (!((rightB x.1 x.2) == (rightB x.1 x.2))))), (29, .slot 64 (VP.bool (!((rightB x.1 x.2) == (rightB x.1 x.2)))))] [] [0, 1, 2, 3, 4, 5, 6] [] rfl rfl follow rfl ⟨
    .inl ⟨wants_plain rfl, does_move _ (.inl rfl) rfl rfl rfl rfl (ar_tmp (av_fs 4 rfl))⟩,
    .inl ⟨wants_plain rfl, does_move _ (.inl rfl) rfl rfl rfl rfl (ar_tmp (av_fs 6 rfl))⟩,
    .inl ⟨wants_plain rfl, does_eqBool (u := true) (v := true) _ _ _ _ _ (by kernel_rfl) rfl rfl rfl rfl rfl rfl (ar_tmp (av_rs 0 rfl rfl)) (ar_tmp (av_rs 1 rfl rfl))⟩,
    .inl ⟨wants_plain rfl, does_move _ (.inl rfl) rfl rfl rfl rfl (ar_tmp (av_rs 2 rfl rfl))⟩,
    .inl ⟨wants_guard false rfl rfl rfl (av_rs 3 rfl rfl), does_move _ (.inl rfl) rfl rfl rfl rfl (ar_tmp (av_fs 4 rfl))⟩,
    .inl ⟨wants_guard false rfl rfl rfl (av_rs 3 rfl rfl), does_move _ (.inl rfl) rfl rfl rfl rfl (ar_tmp (av_rs 4 rfl rfl))⟩,
    .inl ⟨wants_guard true rfl rfl rfl (av_rs 5 rfl rfl), does_loadAgg _ ty_agg_api_Int rfl rfl rfl rfl rfl rfl (pt_box (av_fs 3 rfl)) (av_fs 3 rfl)⟩,
    .inl ⟨wants_guard true rfl rfl rfl (av_rs 5 rfl rfl), does_loadAgg _ ty_agg_collatorref01_Num rfl rfl rfl rfl rfl rfl (pt_box (av_fs 5 rfl)) (av_fs 5 rfl)⟩,
    .inl ⟨wants_guard true rfl rfl rfl (av_rs 5 rfl rfl), does_call (r_form z (n10 hz (by decide))) rfl hb_collator_collatorref01_Form rfl rfl rfl rfl ⟨(ar_tmp (av_rs 7 rfl rfl)), trivial⟩⟩,
    .inl ⟨wants_guard true rfl rfl rfl (av_rs 5 rfl rfl), does_call (r_same1 z (lle hz (by decide))) rfl hb_collator_collatorref01_Same rfl rfl rfl rfl ⟨(ar_tmp (av_rs 6 rfl rfl)), (ar_tmp (av_rs 8 rfl rfl)), trivial⟩⟩,
    .inl ⟨wants_guard true rfl rfl rfl (av_rs 5 rfl rfl), does_not true _ _ rfl rfl rfl rfl rfl (ar_tmp (av_rs 9 rfl rfl))⟩,
    .inl ⟨wants_guard false rfl rfl rfl (av_rs 3 rfl rfl), does_pick true _ _ _ rfl rfl rfl rfl rfl (ar_tmp (av_rs 5 rfl rfl)) (ar_tmp (av_rs 10 rfl rfl))⟩,
    .inl ⟨wants_plain rfl, does_pick false _ _ _ rfl rfl rfl rfl rfl (ar_tmp (av_rs 3 rfl rfl)) (ar_tmp (av_rs 11 rfl rfl))⟩,
    .inl ⟨wants_plain rfl, does_move _ (.inl rfl) rfl rfl rfl rfl (ar_tmp (av_rs 12 rfl rfl))⟩,
    .inl ⟨wants_guard false rfl rfl rfl (av_rs 13 rfl rfl), does_move _ (.inl rfl) rfl rfl rfl rfl (ar_tmp (av_fs 4 rfl))⟩,
    .inl ⟨wants_guard false rfl rfl rfl (av_rs 13 rfl rfl), does_not true _ _ rfl rfl rfl rfl rfl (ar_tmp (av_rs 14 rfl rfl))⟩,
    .inl ⟨wants_guard false rfl rfl rfl (av_rs 13 rfl rfl), does_move _ (.inl rfl) rfl rfl rfl rfl (ar_tmp (av_rs 15 rfl rfl))⟩,
    .inr (skips_guardU false rfl rfl rfl (av_rs 16 rfl rfl) rfl rfl rfl rfl),
    .inr (skips_guardU false rfl rfl rfl (av_rs 16 rfl rfl) rfl rfl rfl rfl),
    .inr (skips_guardU false rfl rfl rfl (av_rs 16 rfl rfl) rfl rfl rfl rfl),
    .inr (skips_guardU false rfl rfl rfl (av_rs 16 rfl rfl) rfl rfl rfl rfl),
    .inl ⟨wants_guard false rfl rfl rfl (av_rs 13 rfl rfl), does_pick false _ _ _ rfl rfl rfl rfl rfl (ar_tmp (av_rs 16 rfl rfl)) (ar_const (fun _ => rfl))⟩,
    .inl ⟨wants_plain rfl, does_pick false _ _ _ rfl rfl rfl rfl rfl (ar_tmp (av_rs 13 rfl rfl)) (ar_tmp (av_rs 21 rfl rfl))⟩,
    .inl ⟨wants_plain rfl, does_move _ (.inl rfl) rfl rfl rfl rfl (ar_tmp (av_rs 22 rfl rfl))⟩,
    .inl ⟨wants_guard false rfl rfl rfl (av_rs 23 rfl rfl), does_loadAgg _ ty_agg_api_Int rfl rfl rfl rfl rfl rfl (pt_box (av_fs 1 rfl)) (av_fs 1 rfl)⟩,
    .inl ⟨wants_guard false rfl rfl rfl (av_rs 23 rfl rfl), does_call (s_right x (by omega)) rfl hb_collator_whole_Right rfl rfl rfl rfl ⟨(ar_tmp (av_rs 24 rfl rfl)), trivial⟩⟩,
    .inl ⟨wants_guard false rfl rfl rfl (av_rs 23 rfl rfl), does_loadAgg _ ty_agg_api_Int rfl rfl rfl rfl rfl rfl (pt_box (av_fs 1 rfl)) (av_fs 1 rfl)⟩,
    .inl ⟨wants_guard false rfl rfl rfl (av_rs 23 rfl rfl), does_call (r_rightW x hx (by omega)) rfl hb_collator_collatorref01_Right rfl rfl rfl rfl ⟨(ar_tmp (av_rs 26 rfl rfl)), trivial⟩⟩,
    .inl ⟨wants_guard false rfl rfl rfl (av_rs 23 rfl rfl), does_eqBool (u := (rightB x.1 x.2)) (v := (rightB x.1 x.2)) _ _ _ _ _ (by kernel_rfl) rfl rfl rfl rfl rfl rfl (ar_tmp (av_rs 25 rfl rfl)) (ar_tmp (av_rs 27 rfl rfl))⟩,
    .inl ⟨wants_plain rfl, does_pick false _ _ _ rfl rfl rfl rfl rfl (ar_tmp (av_rs 23 rfl rfl)) (ar_tmp (av_rs 28 rfl rfl))⟩,
    trivial⟩ ?_
  refine nx_sub (fs' := [.slot 1 (VP.int .i64 n), .slot 6 (VP.bool false), .slot 64 (VP.bool (!((rightB x.1 x.2) == (rightB x.1 x.2))))]) [0, 2, 36] rfl ?_
  refine nx_then ?_
  refine t_cond_fe 2 rfl (by rw [beq_self_eq_true]; rfl) ?_
  refine t_skip ?_
  refine nx_then ?_
  refine t_seq ?_
  refine t_region (F := ⟨_, _, _, _⟩) [.slot 1 (VP.int .i64 n), .slot 6 (VP.bool false), .slot 64 (VP.bool (!((rightB x.1 x.2) == (rightB x.1 x.2))))] [] [(0, .slot 65 (VP.int .i64 n)), (1, .slot 66 (INT n)), (2, .own 11 69 2), (3, .box 11 69 [Bz n, Dz n])] [] [0, 1, 2] [] rfl rfl follow rfl ⟨
    .inl ⟨wants_plain rfl, does_move _ (.inl rfl) rfl rfl rfl rfl (ar_tmp (av_fs 0 rfl))⟩,
    .inl ⟨wants_plain rfl, does_call (s_of n h1 h2) rfl hb_collator_whole_Of rfl rfl rfl rfl ⟨(ar_tmp (av_rs 0 rfl rfl)), trivial⟩⟩,
    .inl ⟨wants_plain rfl, does_allocOwn [Bz 0, Dz 0] ty_zero_api_Int rfl rfl rfl rfl rfl z_int rfl⟩,
    .inl ⟨wants_plain rfl, does_storeNew 2 _ _ ty_agg_api_Int rfl rfl rfl rfl rfl (pt_own (av_rs 2 rfl rfl)) (av_rs 2 rfl rfl) (ar_tmp (av_rs 1 rfl rfl))⟩,
    trivial⟩ ?_
  refine nx_sub (fs' := [.slot 1 (VP.int .i64 n), .slot 6 (VP.bool false), .box 11 69 [Bz n, Dz n]]) [0, 1, 6] rfl ?_
  refine nx_then ?_
  refine t_seq ?_
  refine t_seq ?_
  refine t_region (F := ⟨_, _, _, _⟩) [.slot 1 (VP.int .i64 n), .slot 6 (VP.bool false), .box 11 69 [Bz n, Dz n]] [] [(0, .slot 67 (INT n)), (1, .slot 68 (VP.bool true)), (2, .slot 69 (VP.bool false)), (3, .slot 70 (VP.bool false)), (4, .slot 71 (VP.int .i64 n)), (5, .slot 72 (VP.bool (decide (n > (-4611686018427387904))))), (6, .slot 73 (VP.bool (decide (n > (-4611686018427387904))))), (7, .slot 74 (INT n)), (8, .slot 75 (VP.int .i64 n)), (9, .slot 76 (NUM n)), (10, .slot 77 (INT n)), (11, .slot 78 (VP.bool true)), (12, .slot 79 (VP.bool false)), (13, .slot 80 (VP.bool false)), (14, .slot 81 (VP.bool false))] [] [0, 1, 2] [] rfl rfl follow rfl ⟨
    .inl ⟨wants_plain rfl, does_loadAgg _ ty_agg_api_Int rfl rfl rfl rfl rfl rfl (pt_box (av_fs 2 rfl)) (av_fs 2 rfl)⟩,
    .inl ⟨wants_plain rfl, does_call (r_rightZ n (lle (of_len h1 h2) (by decide))) rfl hb_collator_collatorref01_Right rfl rfl rfl rfl ⟨(ar_tmp (av_rs 0 rfl rfl)), trivial⟩⟩,
    .inl ⟨wants_plain rfl, does_not true _ _ rfl rfl rfl rfl rfl (ar_tmp (av_rs 1 rfl rfl))⟩,
    .inl ⟨wants_plain rfl, does_move _ (.inl rfl) rfl rfl rfl rfl (ar_tmp (av_rs 2 rfl rfl))⟩,
    .inl ⟨wants_guard false rfl rfl rfl (av_rs 3 rfl rfl), does_move _ (.inl rfl) rfl rfl rfl rfl (ar_tmp (av_fs 0 rfl))⟩,
    .inl ⟨wants_guard false rfl rfl rfl (av_rs 3 rfl rfl), does_cmp (m := n) (n := (-4611686018427387904)) _ _ _ _ _ rfl rfl rfl rfl rfl rfl .i64 (ar_tmp (av_rs 4 rfl rfl)) (ar_const (fun _ => rfl))⟩,
    .inl ⟨wants_guard false rfl rfl rfl (av_rs 3 rfl rfl), does_move _ (.inl rfl) rfl rfl rfl rfl (ar_tmp (av_rs 5 rfl rfl))⟩,
    .inl ⟨wants_guard true rfl rfl rfl (av_bool (decide_eq_true (by omega)) (av_rs 6 rfl rfl)), does_loadAgg _ ty_agg_api_Int rfl rfl rfl rfl rfl rfl (pt_box (av_fs 2 rfl)) (av_fs 2 rfl)⟩,
    .inl ⟨wants_guard true rfl rfl rfl (av_bool (decide_eq_true (by omega)) (av_rs 6 rfl rfl)), does_move _ (.inl rfl) rfl rfl rfl rfl (ar_tmp (av_fs 0 rfl))⟩,
    .inl ⟨wants_guard true rfl rfl rfl (av_bool (decide_eq_true (by omega)) (av_rs 6 rfl rfl)), does_call (r_int n (by omega) (by omega)) rfl hb_collator_collatorref01_Int rfl rfl rfl rfl ⟨(ar_tmp (av_rs 8 rfl rfl)), trivial⟩⟩,
    .inl ⟨wants_guard true rfl rfl rfl (av_bool (decide_eq_true (by omega)) (av_rs 6 rfl rfl)), does_call (r_form n (n10 (of_len h1 h2) (by decide))) rfl hb_collator_collatorref01_Form rfl rfl rfl rfl ⟨(ar_tmp (av_rs 9 rfl rfl)), trivial⟩⟩,
    .inl ⟨wants_guard true rfl rfl rfl (av_bool (decide_eq_true (by omega)) (av_rs 6 rfl rfl)), does_call (r_same1 n (lle (of_len h1 h2) (by decide))) rfl hb_collator_collatorref01_Same rfl rfl rfl rfl ⟨(ar_tmp (av_rs 7 rfl rfl)), (ar_tmp (av_rs 10 rfl rfl)), trivial⟩⟩,
    .inl ⟨wants_guard true rfl rfl rfl (av_bool (decide_eq_true (by omega)) (av_rs 6 rfl rfl)), does_not true _ _ rfl rfl rfl rfl rfl (ar_tmp (av_rs 11 rfl rfl))⟩,
    .inl ⟨wants_guard false rfl rfl rfl (av_rs 3 rfl rfl), does_pick true _ _ _ rfl rfl rfl rfl rfl (ar_tmp (av_bool (decide_eq_true (by omega)) (av_rs 6 rfl rfl))) (ar_tmp (av_rs 12 rfl rfl))⟩,
    .inl ⟨wants_plain rfl, does_pick false _ _ _ rfl rfl rfl rfl rfl (ar_tmp (av_rs 3 rfl rfl)) (ar_tmp (av_rs 13 rfl rfl))⟩,
    trivial⟩ ?_
  refine nx_sub (fs' := [.slot 1 (VP.int .i64 n), .slot 6 (VP.bool false), .box 11 69 [Bz n, Dz n], .slot 81 (VP.bool false)]) [0, 1, 2, 17] rfl ?_
  refine nx_then ?_
  refine t_cond_f 3 rfl ?_
  refine t_skip ?_
  refine nx_then ?_
  refine t_seq ?_
  refine t_region (F := ⟨_, _, _, _⟩) [.slot 1 (VP.int .i64 n), .slot 6 (VP.bool false), .box 11 69 [Bz n, Dz n], .slot 81 (VP.bool false)] [] [(0, .slot 83 (INT n)), (1, .slot 84 (VP.tup [VP.int .i64 n, VP.bool true])), (2, .slot 82 (VP.tup [VP.int .i64 n, VP.bool true])), (3, .slot 85 (VP.int .i64 n)), (4, .slot 86 (VP.bool true)), (5, .slot 12 (VP.int .i64 n)), (6, .slot 13 (VP.bool true))] [] [0, 1, 2, 3] [] rfl rfl follow rfl ⟨
    .inl ⟨wants_plain rfl, does_loadAgg _ ty_agg_api_Int rfl rfl rfl rfl rfl rfl (pt_box (av_fs 2 rfl)) (av_fs 2 rfl)⟩,
    .inl ⟨wants_plain rfl, does_call (s_smallT n (lle (of_len h1 h2) (by decide)) (decide_eq_true (by omega))) rfl hb_collator_whole_Small rfl rfl rfl rfl ⟨(ar_tmp (av_rs 0 rfl rfl)), trivial⟩⟩,
    .inl ⟨wants_plain rfl, does_move _ (.inl rfl) rfl rfl rfl rfl (ar_tmp (av_rs 1 rfl rfl))⟩,
    .inl ⟨wants_plain rfl, does_extract (ps := [VP.int .i64 n, VP.bool true]) _ _ rfl rfl rfl rfl rfl (ar_tmp (av_rs 2 rfl rfl)) rfl⟩,
    .inl ⟨wants_plain rfl, does_extract (ps := [VP.int .i64 n, VP.bool true]) _ _ rfl rfl rfl rfl rfl (ar_tmp (av_rs 2 rfl rfl)) rfl⟩,
    .inl ⟨wants_plain rfl, does_move _ (.inr rfl) rfl rfl rfl rfl (ar_tmp (av_rs 3 rfl rfl))⟩,
    .inl ⟨wants_plain rfl, does_move _ (.inr rfl) rfl rfl rfl rfl (ar_tmp (av_rs 4 rfl rfl))⟩,
    trivial⟩ ?_
  refine nx_sub (fs' := [.slot 1 (VP.int .i64 n), .slot 6 (VP.bool false), .slot 12 (VP.int .i64 n), .slot 13 (VP.bool true)]) [0, 1, 9, 10] rfl ?_
  refine nx_then ?_
  refine t_seq ?_
  refine t_region (F := ⟨_, _, _, _⟩) [.slot 1 (VP.int .i64 n), .slot 12 (VP.int .i64 n), .slot 13 (VP.bool true)] [(24, .slot 6 (VP.bool false))] [(0, .slot 87 (VP.bool true)), (1, .slot 88 (VP.int .i64 n)), (2, .slot 89 (VP.bool (decide (n ≥ (-4611686018427387904))))), (3, .slot 90 (VP.bool (decide (n ≥ (-4611686018427387904))))), (4, .slot 91 (VP.int .i64 n)), (5, .slot 92 (VP.bool (decide (n ≤ 4611686018427387904)))), (6, .slot 93 (VP.bool (decide (n ≤ 4611686018427387904)))), (7, .slot 94 (VP.bool true)), (8, .slot 95 (VP.bool true)), (9, .slot 96 (VP.bool true)), (10, .slot 97 (VP.bool false)), (11, .slot 98 (VP.bool false)), (12, .slot 99 (VP.undef)), (13, .slot 100 (VP.undef)), (14, .slot 101 (VP.bool false)), (15, .slot 102 (VP.bool false)), (16, .slot 103 (VP.bool true)), (17, .slot 104 (VP.bool true)), (18, .slot 105 (VP.int .i64 n)), (19, .slot 106 (VP.int .i64 n)), (20, .slot 107 (VP.bool (n == n))), (21, .slot 108 (VP.bool (n == n))), (22, .slot 109 (VP.bool (n == n))), (23, .slot 110 (VP.bool (n == n))), (24, .slot 6 (VP.bool (n == n)))] [] [0, 2, 3] [1] rfl rfl follow rfl ⟨
    .inl ⟨wants_plain rfl, does_move _ (.inl rfl) rfl rfl rfl rfl (ar_tmp (av_fs 2 rfl))⟩,
    .inl ⟨wants_plain rfl, does_move _ (.inl rfl) rfl rfl rfl rfl (ar_tmp (av_fs 0 rfl))⟩,
    .inl ⟨wants_plain rfl, does_cmp (m := n) (n := (-4611686018427387904)) _ _ _ _ _ rfl rfl rfl rfl rfl rfl .i64 (ar_tmp (av_rs 1 rfl rfl)) (ar_const (fun _ => rfl))⟩,
    .inl ⟨wants_plain rfl, does_move _ (.inl rfl) rfl rfl rfl rfl (ar_tmp (av_rs 2 rfl rfl))⟩,
    .inl ⟨wants_guard true rfl rfl rfl (av_bool (decide_eq_true (by omega)) (av_rs 3 rfl rfl)), does_move _ (.inl rfl) rfl rfl rfl rfl (ar_tmp (av_fs 0 rfl))⟩,
    .inl ⟨wants_guard true rfl rfl rfl (av_bool (decide_eq_true (by omega)) (av_rs 3 rfl rfl)), does_cmp (m := n) (n := 4611686018427387904) _ _ _ _ _ rfl rfl rfl rfl rfl rfl .i64 (ar_tmp (av_rs 4 rfl rfl)) (ar_const (fun _ => rfl))⟩,
    .inl ⟨wants_plain rfl, does_pick true _ _ _ rfl rfl rfl rfl rfl (ar_tmp (av_bool (decide_eq_true (by omega)) (av_rs 3 rfl rfl))) (ar_tmp (av_rs 5 rfl rfl))⟩,
    .inl ⟨wants_plain rfl, does_eqBool (u := true) (v := true) _ _ _ _ _ (by kernel_rfl) rfl rfl rfl rfl rfl rfl (ar_tmp (av_rs 0 rfl rfl)) (ar_tmp (av_bool (decide_eq_true (by omega)) (av_rs 6 rfl rfl)))⟩,
    .inl ⟨wants_plain rfl, does_move _ (.inl rfl) rfl rfl rfl rfl (ar_tmp (av_rs 7 rfl rfl))⟩,
    .inl ⟨wants_guard true rfl rfl rfl (av_rs 8 rfl rfl), does_move _ (.inl rfl) rfl rfl rfl rfl (ar_tmp (av_fs 2 rfl))⟩,
    .inl ⟨wants_guard true rfl rfl rfl (av_rs 8 rfl rfl), does_not true _ _ rfl rfl rfl rfl rfl (ar_tmp (av_rs 9 rfl rfl))⟩,
    .inl ⟨wants_guard true rfl rfl rfl (av_rs 8 rfl rfl), does_move _ (.inl rfl) rfl rfl rfl rfl (ar_tmp (av_rs 10 rfl rfl))⟩,
    .inr (skips_guardU false rfl rfl rfl (av_rs 11 rfl rfl) rfl rfl rfl rfl),
    .inr (skips_guardU false rfl rfl rfl (av_rs 11 rfl rfl) rfl rfl rfl rfl),
    .inl ⟨wants_guard true rfl rfl rfl (av_rs 8 rfl rfl), does_pick false _ _ _ rfl rfl rfl rfl rfl (ar_tmp (av_rs 11 rfl rfl)) (ar_const (fun _ => rfl))⟩,
    .inl ⟨wants_guard true rfl rfl rfl (av_rs 8 rfl rfl), does_move _ (.inl rfl) rfl rfl rfl rfl (ar_tmp (av_rs 14 rfl rfl))⟩,
    .inl ⟨wants_guard false rfl rfl rfl (av_rs 15 rfl rfl), does_move _ (.inl rfl) rfl rfl rfl rfl (ar_tmp (av_fs 2 rfl))⟩,
    .inl ⟨wants_guard false rfl rfl rfl (av_rs 15 rfl rfl), does_move _ (.inl rfl) rfl rfl rfl rfl (ar_tmp (av_rs 16 rfl rfl))⟩,
    .inl ⟨wants_guard true rfl rfl rfl (av_rs 17 rfl rfl), does_move _ (.inl rfl) rfl rfl rfl rfl (ar_tmp (av_fs 1 rfl))⟩,
    .inl ⟨wants_guard true rfl rfl rfl (av_rs 17 rfl rfl), does_move _ (.inl rfl) rfl rfl rfl rfl (ar_tmp (av_fs 0 rfl))⟩,
    .inl ⟨wants_guard true rfl rfl rfl (av_rs 17 rfl rfl), does_cmp (m := n) (n := n) _ _ _ _ _ rfl rfl rfl rfl rfl rfl .i64 (ar_tmp (av_rs 18 rfl rfl)) (ar_tmp (av_rs 19 rfl rfl))⟩,
    .inl ⟨wants_guard false rfl rfl rfl (av_rs 15 rfl rfl), does_pick true _ _ _ rfl rfl rfl rfl rfl (ar_tmp (av_rs 17 rfl rfl)) (ar_tmp (av_rs 20 rfl rfl))⟩,
    .inl ⟨wants_guard true rfl rfl rfl (av_rs 8 rfl rfl), does_pick false _ _ _ rfl rfl rfl rfl rfl (ar_tmp (av_rs 15 rfl rfl)) (ar_tmp (av_rs 21 rfl rfl))⟩,
    .inl ⟨wants_plain rfl, does_pick true _ _ _ rfl rfl rfl rfl rfl (ar_tmp (av_rs 8 rfl rfl)) (ar_tmp (av_rs 22 rfl rfl))⟩,
    .inl ⟨wants_plain rfl, does_move _ (.inr rfl) rfl rfl rfl rfl (ar_tmp (av_rs 23 rfl rfl))⟩,
    trivial⟩ ?_
  refine nx_sub (fs' := [.slot 6 (VP.bool (n == n))]) [27] rfl ?_
  refine nx_then ?_
  refine t_ret ?_
  exact rt_one rfl (res_tmpb 0 rfl (beq_self_eq_true _))
set_option maxRecDepth 100000 in
set_option maxHeartbeats 4000000 in
theorem reads_Sd (s : ByteArray) (n : Int) (h1 : -9223372036854775808 ≤ n) (h2 : n < 9223372036854775808) (x : Raw) (hx : x.ok) (hl : s.size ≤ 200) (hw : x.2.length ≤ 50) (he : 4611686018427387904 < n) (z : Int) (hz : L z ≤ 100) (hp : parseL (byt s) = some z) : Spec Try.prog 10 [(VP.str s).p, (VP.int .i64 n).p, (VP.agg [VP.bool x.1, VP.nums .u32 x.2]).p] (VP.bool true) := by
  refine spec_of (xs := [VP.str s, VP.int .i64 n, VP.agg [VP.bool x.1, VP.nums .u32 x.2]]) 111 [5, 7, 9, 11] Try.func10 rfl Try.ntmps10 rfl fun w0 => ?_
  refine t_seq ?_
  refine t_region (F := ⟨_, _, _, _⟩) [.slot 0 (VP.str s), .slot 1 (VP.int .i64 n), .slot 2 (VP.agg [VP.bool x.1, VP.nums .u32 x.2])] [] [(0, .box 5 69 [VP.bool x.1, VP.nums .u32 x.2]), (1, .slot 6 (VP.bool false))] [] [0, 1, 2] [] rfl rfl follow rfl ⟨
    .inl ⟨wants_plain rfl, does_box _ rfl rfl rfl rfl rfl (ar_tmp (av_fs 2 rfl))⟩,
    .inl ⟨wants_plain rfl, does_move _ (.inr rfl) rfl rfl rfl rfl (ar_const (fun _ => rfl))⟩,
    trivial⟩ ?_
  refine nx_sub (fs' := [.slot 0 (VP.str s), .slot 1 (VP.int .i64 n), .box 5 69 [VP.bool x.1, VP.nums .u32 x.2], .slot 6 (VP.bool false)]) [0, 1, 3, 4] rfl ?_
  refine nx_then ?_
  refine t_seq ?_
  refine t_seq ?_
  refine t_region (F := ⟨_, _, _, _⟩) [.slot 0 (VP.str s), .slot 1 (VP.int .i64 n), .box 5 69 [VP.bool x.1, VP.nums .u32 x.2], .slot 6 (VP.bool false)] [] [(0, .slot 14 (VP.bool true)), (1, .slot 15 (VP.bool false))] [] [0, 1, 2, 3] [] rfl rfl follow rfl ⟨
    .inl ⟨wants_plain rfl, does_call sp1_spec rfl hb_collator_collatorlaw01_speaks rfl rfl rfl rfl trivial⟩,
    .inl ⟨wants_plain rfl, does_not true _ _ rfl rfl rfl rfl rfl (ar_tmp (av_rs 0 rfl rfl))⟩,
    trivial⟩ ?_
  refine nx_sub (fs' := [.slot 0 (VP.str s), .slot 1 (VP.int .i64 n), .box 5 69 [VP.bool x.1, VP.nums .u32 x.2], .slot 6 (VP.bool false), .slot 15 (VP.bool false)]) [0, 1, 2, 3, 5] rfl ?_
  refine nx_then ?_
  refine t_cond_f 4 rfl ?_
  refine t_skip ?_
  refine nx_then ?_
  refine t_seq ?_
  refine t_seq ?_
  refine t_region (F := ⟨_, _, _, _⟩) [.slot 0 (VP.str s), .slot 1 (VP.int .i64 n), .box 5 69 [VP.bool x.1, VP.nums .u32 x.2], .slot 6 (VP.bool false), .slot 15 (VP.bool false)] [] [(0, .slot 16 (VP.str s)), (1, .slot 17 (VP.int .i64 ((s.size : Nat) : Int))), (2, .slot 18 (VP.bool (decide (((s.size : Nat) : Int) > 200)))), (3, .slot 19 (VP.bool (decide (((s.size : Nat) : Int) > 200)))), (4, .fp 20 5 1), (5, .slot 21 (VP.nums .u32 x.2)), (6, .slot 22 (VP.int .i64 (((x.2).length : Nat) : Int))), (7, .slot 23 (VP.bool (decide ((((x.2).length : Nat) : Int) > 50)))), (8, .slot 24 (VP.bool (decide ((((x.2).length : Nat) : Int) > 50))))] [] [0, 1, 2, 3, 4] [] rfl rfl follow rfl ⟨
    .inl ⟨wants_plain rfl, does_move _ (.inl rfl) rfl rfl rfl rfl (ar_tmp (av_fs 0 rfl))⟩,
    .inl ⟨wants_plain rfl, does_lenStr _ _ Try.underlying9 rfl rfl rfl rfl rfl (ar_tmp (av_rs 0 rfl rfl))⟩,
    .inl ⟨wants_plain rfl, does_cmp (m := ((s.size : Nat) : Int)) (n := 200) _ _ _ _ _ rfl rfl rfl rfl rfl rfl .i64 (ar_tmp (av_rs 1 rfl rfl)) (ar_const (fun _ => rfl))⟩,
    .inl ⟨wants_plain rfl, does_move _ (.inl rfl) rfl rfl rfl rfl (ar_tmp (av_rs 2 rfl rfl))⟩,
    .inl ⟨wants_guard false rfl rfl rfl (av_bool (decide_eq_false (by omega)) (av_rs 3 rfl rfl)), does_field _ _ _ 1 ty_f1_api_Int rfl rfl rfl rfl rfl rfl rfl (pt_box (av_fs 2 rfl))⟩,
    .inl ⟨wants_guard false rfl rfl rfl (av_bool (decide_eq_false (by omega)) (av_rs 3 rfl rfl)), does_loadOne _ ty_one___uint32 rfl rfl rfl rfl rfl rfl (pt_fp (av_rs 4 rfl rfl)) (av_fs 2 rfl)⟩,
    .inl ⟨wants_guard false rfl rfl rfl (av_bool (decide_eq_false (by omega)) (av_rs 3 rfl rfl)), does_len _ _ (by kernel_rfl) rfl rfl rfl rfl rfl (ar_tmp (av_rs 5 rfl rfl))⟩,
    .inl ⟨wants_guard false rfl rfl rfl (av_bool (decide_eq_false (by omega)) (av_rs 3 rfl rfl)), does_cmp (m := (((x.2).length : Nat) : Int)) (n := 50) _ _ _ _ _ rfl rfl rfl rfl rfl rfl .i64 (ar_tmp (av_rs 6 rfl rfl)) (ar_const (fun _ => rfl))⟩,
    .inl ⟨wants_plain rfl, does_pick false _ _ _ rfl rfl rfl rfl rfl (ar_tmp (av_bool (decide_eq_false (by omega)) (av_rs 3 rfl rfl))) (ar_tmp (av_rs 7 rfl rfl))⟩,
    trivial⟩ ?_
  refine nx_sub (fs' := [.slot 0 (VP.str s), .slot 1 (VP.int .i64 n), .box 5 69 [VP.bool x.1, VP.nums .u32 x.2], .slot 6 (VP.bool false), .slot 24 (VP.bool (decide ((((x.2).length : Nat) : Int) > 50)))]) [0, 1, 2, 3, 13] rfl ?_
  refine nx_then ?_
  refine t_cond_fe 4 rfl (decide_eq_false (by omega)) ?_
  refine t_skip ?_
  refine nx_then ?_
  refine t_seq ?_
  refine t_region (F := ⟨_, _, _, _⟩) [.slot 0 (VP.str s), .slot 1 (VP.int .i64 n), .box 5 69 [VP.bool x.1, VP.nums .u32 x.2], .slot 6 (VP.bool false), .slot 24 (VP.bool (decide ((((x.2).length : Nat) : Int) > 50)))] [] [(0, .slot 26 (VP.str s)), (1, .slot 27 (VP.tup [INT z, VP.bool true])), (2, .slot 25 (VP.tup [INT z, VP.bool true])), (3, .slot 28 (INT z)), (4, .slot 29 (VP.bool true)), (5, .own 7 69 2), (6, .box 7 69 [Bz z, Dz z]), (7, .slot 8 (VP.bool true))] [] [0, 1, 2, 3, 4] [] rfl rfl follow rfl ⟨
    .inl ⟨wants_plain rfl, does_move _ (.inl rfl) rfl rfl rfl rfl (ar_tmp (av_fs 0 rfl))⟩,
    .inl ⟨wants_plain rfl, does_call (s_parse_some s z (by omega) hp) rfl hb_collator_whole_Parse rfl rfl rfl rfl ⟨(ar_tmp (av_rs 0 rfl rfl)), trivial⟩⟩,
    .inl ⟨wants_plain rfl, does_move _ (.inl rfl) rfl rfl rfl rfl (ar_tmp (av_rs 1 rfl rfl))⟩,
    .inl ⟨wants_plain rfl, does_extract (ps := [INT z, VP.bool true]) _ _ rfl rfl rfl rfl rfl (ar_tmp (av_rs 2 rfl rfl)) rfl⟩,
    .inl ⟨wants_plain rfl, does_extract (ps := [INT z, VP.bool true]) _ _ rfl rfl rfl rfl rfl (ar_tmp (av_rs 2 rfl rfl)) rfl⟩,
    .inl ⟨wants_plain rfl, does_allocOwn [Bz 0, Dz 0] ty_zero_api_Int rfl rfl rfl rfl rfl z_int rfl⟩,
    .inl ⟨wants_plain rfl, does_storeNew 2 _ _ ty_agg_api_Int rfl rfl rfl rfl rfl (pt_own (av_rs 5 rfl rfl)) (av_rs 5 rfl rfl) (ar_tmp (av_rs 3 rfl rfl))⟩,
    .inl ⟨wants_plain rfl, does_move _ (.inr rfl) rfl rfl rfl rfl (ar_tmp (av_rs 4 rfl rfl))⟩,
    trivial⟩ ?_
  refine nx_sub (fs' := [.slot 0 (VP.str s), .slot 1 (VP.int .i64 n), .box 5 69 [VP.bool x.1, VP.nums .u32 x.2], .slot 6 (VP.bool false), .box 7 69 [Bz z, Dz z], .slot 8 (VP.bool true)]) [0, 1, 2, 3, 11, 12] rfl ?_
  refine nx_then ?_
  refine t_seq ?_
  refine t_region (F := ⟨_, _, _, _⟩) [.slot 0 (VP.str s), .slot 1 (VP.int .i64 n), .box 5 69 [VP.bool x.1, VP.nums .u32 x.2], .slot 6 (VP.bool false), .box 7 69 [Bz z, Dz z], .slot 8 (VP.bool true)] [] [(0, .slot 31 (VP.str s)), (1, .slot 32 (VP.tup [NUM z, VP.bool true])), (2, .slot 30 (VP.tup [NUM z, VP.bool true])), (3, .slot 33 (NUM z)), (4, .slot 34 (VP.bool true)), (5, .own 9 72 2), (6, .box 9 72 [Bz z, Tz z]), (7, .slot 10 (VP.bool true))] [] [0, 1, 2, 3, 4, 5] [] rfl rfl follow rfl ⟨
    .inl ⟨wants_plain rfl, does_move _ (.inl rfl) rfl rfl rfl rfl (ar_tmp (av_fs 0 rfl))⟩,
    .inl ⟨wants_plain rfl, does_call (r_parse_some s z (by omega) hp) rfl hb_collator_collatorref01_Parse rfl rfl rfl rfl ⟨(ar_tmp (av_rs 0 rfl rfl)), trivial⟩⟩,
    .inl ⟨wants_plain rfl, does_move _ (.inl rfl) rfl rfl rfl rfl (ar_tmp (av_rs 1 rfl rfl))⟩,
    .inl ⟨wants_plain rfl, does_extract (ps := [NUM z, VP.bool true]) _ _ rfl rfl rfl rfl rfl (ar_tmp (av_rs 2 rfl rfl)) rfl⟩,
    .inl ⟨wants_plain rfl, does_extract (ps := [NUM z, VP.bool true]) _ _ rfl rfl rfl rfl rfl (ar_tmp (av_rs 2 rfl rfl)) rfl⟩,
    .inl ⟨wants_plain rfl, does_allocOwn [Bz 0, Tz 0] ty_zero_collatorref01_Num rfl rfl rfl rfl rfl z_num rfl⟩,
    .inl ⟨wants_plain rfl, does_storeNew 2 _ _ ty_agg_collatorref01_Num rfl rfl rfl rfl rfl (pt_own (av_rs 5 rfl rfl)) (av_rs 5 rfl rfl) (ar_tmp (av_rs 3 rfl rfl))⟩,
    .inl ⟨wants_plain rfl, does_move _ (.inr rfl) rfl rfl rfl rfl (ar_tmp (av_rs 4 rfl rfl))⟩,
    trivial⟩ ?_
  refine nx_sub (fs' := [.slot 1 (VP.int .i64 n), .box 5 69 [VP.bool x.1, VP.nums .u32 x.2], .slot 6 (VP.bool false), .box 7 69 [Bz z, Dz z], .slot 8 (VP.bool true), .box 9 72 [Bz z, Tz z], .slot 10 (VP.bool true)]) [1, 2, 3, 4, 5, 12, 13] rfl ?_
  refine nx_then ?_
  refine t_seq ?_
  refine t_seq ?_
  refine t_region (F := ⟨_, _, _, _⟩) [.slot 1 (VP.int .i64 n), .box 5 69 [VP.bool x.1, VP.nums .u32 x.2], .slot 6 (VP.bool false), .box 7 69 [Bz z, Dz z], .slot 8 (VP.bool true), .box 9 72 [Bz z, Tz z], .slot 10 (VP.bool true)] [] [(0, .slot 35 (VP.bool true)), (1, .slot 36 (VP.bool true)), (2, .slot 37 (VP.bool false)), (3, .slot 38 (VP.bool false)), (4, .slot 39 (VP.bool true)), (5, .slot 40 (VP.bool true)), (6, .slot 41 (INT z)), (7, .slot 42 (NUM z)), (8, .slot 43 (INT z)), (9, .slot 44 (VP.bool true)), (10, .slot 45 (VP.bool false)), (11, .slot 46 (VP.bool false)), (12, .slot 47 (VP.bool false)), (13, .slot 48 (VP.bool false)), (14, .slot 49 (VP.bool true)), (15, .slot 50 (VP.bool false)), (16, .slot 51 (VP.bool false)), (17, .slot 52 (VP.undef)), (18, .slot 53 (VP.undef)), (19, .slot 54 (VP.undef)), (20, .slot 55 (VP.undef)), (21, .slot 56 (VP.bool false)), (22, .slot 57 (VP.bool false)), (23, .slot 58 (VP.bool false)), (24, .slot 59 (VP.agg [VP.bool x.1, VP.nums .u32 x.2])), (25, .slot 60 (VP.bool (rightB x.1 x.2))), (26, .slot 61 (VP.agg [VP.bool x.1, VP.nums .u32 x.2])), (27, .slot 62 (VP.bool (rightB x.1 x.2))), (28, .slot 63 (VP.bool (!((rightB x.1 x.2) == (rightB x.1 x.2))))), (29, .slot 64 (VP.bool (!((rightB x.1 x.2) == (rightB x.1 x.2)))))] [] [0, 1, 2, 3, 4, 5, 6] [] rfl rfl follow rfl ⟨
    .inl ⟨wants_plain rfl, does_move _ (.inl rfl) rfl rfl rfl rfl (ar_tmp (av_fs 4 rfl))⟩,
    .inl ⟨wants_plain rfl, does_move _ (.inl rfl) rfl rfl rfl rfl (ar_tmp (av_fs 6 rfl))⟩,
    .inl ⟨wants_plain rfl, does_eqBool (u := true) (v := true) _ _ _ _ _ (by kernel_rfl) rfl rfl rfl rfl rfl rfl (ar_tmp (av_rs 0 rfl rfl)) (ar_tmp (av_rs 1 rfl rfl))⟩,
    .inl ⟨wants_plain rfl, does_move _ (.inl rfl) rfl rfl rfl rfl (ar_tmp (av_rs 2 rfl rfl))⟩,
    .inl ⟨wants_guard false rfl rfl rfl (av_rs 3 rfl rfl), does_move _ (.inl rfl) rfl rfl rfl rfl (ar_tmp (av_fs 4 rfl))⟩,
    .inl ⟨wants_guard false rfl rfl rfl (av_rs 3 rfl rfl), does_move _ (.inl rfl) rfl rfl rfl rfl (ar_tmp (av_rs 4 rfl rfl))⟩,
    .inl ⟨wants_guard true rfl rfl rfl (av_rs 5 rfl rfl), does_loadAgg _ ty_agg_api_Int rfl rfl rfl rfl rfl rfl (pt_box (av_fs 3 rfl)) (av_fs 3 rfl)⟩,
    .inl ⟨wants_guard true rfl rfl rfl (av_rs 5 rfl rfl), does_loadAgg _ ty_agg_collatorref01_Num rfl rfl rfl rfl rfl rfl (pt_box (av_fs 5 rfl)) (av_fs 5 rfl)⟩,
    .inl ⟨wants_guard true rfl rfl rfl (av_rs 5 rfl rfl), does_call (r_form z (n10 hz (by decide))) rfl hb_collator_collatorref01_Form rfl rfl rfl rfl ⟨(ar_tmp (av_rs 7 rfl rfl)), trivial⟩⟩,
    .inl ⟨wants_guard true rfl rfl rfl (av_rs 5 rfl rfl), does_call (r_same1 z (lle hz (by decide))) rfl hb_collator_collatorref01_Same rfl rfl rfl rfl ⟨(ar_tmp (av_rs 6 rfl rfl)), (ar_tmp (av_rs 8 rfl rfl)), trivial⟩⟩,
    .inl ⟨wants_guard true rfl rfl rfl (av_rs 5 rfl rfl), does_not true _ _ rfl rfl rfl rfl rfl (ar_tmp (av_rs 9 rfl rfl))⟩,
    .inl ⟨wants_guard false rfl rfl rfl (av_rs 3 rfl rfl), does_pick true _ _ _ rfl rfl rfl rfl rfl (ar_tmp (av_rs 5 rfl rfl)) (ar_tmp (av_rs 10 rfl rfl))⟩,
    .inl ⟨wants_plain rfl, does_pick false _ _ _ rfl rfl rfl rfl rfl (ar_tmp (av_rs 3 rfl rfl)) (ar_tmp (av_rs 11 rfl rfl))⟩,
    .inl ⟨wants_plain rfl, does_move _ (.inl rfl) rfl rfl rfl rfl (ar_tmp (av_rs 12 rfl rfl))⟩,
    .inl ⟨wants_guard false rfl rfl rfl (av_rs 13 rfl rfl), does_move _ (.inl rfl) rfl rfl rfl rfl (ar_tmp (av_fs 4 rfl))⟩,
    .inl ⟨wants_guard false rfl rfl rfl (av_rs 13 rfl rfl), does_not true _ _ rfl rfl rfl rfl rfl (ar_tmp (av_rs 14 rfl rfl))⟩,
    .inl ⟨wants_guard false rfl rfl rfl (av_rs 13 rfl rfl), does_move _ (.inl rfl) rfl rfl rfl rfl (ar_tmp (av_rs 15 rfl rfl))⟩,
    .inr (skips_guardU false rfl rfl rfl (av_rs 16 rfl rfl) rfl rfl rfl rfl),
    .inr (skips_guardU false rfl rfl rfl (av_rs 16 rfl rfl) rfl rfl rfl rfl),
    .inr (skips_guardU false rfl rfl rfl (av_rs 16 rfl rfl) rfl rfl rfl rfl),
    .inr (skips_guardU false rfl rfl rfl (av_rs 16 rfl rfl) rfl rfl rfl rfl),
    .inl ⟨wants_guard false rfl rfl rfl (av_rs 13 rfl rfl), does_pick false _ _ _ rfl rfl rfl rfl rfl (ar_tmp (av_rs 16 rfl rfl)) (ar_const (fun _ => rfl))⟩,
    .inl ⟨wants_plain rfl, does_pick false _ _ _ rfl rfl rfl rfl rfl (ar_tmp (av_rs 13 rfl rfl)) (ar_tmp (av_rs 21 rfl rfl))⟩,
    .inl ⟨wants_plain rfl, does_move _ (.inl rfl) rfl rfl rfl rfl (ar_tmp (av_rs 22 rfl rfl))⟩,
    .inl ⟨wants_guard false rfl rfl rfl (av_rs 23 rfl rfl), does_loadAgg _ ty_agg_api_Int rfl rfl rfl rfl rfl rfl (pt_box (av_fs 1 rfl)) (av_fs 1 rfl)⟩,
    .inl ⟨wants_guard false rfl rfl rfl (av_rs 23 rfl rfl), does_call (s_right x (by omega)) rfl hb_collator_whole_Right rfl rfl rfl rfl ⟨(ar_tmp (av_rs 24 rfl rfl)), trivial⟩⟩,
    .inl ⟨wants_guard false rfl rfl rfl (av_rs 23 rfl rfl), does_loadAgg _ ty_agg_api_Int rfl rfl rfl rfl rfl rfl (pt_box (av_fs 1 rfl)) (av_fs 1 rfl)⟩,
    .inl ⟨wants_guard false rfl rfl rfl (av_rs 23 rfl rfl), does_call (r_rightW x hx (by omega)) rfl hb_collator_collatorref01_Right rfl rfl rfl rfl ⟨(ar_tmp (av_rs 26 rfl rfl)), trivial⟩⟩,
    .inl ⟨wants_guard false rfl rfl rfl (av_rs 23 rfl rfl), does_eqBool (u := (rightB x.1 x.2)) (v := (rightB x.1 x.2)) _ _ _ _ _ (by kernel_rfl) rfl rfl rfl rfl rfl rfl (ar_tmp (av_rs 25 rfl rfl)) (ar_tmp (av_rs 27 rfl rfl))⟩,
    .inl ⟨wants_plain rfl, does_pick false _ _ _ rfl rfl rfl rfl rfl (ar_tmp (av_rs 23 rfl rfl)) (ar_tmp (av_rs 28 rfl rfl))⟩,
    trivial⟩ ?_
  refine nx_sub (fs' := [.slot 1 (VP.int .i64 n), .slot 6 (VP.bool false), .slot 64 (VP.bool (!((rightB x.1 x.2) == (rightB x.1 x.2))))]) [0, 2, 36] rfl ?_
  refine nx_then ?_
  refine t_cond_fe 2 rfl (by rw [beq_self_eq_true]; rfl) ?_
  refine t_skip ?_
  refine nx_then ?_
  refine t_seq ?_
  refine t_region (F := ⟨_, _, _, _⟩) [.slot 1 (VP.int .i64 n), .slot 6 (VP.bool false), .slot 64 (VP.bool (!((rightB x.1 x.2) == (rightB x.1 x.2))))] [] [(0, .slot 65 (VP.int .i64 n)), (1, .slot 66 (INT n)), (2, .own 11 69 2), (3, .box 11 69 [Bz n, Dz n])] [] [0, 1, 2] [] rfl rfl follow rfl ⟨
    .inl ⟨wants_plain rfl, does_move _ (.inl rfl) rfl rfl rfl rfl (ar_tmp (av_fs 0 rfl))⟩,
    .inl ⟨wants_plain rfl, does_call (s_of n h1 h2) rfl hb_collator_whole_Of rfl rfl rfl rfl ⟨(ar_tmp (av_rs 0 rfl rfl)), trivial⟩⟩,
    .inl ⟨wants_plain rfl, does_allocOwn [Bz 0, Dz 0] ty_zero_api_Int rfl rfl rfl rfl rfl z_int rfl⟩,
    .inl ⟨wants_plain rfl, does_storeNew 2 _ _ ty_agg_api_Int rfl rfl rfl rfl rfl (pt_own (av_rs 2 rfl rfl)) (av_rs 2 rfl rfl) (ar_tmp (av_rs 1 rfl rfl))⟩,
    trivial⟩ ?_
  refine nx_sub (fs' := [.slot 1 (VP.int .i64 n), .slot 6 (VP.bool false), .box 11 69 [Bz n, Dz n]]) [0, 1, 6] rfl ?_
  refine nx_then ?_
  refine t_seq ?_
  refine t_seq ?_
  refine t_region (F := ⟨_, _, _, _⟩) [.slot 1 (VP.int .i64 n), .slot 6 (VP.bool false), .box 11 69 [Bz n, Dz n]] [] [(0, .slot 67 (INT n)), (1, .slot 68 (VP.bool true)), (2, .slot 69 (VP.bool false)), (3, .slot 70 (VP.bool false)), (4, .slot 71 (VP.int .i64 n)), (5, .slot 72 (VP.bool (decide (n > (-4611686018427387904))))), (6, .slot 73 (VP.bool (decide (n > (-4611686018427387904))))), (7, .slot 74 (INT n)), (8, .slot 75 (VP.int .i64 n)), (9, .slot 76 (NUM n)), (10, .slot 77 (INT n)), (11, .slot 78 (VP.bool true)), (12, .slot 79 (VP.bool false)), (13, .slot 80 (VP.bool false)), (14, .slot 81 (VP.bool false))] [] [0, 1, 2] [] rfl rfl follow rfl ⟨
    .inl ⟨wants_plain rfl, does_loadAgg _ ty_agg_api_Int rfl rfl rfl rfl rfl rfl (pt_box (av_fs 2 rfl)) (av_fs 2 rfl)⟩,
    .inl ⟨wants_plain rfl, does_call (r_rightZ n (lle (of_len h1 h2) (by decide))) rfl hb_collator_collatorref01_Right rfl rfl rfl rfl ⟨(ar_tmp (av_rs 0 rfl rfl)), trivial⟩⟩,
    .inl ⟨wants_plain rfl, does_not true _ _ rfl rfl rfl rfl rfl (ar_tmp (av_rs 1 rfl rfl))⟩,
    .inl ⟨wants_plain rfl, does_move _ (.inl rfl) rfl rfl rfl rfl (ar_tmp (av_rs 2 rfl rfl))⟩,
    .inl ⟨wants_guard false rfl rfl rfl (av_rs 3 rfl rfl), does_move _ (.inl rfl) rfl rfl rfl rfl (ar_tmp (av_fs 0 rfl))⟩,
    .inl ⟨wants_guard false rfl rfl rfl (av_rs 3 rfl rfl), does_cmp (m := n) (n := (-4611686018427387904)) _ _ _ _ _ rfl rfl rfl rfl rfl rfl .i64 (ar_tmp (av_rs 4 rfl rfl)) (ar_const (fun _ => rfl))⟩,
    .inl ⟨wants_guard false rfl rfl rfl (av_rs 3 rfl rfl), does_move _ (.inl rfl) rfl rfl rfl rfl (ar_tmp (av_rs 5 rfl rfl))⟩,
    .inl ⟨wants_guard true rfl rfl rfl (av_bool (decide_eq_true (by omega)) (av_rs 6 rfl rfl)), does_loadAgg _ ty_agg_api_Int rfl rfl rfl rfl rfl rfl (pt_box (av_fs 2 rfl)) (av_fs 2 rfl)⟩,
    .inl ⟨wants_guard true rfl rfl rfl (av_bool (decide_eq_true (by omega)) (av_rs 6 rfl rfl)), does_move _ (.inl rfl) rfl rfl rfl rfl (ar_tmp (av_fs 0 rfl))⟩,
    .inl ⟨wants_guard true rfl rfl rfl (av_bool (decide_eq_true (by omega)) (av_rs 6 rfl rfl)), does_call (r_int n (by omega) (by omega)) rfl hb_collator_collatorref01_Int rfl rfl rfl rfl ⟨(ar_tmp (av_rs 8 rfl rfl)), trivial⟩⟩,
    .inl ⟨wants_guard true rfl rfl rfl (av_bool (decide_eq_true (by omega)) (av_rs 6 rfl rfl)), does_call (r_form n (n10 (of_len h1 h2) (by decide))) rfl hb_collator_collatorref01_Form rfl rfl rfl rfl ⟨(ar_tmp (av_rs 9 rfl rfl)), trivial⟩⟩,
    .inl ⟨wants_guard true rfl rfl rfl (av_bool (decide_eq_true (by omega)) (av_rs 6 rfl rfl)), does_call (r_same1 n (lle (of_len h1 h2) (by decide))) rfl hb_collator_collatorref01_Same rfl rfl rfl rfl ⟨(ar_tmp (av_rs 7 rfl rfl)), (ar_tmp (av_rs 10 rfl rfl)), trivial⟩⟩,
    .inl ⟨wants_guard true rfl rfl rfl (av_bool (decide_eq_true (by omega)) (av_rs 6 rfl rfl)), does_not true _ _ rfl rfl rfl rfl rfl (ar_tmp (av_rs 11 rfl rfl))⟩,
    .inl ⟨wants_guard false rfl rfl rfl (av_rs 3 rfl rfl), does_pick true _ _ _ rfl rfl rfl rfl rfl (ar_tmp (av_bool (decide_eq_true (by omega)) (av_rs 6 rfl rfl))) (ar_tmp (av_rs 12 rfl rfl))⟩,
    .inl ⟨wants_plain rfl, does_pick false _ _ _ rfl rfl rfl rfl rfl (ar_tmp (av_rs 3 rfl rfl)) (ar_tmp (av_rs 13 rfl rfl))⟩,
    trivial⟩ ?_
  refine nx_sub (fs' := [.slot 1 (VP.int .i64 n), .slot 6 (VP.bool false), .box 11 69 [Bz n, Dz n], .slot 81 (VP.bool false)]) [0, 1, 2, 17] rfl ?_
  refine nx_then ?_
  refine t_cond_f 3 rfl ?_
  refine t_skip ?_
  refine nx_then ?_
  refine t_seq ?_
  refine t_region (F := ⟨_, _, _, _⟩) [.slot 1 (VP.int .i64 n), .slot 6 (VP.bool false), .box 11 69 [Bz n, Dz n], .slot 81 (VP.bool false)] [] [(0, .slot 83 (INT n)), (1, .slot 84 (VP.tup [VP.int .i64 0, VP.bool false])), (2, .slot 82 (VP.tup [VP.int .i64 0, VP.bool false])), (3, .slot 85 (VP.int .i64 0)), (4, .slot 86 (VP.bool false)), (5, .slot 12 (VP.int .i64 0)), (6, .slot 13 (VP.bool false))] [] [0, 1, 2, 3] [] rfl rfl follow rfl ⟨
    .inl ⟨wants_plain rfl, does_loadAgg _ ty_agg_api_Int rfl rfl rfl rfl rfl rfl (pt_box (av_fs 2 rfl)) (av_fs 2 rfl)⟩,
    .inl ⟨wants_plain rfl, does_call (s_smallF n (lle (of_len h1 h2) (by decide)) (decide_eq_false (by omega))) rfl hb_collator_whole_Small rfl rfl rfl rfl ⟨(ar_tmp (av_rs 0 rfl rfl)), trivial⟩⟩,
    .inl ⟨wants_plain rfl, does_move _ (.inl rfl) rfl rfl rfl rfl (ar_tmp (av_rs 1 rfl rfl))⟩,
    .inl ⟨wants_plain rfl, does_extract (ps := [VP.int .i64 0, VP.bool false]) _ _ rfl rfl rfl rfl rfl (ar_tmp (av_rs 2 rfl rfl)) rfl⟩,
    .inl ⟨wants_plain rfl, does_extract (ps := [VP.int .i64 0, VP.bool false]) _ _ rfl rfl rfl rfl rfl (ar_tmp (av_rs 2 rfl rfl)) rfl⟩,
    .inl ⟨wants_plain rfl, does_move _ (.inr rfl) rfl rfl rfl rfl (ar_tmp (av_rs 3 rfl rfl))⟩,
    .inl ⟨wants_plain rfl, does_move _ (.inr rfl) rfl rfl rfl rfl (ar_tmp (av_rs 4 rfl rfl))⟩,
    trivial⟩ ?_
  refine nx_sub (fs' := [.slot 1 (VP.int .i64 n), .slot 6 (VP.bool false), .slot 12 (VP.int .i64 0), .slot 13 (VP.bool false)]) [0, 1, 9, 10] rfl ?_
  refine nx_then ?_
  refine t_seq ?_
  refine t_region (F := ⟨_, _, _, _⟩) [.slot 1 (VP.int .i64 n), .slot 12 (VP.int .i64 0), .slot 13 (VP.bool false)] [(24, .slot 6 (VP.bool false))] [(0, .slot 87 (VP.bool false)), (1, .slot 88 (VP.int .i64 n)), (2, .slot 89 (VP.bool (decide (n ≥ (-4611686018427387904))))), (3, .slot 90 (VP.bool (decide (n ≥ (-4611686018427387904))))), (4, .slot 91 (VP.int .i64 n)), (5, .slot 92 (VP.bool (decide (n ≤ 4611686018427387904)))), (6, .slot 93 (VP.bool (decide (n ≤ 4611686018427387904)))), (7, .slot 94 (VP.bool true)), (8, .slot 95 (VP.bool true)), (9, .slot 96 (VP.bool false)), (10, .slot 97 (VP.bool true)), (11, .slot 98 (VP.bool true)), (12, .slot 99 (VP.int .i64 0)), (13, .slot 100 (VP.bool (0 == 0))), (14, .slot 101 (VP.bool (0 == 0))), (15, .slot 102 (VP.bool (0 == 0))), (16, .slot 103 (VP.undef)), (17, .slot 104 (VP.undef)), (18, .slot 105 (VP.undef)), (19, .slot 106 (VP.undef)), (20, .slot 107 (VP.undef)), (21, .slot 108 (VP.undef)), (22, .slot 109 (VP.bool true)), (23, .slot 110 (VP.bool true)), (24, .slot 6 (VP.bool true))] [] [0, 2, 3] [1] rfl rfl follow rfl ⟨
    .inl ⟨wants_plain rfl, does_move _ (.inl rfl) rfl rfl rfl rfl (ar_tmp (av_fs 2 rfl))⟩,
    .inl ⟨wants_plain rfl, does_move _ (.inl rfl) rfl rfl rfl rfl (ar_tmp (av_fs 0 rfl))⟩,
    .inl ⟨wants_plain rfl, does_cmp (m := n) (n := (-4611686018427387904)) _ _ _ _ _ rfl rfl rfl rfl rfl rfl .i64 (ar_tmp (av_rs 1 rfl rfl)) (ar_const (fun _ => rfl))⟩,
    .inl ⟨wants_plain rfl, does_move _ (.inl rfl) rfl rfl rfl rfl (ar_tmp (av_rs 2 rfl rfl))⟩,
    .inl ⟨wants_guard true rfl rfl rfl (av_bool (decide_eq_true (by omega)) (av_rs 3 rfl rfl)), does_move _ (.inl rfl) rfl rfl rfl rfl (ar_tmp (av_fs 0 rfl))⟩,
    .inl ⟨wants_guard true rfl rfl rfl (av_bool (decide_eq_true (by omega)) (av_rs 3 rfl rfl)), does_cmp (m := n) (n := 4611686018427387904) _ _ _ _ _ rfl rfl rfl rfl rfl rfl .i64 (ar_tmp (av_rs 4 rfl rfl)) (ar_const (fun _ => rfl))⟩,
    .inl ⟨wants_plain rfl, does_pick true _ _ _ rfl rfl rfl rfl rfl (ar_tmp (av_bool (decide_eq_true (by omega)) (av_rs 3 rfl rfl))) (ar_tmp (av_rs 5 rfl rfl))⟩,
    .inl ⟨wants_plain rfl, does_eqBool (u := false) (v := false) _ _ _ _ _ (by kernel_rfl) rfl rfl rfl rfl rfl rfl (ar_tmp (av_rs 0 rfl rfl)) (ar_tmp (av_bool (decide_eq_false (by omega)) (av_rs 6 rfl rfl)))⟩,
    .inl ⟨wants_plain rfl, does_move _ (.inl rfl) rfl rfl rfl rfl (ar_tmp (av_rs 7 rfl rfl))⟩,
    .inl ⟨wants_guard true rfl rfl rfl (av_rs 8 rfl rfl), does_move _ (.inl rfl) rfl rfl rfl rfl (ar_tmp (av_fs 2 rfl))⟩,
    .inl ⟨wants_guard true rfl rfl rfl (av_rs 8 rfl rfl), does_not false _ _ rfl rfl rfl rfl rfl (ar_tmp (av_rs 9 rfl rfl))⟩,
    .inl ⟨wants_guard true rfl rfl rfl (av_rs 8 rfl rfl), does_move _ (.inl rfl) rfl rfl rfl rfl (ar_tmp (av_rs 10 rfl rfl))⟩,
    .inl ⟨wants_guard true rfl rfl rfl (av_rs 11 rfl rfl), does_move _ (.inl rfl) rfl rfl rfl rfl (ar_tmp (av_fs 1 rfl))⟩,
    .inl ⟨wants_guard true rfl rfl rfl (av_rs 11 rfl rfl), does_cmp (m := 0) (n := 0) _ _ _ _ _ rfl rfl rfl rfl rfl rfl .i64 (ar_tmp (av_rs 12 rfl rfl)) (ar_const (fun _ => rfl))⟩,
    .inl ⟨wants_guard true rfl rfl rfl (av_rs 8 rfl rfl), does_pick true _ _ _ rfl rfl rfl rfl rfl (ar_tmp (av_rs 11 rfl rfl)) (ar_tmp (av_rs 13 rfl rfl))⟩,
    .inl ⟨wants_guard true rfl rfl rfl (av_rs 8 rfl rfl), does_move _ (.inl rfl) rfl rfl rfl rfl (ar_tmp (av_rs 14 rfl rfl))⟩,
    .inr (skips_guardU true rfl rfl rfl (av_bool rfl (av_rs 15 rfl rfl)) rfl rfl rfl rfl),
    .inr (skips_guardU true rfl rfl rfl (av_bool rfl (av_rs 15 rfl rfl)) rfl rfl rfl rfl),
    .inr (skips_undefU true rfl rfl rfl (av_rs 17 rfl rfl) rfl rfl rfl rfl),
    .inr (skips_undefU true rfl rfl rfl (av_rs 17 rfl rfl) rfl rfl rfl rfl),
    .inr (skips_undefU true rfl rfl rfl (av_rs 17 rfl rfl) rfl rfl rfl rfl),
    .inr (skips_guardU true rfl rfl rfl (av_bool rfl (av_rs 15 rfl rfl)) rfl rfl rfl rfl),
    .inl ⟨wants_guard true rfl rfl rfl (av_rs 8 rfl rfl), does_pick true _ _ _ rfl rfl rfl rfl rfl (ar_tmp (av_bool rfl (av_rs 15 rfl rfl))) (ar_const (fun _ => rfl))⟩,
    .inl ⟨wants_plain rfl, does_pick true _ _ _ rfl rfl rfl rfl rfl (ar_tmp (av_rs 8 rfl rfl)) (ar_tmp (av_rs 22 rfl rfl))⟩,
    .inl ⟨wants_plain rfl, does_move _ (.inr rfl) rfl rfl rfl rfl (ar_tmp (av_rs 23 rfl rfl))⟩,
    trivial⟩ ?_
  refine nx_sub (fs' := [.slot 6 (VP.bool true)]) [27] rfl ?_
  refine nx_then ?_
  refine t_ret ?_
  exact rt_one rfl (res_tmp 0 rfl)
set_option maxRecDepth 100000 in
set_option maxHeartbeats 4000000 in
theorem reads_Na (s : ByteArray) (n : Int) (h1 : -9223372036854775808 ≤ n) (h2 : n < 9223372036854775808) (x : Raw) (hx : x.ok) (hl : s.size ≤ 200) (hw : x.2.length ≤ 50) (he : n = -4611686018427387904) (hp : parseL (byt s) = none) : Spec Try.prog 10 [(VP.str s).p, (VP.int .i64 n).p, (VP.agg [VP.bool x.1, VP.nums .u32 x.2]).p] (VP.bool true) := by
  refine spec_of (xs := [VP.str s, VP.int .i64 n, VP.agg [VP.bool x.1, VP.nums .u32 x.2]]) 111 [5, 7, 9, 11] Try.func10 rfl Try.ntmps10 rfl fun w0 => ?_
  refine t_seq ?_
  refine t_region (F := ⟨_, _, _, _⟩) [.slot 0 (VP.str s), .slot 1 (VP.int .i64 n), .slot 2 (VP.agg [VP.bool x.1, VP.nums .u32 x.2])] [] [(0, .box 5 69 [VP.bool x.1, VP.nums .u32 x.2]), (1, .slot 6 (VP.bool false))] [] [0, 1, 2] [] rfl rfl follow rfl ⟨
    .inl ⟨wants_plain rfl, does_box _ rfl rfl rfl rfl rfl (ar_tmp (av_fs 2 rfl))⟩,
    .inl ⟨wants_plain rfl, does_move _ (.inr rfl) rfl rfl rfl rfl (ar_const (fun _ => rfl))⟩,
    trivial⟩ ?_
  refine nx_sub (fs' := [.slot 0 (VP.str s), .slot 1 (VP.int .i64 n), .box 5 69 [VP.bool x.1, VP.nums .u32 x.2], .slot 6 (VP.bool false)]) [0, 1, 3, 4] rfl ?_
  refine nx_then ?_
  refine t_seq ?_
  refine t_seq ?_
  refine t_region (F := ⟨_, _, _, _⟩) [.slot 0 (VP.str s), .slot 1 (VP.int .i64 n), .box 5 69 [VP.bool x.1, VP.nums .u32 x.2], .slot 6 (VP.bool false)] [] [(0, .slot 14 (VP.bool true)), (1, .slot 15 (VP.bool false))] [] [0, 1, 2, 3] [] rfl rfl follow rfl ⟨
    .inl ⟨wants_plain rfl, does_call sp1_spec rfl hb_collator_collatorlaw01_speaks rfl rfl rfl rfl trivial⟩,
    .inl ⟨wants_plain rfl, does_not true _ _ rfl rfl rfl rfl rfl (ar_tmp (av_rs 0 rfl rfl))⟩,
    trivial⟩ ?_
  refine nx_sub (fs' := [.slot 0 (VP.str s), .slot 1 (VP.int .i64 n), .box 5 69 [VP.bool x.1, VP.nums .u32 x.2], .slot 6 (VP.bool false), .slot 15 (VP.bool false)]) [0, 1, 2, 3, 5] rfl ?_
  refine nx_then ?_
  refine t_cond_f 4 rfl ?_
  refine t_skip ?_
  refine nx_then ?_
  refine t_seq ?_
  refine t_seq ?_
  refine t_region (F := ⟨_, _, _, _⟩) [.slot 0 (VP.str s), .slot 1 (VP.int .i64 n), .box 5 69 [VP.bool x.1, VP.nums .u32 x.2], .slot 6 (VP.bool false), .slot 15 (VP.bool false)] [] [(0, .slot 16 (VP.str s)), (1, .slot 17 (VP.int .i64 ((s.size : Nat) : Int))), (2, .slot 18 (VP.bool (decide (((s.size : Nat) : Int) > 200)))), (3, .slot 19 (VP.bool (decide (((s.size : Nat) : Int) > 200)))), (4, .fp 20 5 1), (5, .slot 21 (VP.nums .u32 x.2)), (6, .slot 22 (VP.int .i64 (((x.2).length : Nat) : Int))), (7, .slot 23 (VP.bool (decide ((((x.2).length : Nat) : Int) > 50)))), (8, .slot 24 (VP.bool (decide ((((x.2).length : Nat) : Int) > 50))))] [] [0, 1, 2, 3, 4] [] rfl rfl follow rfl ⟨
    .inl ⟨wants_plain rfl, does_move _ (.inl rfl) rfl rfl rfl rfl (ar_tmp (av_fs 0 rfl))⟩,
    .inl ⟨wants_plain rfl, does_lenStr _ _ Try.underlying9 rfl rfl rfl rfl rfl (ar_tmp (av_rs 0 rfl rfl))⟩,
    .inl ⟨wants_plain rfl, does_cmp (m := ((s.size : Nat) : Int)) (n := 200) _ _ _ _ _ rfl rfl rfl rfl rfl rfl .i64 (ar_tmp (av_rs 1 rfl rfl)) (ar_const (fun _ => rfl))⟩,
    .inl ⟨wants_plain rfl, does_move _ (.inl rfl) rfl rfl rfl rfl (ar_tmp (av_rs 2 rfl rfl))⟩,
    .inl ⟨wants_guard false rfl rfl rfl (av_bool (decide_eq_false (by omega)) (av_rs 3 rfl rfl)), does_field _ _ _ 1 ty_f1_api_Int rfl rfl rfl rfl rfl rfl rfl (pt_box (av_fs 2 rfl))⟩,
    .inl ⟨wants_guard false rfl rfl rfl (av_bool (decide_eq_false (by omega)) (av_rs 3 rfl rfl)), does_loadOne _ ty_one___uint32 rfl rfl rfl rfl rfl rfl (pt_fp (av_rs 4 rfl rfl)) (av_fs 2 rfl)⟩,
    .inl ⟨wants_guard false rfl rfl rfl (av_bool (decide_eq_false (by omega)) (av_rs 3 rfl rfl)), does_len _ _ (by kernel_rfl) rfl rfl rfl rfl rfl (ar_tmp (av_rs 5 rfl rfl))⟩,
    .inl ⟨wants_guard false rfl rfl rfl (av_bool (decide_eq_false (by omega)) (av_rs 3 rfl rfl)), does_cmp (m := (((x.2).length : Nat) : Int)) (n := 50) _ _ _ _ _ rfl rfl rfl rfl rfl rfl .i64 (ar_tmp (av_rs 6 rfl rfl)) (ar_const (fun _ => rfl))⟩,
    .inl ⟨wants_plain rfl, does_pick false _ _ _ rfl rfl rfl rfl rfl (ar_tmp (av_bool (decide_eq_false (by omega)) (av_rs 3 rfl rfl))) (ar_tmp (av_rs 7 rfl rfl))⟩,
    trivial⟩ ?_
  refine nx_sub (fs' := [.slot 0 (VP.str s), .slot 1 (VP.int .i64 n), .box 5 69 [VP.bool x.1, VP.nums .u32 x.2], .slot 6 (VP.bool false), .slot 24 (VP.bool (decide ((((x.2).length : Nat) : Int) > 50)))]) [0, 1, 2, 3, 13] rfl ?_
  refine nx_then ?_
  refine t_cond_fe 4 rfl (decide_eq_false (by omega)) ?_
  refine t_skip ?_
  refine nx_then ?_
  refine t_seq ?_
  refine t_region (F := ⟨_, _, _, _⟩) [.slot 0 (VP.str s), .slot 1 (VP.int .i64 n), .box 5 69 [VP.bool x.1, VP.nums .u32 x.2], .slot 6 (VP.bool false), .slot 24 (VP.bool (decide ((((x.2).length : Nat) : Int) > 50)))] [] [(0, .slot 26 (VP.str s)), (1, .slot 27 (VP.tup [INT 0, VP.bool false])), (2, .slot 25 (VP.tup [INT 0, VP.bool false])), (3, .slot 28 (INT 0)), (4, .slot 29 (VP.bool false)), (5, .own 7 69 2), (6, .box 7 69 [Bz 0, Dz 0]), (7, .slot 8 (VP.bool false))] [] [0, 1, 2, 3, 4] [] rfl rfl follow rfl ⟨
    .inl ⟨wants_plain rfl, does_move _ (.inl rfl) rfl rfl rfl rfl (ar_tmp (av_fs 0 rfl))⟩,
    .inl ⟨wants_plain rfl, does_call (s_parse_none s (by omega) hp) rfl hb_collator_whole_Parse rfl rfl rfl rfl ⟨(ar_tmp (av_rs 0 rfl rfl)), trivial⟩⟩,
    .inl ⟨wants_plain rfl, does_move _ (.inl rfl) rfl rfl rfl rfl (ar_tmp (av_rs 1 rfl rfl))⟩,
    .inl ⟨wants_plain rfl, does_extract (ps := [INT 0, VP.bool false]) _ _ rfl rfl rfl rfl rfl (ar_tmp (av_rs 2 rfl rfl)) rfl⟩,
    .inl ⟨wants_plain rfl, does_extract (ps := [INT 0, VP.bool false]) _ _ rfl rfl rfl rfl rfl (ar_tmp (av_rs 2 rfl rfl)) rfl⟩,
    .inl ⟨wants_plain rfl, does_allocOwn [Bz 0, Dz 0] ty_zero_api_Int rfl rfl rfl rfl rfl z_int rfl⟩,
    .inl ⟨wants_plain rfl, does_storeNew 2 _ _ ty_agg_api_Int rfl rfl rfl rfl rfl (pt_own (av_rs 5 rfl rfl)) (av_rs 5 rfl rfl) (ar_tmp (av_rs 3 rfl rfl))⟩,
    .inl ⟨wants_plain rfl, does_move _ (.inr rfl) rfl rfl rfl rfl (ar_tmp (av_rs 4 rfl rfl))⟩,
    trivial⟩ ?_
  refine nx_sub (fs' := [.slot 0 (VP.str s), .slot 1 (VP.int .i64 n), .box 5 69 [VP.bool x.1, VP.nums .u32 x.2], .slot 6 (VP.bool false), .box 7 69 [Bz 0, Dz 0], .slot 8 (VP.bool false)]) [0, 1, 2, 3, 11, 12] rfl ?_
  refine nx_then ?_
  refine t_seq ?_
  refine t_region (F := ⟨_, _, _, _⟩) [.slot 0 (VP.str s), .slot 1 (VP.int .i64 n), .box 5 69 [VP.bool x.1, VP.nums .u32 x.2], .slot 6 (VP.bool false), .box 7 69 [Bz 0, Dz 0], .slot 8 (VP.bool false)] [] [(0, .slot 31 (VP.str s)), (1, .slot 32 (VP.tup [VP.agg [VP.boolish, VP.slish], VP.bool false])), (2, .slot 30 (VP.tup [VP.agg [VP.boolish, VP.slish], VP.bool false])), (3, .slot 33 (VP.agg [VP.boolish, VP.slish])), (4, .slot 34 (VP.bool false)), (5, .own 9 72 2), (6, .box 9 72 [VP.boolish, VP.slish]), (7, .slot 10 (VP.bool false))] [] [0, 1, 2, 3, 4, 5] [] rfl rfl follow rfl ⟨
    .inl ⟨wants_plain rfl, does_move _ (.inl rfl) rfl rfl rfl rfl (ar_tmp (av_fs 0 rfl))⟩,
    .inl ⟨wants_plain rfl, does_call (r_parse_none s (by omega) hp) rfl hb_collator_collatorref01_Parse rfl rfl rfl rfl ⟨(ar_tmp (av_rs 0 rfl rfl)), trivial⟩⟩,
    .inl ⟨wants_plain rfl, does_move _ (.inl rfl) rfl rfl rfl rfl (ar_tmp (av_rs 1 rfl rfl))⟩,
    .inl ⟨wants_plain rfl, does_extract (ps := [VP.agg [VP.boolish, VP.slish], VP.bool false]) _ _ rfl rfl rfl rfl rfl (ar_tmp (av_rs 2 rfl rfl)) rfl⟩,
    .inl ⟨wants_plain rfl, does_extract (ps := [VP.agg [VP.boolish, VP.slish], VP.bool false]) _ _ rfl rfl rfl rfl rfl (ar_tmp (av_rs 2 rfl rfl)) rfl⟩,
    .inl ⟨wants_plain rfl, does_allocOwn [Bz 0, Tz 0] ty_zero_collatorref01_Num rfl rfl rfl rfl rfl z_num rfl⟩,
    .inl ⟨wants_plain rfl, does_storeNew 2 _ _ ty_agg_collatorref01_Num rfl rfl rfl rfl rfl (pt_own (av_rs 5 rfl rfl)) (av_rs 5 rfl rfl) (ar_tmp (av_rs 3 rfl rfl))⟩,
    .inl ⟨wants_plain rfl, does_move _ (.inr rfl) rfl rfl rfl rfl (ar_tmp (av_rs 4 rfl rfl))⟩,
    trivial⟩ ?_
  refine nx_sub (fs' := [.slot 1 (VP.int .i64 n), .box 5 69 [VP.bool x.1, VP.nums .u32 x.2], .slot 6 (VP.bool false), .box 7 69 [Bz 0, Dz 0], .slot 8 (VP.bool false), .box 9 72 [VP.boolish, VP.slish], .slot 10 (VP.bool false)]) [1, 2, 3, 4, 5, 12, 13] rfl ?_
  refine nx_then ?_
  refine t_seq ?_
  refine t_seq ?_
  refine t_region (F := ⟨_, _, _, _⟩) [.slot 1 (VP.int .i64 n), .box 5 69 [VP.bool x.1, VP.nums .u32 x.2], .slot 6 (VP.bool false), .box 7 69 [Bz 0, Dz 0], .slot 8 (VP.bool false), .box 9 72 [VP.boolish, VP.slish], .slot 10 (VP.bool false)] [] [(0, .slot 35 (VP.bool false)), (1, .slot 36 (VP.bool false)), (2, .slot 37 (VP.bool false)), (3, .slot 38 (VP.bool false)), (4, .slot 39 (VP.bool false)), (5, .slot 40 (VP.bool false)), (6, .slot 41 (VP.undef)), (7, .slot 42 (VP.undef)), (8, .slot 43 (VP.undef)), (9, .slot 44 (VP.undef)), (10, .slot 45 (VP.undef)), (11, .slot 46 (VP.bool false)), (12, .slot 47 (VP.bool false)), (13, .slot 48 (VP.bool false)), (14, .slot 49 (VP.bool false)), (15, .slot 50 (VP.bool true)), (16, .slot 51 (VP.bool true)), (17, .slot 52 (INT 0)), (18, .slot 53 (INT 0)), (19, .slot 54 (VP.bool true)), (20, .slot 55 (VP.bool false)), (21, .slot 56 (VP.bool false)), (22, .slot 57 (VP.bool false)), (23, .slot 58 (VP.bool false)), (24, .slot 59 (VP.agg [VP.bool x.1, VP.nums .u32 x.2])), (25, .slot 60 (VP.bool (rightB x.1 x.2))), (26, .slot 61 (VP.agg [VP.bool x.1, VP.nums .u32 x.2])), (27, .slot 62 (VP.bool (rightB x.1 x.2))), (28, .slot 63 (VP.bool (!((rightB x.1 x.2) == (rightB x.1 x.2))))), (29, .slot 64 (VP.bool (!((rightB x.1 x.2) == (rightB x.1 x.2)))))] [] [0, 1, 2, 3, 4, 5, 6] [] rfl rfl follow rfl ⟨
    .inl ⟨wants_plain rfl, does_move _ (.inl rfl) rfl rfl rfl rfl (ar_tmp (av_fs 4 rfl))⟩,
    .inl ⟨wants_plain rfl, does_move _ (.inl rfl) rfl rfl rfl rfl (ar_tmp (av_fs 6 rfl))⟩,
    .inl ⟨wants_plain rfl, does_eqBool (u := false) (v := false) _ _ _ _ _ (by kernel_rfl) rfl rfl rfl rfl rfl rfl (ar_tmp (av_rs 0 rfl rfl)) (ar_tmp (av_rs 1 rfl rfl))⟩,
    .inl ⟨wants_plain rfl, does_move _ (.inl rfl) rfl rfl rfl rfl (ar_tmp (av_rs 2 rfl rfl))⟩,
    .inl ⟨wants_guard false rfl rfl rfl (av_rs 3 rfl rfl), does_move _ (.inl rfl) rfl rfl rfl rfl (ar_tmp (av_fs 4 rfl))⟩,
    .inl ⟨wants_guard false rfl rfl rfl (av_rs 3 rfl rfl), does_move _ (.inl rfl) rfl rfl rfl rfl (ar_tmp (av_rs 4 rfl rfl))⟩,
    .inr (skips_guardU false rfl rfl rfl (av_rs 5 rfl rfl) rfl rfl rfl rfl),
    .inr (skips_guardU false rfl rfl rfl (av_rs 5 rfl rfl) rfl rfl rfl rfl),
    .inr (skips_guardU false rfl rfl rfl (av_rs 5 rfl rfl) rfl rfl rfl rfl),
    .inr (skips_guardU false rfl rfl rfl (av_rs 5 rfl rfl) rfl rfl rfl rfl),
    .inr (skips_guardU false rfl rfl rfl (av_rs 5 rfl rfl) rfl rfl rfl rfl),
    .inl ⟨wants_guard false rfl rfl rfl (av_rs 3 rfl rfl), does_pick false _ _ _ rfl rfl rfl rfl rfl (ar_tmp (av_rs 5 rfl rfl)) (ar_const (fun _ => rfl))⟩,
    .inl ⟨wants_plain rfl, does_pick false _ _ _ rfl rfl rfl rfl rfl (ar_tmp (av_rs 3 rfl rfl)) (ar_tmp (av_rs 11 rfl rfl))⟩,
    .inl ⟨wants_plain rfl, does_move _ (.inl rfl) rfl rfl rfl rfl (ar_tmp (av_rs 12 rfl rfl))⟩,
    .inl ⟨wants_guard false rfl rfl rfl (av_rs 13 rfl rfl), does_move _ (.inl rfl) rfl rfl rfl rfl (ar_tmp (av_fs 4 rfl))⟩,
    .inl ⟨wants_guard false rfl rfl rfl (av_rs 13 rfl rfl), does_not false _ _ rfl rfl rfl rfl rfl (ar_tmp (av_rs 14 rfl rfl))⟩,
    .inl ⟨wants_guard false rfl rfl rfl (av_rs 13 rfl rfl), does_move _ (.inl rfl) rfl rfl rfl rfl (ar_tmp (av_rs 15 rfl rfl))⟩,
    .inl ⟨wants_guard true rfl rfl rfl (av_rs 16 rfl rfl), does_loadAgg _ ty_agg_api_Int rfl rfl rfl rfl rfl rfl (pt_box (av_fs 3 rfl)) (av_fs 3 rfl)⟩,
    .inl ⟨wants_guard true rfl rfl rfl (av_rs 16 rfl rfl), does_build [Bz 0, Dz 0] ty_zero_api_Int ty_pl_api_Int rfl rfl rfl rfl rfl z_int (.nil _)⟩,
    .inl ⟨wants_guard true rfl rfl rfl (av_rs 16 rfl rfl), does_call (r_same1 0 (lle lzero (by decide))) rfl hb_collator_collatorref01_Same rfl rfl rfl rfl ⟨(ar_tmp (av_rs 17 rfl rfl)), (ar_tmp (av_rs 18 rfl rfl)), trivial⟩⟩,
    .inl ⟨wants_guard true rfl rfl rfl (av_rs 16 rfl rfl), does_not true _ _ rfl rfl rfl rfl rfl (ar_tmp (av_rs 19 rfl rfl))⟩,
    .inl ⟨wants_guard false rfl rfl rfl (av_rs 13 rfl rfl), does_pick true _ _ _ rfl rfl rfl rfl rfl (ar_tmp (av_rs 16 rfl rfl)) (ar_tmp (av_rs 20 rfl rfl))⟩,
    .inl ⟨wants_plain rfl, does_pick false _ _ _ rfl rfl rfl rfl rfl (ar_tmp (av_rs 13 rfl rfl)) (ar_tmp (av_rs 21 rfl rfl))⟩,
    .inl ⟨wants_plain rfl, does_move _ (.inl rfl) rfl rfl rfl rfl (ar_tmp (av_rs 22 rfl rfl))⟩,
    .inl ⟨wants_guard false rfl rfl rfl (av_rs 23 rfl rfl), does_loadAgg _ ty_agg_api_Int rfl rfl rfl rfl rfl rfl (pt_box (av_fs 1 rfl)) (av_fs 1 rfl)⟩,
    .inl ⟨wants_guard false rfl rfl rfl (av_rs 23 rfl rfl), does_call (s_right x (by omega)) rfl hb_collator_whole_Right rfl rfl rfl rfl ⟨(ar_tmp (av_rs 24 rfl rfl)), trivial⟩⟩,
    .inl ⟨wants_guard false rfl rfl rfl (av_rs 23 rfl rfl), does_loadAgg _ ty_agg_api_Int rfl rfl rfl rfl rfl rfl (pt_box (av_fs 1 rfl)) (av_fs 1 rfl)⟩,
    .inl ⟨wants_guard false rfl rfl rfl (av_rs 23 rfl rfl), does_call (r_rightW x hx (by omega)) rfl hb_collator_collatorref01_Right rfl rfl rfl rfl ⟨(ar_tmp (av_rs 26 rfl rfl)), trivial⟩⟩,
    .inl ⟨wants_guard false rfl rfl rfl (av_rs 23 rfl rfl), does_eqBool (u := (rightB x.1 x.2)) (v := (rightB x.1 x.2)) _ _ _ _ _ (by kernel_rfl) rfl rfl rfl rfl rfl rfl (ar_tmp (av_rs 25 rfl rfl)) (ar_tmp (av_rs 27 rfl rfl))⟩,
    .inl ⟨wants_plain rfl, does_pick false _ _ _ rfl rfl rfl rfl rfl (ar_tmp (av_rs 23 rfl rfl)) (ar_tmp (av_rs 28 rfl rfl))⟩,
    trivial⟩ ?_
  refine nx_sub (fs' := [.slot 1 (VP.int .i64 n), .slot 6 (VP.bool false), .slot 64 (VP.bool (!((rightB x.1 x.2) == (rightB x.1 x.2))))]) [0, 2, 36] rfl ?_
  refine nx_then ?_
  refine t_cond_fe 2 rfl (by rw [beq_self_eq_true]; rfl) ?_
  refine t_skip ?_
  refine nx_then ?_
  refine t_seq ?_
  refine t_region (F := ⟨_, _, _, _⟩) [.slot 1 (VP.int .i64 n), .slot 6 (VP.bool false), .slot 64 (VP.bool (!((rightB x.1 x.2) == (rightB x.1 x.2))))] [] [(0, .slot 65 (VP.int .i64 n)), (1, .slot 66 (INT n)), (2, .own 11 69 2), (3, .box 11 69 [Bz n, Dz n])] [] [0, 1, 2] [] rfl rfl follow rfl ⟨
    .inl ⟨wants_plain rfl, does_move _ (.inl rfl) rfl rfl rfl rfl (ar_tmp (av_fs 0 rfl))⟩,
    .inl ⟨wants_plain rfl, does_call (s_of n h1 h2) rfl hb_collator_whole_Of rfl rfl rfl rfl ⟨(ar_tmp (av_rs 0 rfl rfl)), trivial⟩⟩,
    .inl ⟨wants_plain rfl, does_allocOwn [Bz 0, Dz 0] ty_zero_api_Int rfl rfl rfl rfl rfl z_int rfl⟩,
    .inl ⟨wants_plain rfl, does_storeNew 2 _ _ ty_agg_api_Int rfl rfl rfl rfl rfl (pt_own (av_rs 2 rfl rfl)) (av_rs 2 rfl rfl) (ar_tmp (av_rs 1 rfl rfl))⟩,
    trivial⟩ ?_
  refine nx_sub (fs' := [.slot 1 (VP.int .i64 n), .slot 6 (VP.bool false), .box 11 69 [Bz n, Dz n]]) [0, 1, 6] rfl ?_
  refine nx_then ?_
  refine t_seq ?_
  refine t_seq ?_
  refine t_region (F := ⟨_, _, _, _⟩) [.slot 1 (VP.int .i64 n), .slot 6 (VP.bool false), .box 11 69 [Bz n, Dz n]] [] [(0, .slot 67 (INT n)), (1, .slot 68 (VP.bool true)), (2, .slot 69 (VP.bool false)), (3, .slot 70 (VP.bool false)), (4, .slot 71 (VP.int .i64 n)), (5, .slot 72 (VP.bool (decide (n > (-4611686018427387904))))), (6, .slot 73 (VP.bool (decide (n > (-4611686018427387904))))), (7, .slot 74 (VP.undef)), (8, .slot 75 (VP.undef)), (9, .slot 76 (VP.undef)), (10, .slot 77 (VP.undef)), (11, .slot 78 (VP.undef)), (12, .slot 79 (VP.undef)), (13, .slot 80 (VP.bool false)), (14, .slot 81 (VP.bool false))] [] [0, 1, 2] [] rfl rfl follow rfl ⟨
    .inl ⟨wants_plain rfl, does_loadAgg _ ty_agg_api_Int rfl rfl rfl rfl rfl rfl (pt_box (av_fs 2 rfl)) (av_fs 2 rfl)⟩,
    .inl ⟨wants_plain rfl, does_call (r_rightZ n (lle (of_len h1 h2) (by decide))) rfl hb_collator_collatorref01_Right rfl rfl rfl rfl ⟨(ar_tmp (av_rs 0 rfl rfl)), trivial⟩⟩,
    .inl ⟨wants_plain rfl, does_not true _ _ rfl rfl rfl rfl rfl (ar_tmp (av_rs 1 rfl rfl))⟩,
    .inl ⟨wants_plain rfl, does_move _ (.inl rfl) rfl rfl rfl rfl (ar_tmp (av_rs 2 rfl rfl))⟩,
    .inl ⟨wants_guard false rfl rfl rfl (av_rs 3 rfl rfl), does_move _ (.inl rfl) rfl rfl rfl rfl (ar_tmp (av_fs 0 rfl))⟩,
    .inl ⟨wants_guard false rfl rfl rfl (av_rs 3 rfl rfl), does_cmp (m := n) (n := (-4611686018427387904)) _ _ _ _ _ rfl rfl rfl rfl rfl rfl .i64 (ar_tmp (av_rs 4 rfl rfl)) (ar_const (fun _ => rfl))⟩,
    .inl ⟨wants_guard false rfl rfl rfl (av_rs 3 rfl rfl), does_move _ (.inl rfl) rfl rfl rfl rfl (ar_tmp (av_rs 5 rfl rfl))⟩,
    .inr (skips_guardU false rfl rfl rfl (av_bool (decide_eq_false (by omega)) (av_rs 6 rfl rfl)) rfl rfl rfl rfl),
    .inr (skips_guardU false rfl rfl rfl (av_bool (decide_eq_false (by omega)) (av_rs 6 rfl rfl)) rfl rfl rfl rfl),
    .inr (skips_guardU false rfl rfl rfl (av_bool (decide_eq_false (by omega)) (av_rs 6 rfl rfl)) rfl rfl rfl rfl),
    .inr (skips_guardU false rfl rfl rfl (av_bool (decide_eq_false (by omega)) (av_rs 6 rfl rfl)) rfl rfl rfl rfl),
    .inr (skips_guardU false rfl rfl rfl (av_bool (decide_eq_false (by omega)) (av_rs 6 rfl rfl)) rfl rfl rfl rfl),
    .inr (skips_guardU false rfl rfl rfl (av_bool (decide_eq_false (by omega)) (av_rs 6 rfl rfl)) rfl rfl rfl rfl),
    .inl ⟨wants_guard false rfl rfl rfl (av_rs 3 rfl rfl), does_pick false _ _ _ rfl rfl rfl rfl rfl (ar_tmp (av_bool (decide_eq_false (by omega)) (av_rs 6 rfl rfl))) (ar_const (fun _ => rfl))⟩,
    .inl ⟨wants_plain rfl, does_pick false _ _ _ rfl rfl rfl rfl rfl (ar_tmp (av_rs 3 rfl rfl)) (ar_tmp (av_rs 13 rfl rfl))⟩,
    trivial⟩ ?_
  refine nx_sub (fs' := [.slot 1 (VP.int .i64 n), .slot 6 (VP.bool false), .box 11 69 [Bz n, Dz n], .slot 81 (VP.bool false)]) [0, 1, 2, 17] rfl ?_
  refine nx_then ?_
  refine t_cond_f 3 rfl ?_
  refine t_skip ?_
  refine nx_then ?_
  refine t_seq ?_
  refine t_region (F := ⟨_, _, _, _⟩) [.slot 1 (VP.int .i64 n), .slot 6 (VP.bool false), .box 11 69 [Bz n, Dz n], .slot 81 (VP.bool false)] [] [(0, .slot 83 (INT n)), (1, .slot 84 (VP.tup [VP.int .i64 n, VP.bool true])), (2, .slot 82 (VP.tup [VP.int .i64 n, VP.bool true])), (3, .slot 85 (VP.int .i64 n)), (4, .slot 86 (VP.bool true)), (5, .slot 12 (VP.int .i64 n)), (6, .slot 13 (VP.bool true))] [] [0, 1, 2, 3] [] rfl rfl follow rfl ⟨
    .inl ⟨wants_plain rfl, does_loadAgg _ ty_agg_api_Int rfl rfl rfl rfl rfl rfl (pt_box (av_fs 2 rfl)) (av_fs 2 rfl)⟩,
    .inl ⟨wants_plain rfl, does_call (s_smallT n (lle (of_len h1 h2) (by decide)) (decide_eq_true (by omega))) rfl hb_collator_whole_Small rfl rfl rfl rfl ⟨(ar_tmp (av_rs 0 rfl rfl)), trivial⟩⟩,
    .inl ⟨wants_plain rfl, does_move _ (.inl rfl) rfl rfl rfl rfl (ar_tmp (av_rs 1 rfl rfl))⟩,
    .inl ⟨wants_plain rfl, does_extract (ps := [VP.int .i64 n, VP.bool true]) _ _ rfl rfl rfl rfl rfl (ar_tmp (av_rs 2 rfl rfl)) rfl⟩,
    .inl ⟨wants_plain rfl, does_extract (ps := [VP.int .i64 n, VP.bool true]) _ _ rfl rfl rfl rfl rfl (ar_tmp (av_rs 2 rfl rfl)) rfl⟩,
    .inl ⟨wants_plain rfl, does_move _ (.inr rfl) rfl rfl rfl rfl (ar_tmp (av_rs 3 rfl rfl))⟩,
    .inl ⟨wants_plain rfl, does_move _ (.inr rfl) rfl rfl rfl rfl (ar_tmp (av_rs 4 rfl rfl))⟩,
    trivial⟩ ?_
  refine nx_sub (fs' := [.slot 1 (VP.int .i64 n), .slot 6 (VP.bool false), .slot 12 (VP.int .i64 n), .slot 13 (VP.bool true)]) [0, 1, 9, 10] rfl ?_
  refine nx_then ?_
  refine t_seq ?_
  refine t_region (F := ⟨_, _, _, _⟩) [.slot 1 (VP.int .i64 n), .slot 12 (VP.int .i64 n), .slot 13 (VP.bool true)] [(24, .slot 6 (VP.bool false))] [(0, .slot 87 (VP.bool true)), (1, .slot 88 (VP.int .i64 n)), (2, .slot 89 (VP.bool (decide (n ≥ (-4611686018427387904))))), (3, .slot 90 (VP.bool (decide (n ≥ (-4611686018427387904))))), (4, .slot 91 (VP.int .i64 n)), (5, .slot 92 (VP.bool (decide (n ≤ 4611686018427387904)))), (6, .slot 93 (VP.bool (decide (n ≤ 4611686018427387904)))), (7, .slot 94 (VP.bool true)), (8, .slot 95 (VP.bool true)), (9, .slot 96 (VP.bool true)), (10, .slot 97 (VP.bool false)), (11, .slot 98 (VP.bool false)), (12, .slot 99 (VP.undef)), (13, .slot 100 (VP.undef)), (14, .slot 101 (VP.bool false)), (15, .slot 102 (VP.bool false)), (16, .slot 103 (VP.bool true)), (17, .slot 104 (VP.bool true)), (18, .slot 105 (VP.int .i64 n)), (19, .slot 106 (VP.int .i64 n)), (20, .slot 107 (VP.bool (n == n))), (21, .slot 108 (VP.bool (n == n))), (22, .slot 109 (VP.bool (n == n))), (23, .slot 110 (VP.bool (n == n))), (24, .slot 6 (VP.bool (n == n)))] [] [0, 2, 3] [1] rfl rfl follow rfl ⟨
    .inl ⟨wants_plain rfl, does_move _ (.inl rfl) rfl rfl rfl rfl (ar_tmp (av_fs 2 rfl))⟩,
    .inl ⟨wants_plain rfl, does_move _ (.inl rfl) rfl rfl rfl rfl (ar_tmp (av_fs 0 rfl))⟩,
    .inl ⟨wants_plain rfl, does_cmp (m := n) (n := (-4611686018427387904)) _ _ _ _ _ rfl rfl rfl rfl rfl rfl .i64 (ar_tmp (av_rs 1 rfl rfl)) (ar_const (fun _ => rfl))⟩,
    .inl ⟨wants_plain rfl, does_move _ (.inl rfl) rfl rfl rfl rfl (ar_tmp (av_rs 2 rfl rfl))⟩,
    .inl ⟨wants_guard true rfl rfl rfl (av_bool (decide_eq_true (by omega)) (av_rs 3 rfl rfl)), does_move _ (.inl rfl) rfl rfl rfl rfl (ar_tmp (av_fs 0 rfl))⟩,
    .inl ⟨wants_guard true rfl rfl rfl (av_bool (decide_eq_true (by omega)) (av_rs 3 rfl rfl)), does_cmp (m := n) (n := 4611686018427387904) _ _ _ _ _ rfl rfl rfl rfl rfl rfl .i64 (ar_tmp (av_rs 4 rfl rfl)) (ar_const (fun _ => rfl))⟩,
    .inl ⟨wants_plain rfl, does_pick true _ _ _ rfl rfl rfl rfl rfl (ar_tmp (av_bool (decide_eq_true (by omega)) (av_rs 3 rfl rfl))) (ar_tmp (av_rs 5 rfl rfl))⟩,
    .inl ⟨wants_plain rfl, does_eqBool (u := true) (v := true) _ _ _ _ _ (by kernel_rfl) rfl rfl rfl rfl rfl rfl (ar_tmp (av_rs 0 rfl rfl)) (ar_tmp (av_bool (decide_eq_true (by omega)) (av_rs 6 rfl rfl)))⟩,
    .inl ⟨wants_plain rfl, does_move _ (.inl rfl) rfl rfl rfl rfl (ar_tmp (av_rs 7 rfl rfl))⟩,
    .inl ⟨wants_guard true rfl rfl rfl (av_rs 8 rfl rfl), does_move _ (.inl rfl) rfl rfl rfl rfl (ar_tmp (av_fs 2 rfl))⟩,
    .inl ⟨wants_guard true rfl rfl rfl (av_rs 8 rfl rfl), does_not true _ _ rfl rfl rfl rfl rfl (ar_tmp (av_rs 9 rfl rfl))⟩,
    .inl ⟨wants_guard true rfl rfl rfl (av_rs 8 rfl rfl), does_move _ (.inl rfl) rfl rfl rfl rfl (ar_tmp (av_rs 10 rfl rfl))⟩,
    .inr (skips_guardU false rfl rfl rfl (av_rs 11 rfl rfl) rfl rfl rfl rfl),
    .inr (skips_guardU false rfl rfl rfl (av_rs 11 rfl rfl) rfl rfl rfl rfl),
    .inl ⟨wants_guard true rfl rfl rfl (av_rs 8 rfl rfl), does_pick false _ _ _ rfl rfl rfl rfl rfl (ar_tmp (av_rs 11 rfl rfl)) (ar_const (fun _ => rfl))⟩,
    .inl ⟨wants_guard true rfl rfl rfl (av_rs 8 rfl rfl), does_move _ (.inl rfl) rfl rfl rfl rfl (ar_tmp (av_rs 14 rfl rfl))⟩,
    .inl ⟨wants_guard false rfl rfl rfl (av_rs 15 rfl rfl), does_move _ (.inl rfl) rfl rfl rfl rfl (ar_tmp (av_fs 2 rfl))⟩,
    .inl ⟨wants_guard false rfl rfl rfl (av_rs 15 rfl rfl), does_move _ (.inl rfl) rfl rfl rfl rfl (ar_tmp (av_rs 16 rfl rfl))⟩,
    .inl ⟨wants_guard true rfl rfl rfl (av_rs 17 rfl rfl), does_move _ (.inl rfl) rfl rfl rfl rfl (ar_tmp (av_fs 1 rfl))⟩,
    .inl ⟨wants_guard true rfl rfl rfl (av_rs 17 rfl rfl), does_move _ (.inl rfl) rfl rfl rfl rfl (ar_tmp (av_fs 0 rfl))⟩,
    .inl ⟨wants_guard true rfl rfl rfl (av_rs 17 rfl rfl), does_cmp (m := n) (n := n) _ _ _ _ _ rfl rfl rfl rfl rfl rfl .i64 (ar_tmp (av_rs 18 rfl rfl)) (ar_tmp (av_rs 19 rfl rfl))⟩,
    .inl ⟨wants_guard false rfl rfl rfl (av_rs 15 rfl rfl), does_pick true _ _ _ rfl rfl rfl rfl rfl (ar_tmp (av_rs 17 rfl rfl)) (ar_tmp (av_rs 20 rfl rfl))⟩,
    .inl ⟨wants_guard true rfl rfl rfl (av_rs 8 rfl rfl), does_pick false _ _ _ rfl rfl rfl rfl rfl (ar_tmp (av_rs 15 rfl rfl)) (ar_tmp (av_rs 21 rfl rfl))⟩,
    .inl ⟨wants_plain rfl, does_pick true _ _ _ rfl rfl rfl rfl rfl (ar_tmp (av_rs 8 rfl rfl)) (ar_tmp (av_rs 22 rfl rfl))⟩,
    .inl ⟨wants_plain rfl, does_move _ (.inr rfl) rfl rfl rfl rfl (ar_tmp (av_rs 23 rfl rfl))⟩,
    trivial⟩ ?_
  refine nx_sub (fs' := [.slot 6 (VP.bool (n == n))]) [27] rfl ?_
  refine nx_then ?_
  refine t_ret ?_
  exact rt_one rfl (res_tmpb 0 rfl (beq_self_eq_true _))
set_option maxRecDepth 100000 in
set_option maxHeartbeats 4000000 in
theorem reads_Nb (s : ByteArray) (n : Int) (h1 : -9223372036854775808 ≤ n) (h2 : n < 9223372036854775808) (x : Raw) (hx : x.ok) (hl : s.size ≤ 200) (hw : x.2.length ≤ 50) (he : n < -4611686018427387904) (hp : parseL (byt s) = none) : Spec Try.prog 10 [(VP.str s).p, (VP.int .i64 n).p, (VP.agg [VP.bool x.1, VP.nums .u32 x.2]).p] (VP.bool true) := by
  refine spec_of (xs := [VP.str s, VP.int .i64 n, VP.agg [VP.bool x.1, VP.nums .u32 x.2]]) 111 [5, 7, 9, 11] Try.func10 rfl Try.ntmps10 rfl fun w0 => ?_
  refine t_seq ?_
  refine t_region (F := ⟨_, _, _, _⟩) [.slot 0 (VP.str s), .slot 1 (VP.int .i64 n), .slot 2 (VP.agg [VP.bool x.1, VP.nums .u32 x.2])] [] [(0, .box 5 69 [VP.bool x.1, VP.nums .u32 x.2]), (1, .slot 6 (VP.bool false))] [] [0, 1, 2] [] rfl rfl follow rfl ⟨
    .inl ⟨wants_plain rfl, does_box _ rfl rfl rfl rfl rfl (ar_tmp (av_fs 2 rfl))⟩,
    .inl ⟨wants_plain rfl, does_move _ (.inr rfl) rfl rfl rfl rfl (ar_const (fun _ => rfl))⟩,
    trivial⟩ ?_
  refine nx_sub (fs' := [.slot 0 (VP.str s), .slot 1 (VP.int .i64 n), .box 5 69 [VP.bool x.1, VP.nums .u32 x.2], .slot 6 (VP.bool false)]) [0, 1, 3, 4] rfl ?_
  refine nx_then ?_
  refine t_seq ?_
  refine t_seq ?_
  refine t_region (F := ⟨_, _, _, _⟩) [.slot 0 (VP.str s), .slot 1 (VP.int .i64 n), .box 5 69 [VP.bool x.1, VP.nums .u32 x.2], .slot 6 (VP.bool false)] [] [(0, .slot 14 (VP.bool true)), (1, .slot 15 (VP.bool false))] [] [0, 1, 2, 3] [] rfl rfl follow rfl ⟨
    .inl ⟨wants_plain rfl, does_call sp1_spec rfl hb_collator_collatorlaw01_speaks rfl rfl rfl rfl trivial⟩,
    .inl ⟨wants_plain rfl, does_not true _ _ rfl rfl rfl rfl rfl (ar_tmp (av_rs 0 rfl rfl))⟩,
    trivial⟩ ?_
  refine nx_sub (fs' := [.slot 0 (VP.str s), .slot 1 (VP.int .i64 n), .box 5 69 [VP.bool x.1, VP.nums .u32 x.2], .slot 6 (VP.bool false), .slot 15 (VP.bool false)]) [0, 1, 2, 3, 5] rfl ?_
  refine nx_then ?_
  refine t_cond_f 4 rfl ?_
  refine t_skip ?_
  refine nx_then ?_
  refine t_seq ?_
  refine t_seq ?_
  refine t_region (F := ⟨_, _, _, _⟩) [.slot 0 (VP.str s), .slot 1 (VP.int .i64 n), .box 5 69 [VP.bool x.1, VP.nums .u32 x.2], .slot 6 (VP.bool false), .slot 15 (VP.bool false)] [] [(0, .slot 16 (VP.str s)), (1, .slot 17 (VP.int .i64 ((s.size : Nat) : Int))), (2, .slot 18 (VP.bool (decide (((s.size : Nat) : Int) > 200)))), (3, .slot 19 (VP.bool (decide (((s.size : Nat) : Int) > 200)))), (4, .fp 20 5 1), (5, .slot 21 (VP.nums .u32 x.2)), (6, .slot 22 (VP.int .i64 (((x.2).length : Nat) : Int))), (7, .slot 23 (VP.bool (decide ((((x.2).length : Nat) : Int) > 50)))), (8, .slot 24 (VP.bool (decide ((((x.2).length : Nat) : Int) > 50))))] [] [0, 1, 2, 3, 4] [] rfl rfl follow rfl ⟨
    .inl ⟨wants_plain rfl, does_move _ (.inl rfl) rfl rfl rfl rfl (ar_tmp (av_fs 0 rfl))⟩,
    .inl ⟨wants_plain rfl, does_lenStr _ _ Try.underlying9 rfl rfl rfl rfl rfl (ar_tmp (av_rs 0 rfl rfl))⟩,
    .inl ⟨wants_plain rfl, does_cmp (m := ((s.size : Nat) : Int)) (n := 200) _ _ _ _ _ rfl rfl rfl rfl rfl rfl .i64 (ar_tmp (av_rs 1 rfl rfl)) (ar_const (fun _ => rfl))⟩,
    .inl ⟨wants_plain rfl, does_move _ (.inl rfl) rfl rfl rfl rfl (ar_tmp (av_rs 2 rfl rfl))⟩,
    .inl ⟨wants_guard false rfl rfl rfl (av_bool (decide_eq_false (by omega)) (av_rs 3 rfl rfl)), does_field _ _ _ 1 ty_f1_api_Int rfl rfl rfl rfl rfl rfl rfl (pt_box (av_fs 2 rfl))⟩,
    .inl ⟨wants_guard false rfl rfl rfl (av_bool (decide_eq_false (by omega)) (av_rs 3 rfl rfl)), does_loadOne _ ty_one___uint32 rfl rfl rfl rfl rfl rfl (pt_fp (av_rs 4 rfl rfl)) (av_fs 2 rfl)⟩,
    .inl ⟨wants_guard false rfl rfl rfl (av_bool (decide_eq_false (by omega)) (av_rs 3 rfl rfl)), does_len _ _ (by kernel_rfl) rfl rfl rfl rfl rfl (ar_tmp (av_rs 5 rfl rfl))⟩,
    .inl ⟨wants_guard false rfl rfl rfl (av_bool (decide_eq_false (by omega)) (av_rs 3 rfl rfl)), does_cmp (m := (((x.2).length : Nat) : Int)) (n := 50) _ _ _ _ _ rfl rfl rfl rfl rfl rfl .i64 (ar_tmp (av_rs 6 rfl rfl)) (ar_const (fun _ => rfl))⟩,
    .inl ⟨wants_plain rfl, does_pick false _ _ _ rfl rfl rfl rfl rfl (ar_tmp (av_bool (decide_eq_false (by omega)) (av_rs 3 rfl rfl))) (ar_tmp (av_rs 7 rfl rfl))⟩,
    trivial⟩ ?_
  refine nx_sub (fs' := [.slot 0 (VP.str s), .slot 1 (VP.int .i64 n), .box 5 69 [VP.bool x.1, VP.nums .u32 x.2], .slot 6 (VP.bool false), .slot 24 (VP.bool (decide ((((x.2).length : Nat) : Int) > 50)))]) [0, 1, 2, 3, 13] rfl ?_
  refine nx_then ?_
  refine t_cond_fe 4 rfl (decide_eq_false (by omega)) ?_
  refine t_skip ?_
  refine nx_then ?_
  refine t_seq ?_
  refine t_region (F := ⟨_, _, _, _⟩) [.slot 0 (VP.str s), .slot 1 (VP.int .i64 n), .box 5 69 [VP.bool x.1, VP.nums .u32 x.2], .slot 6 (VP.bool false), .slot 24 (VP.bool (decide ((((x.2).length : Nat) : Int) > 50)))] [] [(0, .slot 26 (VP.str s)), (1, .slot 27 (VP.tup [INT 0, VP.bool false])), (2, .slot 25 (VP.tup [INT 0, VP.bool false])), (3, .slot 28 (INT 0)), (4, .slot 29 (VP.bool false)), (5, .own 7 69 2), (6, .box 7 69 [Bz 0, Dz 0]), (7, .slot 8 (VP.bool false))] [] [0, 1, 2, 3, 4] [] rfl rfl follow rfl ⟨
    .inl ⟨wants_plain rfl, does_move _ (.inl rfl) rfl rfl rfl rfl (ar_tmp (av_fs 0 rfl))⟩,
    .inl ⟨wants_plain rfl, does_call (s_parse_none s (by omega) hp) rfl hb_collator_whole_Parse rfl rfl rfl rfl ⟨(ar_tmp (av_rs 0 rfl rfl)), trivial⟩⟩,
    .inl ⟨wants_plain rfl, does_move _ (.inl rfl) rfl rfl rfl rfl (ar_tmp (av_rs 1 rfl rfl))⟩,
    .inl ⟨wants_plain rfl, does_extract (ps := [INT 0, VP.bool false]) _ _ rfl rfl rfl rfl rfl (ar_tmp (av_rs 2 rfl rfl)) rfl⟩,
    .inl ⟨wants_plain rfl, does_extract (ps := [INT 0, VP.bool false]) _ _ rfl rfl rfl rfl rfl (ar_tmp (av_rs 2 rfl rfl)) rfl⟩,
    .inl ⟨wants_plain rfl, does_allocOwn [Bz 0, Dz 0] ty_zero_api_Int rfl rfl rfl rfl rfl z_int rfl⟩,
    .inl ⟨wants_plain rfl, does_storeNew 2 _ _ ty_agg_api_Int rfl rfl rfl rfl rfl (pt_own (av_rs 5 rfl rfl)) (av_rs 5 rfl rfl) (ar_tmp (av_rs 3 rfl rfl))⟩,
    .inl ⟨wants_plain rfl, does_move _ (.inr rfl) rfl rfl rfl rfl (ar_tmp (av_rs 4 rfl rfl))⟩,
    trivial⟩ ?_
  refine nx_sub (fs' := [.slot 0 (VP.str s), .slot 1 (VP.int .i64 n), .box 5 69 [VP.bool x.1, VP.nums .u32 x.2], .slot 6 (VP.bool false), .box 7 69 [Bz 0, Dz 0], .slot 8 (VP.bool false)]) [0, 1, 2, 3, 11, 12] rfl ?_
  refine nx_then ?_
  refine t_seq ?_
  refine t_region (F := ⟨_, _, _, _⟩) [.slot 0 (VP.str s), .slot 1 (VP.int .i64 n), .box 5 69 [VP.bool x.1, VP.nums .u32 x.2], .slot 6 (VP.bool false), .box 7 69 [Bz 0, Dz 0], .slot 8 (VP.bool false)] [] [(0, .slot 31 (VP.str s)), (1, .slot 32 (VP.tup [VP.agg [VP.boolish, VP.slish], VP.bool false])), (2, .slot 30 (VP.tup [VP.agg [VP.boolish, VP.slish], VP.bool false])), (3, .slot 33 (VP.agg [VP.boolish, VP.slish])), (4, .slot 34 (VP.bool false)), (5, .own 9 72 2), (6, .box 9 72 [VP.boolish, VP.slish]), (7, .slot 10 (VP.bool false))] [] [0, 1, 2, 3, 4, 5] [] rfl rfl follow rfl ⟨
    .inl ⟨wants_plain rfl, does_move _ (.inl rfl) rfl rfl rfl rfl (ar_tmp (av_fs 0 rfl))⟩,
    .inl ⟨wants_plain rfl, does_call (r_parse_none s (by omega) hp) rfl hb_collator_collatorref01_Parse rfl rfl rfl rfl ⟨(ar_tmp (av_rs 0 rfl rfl)), trivial⟩⟩,
    .inl ⟨wants_plain rfl, does_move _ (.inl rfl) rfl rfl rfl rfl (ar_tmp (av_rs 1 rfl rfl))⟩,
    .inl ⟨wants_plain rfl, does_extract (ps := [VP.agg [VP.boolish, VP.slish], VP.bool false]) _ _ rfl rfl rfl rfl rfl (ar_tmp (av_rs 2 rfl rfl)) rfl⟩,
    .inl ⟨wants_plain rfl, does_extract (ps := [VP.agg [VP.boolish, VP.slish], VP.bool false]) _ _ rfl rfl rfl rfl rfl (ar_tmp (av_rs 2 rfl rfl)) rfl⟩,
    .inl ⟨wants_plain rfl, does_allocOwn [Bz 0, Tz 0] ty_zero_collatorref01_Num rfl rfl rfl rfl rfl z_num rfl⟩,
    .inl ⟨wants_plain rfl, does_storeNew 2 _ _ ty_agg_collatorref01_Num rfl rfl rfl rfl rfl (pt_own (av_rs 5 rfl rfl)) (av_rs 5 rfl rfl) (ar_tmp (av_rs 3 rfl rfl))⟩,
    .inl ⟨wants_plain rfl, does_move _ (.inr rfl) rfl rfl rfl rfl (ar_tmp (av_rs 4 rfl rfl))⟩,
    trivial⟩ ?_
  refine nx_sub (fs' := [.slot 1 (VP.int .i64 n), .box 5 69 [VP.bool x.1, VP.nums .u32 x.2], .slot 6 (VP.bool false), .box 7 69 [Bz 0, Dz 0], .slot 8 (VP.bool false), .box 9 72 [VP.boolish, VP.slish], .slot 10 (VP.bool false)]) [1, 2, 3, 4, 5, 12, 13] rfl ?_
  refine nx_then ?_
  refine t_seq ?_
  refine t_seq ?_
  refine t_region (F := ⟨_, _, _, _⟩) [.slot 1 (VP.int .i64 n), .box 5 69 [VP.bool x.1, VP.nums .u32 x.2], .slot 6 (VP.bool false), .box 7 69 [Bz 0, Dz 0], .slot 8 (VP.bool false), .box 9 72 [VP.boolish, VP.slish], .slot 10 (VP.bool false)] [] [(0, .slot 35 (VP.bool false)), (1, .slot 36 (VP.bool false)), (2, .slot 37 (VP.bool false)), (3, .slot 38 (VP.bool false)), (4, .slot 39 (VP.bool false)), (5, .slot 40 (VP.bool false)), (6, .slot 41 (VP.undef)), (7, .slot 42 (VP.undef)), (8, .slot 43 (VP.undef)), (9, .slot 44 (VP.undef)), (10, .slot 45 (VP.undef)), (11, .slot 46 (VP.bool false)), (12, .slot 47 (VP.bool false)), (13, .slot 48 (VP.bool false)), (14, .slot 49 (VP.bool false)), (15, .slot 50 (VP.bool true)), (16, .slot 51 (VP.bool true)), (17, .slot 52 (INT 0)), (18, .slot 53 (INT 0)), (19, .slot 54 (VP.bool true)), (20, .slot 55 (VP.bool false)), (21, .slot 56 (VP.bool false)), (22, .slot 57 (VP.bool false)), (23, .slot 58 (VP.bool false)), (24, .slot 59 (VP.agg [VP.bool x.1, VP.nums .u32 x.2])), (25, .slot 60 (VP.bool (rightB x.1 x.2))), (26, .slot 61 (VP.agg [VP.bool x.1, VP.nums .u32 x.2])), (27, .slot 62 (VP.bool (rightB x.1 x.2))), (28, .slot 63 (VP.bool (!((rightB x.1 x.2) == (rightB x.1 x.2))))), (29, .slot 64 (VP.bool (!((rightB x.1 x.2) == (rightB x.1 x.2)))))] [] [0, 1, 2, 3, 4, 5, 6] [] rfl rfl follow rfl ⟨
    .inl ⟨wants_plain rfl, does_move _ (.inl rfl) rfl rfl rfl rfl (ar_tmp (av_fs 4 rfl))⟩,
    .inl ⟨wants_plain rfl, does_move _ (.inl rfl) rfl rfl rfl rfl (ar_tmp (av_fs 6 rfl))⟩,
    .inl ⟨wants_plain rfl, does_eqBool (u := false) (v := false) _ _ _ _ _ (by kernel_rfl) rfl rfl rfl rfl rfl rfl (ar_tmp (av_rs 0 rfl rfl)) (ar_tmp (av_rs 1 rfl rfl))⟩,
    .inl ⟨wants_plain rfl, does_move _ (.inl rfl) rfl rfl rfl rfl (ar_tmp (av_rs 2 rfl rfl))⟩,
    .inl ⟨wants_guard false rfl rfl rfl (av_rs 3 rfl rfl), does_move _ (.inl rfl) rfl rfl rfl rfl (ar_tmp (av_fs 4 rfl))⟩,
    .inl ⟨wants_guard false rfl rfl rfl (av_rs 3 rfl rfl), does_move _ (.inl rfl) rfl rfl rfl rfl (ar_tmp (av_rs 4 rfl rfl))⟩,
    .inr (skips_guardU false rfl rfl rfl (av_rs 5 rfl rfl) rfl rfl rfl rfl),
    .inr (skips_guardU false rfl rfl rfl (av_rs 5 rfl rfl) rfl rfl rfl rfl),
    .inr (skips_guardU false rfl rfl rfl (av_rs 5 rfl rfl) rfl rfl rfl rfl),
    .inr (skips_guardU false rfl rfl rfl (av_rs 5 rfl rfl) rfl rfl rfl rfl),
    .inr (skips_guardU false rfl rfl rfl (av_rs 5 rfl rfl) rfl rfl rfl rfl),
    .inl ⟨wants_guard false rfl rfl rfl (av_rs 3 rfl rfl), does_pick false _ _ _ rfl rfl rfl rfl rfl (ar_tmp (av_rs 5 rfl rfl)) (ar_const (fun _ => rfl))⟩,
    .inl ⟨wants_plain rfl, does_pick false _ _ _ rfl rfl rfl rfl rfl (ar_tmp (av_rs 3 rfl rfl)) (ar_tmp (av_rs 11 rfl rfl))⟩,
    .inl ⟨wants_plain rfl, does_move _ (.inl rfl) rfl rfl rfl rfl (ar_tmp (av_rs 12 rfl rfl))⟩,
    .inl ⟨wants_guard false rfl rfl rfl (av_rs 13 rfl rfl), does_move _ (.inl rfl) rfl rfl rfl rfl (ar_tmp (av_fs 4 rfl))⟩,
    .inl ⟨wants_guard false rfl rfl rfl (av_rs 13 rfl rfl), does_not false _ _ rfl rfl rfl rfl rfl (ar_tmp (av_rs 14 rfl rfl))⟩,
    .inl ⟨wants_guard false rfl rfl rfl (av_rs 13 rfl rfl), does_move _ (.inl rfl) rfl rfl rfl rfl (ar_tmp (av_rs 15 rfl rfl))⟩,
    .inl ⟨wants_guard true rfl rfl rfl (av_rs 16 rfl rfl), does_loadAgg _ ty_agg_api_Int rfl rfl rfl rfl rfl rfl (pt_box (av_fs 3 rfl)) (av_fs 3 rfl)⟩,
    .inl ⟨wants_guard true rfl rfl rfl (av_rs 16 rfl rfl), does_build [Bz 0, Dz 0] ty_zero_api_Int ty_pl_api_Int rfl rfl rfl rfl rfl z_int (.nil _)⟩,
    .inl ⟨wants_guard true rfl rfl rfl (av_rs 16 rfl rfl), does_call (r_same1 0 (lle lzero (by decide))) rfl hb_collator_collatorref01_Same rfl rfl rfl rfl ⟨(ar_tmp (av_rs 17 rfl rfl)), (ar_tmp (av_rs 18 rfl rfl)), trivial⟩⟩,
    .inl ⟨wants_guard true rfl rfl rfl (av_rs 16 rfl rfl), does_not true _ _ rfl rfl rfl rfl rfl (ar_tmp (av_rs 19 rfl rfl))⟩,
    .inl ⟨wants_guard false rfl rfl rfl (av_rs 13 rfl rfl), does_pick true _ _ _ rfl rfl rfl rfl rfl (ar_tmp (av_rs 16 rfl rfl)) (ar_tmp (av_rs 20 rfl rfl))⟩,
    .inl ⟨wants_plain rfl, does_pick false _ _ _ rfl rfl rfl rfl rfl (ar_tmp (av_rs 13 rfl rfl)) (ar_tmp (av_rs 21 rfl rfl))⟩,
    .inl ⟨wants_plain rfl, does_move _ (.inl rfl) rfl rfl rfl rfl (ar_tmp (av_rs 22 rfl rfl))⟩,
    .inl ⟨wants_guard false rfl rfl rfl (av_rs 23 rfl rfl), does_loadAgg _ ty_agg_api_Int rfl rfl rfl rfl rfl rfl (pt_box (av_fs 1 rfl)) (av_fs 1 rfl)⟩,
    .inl ⟨wants_guard false rfl rfl rfl (av_rs 23 rfl rfl), does_call (s_right x (by omega)) rfl hb_collator_whole_Right rfl rfl rfl rfl ⟨(ar_tmp (av_rs 24 rfl rfl)), trivial⟩⟩,
    .inl ⟨wants_guard false rfl rfl rfl (av_rs 23 rfl rfl), does_loadAgg _ ty_agg_api_Int rfl rfl rfl rfl rfl rfl (pt_box (av_fs 1 rfl)) (av_fs 1 rfl)⟩,
    .inl ⟨wants_guard false rfl rfl rfl (av_rs 23 rfl rfl), does_call (r_rightW x hx (by omega)) rfl hb_collator_collatorref01_Right rfl rfl rfl rfl ⟨(ar_tmp (av_rs 26 rfl rfl)), trivial⟩⟩,
    .inl ⟨wants_guard false rfl rfl rfl (av_rs 23 rfl rfl), does_eqBool (u := (rightB x.1 x.2)) (v := (rightB x.1 x.2)) _ _ _ _ _ (by kernel_rfl) rfl rfl rfl rfl rfl rfl (ar_tmp (av_rs 25 rfl rfl)) (ar_tmp (av_rs 27 rfl rfl))⟩,
    .inl ⟨wants_plain rfl, does_pick false _ _ _ rfl rfl rfl rfl rfl (ar_tmp (av_rs 23 rfl rfl)) (ar_tmp (av_rs 28 rfl rfl))⟩,
    trivial⟩ ?_
  refine nx_sub (fs' := [.slot 1 (VP.int .i64 n), .slot 6 (VP.bool false), .slot 64 (VP.bool (!((rightB x.1 x.2) == (rightB x.1 x.2))))]) [0, 2, 36] rfl ?_
  refine nx_then ?_
  refine t_cond_fe 2 rfl (by rw [beq_self_eq_true]; rfl) ?_
  refine t_skip ?_
  refine nx_then ?_
  refine t_seq ?_
  refine t_region (F := ⟨_, _, _, _⟩) [.slot 1 (VP.int .i64 n), .slot 6 (VP.bool false), .slot 64 (VP.bool (!((rightB x.1 x.2) == (rightB x.1 x.2))))] [] [(0, .slot 65 (VP.int .i64 n)), (1, .slot 66 (INT n)), (2, .own 11 69 2), (3, .box 11 69 [Bz n, Dz n])] [] [0, 1, 2] [] rfl rfl follow rfl ⟨
    .inl ⟨wants_plain rfl, does_move _ (.inl rfl) rfl rfl rfl rfl (ar_tmp (av_fs 0 rfl))⟩,
    .inl ⟨wants_plain rfl, does_call (s_of n h1 h2) rfl hb_collator_whole_Of rfl rfl rfl rfl ⟨(ar_tmp (av_rs 0 rfl rfl)), trivial⟩⟩,
    .inl ⟨wants_plain rfl, does_allocOwn [Bz 0, Dz 0] ty_zero_api_Int rfl rfl rfl rfl rfl z_int rfl⟩,
    .inl ⟨wants_plain rfl, does_storeNew 2 _ _ ty_agg_api_Int rfl rfl rfl rfl rfl (pt_own (av_rs 2 rfl rfl)) (av_rs 2 rfl rfl) (ar_tmp (av_rs 1 rfl rfl))⟩,
    trivial⟩ ?_
  refine nx_sub (fs' := [.slot 1 (VP.int .i64 n), .slot 6 (VP.bool false), .box 11 69 [Bz n, Dz n]]) [0, 1, 6] rfl ?_
  refine nx_then ?_
  refine t_seq ?_
  refine t_seq ?_
  refine t_region (F := ⟨_, _, _, _⟩) [.slot 1 (VP.int .i64 n), .slot 6 (VP.bool false), .box 11 69 [Bz n, Dz n]] [] [(0, .slot 67 (INT n)), (1, .slot 68 (VP.bool true)), (2, .slot 69 (VP.bool false)), (3, .slot 70 (VP.bool false)), (4, .slot 71 (VP.int .i64 n)), (5, .slot 72 (VP.bool (decide (n > (-4611686018427387904))))), (6, .slot 73 (VP.bool (decide (n > (-4611686018427387904))))), (7, .slot 74 (VP.undef)), (8, .slot 75 (VP.undef)), (9, .slot 76 (VP.undef)), (10, .slot 77 (VP.undef)), (11, .slot 78 (VP.undef)), (12, .slot 79 (VP.undef)), (13, .slot 80 (VP.bool false)), (14, .slot 81 (VP.bool false))] [] [0, 1, 2] [] rfl rfl follow rfl ⟨
    .inl ⟨wants_plain rfl, does_loadAgg _ ty_agg_api_Int rfl rfl rfl rfl rfl rfl (pt_box (av_fs 2 rfl)) (av_fs 2 rfl)⟩,
    .inl ⟨wants_plain rfl, does_call (r_rightZ n (lle (of_len h1 h2) (by decide))) rfl hb_collator_collatorref01_Right rfl rfl rfl rfl ⟨(ar_tmp (av_rs 0 rfl rfl)), trivial⟩⟩,
    .inl ⟨wants_plain rfl, does_not true _ _ rfl rfl rfl rfl rfl (ar_tmp (av_rs 1 rfl rfl))⟩,
    .inl ⟨wants_plain rfl, does_move _ (.inl rfl) rfl rfl rfl rfl (ar_tmp (av_rs 2 rfl rfl))⟩,
    .inl ⟨wants_guard false rfl rfl rfl (av_rs 3 rfl rfl), does_move _ (.inl rfl) rfl rfl rfl rfl (ar_tmp (av_fs 0 rfl))⟩,
    .inl ⟨wants_guard false rfl rfl rfl (av_rs 3 rfl rfl), does_cmp (m := n) (n := (-4611686018427387904)) _ _ _ _ _ rfl rfl rfl rfl rfl rfl .i64 (ar_tmp (av_rs 4 rfl rfl)) (ar_const (fun _ => rfl))⟩,
    .inl ⟨wants_guard false rfl rfl rfl (av_rs 3 rfl rfl), does_move _ (.inl rfl) rfl rfl rfl rfl (ar_tmp (av_rs 5 rfl rfl))⟩,
    .inr (skips_guardU false rfl rfl rfl (av_bool (decide_eq_false (by omega)) (av_rs 6 rfl rfl)) rfl rfl rfl rfl),
    .inr (skips_guardU false rfl rfl rfl (av_bool (decide_eq_false (by omega)) (av_rs 6 rfl rfl)) rfl rfl rfl rfl),
    .inr (skips_guardU false rfl rfl rfl (av_bool (decide_eq_false (by omega)) (av_rs 6 rfl rfl)) rfl rfl rfl rfl),
    .inr (skips_guardU false rfl rfl rfl (av_bool (decide_eq_false (by omega)) (av_rs 6 rfl rfl)) rfl rfl rfl rfl),
    .inr (skips_guardU false rfl rfl rfl (av_bool (decide_eq_false (by omega)) (av_rs 6 rfl rfl)) rfl rfl rfl rfl),
    .inr (skips_guardU false rfl rfl rfl (av_bool (decide_eq_false (by omega)) (av_rs 6 rfl rfl)) rfl rfl rfl rfl),
    .inl ⟨wants_guard false rfl rfl rfl (av_rs 3 rfl rfl), does_pick false _ _ _ rfl rfl rfl rfl rfl (ar_tmp (av_bool (decide_eq_false (by omega)) (av_rs 6 rfl rfl))) (ar_const (fun _ => rfl))⟩,
    .inl ⟨wants_plain rfl, does_pick false _ _ _ rfl rfl rfl rfl rfl (ar_tmp (av_rs 3 rfl rfl)) (ar_tmp (av_rs 13 rfl rfl))⟩,
    trivial⟩ ?_
  refine nx_sub (fs' := [.slot 1 (VP.int .i64 n), .slot 6 (VP.bool false), .box 11 69 [Bz n, Dz n], .slot 81 (VP.bool false)]) [0, 1, 2, 17] rfl ?_
  refine nx_then ?_
  refine t_cond_f 3 rfl ?_
  refine t_skip ?_
  refine nx_then ?_
  refine t_seq ?_
  refine t_region (F := ⟨_, _, _, _⟩) [.slot 1 (VP.int .i64 n), .slot 6 (VP.bool false), .box 11 69 [Bz n, Dz n], .slot 81 (VP.bool false)] [] [(0, .slot 83 (INT n)), (1, .slot 84 (VP.tup [VP.int .i64 0, VP.bool false])), (2, .slot 82 (VP.tup [VP.int .i64 0, VP.bool false])), (3, .slot 85 (VP.int .i64 0)), (4, .slot 86 (VP.bool false)), (5, .slot 12 (VP.int .i64 0)), (6, .slot 13 (VP.bool false))] [] [0, 1, 2, 3] [] rfl rfl follow rfl ⟨
    .inl ⟨wants_plain rfl, does_loadAgg _ ty_agg_api_Int rfl rfl rfl rfl rfl rfl (pt_box (av_fs 2 rfl)) (av_fs 2 rfl)⟩,
    .inl ⟨wants_plain rfl, does_call (s_smallF n (lle (of_len h1 h2) (by decide)) (decide_eq_false (by omega))) rfl hb_collator_whole_Small rfl rfl rfl rfl ⟨(ar_tmp (av_rs 0 rfl rfl)), trivial⟩⟩,
    .inl ⟨wants_plain rfl, does_move _ (.inl rfl) rfl rfl rfl rfl (ar_tmp (av_rs 1 rfl rfl))⟩,
    .inl ⟨wants_plain rfl, does_extract (ps := [VP.int .i64 0, VP.bool false]) _ _ rfl rfl rfl rfl rfl (ar_tmp (av_rs 2 rfl rfl)) rfl⟩,
    .inl ⟨wants_plain rfl, does_extract (ps := [VP.int .i64 0, VP.bool false]) _ _ rfl rfl rfl rfl rfl (ar_tmp (av_rs 2 rfl rfl)) rfl⟩,
    .inl ⟨wants_plain rfl, does_move _ (.inr rfl) rfl rfl rfl rfl (ar_tmp (av_rs 3 rfl rfl))⟩,
    .inl ⟨wants_plain rfl, does_move _ (.inr rfl) rfl rfl rfl rfl (ar_tmp (av_rs 4 rfl rfl))⟩,
    trivial⟩ ?_
  refine nx_sub (fs' := [.slot 1 (VP.int .i64 n), .slot 6 (VP.bool false), .slot 12 (VP.int .i64 0), .slot 13 (VP.bool false)]) [0, 1, 9, 10] rfl ?_
  refine nx_then ?_
  refine t_seq ?_
  refine t_region (F := ⟨_, _, _, _⟩) [.slot 1 (VP.int .i64 n), .slot 12 (VP.int .i64 0), .slot 13 (VP.bool false)] [(24, .slot 6 (VP.bool false))] [(0, .slot 87 (VP.bool false)), (1, .slot 88 (VP.int .i64 n)), (2, .slot 89 (VP.bool (decide (n ≥ (-4611686018427387904))))), (3, .slot 90 (VP.bool (decide (n ≥ (-4611686018427387904))))), (4, .slot 91 (VP.undef)), (5, .slot 92 (VP.undef)), (6, .slot 93 (VP.bool false)), (7, .slot 94 (VP.bool true)), (8, .slot 95 (VP.bool true)), (9, .slot 96 (VP.bool false)), (10, .slot 97 (VP.bool true)), (11, .slot 98 (VP.bool true)), (12, .slot 99 (VP.int .i64 0)), (13, .slot 100 (VP.bool (0 == 0))), (14, .slot 101 (VP.bool (0 == 0))), (15, .slot 102 (VP.bool (0 == 0))), (16, .slot 103 (VP.undef)), (17, .slot 104 (VP.undef)), (18, .slot 105 (VP.undef)), (19, .slot 106 (VP.undef)), (20, .slot 107 (VP.undef)), (21, .slot 108 (VP.undef)), (22, .slot 109 (VP.bool true)), (23, .slot 110 (VP.bool true)), (24, .slot 6 (VP.bool true))] [] [0, 2, 3] [1] rfl rfl follow rfl ⟨
    .inl ⟨wants_plain rfl, does_move _ (.inl rfl) rfl rfl rfl rfl (ar_tmp (av_fs 2 rfl))⟩,
    .inl ⟨wants_plain rfl, does_move _ (.inl rfl) rfl rfl rfl rfl (ar_tmp (av_fs 0 rfl))⟩,
    .inl ⟨wants_plain rfl, does_cmp (m := n) (n := (-4611686018427387904)) _ _ _ _ _ rfl rfl rfl rfl rfl rfl .i64 (ar_tmp (av_rs 1 rfl rfl)) (ar_const (fun _ => rfl))⟩,
    .inl ⟨wants_plain rfl, does_move _ (.inl rfl) rfl rfl rfl rfl (ar_tmp (av_rs 2 rfl rfl))⟩,
    .inr (skips_guardU false rfl rfl rfl (av_bool (decide_eq_false (by omega)) (av_rs 3 rfl rfl)) rfl rfl rfl rfl),
    .inr (skips_guardU false rfl rfl rfl (av_bool (decide_eq_false (by omega)) (av_rs 3 rfl rfl)) rfl rfl rfl rfl),
    .inl ⟨wants_plain rfl, does_pick false _ _ _ rfl rfl rfl rfl rfl (ar_tmp (av_bool (decide_eq_false (by omega)) (av_rs 3 rfl rfl))) (ar_const (fun _ => rfl))⟩,
    .inl ⟨wants_plain rfl, does_eqBool (u := false) (v := false) _ _ _ _ _ (by kernel_rfl) rfl rfl rfl rfl rfl rfl (ar_tmp (av_rs 0 rfl rfl)) (ar_tmp (av_rs 6 rfl rfl))⟩,
    .inl ⟨wants_plain rfl, does_move _ (.inl rfl) rfl rfl rfl rfl (ar_tmp (av_rs 7 rfl rfl))⟩,
    .inl ⟨wants_guard true rfl rfl rfl (av_rs 8 rfl rfl), does_move _ (.inl rfl) rfl rfl rfl rfl (ar_tmp (av_fs 2 rfl))⟩,
    .inl ⟨wants_guard true rfl rfl rfl (av_rs 8 rfl rfl), does_not false _ _ rfl rfl rfl rfl rfl (ar_tmp (av_rs 9 rfl rfl))⟩,
    .inl ⟨wants_guard true rfl rfl rfl (av_rs 8 rfl rfl), does_move _ (.inl rfl) rfl rfl rfl rfl (ar_tmp (av_rs 10 rfl rfl))⟩,
    .inl ⟨wants_guard true rfl rfl rfl (av_rs 11 rfl rfl), does_move _ (.inl rfl) rfl rfl rfl rfl (ar_tmp (av_fs 1 rfl))⟩,
    .inl ⟨wants_guard true rfl rfl rfl (av_rs 11 rfl rfl), does_cmp (m := 0) (n := 0) _ _ _ _ _ rfl rfl rfl rfl rfl rfl .i64 (ar_tmp (av_rs 12 rfl rfl)) (ar_const (fun _ => rfl))⟩,
    .inl ⟨wants_guard true rfl rfl rfl (av_rs 8 rfl rfl), does_pick true _ _ _ rfl rfl rfl rfl rfl (ar_tmp (av_rs 11 rfl rfl)) (ar_tmp (av_rs 13 rfl rfl))⟩,
    .inl ⟨wants_guard true rfl rfl rfl (av_rs 8 rfl rfl), does_move _ (.inl rfl) rfl rfl rfl rfl (ar_tmp (av_rs 14 rfl rfl))⟩,
    .inr (skips_guardU true rfl rfl rfl (av_bool rfl (av_rs 15 rfl rfl)) rfl rfl rfl rfl),
    .inr (skips_guardU true rfl rfl rfl (av_bool rfl (av_rs 15 rfl rfl)) rfl rfl rfl rfl),
    .inr (skips_undefU true rfl rfl rfl (av_rs 17 rfl rfl) rfl rfl rfl rfl),
    .inr (skips_undefU true rfl rfl rfl (av_rs 17 rfl rfl) rfl rfl rfl rfl),
    .inr (skips_undefU true rfl rfl rfl (av_rs 17 rfl rfl) rfl rfl rfl rfl),
    .inr (skips_guardU true rfl rfl rfl (av_bool rfl (av_rs 15 rfl rfl)) rfl rfl rfl rfl),
    .inl ⟨wants_guard true rfl rfl rfl (av_rs 8 rfl rfl), does_pick true _ _ _ rfl rfl rfl rfl rfl (ar_tmp (av_bool rfl (av_rs 15 rfl rfl))) (ar_const (fun _ => rfl))⟩,
    .inl ⟨wants_plain rfl, does_pick true _ _ _ rfl rfl rfl rfl rfl (ar_tmp (av_rs 8 rfl rfl)) (ar_tmp (av_rs 22 rfl rfl))⟩,
    .inl ⟨wants_plain rfl, does_move _ (.inr rfl) rfl rfl rfl rfl (ar_tmp (av_rs 23 rfl rfl))⟩,
    trivial⟩ ?_
  refine nx_sub (fs' := [.slot 6 (VP.bool true)]) [27] rfl ?_
  refine nx_then ?_
  refine t_ret ?_
  exact rt_one rfl (res_tmp 0 rfl)
set_option maxRecDepth 100000 in
set_option maxHeartbeats 4000000 in
theorem reads_Nc (s : ByteArray) (n : Int) (h1 : -9223372036854775808 ≤ n) (h2 : n < 9223372036854775808) (x : Raw) (hx : x.ok) (hl : s.size ≤ 200) (hw : x.2.length ≤ 50) (he : -4611686018427387904 < n ∧ n ≤ 4611686018427387904) (hp : parseL (byt s) = none) : Spec Try.prog 10 [(VP.str s).p, (VP.int .i64 n).p, (VP.agg [VP.bool x.1, VP.nums .u32 x.2]).p] (VP.bool true) := by
  refine spec_of (xs := [VP.str s, VP.int .i64 n, VP.agg [VP.bool x.1, VP.nums .u32 x.2]]) 111 [5, 7, 9, 11] Try.func10 rfl Try.ntmps10 rfl fun w0 => ?_
  refine t_seq ?_
  refine t_region (F := ⟨_, _, _, _⟩) [.slot 0 (VP.str s), .slot 1 (VP.int .i64 n), .slot 2 (VP.agg [VP.bool x.1, VP.nums .u32 x.2])] [] [(0, .box 5 69 [VP.bool x.1, VP.nums .u32 x.2]), (1, .slot 6 (VP.bool false))] [] [0, 1, 2] [] rfl rfl follow rfl ⟨
    .inl ⟨wants_plain rfl, does_box _ rfl rfl rfl rfl rfl (ar_tmp (av_fs 2 rfl))⟩,
    .inl ⟨wants_plain rfl, does_move _ (.inr rfl) rfl rfl rfl rfl (ar_const (fun _ => rfl))⟩,
    trivial⟩ ?_
  refine nx_sub (fs' := [.slot 0 (VP.str s), .slot 1 (VP.int .i64 n), .box 5 69 [VP.bool x.1, VP.nums .u32 x.2], .slot 6 (VP.bool false)]) [0, 1, 3, 4] rfl ?_
  refine nx_then ?_
  refine t_seq ?_
  refine t_seq ?_
  refine t_region (F := ⟨_, _, _, _⟩) [.slot 0 (VP.str s), .slot 1 (VP.int .i64 n), .box 5 69 [VP.bool x.1, VP.nums .u32 x.2], .slot 6 (VP.bool false)] [] [(0, .slot 14 (VP.bool true)), (1, .slot 15 (VP.bool false))] [] [0, 1, 2, 3] [] rfl rfl follow rfl ⟨
    .inl ⟨wants_plain rfl, does_call sp1_spec rfl hb_collator_collatorlaw01_speaks rfl rfl rfl rfl trivial⟩,
    .inl ⟨wants_plain rfl, does_not true _ _ rfl rfl rfl rfl rfl (ar_tmp (av_rs 0 rfl rfl))⟩,
    trivial⟩ ?_
  refine nx_sub (fs' := [.slot 0 (VP.str s), .slot 1 (VP.int .i64 n), .box 5 69 [VP.bool x.1, VP.nums .u32 x.2], .slot 6 (VP.bool false), .slot 15 (VP.bool false)]) [0, 1, 2, 3, 5] rfl ?_
  refine nx_then ?_
  refine t_cond_f 4 rfl ?_
  refine t_skip ?_
  refine nx_then ?_
  refine t_seq ?_
  refine t_seq ?_
  refine t_region (F := ⟨_, _, _, _⟩) [.slot 0 (VP.str s), .slot 1 (VP.int .i64 n), .box 5 69 [VP.bool x.1, VP.nums .u32 x.2], .slot 6 (VP.bool false), .slot 15 (VP.bool false)] [] [(0, .slot 16 (VP.str s)), (1, .slot 17 (VP.int .i64 ((s.size : Nat) : Int))), (2, .slot 18 (VP.bool (decide (((s.size : Nat) : Int) > 200)))), (3, .slot 19 (VP.bool (decide (((s.size : Nat) : Int) > 200)))), (4, .fp 20 5 1), (5, .slot 21 (VP.nums .u32 x.2)), (6, .slot 22 (VP.int .i64 (((x.2).length : Nat) : Int))), (7, .slot 23 (VP.bool (decide ((((x.2).length : Nat) : Int) > 50)))), (8, .slot 24 (VP.bool (decide ((((x.2).length : Nat) : Int) > 50))))] [] [0, 1, 2, 3, 4] [] rfl rfl follow rfl ⟨
    .inl ⟨wants_plain rfl, does_move _ (.inl rfl) rfl rfl rfl rfl (ar_tmp (av_fs 0 rfl))⟩,
    .inl ⟨wants_plain rfl, does_lenStr _ _ Try.underlying9 rfl rfl rfl rfl rfl (ar_tmp (av_rs 0 rfl rfl))⟩,
    .inl ⟨wants_plain rfl, does_cmp (m := ((s.size : Nat) : Int)) (n := 200) _ _ _ _ _ rfl rfl rfl rfl rfl rfl .i64 (ar_tmp (av_rs 1 rfl rfl)) (ar_const (fun _ => rfl))⟩,
    .inl ⟨wants_plain rfl, does_move _ (.inl rfl) rfl rfl rfl rfl (ar_tmp (av_rs 2 rfl rfl))⟩,
    .inl ⟨wants_guard false rfl rfl rfl (av_bool (decide_eq_false (by omega)) (av_rs 3 rfl rfl)), does_field _ _ _ 1 ty_f1_api_Int rfl rfl rfl rfl rfl rfl rfl (pt_box (av_fs 2 rfl))⟩,
    .inl ⟨wants_guard false rfl rfl rfl (av_bool (decide_eq_false (by omega)) (av_rs 3 rfl rfl)), does_loadOne _ ty_one___uint32 rfl rfl rfl rfl rfl rfl (pt_fp (av_rs 4 rfl rfl)) (av_fs 2 rfl)⟩,
    .inl ⟨wants_guard false rfl rfl rfl (av_bool (decide_eq_false (by omega)) (av_rs 3 rfl rfl)), does_len _ _ (by kernel_rfl) rfl rfl rfl rfl rfl (ar_tmp (av_rs 5 rfl rfl))⟩,
    .inl ⟨wants_guard false rfl rfl rfl (av_bool (decide_eq_false (by omega)) (av_rs 3 rfl rfl)), does_cmp (m := (((x.2).length : Nat) : Int)) (n := 50) _ _ _ _ _ rfl rfl rfl rfl rfl rfl .i64 (ar_tmp (av_rs 6 rfl rfl)) (ar_const (fun _ => rfl))⟩,
    .inl ⟨wants_plain rfl, does_pick false _ _ _ rfl rfl rfl rfl rfl (ar_tmp (av_bool (decide_eq_false (by omega)) (av_rs 3 rfl rfl))) (ar_tmp (av_rs 7 rfl rfl))⟩,
    trivial⟩ ?_
  refine nx_sub (fs' := [.slot 0 (VP.str s), .slot 1 (VP.int .i64 n), .box 5 69 [VP.bool x.1, VP.nums .u32 x.2], .slot 6 (VP.bool false), .slot 24 (VP.bool (decide ((((x.2).length : Nat) : Int) > 50)))]) [0, 1, 2, 3, 13] rfl ?_
  refine nx_then ?_
  refine t_cond_fe 4 rfl (decide_eq_false (by omega)) ?_
  refine t_skip ?_
  refine nx_then ?_
  refine t_seq ?_
  refine t_region (F := ⟨_, _, _, _⟩) [.slot 0 (VP.str s), .slot 1 (VP.int .i64 n), .box 5 69 [VP.bool x.1, VP.nums .u32 x.2], .slot 6 (VP.bool false), .slot 24 (VP.bool (decide ((((x.2).length : Nat) : Int) > 50)))] [] [(0, .slot 26 (VP.str s)), (1, .slot 27 (VP.tup [INT 0, VP.bool false])), (2, .slot 25 (VP.tup [INT 0, VP.bool false])), (3, .slot 28 (INT 0)), (4, .slot 29 (VP.bool false)), (5, .own 7 69 2), (6, .box 7 69 [Bz 0, Dz 0]), (7, .slot 8 (VP.bool false))] [] [0, 1, 2, 3, 4] [] rfl rfl follow rfl ⟨
    .inl ⟨wants_plain rfl, does_move _ (.inl rfl) rfl rfl rfl rfl (ar_tmp (av_fs 0 rfl))⟩,
    .inl ⟨wants_plain rfl, does_call (s_parse_none s (by omega) hp) rfl hb_collator_whole_Parse rfl rfl rfl rfl ⟨(ar_tmp (av_rs 0 rfl rfl)), trivial⟩⟩,
    .inl ⟨wants_plain rfl, does_move _ (.inl rfl) rfl rfl rfl rfl (ar_tmp (av_rs 1 rfl rfl))⟩,
    .inl ⟨wants_plain rfl, does_extract (ps := [INT 0, VP.bool false]) _ _ rfl rfl rfl rfl rfl (ar_tmp (av_rs 2 rfl rfl)) rfl⟩,
    .inl ⟨wants_plain rfl, does_extract (ps := [INT 0, VP.bool false]) _ _ rfl rfl rfl rfl rfl (ar_tmp (av_rs 2 rfl rfl)) rfl⟩,
    .inl ⟨wants_plain rfl, does_allocOwn [Bz 0, Dz 0] ty_zero_api_Int rfl rfl rfl rfl rfl z_int rfl⟩,
    .inl ⟨wants_plain rfl, does_storeNew 2 _ _ ty_agg_api_Int rfl rfl rfl rfl rfl (pt_own (av_rs 5 rfl rfl)) (av_rs 5 rfl rfl) (ar_tmp (av_rs 3 rfl rfl))⟩,
    .inl ⟨wants_plain rfl, does_move _ (.inr rfl) rfl rfl rfl rfl (ar_tmp (av_rs 4 rfl rfl))⟩,
    trivial⟩ ?_
  refine nx_sub (fs' := [.slot 0 (VP.str s), .slot 1 (VP.int .i64 n), .box 5 69 [VP.bool x.1, VP.nums .u32 x.2], .slot 6 (VP.bool false), .box 7 69 [Bz 0, Dz 0], .slot 8 (VP.bool false)]) [0, 1, 2, 3, 11, 12] rfl ?_
  refine nx_then ?_
  refine t_seq ?_
  refine t_region (F := ⟨_, _, _, _⟩) [.slot 0 (VP.str s), .slot 1 (VP.int .i64 n), .box 5 69 [VP.bool x.1, VP.nums .u32 x.2], .slot 6 (VP.bool false), .box 7 69 [Bz 0, Dz 0], .slot 8 (VP.bool false)] [] [(0, .slot 31 (VP.str s)), (1, .slot 32 (VP.tup [VP.agg [VP.boolish, VP.slish], VP.bool false])), (2, .slot 30 (VP.tup [VP.agg [VP.boolish, VP.slish], VP.bool false])), (3, .slot 33 (VP.agg [VP.boolish, VP.slish])), (4, .slot 34 (VP.bool false)), (5, .own 9 72 2), (6, .box 9 72 [VP.boolish, VP.slish]), (7, .slot 10 (VP.bool false))] [] [0, 1, 2, 3, 4, 5] [] rfl rfl follow rfl ⟨
    .inl ⟨wants_plain rfl, does_move _ (.inl rfl) rfl rfl rfl rfl (ar_tmp (av_fs 0 rfl))⟩,
    .inl ⟨wants_plain rfl, does_call (r_parse_none s (by omega) hp) rfl hb_collator_collatorref01_Parse rfl rfl rfl rfl ⟨(ar_tmp (av_rs 0 rfl rfl)), trivial⟩⟩,
    .inl ⟨wants_plain rfl, does_move _ (.inl rfl) rfl rfl rfl rfl (ar_tmp (av_rs 1 rfl rfl))⟩,
    .inl ⟨wants_plain rfl, does_extract (ps := [VP.agg [VP.boolish, VP.slish], VP.bool false]) _ _ rfl rfl rfl rfl rfl (ar_tmp (av_rs 2 rfl rfl)) rfl⟩,
    .inl ⟨wants_plain rfl, does_extract (ps := [VP.agg [VP.boolish, VP.slish], VP.bool false]) _ _ rfl rfl rfl rfl rfl (ar_tmp (av_rs 2 rfl rfl)) rfl⟩,
    .inl ⟨wants_plain rfl, does_allocOwn [Bz 0, Tz 0] ty_zero_collatorref01_Num rfl rfl rfl rfl rfl z_num rfl⟩,
    .inl ⟨wants_plain rfl, does_storeNew 2 _ _ ty_agg_collatorref01_Num rfl rfl rfl rfl rfl (pt_own (av_rs 5 rfl rfl)) (av_rs 5 rfl rfl) (ar_tmp (av_rs 3 rfl rfl))⟩,
    .inl ⟨wants_plain rfl, does_move _ (.inr rfl) rfl rfl rfl rfl (ar_tmp (av_rs 4 rfl rfl))⟩,
    trivial⟩ ?_
  refine nx_sub (fs' := [.slot 1 (VP.int .i64 n), .box 5 69 [VP.bool x.1, VP.nums .u32 x.2], .slot 6 (VP.bool false), .box 7 69 [Bz 0, Dz 0], .slot 8 (VP.bool false), .box 9 72 [VP.boolish, VP.slish], .slot 10 (VP.bool false)]) [1, 2, 3, 4, 5, 12, 13] rfl ?_
  refine nx_then ?_
  refine t_seq ?_
  refine t_seq ?_
  refine t_region (F := ⟨_, _, _, _⟩) [.slot 1 (VP.int .i64 n), .box 5 69 [VP.bool x.1, VP.nums .u32 x.2], .slot 6 (VP.bool false), .box 7 69 [Bz 0, Dz 0], .slot 8 (VP.bool false), .box 9 72 [VP.boolish, VP.slish], .slot 10 (VP.bool false)] [] [(0, .slot 35 (VP.bool false)), (1, .slot 36 (VP.bool false)), (2, .slot 37 (VP.bool false)), (3, .slot 38 (VP.bool false)), (4, .slot 39 (VP.bool false)), (5, .slot 40 (VP.bool false)), (6, .slot 41 (VP.undef)), (7, .slot 42 (VP.undef)), (8, .slot 43 (VP.undef)), (9, .slot 44 (VP.undef)), (10, .slot 45 (VP.undef)), (11, .slot 46 (VP.bool false)), (12, .slot 47 (VP.bool false)), (13, .slot 48 (VP.bool false)), (14, .slot 49 (VP.bool false)), (15, .slot 50 (VP.bool true)), (16, .slot 51 (VP.bool true)), (17, .slot 52 (INT 0)), (18, .slot 53 (INT 0)), (19, .slot 54 (VP.bool true)), (20, .slot 55 (VP.bool false)), (21, .slot 56 (VP.bool false)), (22, .slot 57 (VP.bool false)), (23, .slot 58 (VP.bool false)), (24, .slot 59 (VP.agg [VP.bool x.1, VP.nums .u32 x.2])), (25, .slot 60 (VP.bool (rightB x.1 x.2))), (26, .slot 61 (VP.agg [VP.bool x.1, VP.nums .u32 x.2])), (27, .slot 62 (VP.bool (rightB x.1 x.2))), (28, .slot 63 (VP.bool (!((rightB x.1 x.2) == (rightB x.1 x.2))))), (29, .slot 64 (VP.bool (!((rightB x.1 x.2) == (rightB x.1 x.2)))))] [] [0, 1, 2, 3, 4, 5, 6] [] rfl rfl follow rfl ⟨
    .inl ⟨wants_plain rfl, does_move _ (.inl rfl) rfl rfl rfl rfl (ar_tmp (av_fs 4 rfl))⟩,
    .inl ⟨wants_plain rfl, does_move _ (.inl rfl) rfl rfl rfl rfl (ar_tmp (av_fs 6 rfl))⟩,
    .inl ⟨wants_plain rfl, does_eqBool (u := false) (v := false) _ _ _ _ _ (by kernel_rfl) rfl rfl rfl rfl rfl rfl (ar_tmp (av_rs 0 rfl rfl)) (ar_tmp (av_rs 1 rfl rfl))⟩,
    .inl ⟨wants_plain rfl, does_move _ (.inl rfl) rfl rfl rfl rfl (ar_tmp (av_rs 2 rfl rfl))⟩,
    .inl ⟨wants_guard false rfl rfl rfl (av_rs 3 rfl rfl), does_move _ (.inl rfl) rfl rfl rfl rfl (ar_tmp (av_fs 4 rfl))⟩,
    .inl ⟨wants_guard false rfl rfl rfl (av_rs 3 rfl rfl), does_move _ (.inl rfl) rfl rfl rfl rfl (ar_tmp (av_rs 4 rfl rfl))⟩,
    .inr (skips_guardU false rfl rfl rfl (av_rs 5 rfl rfl) rfl rfl rfl rfl),
    .inr (skips_guardU false rfl rfl rfl (av_rs 5 rfl rfl) rfl rfl rfl rfl),
    .inr (skips_guardU false rfl rfl rfl (av_rs 5 rfl rfl) rfl rfl rfl rfl),
    .inr (skips_guardU false rfl rfl rfl (av_rs 5 rfl rfl) rfl rfl rfl rfl),
    .inr (skips_guardU false rfl rfl rfl (av_rs 5 rfl rfl) rfl rfl rfl rfl),
    .inl ⟨wants_guard false rfl rfl rfl (av_rs 3 rfl rfl), does_pick false _ _ _ rfl rfl rfl rfl rfl (ar_tmp (av_rs 5 rfl rfl)) (ar_const (fun _ => rfl))⟩,
    .inl ⟨wants_plain rfl, does_pick false _ _ _ rfl rfl rfl rfl rfl (ar_tmp (av_rs 3 rfl rfl)) (ar_tmp (av_rs 11 rfl rfl))⟩,
    .inl ⟨wants_plain rfl, does_move _ (.inl rfl) rfl rfl rfl rfl (ar_tmp (av_rs 12 rfl rfl))⟩,
    .inl ⟨wants_guard false rfl rfl rfl (av_rs 13 rfl rfl), does_move _ (.inl rfl) rfl rfl rfl rfl (ar_tmp (av_fs 4 rfl))⟩,
    .inl ⟨wants_guard false rfl rfl rfl (av_rs 13 rfl rfl), does_not false _ _ rfl rfl rfl rfl rfl (ar_tmp (av_rs 14 rfl rfl))⟩,
    .inl ⟨wants_guard false rfl rfl rfl (av_rs 13 rfl rfl), does_move _ (.inl rfl) rfl rfl rfl rfl (ar_tmp (av_rs 15 rfl rfl))⟩,
    .inl ⟨wants_guard true rfl rfl rfl (av_rs 16 rfl rfl), does_loadAgg _ ty_agg_api_Int rfl rfl rfl rfl rfl rfl (pt_box (av_fs 3 rfl)) (av_fs 3 rfl)⟩,
    .inl ⟨wants_guard true rfl rfl rfl (av_rs 16 rfl rfl), does_build [Bz 0, Dz 0] ty_zero_api_Int ty_pl_api_Int rfl rfl rfl rfl rfl z_int (.nil _)⟩,
    .inl ⟨wants_guard true rfl rfl rfl (av_rs 16 rfl rfl), does_call (r_same1 0 (lle lzero (by decide))) rfl hb_collator_collatorref01_Same rfl rfl rfl rfl ⟨(ar_tmp (av_rs 17 rfl rfl)), (ar_tmp (av_rs 18 rfl rfl)), trivial⟩⟩,
    .inl ⟨wants_guard true rfl rfl rfl (av_rs 16 rfl rfl), does_not true _ _ rfl rfl rfl rfl rfl (ar_tmp (av_rs 19 rfl rfl))⟩,
    .inl ⟨wants_guard false rfl rfl rfl (av_rs 13 rfl rfl), does_pick true _ _ _ rfl rfl rfl rfl rfl (ar_tmp (av_rs 16 rfl rfl)) (ar_tmp (av_rs 20 rfl rfl))⟩,
    .inl ⟨wants_plain rfl, does_pick false _ _ _ rfl rfl rfl rfl rfl (ar_tmp (av_rs 13 rfl rfl)) (ar_tmp (av_rs 21 rfl rfl))⟩,
    .inl ⟨wants_plain rfl, does_move _ (.inl rfl) rfl rfl rfl rfl (ar_tmp (av_rs 22 rfl rfl))⟩,
    .inl ⟨wants_guard false rfl rfl rfl (av_rs 23 rfl rfl), does_loadAgg _ ty_agg_api_Int rfl rfl rfl rfl rfl rfl (pt_box (av_fs 1 rfl)) (av_fs 1 rfl)⟩,
    .inl ⟨wants_guard false rfl rfl rfl (av_rs 23 rfl rfl), does_call (s_right x (by omega)) rfl hb_collator_whole_Right rfl rfl rfl rfl ⟨(ar_tmp (av_rs 24 rfl rfl)), trivial⟩⟩,
    .inl ⟨wants_guard false rfl rfl rfl (av_rs 23 rfl rfl), does_loadAgg _ ty_agg_api_Int rfl rfl rfl rfl rfl rfl (pt_box (av_fs 1 rfl)) (av_fs 1 rfl)⟩,
    .inl ⟨wants_guard false rfl rfl rfl (av_rs 23 rfl rfl), does_call (r_rightW x hx (by omega)) rfl hb_collator_collatorref01_Right rfl rfl rfl rfl ⟨(ar_tmp (av_rs 26 rfl rfl)), trivial⟩⟩,
    .inl ⟨wants_guard false rfl rfl rfl (av_rs 23 rfl rfl), does_eqBool (u := (rightB x.1 x.2)) (v := (rightB x.1 x.2)) _ _ _ _ _ (by kernel_rfl) rfl rfl rfl rfl rfl rfl (ar_tmp (av_rs 25 rfl rfl)) (ar_tmp (av_rs 27 rfl rfl))⟩,
    .inl ⟨wants_plain rfl, does_pick false _ _ _ rfl rfl rfl rfl rfl (ar_tmp (av_rs 23 rfl rfl)) (ar_tmp (av_rs 28 rfl rfl))⟩,
    trivial⟩ ?_
  refine nx_sub (fs' := [.slot 1 (VP.int .i64 n), .slot 6 (VP.bool false), .slot 64 (VP.bool (!((rightB x.1 x.2) == (rightB x.1 x.2))))]) [0, 2, 36] rfl ?_
  refine nx_then ?_
  refine t_cond_fe 2 rfl (by rw [beq_self_eq_true]; rfl) ?_
  refine t_skip ?_
  refine nx_then ?_
  refine t_seq ?_
  refine t_region (F := ⟨_, _, _, _⟩) [.slot 1 (VP.int .i64 n), .slot 6 (VP.bool false), .slot 64 (VP.bool (!((rightB x.1 x.2) == (rightB x.1 x.2))))] [] [(0, .slot 65 (VP.int .i64 n)), (1, .slot 66 (INT n)), (2, .own 11 69 2), (3, .box 11 69 [Bz n, Dz n])] [] [0, 1, 2] [] rfl rfl follow rfl ⟨
    .inl ⟨wants_plain rfl, does_move _ (.inl rfl) rfl rfl rfl rfl (ar_tmp (av_fs 0 rfl))⟩,
    .inl ⟨wants_plain rfl, does_call (s_of n h1 h2) rfl hb_collator_whole_Of rfl rfl rfl rfl ⟨(ar_tmp (av_rs 0 rfl rfl)), trivial⟩⟩,
    .inl ⟨wants_plain rfl, does_allocOwn [Bz 0, Dz 0] ty_zero_api_Int rfl rfl rfl rfl rfl z_int rfl⟩,
    .inl ⟨wants_plain rfl, does_storeNew 2 _ _ ty_agg_api_Int rfl rfl rfl rfl rfl (pt_own (av_rs 2 rfl rfl)) (av_rs 2 rfl rfl) (ar_tmp (av_rs 1 rfl rfl))⟩,
    trivial⟩ ?_
  refine nx_sub (fs' := [.slot 1 (VP.int .i64 n), .slot 6 (VP.bool false), .box 11 69 [Bz n, Dz n]]) [0, 1, 6] rfl ?_
  refine nx_then ?_
  refine t_seq ?_
  refine t_seq ?_
  refine t_region (F := ⟨_, _, _, _⟩) [.slot 1 (VP.int .i64 n), .slot 6 (VP.bool false), .box 11 69 [Bz n, Dz n]] [] [(0, .slot 67 (INT n)), (1, .slot 68 (VP.bool true)), (2, .slot 69 (VP.bool false)), (3, .slot 70 (VP.bool false)), (4, .slot 71 (VP.int .i64 n)), (5, .slot 72 (VP.bool (decide (n > (-4611686018427387904))))), (6, .slot 73 (VP.bool (decide (n > (-4611686018427387904))))), (7, .slot 74 (INT n)), (8, .slot 75 (VP.int .i64 n)), (9, .slot 76 (NUM n)), (10, .slot 77 (INT n)), (11, .slot 78 (VP.bool true)), (12, .slot 79 (VP.bool false)), (13, .slot 80 (VP.bool false)), (14, .slot 81 (VP.bool false))] [] [0, 1, 2] [] rfl rfl follow rfl ⟨
    .inl ⟨wants_plain rfl, does_loadAgg _ ty_agg_api_Int rfl rfl rfl rfl rfl rfl (pt_box (av_fs 2 rfl)) (av_fs 2 rfl)⟩,
    .inl ⟨wants_plain rfl, does_call (r_rightZ n (lle (of_len h1 h2) (by decide))) rfl hb_collator_collatorref01_Right rfl rfl rfl rfl ⟨(ar_tmp (av_rs 0 rfl rfl)), trivial⟩⟩,
    .inl ⟨wants_plain rfl, does_not true _ _ rfl rfl rfl rfl rfl (ar_tmp (av_rs 1 rfl rfl))⟩,
    .inl ⟨wants_plain rfl, does_move _ (.inl rfl) rfl rfl rfl rfl (ar_tmp (av_rs 2 rfl rfl))⟩,
    .inl ⟨wants_guard false rfl rfl rfl (av_rs 3 rfl rfl), does_move _ (.inl rfl) rfl rfl rfl rfl (ar_tmp (av_fs 0 rfl))⟩,
    .inl ⟨wants_guard false rfl rfl rfl (av_rs 3 rfl rfl), does_cmp (m := n) (n := (-4611686018427387904)) _ _ _ _ _ rfl rfl rfl rfl rfl rfl .i64 (ar_tmp (av_rs 4 rfl rfl)) (ar_const (fun _ => rfl))⟩,
    .inl ⟨wants_guard false rfl rfl rfl (av_rs 3 rfl rfl), does_move _ (.inl rfl) rfl rfl rfl rfl (ar_tmp (av_rs 5 rfl rfl))⟩,
    .inl ⟨wants_guard true rfl rfl rfl (av_bool (decide_eq_true (by omega)) (av_rs 6 rfl rfl)), does_loadAgg _ ty_agg_api_Int rfl rfl rfl rfl rfl rfl (pt_box (av_fs 2 rfl)) (av_fs 2 rfl)⟩,
    .inl ⟨wants_guard true rfl rfl rfl (av_bool (decide_eq_true (by omega)) (av_rs 6 rfl rfl)), does_move _ (.inl rfl) rfl rfl rfl rfl (ar_tmp (av_fs 0 rfl))⟩,
    .inl ⟨wants_guard true rfl rfl rfl (av_bool (decide_eq_true (by omega)) (av_rs 6 rfl rfl)), does_call (r_int n (by omega) (by omega)) rfl hb_collator_collatorref01_Int rfl rfl rfl rfl ⟨(ar_tmp (av_rs 8 rfl rfl)), trivial⟩⟩,
    .inl ⟨wants_guard true rfl rfl rfl (av_bool (decide_eq_true (by omega)) (av_rs 6 rfl rfl)), does_call (r_form n (n10 (of_len h1 h2) (by decide))) rfl hb_collator_collatorref01_Form rfl rfl rfl rfl ⟨(ar_tmp (av_rs 9 rfl rfl)), trivial⟩⟩,
    .inl ⟨wants_guard true rfl rfl rfl (av_bool (decide_eq_true (by omega)) (av_rs 6 rfl rfl)), does_call (r_same1 n (lle (of_len h1 h2) (by decide))) rfl hb_collator_collatorref01_Same rfl rfl rfl rfl ⟨(ar_tmp (av_rs 7 rfl rfl)), (ar_tmp (av_rs 10 rfl rfl)), trivial⟩⟩,
    .inl ⟨wants_guard true rfl rfl rfl (av_bool (decide_eq_true (by omega)) (av_rs 6 rfl rfl)), does_not true _ _ rfl rfl rfl rfl rfl (ar_tmp (av_rs 11 rfl rfl))⟩,
    .inl ⟨wants_guard false rfl rfl rfl (av_rs 3 rfl rfl), does_pick true _ _ _ rfl rfl rfl rfl rfl (ar_tmp (av_bool (decide_eq_true (by omega)) (av_rs 6 rfl rfl))) (ar_tmp (av_rs 12 rfl rfl))⟩,
    .inl ⟨wants_plain rfl, does_pick false _ _ _ rfl rfl rfl rfl rfl (ar_tmp (av_rs 3 rfl rfl)) (ar_tmp (av_rs 13 rfl rfl))⟩,
    trivial⟩ ?_
  refine nx_sub (fs' := [.slot 1 (VP.int .i64 n), .slot 6 (VP.bool false), .box 11 69 [Bz n, Dz n], .slot 81 (VP.bool false)]) [0, 1, 2, 17] rfl ?_
  refine nx_then ?_
  refine t_cond_f 3 rfl ?_
  refine t_skip ?_
  refine nx_then ?_
  refine t_seq ?_
  refine t_region (F := ⟨_, _, _, _⟩) [.slot 1 (VP.int .i64 n), .slot 6 (VP.bool false), .box 11 69 [Bz n, Dz n], .slot 81 (VP.bool false)] [] [(0, .slot 83 (INT n)), (1, .slot 84 (VP.tup [VP.int .i64 n, VP.bool true])), (2, .slot 82 (VP.tup [VP.int .i64 n, VP.bool true])), (3, .slot 85 (VP.int .i64 n)), (4, .slot 86 (VP.bool true)), (5, .slot 12 (VP.int .i64 n)), (6, .slot 13 (VP.bool true))] [] [0, 1, 2, 3] [] rfl rfl follow rfl ⟨
    .inl ⟨wants_plain rfl, does_loadAgg _ ty_agg_api_Int rfl rfl rfl rfl rfl rfl (pt_box (av_fs 2 rfl)) (av_fs 2 rfl)⟩,
    .inl ⟨wants_plain rfl, does_call (s_smallT n (lle (of_len h1 h2) (by decide)) (decide_eq_true (by omega))) rfl hb_collator_whole_Small rfl rfl rfl rfl ⟨(ar_tmp (av_rs 0 rfl rfl)), trivial⟩⟩,
    .inl ⟨wants_plain rfl, does_move _ (.inl rfl) rfl rfl rfl rfl (ar_tmp (av_rs 1 rfl rfl))⟩,
    .inl ⟨wants_plain rfl, does_extract (ps := [VP.int .i64 n, VP.bool true]) _ _ rfl rfl rfl rfl rfl (ar_tmp (av_rs 2 rfl rfl)) rfl⟩,
    .inl ⟨wants_plain rfl, does_extract (ps := [VP.int .i64 n, VP.bool true]) _ _ rfl rfl rfl rfl rfl (ar_tmp (av_rs 2 rfl rfl)) rfl⟩,
    .inl ⟨wants_plain rfl, does_move _ (.inr rfl) rfl rfl rfl rfl (ar_tmp (av_rs 3 rfl rfl))⟩,
    .inl ⟨wants_plain rfl, does_move _ (.inr rfl) rfl rfl rfl rfl (ar_tmp (av_rs 4 rfl rfl))⟩,
    trivial⟩ ?_
  refine nx_sub (fs' := [.slot 1 (VP.int .i64 n), .slot 6 (VP.bool false), .slot 12 (VP.int .i64 n), .slot 13 (VP.bool true)]) [0, 1, 9, 10] rfl ?_
  refine nx_then ?_
  refine t_seq ?_
  refine t_region (F := ⟨_, _, _, _⟩) [.slot 1 (VP.int .i64 n), .slot 12 (VP.int .i64 n), .slot 13 (VP.bool true)] [(24, .slot 6 (VP.bool false))] [(0, .slot 87 (VP.bool true)), (1, .slot 88 (VP.int .i64 n)), (2, .slot 89 (VP.bool (decide (n ≥ (-4611686018427387904))))), (3, .slot 90 (VP.bool (decide (n ≥ (-4611686018427387904))))), (4, .slot 91 (VP.int .i64 n)), (5, .slot 92 (VP.bool (decide (n ≤ 4611686018427387904)))), (6, .slot 93 (VP.bool (decide (n ≤ 4611686018427387904)))), (7, .slot 94 (VP.bool true)), (8, .slot 95 (VP.bool true)), (9, .slot 96 (VP.bool true)), (10, .slot 97 (VP.bool false)), (11, .slot 98 (VP.bool false)), (12, .slot 99 (VP.undef)), (13, .slot 100 (VP.undef)), (14, .slot 101 (VP.bool false)), (15, .slot 102 (VP.bool false)), (16, .slot 103 (VP.bool true)), (17, .slot 104 (VP.bool true)), (18, .slot 105 (VP.int .i64 n)), (19, .slot 106 (VP.int .i64 n)), (20, .slot 107 (VP.bool (n == n))), (21, .slot 108 (VP.bool (n == n))), (22, .slot 109 (VP.bool (n == n))), (23, .slot 110 (VP.bool (n == n))), (24, .slot 6 (VP.bool (n == n)))] [] [0, 2, 3] [1] rfl rfl follow rfl ⟨
    .inl ⟨wants_plain rfl, does_move _ (.inl rfl) rfl rfl rfl rfl (ar_tmp (av_fs 2 rfl))⟩,
    .inl ⟨wants_plain rfl, does_move _ (.inl rfl) rfl rfl rfl rfl (ar_tmp (av_fs 0 rfl))⟩,
    .inl ⟨wants_plain rfl, does_cmp (m := n) (n := (-4611686018427387904)) _ _ _ _ _ rfl rfl rfl rfl rfl rfl .i64 (ar_tmp (av_rs 1 rfl rfl)) (ar_const (fun _ => rfl))⟩,
    .inl ⟨wants_plain rfl, does_move _ (.inl rfl) rfl rfl rfl rfl (ar_tmp (av_rs 2 rfl rfl))⟩,
    .inl ⟨wants_guard true rfl rfl rfl (av_bool (decide_eq_true (by omega)) (av_rs 3 rfl rfl)), does_move _ (.inl rfl) rfl rfl rfl rfl (ar_tmp (av_fs 0 rfl))⟩,
    .inl ⟨wants_guard true rfl rfl rfl (av_bool (decide_eq_true (by omega)) (av_rs 3 rfl rfl)), does_cmp (m := n) (n := 4611686018427387904) _ _ _ _ _ rfl rfl rfl rfl rfl rfl .i64 (ar_tmp (av_rs 4 rfl rfl)) (ar_const (fun _ => rfl))⟩,
    .inl ⟨wants_plain rfl, does_pick true _ _ _ rfl rfl rfl rfl rfl (ar_tmp (av_bool (decide_eq_true (by omega)) (av_rs 3 rfl rfl))) (ar_tmp (av_rs 5 rfl rfl))⟩,
    .inl ⟨wants_plain rfl, does_eqBool (u := true) (v := true) _ _ _ _ _ (by kernel_rfl) rfl rfl rfl rfl rfl rfl (ar_tmp (av_rs 0 rfl rfl)) (ar_tmp (av_bool (decide_eq_true (by omega)) (av_rs 6 rfl rfl)))⟩,
    .inl ⟨wants_plain rfl, does_move _ (.inl rfl) rfl rfl rfl rfl (ar_tmp (av_rs 7 rfl rfl))⟩,
    .inl ⟨wants_guard true rfl rfl rfl (av_rs 8 rfl rfl), does_move _ (.inl rfl) rfl rfl rfl rfl (ar_tmp (av_fs 2 rfl))⟩,
    .inl ⟨wants_guard true rfl rfl rfl (av_rs 8 rfl rfl), does_not true _ _ rfl rfl rfl rfl rfl (ar_tmp (av_rs 9 rfl rfl))⟩,
    .inl ⟨wants_guard true rfl rfl rfl (av_rs 8 rfl rfl), does_move _ (.inl rfl) rfl rfl rfl rfl (ar_tmp (av_rs 10 rfl rfl))⟩,
    .inr (skips_guardU false rfl rfl rfl (av_rs 11 rfl rfl) rfl rfl rfl rfl),
    .inr (skips_guardU false rfl rfl rfl (av_rs 11 rfl rfl) rfl rfl rfl rfl),
    .inl ⟨wants_guard true rfl rfl rfl (av_rs 8 rfl rfl), does_pick false _ _ _ rfl rfl rfl rfl rfl (ar_tmp (av_rs 11 rfl rfl)) (ar_const (fun _ => rfl))⟩,
    .inl ⟨wants_guard true rfl rfl rfl (av_rs 8 rfl rfl), does_move _ (.inl rfl) rfl rfl rfl rfl (ar_tmp (av_rs 14 rfl rfl))⟩,
    .inl ⟨wants_guard false rfl rfl rfl (av_rs 15 rfl rfl), does_move _ (.inl rfl) rfl rfl rfl rfl (ar_tmp (av_fs 2 rfl))⟩,
    .inl ⟨wants_guard false rfl rfl rfl (av_rs 15 rfl rfl), does_move _ (.inl rfl) rfl rfl rfl rfl (ar_tmp (av_rs 16 rfl rfl))⟩,
    .inl ⟨wants_guard true rfl rfl rfl (av_rs 17 rfl rfl), does_move _ (.inl rfl) rfl rfl rfl rfl (ar_tmp (av_fs 1 rfl))⟩,
    .inl ⟨wants_guard true rfl rfl rfl (av_rs 17 rfl rfl), does_move _ (.inl rfl) rfl rfl rfl rfl (ar_tmp (av_fs 0 rfl))⟩,
    .inl ⟨wants_guard true rfl rfl rfl (av_rs 17 rfl rfl), does_cmp (m := n) (n := n) _ _ _ _ _ rfl rfl rfl rfl rfl rfl .i64 (ar_tmp (av_rs 18 rfl rfl)) (ar_tmp (av_rs 19 rfl rfl))⟩,
    .inl ⟨wants_guard false rfl rfl rfl (av_rs 15 rfl rfl), does_pick true _ _ _ rfl rfl rfl rfl rfl (ar_tmp (av_rs 17 rfl rfl)) (ar_tmp (av_rs 20 rfl rfl))⟩,
    .inl ⟨wants_guard true rfl rfl rfl (av_rs 8 rfl rfl), does_pick false _ _ _ rfl rfl rfl rfl rfl (ar_tmp (av_rs 15 rfl rfl)) (ar_tmp (av_rs 21 rfl rfl))⟩,
    .inl ⟨wants_plain rfl, does_pick true _ _ _ rfl rfl rfl rfl rfl (ar_tmp (av_rs 8 rfl rfl)) (ar_tmp (av_rs 22 rfl rfl))⟩,
    .inl ⟨wants_plain rfl, does_move _ (.inr rfl) rfl rfl rfl rfl (ar_tmp (av_rs 23 rfl rfl))⟩,
    trivial⟩ ?_
  refine nx_sub (fs' := [.slot 6 (VP.bool (n == n))]) [27] rfl ?_
  refine nx_then ?_
  refine t_ret ?_
  exact rt_one rfl (res_tmpb 0 rfl (beq_self_eq_true _))
set_option maxRecDepth 100000 in
set_option maxHeartbeats 4000000 in
theorem reads_Nd (s : ByteArray) (n : Int) (h1 : -9223372036854775808 ≤ n) (h2 : n < 9223372036854775808) (x : Raw) (hx : x.ok) (hl : s.size ≤ 200) (hw : x.2.length ≤ 50) (he : 4611686018427387904 < n) (hp : parseL (byt s) = none) : Spec Try.prog 10 [(VP.str s).p, (VP.int .i64 n).p, (VP.agg [VP.bool x.1, VP.nums .u32 x.2]).p] (VP.bool true) := by
  refine spec_of (xs := [VP.str s, VP.int .i64 n, VP.agg [VP.bool x.1, VP.nums .u32 x.2]]) 111 [5, 7, 9, 11] Try.func10 rfl Try.ntmps10 rfl fun w0 => ?_
  refine t_seq ?_
  refine t_region (F := ⟨_, _, _, _⟩) [.slot 0 (VP.str s), .slot 1 (VP.int .i64 n), .slot 2 (VP.agg [VP.bool x.1, VP.nums .u32 x.2])] [] [(0, .box 5 69 [VP.bool x.1, VP.nums .u32 x.2]), (1, .slot 6 (VP.bool false))] [] [0, 1, 2] [] rfl rfl follow rfl ⟨
    .inl ⟨wants_plain rfl, does_box _ rfl rfl rfl rfl rfl (ar_tmp (av_fs 2 rfl))⟩,
    .inl ⟨wants_plain rfl, does_move _ (.inr rfl) rfl rfl rfl rfl (ar_const (fun _ => rfl))⟩,
    trivial⟩ ?_
  refine nx_sub (fs' := [.slot 0 (VP.str s), .slot 1 (VP.int .i64 n), .box 5 69 [VP.bool x.1, VP.nums .u32 x.2], .slot 6 (VP.bool false)]) [0, 1, 3, 4] rfl ?_
  refine nx_then ?_
  refine t_seq ?_
  refine t_seq ?_
  refine t_region (F := ⟨_, _, _, _⟩) [.slot 0 (VP.str s), .slot 1 (VP.int .i64 n), .box 5 69 [VP.bool x.1, VP.nums .u32 x.2], .slot 6 (VP.bool false)] [] [(0, .slot 14 (VP.bool true)), (1, .slot 15 (VP.bool false))] [] [0, 1, 2, 3] [] rfl rfl follow rfl ⟨
    .inl ⟨wants_plain rfl, does_call sp1_spec rfl hb_collator_collatorlaw01_speaks rfl rfl rfl rfl trivial⟩,
    .inl ⟨wants_plain rfl, does_not true _ _ rfl rfl rfl rfl rfl (ar_tmp (av_rs 0 rfl rfl))⟩,
    trivial⟩ ?_
  refine nx_sub (fs' := [.slot 0 (VP.str s), .slot 1 (VP.int .i64 n), .box 5 69 [VP.bool x.1, VP.nums .u32 x.2], .slot 6 (VP.bool false), .slot 15 (VP.bool false)]) [0, 1, 2, 3, 5] rfl ?_
  refine nx_then ?_
  refine t_cond_f 4 rfl ?_
  refine t_skip ?_
  refine nx_then ?_
  refine t_seq ?_
  refine t_seq ?_
  refine t_region (F := ⟨_, _, _, _⟩) [.slot 0 (VP.str s), .slot 1 (VP.int .i64 n), .box 5 69 [VP.bool x.1, VP.nums .u32 x.2], .slot 6 (VP.bool false), .slot 15 (VP.bool false)] [] [(0, .slot 16 (VP.str s)), (1, .slot 17 (VP.int .i64 ((s.size : Nat) : Int))), (2, .slot 18 (VP.bool (decide (((s.size : Nat) : Int) > 200)))), (3, .slot 19 (VP.bool (decide (((s.size : Nat) : Int) > 200)))), (4, .fp 20 5 1), (5, .slot 21 (VP.nums .u32 x.2)), (6, .slot 22 (VP.int .i64 (((x.2).length : Nat) : Int))), (7, .slot 23 (VP.bool (decide ((((x.2).length : Nat) : Int) > 50)))), (8, .slot 24 (VP.bool (decide ((((x.2).length : Nat) : Int) > 50))))] [] [0, 1, 2, 3, 4] [] rfl rfl follow rfl ⟨
    .inl ⟨wants_plain rfl, does_move _ (.inl rfl) rfl rfl rfl rfl (ar_tmp (av_fs 0 rfl))⟩,
    .inl ⟨wants_plain rfl, does_lenStr _ _ Try.underlying9 rfl rfl rfl rfl rfl (ar_tmp (av_rs 0 rfl rfl))⟩,
    .inl ⟨wants_plain rfl, does_cmp (m := ((s.size : Nat) : Int)) (n := 200) _ _ _ _ _ rfl rfl rfl rfl rfl rfl .i64 (ar_tmp (av_rs 1 rfl rfl)) (ar_const (fun _ => rfl))⟩,
    .inl ⟨wants_plain rfl, does_move _ (.inl rfl) rfl rfl rfl rfl (ar_tmp (av_rs 2 rfl rfl))⟩,
    .inl ⟨wants_guard false rfl rfl rfl (av_bool (decide_eq_false (by omega)) (av_rs 3 rfl rfl)), does_field _ _ _ 1 ty_f1_api_Int rfl rfl rfl rfl rfl rfl rfl (pt_box (av_fs 2 rfl))⟩,
    .inl ⟨wants_guard false rfl rfl rfl (av_bool (decide_eq_false (by omega)) (av_rs 3 rfl rfl)), does_loadOne _ ty_one___uint32 rfl rfl rfl rfl rfl rfl (pt_fp (av_rs 4 rfl rfl)) (av_fs 2 rfl)⟩,
    .inl ⟨wants_guard false rfl rfl rfl (av_bool (decide_eq_false (by omega)) (av_rs 3 rfl rfl)), does_len _ _ (by kernel_rfl) rfl rfl rfl rfl rfl (ar_tmp (av_rs 5 rfl rfl))⟩,
    .inl ⟨wants_guard false rfl rfl rfl (av_bool (decide_eq_false (by omega)) (av_rs 3 rfl rfl)), does_cmp (m := (((x.2).length : Nat) : Int)) (n := 50) _ _ _ _ _ rfl rfl rfl rfl rfl rfl .i64 (ar_tmp (av_rs 6 rfl rfl)) (ar_const (fun _ => rfl))⟩,
    .inl ⟨wants_plain rfl, does_pick false _ _ _ rfl rfl rfl rfl rfl (ar_tmp (av_bool (decide_eq_false (by omega)) (av_rs 3 rfl rfl))) (ar_tmp (av_rs 7 rfl rfl))⟩,
    trivial⟩ ?_
  refine nx_sub (fs' := [.slot 0 (VP.str s), .slot 1 (VP.int .i64 n), .box 5 69 [VP.bool x.1, VP.nums .u32 x.2], .slot 6 (VP.bool false), .slot 24 (VP.bool (decide ((((x.2).length : Nat) : Int) > 50)))]) [0, 1, 2, 3, 13] rfl ?_
  refine nx_then ?_
  refine t_cond_fe 4 rfl (decide_eq_false (by omega)) ?_
  refine t_skip ?_
  refine nx_then ?_
  refine t_seq ?_
  refine t_region (F := ⟨_, _, _, _⟩) [.slot 0 (VP.str s), .slot 1 (VP.int .i64 n), .box 5 69 [VP.bool x.1, VP.nums .u32 x.2], .slot 6 (VP.bool false), .slot 24 (VP.bool (decide ((((x.2).length : Nat) : Int) > 50)))] [] [(0, .slot 26 (VP.str s)), (1, .slot 27 (VP.tup [INT 0, VP.bool false])), (2, .slot 25 (VP.tup [INT 0, VP.bool false])), (3, .slot 28 (INT 0)), (4, .slot 29 (VP.bool false)), (5, .own 7 69 2), (6, .box 7 69 [Bz 0, Dz 0]), (7, .slot 8 (VP.bool false))] [] [0, 1, 2, 3, 4] [] rfl rfl follow rfl ⟨
    .inl ⟨wants_plain rfl, does_move _ (.inl rfl) rfl rfl rfl rfl (ar_tmp (av_fs 0 rfl))⟩,
    .inl ⟨wants_plain rfl, does_call (s_parse_none s (by omega) hp) rfl hb_collator_whole_Parse rfl rfl rfl rfl ⟨(ar_tmp (av_rs 0 rfl rfl)), trivial⟩⟩,
    .inl ⟨wants_plain rfl, does_move _ (.inl rfl) rfl rfl rfl rfl (ar_tmp (av_rs 1 rfl rfl))⟩,
    .inl ⟨wants_plain rfl, does_extract (ps := [INT 0, VP.bool false]) _ _ rfl rfl rfl rfl rfl (ar_tmp (av_rs 2 rfl rfl)) rfl⟩,
    .inl ⟨wants_plain rfl, does_extract (ps := [INT 0, VP.bool false]) _ _ rfl rfl rfl rfl rfl (ar_tmp (av_rs 2 rfl rfl)) rfl⟩,
    .inl ⟨wants_plain rfl, does_allocOwn [Bz 0, Dz 0] ty_zero_api_Int rfl rfl rfl rfl rfl z_int rfl⟩,
    .inl ⟨wants_plain rfl, does_storeNew 2 _ _ ty_agg_api_Int rfl rfl rfl rfl rfl (pt_own (av_rs 5 rfl rfl)) (av_rs 5 rfl rfl) (ar_tmp (av_rs 3 rfl rfl))⟩,
    .inl ⟨wants_plain rfl, does_move _ (.inr rfl) rfl rfl rfl rfl (ar_tmp (av_rs 4 rfl rfl))⟩,
    trivial⟩ ?_
  refine nx_sub (fs' := [.slot 0 (VP.str s), .slot 1 (VP.int .i64 n), .box 5 69 [VP.bool x.1, VP.nums .u32 x.2], .slot 6 (VP.bool false), .box 7 69 [Bz 0, Dz 0], .slot 8 (VP.bool false)]) [0, 1, 2, 3, 11, 12] rfl ?_
  refine nx_then ?_
  refine t_seq ?_
  refine t_region (F := ⟨_, _, _, _⟩) [.slot 0 (VP.str s), .slot 1 (VP.int .i64 n), .box 5 69 [VP.bool x.1, VP.nums .u32 x.2], .slot 6 (VP.bool false), .box 7 69 [Bz 0, Dz 0], .slot 8 (VP.bool false)] [] [(0, .slot 31 (VP.str s)), (1, .slot 32 (VP.tup [VP.agg [VP.boolish, VP.slish], VP.bool false])), (2, .slot 30 (VP.tup [VP.agg [VP.boolish, VP.slish], VP.bool false])), (3, .slot 33 (VP.agg [VP.boolish, VP.slish])), (4, .slot 34 (VP.bool false)), (5, .own 9 72 2), (6, .box 9 72 [VP.boolish, VP.slish]), (7, .slot 10 (VP.bool false))] [] [0, 1, 2, 3, 4, 5] [] rfl rfl follow rfl ⟨
    .inl ⟨wants_plain rfl, does_move _ (.inl rfl) rfl rfl rfl rfl (ar_tmp (av_fs 0 rfl))⟩,
    .inl ⟨wants_plain rfl, does_call (r_parse_none s (by omega) hp) rfl hb_collator_collatorref01_Parse rfl rfl rfl rfl ⟨(ar_tmp (av_rs 0 rfl rfl)), trivial⟩⟩,
    .inl ⟨wants_plain rfl, does_move _ (.inl rfl) rfl rfl rfl rfl (ar_tmp (av_rs 1 rfl rfl))⟩,
    .inl ⟨wants_plain rfl, does_extract (ps := [VP.agg [VP.boolish, VP.slish], VP.bool false]) _ _ rfl rfl rfl rfl rfl (ar_tmp (av_rs 2 rfl rfl)) rfl⟩,
    .inl ⟨wants_plain rfl, does_extract (ps := [VP.agg [VP.boolish, VP.slish], VP.bool false]) _ _ rfl rfl rfl rfl rfl (ar_tmp (av_rs 2 rfl rfl)) rfl⟩,
    .inl ⟨wants_plain rfl, does_allocOwn [Bz 0, Tz 0] ty_zero_collatorref01_Num rfl rfl rfl rfl rfl z_num rfl⟩,
    .inl ⟨wants_plain rfl, does_storeNew 2 _ _ ty_agg_collatorref01_Num rfl rfl rfl rfl rfl (pt_own (av_rs 5 rfl rfl)) (av_rs 5 rfl rfl) (ar_tmp (av_rs 3 rfl rfl))⟩,
    .inl ⟨wants_plain rfl, does_move _ (.inr rfl) rfl rfl rfl rfl (ar_tmp (av_rs 4 rfl rfl))⟩,
    trivial⟩ ?_
  refine nx_sub (fs' := [.slot 1 (VP.int .i64 n), .box 5 69 [VP.bool x.1, VP.nums .u32 x.2], .slot 6 (VP.bool false), .box 7 69 [Bz 0, Dz 0], .slot 8 (VP.bool false), .box 9 72 [VP.boolish, VP.slish], .slot 10 (VP.bool false)]) [1, 2, 3, 4, 5, 12, 13] rfl ?_
  refine nx_then ?_
  refine t_seq ?_
  refine t_seq ?_
  refine t_region (F := ⟨_, _, _, _⟩) [.slot 1 (VP.int .i64 n), .box 5 69 [VP.bool x.1, VP.nums .u32 x.2], .slot 6 (VP.bool false), .box 7 69 [Bz 0, Dz 0], .slot 8 (VP.bool false), .box 9 72 [VP.boolish, VP.slish], .slot 10 (VP.bool false)] [] [(0, .slot 35 (VP.bool false)), (1, .slot 36 (VP.bool false)), (2, .slot 37 (VP.bool false)), (3, .slot 38 (VP.bool false)), (4, .slot 39 (VP.bool false)), (5, .slot 40 (VP.bool false)), (6, .slot 41 (VP.undef)), (7, .slot 42 (VP.undef)), (8, .slot 43 (VP.undef)), (9, .slot 44 (VP.undef)), (10, .slot 45 (VP.undef)), (11, .slot 46 (VP.bool false)), (12, .slot 47 (VP.bool false)), (13, .slot 48 (VP.bool false)), (14, .slot 49 (VP.bool false)), (15, .slot 50 (VP.bool true)), (16, .slot 51 (VP.bool true)), (17, .slot 52 (INT 0)), (18, .slot 53 (INT 0)), (19, .slot 54 (VP.bool true)), (20, .slot 55 (VP.bool false)), (21, .slot 56 (VP.bool false)), (22, .slot 57 (VP.bool false)), (23, .slot 58 (VP.bool false)), (24, .slot 59 (VP.agg [VP.bool x.1, VP.nums .u32 x.2])), (25, .slot 60 (VP.bool (rightB x.1 x.2))), (26, .slot 61 (VP.agg [VP.bool x.1, VP.nums .u32 x.2])), (27, .slot 62 (VP.bool (rightB x.1 x.2))), (28, .slot 63 (VP.bool (!((rightB x.1 x.2) == (rightB x.1 x.2))))), (29, .slot 64 (VP.bool (!((rightB x.1 x.2) == (rightB x.1 x.2)))))] [] [0, 1, 2, 3, 4, 5, 6] [] rfl rfl follow rfl ⟨
    .inl ⟨wants_plain rfl, does_move _ (.inl rfl) rfl rfl rfl rfl (ar_tmp (av_fs 4 rfl))⟩,
    .inl ⟨wants_plain rfl, does_move _ (.inl rfl) rfl rfl rfl rfl (ar_tmp (av_fs 6 rfl))⟩,
    .inl ⟨wants_plain rfl, does_eqBool (u := false) (v := false) _ _ _ _ _ (by kernel_rfl) rfl rfl rfl rfl rfl rfl (ar_tmp (av_rs 0 rfl rfl)) (ar_tmp (av_rs 1 rfl rfl))⟩,
    .inl ⟨wants_plain rfl, does_move _ (.inl rfl) rfl rfl rfl rfl (ar_tmp (av_rs 2 rfl rfl))⟩,
    .inl ⟨wants_guard false rfl rfl rfl (av_rs 3 rfl rfl), does_move _ (.inl rfl) rfl rfl rfl rfl (ar_tmp (av_fs 4 rfl))⟩,
    .inl ⟨wants_guard false rfl rfl rfl (av_rs 3 rfl rfl), does_move _ (.inl rfl) rfl rfl rfl rfl (ar_tmp (av_rs 4 rfl rfl))⟩,
    .inr (skips_guardU false rfl rfl rfl (av_rs 5 rfl rfl) rfl rfl rfl rfl),
    .inr (skips_guardU false rfl rfl rfl (av_rs 5 rfl rfl) rfl rfl rfl rfl),
    .inr (skips_guardU false rfl rfl rfl (av_rs 5 rfl rfl) rfl rfl rfl rfl),
    .inr (skips_guardU false rfl rfl rfl (av_rs 5 rfl rfl) rfl rfl rfl rfl),
    .inr (skips_guardU false rfl rfl rfl (av_rs 5 rfl rfl) rfl rfl rfl rfl),
    .inl ⟨wants_guard false rfl rfl rfl (av_rs 3 rfl rfl), does_pick false _ _ _ rfl rfl rfl rfl rfl (ar_tmp (av_rs 5 rfl rfl)) (ar_const (fun _ => rfl))⟩,
    .inl ⟨wants_plain rfl, does_pick false _ _ _ rfl rfl rfl rfl rfl (ar_tmp (av_rs 3 rfl rfl)) (ar_tmp (av_rs 11 rfl rfl))⟩,
    .inl ⟨wants_plain rfl, does_move _ (.inl rfl) rfl rfl rfl rfl (ar_tmp (av_rs 12 rfl rfl))⟩,
    .inl ⟨wants_guard false rfl rfl rfl (av_rs 13 rfl rfl), does_move _ (.inl rfl) rfl rfl rfl rfl (ar_tmp (av_fs 4 rfl))⟩,
    .inl ⟨wants_guard false rfl rfl rfl (av_rs 13 rfl rfl), does_not false _ _ rfl rfl rfl rfl rfl (ar_tmp (av_rs 14 rfl rfl))⟩,
    .inl ⟨wants_guard false rfl rfl rfl (av_rs 13 rfl rfl), does_move _ (.inl rfl) rfl rfl rfl rfl (ar_tmp (av_rs 15 rfl rfl))⟩,
    .inl ⟨wants_guard true rfl rfl rfl (av_rs 16 rfl rfl), does_loadAgg _ ty_agg_api_Int rfl rfl rfl rfl rfl rfl (pt_box (av_fs 3 rfl)) (av_fs 3 rfl)⟩,
    .inl ⟨wants_guard true rfl rfl rfl (av_rs 16 rfl rfl), does_build [Bz 0, Dz 0] ty_zero_api_Int ty_pl_api_Int rfl rfl rfl rfl rfl z_int (.nil _)⟩,
    .inl ⟨wants_guard true rfl rfl rfl (av_rs 16 rfl rfl), does_call (r_same1 0 (lle lzero (by decide))) rfl hb_collator_collatorref01_Same rfl rfl rfl rfl ⟨(ar_tmp (av_rs 17 rfl rfl)), (ar_tmp (av_rs 18 rfl rfl)), trivial⟩⟩,
    .inl ⟨wants_guard true rfl rfl rfl (av_rs 16 rfl rfl), does_not true _ _ rfl rfl rfl rfl rfl (ar_tmp (av_rs 19 rfl rfl))⟩,
    .inl ⟨wants_guard false rfl rfl rfl (av_rs 13 rfl rfl), does_pick true _ _ _ rfl rfl rfl rfl rfl (ar_tmp (av_rs 16 rfl rfl)) (ar_tmp (av_rs 20 rfl rfl))⟩,
    .inl ⟨wants_plain rfl, does_pick false _ _ _ rfl rfl rfl rfl rfl (ar_tmp (av_rs 13 rfl rfl)) (ar_tmp (av_rs 21 rfl rfl))⟩,
    .inl ⟨wants_plain rfl, does_move _ (.inl rfl) rfl rfl rfl rfl (ar_tmp (av_rs 22 rfl rfl))⟩,
    .inl ⟨wants_guard false rfl rfl rfl (av_rs 23 rfl rfl), does_loadAgg _ ty_agg_api_Int rfl rfl rfl rfl rfl rfl (pt_box (av_fs 1 rfl)) (av_fs 1 rfl)⟩,
    .inl ⟨wants_guard false rfl rfl rfl (av_rs 23 rfl rfl), does_call (s_right x (by omega)) rfl hb_collator_whole_Right rfl rfl rfl rfl ⟨(ar_tmp (av_rs 24 rfl rfl)), trivial⟩⟩,
    .inl ⟨wants_guard false rfl rfl rfl (av_rs 23 rfl rfl), does_loadAgg _ ty_agg_api_Int rfl rfl rfl rfl rfl rfl (pt_box (av_fs 1 rfl)) (av_fs 1 rfl)⟩,
    .inl ⟨wants_guard false rfl rfl rfl (av_rs 23 rfl rfl), does_call (r_rightW x hx (by omega)) rfl hb_collator_collatorref01_Right rfl rfl rfl rfl ⟨(ar_tmp (av_rs 26 rfl rfl)), trivial⟩⟩,
    .inl ⟨wants_guard false rfl rfl rfl (av_rs 23 rfl rfl), does_eqBool (u := (rightB x.1 x.2)) (v := (rightB x.1 x.2)) _ _ _ _ _ (by kernel_rfl) rfl rfl rfl rfl rfl rfl (ar_tmp (av_rs 25 rfl rfl)) (ar_tmp (av_rs 27 rfl rfl))⟩,
    .inl ⟨wants_plain rfl, does_pick false _ _ _ rfl rfl rfl rfl rfl (ar_tmp (av_rs 23 rfl rfl)) (ar_tmp (av_rs 28 rfl rfl))⟩,
    trivial⟩ ?_
  refine nx_sub (fs' := [.slot 1 (VP.int .i64 n), .slot 6 (VP.bool false), .slot 64 (VP.bool (!((rightB x.1 x.2) == (rightB x.1 x.2))))]) [0, 2, 36] rfl ?_
  refine nx_then ?_
  refine t_cond_fe 2 rfl (by rw [beq_self_eq_true]; rfl) ?_
  refine t_skip ?_
  refine nx_then ?_
  refine t_seq ?_
  refine t_region (F := ⟨_, _, _, _⟩) [.slot 1 (VP.int .i64 n), .slot 6 (VP.bool false), .slot 64 (VP.bool (!((rightB x.1 x.2) == (rightB x.1 x.2))))] [] [(0, .slot 65 (VP.int .i64 n)), (1, .slot 66 (INT n)), (2, .own 11 69 2), (3, .box 11 69 [Bz n, Dz n])] [] [0, 1, 2] [] rfl rfl follow rfl ⟨
    .inl ⟨wants_plain rfl, does_move _ (.inl rfl) rfl rfl rfl rfl (ar_tmp (av_fs 0 rfl))⟩,
    .inl ⟨wants_plain rfl, does_call (s_of n h1 h2) rfl hb_collator_whole_Of rfl rfl rfl rfl ⟨(ar_tmp (av_rs 0 rfl rfl)), trivial⟩⟩,
    .inl ⟨wants_plain rfl, does_allocOwn [Bz 0, Dz 0] ty_zero_api_Int rfl rfl rfl rfl rfl z_int rfl⟩,
    .inl ⟨wants_plain rfl, does_storeNew 2 _ _ ty_agg_api_Int rfl rfl rfl rfl rfl (pt_own (av_rs 2 rfl rfl)) (av_rs 2 rfl rfl) (ar_tmp (av_rs 1 rfl rfl))⟩,
    trivial⟩ ?_
  refine nx_sub (fs' := [.slot 1 (VP.int .i64 n), .slot 6 (VP.bool false), .box 11 69 [Bz n, Dz n]]) [0, 1, 6] rfl ?_
  refine nx_then ?_
  refine t_seq ?_
  refine t_seq ?_
  refine t_region (F := ⟨_, _, _, _⟩) [.slot 1 (VP.int .i64 n), .slot 6 (VP.bool false), .box 11 69 [Bz n, Dz n]] [] [(0, .slot 67 (INT n)), (1, .slot 68 (VP.bool true)), (2, .slot 69 (VP.bool false)), (3, .slot 70 (VP.bool false)), (4, .slot 71 (VP.int .i64 n)), (5, .slot 72 (VP.bool (decide (n > (-4611686018427387904))))), (6, .slot 73 (VP.bool (decide (n > (-4611686018427387904))))), (7, .slot 74 (INT n)), (8, .slot 75 (VP.int .i64 n)), (9, .slot 76 (NUM n)), (10, .slot 77 (INT n)), (11, .slot 78 (VP.bool true)), (12, .slot 79 (VP.bool false)), (13, .slot 80 (VP.bool false)), (14, .slot 81 (VP.bool false))] [] [0, 1, 2] [] rfl rfl follow rfl ⟨
    .inl ⟨wants_plain rfl, does_loadAgg _ ty_agg_api_Int rfl rfl rfl rfl rfl rfl (pt_box (av_fs 2 rfl)) (av_fs 2 rfl)⟩,
    .inl ⟨wants_plain rfl, does_call (r_rightZ n (lle (of_len h1 h2) (by decide))) rfl hb_collator_collatorref01_Right rfl rfl rfl rfl ⟨(ar_tmp (av_rs 0 rfl rfl)), trivial⟩⟩,
    .inl ⟨wants_plain rfl, does_not true _ _ rfl rfl rfl rfl rfl (ar_tmp (av_rs 1 rfl rfl))⟩,
    .inl ⟨wants_plain rfl, does_move _ (.inl rfl) rfl rfl rfl rfl (ar_tmp (av_rs 2 rfl rfl))⟩,
    .inl ⟨wants_guard false rfl rfl rfl (av_rs 3 rfl rfl), does_move _ (.inl rfl) rfl rfl rfl rfl (ar_tmp (av_fs 0 rfl))⟩,
    .inl ⟨wants_guard false rfl rfl rfl (av_rs 3 rfl rfl), does_cmp (m := n) (n := (-4611686018427387904)) _ _ _ _ _ rfl rfl rfl rfl rfl rfl .i64 (ar_tmp (av_rs 4 rfl rfl)) (ar_const (fun _ => rfl))⟩,
    .inl ⟨wants_guard false rfl rfl rfl (av_rs 3 rfl rfl), does_move _ (.inl rfl) rfl rfl rfl rfl (ar_tmp (av_rs 5 rfl rfl))⟩,
    .inl ⟨wants_guard true rfl rfl rfl (av_bool (decide_eq_true (by omega)) (av_rs 6 rfl rfl)), does_loadAgg _ ty_agg_api_Int rfl rfl rfl rfl rfl rfl (pt_box (av_fs 2 rfl)) (av_fs 2 rfl)⟩,
    .inl ⟨wants_guard true rfl rfl rfl (av_bool (decide_eq_true (by omega)) (av_rs 6 rfl rfl)), does_move _ (.inl rfl) rfl rfl rfl rfl (ar_tmp (av_fs 0 rfl))⟩,
    .inl ⟨wants_guard true rfl rfl rfl (av_bool (decide_eq_true (by omega)) (av_rs 6 rfl rfl)), does_call (r_int n (by omega) (by omega)) rfl hb_collator_collatorref01_Int rfl rfl rfl rfl ⟨(ar_tmp (av_rs 8 rfl rfl)), trivial⟩⟩,
    .inl ⟨wants_guard true rfl rfl rfl (av_bool (decide_eq_true (by omega)) (av_rs 6 rfl rfl)), does_call (r_form n (n10 (of_len h1 h2) (by decide))) rfl hb_collator_collatorref01_Form rfl rfl rfl rfl ⟨(ar_tmp (av_rs 9 rfl rfl)), trivial⟩⟩,
    .inl ⟨wants_guard true rfl rfl rfl (av_bool (decide_eq_true (by omega)) (av_rs 6 rfl rfl)), does_call (r_same1 n (lle (of_len h1 h2) (by decide))) rfl hb_collator_collatorref01_Same rfl rfl rfl rfl ⟨(ar_tmp (av_rs 7 rfl rfl)), (ar_tmp (av_rs 10 rfl rfl)), trivial⟩⟩,
    .inl ⟨wants_guard true rfl rfl rfl (av_bool (decide_eq_true (by omega)) (av_rs 6 rfl rfl)), does_not true _ _ rfl rfl rfl rfl rfl (ar_tmp (av_rs 11 rfl rfl))⟩,
    .inl ⟨wants_guard false rfl rfl rfl (av_rs 3 rfl rfl), does_pick true _ _ _ rfl rfl rfl rfl rfl (ar_tmp (av_bool (decide_eq_true (by omega)) (av_rs 6 rfl rfl))) (ar_tmp (av_rs 12 rfl rfl))⟩,
    .inl ⟨wants_plain rfl, does_pick false _ _ _ rfl rfl rfl rfl rfl (ar_tmp (av_rs 3 rfl rfl)) (ar_tmp (av_rs 13 rfl rfl))⟩,
    trivial⟩ ?_
  refine nx_sub (fs' := [.slot 1 (VP.int .i64 n), .slot 6 (VP.bool false), .box 11 69 [Bz n, Dz n], .slot 81 (VP.bool false)]) [0, 1, 2, 17] rfl ?_
  refine nx_then ?_
  refine t_cond_f 3 rfl ?_
  refine t_skip ?_
  refine nx_then ?_
  refine t_seq ?_
  refine t_region (F := ⟨_, _, _, _⟩) [.slot 1 (VP.int .i64 n), .slot 6 (VP.bool false), .box 11 69 [Bz n, Dz n], .slot 81 (VP.bool false)] [] [(0, .slot 83 (INT n)), (1, .slot 84 (VP.tup [VP.int .i64 0, VP.bool false])), (2, .slot 82 (VP.tup [VP.int .i64 0, VP.bool false])), (3, .slot 85 (VP.int .i64 0)), (4, .slot 86 (VP.bool false)), (5, .slot 12 (VP.int .i64 0)), (6, .slot 13 (VP.bool false))] [] [0, 1, 2, 3] [] rfl rfl follow rfl ⟨
    .inl ⟨wants_plain rfl, does_loadAgg _ ty_agg_api_Int rfl rfl rfl rfl rfl rfl (pt_box (av_fs 2 rfl)) (av_fs 2 rfl)⟩,
    .inl ⟨wants_plain rfl, does_call (s_smallF n (lle (of_len h1 h2) (by decide)) (decide_eq_false (by omega))) rfl hb_collator_whole_Small rfl rfl rfl rfl ⟨(ar_tmp (av_rs 0 rfl rfl)), trivial⟩⟩,
    .inl ⟨wants_plain rfl, does_move _ (.inl rfl) rfl rfl rfl rfl (ar_tmp (av_rs 1 rfl rfl))⟩,
    .inl ⟨wants_plain rfl, does_extract (ps := [VP.int .i64 0, VP.bool false]) _ _ rfl rfl rfl rfl rfl (ar_tmp (av_rs 2 rfl rfl)) rfl⟩,
    .inl ⟨wants_plain rfl, does_extract (ps := [VP.int .i64 0, VP.bool false]) _ _ rfl rfl rfl rfl rfl (ar_tmp (av_rs 2 rfl rfl)) rfl⟩,
    .inl ⟨wants_plain rfl, does_move _ (.inr rfl) rfl rfl rfl rfl (ar_tmp (av_rs 3 rfl rfl))⟩,
    .inl ⟨wants_plain rfl, does_move _ (.inr rfl) rfl rfl rfl rfl (ar_tmp (av_rs 4 rfl rfl))⟩,
    trivial⟩ ?_
  refine nx_sub (fs' := [.slot 1 (VP.int .i64 n), .slot 6 (VP.bool false), .slot 12 (VP.int .i64 0), .slot 13 (VP.bool false)]) [0, 1, 9, 10] rfl ?_
  refine nx_then ?_
  refine t_seq ?_
  refine t_region (F := ⟨_, _, _, _⟩) [.slot 1 (VP.int .i64 n), .slot 12 (VP.int .i64 0), .slot 13 (VP.bool false)] [(24, .slot 6 (VP.bool false))] [(0, .slot 87 (VP.bool false)), (1, .slot 88 (VP.int .i64 n)), (2, .slot 89 (VP.bool (decide (n ≥ (-4611686018427387904))))), (3, .slot 90 (VP.bool (decide (n ≥ (-4611686018427387904))))), (4, .slot 91 (VP.int .i64 n)), (5, .slot 92 (VP.bool (decide (n ≤ 4611686018427387904)))), (6, .slot 93 (VP.bool (decide (n ≤ 4611686018427387904)))), (7, .slot 94 (VP.bool true)), (8, .slot 95 (VP.bool true)), (9, .slot 96 (VP.bool false)), (10, .slot 97 (VP.bool true)), (11, .slot 98 (VP.bool true)), (12, .slot 99 (VP.int .i64 0)), (13, .slot 100 (VP.bool (0 == 0))), (14, .slot 101 (VP.bool (0 == 0))), (15, .slot 102 (VP.bool (0 == 0))), (16, .slot 103 (VP.undef)), (17, .slot 104 (VP.undef)), (18, .slot 105 (VP.undef)), (19, .slot 106 (VP.undef)), (20, .slot 107 (VP.undef)), (21, .slot 108 (VP.undef)), (22, .slot 109 (VP.bool true)), (23, .slot 110 (VP.bool true)), (24, .slot 6 (VP.bool true))] [] [0, 2, 3] [1] rfl rfl follow rfl ⟨
    .inl ⟨wants_plain rfl, does_move _ (.inl rfl) rfl rfl rfl rfl (ar_tmp (av_fs 2 rfl))⟩,
    .inl ⟨wants_plain rfl, does_move _ (.inl rfl) rfl rfl rfl rfl (ar_tmp (av_fs 0 rfl))⟩,
    .inl ⟨wants_plain rfl, does_cmp (m := n) (n := (-4611686018427387904)) _ _ _ _ _ rfl rfl rfl rfl rfl rfl .i64 (ar_tmp (av_rs 1 rfl rfl)) (ar_const (fun _ => rfl))⟩,
    .inl ⟨wants_plain rfl, does_move _ (.inl rfl) rfl rfl rfl rfl (ar_tmp (av_rs 2 rfl rfl))⟩,
    .inl ⟨wants_guard true rfl rfl rfl (av_bool (decide_eq_true (by omega)) (av_rs 3 rfl rfl)), does_move _ (.inl rfl) rfl rfl rfl rfl (ar_tmp (av_fs 0 rfl))⟩,
    .inl ⟨wants_guard true rfl rfl rfl (av_bool (decide_eq_true (by omega)) (av_rs 3 rfl rfl)), does_cmp (m := n) (n := 4611686018427387904) _ _ _ _ _ rfl rfl rfl rfl rfl rfl .i64 (ar_tmp (av_rs 4 rfl rfl)) (ar_const (fun _ => rfl))⟩,
    .inl ⟨wants_plain rfl, does_pick true _ _ _ rfl rfl rfl rfl rfl (ar_tmp (av_bool (decide_eq_true (by omega)) (av_rs 3 rfl rfl))) (ar_tmp (av_rs 5 rfl rfl))⟩,
    .inl ⟨wants_plain rfl, does_eqBool (u := false) (v := false) _ _ _ _ _ (by kernel_rfl) rfl rfl rfl rfl rfl rfl (ar_tmp (av_rs 0 rfl rfl)) (ar_tmp (av_bool (decide_eq_false (by omega)) (av_rs 6 rfl rfl)))⟩,
    .inl ⟨wants_plain rfl, does_move _ (.inl rfl) rfl rfl rfl rfl (ar_tmp (av_rs 7 rfl rfl))⟩,
    .inl ⟨wants_guard true rfl rfl rfl (av_rs 8 rfl rfl), does_move _ (.inl rfl) rfl rfl rfl rfl (ar_tmp (av_fs 2 rfl))⟩,
    .inl ⟨wants_guard true rfl rfl rfl (av_rs 8 rfl rfl), does_not false _ _ rfl rfl rfl rfl rfl (ar_tmp (av_rs 9 rfl rfl))⟩,
    .inl ⟨wants_guard true rfl rfl rfl (av_rs 8 rfl rfl), does_move _ (.inl rfl) rfl rfl rfl rfl (ar_tmp (av_rs 10 rfl rfl))⟩,
    .inl ⟨wants_guard true rfl rfl rfl (av_rs 11 rfl rfl), does_move _ (.inl rfl) rfl rfl rfl rfl (ar_tmp (av_fs 1 rfl))⟩,
    .inl ⟨wants_guard true rfl rfl rfl (av_rs 11 rfl rfl), does_cmp (m := 0) (n := 0) _ _ _ _ _ rfl rfl rfl rfl rfl rfl .i64 (ar_tmp (av_rs 12 rfl rfl)) (ar_const (fun _ => rfl))⟩,
    .inl ⟨wants_guard true rfl rfl rfl (av_rs 8 rfl rfl), does_pick true _ _ _ rfl rfl rfl rfl rfl (ar_tmp (av_rs 11 rfl rfl)) (ar_tmp (av_rs 13 rfl rfl))⟩,
    .inl ⟨wants_guard true rfl rfl rfl (av_rs 8 rfl rfl), does_move _ (.inl rfl) rfl rfl rfl rfl (ar_tmp (av_rs 14 rfl rfl))⟩,
    .inr (skips_guardU true rfl rfl rfl (av_bool rfl (av_rs 15 rfl rfl)) rfl rfl rfl rfl),
    .inr (skips_guardU true rfl rfl rfl (av_bool rfl (av_rs 15 rfl rfl)) rfl rfl rfl rfl),
    .inr (skips_undefU true rfl rfl rfl (av_rs 17 rfl rfl) rfl rfl rfl rfl),
    .inr (skips_undefU true rfl rfl rfl (av_rs 17 rfl rfl) rfl rfl rfl rfl),
    .inr (skips_undefU true rfl rfl rfl (av_rs 17 rfl rfl) rfl rfl rfl rfl),
    .inr (skips_guardU true rfl rfl rfl (av_bool rfl (av_rs 15 rfl rfl)) rfl rfl rfl rfl),
    .inl ⟨wants_guard true rfl rfl rfl (av_rs 8 rfl rfl), does_pick true _ _ _ rfl rfl rfl rfl rfl (ar_tmp (av_bool rfl (av_rs 15 rfl rfl))) (ar_const (fun _ => rfl))⟩,
    .inl ⟨wants_plain rfl, does_pick true _ _ _ rfl rfl rfl rfl rfl (ar_tmp (av_rs 8 rfl rfl)) (ar_tmp (av_rs 22 rfl rfl))⟩,
    .inl ⟨wants_plain rfl, does_move _ (.inr rfl) rfl rfl rfl rfl (ar_tmp (av_rs 23 rfl rfl))⟩,
    trivial⟩ ?_
  refine nx_sub (fs' := [.slot 6 (VP.bool true)]) [27] rfl ?_
  refine nx_then ?_
  refine t_ret ?_
  exact rt_one rfl (res_tmp 0 rfl)
theorem wreads_all (W : World) (v3 : Value) (s : ByteArray) (n : Int) (h1 : -9223372036854775808 ≤ n) (h2 : n < 9223372036854775808) (x : Raw) (hx : x.ok) (p3 : (RAW x).p v3 W) :
    Calls Try.prog 10 #[.string s, .int .i64 n, v3] W fun e W' => e = .returned (.bool true) ∧ Ext W W' := by
  have p1 : (VP.str s).p (.string s) W := rfl
  have p2 : (VP.int .i64 n).p (.int .i64 n) W := rfl
  have fin : ∀ {w}, Spec Try.prog 10 [(VP.str s).p, (VP.int .i64 n).p, (RAW x).p] (VP.bool true) → w = W → Calls Try.prog 10 #[.string s, .int .i64 n, v3] W fun e W' => e = .returned (.bool true) ∧ Ext W W' :=
    fun h _ => (h.call3 p1 p2 p3).mono fun e w' h => true_of h
  by_cases hl : 200 < s.size
  · exact fin (reads_long s n h1 h2 x hx hl) rfl
  · by_cases hw : 50 < x.2.length
    · exact fin (reads_wide s n h1 h2 x hx (by omega) hw) rfl
    · have hl' : s.size ≤ 200 := by omega
      have hw' : x.2.length ≤ 50 := by omega
      have hc : n = -4611686018427387904 ∨ n < -4611686018427387904 ∨ (-4611686018427387904 < n ∧ n ≤ 4611686018427387904) ∨ 4611686018427387904 < n := by omega
      cases hp : parseL (byt s) with
      | none =>
        rcases hc with he | he | he | he
        · exact fin (reads_Na s n h1 h2 x hx hl' hw' he hp) rfl
        · exact fin (reads_Nb s n h1 h2 x hx hl' hw' he hp) rfl
        · exact fin (reads_Nc s n h1 h2 x hx hl' hw' he hp) rfl
        · exact fin (reads_Nd s n h1 h2 x hx hl' hw' he hp) rfl
      | some z =>
        have hz := parse_len hl' hp
        rcases hc with he | he | he | he
        · exact fin (reads_Sa s n h1 h2 x hx hl' hw' he z hz hp) rfl
        · exact fin (reads_Sb s n h1 h2 x hx hl' hw' he z hz hp) rfl
        · exact fin (reads_Sc s n h1 h2 x hx hl' hw' he z hz hp) rfl
        · exact fin (reads_Sd s n h1 h2 x hx hl' hw' he z hz hp) rfl
end Go.Proofs.Ytogodjiemgilaaa

/- WholeReads: for all that comes in the law returns true, and what came in reads as it did. No condition. -/
namespace Go.Proofs.Ytogodjiemgilaaa
open Go.ChangeShapes Go.WideShapes Go.ChangeAt Go.RowKit

theorem wholeReads_own : ownKnob Try.prog.godebug = none := by kernel_rfl
theorem wholeReads_laid : laidOutB Try.prog = true := by kernel_rfl

theorem wholeReads_args (W : World) (args : Array Value) (hn : args.size = 3) (h : ∀ (j : Nat) (t : TypeId) (v : Value), (#[9, 2, 69] : Array TypeId)[j]? = some t → args[j]? = some v → Arg Try.prog W t v) :
    Calls Try.prog 10 args W fun e W' => e = .returned (.bool true) ∧ Ext W W' := by
  obtain ⟨l⟩ := args
  match l, hn with
  | [v0, v1, v2], _ =>
    obtain ⟨s, rfl, _⟩ := Arg.string Try.underlying9 (h 0 _ v0 rfl rfl)
    obtain ⟨n, rfl, hn⟩ := Arg.int Try.underlying2 (h 1 _ v1 rfl rfl)
    obtain ⟨x, hx, p3⟩ := arg_raw (h 2 _ v2 rfl rfl)
    have hb : -9223372036854775808 ≤ n ∧ n < 9223372036854775808 := by simp [Lit.wf, IntKind.min, IntKind.max, IntKind.signed, IntKind.bits] at hn; omega
    exact wreads_all W v2 s n hb.1 hb.2 x hx p3

set_option maxRecDepth 100000 in
theorem wholeReads_lifted (os : Os) (started : os.Started) (H : Type) (enc : TypeId × Value → H) :
    ReturnsInHanded {} Try.checked os 10 .any (Rows.wholeReadsSpec.pre6 enc Try.prog Try.f10 Rows.wholeReadsRow.domain false) (Rows.wholeReadsSpec.post enc Try.prog Try.f10 false true false false) :=
  law_lifted (C := Try.checked) 4 wholeReads_own started (by kernel_rfl) Try.func10 wholeReads_laid
      (by rw [Try.params10]; exact (List.forall_mem_cons.2 ⟨⟨by kernel_rfl, of_decide_eq_true (by kernel_rfl)⟩, (List.forall_mem_cons.2 ⟨⟨by kernel_rfl, of_decide_eq_true (by kernel_rfl)⟩, (List.forall_mem_cons.2 ⟨⟨by kernel_rfl, of_decide_eq_true (by kernel_rfl)⟩, (fun _ h => by cases h)⟩)⟩)⟩))
      (by rw [Try.params10]; exact (List.forall_mem_cons.2 ⟨(by show Served Try.prog _; unfold Served; rw [Try.underlying9]; trivial), (List.forall_mem_cons.2 ⟨(by show Served Try.prog _; unfold Served; rw [Try.underlying2]; trivial), (List.forall_mem_cons.2 ⟨(by show Served Try.prog _; unfold Served; rw [Try.underlying69]; trivial), (fun _ h => by cases h)⟩)⟩)⟩))
      rfl Try.underlying4 rfl
      (fun ds hd => by match ds, hd with | [_, _, _], _ => rfl)
      (ChangeSpec.witness6 (enc := enc) (C := Try.checked) false ⟨#[], #[.string (ByteArray.mk #[]), .int .i64 0, .agg #[.bool false, .slice none 0 0]], []⟩ 8 (by kernel_rfl) (by kernel_rfl) (by kernel_rfl) (by kernel_rfl))
      (fun W args hn h => wholeReads_args W args (by rw [Try.params10] at hn; exact hn) (by rw [Try.params10] at h; exact h))

theorem wholeReads_over : Rows.wholeReadsRow.holds Try.pinned (OpenSpec.ofChange Rows.wholeReadsSpec) :=
  OpenClaim.holds_of_wide 10 Try.f10 rfl rfl rfl rfl rfl rfl rfl ⟨rfl, rfl, rfl, rfl, rfl⟩ rfl rfl rfl rfl rfl (by kernel_rfl) Try.func10 (by kernel_rfl)
    (of_decide_eq_true (by kernel_rfl)) (by unfold Func.isWrapper; first | (rw [if_pos (by decide +kernel)]; kernel_rfl) | (rw [if_neg (by decide +kernel)]; exact ⟨rfl, rfl⟩))
    (fun os started H enc _ => wholeReads_lifted os started H enc)

theorem wholeReads_holds : Rows.WholeReadsSaid := wholeReads_over
#print axioms wholeReads_holds
end Go.Proofs.Ytogodjiemgilaaa
