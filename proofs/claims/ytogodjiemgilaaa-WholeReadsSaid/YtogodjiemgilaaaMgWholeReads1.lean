/- Part of the proof that a law returns true for all that comes in, and that what came in reads as it did. No condition. -/
import Derived.Test.YtogodjiemgilaaaMgWholeReads0
/- whole.Right, whatever comes in. -/
namespace Go.Proofs.Ytogodjiemgilaaa
open Go.RowKit
theorem ty_one_uint32 : oneTy Try.prog 160 = true := by kernel_rfl
theorem hb_collator_whole_Right_1 : hasBody Try.prog 132 = true := by kernel_rfl
theorem hb_IndexFunc : hasBody Try.prog 176 = true := by kernel_rfl
theorem hb_trim : hasBody Try.prog 130 = true := by kernel_rfl
/-- the first digit that is none -/
def idxI (l : List Nat) : Int := match l.findIdx? (fun d => decide (1000000000 ≤ d)) with | some i => (i : Int) | none => -1
theorem idx_found {l : List Nat} {k : Nat} (hk : k < l.length) (hb : 1000000000 ≤ l.getD k 0) (hs : ∀ i, i < k → l.getD i 0 < 1000000000) : idxI l = ((k : Nat) : Int) := by
  unfold idxI
  have : l.findIdx? (fun d => decide (1000000000 ≤ d)) = some k := by
    rw [List.findIdx?_eq_some_iff_getElem]
    refine ⟨hk, ?_, fun j hj => ?_⟩
    · simpa [hk] using hb
    · have := hs j hj
      have hjl : j < l.length := by omega
      simp [hjl] at this
      simpa using this
  rw [this]
theorem idx_none {l : List Nat} {k : Nat} (hk : ¬ k < l.length) (hs : ∀ i, i < k → l.getD i 0 < 1000000000) : idxI l = -1 := by
  unfold idxI
  have : l.findIdx? (fun d => decide (1000000000 ≤ d)) = none := by
    rw [List.findIdx?_eq_none_iff]
    intro x hx
    obtain ⟨i, hi, rfl⟩ := List.mem_iff_getElem.1 hx
    have := hs i (by omega)
    simp [hi] at this
    simpa using this
  rw [this]
theorem idx_any (l : List Nat) : (decide (idxI l ≥ 0)) = l.any (fun d => decide (1000000000 ≤ d)) := by
  unfold idxI
  cases h : l.findIdx? (fun d => decide (1000000000 ≤ d)) with
  | none =>
    rw [List.findIdx?_eq_none_iff] at h
    rw [List.any_eq_false.2 (fun x hx => by simpa using h x hx)]; rfl
  | some i =>
    rw [List.findIdx?_eq_some_iff_getElem] at h
    obtain ⟨h1, h2, _⟩ := h
    rw [List.any_eq_true.2 ⟨l[i], List.getElem_mem _, h2⟩]
    exact decide_eq_true (by show (0 : Int) ≤ (i : Int); omega)
theorem getD_some {l : List Nat} {k : Nat} (h : k < l.length) : l[k]? = some (l.getD k 0) := by simp [h]
theorem hb_slices_ContainsFunc_collator_whole_digits_uint32 : hasBody Try.prog 131 = true := by kernel_rfl
theorem hb_slices_IndexFunc_collator_whole_digits_uint32 : hasBody Try.prog 176 = true := by kernel_rfl
theorem hb_collator_whole_digits_trim : hasBody Try.prog 130 = true := by kernel_rfl
theorem s_trim (l : List Nat) : Spec Try.prog 130 [(VP.nums .u32 l).p] (VP.nums .u32 (strip l)) :=
  spec1 fun v1 w p1 => by
    obtain ⟨a, c, rfl, h2, h3, h4⟩ := p1
    refine (trim_walk a c l l.length w rfl h2 h3 h4).mono fun e w' h => ⟨_, h.1, ?_, h.2 ▸ Ext.refl w⟩
    refine ⟨a, (strip l).length, by rw [strip_len], Nat.le_refl _, by rw [strip_len]; have := stripN_le l l.length; omega, ?_⟩
    rw [← h.2]
    have := (show Rd w a (ks .u32 l) from h4).take (stripN l l.length)
    rw [ks_take] at this
    exact this
set_option maxRecDepth 100000 in
set_option maxHeartbeats 4000000 in
theorem s_right1 (n : Nat) : Spec Try.prog 132 [(VP.int .u32 ((n : Nat) : Int)).p] (VP.bool (decide (1000000000 ≤ n))) := by
  refine spec_of (xs := [VP.int .u32 ((n : Nat) : Int)]) 5 [] Try.func132 rfl Try.ntmps132 rfl fun w0 => ?_
  refine t_seq ?_
  refine t_region (F := ⟨_, _, _, _⟩) [.slot 0 (VP.int .u32 ((n : Nat) : Int))] [] [(0, .slot 2 (VP.bool false))] [] [0] [] rfl rfl follow rfl ⟨
    .inl ⟨wants_plain rfl, does_move _ (.inr rfl) rfl rfl rfl rfl (ar_const (fun _ => rfl))⟩,
    trivial⟩ ?_
  refine nx_sub (fs' := [.slot 0 (VP.int .u32 ((n : Nat) : Int)), .slot 2 (VP.bool false)]) [0, 1] rfl ?_
  refine nx_then ?_
  refine t_seq ?_
  refine t_region (F := ⟨_, _, _, _⟩) [.slot 0 (VP.int .u32 ((n : Nat) : Int))] [(2, .slot 2 (VP.bool false))] [(0, .slot 3 (VP.int .u32 ((n : Nat) : Int))), (1, .slot 4 (VP.bool (decide (((n : Nat) : Int) ≥ 1000000000)))), (2, .slot 2 (VP.bool (decide (((n : Nat) : Int) ≥ 1000000000))))] [] [0] [1] rfl rfl follow rfl ⟨
    .inl ⟨wants_plain rfl, does_move _ (.inl rfl) rfl rfl rfl rfl (ar_tmp (av_fs 0 rfl))⟩,
    .inl ⟨wants_plain rfl, does_cmp (m := ((n : Nat) : Int)) (n := 1000000000) _ _ _ _ _ rfl rfl rfl rfl rfl rfl .u32 (ar_tmp (av_rs 0 rfl rfl)) (ar_const (fun _ => rfl))⟩,
    .inl ⟨wants_plain rfl, does_move _ (.inr rfl) rfl rfl rfl rfl (ar_tmp (av_rs 1 rfl rfl))⟩,
    trivial⟩ ?_
  refine nx_sub (fs' := [.slot 2 (VP.bool (decide (((n : Nat) : Int) ≥ 1000000000)))]) [3] rfl ?_
  refine nx_then ?_
  refine t_ret ?_
  exact rt_one rfl (res_tmpb 0 rfl (by rw [Bool.eq_iff_iff, decide_eq_true_eq, decide_eq_true_eq]; omega))
set_option maxRecDepth 100000 in
set_option maxHeartbeats 4000000 in
theorem s_index (l : List Nat) (hl : l.length ≤ 100000000) : Spec Try.prog 176 [(VP.nums .u32 l).p, (VP.fn 132).p] (VP.int .i64 (idxI l)) := by
  refine spec_of (xs := [VP.nums .u32 l, VP.fn 132]) 19 [] Try.func176 rfl Try.ntmps176 rfl fun w0 => ?_
  refine t_seq ?_
  refine t_region (F := ⟨_, _, _, _⟩) [.slot 0 (VP.nums .u32 l), .slot 1 (VP.fn 132)] [] [(0, .slot 4 (VP.int .i64 0))] [] [0, 1] [] rfl rfl follow rfl ⟨
    .inl ⟨wants_plain rfl, does_move _ (.inr rfl) rfl rfl rfl rfl (ar_const (fun _ => rfl))⟩,
    trivial⟩ ?_
  refine nx_sub (fs' := [.slot 0 (VP.nums .u32 l), .slot 1 (VP.fn 132), .slot 4 (VP.int .i64 0)]) [0, 1, 2] rfl ?_
  refine nx_then ?_
  refine t_seq ?_
  refine t_seq ?_
  refine t_region (F := ⟨_, _, _, _⟩) [.slot 0 (VP.nums .u32 l), .slot 1 (VP.fn 132), .slot 4 (VP.int .i64 0)] [] [(0, .slot 6 (VP.nums .u32 l)), (1, .slot 7 (VP.int .i64 (((l).length : Nat) : Int))), (2, .slot 8 (VP.int .i64 0))] [] [0, 1, 2] [] rfl rfl follow rfl ⟨
    .inl ⟨wants_plain rfl, does_move _ (.inl rfl) rfl rfl rfl rfl (ar_tmp (av_fs 0 rfl))⟩,
    .inl ⟨wants_plain rfl, does_len _ _ (by kernel_rfl) rfl rfl rfl rfl rfl (ar_tmp (av_rs 0 rfl rfl))⟩,
    .inl ⟨wants_plain rfl, does_move _ (.inl rfl) rfl rfl rfl rfl (ar_const (fun _ => rfl))⟩,
    trivial⟩ ?_
  refine nx_sub (fs' := [.slot 0 (VP.nums .u32 l), .slot 1 (VP.fn 132), .slot 4 (VP.int .i64 0), .slot 7 (VP.int .i64 (((l).length : Nat) : Int)), .slot 8 (VP.int .i64 0)]) [0, 1, 2, 4, 5] rfl ?_
  refine nx_then ?_
  refine t_block ?_
  refine t_loop (σ := {k : Nat // k ≤ l.length ∧ ∀ i, i < k → l.getD i 0 < 1000000000}) (fun s => [.slot 0 (VP.nums .u32 l), .slot 1 (VP.fn 132), .slot 7 (VP.int .i64 (((l).length : Nat) : Int)), .slot 8 (VP.int .i64 ((s.1 : Nat) : Int))]) (fun s => l.length - s.1) (⟨0, Nat.zero_le _, fun i h => absurd h (Nat.not_lt_zero i)⟩) [0, 1, 3, 4] rfl ?_
  intro s
  have hs1 := s.2.1
  rcases (show (s.1 < l.length ∧ 1000000000 ≤ l.getD s.1 0) ∨ (s.1 < l.length ∧ ¬ 1000000000 ≤ l.getD s.1 0) ∨ ¬ s.1 < l.length by omega) with ⟨h, h2⟩ | ⟨h, h2⟩ | h
  case inl =>
    rw [idx_found h h2 s.2.2]
    refine t_seq ?_
    refine t_region (F := ⟨_, _, _, _⟩) [.slot 0 (VP.nums .u32 l), .slot 1 (VP.fn 132), .slot 7 (VP.int .i64 (((l).length : Nat) : Int)), .slot 8 (VP.int .i64 ((s.1 : Nat) : Int))] [] [(0, .slot 9 (VP.bool (decide (((s.1 : Nat) : Int) < (((l).length : Nat) : Int)))))] [] [0, 1, 2, 3] [] rfl rfl follow rfl ⟨
      .inl ⟨wants_plain rfl, does_cmp (m := ((s.1 : Nat) : Int)) (n := (((l).length : Nat) : Int)) _ _ _ _ _ rfl rfl rfl rfl rfl rfl .i64 (ar_tmp (av_fs 3 rfl)) (ar_tmp (av_fs 2 rfl))⟩,
      trivial⟩ ?_
    refine nx_sub (fs' := [.slot 0 (VP.nums .u32 l), .slot 1 (VP.fn 132), .slot 7 (VP.int .i64 (((l).length : Nat) : Int)), .slot 8 (VP.int .i64 ((s.1 : Nat) : Int)), .slot 9 (VP.bool (decide (((s.1 : Nat) : Int) < (((l).length : Nat) : Int))))]) [0, 1, 2, 3, 4] rfl ?_
    refine nx_then ?_
    refine t_seq ?_
    refine t_cond_te 4 rfl (decide_eq_true (by omega)) ?_
    refine t_skip ?_
    refine nx_then ?_
    refine t_seq ?_
    refine t_block ?_
    refine t_seq ?_
    refine t_region (F := ⟨_, _, _, _⟩) [.slot 0 (VP.nums .u32 l), .slot 1 (VP.fn 132), .slot 7 (VP.int .i64 (((l).length : Nat) : Int)), .slot 8 (VP.int .i64 ((s.1 : Nat) : Int)), .slot 9 (VP.bool (decide (((s.1 : Nat) : Int) < (((l).length : Nat) : Int))))] [] [(0, .slot 10 (VP.int .i64 ((s.1 : Nat) : Int))), (1, .slot 5 (VP.int .i64 ((s.1 : Nat) : Int)))] [] [0, 1, 2, 3, 4] [] rfl rfl follow rfl ⟨
      .inl ⟨wants_plain rfl, does_move _ (.inl rfl) rfl rfl rfl rfl (ar_tmp (av_fs 3 rfl))⟩,
      .inl ⟨wants_plain rfl, does_move _ (.inr rfl) rfl rfl rfl rfl (ar_tmp (av_rs 0 rfl rfl))⟩,
      trivial⟩ ?_
    refine nx_sub (fs' := [.slot 0 (VP.nums .u32 l), .slot 1 (VP.fn 132), .slot 7 (VP.int .i64 (((l).length : Nat) : Int)), .slot 8 (VP.int .i64 ((s.1 : Nat) : Int)), .slot 9 (VP.bool (decide (((s.1 : Nat) : Int) < (((l).length : Nat) : Int)))), .slot 10 (VP.int .i64 ((s.1 : Nat) : Int)), .slot 5 (VP.int .i64 ((s.1 : Nat) : Int))]) [0, 1, 2, 3, 4, 5, 6] rfl ?_
    refine nx_then ?_
    refine t_seq ?_
    refine t_region (F := ⟨_, _, _, _⟩) [.slot 0 (VP.nums .u32 l), .slot 1 (VP.fn 132), .slot 7 (VP.int .i64 (((l).length : Nat) : Int)), .slot 8 (VP.int .i64 ((s.1 : Nat) : Int)), .slot 9 (VP.bool (decide (((s.1 : Nat) : Int) < (((l).length : Nat) : Int)))), .slot 10 (VP.int .i64 ((s.1 : Nat) : Int)), .slot 5 (VP.int .i64 ((s.1 : Nat) : Int))] [] [(0, .slot 11 (VP.fn 132)), (1, .slot 12 (VP.nums .u32 l)), (2, .slot 13 (VP.int .i64 ((s.1 : Nat) : Int))), (3, .rp 14 12 s.1), (4, .slot 15 (VP.int .u32 ((l.getD s.1 0 : Nat) : Int))), (5, .slot 16 (VP.bool (decide (1000000000 ≤ l.getD s.1 0))))] [] [0, 1, 2, 3, 4, 5, 6] [] rfl rfl follow rfl ⟨
      .inl ⟨wants_plain rfl, does_move _ (.inl rfl) rfl rfl rfl rfl (ar_tmp (av_fs 1 rfl))⟩,
      .inl ⟨wants_plain rfl, does_move _ (.inl rfl) rfl rfl rfl rfl (ar_tmp (av_fs 0 rfl))⟩,
      .inl ⟨wants_plain rfl, does_move _ (.inl rfl) rfl rfl rfl rfl (ar_tmp (av_fs 6 rfl))⟩,
      .inl ⟨wants_plain rfl, does_indexNums (m := s.1) (l := l) _ _ rfl Try.underlying162 ty_one_uint32 rfl rfl rfl rfl rfl rfl h (av_rs 1 rfl rfl) (ar_tmp (av_rs 2 rfl rfl))⟩,
      .inl ⟨wants_plain rfl, does_loadNum _ rfl ty_one_uint32 rfl rfl rfl rfl rfl (getD_some h) (av_rs 3 rfl rfl) (av_rs 1 rfl rfl)⟩,
      .inl ⟨wants_plain rfl, does_callv (s_right1 (l.getD s.1 0)) rfl hb_collator_whole_Right_1 rfl rfl rfl rfl (ar_tmp (av_rs 0 rfl rfl)) ⟨(ar_tmp (av_rs 4 rfl rfl)), trivial⟩⟩,
      trivial⟩ ?_
    refine nx_sub (fs' := [.slot 0 (VP.nums .u32 l), .slot 1 (VP.fn 132), .slot 7 (VP.int .i64 (((l).length : Nat) : Int)), .slot 8 (VP.int .i64 ((s.1 : Nat) : Int)), .slot 9 (VP.bool (decide (((s.1 : Nat) : Int) < (((l).length : Nat) : Int)))), .slot 10 (VP.int .i64 ((s.1 : Nat) : Int)), .slot 5 (VP.int .i64 ((s.1 : Nat) : Int)), .slot 11 (VP.fn 132), .slot 12 (VP.nums .u32 l), .slot 13 (VP.int .i64 ((s.1 : Nat) : Int)), .rp 14 12 s.1, .slot 15 (VP.int .u32 ((l.getD s.1 0 : Nat) : Int)), .slot 16 (VP.bool (decide (1000000000 ≤ l.getD s.1 0)))]) [0, 1, 2, 3, 4, 5, 6, 7, 8, 9, 10, 11, 12] rfl ?_
    refine nx_then ?_
    refine t_cond_te 12 rfl (decide_eq_true h2) ?_
    refine t_seq ?_
    refine t_region (F := ⟨_, _, _, _⟩) [.slot 0 (VP.nums .u32 l), .slot 1 (VP.fn 132), .slot 7 (VP.int .i64 (((l).length : Nat) : Int)), .slot 8 (VP.int .i64 ((s.1 : Nat) : Int)), .slot 9 (VP.bool (decide (((s.1 : Nat) : Int) < (((l).length : Nat) : Int)))), .slot 10 (VP.int .i64 ((s.1 : Nat) : Int)), .slot 5 (VP.int .i64 ((s.1 : Nat) : Int)), .slot 11 (VP.fn 132), .slot 12 (VP.nums .u32 l), .slot 13 (VP.int .i64 ((s.1 : Nat) : Int)), .rp 14 12 s.1, .slot 15 (VP.int .u32 ((l.getD s.1 0 : Nat) : Int)), .slot 16 (VP.bool (decide (1000000000 ≤ l.getD s.1 0)))] [] [(0, .slot 17 (VP.int .i64 ((s.1 : Nat) : Int))), (1, .slot 4 (VP.int .i64 ((s.1 : Nat) : Int)))] [] [0, 1, 2, 3, 4, 5, 6, 7, 8, 9, 10, 11, 12] [] rfl rfl follow rfl ⟨
      .inl ⟨wants_plain rfl, does_move _ (.inl rfl) rfl rfl rfl rfl (ar_tmp (av_fs 6 rfl))⟩,
      .inl ⟨wants_plain rfl, does_move _ (.inr rfl) rfl rfl rfl rfl (ar_tmp (av_rs 0 rfl rfl))⟩,
      trivial⟩ ?_
    refine nx_sub (fs' := [.slot 0 (VP.nums .u32 l), .slot 1 (VP.fn 132), .slot 7 (VP.int .i64 (((l).length : Nat) : Int)), .slot 8 (VP.int .i64 ((s.1 : Nat) : Int)), .slot 9 (VP.bool (decide (((s.1 : Nat) : Int) < (((l).length : Nat) : Int)))), .slot 10 (VP.int .i64 ((s.1 : Nat) : Int)), .slot 5 (VP.int .i64 ((s.1 : Nat) : Int)), .slot 11 (VP.fn 132), .slot 12 (VP.nums .u32 l), .slot 13 (VP.int .i64 ((s.1 : Nat) : Int)), .rp 14 12 s.1, .slot 15 (VP.int .u32 ((l.getD s.1 0 : Nat) : Int)), .slot 16 (VP.bool (decide (1000000000 ≤ l.getD s.1 0))), .slot 17 (VP.int .i64 ((s.1 : Nat) : Int)), .slot 4 (VP.int .i64 ((s.1 : Nat) : Int))]) [0, 1, 2, 3, 4, 5, 6, 7, 8, 9, 10, 11, 12, 13, 14] rfl ?_
    refine nx_then ?_
    refine t_ret ?_
    refine rt_block ?_
    refine rt_then ?_
    refine rt_then ?_
    refine rt_block ?_
    refine rt_then ?_
    exact rt_one rfl (res_tmp 14 rfl)
  case inr.inl =>
    refine t_seq ?_
    refine t_region (F := ⟨_, _, _, _⟩) [.slot 0 (VP.nums .u32 l), .slot 1 (VP.fn 132), .slot 7 (VP.int .i64 (((l).length : Nat) : Int)), .slot 8 (VP.int .i64 ((s.1 : Nat) : Int))] [] [(0, .slot 9 (VP.bool (decide (((s.1 : Nat) : Int) < (((l).length : Nat) : Int)))))] [] [0, 1, 2, 3] [] rfl rfl follow rfl ⟨
      .inl ⟨wants_plain rfl, does_cmp (m := ((s.1 : Nat) : Int)) (n := (((l).length : Nat) : Int)) _ _ _ _ _ rfl rfl rfl rfl rfl rfl .i64 (ar_tmp (av_fs 3 rfl)) (ar_tmp (av_fs 2 rfl))⟩,
      trivial⟩ ?_
    refine nx_sub (fs' := [.slot 0 (VP.nums .u32 l), .slot 1 (VP.fn 132), .slot 7 (VP.int .i64 (((l).length : Nat) : Int)), .slot 8 (VP.int .i64 ((s.1 : Nat) : Int)), .slot 9 (VP.bool (decide (((s.1 : Nat) : Int) < (((l).length : Nat) : Int))))]) [0, 1, 2, 3, 4] rfl ?_
    refine nx_then ?_
    refine t_seq ?_
    refine t_cond_te 4 rfl (decide_eq_true (by omega)) ?_
    refine t_skip ?_
    refine nx_then ?_
    refine t_seq ?_
    refine t_block ?_
    refine t_seq ?_
    refine t_region (F := ⟨_, _, _, _⟩) [.slot 0 (VP.nums .u32 l), .slot 1 (VP.fn 132), .slot 7 (VP.int .i64 (((l).length : Nat) : Int)), .slot 8 (VP.int .i64 ((s.1 : Nat) : Int)), .slot 9 (VP.bool (decide (((s.1 : Nat) : Int) < (((l).length : Nat) : Int))))] [] [(0, .slot 10 (VP.int .i64 ((s.1 : Nat) : Int))), (1, .slot 5 (VP.int .i64 ((s.1 : Nat) : Int)))] [] [0, 1, 2, 3, 4] [] rfl rfl follow rfl ⟨
      .inl ⟨wants_plain rfl, does_move _ (.inl rfl) rfl rfl rfl rfl (ar_tmp (av_fs 3 rfl))⟩,
      .inl ⟨wants_plain rfl, does_move _ (.inr rfl) rfl rfl rfl rfl (ar_tmp (av_rs 0 rfl rfl))⟩,
      trivial⟩ ?_
    refine nx_sub (fs' := [.slot 0 (VP.nums .u32 l), .slot 1 (VP.fn 132), .slot 7 (VP.int .i64 (((l).length : Nat) : Int)), .slot 8 (VP.int .i64 ((s.1 : Nat) : Int)), .slot 9 (VP.bool (decide (((s.1 : Nat) : Int) < (((l).length : Nat) : Int)))), .slot 10 (VP.int .i64 ((s.1 : Nat) : Int)), .slot 5 (VP.int .i64 ((s.1 : Nat) : Int))]) [0, 1, 2, 3, 4, 5, 6] rfl ?_
    refine nx_then ?_
    refine t_seq ?_
    refine t_region (F := ⟨_, _, _, _⟩) [.slot 0 (VP.nums .u32 l), .slot 1 (VP.fn 132), .slot 7 (VP.int .i64 (((l).length : Nat) : Int)), .slot 8 (VP.int .i64 ((s.1 : Nat) : Int)), .slot 9 (VP.bool (decide (((s.1 : Nat) : Int) < (((l).length : Nat) : Int)))), .slot 10 (VP.int .i64 ((s.1 : Nat) : Int)), .slot 5 (VP.int .i64 ((s.1 : Nat) : Int))] [] [(0, .slot 11 (VP.fn 132)), (1, .slot 12 (VP.nums .u32 l)), (2, .slot 13 (VP.int .i64 ((s.1 : Nat) : Int))), (3, .rp 14 12 s.1), (4, .slot 15 (VP.int .u32 ((l.getD s.1 0 : Nat) : Int))), (5, .slot 16 (VP.bool (decide (1000000000 ≤ l.getD s.1 0))))] [] [0, 1, 2, 3, 4, 5, 6] [] rfl rfl follow rfl ⟨
      .inl ⟨wants_plain rfl, does_move _ (.inl rfl) rfl rfl rfl rfl (ar_tmp (av_fs 1 rfl))⟩,
      .inl ⟨wants_plain rfl, does_move _ (.inl rfl) rfl rfl rfl rfl (ar_tmp (av_fs 0 rfl))⟩,
      .inl ⟨wants_plain rfl, does_move _ (.inl rfl) rfl rfl rfl rfl (ar_tmp (av_fs 6 rfl))⟩,
      .inl ⟨wants_plain rfl, does_indexNums (m := s.1) (l := l) _ _ rfl Try.underlying162 ty_one_uint32 rfl rfl rfl rfl rfl rfl h (av_rs 1 rfl rfl) (ar_tmp (av_rs 2 rfl rfl))⟩,
      .inl ⟨wants_plain rfl, does_loadNum _ rfl ty_one_uint32 rfl rfl rfl rfl rfl (getD_some h) (av_rs 3 rfl rfl) (av_rs 1 rfl rfl)⟩,
      .inl ⟨wants_plain rfl, does_callv (s_right1 (l.getD s.1 0)) rfl hb_collator_whole_Right_1 rfl rfl rfl rfl (ar_tmp (av_rs 0 rfl rfl)) ⟨(ar_tmp (av_rs 4 rfl rfl)), trivial⟩⟩,
      trivial⟩ ?_
    refine nx_sub (fs' := [.slot 0 (VP.nums .u32 l), .slot 1 (VP.fn 132), .slot 7 (VP.int .i64 (((l).length : Nat) : Int)), .slot 8 (VP.int .i64 ((s.1 : Nat) : Int)), .slot 9 (VP.bool (decide (((s.1 : Nat) : Int) < (((l).length : Nat) : Int)))), .slot 10 (VP.int .i64 ((s.1 : Nat) : Int)), .slot 5 (VP.int .i64 ((s.1 : Nat) : Int)), .slot 11 (VP.fn 132), .slot 12 (VP.nums .u32 l), .slot 13 (VP.int .i64 ((s.1 : Nat) : Int)), .rp 14 12 s.1, .slot 15 (VP.int .u32 ((l.getD s.1 0 : Nat) : Int)), .slot 16 (VP.bool (decide (1000000000 ≤ l.getD s.1 0)))]) [0, 1, 2, 3, 4, 5, 6, 7, 8, 9, 10, 11, 12] rfl ?_
    refine nx_then ?_
    refine t_cond_fe 12 rfl (decide_eq_false h2) ?_
    refine t_skip ?_
    refine nx_block ?_
    refine nx_then ?_
    refine t_region (F := ⟨_, _, _, _⟩) [.slot 0 (VP.nums .u32 l), .slot 1 (VP.fn 132), .slot 7 (VP.int .i64 (((l).length : Nat) : Int)), .slot 9 (VP.bool (decide (((s.1 : Nat) : Int) < (((l).length : Nat) : Int)))), .slot 10 (VP.int .i64 ((s.1 : Nat) : Int)), .slot 5 (VP.int .i64 ((s.1 : Nat) : Int)), .slot 11 (VP.fn 132), .slot 12 (VP.nums .u32 l), .slot 13 (VP.int .i64 ((s.1 : Nat) : Int)), .rp 14 12 s.1, .slot 15 (VP.int .u32 ((l.getD s.1 0 : Nat) : Int)), .slot 16 (VP.bool (decide (1000000000 ≤ l.getD s.1 0)))] [(1, .slot 8 (VP.int .i64 ((s.1 : Nat) : Int)))] [(0, .slot 18 (VP.int .i64 ((s.1 + 1 : Nat) : Int))), (1, .slot 8 (VP.int .i64 ((s.1 + 1 : Nat) : Int)))] [] [0, 1, 2, 4, 5, 6, 7, 8, 9, 10, 11, 12] [3] rfl rfl follow rfl ⟨
      .inl ⟨wants_plain rfl, does_addInt (m := ((s.1 : Nat) : Int)) (n := 1) _ _ _ _ rfl rfl rfl rfl rfl (by omega) (ar_tmp (av_os 0 rfl rfl)) (ar_const (fun _ => rfl))⟩,
      .inl ⟨wants_plain rfl, does_move _ (.inl rfl) rfl rfl rfl rfl (ar_tmp (av_rs 0 rfl rfl))⟩,
      trivial⟩ ?_
    refine nx_sub (fs' := [.slot 0 (VP.nums .u32 l), .slot 1 (VP.fn 132), .slot 7 (VP.int .i64 (((l).length : Nat) : Int)), .slot 9 (VP.bool (decide (((s.1 : Nat) : Int) < (((l).length : Nat) : Int)))), .slot 10 (VP.int .i64 ((s.1 : Nat) : Int)), .slot 5 (VP.int .i64 ((s.1 : Nat) : Int)), .slot 11 (VP.fn 132), .slot 12 (VP.nums .u32 l), .slot 13 (VP.int .i64 ((s.1 : Nat) : Int)), .rp 14 12 s.1, .slot 15 (VP.int .u32 ((l.getD s.1 0 : Nat) : Int)), .slot 16 (VP.bool (decide (1000000000 ≤ l.getD s.1 0))), .slot 18 (VP.int .i64 ((s.1 + 1 : Nat) : Int)), .slot 8 (VP.int .i64 ((s.1 + 1 : Nat) : Int))]) [0, 1, 2, 3, 4, 5, 6, 7, 8, 9, 10, 11, 12, 13] rfl ?_
    exact nx_round ⟨s.1 + 1, h, fun i hi => by rcases Nat.lt_succ_iff_lt_or_eq.1 hi with g | g; exact s.2.2 i g; subst g; omega⟩ (by show l.length - (s.1 + 1) < l.length - s.1; omega) [0, 1, 2, 13] rfl
  case inr.inr =>
    rw [idx_none h s.2.2]
    refine t_seq ?_
    refine t_region (F := ⟨_, _, _, _⟩) [.slot 0 (VP.nums .u32 l), .slot 1 (VP.fn 132), .slot 7 (VP.int .i64 (((l).length : Nat) : Int)), .slot 8 (VP.int .i64 ((s.1 : Nat) : Int))] [] [(0, .slot 9 (VP.bool (decide (((s.1 : Nat) : Int) < (((l).length : Nat) : Int)))))] [] [0, 1, 2, 3] [] rfl rfl follow rfl ⟨
      .inl ⟨wants_plain rfl, does_cmp (m := ((s.1 : Nat) : Int)) (n := (((l).length : Nat) : Int)) _ _ _ _ _ rfl rfl rfl rfl rfl rfl .i64 (ar_tmp (av_fs 3 rfl)) (ar_tmp (av_fs 2 rfl))⟩,
      trivial⟩ ?_
    refine nx_sub (fs' := [.slot 0 (VP.nums .u32 l), .slot 1 (VP.fn 132), .slot 7 (VP.int .i64 (((l).length : Nat) : Int)), .slot 8 (VP.int .i64 ((s.1 : Nat) : Int)), .slot 9 (VP.bool (decide (((s.1 : Nat) : Int) < (((l).length : Nat) : Int))))]) [0, 1, 2, 3, 4] rfl ?_
    refine nx_then ?_
    refine t_seq ?_
    refine t_cond_fe 4 rfl (decide_eq_false (by omega)) ?_
    refine t_exit ?_
    refine ex_then ?_
    refine ex_then ?_
    refine ex_block ?_
    refine nx_then ?_
    refine t_seq ?_
    refine t_region (F := ⟨_, _, _, _⟩) [.slot 0 (VP.nums .u32 l), .slot 1 (VP.fn 132), .slot 7 (VP.int .i64 (((l).length : Nat) : Int)), .slot 8 (VP.int .i64 ((s.1 : Nat) : Int)), .slot 9 (VP.bool (decide (((s.1 : Nat) : Int) < (((l).length : Nat) : Int))))] [] [(0, .slot 4 (VP.int .i64 (-1)))] [] [0, 1, 2, 3, 4] [] rfl rfl follow rfl ⟨
      .inl ⟨wants_plain rfl, does_move _ (.inr rfl) rfl rfl rfl rfl (ar_const (fun _ => rfl))⟩,
      trivial⟩ ?_
    refine nx_sub (fs' := [.slot 4 (VP.int .i64 (-1))]) [5] rfl ?_
    refine nx_then ?_
    refine t_ret ?_
    exact rt_one rfl (res_tmp 0 rfl)
set_option maxRecDepth 100000 in
set_option maxHeartbeats 4000000 in
theorem s_contains (l : List Nat) (hl : l.length ≤ 100000000) : Spec Try.prog 131 [(VP.nums .u32 l).p, (VP.fn 132).p] (VP.bool (l.any (fun d => decide (1000000000 ≤ d)))) := by
  refine spec_of (xs := [VP.nums .u32 l, VP.fn 132]) 9 [] Try.func131 rfl Try.ntmps131 rfl fun w0 => ?_
  refine t_seq ?_
  refine t_region (F := ⟨_, _, _, _⟩) [.slot 0 (VP.nums .u32 l), .slot 1 (VP.fn 132)] [] [(0, .slot 4 (VP.bool false))] [] [0, 1] [] rfl rfl follow rfl ⟨
    .inl ⟨wants_plain rfl, does_move _ (.inr rfl) rfl rfl rfl rfl (ar_const (fun _ => rfl))⟩,
    trivial⟩ ?_
  refine nx_sub (fs' := [.slot 0 (VP.nums .u32 l), .slot 1 (VP.fn 132), .slot 4 (VP.bool false)]) [0, 1, 2] rfl ?_
  refine nx_then ?_
  refine t_seq ?_
  refine t_region (F := ⟨_, _, _, _⟩) [.slot 0 (VP.nums .u32 l), .slot 1 (VP.fn 132)] [(4, .slot 4 (VP.bool false))] [(0, .slot 5 (VP.nums .u32 l)), (1, .slot 6 (VP.fn 132)), (2, .slot 7 (VP.int .i64 (idxI l))), (3, .slot 8 (VP.bool (decide ((idxI l) ≥ 0)))), (4, .slot 4 (VP.bool (decide ((idxI l) ≥ 0))))] [] [0, 1] [2] rfl rfl follow rfl ⟨
    .inl ⟨wants_plain rfl, does_move _ (.inl rfl) rfl rfl rfl rfl (ar_tmp (av_fs 0 rfl))⟩,
    .inl ⟨wants_plain rfl, does_move _ (.inl rfl) rfl rfl rfl rfl (ar_tmp (av_fs 1 rfl))⟩,
    .inl ⟨wants_plain rfl, does_call (s_index l hl) rfl hb_slices_IndexFunc_collator_whole_digits_uint32 rfl rfl rfl rfl ⟨(ar_tmp (av_rs 0 rfl rfl)), (ar_tmp (av_rs 1 rfl rfl)), trivial⟩⟩,
    .inl ⟨wants_plain rfl, does_cmp (m := (idxI l)) (n := 0) _ _ _ _ _ rfl rfl rfl rfl rfl rfl .i64 (ar_tmp (av_rs 2 rfl rfl)) (ar_const (fun _ => rfl))⟩,
    .inl ⟨wants_plain rfl, does_move _ (.inr rfl) rfl rfl rfl rfl (ar_tmp (av_rs 3 rfl rfl))⟩,
    trivial⟩ ?_
  refine nx_sub (fs' := [.slot 4 (VP.bool (decide ((idxI l) ≥ 0)))]) [6] rfl ?_
  refine nx_then ?_
  refine t_ret ?_
  exact rt_one rfl (res_tmpb 0 rfl (idx_any l))
set_option maxRecDepth 100000 in
set_option maxHeartbeats 4000000 in
theorem s_rightA (x : Raw) (_hl : x.2.length ≤ 100000000) (h : (strip x.2).length ≠ x.2.length) : Spec Try.prog 69 [(VP.agg [VP.bool x.1, VP.nums .u32 x.2]).p] (VP.bool false) := by
  refine spec_of (xs := [VP.agg [VP.bool x.1, VP.nums .u32 x.2]]) 27 [1] Try.func69 rfl Try.ntmps69 rfl fun w0 => ?_
  refine t_seq ?_
  refine t_region (F := ⟨_, _, _, _⟩) [.slot 0 (VP.agg [VP.bool x.1, VP.nums .u32 x.2])] [] [(0, .box 1 69 [VP.bool x.1, VP.nums .u32 x.2]), (1, .slot 2 (VP.bool false))] [] [0] [] rfl rfl follow rfl ⟨
    .inl ⟨wants_plain rfl, does_box _ rfl rfl rfl rfl rfl (ar_tmp (av_fs 0 rfl))⟩,
    .inl ⟨wants_plain rfl, does_move _ (.inr rfl) rfl rfl rfl rfl (ar_const (fun _ => rfl))⟩,
    trivial⟩ ?_
  refine nx_sub (fs' := [.box 1 69 [VP.bool x.1, VP.nums .u32 x.2], .slot 2 (VP.bool false)]) [1, 2] rfl ?_
  refine nx_then ?_
  refine t_seq ?_
  refine t_region (F := ⟨_, _, _, _⟩) [.box 1 69 [VP.bool x.1, VP.nums .u32 x.2], .slot 2 (VP.bool false)] [] [(0, .fp 4 1 1), (1, .slot 5 (VP.nums .u32 x.2)), (2, .slot 3 (VP.nums .u32 x.2))] [] [0, 1] [] rfl rfl follow rfl ⟨
    .inl ⟨wants_plain rfl, does_field _ _ _ 1 ty_f1_api_Int rfl rfl rfl rfl rfl rfl rfl (pt_box (av_fs 0 rfl))⟩,
    .inl ⟨wants_plain rfl, does_loadOne _ ty_one___uint32 rfl rfl rfl rfl rfl rfl (pt_fp (av_rs 0 rfl rfl)) (av_fs 0 rfl)⟩,
    .inl ⟨wants_plain rfl, does_move _ (.inr rfl) rfl rfl rfl rfl (ar_tmp (av_rs 1 rfl rfl))⟩,
    trivial⟩ ?_
  refine nx_sub (fs' := [.box 1 69 [VP.bool x.1, VP.nums .u32 x.2], .slot 2 (VP.bool false), .slot 3 (VP.nums .u32 x.2)]) [0, 1, 4] rfl ?_
  refine nx_then ?_
  refine t_seq ?_
  refine t_region (F := ⟨_, _, _, _⟩) [.box 1 69 [VP.bool x.1, VP.nums .u32 x.2], .slot 3 (VP.nums .u32 x.2)] [(21, .slot 2 (VP.bool false))] [(0, .slot 6 (VP.nums .u32 x.2)), (1, .slot 7 (VP.nums .u32 (strip x.2))), (2, .slot 8 (VP.int .i64 ((((strip x.2)).length : Nat) : Int))), (3, .slot 9 (VP.nums .u32 x.2)), (4, .slot 10 (VP.int .i64 (((x.2).length : Nat) : Int))), (5, .slot 11 (VP.bool (((((strip x.2)).length : Nat) : Int) == (((x.2).length : Nat) : Int)))), (6, .slot 12 (VP.bool (((((strip x.2)).length : Nat) : Int) == (((x.2).length : Nat) : Int)))), (7, .slot 13 (VP.undef)), (8, .slot 14 (VP.undef)), (9, .slot 15 (VP.undef)), (10, .slot 16 (VP.undef)), (11, .slot 17 (VP.undef)), (12, .slot 18 (VP.undef)), (13, .slot 19 (VP.undef)), (14, .slot 20 (VP.undef)), (15, .slot 21 (VP.bool false)), (16, .slot 22 (VP.bool false)), (17, .slot 23 (VP.undef)), (18, .slot 24 (VP.undef)), (19, .slot 25 (VP.undef)), (20, .slot 26 (VP.bool false)), (21, .slot 2 (VP.bool false))] [] [0, 2] [1] rfl rfl follow rfl ⟨
    .inl ⟨wants_plain rfl, does_move _ (.inl rfl) rfl rfl rfl rfl (ar_tmp (av_fs 1 rfl))⟩,
    .inl ⟨wants_plain rfl, does_call (s_trim x.2) rfl hb_collator_whole_digits_trim rfl rfl rfl rfl ⟨(ar_tmp (av_rs 0 rfl rfl)), trivial⟩⟩,
    .inl ⟨wants_plain rfl, does_len _ _ (by kernel_rfl) rfl rfl rfl rfl rfl (ar_tmp (av_rs 1 rfl rfl))⟩,
    .inl ⟨wants_plain rfl, does_move _ (.inl rfl) rfl rfl rfl rfl (ar_tmp (av_fs 1 rfl))⟩,
    .inl ⟨wants_plain rfl, does_len _ _ (by kernel_rfl) rfl rfl rfl rfl rfl (ar_tmp (av_rs 3 rfl rfl))⟩,
    .inl ⟨wants_plain rfl, does_cmp (m := ((((strip x.2)).length : Nat) : Int)) (n := (((x.2).length : Nat) : Int)) _ _ _ _ _ rfl rfl rfl rfl rfl rfl .i64 (ar_tmp (av_rs 2 rfl rfl)) (ar_tmp (av_rs 4 rfl rfl))⟩,
    .inl ⟨wants_plain rfl, does_move _ (.inl rfl) rfl rfl rfl rfl (ar_tmp (av_rs 5 rfl rfl))⟩,
    .inr (skips_guardU false rfl rfl rfl (av_bool (beq_eq_false_iff_ne.2 (by omega)) (av_rs 6 rfl rfl)) rfl rfl rfl rfl),
    .inr (skips_guardU false rfl rfl rfl (av_bool (beq_eq_false_iff_ne.2 (by omega)) (av_rs 6 rfl rfl)) rfl rfl rfl rfl),
    .inr (skips_guardU false rfl rfl rfl (av_bool (beq_eq_false_iff_ne.2 (by omega)) (av_rs 6 rfl rfl)) rfl rfl rfl rfl),
    .inr (skips_guardU false rfl rfl rfl (av_bool (beq_eq_false_iff_ne.2 (by omega)) (av_rs 6 rfl rfl)) rfl rfl rfl rfl),
    .inr (skips_undefU false rfl rfl rfl (av_rs 10 rfl rfl) rfl rfl rfl rfl),
    .inr (skips_undefU false rfl rfl rfl (av_rs 10 rfl rfl) rfl rfl rfl rfl),
    .inr (skips_undefU false rfl rfl rfl (av_rs 10 rfl rfl) rfl rfl rfl rfl),
    .inr (skips_guardU false rfl rfl rfl (av_bool (beq_eq_false_iff_ne.2 (by omega)) (av_rs 6 rfl rfl)) rfl rfl rfl rfl),
    .inl ⟨wants_plain rfl, does_pick false _ _ _ rfl rfl rfl rfl rfl (ar_tmp (av_bool (beq_eq_false_iff_ne.2 (by omega)) (av_rs 6 rfl rfl))) (ar_const (fun _ => rfl))⟩,
    .inl ⟨wants_plain rfl, does_move _ (.inl rfl) rfl rfl rfl rfl (ar_tmp (av_rs 15 rfl rfl))⟩,
    .inr (skips_guardU false rfl rfl rfl (av_rs 16 rfl rfl) rfl rfl rfl rfl),
    .inr (skips_guardU false rfl rfl rfl (av_rs 16 rfl rfl) rfl rfl rfl rfl),
    .inr (skips_guardU false rfl rfl rfl (av_rs 16 rfl rfl) rfl rfl rfl rfl),
    .inl ⟨wants_plain rfl, does_pick false _ _ _ rfl rfl rfl rfl rfl (ar_tmp (av_rs 16 rfl rfl)) (ar_const (fun _ => rfl))⟩,
    .inl ⟨wants_plain rfl, does_move _ (.inr rfl) rfl rfl rfl rfl (ar_tmp (av_rs 20 rfl rfl))⟩,
    trivial⟩ ?_
  refine nx_sub (fs' := [.slot 2 (VP.bool false)]) [23] rfl ?_
  refine nx_then ?_
  refine t_ret ?_
  exact rt_one rfl (res_tmp 0 rfl)
set_option maxRecDepth 100000 in
set_option maxHeartbeats 4000000 in
theorem s_rightBt (x : Raw) (hl : x.2.length ≤ 100000000) (h : (strip x.2).length = x.2.length) (k : 0 < x.2.length) (ha : (x.2.any (fun d => decide (1000000000 ≤ d))) = true) : Spec Try.prog 69 [(VP.agg [VP.bool x.1, VP.nums .u32 x.2]).p] (VP.bool false) := by
  refine spec_of (xs := [VP.agg [VP.bool x.1, VP.nums .u32 x.2]]) 27 [1] Try.func69 rfl Try.ntmps69 rfl fun w0 => ?_
  refine t_seq ?_
  refine t_region (F := ⟨_, _, _, _⟩) [.slot 0 (VP.agg [VP.bool x.1, VP.nums .u32 x.2])] [] [(0, .box 1 69 [VP.bool x.1, VP.nums .u32 x.2]), (1, .slot 2 (VP.bool false))] [] [0] [] rfl rfl follow rfl ⟨
    .inl ⟨wants_plain rfl, does_box _ rfl rfl rfl rfl rfl (ar_tmp (av_fs 0 rfl))⟩,
    .inl ⟨wants_plain rfl, does_move _ (.inr rfl) rfl rfl rfl rfl (ar_const (fun _ => rfl))⟩,
    trivial⟩ ?_
  refine nx_sub (fs' := [.box 1 69 [VP.bool x.1, VP.nums .u32 x.2], .slot 2 (VP.bool false)]) [1, 2] rfl ?_
  refine nx_then ?_
  refine t_seq ?_
  refine t_region (F := ⟨_, _, _, _⟩) [.box 1 69 [VP.bool x.1, VP.nums .u32 x.2], .slot 2 (VP.bool false)] [] [(0, .fp 4 1 1), (1, .slot 5 (VP.nums .u32 x.2)), (2, .slot 3 (VP.nums .u32 x.2))] [] [0, 1] [] rfl rfl follow rfl ⟨
    .inl ⟨wants_plain rfl, does_field _ _ _ 1 ty_f1_api_Int rfl rfl rfl rfl rfl rfl rfl (pt_box (av_fs 0 rfl))⟩,
    .inl ⟨wants_plain rfl, does_loadOne _ ty_one___uint32 rfl rfl rfl rfl rfl rfl (pt_fp (av_rs 0 rfl rfl)) (av_fs 0 rfl)⟩,
    .inl ⟨wants_plain rfl, does_move _ (.inr rfl) rfl rfl rfl rfl (ar_tmp (av_rs 1 rfl rfl))⟩,
    trivial⟩ ?_
  refine nx_sub (fs' := [.box 1 69 [VP.bool x.1, VP.nums .u32 x.2], .slot 2 (VP.bool false), .slot 3 (VP.nums .u32 x.2)]) [0, 1, 4] rfl ?_
  refine nx_then ?_
  refine t_seq ?_
  refine t_region (F := ⟨_, _, _, _⟩) [.box 1 69 [VP.bool x.1, VP.nums .u32 x.2], .slot 3 (VP.nums .u32 x.2)] [(21, .slot 2 (VP.bool false))] [(0, .slot 6 (VP.nums .u32 x.2)), (1, .slot 7 (VP.nums .u32 (strip x.2))), (2, .slot 8 (VP.int .i64 ((((strip x.2)).length : Nat) : Int))), (3, .slot 9 (VP.nums .u32 x.2)), (4, .slot 10 (VP.int .i64 (((x.2).length : Nat) : Int))), (5, .slot 11 (VP.bool (((((strip x.2)).length : Nat) : Int) == (((x.2).length : Nat) : Int)))), (6, .slot 12 (VP.bool (((((strip x.2)).length : Nat) : Int) == (((x.2).length : Nat) : Int)))), (7, .slot 13 (VP.nums .u32 x.2)), (8, .slot 14 (VP.int .i64 (((x.2).length : Nat) : Int))), (9, .slot 15 (VP.bool (decide ((((x.2).length : Nat) : Int) > 0)))), (10, .slot 16 (VP.bool (decide ((((x.2).length : Nat) : Int) > 0)))), (11, .slot 17 (VP.undef)), (12, .slot 18 (VP.undef)), (13, .slot 19 (VP.undef)), (14, .slot 20 (VP.bool true)), (15, .slot 21 (VP.bool true)), (16, .slot 22 (VP.bool true)), (17, .slot 23 (VP.nums .u32 x.2)), (18, .slot 24 (VP.bool (x.2.any (fun d => decide (1000000000 ≤ d))))), (19, .slot 25 (VP.bool false)), (20, .slot 26 (VP.bool false)), (21, .slot 2 (VP.bool false))] [] [0, 2] [1] rfl rfl follow rfl ⟨
    .inl ⟨wants_plain rfl, does_move _ (.inl rfl) rfl rfl rfl rfl (ar_tmp (av_fs 1 rfl))⟩,
    .inl ⟨wants_plain rfl, does_call (s_trim x.2) rfl hb_collator_whole_digits_trim rfl rfl rfl rfl ⟨(ar_tmp (av_rs 0 rfl rfl)), trivial⟩⟩,
    .inl ⟨wants_plain rfl, does_len _ _ (by kernel_rfl) rfl rfl rfl rfl rfl (ar_tmp (av_rs 1 rfl rfl))⟩,
    .inl ⟨wants_plain rfl, does_move _ (.inl rfl) rfl rfl rfl rfl (ar_tmp (av_fs 1 rfl))⟩,
    .inl ⟨wants_plain rfl, does_len _ _ (by kernel_rfl) rfl rfl rfl rfl rfl (ar_tmp (av_rs 3 rfl rfl))⟩,
    .inl ⟨wants_plain rfl, does_cmp (m := ((((strip x.2)).length : Nat) : Int)) (n := (((x.2).length : Nat) : Int)) _ _ _ _ _ rfl rfl rfl rfl rfl rfl .i64 (ar_tmp (av_rs 2 rfl rfl)) (ar_tmp (av_rs 4 rfl rfl))⟩,
    .inl ⟨wants_plain rfl, does_move _ (.inl rfl) rfl rfl rfl rfl (ar_tmp (av_rs 5 rfl rfl))⟩,
    .inl ⟨wants_guard true rfl rfl rfl (av_bool (beq_iff_eq.2 (by omega)) (av_rs 6 rfl rfl)), does_move _ (.inl rfl) rfl rfl rfl rfl (ar_tmp (av_fs 1 rfl))⟩,
    .inl ⟨wants_guard true rfl rfl rfl (av_bool (beq_iff_eq.2 (by omega)) (av_rs 6 rfl rfl)), does_len _ _ (by kernel_rfl) rfl rfl rfl rfl rfl (ar_tmp (av_rs 7 rfl rfl))⟩,
    .inl ⟨wants_guard true rfl rfl rfl (av_bool (beq_iff_eq.2 (by omega)) (av_rs 6 rfl rfl)), does_cmp (m := (((x.2).length : Nat) : Int)) (n := 0) _ _ _ _ _ rfl rfl rfl rfl rfl rfl .i64 (ar_tmp (av_rs 8 rfl rfl)) (ar_const (fun _ => rfl))⟩,
    .inl ⟨wants_guard true rfl rfl rfl (av_bool (beq_iff_eq.2 (by omega)) (av_rs 6 rfl rfl)), does_move _ (.inl rfl) rfl rfl rfl rfl (ar_tmp (av_rs 9 rfl rfl))⟩,
    .inr (skips_guardU true rfl rfl rfl (av_bool (decide_eq_true (by omega)) (av_rs 10 rfl rfl)) rfl rfl rfl rfl),
    .inr (skips_guardU true rfl rfl rfl (av_bool (decide_eq_true (by omega)) (av_rs 10 rfl rfl)) rfl rfl rfl rfl),
    .inr (skips_guardU true rfl rfl rfl (av_bool (decide_eq_true (by omega)) (av_rs 10 rfl rfl)) rfl rfl rfl rfl),
    .inl ⟨wants_guard true rfl rfl rfl (av_bool (beq_iff_eq.2 (by omega)) (av_rs 6 rfl rfl)), does_pick true _ _ _ rfl rfl rfl rfl rfl (ar_tmp (av_bool (decide_eq_true (by omega)) (av_rs 10 rfl rfl))) (ar_const (fun _ => rfl))⟩,
    .inl ⟨wants_plain rfl, does_pick true _ _ _ rfl rfl rfl rfl rfl (ar_tmp (av_bool (beq_iff_eq.2 (by omega)) (av_rs 6 rfl rfl))) (ar_tmp (av_rs 14 rfl rfl))⟩,
    .inl ⟨wants_plain rfl, does_move _ (.inl rfl) rfl rfl rfl rfl (ar_tmp (av_rs 15 rfl rfl))⟩,
    .inl ⟨wants_guard true rfl rfl rfl (av_rs 16 rfl rfl), does_move _ (.inl rfl) rfl rfl rfl rfl (ar_tmp (av_fs 1 rfl))⟩,
    .inl ⟨wants_guard true rfl rfl rfl (av_rs 16 rfl rfl), does_call (s_contains x.2 hl) rfl hb_slices_ContainsFunc_collator_whole_digits_uint32 rfl rfl rfl rfl ⟨(ar_tmp (av_rs 17 rfl rfl)), ar_fn, trivial⟩⟩,
    .inl ⟨wants_guard true rfl rfl rfl (av_rs 16 rfl rfl), does_not true _ _ rfl rfl rfl rfl rfl (ar_tmp (av_bool ha (av_rs 18 rfl rfl)))⟩,
    .inl ⟨wants_plain rfl, does_pick true _ _ _ rfl rfl rfl rfl rfl (ar_tmp (av_rs 16 rfl rfl)) (ar_tmp (av_rs 19 rfl rfl))⟩,
    .inl ⟨wants_plain rfl, does_move _ (.inr rfl) rfl rfl rfl rfl (ar_tmp (av_rs 20 rfl rfl))⟩,
    trivial⟩ ?_
  refine nx_sub (fs' := [.slot 2 (VP.bool false)]) [23] rfl ?_
  refine nx_then ?_
  refine t_ret ?_
  exact rt_one rfl (res_tmp 0 rfl)
set_option maxRecDepth 100000 in
set_option maxHeartbeats 4000000 in
theorem s_rightBf (x : Raw) (hl : x.2.length ≤ 100000000) (h : (strip x.2).length = x.2.length) (k : 0 < x.2.length) (ha : (x.2.any (fun d => decide (1000000000 ≤ d))) = false) : Spec Try.prog 69 [(VP.agg [VP.bool x.1, VP.nums .u32 x.2]).p] (VP.bool true) := by
  refine spec_of (xs := [VP.agg [VP.bool x.1, VP.nums .u32 x.2]]) 27 [1] Try.func69 rfl Try.ntmps69 rfl fun w0 => ?_
  refine t_seq ?_
  refine t_region (F := ⟨_, _, _, _⟩) [.slot 0 (VP.agg [VP.bool x.1, VP.nums .u32 x.2])] [] [(0, .box 1 69 [VP.bool x.1, VP.nums .u32 x.2]), (1, .slot 2 (VP.bool false))] [] [0] [] rfl rfl follow rfl ⟨
    .inl ⟨wants_plain rfl, does_box _ rfl rfl rfl rfl rfl (ar_tmp (av_fs 0 rfl))⟩,
    .inl ⟨wants_plain rfl, does_move _ (.inr rfl) rfl rfl rfl rfl (ar_const (fun _ => rfl))⟩,
    trivial⟩ ?_
  refine nx_sub (fs' := [.box 1 69 [VP.bool x.1, VP.nums .u32 x.2], .slot 2 (VP.bool false)]) [1, 2] rfl ?_
  refine nx_then ?_
  refine t_seq ?_
  refine t_region (F := ⟨_, _, _, _⟩) [.box 1 69 [VP.bool x.1, VP.nums .u32 x.2], .slot 2 (VP.bool false)] [] [(0, .fp 4 1 1), (1, .slot 5 (VP.nums .u32 x.2)), (2, .slot 3 (VP.nums .u32 x.2))] [] [0, 1] [] rfl rfl follow rfl ⟨
    .inl ⟨wants_plain rfl, does_field _ _ _ 1 ty_f1_api_Int rfl rfl rfl rfl rfl rfl rfl (pt_box (av_fs 0 rfl))⟩,
    .inl ⟨wants_plain rfl, does_loadOne _ ty_one___uint32 rfl rfl rfl rfl rfl rfl (pt_fp (av_rs 0 rfl rfl)) (av_fs 0 rfl)⟩,
    .inl ⟨wants_plain rfl, does_move _ (.inr rfl) rfl rfl rfl rfl (ar_tmp (av_rs 1 rfl rfl))⟩,
    trivial⟩ ?_
  refine nx_sub (fs' := [.box 1 69 [VP.bool x.1, VP.nums .u32 x.2], .slot 2 (VP.bool false), .slot 3 (VP.nums .u32 x.2)]) [0, 1, 4] rfl ?_
  refine nx_then ?_
  refine t_seq ?_
  refine t_region (F := ⟨_, _, _, _⟩) [.box 1 69 [VP.bool x.1, VP.nums .u32 x.2], .slot 3 (VP.nums .u32 x.2)] [(21, .slot 2 (VP.bool false))] [(0, .slot 6 (VP.nums .u32 x.2)), (1, .slot 7 (VP.nums .u32 (strip x.2))), (2, .slot 8 (VP.int .i64 ((((strip x.2)).length : Nat) : Int))), (3, .slot 9 (VP.nums .u32 x.2)), (4, .slot 10 (VP.int .i64 (((x.2).length : Nat) : Int))), (5, .slot 11 (VP.bool (((((strip x.2)).length : Nat) : Int) == (((x.2).length : Nat) : Int)))), (6, .slot 12 (VP.bool (((((strip x.2)).length : Nat) : Int) == (((x.2).length : Nat) : Int)))), (7, .slot 13 (VP.nums .u32 x.2)), (8, .slot 14 (VP.int .i64 (((x.2).length : Nat) : Int))), (9, .slot 15 (VP.bool (decide ((((x.2).length : Nat) : Int) > 0)))), (10, .slot 16 (VP.bool (decide ((((x.2).length : Nat) : Int) > 0)))), (11, .slot 17 (VP.undef)), (12, .slot 18 (VP.undef)), (13, .slot 19 (VP.undef)), (14, .slot 20 (VP.bool true)), (15, .slot 21 (VP.bool true)), (16, .slot 22 (VP.bool true)), (17, .slot 23 (VP.nums .u32 x.2)), (18, .slot 24 (VP.bool (x.2.any (fun d => decide (1000000000 ≤ d))))), (19, .slot 25 (VP.bool true)), (20, .slot 26 (VP.bool true)), (21, .slot 2 (VP.bool true))] [] [0, 2] [1] rfl rfl follow rfl ⟨
    .inl ⟨wants_plain rfl, does_move _ (.inl rfl) rfl rfl rfl rfl (ar_tmp (av_fs 1 rfl))⟩,
    .inl ⟨wants_plain rfl, does_call (s_trim x.2) rfl hb_collator_whole_digits_trim rfl rfl rfl rfl ⟨(ar_tmp (av_rs 0 rfl rfl)), trivial⟩⟩,
    .inl ⟨wants_plain rfl, does_len _ _ (by kernel_rfl) rfl rfl rfl rfl rfl (ar_tmp (av_rs 1 rfl rfl))⟩,
    .inl ⟨wants_plain rfl, does_move _ (.inl rfl) rfl rfl rfl rfl (ar_tmp (av_fs 1 rfl))⟩,
    .inl ⟨wants_plain rfl, does_len _ _ (by kernel_rfl) rfl rfl rfl rfl rfl (ar_tmp (av_rs 3 rfl rfl))⟩,
    .inl ⟨wants_plain rfl, does_cmp (m := ((((strip x.2)).length : Nat) : Int)) (n := (((x.2).length : Nat) : Int)) _ _ _ _ _ rfl rfl rfl rfl rfl rfl .i64 (ar_tmp (av_rs 2 rfl rfl)) (ar_tmp (av_rs 4 rfl rfl))⟩,
    .inl ⟨wants_plain rfl, does_move _ (.inl rfl) rfl rfl rfl rfl (ar_tmp (av_rs 5 rfl rfl))⟩,
    .inl ⟨wants_guard true rfl rfl rfl (av_bool (beq_iff_eq.2 (by omega)) (av_rs 6 rfl rfl)), does_move _ (.inl rfl) rfl rfl rfl rfl (ar_tmp (av_fs 1 rfl))⟩,
    .inl ⟨wants_guard true rfl rfl rfl (av_bool (beq_iff_eq.2 (by omega)) (av_rs 6 rfl rfl)), does_len _ _ (by kernel_rfl) rfl rfl rfl rfl rfl (ar_tmp (av_rs 7 rfl rfl))⟩,
    .inl ⟨wants_guard true rfl rfl rfl (av_bool (beq_iff_eq.2 (by omega)) (av_rs 6 rfl rfl)), does_cmp (m := (((x.2).length : Nat) : Int)) (n := 0) _ _ _ _ _ rfl rfl rfl rfl rfl rfl .i64 (ar_tmp (av_rs 8 rfl rfl)) (ar_const (fun _ => rfl))⟩,
    .inl ⟨wants_guard true rfl rfl rfl (av_bool (beq_iff_eq.2 (by omega)) (av_rs 6 rfl rfl)), does_move _ (.inl rfl) rfl rfl rfl rfl (ar_tmp (av_rs 9 rfl rfl))⟩,
    .inr (skips_guardU true rfl rfl rfl (av_bool (decide_eq_true (by omega)) (av_rs 10 rfl rfl)) rfl rfl rfl rfl),
    .inr (skips_guardU true rfl rfl rfl (av_bool (decide_eq_true (by omega)) (av_rs 10 rfl rfl)) rfl rfl rfl rfl),
    .inr (skips_guardU true rfl rfl rfl (av_bool (decide_eq_true (by omega)) (av_rs 10 rfl rfl)) rfl rfl rfl rfl),
    .inl ⟨wants_guard true rfl rfl rfl (av_bool (beq_iff_eq.2 (by omega)) (av_rs 6 rfl rfl)), does_pick true _ _ _ rfl rfl rfl rfl rfl (ar_tmp (av_bool (decide_eq_true (by omega)) (av_rs 10 rfl rfl))) (ar_const (fun _ => rfl))⟩,
    .inl ⟨wants_plain rfl, does_pick true _ _ _ rfl rfl rfl rfl rfl (ar_tmp (av_bool (beq_iff_eq.2 (by omega)) (av_rs 6 rfl rfl))) (ar_tmp (av_rs 14 rfl rfl))⟩,
    .inl ⟨wants_plain rfl, does_move _ (.inl rfl) rfl rfl rfl rfl (ar_tmp (av_rs 15 rfl rfl))⟩,
    .inl ⟨wants_guard true rfl rfl rfl (av_rs 16 rfl rfl), does_move _ (.inl rfl) rfl rfl rfl rfl (ar_tmp (av_fs 1 rfl))⟩,
    .inl ⟨wants_guard true rfl rfl rfl (av_rs 16 rfl rfl), does_call (s_contains x.2 hl) rfl hb_slices_ContainsFunc_collator_whole_digits_uint32 rfl rfl rfl rfl ⟨(ar_tmp (av_rs 17 rfl rfl)), ar_fn, trivial⟩⟩,
    .inl ⟨wants_guard true rfl rfl rfl (av_rs 16 rfl rfl), does_not false _ _ rfl rfl rfl rfl rfl (ar_tmp (av_bool ha (av_rs 18 rfl rfl)))⟩,
    .inl ⟨wants_plain rfl, does_pick true _ _ _ rfl rfl rfl rfl rfl (ar_tmp (av_rs 16 rfl rfl)) (ar_tmp (av_rs 19 rfl rfl))⟩,
    .inl ⟨wants_plain rfl, does_move _ (.inr rfl) rfl rfl rfl rfl (ar_tmp (av_rs 20 rfl rfl))⟩,
    trivial⟩ ?_
  refine nx_sub (fs' := [.slot 2 (VP.bool true)]) [23] rfl ?_
  refine nx_then ?_
  refine t_ret ?_
  exact rt_one rfl (res_tmp 0 rfl)
set_option maxRecDepth 100000 in
set_option maxHeartbeats 4000000 in
theorem s_rightCt (x : Raw) (hl : x.2.length ≤ 100000000) (h : (strip x.2).length = x.2.length) (k : ¬ 0 < x.2.length) (hs : x.1 = false) (ha : (x.2.any (fun d => decide (1000000000 ≤ d))) = true) : Spec Try.prog 69 [(VP.agg [VP.bool x.1, VP.nums .u32 x.2]).p] (VP.bool false) := by
  refine spec_of (xs := [VP.agg [VP.bool x.1, VP.nums .u32 x.2]]) 27 [1] Try.func69 rfl Try.ntmps69 rfl fun w0 => ?_
  refine t_seq ?_
  refine t_region (F := ⟨_, _, _, _⟩) [.slot 0 (VP.agg [VP.bool x.1, VP.nums .u32 x.2])] [] [(0, .box 1 69 [VP.bool x.1, VP.nums .u32 x.2]), (1, .slot 2 (VP.bool false))] [] [0] [] rfl rfl follow rfl ⟨
    .inl ⟨wants_plain rfl, does_box _ rfl rfl rfl rfl rfl (ar_tmp (av_fs 0 rfl))⟩,
    .inl ⟨wants_plain rfl, does_move _ (.inr rfl) rfl rfl rfl rfl (ar_const (fun _ => rfl))⟩,
    trivial⟩ ?_
  refine nx_sub (fs' := [.box 1 69 [VP.bool x.1, VP.nums .u32 x.2], .slot 2 (VP.bool false)]) [1, 2] rfl ?_
  refine nx_then ?_
  refine t_seq ?_
  refine t_region (F := ⟨_, _, _, _⟩) [.box 1 69 [VP.bool x.1, VP.nums .u32 x.2], .slot 2 (VP.bool false)] [] [(0, .fp 4 1 1), (1, .slot 5 (VP.nums .u32 x.2)), (2, .slot 3 (VP.nums .u32 x.2))] [] [0, 1] [] rfl rfl follow rfl ⟨
    .inl ⟨wants_plain rfl, does_field _ _ _ 1 ty_f1_api_Int rfl rfl rfl rfl rfl rfl rfl (pt_box (av_fs 0 rfl))⟩,
    .inl ⟨wants_plain rfl, does_loadOne _ ty_one___uint32 rfl rfl rfl rfl rfl rfl (pt_fp (av_rs 0 rfl rfl)) (av_fs 0 rfl)⟩,
    .inl ⟨wants_plain rfl, does_move _ (.inr rfl) rfl rfl rfl rfl (ar_tmp (av_rs 1 rfl rfl))⟩,
    trivial⟩ ?_
  refine nx_sub (fs' := [.box 1 69 [VP.bool x.1, VP.nums .u32 x.2], .slot 2 (VP.bool false), .slot 3 (VP.nums .u32 x.2)]) [0, 1, 4] rfl ?_
  refine nx_then ?_
  refine t_seq ?_
  refine t_region (F := ⟨_, _, _, _⟩) [.box 1 69 [VP.bool x.1, VP.nums .u32 x.2], .slot 3 (VP.nums .u32 x.2)] [(21, .slot 2 (VP.bool false))] [(0, .slot 6 (VP.nums .u32 x.2)), (1, .slot 7 (VP.nums .u32 (strip x.2))), (2, .slot 8 (VP.int .i64 ((((strip x.2)).length : Nat) : Int))), (3, .slot 9 (VP.nums .u32 x.2)), (4, .slot 10 (VP.int .i64 (((x.2).length : Nat) : Int))), (5, .slot 11 (VP.bool (((((strip x.2)).length : Nat) : Int) == (((x.2).length : Nat) : Int)))), (6, .slot 12 (VP.bool (((((strip x.2)).length : Nat) : Int) == (((x.2).length : Nat) : Int)))), (7, .slot 13 (VP.nums .u32 x.2)), (8, .slot 14 (VP.int .i64 (((x.2).length : Nat) : Int))), (9, .slot 15 (VP.bool (decide ((((x.2).length : Nat) : Int) > 0)))), (10, .slot 16 (VP.bool (decide ((((x.2).length : Nat) : Int) > 0)))), (11, .fp 17 1 0), (12, .slot 18 (VP.bool x.1)), (13, .slot 19 (VP.bool true)), (14, .slot 20 (VP.bool true)), (15, .slot 21 (VP.bool true)), (16, .slot 22 (VP.bool true)), (17, .slot 23 (VP.nums .u32 x.2)), (18, .slot 24 (VP.bool (x.2.any (fun d => decide (1000000000 ≤ d))))), (19, .slot 25 (VP.bool false)), (20, .slot 26 (VP.bool false)), (21, .slot 2 (VP.bool false))] [] [0, 2] [1] rfl rfl follow rfl ⟨
    .inl ⟨wants_plain rfl, does_move _ (.inl rfl) rfl rfl rfl rfl (ar_tmp (av_fs 1 rfl))⟩,
    .inl ⟨wants_plain rfl, does_call (s_trim x.2) rfl hb_collator_whole_digits_trim rfl rfl rfl rfl ⟨(ar_tmp (av_rs 0 rfl rfl)), trivial⟩⟩,
    .inl ⟨wants_plain rfl, does_len _ _ (by kernel_rfl) rfl rfl rfl rfl rfl (ar_tmp (av_rs 1 rfl rfl))⟩,
    .inl ⟨wants_plain rfl, does_move _ (.inl rfl) rfl rfl rfl rfl (ar_tmp (av_fs 1 rfl))⟩,
    .inl ⟨wants_plain rfl, does_len _ _ (by kernel_rfl) rfl rfl rfl rfl rfl (ar_tmp (av_rs 3 rfl rfl))⟩,
    .inl ⟨wants_plain rfl, does_cmp (m := ((((strip x.2)).length : Nat) : Int)) (n := (((x.2).length : Nat) : Int)) _ _ _ _ _ rfl rfl rfl rfl rfl rfl .i64 (ar_tmp (av_rs 2 rfl rfl)) (ar_tmp (av_rs 4 rfl rfl))⟩,
    .inl ⟨wants_plain rfl, does_move _ (.inl rfl) rfl rfl rfl rfl (ar_tmp (av_rs 5 rfl rfl))⟩,
    .inl ⟨wants_guard true rfl rfl rfl (av_bool (beq_iff_eq.2 (by omega)) (av_rs 6 rfl rfl)), does_move _ (.inl rfl) rfl rfl rfl rfl (ar_tmp (av_fs 1 rfl))⟩,
    .inl ⟨wants_guard true rfl rfl rfl (av_bool (beq_iff_eq.2 (by omega)) (av_rs 6 rfl rfl)), does_len _ _ (by kernel_rfl) rfl rfl rfl rfl rfl (ar_tmp (av_rs 7 rfl rfl))⟩,
    .inl ⟨wants_guard true rfl rfl rfl (av_bool (beq_iff_eq.2 (by omega)) (av_rs 6 rfl rfl)), does_cmp (m := (((x.2).length : Nat) : Int)) (n := 0) _ _ _ _ _ rfl rfl rfl rfl rfl rfl .i64 (ar_tmp (av_rs 8 rfl rfl)) (ar_const (fun _ => rfl))⟩,
    .inl ⟨wants_guard true rfl rfl rfl (av_bool (beq_iff_eq.2 (by omega)) (av_rs 6 rfl rfl)), does_move _ (.inl rfl) rfl rfl rfl rfl (ar_tmp (av_rs 9 rfl rfl))⟩,
    .inl ⟨wants_guard false rfl rfl rfl (av_bool (decide_eq_false (by omega)) (av_rs 10 rfl rfl)), does_field _ _ _ 0 ty_f0_api_Int rfl rfl rfl rfl rfl rfl rfl (pt_box (av_fs 0 rfl))⟩,
    .inl ⟨wants_guard false rfl rfl rfl (av_bool (decide_eq_false (by omega)) (av_rs 10 rfl rfl)), does_loadOne _ ty_one_bool rfl rfl rfl rfl rfl rfl (pt_fp (av_rs 11 rfl rfl)) (av_fs 0 rfl)⟩,
    .inl ⟨wants_guard false rfl rfl rfl (av_bool (decide_eq_false (by omega)) (av_rs 10 rfl rfl)), does_not false _ _ rfl rfl rfl rfl rfl (ar_tmp (av_bool hs (av_rs 12 rfl rfl)))⟩,
    .inl ⟨wants_guard true rfl rfl rfl (av_bool (beq_iff_eq.2 (by omega)) (av_rs 6 rfl rfl)), does_pick false _ _ _ rfl rfl rfl rfl rfl (ar_tmp (av_bool (decide_eq_false (by omega)) (av_rs 10 rfl rfl))) (ar_tmp (av_rs 13 rfl rfl))⟩,
    .inl ⟨wants_plain rfl, does_pick true _ _ _ rfl rfl rfl rfl rfl (ar_tmp (av_bool (beq_iff_eq.2 (by omega)) (av_rs 6 rfl rfl))) (ar_tmp (av_rs 14 rfl rfl))⟩,
    .inl ⟨wants_plain rfl, does_move _ (.inl rfl) rfl rfl rfl rfl (ar_tmp (av_rs 15 rfl rfl))⟩,
    .inl ⟨wants_guard true rfl rfl rfl (av_rs 16 rfl rfl), does_move _ (.inl rfl) rfl rfl rfl rfl (ar_tmp (av_fs 1 rfl))⟩,
    .inl ⟨wants_guard true rfl rfl rfl (av_rs 16 rfl rfl), does_call (s_contains x.2 hl) rfl hb_slices_ContainsFunc_collator_whole_digits_uint32 rfl rfl rfl rfl ⟨(ar_tmp (av_rs 17 rfl rfl)), ar_fn, trivial⟩⟩,
    .inl ⟨wants_guard true rfl rfl rfl (av_rs 16 rfl rfl), does_not true _ _ rfl rfl rfl rfl rfl (ar_tmp (av_bool ha (av_rs 18 rfl rfl)))⟩,
    .inl ⟨wants_plain rfl, does_pick true _ _ _ rfl rfl rfl rfl rfl (ar_tmp (av_rs 16 rfl rfl)) (ar_tmp (av_rs 19 rfl rfl))⟩,
    .inl ⟨wants_plain rfl, does_move _ (.inr rfl) rfl rfl rfl rfl (ar_tmp (av_rs 20 rfl rfl))⟩,
    trivial⟩ ?_
  refine nx_sub (fs' := [.slot 2 (VP.bool false)]) [23] rfl ?_
  refine nx_then ?_
  refine t_ret ?_
  exact rt_one rfl (res_tmp 0 rfl)
set_option maxRecDepth 100000 in
set_option maxHeartbeats 4000000 in
theorem s_rightCf (x : Raw) (hl : x.2.length ≤ 100000000) (h : (strip x.2).length = x.2.length) (k : ¬ 0 < x.2.length) (hs : x.1 = false) (ha : (x.2.any (fun d => decide (1000000000 ≤ d))) = false) : Spec Try.prog 69 [(VP.agg [VP.bool x.1, VP.nums .u32 x.2]).p] (VP.bool true) := by
  refine spec_of (xs := [VP.agg [VP.bool x.1, VP.nums .u32 x.2]]) 27 [1] Try.func69 rfl Try.ntmps69 rfl fun w0 => ?_
  refine t_seq ?_
  refine t_region (F := ⟨_, _, _, _⟩) [.slot 0 (VP.agg [VP.bool x.1, VP.nums .u32 x.2])] [] [(0, .box 1 69 [VP.bool x.1, VP.nums .u32 x.2]), (1, .slot 2 (VP.bool false))] [] [0] [] rfl rfl follow rfl ⟨
    .inl ⟨wants_plain rfl, does_box _ rfl rfl rfl rfl rfl (ar_tmp (av_fs 0 rfl))⟩,
    .inl ⟨wants_plain rfl, does_move _ (.inr rfl) rfl rfl rfl rfl (ar_const (fun _ => rfl))⟩,
    trivial⟩ ?_
  refine nx_sub (fs' := [.box 1 69 [VP.bool x.1, VP.nums .u32 x.2], .slot 2 (VP.bool false)]) [1, 2] rfl ?_
  refine nx_then ?_
  refine t_seq ?_
  refine t_region (F := ⟨_, _, _, _⟩) [.box 1 69 [VP.bool x.1, VP.nums .u32 x.2], .slot 2 (VP.bool false)] [] [(0, .fp 4 1 1), (1, .slot 5 (VP.nums .u32 x.2)), (2, .slot 3 (VP.nums .u32 x.2))] [] [0, 1] [] rfl rfl follow rfl ⟨
    .inl ⟨wants_plain rfl, does_field _ _ _ 1 ty_f1_api_Int rfl rfl rfl rfl rfl rfl rfl (pt_box (av_fs 0 rfl))⟩,
    .inl ⟨wants_plain rfl, does_loadOne _ ty_one___uint32 rfl rfl rfl rfl rfl rfl (pt_fp (av_rs 0 rfl rfl)) (av_fs 0 rfl)⟩,
    .inl ⟨wants_plain rfl, does_move _ (.inr rfl) rfl rfl rfl rfl (ar_tmp (av_rs 1 rfl rfl))⟩,
    trivial⟩ ?_
  refine nx_sub (fs' := [.box 1 69 [VP.bool x.1, VP.nums .u32 x.2], .slot 2 (VP.bool false), .slot 3 (VP.nums .u32 x.2)]) [0, 1, 4] rfl ?_
  refine nx_then ?_
  refine t_seq ?_
  refine t_region (F := ⟨_, _, _, _⟩) [.box 1 69 [VP.bool x.1, VP.nums .u32 x.2], .slot 3 (VP.nums .u32 x.2)] [(21, .slot 2 (VP.bool false))] [(0, .slot 6 (VP.nums .u32 x.2)), (1, .slot 7 (VP.nums .u32 (strip x.2))), (2, .slot 8 (VP.int .i64 ((((strip x.2)).length : Nat) : Int))), (3, .slot 9 (VP.nums .u32 x.2)), (4, .slot 10 (VP.int .i64 (((x.2).length : Nat) : Int))), (5, .slot 11 (VP.bool (((((strip x.2)).length : Nat) : Int) == (((x.2).length : Nat) : Int)))), (6, .slot 12 (VP.bool (((((strip x.2)).length : Nat) : Int) == (((x.2).length : Nat) : Int)))), (7, .slot 13 (VP.nums .u32 x.2)), (8, .slot 14 (VP.int .i64 (((x.2).length : Nat) : Int))), (9, .slot 15 (VP.bool (decide ((((x.2).length : Nat) : Int) > 0)))), (10, .slot 16 (VP.bool (decide ((((x.2).length : Nat) : Int) > 0)))), (11, .fp 17 1 0), (12, .slot 18 (VP.bool x.1)), (13, .slot 19 (VP.bool true)), (14, .slot 20 (VP.bool true)), (15, .slot 21 (VP.bool true)), (16, .slot 22 (VP.bool true)), (17, .slot 23 (VP.nums .u32 x.2)), (18, .slot 24 (VP.bool (x.2.any (fun d => decide (1000000000 ≤ d))))), (19, .slot 25 (VP.bool true)), (20, .slot 26 (VP.bool true)), (21, .slot 2 (VP.bool true))] [] [0, 2] [1] rfl rfl follow rfl ⟨
    .inl ⟨wants_plain rfl, does_move _ (.inl rfl) rfl rfl rfl rfl (ar_tmp (av_fs 1 rfl))⟩,
    .inl ⟨wants_plain rfl, does_call (s_trim x.2) rfl hb_collator_whole_digits_trim rfl rfl rfl rfl ⟨(ar_tmp (av_rs 0 rfl rfl)), trivial⟩⟩,
    .inl ⟨wants_plain rfl, does_len _ _ (by kernel_rfl) rfl rfl rfl rfl rfl (ar_tmp (av_rs 1 rfl rfl))⟩,
    .inl ⟨wants_plain rfl, does_move _ (.inl rfl) rfl rfl rfl rfl (ar_tmp (av_fs 1 rfl))⟩,
    .inl ⟨wants_plain rfl, does_len _ _ (by kernel_rfl) rfl rfl rfl rfl rfl (ar_tmp (av_rs 3 rfl rfl))⟩,
    .inl ⟨wants_plain rfl, does_cmp (m := ((((strip x.2)).length : Nat) : Int)) (n := (((x.2).length : Nat) : Int)) _ _ _ _ _ rfl rfl rfl rfl rfl rfl .i64 (ar_tmp (av_rs 2 rfl rfl)) (ar_tmp (av_rs 4 rfl rfl))⟩,
    .inl ⟨wants_plain rfl, does_move _ (.inl rfl) rfl rfl rfl rfl (ar_tmp (av_rs 5 rfl rfl))⟩,
    .inl ⟨wants_guard true rfl rfl rfl (av_bool (beq_iff_eq.2 (by omega)) (av_rs 6 rfl rfl)), does_move _ (.inl rfl) rfl rfl rfl rfl (ar_tmp (av_fs 1 rfl))⟩,
    .inl ⟨wants_guard true rfl rfl rfl (av_bool (beq_iff_eq.2 (by omega)) (av_rs 6 rfl rfl)), does_len _ _ (by kernel_rfl) rfl rfl rfl rfl rfl (ar_tmp (av_rs 7 rfl rfl))⟩,
    .inl ⟨wants_guard true rfl rfl rfl (av_bool (beq_iff_eq.2 (by omega)) (av_rs 6 rfl rfl)), does_cmp (m := (((x.2).length : Nat) : Int)) (n := 0) _ _ _ _ _ rfl rfl rfl rfl rfl rfl .i64 (ar_tmp (av_rs 8 rfl rfl)) (ar_const (fun _ => rfl))⟩,
    .inl ⟨wants_guard true rfl rfl rfl (av_bool (beq_iff_eq.2 (by omega)) (av_rs 6 rfl rfl)), does_move _ (.inl rfl) rfl rfl rfl rfl (ar_tmp (av_rs 9 rfl rfl))⟩,
    .inl ⟨wants_guard false rfl rfl rfl (av_bool (decide_eq_false (by omega)) (av_rs 10 rfl rfl)), does_field _ _ _ 0 ty_f0_api_Int rfl rfl rfl rfl rfl rfl rfl (pt_box (av_fs 0 rfl))⟩,
    .inl ⟨wants_guard false rfl rfl rfl (av_bool (decide_eq_false (by omega)) (av_rs 10 rfl rfl)), does_loadOne _ ty_one_bool rfl rfl rfl rfl rfl rfl (pt_fp (av_rs 11 rfl rfl)) (av_fs 0 rfl)⟩,
    .inl ⟨wants_guard false rfl rfl rfl (av_bool (decide_eq_false (by omega)) (av_rs 10 rfl rfl)), does_not false _ _ rfl rfl rfl rfl rfl (ar_tmp (av_bool hs (av_rs 12 rfl rfl)))⟩,
    .inl ⟨wants_guard true rfl rfl rfl (av_bool (beq_iff_eq.2 (by omega)) (av_rs 6 rfl rfl)), does_pick false _ _ _ rfl rfl rfl rfl rfl (ar_tmp (av_bool (decide_eq_false (by omega)) (av_rs 10 rfl rfl))) (ar_tmp (av_rs 13 rfl rfl))⟩,
    .inl ⟨wants_plain rfl, does_pick true _ _ _ rfl rfl rfl rfl rfl (ar_tmp (av_bool (beq_iff_eq.2 (by omega)) (av_rs 6 rfl rfl))) (ar_tmp (av_rs 14 rfl rfl))⟩,
    .inl ⟨wants_plain rfl, does_move _ (.inl rfl) rfl rfl rfl rfl (ar_tmp (av_rs 15 rfl rfl))⟩,
    .inl ⟨wants_guard true rfl rfl rfl (av_rs 16 rfl rfl), does_move _ (.inl rfl) rfl rfl rfl rfl (ar_tmp (av_fs 1 rfl))⟩,
    .inl ⟨wants_guard true rfl rfl rfl (av_rs 16 rfl rfl), does_call (s_contains x.2 hl) rfl hb_slices_ContainsFunc_collator_whole_digits_uint32 rfl rfl rfl rfl ⟨(ar_tmp (av_rs 17 rfl rfl)), ar_fn, trivial⟩⟩,
    .inl ⟨wants_guard true rfl rfl rfl (av_rs 16 rfl rfl), does_not false _ _ rfl rfl rfl rfl rfl (ar_tmp (av_bool ha (av_rs 18 rfl rfl)))⟩,
    .inl ⟨wants_plain rfl, does_pick true _ _ _ rfl rfl rfl rfl rfl (ar_tmp (av_rs 16 rfl rfl)) (ar_tmp (av_rs 19 rfl rfl))⟩,
    .inl ⟨wants_plain rfl, does_move _ (.inr rfl) rfl rfl rfl rfl (ar_tmp (av_rs 20 rfl rfl))⟩,
    trivial⟩ ?_
  refine nx_sub (fs' := [.slot 2 (VP.bool true)]) [23] rfl ?_
  refine nx_then ?_
  refine t_ret ?_
  exact rt_one rfl (res_tmp 0 rfl)
set_option maxRecDepth 100000 in
set_option maxHeartbeats 4000000 in
theorem s_rightD (x : Raw) (hl : x.2.length ≤ 100000000) (h : (strip x.2).length = x.2.length) (k : ¬ 0 < x.2.length) (hs : x.1 = true) : Spec Try.prog 69 [(VP.agg [VP.bool x.1, VP.nums .u32 x.2]).p] (VP.bool false) := by
  refine spec_of (xs := [VP.agg [VP.bool x.1, VP.nums .u32 x.2]]) 27 [1] Try.func69 rfl Try.ntmps69 rfl fun w0 => ?_
  refine t_seq ?_
  refine t_region (F := ⟨_, _, _, _⟩) [.slot 0 (VP.agg [VP.bool x.1, VP.nums .u32 x.2])] [] [(0, .box 1 69 [VP.bool x.1, VP.nums .u32 x.2]), (1, .slot 2 (VP.bool false))] [] [0] [] rfl rfl follow rfl ⟨
    .inl ⟨wants_plain rfl, does_box _ rfl rfl rfl rfl rfl (ar_tmp (av_fs 0 rfl))⟩,
    .inl ⟨wants_plain rfl, does_move _ (.inr rfl) rfl rfl rfl rfl (ar_const (fun _ => rfl))⟩,
    trivial⟩ ?_
  refine nx_sub (fs' := [.box 1 69 [VP.bool x.1, VP.nums .u32 x.2], .slot 2 (VP.bool false)]) [1, 2] rfl ?_
  refine nx_then ?_
  refine t_seq ?_
  refine t_region (F := ⟨_, _, _, _⟩) [.box 1 69 [VP.bool x.1, VP.nums .u32 x.2], .slot 2 (VP.bool false)] [] [(0, .fp 4 1 1), (1, .slot 5 (VP.nums .u32 x.2)), (2, .slot 3 (VP.nums .u32 x.2))] [] [0, 1] [] rfl rfl follow rfl ⟨
    .inl ⟨wants_plain rfl, does_field _ _ _ 1 ty_f1_api_Int rfl rfl rfl rfl rfl rfl rfl (pt_box (av_fs 0 rfl))⟩,
    .inl ⟨wants_plain rfl, does_loadOne _ ty_one___uint32 rfl rfl rfl rfl rfl rfl (pt_fp (av_rs 0 rfl rfl)) (av_fs 0 rfl)⟩,
    .inl ⟨wants_plain rfl, does_move _ (.inr rfl) rfl rfl rfl rfl (ar_tmp (av_rs 1 rfl rfl))⟩,
    trivial⟩ ?_
  refine nx_sub (fs' := [.box 1 69 [VP.bool x.1, VP.nums .u32 x.2], .slot 2 (VP.bool false), .slot 3 (VP.nums .u32 x.2)]) [0, 1, 4] rfl ?_
  refine nx_then ?_
  refine t_seq ?_
  refine t_region (F := ⟨_, _, _, _⟩) [.box 1 69 [VP.bool x.1, VP.nums .u32 x.2], .slot 3 (VP.nums .u32 x.2)] [(21, .slot 2 (VP.bool false))] [(0, .slot 6 (VP.nums .u32 x.2)), (1, .slot 7 (VP.nums .u32 (strip x.2))), (2, .slot 8 (VP.int .i64 ((((strip x.2)).length : Nat) : Int))), (3, .slot 9 (VP.nums .u32 x.2)), (4, .slot 10 (VP.int .i64 (((x.2).length : Nat) : Int))), (5, .slot 11 (VP.bool (((((strip x.2)).length : Nat) : Int) == (((x.2).length : Nat) : Int)))), (6, .slot 12 (VP.bool (((((strip x.2)).length : Nat) : Int) == (((x.2).length : Nat) : Int)))), (7, .slot 13 (VP.nums .u32 x.2)), (8, .slot 14 (VP.int .i64 (((x.2).length : Nat) : Int))), (9, .slot 15 (VP.bool (decide ((((x.2).length : Nat) : Int) > 0)))), (10, .slot 16 (VP.bool (decide ((((x.2).length : Nat) : Int) > 0)))), (11, .fp 17 1 0), (12, .slot 18 (VP.bool x.1)), (13, .slot 19 (VP.bool false)), (14, .slot 20 (VP.bool false)), (15, .slot 21 (VP.bool false)), (16, .slot 22 (VP.bool false)), (17, .slot 23 (VP.undef)), (18, .slot 24 (VP.undef)), (19, .slot 25 (VP.undef)), (20, .slot 26 (VP.bool false)), (21, .slot 2 (VP.bool false))] [] [0, 2] [1] rfl rfl follow rfl ⟨
    .inl ⟨wants_plain rfl, does_move _ (.inl rfl) rfl rfl rfl rfl (ar_tmp (av_fs 1 rfl))⟩,
    .inl ⟨wants_plain rfl, does_call (s_trim x.2) rfl hb_collator_whole_digits_trim rfl rfl rfl rfl ⟨(ar_tmp (av_rs 0 rfl rfl)), trivial⟩⟩,
    .inl ⟨wants_plain rfl, does_len _ _ (by kernel_rfl) rfl rfl rfl rfl rfl (ar_tmp (av_rs 1 rfl rfl))⟩,
    .inl ⟨wants_plain rfl, does_move _ (.inl rfl) rfl rfl rfl rfl (ar_tmp (av_fs 1 rfl))⟩,
    .inl ⟨wants_plain rfl, does_len _ _ (by kernel_rfl) rfl rfl rfl rfl rfl (ar_tmp (av_rs 3 rfl rfl))⟩,
    .inl ⟨wants_plain rfl, does_cmp (m := ((((strip x.2)).length : Nat) : Int)) (n := (((x.2).length : Nat) : Int)) _ _ _ _ _ rfl rfl rfl rfl rfl rfl .i64 (ar_tmp (av_rs 2 rfl rfl)) (ar_tmp (av_rs 4 rfl rfl))⟩,
    .inl ⟨wants_plain rfl, does_move _ (.inl rfl) rfl rfl rfl rfl (ar_tmp (av_rs 5 rfl rfl))⟩,
    .inl ⟨wants_guard true rfl rfl rfl (av_bool (beq_iff_eq.2 (by omega)) (av_rs 6 rfl rfl)), does_move _ (.inl rfl) rfl rfl rfl rfl (ar_tmp (av_fs 1 rfl))⟩,
    .inl ⟨wants_guard true rfl rfl rfl (av_bool (beq_iff_eq.2 (by omega)) (av_rs 6 rfl rfl)), does_len _ _ (by kernel_rfl) rfl rfl rfl rfl rfl (ar_tmp (av_rs 7 rfl rfl))⟩,
    .inl ⟨wants_guard true rfl rfl rfl (av_bool (beq_iff_eq.2 (by omega)) (av_rs 6 rfl rfl)), does_cmp (m := (((x.2).length : Nat) : Int)) (n := 0) _ _ _ _ _ rfl rfl rfl rfl rfl rfl .i64 (ar_tmp (av_rs 8 rfl rfl)) (ar_const (fun _ => rfl))⟩,
    .inl ⟨wants_guard true rfl rfl rfl (av_bool (beq_iff_eq.2 (by omega)) (av_rs 6 rfl rfl)), does_move _ (.inl rfl) rfl rfl rfl rfl (ar_tmp (av_rs 9 rfl rfl))⟩,
    .inl ⟨wants_guard false rfl rfl rfl (av_bool (decide_eq_false (by omega)) (av_rs 10 rfl rfl)), does_field _ _ _ 0 ty_f0_api_Int rfl rfl rfl rfl rfl rfl rfl (pt_box (av_fs 0 rfl))⟩,
    .inl ⟨wants_guard false rfl rfl rfl (av_bool (decide_eq_false (by omega)) (av_rs 10 rfl rfl)), does_loadOne _ ty_one_bool rfl rfl rfl rfl rfl rfl (pt_fp (av_rs 11 rfl rfl)) (av_fs 0 rfl)⟩,
    .inl ⟨wants_guard false rfl rfl rfl (av_bool (decide_eq_false (by omega)) (av_rs 10 rfl rfl)), does_not true _ _ rfl rfl rfl rfl rfl (ar_tmp (av_bool hs (av_rs 12 rfl rfl)))⟩,
    .inl ⟨wants_guard true rfl rfl rfl (av_bool (beq_iff_eq.2 (by omega)) (av_rs 6 rfl rfl)), does_pick false _ _ _ rfl rfl rfl rfl rfl (ar_tmp (av_bool (decide_eq_false (by omega)) (av_rs 10 rfl rfl))) (ar_tmp (av_rs 13 rfl rfl))⟩,
    .inl ⟨wants_plain rfl, does_pick true _ _ _ rfl rfl rfl rfl rfl (ar_tmp (av_bool (beq_iff_eq.2 (by omega)) (av_rs 6 rfl rfl))) (ar_tmp (av_rs 14 rfl rfl))⟩,
    .inl ⟨wants_plain rfl, does_move _ (.inl rfl) rfl rfl rfl rfl (ar_tmp (av_rs 15 rfl rfl))⟩,
    .inr (skips_guardU false rfl rfl rfl (av_rs 16 rfl rfl) rfl rfl rfl rfl),
    .inr (skips_guardU false rfl rfl rfl (av_rs 16 rfl rfl) rfl rfl rfl rfl),
    .inr (skips_guardU false rfl rfl rfl (av_rs 16 rfl rfl) rfl rfl rfl rfl),
    .inl ⟨wants_plain rfl, does_pick false _ _ _ rfl rfl rfl rfl rfl (ar_tmp (av_rs 16 rfl rfl)) (ar_const (fun _ => rfl))⟩,
    .inl ⟨wants_plain rfl, does_move _ (.inr rfl) rfl rfl rfl rfl (ar_tmp (av_rs 20 rfl rfl))⟩,
    trivial⟩ ?_
  refine nx_sub (fs' := [.slot 2 (VP.bool false)]) [23] rfl ?_
  refine nx_then ?_
  refine t_ret ?_
  exact rt_one rfl (res_tmp 0 rfl)
theorem strip_last (l : List Nat) : (strip l).length = l.length ↔ l.length = 0 ∨ l[l.length - 1]?.getD 0 ≠ 0 := by
  rw [strip_len]
  constructor
  · intro h
    have := stripN_last l l.length
    rwa [h] at this
  · intro h
    rcases h with h | h
    · have := stripN_le l l.length; omega
    · have h1 := stripN_le l l.length
      by_cases h2 : stripN l l.length = l.length
      · exact h2
      · exfalso
        exact h (stripN_zero l l.length (l.length - 1) (by omega) (by omega))
/-- whole.Right, whatever comes in: what the reference says -/
theorem s_right (x : Raw) (hl : x.2.length ≤ 100000000) : Spec Try.prog 69 [(RAW x).p] (VP.bool (rightB x.1 x.2)) := by
  have e1 : x.2.all (fun d => decide (d < 1000000000)) = !x.2.any (fun d => decide (1000000000 ≤ d)) := by
    rw [Bool.eq_iff_iff]
    simp only [List.all_eq_true, Bool.not_eq_true', List.any_eq_false, decide_eq_true_eq]
    constructor
    · intro h y hy; have := h y hy; simp; omega
    · intro h y hy; have := h y hy; simp at this; omega
  have hsl := strip_last x.2
  by_cases h : (strip x.2).length = x.2.length
  · have h' := hsl.1 h
    by_cases k : 0 < x.2.length
    · have e2 : rightB x.1 x.2 = !x.2.any (fun d => decide (1000000000 ≤ d)) := by
        unfold rightB
        rw [e1, if_neg (by omega), decide_eq_true (by rcases h' with g | g; omega; exact g), Bool.and_true]
      rw [e2]
      cases ha : x.2.any (fun d => decide (1000000000 ≤ d))
      · exact s_rightBf x hl h k ha
      · exact s_rightBt x hl h k ha
    · have e2 : rightB x.1 x.2 = (!x.2.any (fun d => decide (1000000000 ≤ d)) && !x.1) := by
        unfold rightB
        rw [e1, if_pos (by omega)]
      rw [e2]
      cases hs : x.1
      · cases ha : x.2.any (fun d => decide (1000000000 ≤ d))
        · exact s_rightCf x hl h k hs ha
        · exact s_rightCt x hl h k hs ha
      · rw [show (!x.2.any (fun d => decide (1000000000 ≤ d)) && !true) = false from by simp]
        exact s_rightD x hl h k hs
  · have e2 : rightB x.1 x.2 = false := by
      unfold rightB
      have h1 : ¬ (x.2.length = 0 ∨ x.2[x.2.length - 1]?.getD 0 ≠ 0) := fun g => h (hsl.2 g)
      have h2 : x.2.length ≠ 0 := fun g => h1 (.inl g)
      rw [if_neg h2, decide_eq_false (fun g => h1 (.inr g)), Bool.and_false]
    rw [e2]
    exact s_rightA x hl h
end Go.Proofs.Ytogodjiemgilaaa
