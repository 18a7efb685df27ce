/- Part of the proof that a law returns true for all that comes in, and that what came in reads as it did. No condition. -/
import Derived.Test.YtogodjiemgilaaaMgB1
/- The logic over slots and boxes: function values, elements of rows of numbers, differences. -/
namespace Go.Proofs.Ytogodjiemgilaaa
open Go.RowKit

/-- a function without captured values -/
def VP.fn (f : FuncId) : VP := ⟨fun v _ => v = .func (.func f) #[] #[], true, fun _ _ _ h _ => h, fun _ v _ h k n e => (by rw [h] at e; cases e), true, fun _ v _ h => (by rw [h]; rfl)⟩
section
variable {X : Cx} {i : Nat} {pre suc : List Nat}
theorem ar_fn {f : FuncId} : Ar X i pre suc (.func f) (VP.fn f).p := fun _ _ _ _ => rfl
theorem does_callv {o : Oper} {d : Nat} {f : FuncId} {y : Operand} {ags : Array Operand} {ts : Array TypeId} {qs : List (Value → World → Prop)} {x : VP} (hs : Spec X.P f qs x)
    (hop : o.op = .call { callee := .value y, args := ags, argTypes := ts }) (hbd : hasBody X.P f = true) (hd : o.dst = some d) (hlt : (decide (d < X.N) && !X.B.contains d) = true) (hc : chk X i suc d = true)
    (hr : resOf X i = [(i, .slot d x)]) (hy : Ar X i pre suc y (VP.fn f).p) (h : Ars X i pre suc ags.toList qs) : Does X i pre suc o :=
  does_val hd hlt hc fun c a w s Q K hK => by
    have ey : a.eval y = .func (.func f) #[] #[] := hy c a w s
    have hrun : (execOp a.eval o).run X.P w = .ok (.enter f (ags.map a.eval)) w := by
      unfold hasBody at hbd
      unfold execOp; rw [hop]
      cases hf : X.P.funcs[f]? with
      | none => rw [hf] at hbd; cases hbd
      | some fn =>
        rw [hf] at hbd
        simp only [Bool.and_eq_true, Bool.not_eq_true', beq_eq_false_iff_ne, ne_eq, Option.isSome_iff_ne_none] at hbd
        simp [resolve, ey, Deferred.ofValue, invoke, callFunc, hf, hbd.1, hbd.2]
    unfold Oper.wp
    rw [hrun]
    show Calls X.P f (ags.map a.eval) w _
    refine (hs (ags.map a.eval) w (by rw [Array.size_map, ← h.len]; simp) fun j q hq => ?_).mono ?_
    · obtain ⟨y, hy, har⟩ := h.get hq
      refine ⟨a.eval y, ?_, har c a w s⟩
      rw [Array.getElem?_map]
      have : ags[j]? = some y := by simpa using hy
      rw [this]; rfl
    · rintro e w' ⟨v, rfl, hp, he⟩
      show K (a.put o.dst v) w'
      rw [hd]
      exact hK v w' he (res_one hr (slot_put s.inv.1.1 hlt hp))
/-- the address of element m of a row of numbers -/
theorem does_indexNums {o : Oper} {d k m : Nat} {kd : IntKind} {l : List Nat} {T E : TypeId} (y z : Operand) (hy : y = .tmp k) (hu : X.P.underlying T = some (.slice E)) (hsz : oneTy X.P E = true) (hop : o.op = .indexAddr T y z) (hd : o.dst = some d) (hlt : (decide (d < X.N) && !X.B.contains d) = true) (hk : (d == k) = false) (hc : chk X i suc d = true)
    (hr : resOf X i = [(i, .rp d k m)]) (hm : m < l.length) (h : Av X i pre suc (.slot k (VP.nums kd l))) (hz : Ar X i pre suc z (VP.int .i64 (m : Nat)).p) : Does X i pre suc o :=
  does_val hd hlt hc fun c a w s Q K hK => by
    obtain ⟨v, h1, a0, cp, rfl, h3, h4, h5⟩ := h c a w s
    have ez : a.eval z = .int .i64 (m : Nat) := hz c a w s
    obtain ⟨g, o0, e0, _⟩ := h5.get (j := m) (u := .int kd (l[m] : Nat)) (by simp [ksI, hm])
    subst e0
    have hrun : (Instr.indexAt T (.slice (some ⟨g, o0, none⟩) l.length cp) (.int .i64 (m : Nat))).run X.P w = .ok (.pointer (some ⟨g, o0 + m, none⟩)) w := by
      unfold Instr.indexAt
      have hlt' : (0 : Int) ≤ (m : Nat) ∧ ((m : Nat) : Int) < (l.length : Nat) := by omega
      simp only [asIntOf, Sem.run_bind, Sem.run_pure, Result.andThen_ok, run_underlying hu, if_pos hlt', run_sizeOne hsz w, Int.toNat_natCast, add_plain, Nat.mul_one]
    unfold Oper.wp execOp
    rw [hop]
    subst hy
    simp only [eval_tmp h1, ez, Sem.run_bind, hrun, Result.andThen_ok, Sem.run_pure]
    show K (a.put o.dst _) w
    rw [hd]
    refine hK _ w (Ext.refl w) (res_one hr ⟨g, o0, l.length, cp, ?_, put_eq _ ?_⟩)
    · rw [put_ne _ (by simpa using hk)]; exact h1
    · simp only [Bool.and_eq_true, decide_eq_true_eq] at hlt; rw [s.inv.1.1]; exact hlt.1
theorem does_loadNum {o : Oper} {d e k m : Nat} {kd : IntKind} {l : List Nat} {T : TypeId} {n : Nat} (y : Operand) (hy : y = .tmp e) (ht : oneTy X.P T = true) (hop : o.op = .load T y) (hd : o.dst = some d) (hlt : (decide (d < X.N) && !X.B.contains d) = true) (hc : chk X i suc d = true)
    (hr : resOf X i = [(i, .slot d (VP.int kd (n : Nat)))]) (hm : l[m]? = some n) (hp : Av X i pre suc (.rp e k m)) (h : Av X i pre suc (.slot k (VP.nums kd l))) : Does X i pre suc o :=
  does_run hd hlt hc hr fun c a w s => by
    obtain ⟨v, h1, a0, cp, rfl, h3, h4, h5⟩ := h c a w s
    obtain ⟨g, o0, n1, c1, h6, h7⟩ := hp c a w s
    rw [h1] at h6
    injection h6 with h6
    injection h6 with h6 _ _
    obtain ⟨g', o', e0, hcell⟩ := h5.get (j := m) (u := .int kd (n : Nat)) (by simp [ksI, hm])
    rw [e0] at h6
    injection h6 with h6
    injection h6 with h6 h8
    subst h6 h8
    refine ⟨.int kd (n : Nat), ?_, rfl⟩
    unfold execOp; rw [hop]
    subst hy
    simp [eval_tmp h7, Instr.loadAt, Instr.sureAddr, loadVar, run_isOne ht, hcell]
theorem does_subInt {o : Oper} {d : Nat} {m n : Int} (T T' : TypeId) (y z : Operand) (hop : o.op = .binOp .sub T y z T') (hd : o.dst = some d) (hlt : (decide (d < X.N) && !X.B.contains d) = true) (hc : chk X i suc d = true)
    (hr : resOf X i = [(i, .slot d (VP.int .i64 (m - n)))]) (hb : -9223372036854775808 ≤ m - n ∧ m - n < 9223372036854775808)
    (h1 : Ar X i pre suc y (VP.int .i64 m).p) (h2 : Ar X i pre suc z (VP.int .i64 n).p) : Does X i pre suc o :=
  does_run hd hlt hc hr fun c a w s => by
    have e1 : a.eval y = .int .i64 m := h1 c a w s
    have e2 : a.eval z = .int .i64 n := h2 c a w s
    refine ⟨.int .i64 (m - n), ?_, rfl⟩
    have hw : IntKind.i64.wrap (m - n) = m - n := IntWalk.i64_in _ (by omega)
    unfold execOp; rw [hop]
    simp [e1, e2, eqGuard, binOp, Op.intArith, hw]
end
end Go.Proofs.Ytogodjiemgilaaa

/- whole.Right, whatever comes in. -/
namespace Go.Proofs.Ytogodjiemgilaaa
open Go.RowKit
theorem ty_one_uint32 : oneTy Try.prog 160 = true := by kernel_rfl
theorem hb_collator_whole_Right_1 : hasBody Try.prog 132 = true := by kernel_rfl
theorem hb_IndexFunc : hasBody Try.prog 176 = true := by kernel_rfl
theorem hb_trim : hasBody Try.prog 130 = true := by kernel_rfl
/-- the first digit that is none -/
def idxI (l : List Nat) : Int := match l.findIdx? (fun d => decide (1000000000 ≤ d)) with | some i => (i : Int) | none => -1
theorem idx_found {l : List Nat} {k : Nat} (hk : k < l.length) (hb : 1000000000 ≤ l.getD k 0) (hs : ∀ i, i < k → l.getD i 0 < 1000000000) : idxI l = ((k : Nat) : Int) := by
  unfold idxI
  have : l.findIdx? (fun d => decide (1000000000 ≤ d)) = some k := by
    rw [List.findIdx?_eq_some_iff_getElem]
    refine ⟨hk, ?_, fun j hj => ?_⟩
    · simpa [hk] using hb
    · have := hs j hj
      have hjl : j < l.length := by omega
      simp [hjl] at this
      simpa using this
  rw [this]
theorem idx_none {l : List Nat} {k : Nat} (hk : ¬ k < l.length) (hs : ∀ i, i < k → l.getD i 0 < 1000000000) : idxI l = -1 := by
  unfold idxI
  have : l.findIdx? (fun d => decide (1000000000 ≤ d)) = none := by
    rw [List.findIdx?_eq_none_iff]
    intro x hx
    obtain ⟨i, hi, rfl⟩ := List.mem_iff_getElem.1 hx
    have := hs i (by omega)
    simp [hi] at this
    simpa using this
  rw [this]
theorem idx_any (l : List Nat) : (decide (idxI l ≥ 0)) = l.any (fun d => decide (1000000000 ≤ d)) := by
  unfold idxI
  cases h : l.findIdx? (fun d => decide (1000000000 ≤ d)) with
  | none =>
    rw [List.findIdx?_eq_none_iff] at h
    rw [List.any_eq_false.2 (fun x hx => by simpa using h x hx)]; rfl
  | some i =>
    rw [List.findIdx?_eq_some_iff_getElem] at h
    obtain ⟨h1, h2, _⟩ := h
    rw [List.any_eq_true.2 ⟨l[i], List.getElem_mem _, h2⟩]
    exact decide_eq_true (by show (0 : Int) ≤ (i : Int); omega)
theorem getD_some {l : List Nat} {k : Nat} (h : k < l.length) : l[k]? = some (l.getD k 0) := by simp [h]
theorem hb_slices_ContainsFunc_collator_whole_digits_uint32 : hasBody Try.prog 131 = true := by kernel_rfl
theorem hb_slices_IndexFunc_collator_whole_digits_uint32 : hasBody Try.prog 176 = true := by kernel_rfl
theorem hb_collator_whole_digits_trim : hasBody Try.prog 130 = true := by kernel_rfl
theorem s_trim (l : List Nat) : Spec Try.prog 130 [(VP.nums .u32 l).p] (VP.nums .u32 (strip l)) :=
  spec1 fun v1 w p1 => by
    obtain ⟨a, c, rfl, h2, h3, h4⟩ := p1
    refine (trim_walk a c l l.length w rfl h2 h3 h4).mono fun e w' h => ⟨_, h.1, ?_, h.2 ▸ Ext.refl w⟩
    refine ⟨a, (strip l).length, by rw [strip_len], Nat.le_refl _, by rw [strip_len]; have := stripN_le l l.length; omega, ?_⟩
    rw [← h.2]
    have := (show Rd w a (ks .u32 l) from h4).take (stripN l l.length)
    rw [ks_take] at this
    exact this
set_option maxRecDepth 100000 in
set_option maxHeartbeats 4000000 in
theorem s_right1 (n : Nat) : Spec Try.prog 132 [(VP.int .u32 ((n : Nat) : Int)).p] (VP.bool (decide (1000000000 ≤ n))) := by
  refine spec_of (xs := [VP.int .u32 ((n : Nat) : Int)]) 5 [] Try.func132 rfl Try.ntmps132 rfl fun w0 => ?_
  refine t_seq ?_
  refine t_region (F := ⟨_, _, _, _⟩) [.slot 0 (VP.int .u32 ((n : Nat) : Int))] [] [(0, .slot 2 (VP.bool false))] [0] [] rfl rfl follow rfl ⟨
    .inl ⟨wants_plain rfl, does_move _ (.inr rfl) rfl rfl rfl rfl (ar_const (fun _ => rfl))⟩,
    trivial⟩ ?_
  refine nx_sub (fs' := [.slot 0 (VP.int .u32 ((n : Nat) : Int)), .slot 2 (VP.bool false)]) [0, 1] rfl ?_
  refine nx_then ?_
  refine t_seq ?_
  refine t_region (F := ⟨_, _, _, _⟩) [.slot 0 (VP.int .u32 ((n : Nat) : Int))] [(2, .slot 2 (VP.bool false))] [(0, .slot 3 (VP.int .u32 ((n : Nat) : Int))), (1, .slot 4 (VP.bool (decide (((n : Nat) : Int) ≥ 1000000000)))), (2, .slot 2 (VP.bool (decide (((n : Nat) : Int) ≥ 1000000000))))] [0] [1] rfl rfl follow rfl ⟨
    .inl ⟨wants_plain rfl, does_move _ (.inl rfl) rfl rfl rfl rfl (ar_tmp (av_fs 0 rfl))⟩,
    .inl ⟨wants_plain rfl, does_cmp (m := ((n : Nat) : Int)) (n := 1000000000) _ _ _ _ _ rfl rfl rfl rfl rfl rfl .u32 (ar_tmp (av_rs 0 rfl rfl)) (ar_const (fun _ => rfl))⟩,
    .inl ⟨wants_plain rfl, does_move _ (.inr rfl) rfl rfl rfl rfl (ar_tmp (av_rs 1 rfl rfl))⟩,
    trivial⟩ ?_
  refine nx_sub (fs' := [.slot 2 (VP.bool (decide (((n : Nat) : Int) ≥ 1000000000)))]) [3] rfl ?_
  refine nx_then ?_
  refine t_ret ?_
  exact rt_one rfl (res_tmpb 0 rfl (by rw [Bool.eq_iff_iff, decide_eq_true_eq, decide_eq_true_eq]; omega))
set_option maxRecDepth 100000 in
set_option maxHeartbeats 4000000 in
theorem s_index (l : List Nat) (hl : l.length ≤ 100000000) : Spec Try.prog 176 [(VP.nums .u32 l).p, (VP.fn 132).p] (VP.int .i64 (idxI l)) := by
  refine spec_of (xs := [VP.nums .u32 l, VP.fn 132]) 19 [] Try.func176 rfl Try.ntmps176 rfl fun w0 => ?_
  refine t_seq ?_
  refine t_region (F := ⟨_, _, _, _⟩) [.slot 0 (VP.nums .u32 l), .slot 1 (VP.fn 132)] [] [(0, .slot 4 (VP.int .i64 0))] [0, 1] [] rfl rfl follow rfl ⟨
    .inl ⟨wants_plain rfl, does_move _ (.inr rfl) rfl rfl rfl rfl (ar_const (fun _ => rfl))⟩,
    trivial⟩ ?_
  refine nx_sub (fs' := [.slot 0 (VP.nums .u32 l), .slot 1 (VP.fn 132), .slot 4 (VP.int .i64 0)]) [0, 1, 2] rfl ?_
  refine nx_then ?_
  refine t_seq ?_
  refine t_seq ?_
  refine t_region (F := ⟨_, _, _, _⟩) [.slot 0 (VP.nums .u32 l), .slot 1 (VP.fn 132), .slot 4 (VP.int .i64 0)] [] [(0, .slot 6 (VP.nums .u32 l)), (1, .slot 7 (VP.int .i64 (((l).length : Nat) : Int))), (2, .slot 8 (VP.int .i64 0))] [0, 1, 2] [] rfl rfl follow rfl ⟨
    .inl ⟨wants_plain rfl, does_move _ (.inl rfl) rfl rfl rfl rfl (ar_tmp (av_fs 0 rfl))⟩,
    .inl ⟨wants_plain rfl, does_len _ _ (by kernel_rfl) rfl rfl rfl rfl rfl (ar_tmp (av_rs 0 rfl rfl))⟩,
    .inl ⟨wants_plain rfl, does_move _ (.inl rfl) rfl rfl rfl rfl (ar_const (fun _ => rfl))⟩,
    trivial⟩ ?_
  refine nx_sub (fs' := [.slot 0 (VP.nums .u32 l), .slot 1 (VP.fn 132), .slot 4 (VP.int .i64 0), .slot 7 (VP.int .i64 (((l).length : Nat) : Int)), .slot 8 (VP.int .i64 0)]) [0, 1, 2, 4, 5] rfl ?_
  refine nx_then ?_
  refine t_block ?_
  refine t_loop (σ := {k : Nat // k ≤ l.length ∧ ∀ i, i < k → l.getD i 0 < 1000000000}) (fun s => [.slot 0 (VP.nums .u32 l), .slot 1 (VP.fn 132), .slot 7 (VP.int .i64 (((l).length : Nat) : Int)), .slot 8 (VP.int .i64 ((s.1 : Nat) : Int))]) (fun s => l.length - s.1) (⟨0, Nat.zero_le _, fun i h => absurd h (Nat.not_lt_zero i)⟩) [0, 1, 3, 4] rfl ?_
  intro s
  have hs1 := s.2.1
  rcases (show (s.1 < l.length ∧ 1000000000 ≤ l.getD s.1 0) ∨ (s.1 < l.length ∧ ¬ 1000000000 ≤ l.getD s.1 0) ∨ ¬ s.1 < l.length by omega) with ⟨h, h2⟩ | ⟨h, h2⟩ | h
  case inl =>
    rw [idx_found h h2 s.2.2]
    refine t_seq ?_
    refine t_region (F := ⟨_, _, _, _⟩) [.slot 0 (VP.nums .u32 l), .slot 1 (VP.fn 132), .slot 7 (VP.int .i64 (((l).length : Nat) : Int)), .slot 8 (VP.int .i64 ((s.1 : Nat) : Int))] [] [(0, .slot 9 (VP.bool (decide (((s.1 : Nat) : Int) < (((l).length : Nat) : Int)))))] [0, 1, 2, 3] [] rfl rfl follow rfl ⟨
      .inl ⟨wants_plain rfl, does_cmp (m := ((s.1 : Nat) : Int)) (n := (((l).length : Nat) : Int)) _ _ _ _ _ rfl rfl rfl rfl rfl rfl .i64 (ar_tmp (av_fs 3 rfl)) (ar_tmp (av_fs 2 rfl))⟩,
      trivial⟩ ?_
    refine nx_sub (fs' := [.slot 0 (VP.nums .u32 l), .slot 1 (VP.fn 132), .slot 7 (VP.int .i64 (((l).length : Nat) : Int)), .slot 8 (VP.int .i64 ((s.1 : Nat) : Int)), .slot 9 (VP.bool (decide (((s.1 : Nat) : Int) < (((l).length : Nat) : Int))))]) [0, 1, 2, 3, 4] rfl ?_
    refine nx_then ?_
    refine t_seq ?_
    refine t_cond_te 4 rfl (decide_eq_true (by omega)) ?_
    refine t_skip ?_
    refine nx_then ?_
    refine t_seq ?_
    refine t_block ?_
    refine t_seq ?_
    refine t_region (F := ⟨_, _, _, _⟩) [.slot 0 (VP.nums .u32 l), .slot 1 (VP.fn 132), .slot 7 (VP.int .i64 (((l).length : Nat) : Int)), .slot 8 (VP.int .i64 ((s.1 : Nat) : Int)), .slot 9 (VP.bool (decide (((s.1 : Nat) : Int) < (((l).length : Nat) : Int))))] [] [(0, .slot 10 (VP.int .i64 ((s.1 : Nat) : Int))), (1, .slot 5 (VP.int .i64 ((s.1 : Nat) : Int)))] [0, 1, 2, 3, 4] [] rfl rfl follow rfl ⟨
      .inl ⟨wants_plain rfl, does_move _ (.inl rfl) rfl rfl rfl rfl (ar_tmp (av_fs 3 rfl))⟩,
      .inl ⟨wants_plain rfl, does_move _ (.inr rfl) rfl rfl rfl rfl (ar_tmp (av_rs 0 rfl rfl))⟩,
      trivial⟩ ?_
    refine nx_sub (fs' := [.slot 0 (VP.nums .u32 l), .slot 1 (VP.fn 132), .slot 7 (VP.int .i64 (((l).length : Nat) : Int)), .slot 8 (VP.int .i64 ((s.1 : Nat) : Int)), .slot 9 (VP.bool (decide (((s.1 : Nat) : Int) < (((l).length : Nat) : Int)))), .slot 10 (VP.int .i64 ((s.1 : Nat) : Int)), .slot 5 (VP.int .i64 ((s.1 : Nat) : Int))]) [0, 1, 2, 3, 4, 5, 6] rfl ?_
    refine nx_then ?_
    refine t_seq ?_
    refine t_region (F := ⟨_, _, _, _⟩) [.slot 0 (VP.nums .u32 l), .slot 1 (VP.fn 132), .slot 7 (VP.int .i64 (((l).length : Nat) : Int)), .slot 8 (VP.int .i64 ((s.1 : Nat) : Int)), .slot 9 (VP.bool (decide (((s.1 : Nat) : Int) < (((l).length : Nat) : Int)))), .slot 10 (VP.int .i64 ((s.1 : Nat) : Int)), .slot 5 (VP.int .i64 ((s.1 : Nat) : Int))] [] [(0, .slot 11 (VP.fn 132)), (1, .slot 12 (VP.nums .u32 l)), (2, .slot 13 (VP.int .i64 ((s.1 : Nat) : Int))), (3, .rp 14 12 s.1), (4, .slot 15 (VP.int .u32 ((l.getD s.1 0 : Nat) : Int))), (5, .slot 16 (VP.bool (decide (1000000000 ≤ l.getD s.1 0))))] [0, 1, 2, 3, 4, 5, 6] [] rfl rfl follow rfl ⟨
      .inl ⟨wants_plain rfl, does_move _ (.inl rfl) rfl rfl rfl rfl (ar_tmp (av_fs 1 rfl))⟩,
      .inl ⟨wants_plain rfl, does_move _ (.inl rfl) rfl rfl rfl rfl (ar_tmp (av_fs 0 rfl))⟩,
      .inl ⟨wants_plain rfl, does_move _ (.inl rfl) rfl rfl rfl rfl (ar_tmp (av_fs 6 rfl))⟩,
      .inl ⟨wants_plain rfl, does_indexNums (m := s.1) (l := l) _ _ rfl Try.underlying162 ty_one_uint32 rfl rfl rfl rfl rfl rfl h (av_rs 1 rfl rfl) (ar_tmp (av_rs 2 rfl rfl))⟩,
      .inl ⟨wants_plain rfl, does_loadNum _ rfl ty_one_uint32 rfl rfl rfl rfl rfl (getD_some h) (av_rs 3 rfl rfl) (av_rs 1 rfl rfl)⟩,
      .inl ⟨wants_plain rfl, does_callv (s_right1 (l.getD s.1 0)) rfl hb_collator_whole_Right_1 rfl rfl rfl rfl (ar_tmp (av_rs 0 rfl rfl)) ⟨(ar_tmp (av_rs 4 rfl rfl)), trivial⟩⟩,
      trivial⟩ ?_
    refine nx_sub (fs' := [.slot 0 (VP.nums .u32 l), .slot 1 (VP.fn 132), .slot 7 (VP.int .i64 (((l).length : Nat) : Int)), .slot 8 (VP.int .i64 ((s.1 : Nat) : Int)), .slot 9 (VP.bool (decide (((s.1 : Nat) : Int) < (((l).length : Nat) : Int)))), .slot 10 (VP.int .i64 ((s.1 : Nat) : Int)), .slot 5 (VP.int .i64 ((s.1 : Nat) : Int)), .slot 11 (VP.fn 132), .slot 12 (VP.nums .u32 l), .slot 13 (VP.int .i64 ((s.1 : Nat) : Int)), .rp 14 12 s.1, .slot 15 (VP.int .u32 ((l.getD s.1 0 : Nat) : Int)), .slot 16 (VP.bool (decide (1000000000 ≤ l.getD s.1 0)))]) [0, 1, 2, 3, 4, 5, 6, 7, 8, 9, 10, 11, 12] rfl ?_
    refine nx_then ?_
    refine t_cond_te 12 rfl (decide_eq_true h2) ?_
    refine t_seq ?_
    refine t_region (F := ⟨_, _, _, _⟩) [.slot 0 (VP.nums .u32 l), .slot 1 (VP.fn 132), .slot 7 (VP.int .i64 (((l).length : Nat) : Int)), .slot 8 (VP.int .i64 ((s.1 : Nat) : Int)), .slot 9 (VP.bool (decide (((s.1 : Nat) : Int) < (((l).length : Nat) : Int)))), .slot 10 (VP.int .i64 ((s.1 : Nat) : Int)), .slot 5 (VP.int .i64 ((s.1 : Nat) : Int)), .slot 11 (VP.fn 132), .slot 12 (VP.nums .u32 l), .slot 13 (VP.int .i64 ((s.1 : Nat) : Int)), .rp 14 12 s.1, .slot 15 (VP.int .u32 ((l.getD s.1 0 : Nat) : Int)), .slot 16 (VP.bool (decide (1000000000 ≤ l.getD s.1 0)))] [] [(0, .slot 17 (VP.int .i64 ((s.1 : Nat) : Int))), (1, .slot 4 (VP.int .i64 ((s.1 : Nat) : Int)))] [0, 1, 2, 3, 4, 5, 6, 7, 8, 9, 10, 11, 12] [] rfl rfl follow rfl ⟨
      .inl ⟨wants_plain rfl, does_move _ (.inl rfl) rfl rfl rfl rfl (ar_tmp (av_fs 6 rfl))⟩,
      .inl ⟨wants_plain rfl, does_move _ (.inr rfl) rfl rfl rfl rfl (ar_tmp (av_rs 0 rfl rfl))⟩,
      trivial⟩ ?_
    refine nx_sub (fs' := [.slot 0 (VP.nums .u32 l), .slot 1 (VP.fn 132), .slot 7 (VP.int .i64 (((l).length : Nat) : Int)), .slot 8 (VP.int .i64 ((s.1 : Nat) : Int)), .slot 9 (VP.bool (decide (((s.1 : Nat) : Int) < (((l).length : Nat) : Int)))), .slot 10 (VP.int .i64 ((s.1 : Nat) : Int)), .slot 5 (VP.int .i64 ((s.1 : Nat) : Int)), .slot 11 (VP.fn 132), .slot 12 (VP.nums .u32 l), .slot 13 (VP.int .i64 ((s.1 : Nat) : Int)), .rp 14 12 s.1, .slot 15 (VP.int .u32 ((l.getD s.1 0 : Nat) : Int)), .slot 16 (VP.bool (decide (1000000000 ≤ l.getD s.1 0))), .slot 17 (VP.int .i64 ((s.1 : Nat) : Int)), .slot 4 (VP.int .i64 ((s.1 : Nat) : Int))]) [0, 1, 2, 3, 4, 5, 6, 7, 8, 9, 10, 11, 12, 13, 14] rfl ?_
    refine nx_then ?_
    refine t_ret ?_
    refine rt_block ?_
    refine rt_then ?_
    refine rt_then ?_
    refine rt_block ?_
    refine rt_then ?_
    exact rt_one rfl (res_tmp 14 rfl)
  case inr.inl =>
    refine t_seq ?_
    refine t_region (F := ⟨_, _, _, _⟩) [.slot 0 (VP.nums .u32 l), .slot 1 (VP.fn 132), .slot 7 (VP.int .i64 (((l).length : Nat) : Int)), .slot 8 (VP.int .i64 ((s.1 : Nat) : Int))] [] [(0, .slot 9 (VP.bool (decide (((s.1 : Nat) : Int) < (((l).length : Nat) : Int)))))] [0, 1, 2, 3] [] rfl rfl follow rfl ⟨
      .inl ⟨wants_plain rfl, does_cmp (m := ((s.1 : Nat) : Int)) (n := (((l).length : Nat) : Int)) _ _ _ _ _ rfl rfl rfl rfl rfl rfl .i64 (ar_tmp (av_fs 3 rfl)) (ar_tmp (av_fs 2 rfl))⟩,
      trivial⟩ ?_
    refine nx_sub (fs' := [.slot 0 (VP.nums .u32 l), .slot 1 (VP.fn 132), .slot 7 (VP.int .i64 (((l).length : Nat) : Int)), .slot 8 (VP.int .i64 ((s.1 : Nat) : Int)), .slot 9 (VP.bool (decide (((s.1 : Nat) : Int) < (((l).length : Nat) : Int))))]) [0, 1, 2, 3, 4] rfl ?_
    refine nx_then ?_
    refine t_seq ?_
    refine t_cond_te 4 rfl (decide_eq_true (by omega)) ?_
    refine t_skip ?_
    refine nx_then ?_
    refine t_seq ?_
    refine t_block ?_
    refine t_seq ?_
    refine t_region (F := ⟨_, _, _, _⟩) [.slot 0 (VP.nums .u32 l), .slot 1 (VP.fn 132), .slot 7 (VP.int .i64 (((l).length : Nat) : Int)), .slot 8 (VP.int .i64 ((s.1 : Nat) : Int)), .slot 9 (VP.bool (decide (((s.1 : Nat) : Int) < (((l).length : Nat) : Int))))] [] [(0, .slot 10 (VP.int .i64 ((s.1 : Nat) : Int))), (1, .slot 5 (VP.int .i64 ((s.1 : Nat) : Int)))] [0, 1, 2, 3, 4] [] rfl rfl follow rfl ⟨
      .inl ⟨wants_plain rfl, does_move _ (.inl rfl) rfl rfl rfl rfl (ar_tmp (av_fs 3 rfl))⟩,
      .inl ⟨wants_plain rfl, does_move _ (.inr rfl) rfl rfl rfl rfl (ar_tmp (av_rs 0 rfl rfl))⟩,
      trivial⟩ ?_
    refine nx_sub (fs' := [.slot 0 (VP.nums .u32 l), .slot 1 (VP.fn 132), .slot 7 (VP.int .i64 (((l).length : Nat) : Int)), .slot 8 (VP.int .i64 ((s.1 : Nat) : Int)), .slot 9 (VP.bool (decide (((s.1 : Nat) : Int) < (((l).length : Nat) : Int)))), .slot 10 (VP.int .i64 ((s.1 : Nat) : Int)), .slot 5 (VP.int .i64 ((s.1 : Nat) : Int))]) [0, 1, 2, 3, 4, 5, 6] rfl ?_
    refine nx_then ?_
    refine t_seq ?_
    refine t_region (F := ⟨_, _, _, _⟩) [.slot 0 (VP.nums .u32 l), .slot 1 (VP.fn 132), .slot 7 (VP.int .i64 (((l).length : Nat) : Int)), .slot 8 (VP.int .i64 ((s.1 : Nat) : Int)), .slot 9 (VP.bool (decide (((s.1 : Nat) : Int) < (((l).length : Nat) : Int)))), .slot 10 (VP.int .i64 ((s.1 : Nat) : Int)), .slot 5 (VP.int .i64 ((s.1 : Nat) : Int))] [] [(0, .slot 11 (VP.fn 132)), (1, .slot 12 (VP.nums .u32 l)), (2, .slot 13 (VP.int .i64 ((s.1 : Nat) : Int))), (3, .rp 14 12 s.1), (4, .slot 15 (VP.int .u32 ((l.getD s.1 0 : Nat) : Int))), (5, .slot 16 (VP.bool (decide (1000000000 ≤ l.getD s.1 0))))] [0, 1, 2, 3, 4, 5, 6] [] rfl rfl follow rfl ⟨
      .inl ⟨wants_plain rfl, does_move _ (.inl rfl) rfl rfl rfl rfl (ar_tmp (av_fs 1 rfl))⟩,
      .inl ⟨wants_plain rfl, does_move _ (.inl rfl) rfl rfl rfl rfl (ar_tmp (av_fs 0 rfl))⟩,
      .inl ⟨wants_plain rfl, does_move _ (.inl rfl) rfl rfl rfl rfl (ar_tmp (av_fs 6 rfl))⟩,
      .inl ⟨wants_plain rfl, does_indexNums (m := s.1) (l := l) _ _ rfl Try.underlying162 ty_one_uint32 rfl rfl rfl rfl rfl rfl h (av_rs 1 rfl rfl) (ar_tmp (av_rs 2 rfl rfl))⟩,
      .inl ⟨wants_plain rfl, does_loadNum _ rfl ty_one_uint32 rfl rfl rfl rfl rfl (getD_some h) (av_rs 3 rfl rfl) (av_rs 1 rfl rfl)⟩,
      .inl ⟨wants_plain rfl, does_callv (s_right1 (l.getD s.1 0)) rfl hb_collator_whole_Right_1 rfl rfl rfl rfl (ar_tmp (av_rs 0 rfl rfl)) ⟨(ar_tmp (av_rs 4 rfl rfl)), trivial⟩⟩,
      trivial⟩ ?_
    refine nx_sub (fs' := [.slot 0 (VP.nums .u32 l), .slot 1 (VP.fn 132), .slot 7 (VP.int .i64 (((l).length : Nat) : Int)), .slot 8 (VP.int .i64 ((s.1 : Nat) : Int)), .slot 9 (VP.bool (decide (((s.1 : Nat) : Int) < (((l).length : Nat) : Int)))), .slot 10 (VP.int .i64 ((s.1 : Nat) : Int)), .slot 5 (VP.int .i64 ((s.1 : Nat) : Int)), .slot 11 (VP.fn 132), .slot 12 (VP.nums .u32 l), .slot 13 (VP.int .i64 ((s.1 : Nat) : Int)), .rp 14 12 s.1, .slot 15 (VP.int .u32 ((l.getD s.1 0 : Nat) : Int)), .slot 16 (VP.bool (decide (1000000000 ≤ l.getD s.1 0)))]) [0, 1, 2, 3, 4, 5, 6, 7, 8, 9, 10, 11, 12] rfl ?_
    refine nx_then ?_
    refine t_cond_fe 12 rfl (decide_eq_false h2) ?_
    refine t_skip ?_
    refine nx_block ?_
    refine nx_then ?_
    refine t_region (F := ⟨_, _, _, _⟩) [.slot 0 (VP.nums .u32 l), .slot 1 (VP.fn 132), .slot 7 (VP.int .i64 (((l).length : Nat) : Int)), .slot 9 (VP.bool (decide (((s.1 : Nat) : Int) < (((l).length : Nat) : Int)))), .slot 10 (VP.int .i64 ((s.1 : Nat) : Int)), .slot 5 (VP.int .i64 ((s.1 : Nat) : Int)), .slot 11 (VP.fn 132), .slot 12 (VP.nums .u32 l), .slot 13 (VP.int .i64 ((s.1 : Nat) : Int)), .rp 14 12 s.1, .slot 15 (VP.int .u32 ((l.getD s.1 0 : Nat) : Int)), .slot 16 (VP.bool (decide (1000000000 ≤ l.getD s.1 0)))] [(1, .slot 8 (VP.int .i64 ((s.1 : Nat) : Int)))] [(0, .slot 18 (VP.int .i64 ((s.1 + 1 : Nat) : Int))), (1, .slot 8 (VP.int .i64 ((s.1 + 1 : Nat) : Int)))] [0, 1, 2, 4, 5, 6, 7, 8, 9, 10, 11, 12] [3] rfl rfl follow rfl ⟨
      .inl ⟨wants_plain rfl, does_addInt (m := ((s.1 : Nat) : Int)) (n := 1) _ _ _ _ rfl rfl rfl rfl rfl (by omega) (ar_tmp (av_os 0 rfl rfl)) (ar_const (fun _ => rfl))⟩,
      .inl ⟨wants_plain rfl, does_move _ (.inl rfl) rfl rfl rfl rfl (ar_tmp (av_rs 0 rfl rfl))⟩,
      trivial⟩ ?_
    refine nx_sub (fs' := [.slot 0 (VP.nums .u32 l), .slot 1 (VP.fn 132), .slot 7 (VP.int .i64 (((l).length : Nat) : Int)), .slot 9 (VP.bool (decide (((s.1 : Nat) : Int) < (((l).length : Nat) : Int)))), .slot 10 (VP.int .i64 ((s.1 : Nat) : Int)), .slot 5 (VP.int .i64 ((s.1 : Nat) : Int)), .slot 11 (VP.fn 132), .slot 12 (VP.nums .u32 l), .slot 13 (VP.int .i64 ((s.1 : Nat) : Int)), .rp 14 12 s.1, .slot 15 (VP.int .u32 ((l.getD s.1 0 : Nat) : Int)), .slot 16 (VP.bool (decide (1000000000 ≤ l.getD s.1 0))), .slot 18 (VP.int .i64 ((s.1 + 1 : Nat) : Int)), .slot 8 (VP.int .i64 ((s.1 + 1 : Nat) : Int))]) [0, 1, 2, 3, 4, 5, 6, 7, 8, 9, 10, 11, 12, 13] rfl ?_
    exact nx_round ⟨s.1 + 1, h, fun i hi => by rcases Nat.lt_succ_iff_lt_or_eq.1 hi with g | g; exact s.2.2 i g; subst g; omega⟩ (by show l.length - (s.1 + 1) < l.length - s.1; omega) [0, 1, 2, 13] rfl
  case inr.inr =>
    rw [idx_none h s.2.2]
    refine t_seq ?_
    refine t_region (F := ⟨_, _, _, _⟩) [.slot 0 (VP.nums .u32 l), .slot 1 (VP.fn 132), .slot 7 (VP.int .i64 (((l).length : Nat) : Int)), .slot 8 (VP.int .i64 ((s.1 : Nat) : Int))] [] [(0, .slot 9 (VP.bool (decide (((s.1 : Nat) : Int) < (((l).length : Nat) : Int)))))] [0, 1, 2, 3] [] rfl rfl follow rfl ⟨
      .inl ⟨wants_plain rfl, does_cmp (m := ((s.1 : Nat) : Int)) (n := (((l).length : Nat) : Int)) _ _ _ _ _ rfl rfl rfl rfl rfl rfl .i64 (ar_tmp (av_fs 3 rfl)) (ar_tmp (av_fs 2 rfl))⟩,
      trivial⟩ ?_
    refine nx_sub (fs' := [.slot 0 (VP.nums .u32 l), .slot 1 (VP.fn 132), .slot 7 (VP.int .i64 (((l).length : Nat) : Int)), .slot 8 (VP.int .i64 ((s.1 : Nat) : Int)), .slot 9 (VP.bool (decide (((s.1 : Nat) : Int) < (((l).length : Nat) : Int))))]) [0, 1, 2, 3, 4] rfl ?_
    refine nx_then ?_
    refine t_seq ?_
    refine t_cond_fe 4 rfl (decide_eq_false (by omega)) ?_
    refine t_exit ?_
    refine ex_then ?_
    refine ex_then ?_
    refine ex_block ?_
    refine nx_then ?_
    refine t_seq ?_
    refine t_region (F := ⟨_, _, _, _⟩) [.slot 0 (VP.nums .u32 l), .slot 1 (VP.fn 132), .slot 7 (VP.int .i64 (((l).length : Nat) : Int)), .slot 8 (VP.int .i64 ((s.1 : Nat) : Int)), .slot 9 (VP.bool (decide (((s.1 : Nat) : Int) < (((l).length : Nat) : Int))))] [] [(0, .slot 4 (VP.int .i64 (-1)))] [0, 1, 2, 3, 4] [] rfl rfl follow rfl ⟨
      .inl ⟨wants_plain rfl, does_move _ (.inr rfl) rfl rfl rfl rfl (ar_const (fun _ => rfl))⟩,
      trivial⟩ ?_
    refine nx_sub (fs' := [.slot 4 (VP.int .i64 (-1))]) [5] rfl ?_
    refine nx_then ?_
    refine t_ret ?_
    exact rt_one rfl (res_tmp 0 rfl)
set_option maxRecDepth 100000 in
set_option maxHeartbeats 4000000 in
theorem s_contains (l : List Nat) (hl : l.length ≤ 100000000) : Spec Try.prog 131 [(VP.nums .u32 l).p, (VP.fn 132).p] (VP.bool (l.any (fun d => decide (1000000000 ≤ d)))) := by
  refine spec_of (xs := [VP.nums .u32 l, VP.fn 132]) 9 [] Try.func131 rfl Try.ntmps131 rfl fun w0 => ?_
  refine t_seq ?_
  refine t_region (F := ⟨_, _, _, _⟩) [.slot 0 (VP.nums .u32 l), .slot 1 (VP.fn 132)] [] [(0, .slot 4 (VP.bool false))] [0, 1] [] rfl rfl follow rfl ⟨
    .inl ⟨wants_plain rfl, does_move _ (.inr rfl) rfl rfl rfl rfl (ar_const (fun _ => rfl))⟩,
    trivial⟩ ?_
  refine nx_sub (fs' := [.slot 0 (VP.nums .u32 l), .slot 1 (VP.fn 132), .slot 4 (VP.bool false)]) [0, 1, 2] rfl ?_
  refine nx_then ?_
  refine t_seq ?_
  refine t_region (F := ⟨_, _, _, _⟩) [.slot 0 (VP.nums .u32 l), .slot 1 (VP.fn 132)] [(4, .slot 4 (VP.bool false))] [(0, .slot 5 (VP.nums .u32 l)), (1, .slot 6 (VP.fn 132)), (2, .slot 7 (VP.int .i64 (idxI l))), (3, .slot 8 (VP.bool (decide ((idxI l) ≥ 0)))), (4, .slot 4 (VP.bool (decide ((idxI l) ≥ 0))))] [0, 1] [2] rfl rfl follow rfl ⟨
    .inl ⟨wants_plain rfl, does_move _ (.inl rfl) rfl rfl rfl rfl (ar_tmp (av_fs 0 rfl))⟩,
    .inl ⟨wants_plain rfl, does_move _ (.inl rfl) rfl rfl rfl rfl (ar_tmp (av_fs 1 rfl))⟩,
    .inl ⟨wants_plain rfl, does_call (s_index l hl) rfl hb_slices_IndexFunc_collator_whole_digits_uint32 rfl rfl rfl rfl ⟨(ar_tmp (av_rs 0 rfl rfl)), (ar_tmp (av_rs 1 rfl rfl)), trivial⟩⟩,
    .inl ⟨wants_plain rfl, does_cmp (m := (idxI l)) (n := 0) _ _ _ _ _ rfl rfl rfl rfl rfl rfl .i64 (ar_tmp (av_rs 2 rfl rfl)) (ar_const (fun _ => rfl))⟩,
    .inl ⟨wants_plain rfl, does_move _ (.inr rfl) rfl rfl rfl rfl (ar_tmp (av_rs 3 rfl rfl))⟩,
    trivial⟩ ?_
  refine nx_sub (fs' := [.slot 4 (VP.bool (decide ((idxI l) ≥ 0)))]) [6] rfl ?_
  refine nx_then ?_
  refine t_ret ?_
  exact rt_one rfl (res_tmpb 0 rfl (idx_any l))
set_option maxRecDepth 100000 in
set_option maxHeartbeats 4000000 in
theorem s_rightA (x : Raw) (_hl : x.2.length ≤ 100000000) (h : (strip x.2).length ≠ x.2.length) : Spec Try.prog 69 [(VP.agg [VP.bool x.1, VP.nums .u32 x.2]).p] (VP.bool false) := by
  refine spec_of (xs := [VP.agg [VP.bool x.1, VP.nums .u32 x.2]]) 27 [1] Try.func69 rfl Try.ntmps69 rfl fun w0 => ?_
  refine t_seq ?_
  refine t_region (F := ⟨_, _, _, _⟩) [.slot 0 (VP.agg [VP.bool x.1, VP.nums .u32 x.2])] [] [(0, .box 1 69 [VP.bool x.1, VP.nums .u32 x.2]), (1, .slot 2 (VP.bool false))] [0] [] rfl rfl follow rfl ⟨
    .inl ⟨wants_plain rfl, does_box _ rfl rfl rfl rfl rfl (ar_tmp (av_fs 0 rfl))⟩,
    .inl ⟨wants_plain rfl, does_move _ (.inr rfl) rfl rfl rfl rfl (ar_const (fun _ => rfl))⟩,
    trivial⟩ ?_
  refine nx_sub (fs' := [.box 1 69 [VP.bool x.1, VP.nums .u32 x.2], .slot 2 (VP.bool false)]) [1, 2] rfl ?_
  refine nx_then ?_
  refine t_seq ?_
  refine t_region (F := ⟨_, _, _, _⟩) [.box 1 69 [VP.bool x.1, VP.nums .u32 x.2], .slot 2 (VP.bool false)] [] [(0, .fp 4 1 1), (1, .slot 5 (VP.nums .u32 x.2)), (2, .slot 3 (VP.nums .u32 x.2))] [0, 1] [] rfl rfl follow rfl ⟨
    .inl ⟨wants_plain rfl, does_field _ _ _ 1 ty_f1_api_Int rfl rfl rfl rfl rfl rfl rfl (pt_box (av_fs 0 rfl))⟩,
    .inl ⟨wants_plain rfl, does_loadOne _ ty_one___uint32 rfl rfl rfl rfl rfl rfl (pt_fp (av_rs 0 rfl rfl)) (av_fs 0 rfl)⟩,
    .inl ⟨wants_plain rfl, does_move _ (.inr rfl) rfl rfl rfl rfl (ar_tmp (av_rs 1 rfl rfl))⟩,
    trivial⟩ ?_
  refine nx_sub (fs' := [.box 1 69 [VP.bool x.1, VP.nums .u32 x.2], .slot 2 (VP.bool false), .slot 3 (VP.nums .u32 x.2)]) [0, 1, 4] rfl ?_
  refine nx_then ?_
  refine t_seq ?_
  refine t_region (F := ⟨_, _, _, _⟩) [.box 1 69 [VP.bool x.1, VP.nums .u32 x.2], .slot 3 (VP.nums .u32 x.2)] [(21, .slot 2 (VP.bool false))] [(0, .slot 6 (VP.nums .u32 x.2)), (1, .slot 7 (VP.nums .u32 (strip x.2))), (2, .slot 8 (VP.int .i64 ((((strip x.2)).length : Nat) : Int))), (3, .slot 9 (VP.nums .u32 x.2)), (4, .slot 10 (VP.int .i64 (((x.2).length : Nat) : Int))), (5, .slot 11 (VP.bool (((((strip x.2)).length : Nat) : Int) == (((x.2).length : Nat) : Int)))), (6, .slot 12 (VP.bool (((((strip x.2)).length : Nat) : Int) == (((x.2).length : Nat) : Int)))), (7, .slot 13 (VP.undef)), (8, .slot 14 (VP.undef)), (9, .slot 15 (VP.undef)), (10, .slot 16 (VP.undef)), (11, .slot 17 (VP.undef)), (12, .slot 18 (VP.undef)), (13, .slot 19 (VP.undef)), (14, .slot 20 (VP.undef)), (15, .slot 21 (VP.bool false)), (16, .slot 22 (VP.bool false)), (17, .slot 23 (VP.undef)), (18, .slot 24 (VP.undef)), (19, .slot 25 (VP.undef)), (20, .slot 26 (VP.bool false)), (21, .slot 2 (VP.bool false))] [0, 2] [1] rfl rfl follow rfl ⟨
    .inl ⟨wants_plain rfl, does_move _ (.inl rfl) rfl rfl rfl rfl (ar_tmp (av_fs 1 rfl))⟩,
    .inl ⟨wants_plain rfl, does_call (s_trim x.2) rfl hb_collator_whole_digits_trim rfl rfl rfl rfl ⟨(ar_tmp (av_rs 0 rfl rfl)), trivial⟩⟩,
    .inl ⟨wants_plain rfl, does_len _ _ (by kernel_rfl) rfl rfl rfl rfl rfl (ar_tmp (av_rs 1 rfl rfl))⟩,
    .inl ⟨wants_plain rfl, does_move _ (.inl rfl) rfl rfl rfl rfl (ar_tmp (av_fs 1 rfl))⟩,
    .inl ⟨wants_plain rfl, does_len _ _ (by kernel_rfl) rfl rfl rfl rfl rfl (ar_tmp (av_rs 3 rfl rfl))⟩,
    .inl ⟨wants_plain rfl, does_cmp (m := ((((strip x.2)).length : Nat) : Int)) (n := (((x.2).length : Nat) : Int)) _ _ _ _ _ rfl rfl rfl rfl rfl rfl .i64 (ar_tmp (av_rs 2 rfl rfl)) (ar_tmp (av_rs 4 rfl rfl))⟩,
    .inl ⟨wants_plain rfl, does_move _ (.inl rfl) rfl rfl rfl rfl (ar_tmp (av_rs 5 rfl rfl))⟩,
    .inr (skips_guardU false rfl rfl rfl (av_bool (beq_eq_false_iff_ne.2 (by omega)) (av_rs 6 rfl rfl)) rfl rfl rfl rfl),
    .inr (skips_guardU false rfl rfl rfl (av_bool (beq_eq_false_iff_ne.2 (by omega)) (av_rs 6 rfl rfl)) rfl rfl rfl rfl),
    .inr (skips_guardU false rfl rfl rfl (av_bool (beq_eq_false_iff_ne.2 (by omega)) (av_rs 6 rfl rfl)) rfl rfl rfl rfl),
    .inr (skips_guardU false rfl rfl rfl (av_bool (beq_eq_false_iff_ne.2 (by omega)) (av_rs 6 rfl rfl)) rfl rfl rfl rfl),
    .inr (skips_undefU false rfl rfl rfl (av_rs 10 rfl rfl) rfl rfl rfl rfl),
    .inr (skips_undefU false rfl rfl rfl (av_rs 10 rfl rfl) rfl rfl rfl rfl),
    .inr (skips_undefU false rfl rfl rfl (av_rs 10 rfl rfl) rfl rfl rfl rfl),
    .inr (skips_guardU false rfl rfl rfl (av_bool (beq_eq_false_iff_ne.2 (by omega)) (av_rs 6 rfl rfl)) rfl rfl rfl rfl),
    .inl ⟨wants_plain rfl, does_pick false _ _ _ rfl rfl rfl rfl rfl (ar_tmp (av_bool (beq_eq_false_iff_ne.2 (by omega)) (av_rs 6 rfl rfl))) (ar_const (fun _ => rfl))⟩,
    .inl ⟨wants_plain rfl, does_move _ (.inl rfl) rfl rfl rfl rfl (ar_tmp (av_rs 15 rfl rfl))⟩,
    .inr (skips_guardU false rfl rfl rfl (av_rs 16 rfl rfl) rfl rfl rfl rfl),
    .inr (skips_guardU false rfl rfl rfl (av_rs 16 rfl rfl) rfl rfl rfl rfl),
    .inr (skips_guardU false rfl rfl rfl (av_rs 16 rfl rfl) rfl rfl rfl rfl),
    .inl ⟨wants_plain rfl, does_pick false _ _ _ rfl rfl rfl rfl rfl (ar_tmp (av_rs 16 rfl rfl)) (ar_const (fun _ => rfl))⟩,
    .inl ⟨wants_plain rfl, does_move _ (.inr rfl) rfl rfl rfl rfl (ar_tmp (av_rs 20 rfl rfl))⟩,
    trivial⟩ ?_
  refine nx_sub (fs' := [.slot 2 (VP.bool false)]) [23] rfl ?_
  refine nx_then ?_
  refine t_ret ?_
  exact rt_one rfl (res_tmp 0 rfl)
set_option maxRecDepth 100000 in
set_option maxHeartbeats 4000000 in
theorem s_rightBt (x : Raw) (hl : x.2.length ≤ 100000000) (h : (strip x.2).length = x.2.length) (k : 0 < x.2.length) (ha : (x.2.any (fun d => decide (1000000000 ≤ d))) = true) : Spec Try.prog 69 [(VP.agg [VP.bool x.1, VP.nums .u32 x.2]).p] (VP.bool false) := by
  refine spec_of (xs := [VP.agg [VP.bool x.1, VP.nums .u32 x.2]]) 27 [1] Try.func69 rfl Try.ntmps69 rfl fun w0 => ?_
  refine t_seq ?_
  refine t_region (F := ⟨_, _, _, _⟩) [.slot 0 (VP.agg [VP.bool x.1, VP.nums .u32 x.2])] [] [(0, .box 1 69 [VP.bool x.1, VP.nums .u32 x.2]), (1, .slot 2 (VP.bool false))] [0] [] rfl rfl follow rfl ⟨
    .inl ⟨wants_plain rfl, does_box _ rfl rfl rfl rfl rfl (ar_tmp (av_fs 0 rfl))⟩,
    .inl ⟨wants_plain rfl, does_move _ (.inr rfl) rfl rfl rfl rfl (ar_const (fun _ => rfl))⟩,
    trivial⟩ ?_
  refine nx_sub (fs' := [.box 1 69 [VP.bool x.1, VP.nums .u32 x.2], .slot 2 (VP.bool false)]) [1, 2] rfl ?_
  refine nx_then ?_
  refine t_seq ?_
  refine t_region (F := ⟨_, _, _, _⟩) [.box 1 69 [VP.bool x.1, VP.nums .u32 x.2], .slot 2 (VP.bool false)] [] [(0, .fp 4 1 1), (1, .slot 5 (VP.nums .u32 x.2)), (2, .slot 3 (VP.nums .u32 x.2))] [0, 1] [] rfl rfl follow rfl ⟨
    .inl ⟨wants_plain rfl, does_field _ _ _ 1 ty_f1_api_Int rfl rfl rfl rfl rfl rfl rfl (pt_box (av_fs 0 rfl))⟩,
    .inl ⟨wants_plain rfl, does_loadOne _ ty_one___uint32 rfl rfl rfl rfl rfl rfl (pt_fp (av_rs 0 rfl rfl)) (av_fs 0 rfl)⟩,
    .inl ⟨wants_plain rfl, does_move _ (.inr rfl) rfl rfl rfl rfl (ar_tmp (av_rs 1 rfl rfl))⟩,
    trivial⟩ ?_
  refine nx_sub (fs' := [.box 1 69 [VP.bool x.1, VP.nums .u32 x.2], .slot 2 (VP.bool false), .slot 3 (VP.nums .u32 x.2)]) [0, 1, 4] rfl ?_
  refine nx_then ?_
  refine t_seq ?_
  refine t_region (F := ⟨_, _, _, _⟩) [.box 1 69 [VP.bool x.1, VP.nums .u32 x.2], .slot 3 (VP.nums .u32 x.2)] [(21, .slot 2 (VP.bool false))] [(0, .slot 6 (VP.nums .u32 x.2)), (1, .slot 7 (VP.nums .u32 (strip x.2))), (2, .slot 8 (VP.int .i64 ((((strip x.2)).length : Nat) : Int))), (3, .slot 9 (VP.nums .u32 x.2)), (4, .slot 10 (VP.int .i64 (((x.2).length : Nat) : Int))), (5, .slot 11 (VP.bool (((((strip x.2)).length : Nat) : Int) == (((x.2).length : Nat) : Int)))), (6, .slot 12 (VP.bool (((((strip x.2)).length : Nat) : Int) == (((x.2).length : Nat) : Int)))), (7, .slot 13 (VP.nums .u32 x.2)), (8, .slot 14 (VP.int .i64 (((x.2).length : Nat) : Int))), (9, .slot 15 (VP.bool (decide ((((x.2).length : Nat) : Int) > 0)))), (10, .slot 16 (VP.bool (decide ((((x.2).length : Nat) : Int) > 0)))), (11, .slot 17 (VP.undef)), (12, .slot 18 (VP.undef)), (13, .slot 19 (VP.undef)), (14, .slot 20 (VP.bool true)), (15, .slot 21 (VP.bool true)), (16, .slot 22 (VP.bool true)), (17, .slot 23 (VP.nums .u32 x.2)), (18, .slot 24 (VP.bool (x.2.any (fun d => decide (1000000000 ≤ d))))), (19, .slot 25 (VP.bool false)), (20, .slot 26 (VP.bool false)), (21, .slot 2 (VP.bool false))] [0, 2] [1] rfl rfl follow rfl ⟨
    .inl ⟨wants_plain rfl, does_move _ (.inl rfl) rfl rfl rfl rfl (ar_tmp (av_fs 1 rfl))⟩,
    .inl ⟨wants_plain rfl, does_call (s_trim x.2) rfl hb_collator_whole_digits_trim rfl rfl rfl rfl ⟨(ar_tmp (av_rs 0 rfl rfl)), trivial⟩⟩,
    .inl ⟨wants_plain rfl, does_len _ _ (by kernel_rfl) rfl rfl rfl rfl rfl (ar_tmp (av_rs 1 rfl rfl))⟩,
    .inl ⟨wants_plain rfl, does_move _ (.inl rfl) rfl rfl rfl rfl (ar_tmp (av_fs 1 rfl))⟩,
    .inl ⟨wants_plain rfl, does_len _ _ (by kernel_rfl) rfl rfl rfl rfl rfl (ar_tmp (av_rs 3 rfl rfl))⟩,
    .inl ⟨wants_plain rfl, does_cmp (m := ((((strip x.2)).length : Nat) : Int)) (n := (((x.2).length : Nat) : Int)) _ _ _ _ _ rfl rfl rfl rfl rfl rfl .i64 (ar_tmp (av_rs 2 rfl rfl)) (ar_tmp (av_rs 4 rfl rfl))⟩,
    .inl ⟨wants_plain rfl, does_move _ (.inl rfl) rfl rfl rfl rfl (ar_tmp (av_rs 5 rfl rfl))⟩,
    .inl ⟨wants_guard true rfl rfl rfl (av_bool (beq_iff_eq.2 (by omega)) (av_rs 6 rfl rfl)), does_move _ (.inl rfl) rfl rfl rfl rfl (ar_tmp (av_fs 1 rfl))⟩,
    .inl ⟨wants_guard true rfl rfl rfl (av_bool (beq_iff_eq.2 (by omega)) (av_rs 6 rfl rfl)), does_len _ _ (by kernel_rfl) rfl rfl rfl rfl rfl (ar_tmp (av_rs 7 rfl rfl))⟩,
    .inl ⟨wants_guard true rfl rfl rfl (av_bool (beq_iff_eq.2 (by omega)) (av_rs 6 rfl rfl)), does_cmp (m := (((x.2).length : Nat) : Int)) (n := 0) _ _ _ _ _ rfl rfl rfl rfl rfl rfl .i64 (ar_tmp (av_rs 8 rfl rfl)) (ar_const (fun _ => rfl))⟩,
    .inl ⟨wants_guard true rfl rfl rfl (av_bool (beq_iff_eq.2 (by omega)) (av_rs 6 rfl rfl)), does_move _ (.inl rfl) rfl rfl rfl rfl (ar_tmp (av_rs 9 rfl rfl))⟩,
    .inr (skips_guardU true rfl rfl rfl (av_bool (decide_eq_true (by omega)) (av_rs 10 rfl rfl)) rfl rfl rfl rfl),
    .inr (skips_guardU true rfl rfl rfl (av_bool (decide_eq_true (by omega)) (av_rs 10 rfl rfl)) rfl rfl rfl rfl),
    .inr (skips_guardU true rfl rfl rfl (av_bool (decide_eq_true (by omega)) (av_rs 10 rfl rfl)) rfl rfl rfl rfl),
    .inl ⟨wants_guard true rfl rfl rfl (av_bool (beq_iff_eq.2 (by omega)) (av_rs 6 rfl rfl)), does_pick true _ _ _ rfl rfl rfl rfl rfl (ar_tmp (av_bool (decide_eq_true (by omega)) (av_rs 10 rfl rfl))) (ar_const (fun _ => rfl))⟩,
    .inl ⟨wants_plain rfl, does_pick true _ _ _ rfl rfl rfl rfl rfl (ar_tmp (av_bool (beq_iff_eq.2 (by omega)) (av_rs 6 rfl rfl))) (ar_tmp (av_rs 14 rfl rfl))⟩,
    .inl ⟨wants_plain rfl, does_move _ (.inl rfl) rfl rfl rfl rfl (ar_tmp (av_rs 15 rfl rfl))⟩,
    .inl ⟨wants_guard true rfl rfl rfl (av_rs 16 rfl rfl), does_move _ (.inl rfl) rfl rfl rfl rfl (ar_tmp (av_fs 1 rfl))⟩,
    .inl ⟨wants_guard true rfl rfl rfl (av_rs 16 rfl rfl), does_call (s_contains x.2 hl) rfl hb_slices_ContainsFunc_collator_whole_digits_uint32 rfl rfl rfl rfl ⟨(ar_tmp (av_rs 17 rfl rfl)), ar_fn, trivial⟩⟩,
    .inl ⟨wants_guard true rfl rfl rfl (av_rs 16 rfl rfl), does_not true _ _ rfl rfl rfl rfl rfl (ar_tmp (av_bool ha (av_rs 18 rfl rfl)))⟩,
    .inl ⟨wants_plain rfl, does_pick true _ _ _ rfl rfl rfl rfl rfl (ar_tmp (av_rs 16 rfl rfl)) (ar_tmp (av_rs 19 rfl rfl))⟩,
    .inl ⟨wants_plain rfl, does_move _ (.inr rfl) rfl rfl rfl rfl (ar_tmp (av_rs 20 rfl rfl))⟩,
    trivial⟩ ?_
  refine nx_sub (fs' := [.slot 2 (VP.bool false)]) [23] rfl ?_
  refine nx_then ?_
  refine t_ret ?_
  exact rt_one rfl (res_tmp 0 rfl)
set_option maxRecDepth 100000 in
set_option maxHeartbeats 4000000 in
theorem s_rightBf (x : Raw) (hl : x.2.length ≤ 100000000) (h : (strip x.2).length = x.2.length) (k : 0 < x.2.length) (ha : (x.2.any (fun d => decide (1000000000 ≤ d))) = false) : Spec Try.prog 69 [(VP.agg [VP.bool x.1, VP.nums .u32 x.2]).p] (VP.bool true) := by
  refine spec_of (xs := [VP.agg [VP.bool x.1, VP.nums .u32 x.2]]) 27 [1] Try.func69 rfl Try.ntmps69 rfl fun w0 => ?_
  refine t_seq ?_
  refine t_region (F := ⟨_, _, _, _⟩) [.slot 0 (VP.agg [VP.bool x.1, VP.nums .u32 x.2])] [] [(0, .box 1 69 [VP.bool x.1, VP.nums .u32 x.2]), (1, .slot 2 (VP.bool false))] [0] [] rfl rfl follow rfl ⟨
    .inl ⟨wants_plain rfl, does_box _ rfl rfl rfl rfl rfl (ar_tmp (av_fs 0 rfl))⟩,
    .inl ⟨wants_plain rfl, does_move _ (.inr rfl) rfl rfl rfl rfl (ar_const (fun _ => rfl))⟩,
    trivial⟩ ?_
  refine nx_sub (fs' := [.box 1 69 [VP.bool x.1, VP.nums .u32 x.2], .slot 2 (VP.bool false)]) [1, 2] rfl ?_
  refine nx_then ?_
  refine t_seq ?_
  refine t_region (F := ⟨_, _, _, _⟩) [.box 1 69 [VP.bool x.1, VP.nums .u32 x.2], .slot 2 (VP.bool false)] [] [(0, .fp 4 1 1), (1, .slot 5 (VP.nums .u32 x.2)), (2, .slot 3 (VP.nums .u32 x.2))] [0, 1] [] rfl rfl follow rfl ⟨
    .inl ⟨wants_plain rfl, does_field _ _ _ 1 ty_f1_api_Int rfl rfl rfl rfl rfl rfl rfl (pt_box (av_fs 0 rfl))⟩,
    .inl ⟨wants_plain rfl, does_loadOne _ ty_one___uint32 rfl rfl rfl rfl rfl rfl (pt_fp (av_rs 0 rfl rfl)) (av_fs 0 rfl)⟩,
    .inl ⟨wants_plain rfl, does_move _ (.inr rfl) rfl rfl rfl rfl (ar_tmp (av_rs 1 rfl rfl))⟩,
    trivial⟩ ?_
  refine nx_sub (fs' := [.box 1 69 [VP.bool x.1, VP.nums .u32 x.2], .slot 2 (VP.bool false), .slot 3 (VP.nums .u32 x.2)]) [0, 1, 4] rfl ?_
  refine nx_then ?_
  refine t_seq ?_
  refine t_region (F := ⟨_, _, _, _⟩) [.box 1 69 [VP.bool x.1, VP.nums .u32 x.2], .slot 3 (VP.nums .u32 x.2)] [(21, .slot 2 (VP.bool false))] [(0, .slot 6 (VP.nums .u32 x.2)), (1, .slot 7 (VP.nums .u32 (strip x.2))), (2, .slot 8 (VP.int .i64 ((((strip x.2)).length : Nat) : Int))), (3, .slot 9 (VP.nums .u32 x.2)), (4, .slot 10 (VP.int .i64 (((x.2).length : Nat) : Int))), (5, .slot 11 (VP.bool (((((strip x.2)).length : Nat) : Int) == (((x.2).length : Nat) : Int)))), (6, .slot 12 (VP.bool (((((strip x.2)).length : Nat) : Int) == (((x.2).length : Nat) : Int)))), (7, .slot 13 (VP.nums .u32 x.2)), (8, .slot 14 (VP.int .i64 (((x.2).length : Nat) : Int))), (9, .slot 15 (VP.bool (decide ((((x.2).length : Nat) : Int) > 0)))), (10, .slot 16 (VP.bool (decide ((((x.2).length : Nat) : Int) > 0)))), (11, .slot 17 (VP.undef)), (12, .slot 18 (VP.undef)), (13, .slot 19 (VP.undef)), (14, .slot 20 (VP.bool true)), (15, .slot 21 (VP.bool true)), (16, .slot 22 (VP.bool true)), (17, .slot 23 (VP.nums .u32 x.2)), (18, .slot 24 (VP.bool (x.2.any (fun d => decide (1000000000 ≤ d))))), (19, .slot 25 (VP.bool true)), (20, .slot 26 (VP.bool true)), (21, .slot 2 (VP.bool true))] [0, 2] [1] rfl rfl follow rfl ⟨
    .inl ⟨wants_plain rfl, does_move _ (.inl rfl) rfl rfl rfl rfl (ar_tmp (av_fs 1 rfl))⟩,
    .inl ⟨wants_plain rfl, does_call (s_trim x.2) rfl hb_collator_whole_digits_trim rfl rfl rfl rfl ⟨(ar_tmp (av_rs 0 rfl rfl)), trivial⟩⟩,
    .inl ⟨wants_plain rfl, does_len _ _ (by kernel_rfl) rfl rfl rfl rfl rfl (ar_tmp (av_rs 1 rfl rfl))⟩,
    .inl ⟨wants_plain rfl, does_move _ (.inl rfl) rfl rfl rfl rfl (ar_tmp (av_fs 1 rfl))⟩,
    .inl ⟨wants_plain rfl, does_len _ _ (by kernel_rfl) rfl rfl rfl rfl rfl (ar_tmp (av_rs 3 rfl rfl))⟩,
    .inl ⟨wants_plain rfl, does_cmp (m := ((((strip x.2)).length : Nat) : Int)) (n := (((x.2).length : Nat) : Int)) _ _ _ _ _ rfl rfl rfl rfl rfl rfl .i64 (ar_tmp (av_rs 2 rfl rfl)) (ar_tmp (av_rs 4 rfl rfl))⟩,
    .inl ⟨wants_plain rfl, does_move _ (.inl rfl) rfl rfl rfl rfl (ar_tmp (av_rs 5 rfl rfl))⟩,
    .inl ⟨wants_guard true rfl rfl rfl (av_bool (beq_iff_eq.2 (by omega)) (av_rs 6 rfl rfl)), does_move _ (.inl rfl) rfl rfl rfl rfl (ar_tmp (av_fs 1 rfl))⟩,
    .inl ⟨wants_guard true rfl rfl rfl (av_bool (beq_iff_eq.2 (by omega)) (av_rs 6 rfl rfl)), does_len _ _ (by kernel_rfl) rfl rfl rfl rfl rfl (ar_tmp (av_rs 7 rfl rfl))⟩,
    .inl ⟨wants_guard true rfl rfl rfl (av_bool (beq_iff_eq.2 (by omega)) (av_rs 6 rfl rfl)), does_cmp (m := (((x.2).length : Nat) : Int)) (n := 0) _ _ _ _ _ rfl rfl rfl rfl rfl rfl .i64 (ar_tmp (av_rs 8 rfl rfl)) (ar_const (fun _ => rfl))⟩,
    .inl ⟨wants_guard true rfl rfl rfl (av_bool (beq_iff_eq.2 (by omega)) (av_rs 6 rfl rfl)), does_move _ (.inl rfl) rfl rfl rfl rfl (ar_tmp (av_rs 9 rfl rfl))⟩,
    .inr (skips_guardU true rfl rfl rfl (av_bool (decide_eq_true (by omega)) (av_rs 10 rfl rfl)) rfl rfl rfl rfl),
    .inr (skips_guardU true rfl rfl rfl (av_bool (decide_eq_true (by omega)) (av_rs 10 rfl rfl)) rfl rfl rfl rfl),
    .inr (skips_guardU true rfl rfl rfl (av_bool (decide_eq_true (by omega)) (av_rs 10 rfl rfl)) rfl rfl rfl rfl),
    .inl ⟨wants_guard true rfl rfl rfl (av_bool (beq_iff_eq.2 (by omega)) (av_rs 6 rfl rfl)), does_pick true _ _ _ rfl rfl rfl rfl rfl (ar_tmp (av_bool (decide_eq_true (by omega)) (av_rs 10 rfl rfl))) (ar_const (fun _ => rfl))⟩,
    .inl ⟨wants_plain rfl, does_pick true _ _ _ rfl rfl rfl rfl rfl (ar_tmp (av_bool (beq_iff_eq.2 (by omega)) (av_rs 6 rfl rfl))) (ar_tmp (av_rs 14 rfl rfl))⟩,
    .inl ⟨wants_plain rfl, does_move _ (.inl rfl) rfl rfl rfl rfl (ar_tmp (av_rs 15 rfl rfl))⟩,
    .inl ⟨wants_guard true rfl rfl rfl (av_rs 16 rfl rfl), does_move _ (.inl rfl) rfl rfl rfl rfl (ar_tmp (av_fs 1 rfl))⟩,
    .inl ⟨wants_guard true rfl rfl rfl (av_rs 16 rfl rfl), does_call (s_contains x.2 hl) rfl hb_slices_ContainsFunc_collator_whole_digits_uint32 rfl rfl rfl rfl ⟨(ar_tmp (av_rs 17 rfl rfl)), ar_fn, trivial⟩⟩,
    .inl ⟨wants_guard true rfl rfl rfl (av_rs 16 rfl rfl), does_not false _ _ rfl rfl rfl rfl rfl (ar_tmp (av_bool ha (av_rs 18 rfl rfl)))⟩,
    .inl ⟨wants_plain rfl, does_pick true _ _ _ rfl rfl rfl rfl rfl (ar_tmp (av_rs 16 rfl rfl)) (ar_tmp (av_rs 19 rfl rfl))⟩,
    .inl ⟨wants_plain rfl, does_move _ (.inr rfl) rfl rfl rfl rfl (ar_tmp (av_rs 20 rfl rfl))⟩,
    trivial⟩ ?_
  refine nx_sub (fs' := [.slot 2 (VP.bool true)]) [23] rfl ?_
  refine nx_then ?_
  refine t_ret ?_
  exact rt_one rfl (res_tmp 0 rfl)
set_option maxRecDepth 100000 in
set_option maxHeartbeats 4000000 in
theorem s_rightCt (x : Raw) (hl : x.2.length ≤ 100000000) (h : (strip x.2).length = x.2.length) (k : ¬ 0 < x.2.length) (hs : x.1 = false) (ha : (x.2.any (fun d => decide (1000000000 ≤ d))) = true) : Spec Try.prog 69 [(VP.agg [VP.bool x.1, VP.nums .u32 x.2]).p] (VP.bool false) := by
  refine spec_of (xs := [VP.agg [VP.bool x.1, VP.nums .u32 x.2]]) 27 [1] Try.func69 rfl Try.ntmps69 rfl fun w0 => ?_
  refine t_seq ?_
  refine t_region (F := ⟨_, _, _, _⟩) [.slot 0 (VP.agg [VP.bool x.1, VP.nums .u32 x.2])] [] [(0, .box 1 69 [VP.bool x.1, VP.nums .u32 x.2]), (1, .slot 2 (VP.bool false))] [0] [] rfl rfl follow rfl ⟨
    .inl ⟨wants_plain rfl, does_box _ rfl rfl rfl rfl rfl (ar_tmp (av_fs 0 rfl))⟩,
    .inl ⟨wants_plain rfl, does_move _ (.inr rfl) rfl rfl rfl rfl (ar_const (fun _ => rfl))⟩,
    trivial⟩ ?_
  refine nx_sub (fs' := [.box 1 69 [VP.bool x.1, VP.nums .u32 x.2], .slot 2 (VP.bool false)]) [1, 2] rfl ?_
  refine nx_then ?_
  refine t_seq ?_
  refine t_region (F := ⟨_, _, _, _⟩) [.box 1 69 [VP.bool x.1, VP.nums .u32 x.2], .slot 2 (VP.bool false)] [] [(0, .fp 4 1 1), (1, .slot 5 (VP.nums .u32 x.2)), (2, .slot 3 (VP.nums .u32 x.2))] [0, 1] [] rfl rfl follow rfl ⟨
    .inl ⟨wants_plain rfl, does_field _ _ _ 1 ty_f1_api_Int rfl rfl rfl rfl rfl rfl rfl (pt_box (av_fs 0 rfl))⟩,
    .inl ⟨wants_plain rfl, does_loadOne _ ty_one___uint32 rfl rfl rfl rfl rfl rfl (pt_fp (av_rs 0 rfl rfl)) (av_fs 0 rfl)⟩,
    .inl ⟨wants_plain rfl, does_move _ (.inr rfl) rfl rfl rfl rfl (ar_tmp (av_rs 1 rfl rfl))⟩,
    trivial⟩ ?_
  refine nx_sub (fs' := [.box 1 69 [VP.bool x.1, VP.nums .u32 x.2], .slot 2 (VP.bool false), .slot 3 (VP.nums .u32 x.2)]) [0, 1, 4] rfl ?_
  refine nx_then ?_
  refine t_seq ?_
  refine t_region (F := ⟨_, _, _, _⟩) [.box 1 69 [VP.bool x.1, VP.nums .u32 x.2], .slot 3 (VP.nums .u32 x.2)] [(21, .slot 2 (VP.bool false))] [(0, .slot 6 (VP.nums .u32 x.2)), (1, .slot 7 (VP.nums .u32 (strip x.2))), (2, .slot 8 (VP.int .i64 ((((strip x.2)).length : Nat) : Int))), (3, .slot 9 (VP.nums .u32 x.2)), (4, .slot 10 (VP.int .i64 (((x.2).length : Nat) : Int))), (5, .slot 11 (VP.bool (((((strip x.2)).length : Nat) : Int) == (((x.2).length : Nat) : Int)))), (6, .slot 12 (VP.bool (((((strip x.2)).length : Nat) : Int) == (((x.2).length : Nat) : Int)))), (7, .slot 13 (VP.nums .u32 x.2)), (8, .slot 14 (VP.int .i64 (((x.2).length : Nat) : Int))), (9, .slot 15 (VP.bool (decide ((((x.2).length : Nat) : Int) > 0)))), (10, .slot 16 (VP.bool (decide ((((x.2).length : Nat) : Int) > 0)))), (11, .fp 17 1 0), (12, .slot 18 (VP.bool x.1)), (13, .slot 19 (VP.bool true)), (14, .slot 20 (VP.bool true)), (15, .slot 21 (VP.bool true)), (16, .slot 22 (VP.bool true)), (17, .slot 23 (VP.nums .u32 x.2)), (18, .slot 24 (VP.bool (x.2.any (fun d => decide (1000000000 ≤ d))))), (19, .slot 25 (VP.bool false)), (20, .slot 26 (VP.bool false)), (21, .slot 2 (VP.bool false))] [0, 2] [1] rfl rfl follow rfl ⟨
    .inl ⟨wants_plain rfl, does_move _ (.inl rfl) rfl rfl rfl rfl (ar_tmp (av_fs 1 rfl))⟩,
    .inl ⟨wants_plain rfl, does_call (s_trim x.2) rfl hb_collator_whole_digits_trim rfl rfl rfl rfl ⟨(ar_tmp (av_rs 0 rfl rfl)), trivial⟩⟩,
    .inl ⟨wants_plain rfl, does_len _ _ (by kernel_rfl) rfl rfl rfl rfl rfl (ar_tmp (av_rs 1 rfl rfl))⟩,
    .inl ⟨wants_plain rfl, does_move _ (.inl rfl) rfl rfl rfl rfl (ar_tmp (av_fs 1 rfl))⟩,
    .inl ⟨wants_plain rfl, does_len _ _ (by kernel_rfl) rfl rfl rfl rfl rfl (ar_tmp (av_rs 3 rfl rfl))⟩,
    .inl ⟨wants_plain rfl, does_cmp (m := ((((strip x.2)).length : Nat) : Int)) (n := (((x.2).length : Nat) : Int)) _ _ _ _ _ rfl rfl rfl rfl rfl rfl .i64 (ar_tmp (av_rs 2 rfl rfl)) (ar_tmp (av_rs 4 rfl rfl))⟩,
    .inl ⟨wants_plain rfl, does_move _ (.inl rfl) rfl rfl rfl rfl (ar_tmp (av_rs 5 rfl rfl))⟩,
    .inl ⟨wants_guard true rfl rfl rfl (av_bool (beq_iff_eq.2 (by omega)) (av_rs 6 rfl rfl)), does_move _ (.inl rfl) rfl rfl rfl rfl (ar_tmp (av_fs 1 rfl))⟩,
    .inl ⟨wants_guard true rfl rfl rfl (av_bool (beq_iff_eq.2 (by omega)) (av_rs 6 rfl rfl)), does_len _ _ (by kernel_rfl) rfl rfl rfl rfl rfl (ar_tmp (av_rs 7 rfl rfl))⟩,
    .inl ⟨wants_guard true rfl rfl rfl (av_bool (beq_iff_eq.2 (by omega)) (av_rs 6 rfl rfl)), does_cmp (m := (((x.2).length : Nat) : Int)) (n := 0) _ _ _ _ _ rfl rfl rfl rfl rfl rfl .i64 (ar_tmp (av_rs 8 rfl rfl)) (ar_const (fun _ => rfl))⟩,
    .inl ⟨wants_guard true rfl rfl rfl (av_bool (beq_iff_eq.2 (by omega)) (av_rs 6 rfl rfl)), does_move _ (.inl rfl) rfl rfl rfl rfl (ar_tmp (av_rs 9 rfl rfl))⟩,
    .inl ⟨wants_guard false rfl rfl rfl (av_bool (decide_eq_false (by omega)) (av_rs 10 rfl rfl)), does_field _ _ _ 0 ty_f0_api_Int rfl rfl rfl rfl rfl rfl rfl (pt_box (av_fs 0 rfl))⟩,
    .inl ⟨wants_guard false rfl rfl rfl (av_bool (decide_eq_false (by omega)) (av_rs 10 rfl rfl)), does_loadOne _ ty_one_bool rfl rfl rfl rfl rfl rfl (pt_fp (av_rs 11 rfl rfl)) (av_fs 0 rfl)⟩,
    .inl ⟨wants_guard false rfl rfl rfl (av_bool (decide_eq_false (by omega)) (av_rs 10 rfl rfl)), does_not false _ _ rfl rfl rfl rfl rfl (ar_tmp (av_bool hs (av_rs 12 rfl rfl)))⟩,
    .inl ⟨wants_guard true rfl rfl rfl (av_bool (beq_iff_eq.2 (by omega)) (av_rs 6 rfl rfl)), does_pick false _ _ _ rfl rfl rfl rfl rfl (ar_tmp (av_bool (decide_eq_false (by omega)) (av_rs 10 rfl rfl))) (ar_tmp (av_rs 13 rfl rfl))⟩,
    .inl ⟨wants_plain rfl, does_pick true _ _ _ rfl rfl rfl rfl rfl (ar_tmp (av_bool (beq_iff_eq.2 (by omega)) (av_rs 6 rfl rfl))) (ar_tmp (av_rs 14 rfl rfl))⟩,
    .inl ⟨wants_plain rfl, does_move _ (.inl rfl) rfl rfl rfl rfl (ar_tmp (av_rs 15 rfl rfl))⟩,
    .inl ⟨wants_guard true rfl rfl rfl (av_rs 16 rfl rfl), does_move _ (.inl rfl) rfl rfl rfl rfl (ar_tmp (av_fs 1 rfl))⟩,
    .inl ⟨wants_guard true rfl rfl rfl (av_rs 16 rfl rfl), does_call (s_contains x.2 hl) rfl hb_slices_ContainsFunc_collator_whole_digits_uint32 rfl rfl rfl rfl ⟨(ar_tmp (av_rs 17 rfl rfl)), ar_fn, trivial⟩⟩,
    .inl ⟨wants_guard true rfl rfl rfl (av_rs 16 rfl rfl), does_not true _ _ rfl rfl rfl rfl rfl (ar_tmp (av_bool ha (av_rs 18 rfl rfl)))⟩,
    .inl ⟨wants_plain rfl, does_pick true _ _ _ rfl rfl rfl rfl rfl (ar_tmp (av_rs 16 rfl rfl)) (ar_tmp (av_rs 19 rfl rfl))⟩,
    .inl ⟨wants_plain rfl, does_move _ (.inr rfl) rfl rfl rfl rfl (ar_tmp (av_rs 20 rfl rfl))⟩,
    trivial⟩ ?_
  refine nx_sub (fs' := [.slot 2 (VP.bool false)]) [23] rfl ?_
  refine nx_then ?_
  refine t_ret ?_
  exact rt_one rfl (res_tmp 0 rfl)
set_option maxRecDepth 100000 in
set_option maxHeartbeats 4000000 in
theorem s_rightCf (x : Raw) (hl : x.2.length ≤ 100000000) (h : (strip x.2).length = x.2.length) (k : ¬ 0 < x.2.length) (hs : x.1 = false) (ha : (x.2.any (fun d => decide (1000000000 ≤ d))) = false) : Spec Try.prog 69 [(VP.agg [VP.bool x.1, VP.nums .u32 x.2]).p] (VP.bool true) := by
  refine spec_of (xs := [VP.agg [VP.bool x.1, VP.nums .u32 x.2]]) 27 [1] Try.func69 rfl Try.ntmps69 rfl fun w0 => ?_
  refine t_seq ?_
  refine t_region (F := ⟨_, _, _, _⟩) [.slot 0 (VP.agg [VP.bool x.1, VP.nums .u32 x.2])] [] [(0, .box 1 69 [VP.bool x.1, VP.nums .u32 x.2]), (1, .slot 2 (VP.bool false))] [0] [] rfl rfl follow rfl ⟨
    .inl ⟨wants_plain rfl, does_box _ rfl rfl rfl rfl rfl (ar_tmp (av_fs 0 rfl))⟩,
    .inl ⟨wants_plain rfl, does_move _ (.inr rfl) rfl rfl rfl rfl (ar_const (fun _ => rfl))⟩,
    trivial⟩ ?_
  refine nx_sub (fs' := [.box 1 69 [VP.bool x.1, VP.nums .u32 x.2], .slot 2 (VP.bool false)]) [1, 2] rfl ?_
  refine nx_then ?_
  refine t_seq ?_
  refine t_region (F := ⟨_, _, _, _⟩) [.box 1 69 [VP.bool x.1, VP.nums .u32 x.2], .slot 2 (VP.bool false)] [] [(0, .fp 4 1 1), (1, .slot 5 (VP.nums .u32 x.2)), (2, .slot 3 (VP.nums .u32 x.2))] [0, 1] [] rfl rfl follow rfl ⟨
    .inl ⟨wants_plain rfl, does_field _ _ _ 1 ty_f1_api_Int rfl rfl rfl rfl rfl rfl rfl (pt_box (av_fs 0 rfl))⟩,
    .inl ⟨wants_plain rfl, does_loadOne _ ty_one___uint32 rfl rfl rfl rfl rfl rfl (pt_fp (av_rs 0 rfl rfl)) (av_fs 0 rfl)⟩,
    .inl ⟨wants_plain rfl, does_move _ (.inr rfl) rfl rfl rfl rfl (ar_tmp (av_rs 1 rfl rfl))⟩,
    trivial⟩ ?_
  refine nx_sub (fs' := [.box 1 69 [VP.bool x.1, VP.nums .u32 x.2], .slot 2 (VP.bool false), .slot 3 (VP.nums .u32 x.2)]) [0, 1, 4] rfl ?_
  refine nx_then ?_
  refine t_seq ?_
  refine t_region (F := ⟨_, _, _, _⟩) [.box 1 69 [VP.bool x.1, VP.nums .u32 x.2], .slot 3 (VP.nums .u32 x.2)] [(21, .slot 2 (VP.bool false))] [(0, .slot 6 (VP.nums .u32 x.2)), (1, .slot 7 (VP.nums .u32 (strip x.2))), (2, .slot 8 (VP.int .i64 ((((strip x.2)).length : Nat) : Int))), (3, .slot 9 (VP.nums .u32 x.2)), (4, .slot 10 (VP.int .i64 (((x.2).length : Nat) : Int))), (5, .slot 11 (VP.bool (((((strip x.2)).length : Nat) : Int) == (((x.2).length : Nat) : Int)))), (6, .slot 12 (VP.bool (((((strip x.2)).length : Nat) : Int) == (((x.2).length : Nat) : Int)))), (7, .slot 13 (VP.nums .u32 x.2)), (8, .slot 14 (VP.int .i64 (((x.2).length : Nat) : Int))), (9, .slot 15 (VP.bool (decide ((((x.2).length : Nat) : Int) > 0)))), (10, .slot 16 (VP.bool (decide ((((x.2).length : Nat) : Int) > 0)))), (11, .fp 17 1 0), (12, .slot 18 (VP.bool x.1)), (13, .slot 19 (VP.bool true)), (14, .slot 20 (VP.bool true)), (15, .slot 21 (VP.bool true)), (16, .slot 22 (VP.bool true)), (17, .slot 23 (VP.nums .u32 x.2)), (18, .slot 24 (VP.bool (x.2.any (fun d => decide (1000000000 ≤ d))))), (19, .slot 25 (VP.bool true)), (20, .slot 26 (VP.bool true)), (21, .slot 2 (VP.bool true))] [0, 2] [1] rfl rfl follow rfl ⟨
    .inl ⟨wants_plain rfl, does_move _ (.inl rfl) rfl rfl rfl rfl (ar_tmp (av_fs 1 rfl))⟩,
    .inl ⟨wants_plain rfl, does_call (s_trim x.2) rfl hb_collator_whole_digits_trim rfl rfl rfl rfl ⟨(ar_tmp (av_rs 0 rfl rfl)), trivial⟩⟩,
    .inl ⟨wants_plain rfl, does_len _ _ (by kernel_rfl) rfl rfl rfl rfl rfl (ar_tmp (av_rs 1 rfl rfl))⟩,
    .inl ⟨wants_plain rfl, does_move _ (.inl rfl) rfl rfl rfl rfl (ar_tmp (av_fs 1 rfl))⟩,
    .inl ⟨wants_plain rfl, does_len _ _ (by kernel_rfl) rfl rfl rfl rfl rfl (ar_tmp (av_rs 3 rfl rfl))⟩,
    .inl ⟨wants_plain rfl, does_cmp (m := ((((strip x.2)).length : Nat) : Int)) (n := (((x.2).length : Nat) : Int)) _ _ _ _ _ rfl rfl rfl rfl rfl rfl .i64 (ar_tmp (av_rs 2 rfl rfl)) (ar_tmp (av_rs 4 rfl rfl))⟩,
    .inl ⟨wants_plain rfl, does_move _ (.inl rfl) rfl rfl rfl rfl (ar_tmp (av_rs 5 rfl rfl))⟩,
    .inl ⟨wants_guard true rfl rfl rfl (av_bool (beq_iff_eq.2 (by omega)) (av_rs 6 rfl rfl)), does_move _ (.inl rfl) rfl rfl rfl rfl (ar_tmp (av_fs 1 rfl))⟩,
    .inl ⟨wants_guard true rfl rfl rfl (av_bool (beq_iff_eq.2 (by omega)) (av_rs 6 rfl rfl)), does_len _ _ (by kernel_rfl) rfl rfl rfl rfl rfl (ar_tmp (av_rs 7 rfl rfl))⟩,
    .inl ⟨wants_guard true rfl rfl rfl (av_bool (beq_iff_eq.2 (by omega)) (av_rs 6 rfl rfl)), does_cmp (m := (((x.2).length : Nat) : Int)) (n := 0) _ _ _ _ _ rfl rfl rfl rfl rfl rfl .i64 (ar_tmp (av_rs 8 rfl rfl)) (ar_const (fun _ => rfl))⟩,
    .inl ⟨wants_guard true rfl rfl rfl (av_bool (beq_iff_eq.2 (by omega)) (av_rs 6 rfl rfl)), does_move _ (.inl rfl) rfl rfl rfl rfl (ar_tmp (av_rs 9 rfl rfl))⟩,
    .inl ⟨wants_guard false rfl rfl rfl (av_bool (decide_eq_false (by omega)) (av_rs 10 rfl rfl)), does_field _ _ _ 0 ty_f0_api_Int rfl rfl rfl rfl rfl rfl rfl (pt_box (av_fs 0 rfl))⟩,
    .inl ⟨wants_guard false rfl rfl rfl (av_bool (decide_eq_false (by omega)) (av_rs 10 rfl rfl)), does_loadOne _ ty_one_bool rfl rfl rfl rfl rfl rfl (pt_fp (av_rs 11 rfl rfl)) (av_fs 0 rfl)⟩,
    .inl ⟨wants_guard false rfl rfl rfl (av_bool (decide_eq_false (by omega)) (av_rs 10 rfl rfl)), does_not false _ _ rfl rfl rfl rfl rfl (ar_tmp (av_bool hs (av_rs 12 rfl rfl)))⟩,
    .inl ⟨wants_guard true rfl rfl rfl (av_bool (beq_iff_eq.2 (by omega)) (av_rs 6 rfl rfl)), does_pick false _ _ _ rfl rfl rfl rfl rfl (ar_tmp (av_bool (decide_eq_false (by omega)) (av_rs 10 rfl rfl))) (ar_tmp (av_rs 13 rfl rfl))⟩,
    .inl ⟨wants_plain rfl, does_pick true _ _ _ rfl rfl rfl rfl rfl (ar_tmp (av_bool (beq_iff_eq.2 (by omega)) (av_rs 6 rfl rfl))) (ar_tmp (av_rs 14 rfl rfl))⟩,
    .inl ⟨wants_plain rfl, does_move _ (.inl rfl) rfl rfl rfl rfl (ar_tmp (av_rs 15 rfl rfl))⟩,
    .inl ⟨wants_guard true rfl rfl rfl (av_rs 16 rfl rfl), does_move _ (.inl rfl) rfl rfl rfl rfl (ar_tmp (av_fs 1 rfl))⟩,
    .inl ⟨wants_guard true rfl rfl rfl (av_rs 16 rfl rfl), does_call (s_contains x.2 hl) rfl hb_slices_ContainsFunc_collator_whole_digits_uint32 rfl rfl rfl rfl ⟨(ar_tmp (av_rs 17 rfl rfl)), ar_fn, trivial⟩⟩,
    .inl ⟨wants_guard true rfl rfl rfl (av_rs 16 rfl rfl), does_not false _ _ rfl rfl rfl rfl rfl (ar_tmp (av_bool ha (av_rs 18 rfl rfl)))⟩,
    .inl ⟨wants_plain rfl, does_pick true _ _ _ rfl rfl rfl rfl rfl (ar_tmp (av_rs 16 rfl rfl)) (ar_tmp (av_rs 19 rfl rfl))⟩,
    .inl ⟨wants_plain rfl, does_move _ (.inr rfl) rfl rfl rfl rfl (ar_tmp (av_rs 20 rfl rfl))⟩,
    trivial⟩ ?_
  refine nx_sub (fs' := [.slot 2 (VP.bool true)]) [23] rfl ?_
  refine nx_then ?_
  refine t_ret ?_
  exact rt_one rfl (res_tmp 0 rfl)
set_option maxRecDepth 100000 in
set_option maxHeartbeats 4000000 in
theorem s_rightD (x : Raw) (hl : x.2.length ≤ 100000000) (h : (strip x.2).length = x.2.length) (k : ¬ 0 < x.2.length) (hs : x.1 = true) : Spec Try.prog 69 [(VP.agg [VP.bool x.1, VP.nums .u32 x.2]).p] (VP.bool false) := by
  refine spec_of (xs := [VP.agg [VP.bool x.1, VP.nums .u32 x.2]]) 27 [1] Try.func69 rfl Try.ntmps69 rfl fun w0 => ?_
  refine t_seq ?_
  refine t_region (F := ⟨_, _, _, _⟩) [.slot 0 (VP.agg [VP.bool x.1, VP.nums .u32 x.2])] [] [(0, .box 1 69 [VP.bool x.1, VP.nums .u32 x.2]), (1, .slot 2 (VP.bool false))] [0] [] rfl rfl follow rfl ⟨
    .inl ⟨wants_plain rfl, does_box _ rfl rfl rfl rfl rfl (ar_tmp (av_fs 0 rfl))⟩,
    .inl ⟨wants_plain rfl, does_move _ (.inr rfl) rfl rfl rfl rfl (ar_const (fun _ => rfl))⟩,
    trivial⟩ ?_
  refine nx_sub (fs' := [.box 1 69 [VP.bool x.1, VP.nums .u32 x.2], .slot 2 (VP.bool false)]) [1, 2] rfl ?_
  refine nx_then ?_
  refine t_seq ?_
  refine t_region (F := ⟨_, _, _, _⟩) [.box 1 69 [VP.bool x.1, VP.nums .u32 x.2], .slot 2 (VP.bool false)] [] [(0, .fp 4 1 1), (1, .slot 5 (VP.nums .u32 x.2)), (2, .slot 3 (VP.nums .u32 x.2))] [0, 1] [] rfl rfl follow rfl ⟨
    .inl ⟨wants_plain rfl, does_field _ _ _ 1 ty_f1_api_Int rfl rfl rfl rfl rfl rfl rfl (pt_box (av_fs 0 rfl))⟩,
    .inl ⟨wants_plain rfl, does_loadOne _ ty_one___uint32 rfl rfl rfl rfl rfl rfl (pt_fp (av_rs 0 rfl rfl)) (av_fs 0 rfl)⟩,
    .inl ⟨wants_plain rfl, does_move _ (.inr rfl) rfl rfl rfl rfl (ar_tmp (av_rs 1 rfl rfl))⟩,
    trivial⟩ ?_
  refine nx_sub (fs' := [.box 1 69 [VP.bool x.1, VP.nums .u32 x.2], .slot 2 (VP.bool false), .slot 3 (VP.nums .u32 x.2)]) [0, 1, 4] rfl ?_
  refine nx_then ?_
  refine t_seq ?_
  refine t_region (F := ⟨_, _, _, _⟩) [.box 1 69 [VP.bool x.1, VP.nums .u32 x.2], .slot 3 (VP.nums .u32 x.2)] [(21, .slot 2 (VP.bool false))] [(0, .slot 6 (VP.nums .u32 x.2)), (1, .slot 7 (VP.nums .u32 (strip x.2))), (2, .slot 8 (VP.int .i64 ((((strip x.2)).length : Nat) : Int))), (3, .slot 9 (VP.nums .u32 x.2)), (4, .slot 10 (VP.int .i64 (((x.2).length : Nat) : Int))), (5, .slot 11 (VP.bool (((((strip x.2)).length : Nat) : Int) == (((x.2).length : Nat) : Int)))), (6, .slot 12 (VP.bool (((((strip x.2)).length : Nat) : Int) == (((x.2).length : Nat) : Int)))), (7, .slot 13 (VP.nums .u32 x.2)), (8, .slot 14 (VP.int .i64 (((x.2).length : Nat) : Int))), (9, .slot 15 (VP.bool (decide ((((x.2).length : Nat) : Int) > 0)))), (10, .slot 16 (VP.bool (decide ((((x.2).length : Nat) : Int) > 0)))), (11, .fp 17 1 0), (12, .slot 18 (VP.bool x.1)), (13, .slot 19 (VP.bool false)), (14, .slot 20 (VP.bool false)), (15, .slot 21 (VP.bool false)), (16, .slot 22 (VP.bool false)), (17, .slot 23 (VP.undef)), (18, .slot 24 (VP.undef)), (19, .slot 25 (VP.undef)), (20, .slot 26 (VP.bool false)), (21, .slot 2 (VP.bool false))] [0, 2] [1] rfl rfl follow rfl ⟨
    .inl ⟨wants_plain rfl, does_move _ (.inl rfl) rfl rfl rfl rfl (ar_tmp (av_fs 1 rfl))⟩,
    .inl ⟨wants_plain rfl, does_call (s_trim x.2) rfl hb_collator_whole_digits_trim rfl rfl rfl rfl ⟨(ar_tmp (av_rs 0 rfl rfl)), trivial⟩⟩,
    .inl ⟨wants_plain rfl, does_len _ _ (by kernel_rfl) rfl rfl rfl rfl rfl (ar_tmp (av_rs 1 rfl rfl))⟩,
    .inl ⟨wants_plain rfl, does_move _ (.inl rfl) rfl rfl rfl rfl (ar_tmp (av_fs 1 rfl))⟩,
    .inl ⟨wants_plain rfl, does_len _ _ (by kernel_rfl) rfl rfl rfl rfl rfl (ar_tmp (av_rs 3 rfl rfl))⟩,
    .inl ⟨wants_plain rfl, does_cmp (m := ((((strip x.2)).length : Nat) : Int)) (n := (((x.2).length : Nat) : Int)) _ _ _ _ _ rfl rfl rfl rfl rfl rfl .i64 (ar_tmp (av_rs 2 rfl rfl)) (ar_tmp (av_rs 4 rfl rfl))⟩,
    .inl ⟨wants_plain rfl, does_move _ (.inl rfl) rfl rfl rfl rfl (ar_tmp (av_rs 5 rfl rfl))⟩,
    .inl ⟨wants_guard true rfl rfl rfl (av_bool (beq_iff_eq.2 (by omega)) (av_rs 6 rfl rfl)), does_move _ (.inl rfl) rfl rfl rfl rfl (ar_tmp (av_fs 1 rfl))⟩,
    .inl ⟨wants_guard true rfl rfl rfl (av_bool (beq_iff_eq.2 (by omega)) (av_rs 6 rfl rfl)), does_len _ _ (by kernel_rfl) rfl rfl rfl rfl rfl (ar_tmp (av_rs 7 rfl rfl))⟩,
    .inl ⟨wants_guard true rfl rfl rfl (av_bool (beq_iff_eq.2 (by omega)) (av_rs 6 rfl rfl)), does_cmp (m := (((x.2).length : Nat) : Int)) (n := 0) _ _ _ _ _ rfl rfl rfl rfl rfl rfl .i64 (ar_tmp (av_rs 8 rfl rfl)) (ar_const (fun _ => rfl))⟩,
    .inl ⟨wants_guard true rfl rfl rfl (av_bool (beq_iff_eq.2 (by omega)) (av_rs 6 rfl rfl)), does_move _ (.inl rfl) rfl rfl rfl rfl (ar_tmp (av_rs 9 rfl rfl))⟩,
    .inl ⟨wants_guard false rfl rfl rfl (av_bool (decide_eq_false (by omega)) (av_rs 10 rfl rfl)), does_field _ _ _ 0 ty_f0_api_Int rfl rfl rfl rfl rfl rfl rfl (pt_box (av_fs 0 rfl))⟩,
    .inl ⟨wants_guard false rfl rfl rfl (av_bool (decide_eq_false (by omega)) (av_rs 10 rfl rfl)), does_loadOne _ ty_one_bool rfl rfl rfl rfl rfl rfl (pt_fp (av_rs 11 rfl rfl)) (av_fs 0 rfl)⟩,
    .inl ⟨wants_guard false rfl rfl rfl (av_bool (decide_eq_false (by omega)) (av_rs 10 rfl rfl)), does_not true _ _ rfl rfl rfl rfl rfl (ar_tmp (av_bool hs (av_rs 12 rfl rfl)))⟩,
    .inl ⟨wants_guard true rfl rfl rfl (av_bool (beq_iff_eq.2 (by omega)) (av_rs 6 rfl rfl)), does_pick false _ _ _ rfl rfl rfl rfl rfl (ar_tmp (av_bool (decide_eq_false (by omega)) (av_rs 10 rfl rfl))) (ar_tmp (av_rs 13 rfl rfl))⟩,
    .inl ⟨wants_plain rfl, does_pick true _ _ _ rfl rfl rfl rfl rfl (ar_tmp (av_bool (beq_iff_eq.2 (by omega)) (av_rs 6 rfl rfl))) (ar_tmp (av_rs 14 rfl rfl))⟩,
    .inl ⟨wants_plain rfl, does_move _ (.inl rfl) rfl rfl rfl rfl (ar_tmp (av_rs 15 rfl rfl))⟩,
    .inr (skips_guardU false rfl rfl rfl (av_rs 16 rfl rfl) rfl rfl rfl rfl),
    .inr (skips_guardU false rfl rfl rfl (av_rs 16 rfl rfl) rfl rfl rfl rfl),
    .inr (skips_guardU false rfl rfl rfl (av_rs 16 rfl rfl) rfl rfl rfl rfl),
    .inl ⟨wants_plain rfl, does_pick false _ _ _ rfl rfl rfl rfl rfl (ar_tmp (av_rs 16 rfl rfl)) (ar_const (fun _ => rfl))⟩,
    .inl ⟨wants_plain rfl, does_move _ (.inr rfl) rfl rfl rfl rfl (ar_tmp (av_rs 20 rfl rfl))⟩,
    trivial⟩ ?_
  refine nx_sub (fs' := [.slot 2 (VP.bool false)]) [23] rfl ?_
  refine nx_then ?_
  refine t_ret ?_
  exact rt_one rfl (res_tmp 0 rfl)
theorem strip_last (l : List Nat) : (strip l).length = l.length ↔ l.length = 0 ∨ l[l.length - 1]?.getD 0 ≠ 0 := by
  rw [strip_len]
  constructor
  · intro h
    have := stripN_last l l.length
    rwa [h] at this
  · intro h
    rcases h with h | h
    · have := stripN_le l l.length; omega
    · have h1 := stripN_le l l.length
      by_cases h2 : stripN l l.length = l.length
      · exact h2
      · exfalso
        exact h (stripN_zero l l.length (l.length - 1) (by omega) (by omega))
/-- whole.Right, whatever comes in: what the reference says -/
theorem s_right (x : Raw) (hl : x.2.length ≤ 100000000) : Spec Try.prog 69 [(RAW x).p] (VP.bool (rightB x.1 x.2)) := by
  have e1 : x.2.all (fun d => decide (d < 1000000000)) = !x.2.any (fun d => decide (1000000000 ≤ d)) := by
    rw [Bool.eq_iff_iff]
    simp only [List.all_eq_true, Bool.not_eq_true', List.any_eq_false, decide_eq_true_eq]
    constructor
    · intro h y hy; have := h y hy; simp; omega
    · intro h y hy; have := h y hy; simp at this; omega
  have hsl := strip_last x.2
  by_cases h : (strip x.2).length = x.2.length
  · have h' := hsl.1 h
    by_cases k : 0 < x.2.length
    · have e2 : rightB x.1 x.2 = !x.2.any (fun d => decide (1000000000 ≤ d)) := by
        unfold rightB
        rw [e1, if_neg (by omega), decide_eq_true (by rcases h' with g | g; omega; exact g), Bool.and_true]
      rw [e2]
      cases ha : x.2.any (fun d => decide (1000000000 ≤ d))
      · exact s_rightBf x hl h k ha
      · exact s_rightBt x hl h k ha
    · have e2 : rightB x.1 x.2 = (!x.2.any (fun d => decide (1000000000 ≤ d)) && !x.1) := by
        unfold rightB
        rw [e1, if_pos (by omega)]
      rw [e2]
      cases hs : x.1
      · cases ha : x.2.any (fun d => decide (1000000000 ≤ d))
        · exact s_rightCf x hl h k hs ha
        · exact s_rightCt x hl h k hs ha
      · rw [show (!x.2.any (fun d => decide (1000000000 ≤ d)) && !true) = false from by simp]
        exact s_rightD x hl h k hs
  · have e2 : rightB x.1 x.2 = false := by
      unfold rightB
      have h1 : ¬ (x.2.length = 0 ∨ x.2[x.2.length - 1]?.getD 0 ≠ 0) := fun g => h (hsl.2 g)
      have h2 : x.2.length ≠ 0 := fun g => h1 (.inl g)
      rw [if_neg h2, decide_eq_false (fun g => h1 (.inr g)), Bool.and_false]
    rw [e2]
    exact s_rightA x hl h
end Go.Proofs.Ytogodjiemgilaaa

/- FracMakes: the walks. -/
namespace Go.Proofs.Ytogodjiemgilaaa
open Go.RowKit
theorem r_rightR (x : Raw) (hx : x.ok) (hl : x.2.length ≤ 100000000) : Spec Try.prog 70 [(RAW x).p] (VP.bool (rightB x.1 x.2)) :=
  spec1 fun v1 w p1 => by
    obtain ⟨cs, rfl, h⟩ := p1
    match cs, h with
    | [u, v], ⟨h1, ⟨a, c, h2, h3, h4, h5⟩, _⟩ =>
      have h1 : u = .bool x.1 := h1
      subst h1 h2
      exact (rright_walk x.1 x.2 a c w (by omega) hx h5).mono fun e w' h => ⟨_, h.1, rfl, h.2⟩
set_option maxRecDepth 100000 in
set_option maxHeartbeats 4000000 in
theorem fr_n1 (x : FRaw) (_ho1 : x.1.ok) (_ho2 : x.2.ok) (hl1 : x.1.2.length ≤ 100000000) (_hl2 : x.2.2.length ≤ 100000000) (h : (rightB x.1.1 x.1.2) = false) : Spec Try.prog 87 [(VP.agg [VP.bool x.1.1, VP.nums .u32 x.1.2, VP.bool x.2.1, VP.nums .u32 x.2.2]).p] (VP.bool false) := by
  refine spec_of (xs := [VP.agg [VP.bool x.1.1, VP.nums .u32 x.1.2, VP.bool x.2.1, VP.nums .u32 x.2.2]]) 43 [1, 3] Try.func87 rfl Try.ntmps87 rfl fun w0 => ?_
  refine t_seq ?_
  refine t_region (F := ⟨_, _, _, _⟩) [.slot 0 (VP.agg [VP.bool x.1.1, VP.nums .u32 x.1.2, VP.bool x.2.1, VP.nums .u32 x.2.2])] [] [(0, .box 1 100 [VP.bool x.1.1, VP.nums .u32 x.1.2, VP.bool x.2.1, VP.nums .u32 x.2.2]), (1, .slot 2 (VP.bool false))] [0] [] rfl rfl follow rfl ⟨
    .inl ⟨wants_plain rfl, does_box _ rfl rfl rfl rfl rfl (ar_tmp (av_fs 0 rfl))⟩,
    .inl ⟨wants_plain rfl, does_move _ (.inr rfl) rfl rfl rfl rfl (ar_const (fun _ => rfl))⟩,
    trivial⟩ ?_
  refine nx_sub (fs' := [.box 1 100 [VP.bool x.1.1, VP.nums .u32 x.1.2, VP.bool x.2.1, VP.nums .u32 x.2.2], .slot 2 (VP.bool false)]) [1, 2] rfl ?_
  refine nx_then ?_
  refine t_seq ?_
  refine t_region (F := ⟨_, _, _, _⟩) [.box 1 100 [VP.bool x.1.1, VP.nums .u32 x.1.2, VP.bool x.2.1, VP.nums .u32 x.2.2], .slot 2 (VP.bool false)] [] [(0, .slot 4 (INT 1)), (1, .own 3 69 2), (2, .box 3 69 [Bz 1, Dz 1])] [0, 1] [] rfl rfl follow rfl ⟨
    .inl ⟨wants_plain rfl, does_call (s_of 1 (by decide) (by decide)) rfl hb_collator_whole_Of rfl rfl rfl rfl ⟨(ar_const (fun _ => rfl)), trivial⟩⟩,
    .inl ⟨wants_plain rfl, does_allocOwn [Bz 0, Dz 0] ty_zero_api_Int rfl rfl rfl rfl rfl z_int rfl⟩,
    .inl ⟨wants_plain rfl, does_storeNew 2 _ _ ty_agg_api_Int rfl rfl rfl rfl rfl (pt_own (av_rs 1 rfl rfl)) (av_rs 1 rfl rfl) (ar_tmp (av_rs 0 rfl rfl))⟩,
    trivial⟩ ?_
  refine nx_sub (fs' := [.box 1 100 [VP.bool x.1.1, VP.nums .u32 x.1.2, VP.bool x.2.1, VP.nums .u32 x.2.2], .slot 2 (VP.bool false), .box 3 69 [Bz 1, Dz 1]]) [0, 1, 4] rfl ?_
  refine nx_then ?_
  refine t_seq ?_
  refine t_block ?_
  refine t_seq ?_
  refine t_region (F := ⟨_, _, _, _⟩) [.box 1 100 [VP.bool x.1.1, VP.nums .u32 x.1.2, VP.bool x.2.1, VP.nums .u32 x.2.2], .slot 2 (VP.bool false), .box 3 69 [Bz 1, Dz 1]] [] [(0, .fp 6 1 0), (1, .slot 7 (VP.agg [VP.bool x.1.1, VP.nums .u32 x.1.2])), (2, .slot 8 (VP.bool (rightB x.1.1 x.1.2))), (3, .slot 9 (VP.bool true)), (4, .slot 10 (VP.bool true)), (5, .slot 11 (VP.undef)), (6, .slot 12 (VP.undef)), (7, .slot 13 (VP.undef)), (8, .slot 14 (VP.undef)), (9, .slot 15 (VP.bool true)), (10, .slot 16 (VP.bool true)), (11, .slot 17 (VP.undef)), (12, .slot 18 (VP.undef)), (13, .slot 19 (VP.undef)), (14, .slot 20 (VP.bool true)), (15, .slot 21 (VP.bool true)), (16, .slot 22 (VP.undef)), (17, .slot 23 (VP.undef)), (18, .slot 24 (VP.undef)), (19, .slot 25 (VP.undef)), (20, .slot 26 (VP.undef)), (21, .slot 27 (VP.bool true)), (22, .slot 5 (VP.bool true))] [0, 1, 2] [] rfl rfl follow rfl ⟨
    .inl ⟨wants_plain rfl, does_field _ _ _ 0 ty_f0_api_Frac rfl rfl rfl rfl rfl rfl rfl (pt_box (av_fs 0 rfl))⟩,
    .inl ⟨wants_plain rfl, does_loadAgg _ ty_agg_api_Int rfl rfl rfl rfl rfl rfl (pt_fp (av_rs 0 rfl rfl)) (av_fs 0 rfl)⟩,
    .inl ⟨wants_plain rfl, does_call (s_right x.1 hl1) rfl hb_collator_whole_Right rfl rfl rfl rfl ⟨(ar_tmp (av_rs 1 rfl rfl)), trivial⟩⟩,
    .inl ⟨wants_plain rfl, does_not false _ _ rfl rfl rfl rfl rfl (ar_tmp (av_bool h (av_rs 2 rfl rfl)))⟩,
    .inl ⟨wants_plain rfl, does_move _ (.inl rfl) rfl rfl rfl rfl (ar_tmp (av_rs 3 rfl rfl))⟩,
    .inr (skips_guardU true rfl rfl rfl (av_rs 4 rfl rfl) rfl rfl rfl rfl),
    .inr (skips_guardU true rfl rfl rfl (av_rs 4 rfl rfl) rfl rfl rfl rfl),
    .inr (skips_guardU true rfl rfl rfl (av_rs 4 rfl rfl) rfl rfl rfl rfl),
    .inr (skips_guardU true rfl rfl rfl (av_rs 4 rfl rfl) rfl rfl rfl rfl),
    .inl ⟨wants_plain rfl, does_pick true _ _ _ rfl rfl rfl rfl rfl (ar_tmp (av_rs 4 rfl rfl)) (ar_const (fun _ => rfl))⟩,
    .inl ⟨wants_plain rfl, does_move _ (.inl rfl) rfl rfl rfl rfl (ar_tmp (av_rs 9 rfl rfl))⟩,
    .inr (skips_guardU true rfl rfl rfl (av_rs 10 rfl rfl) rfl rfl rfl rfl),
    .inr (skips_guardU true rfl rfl rfl (av_rs 10 rfl rfl) rfl rfl rfl rfl),
    .inr (skips_guardU true rfl rfl rfl (av_rs 10 rfl rfl) rfl rfl rfl rfl),
    .inl ⟨wants_plain rfl, does_pick true _ _ _ rfl rfl rfl rfl rfl (ar_tmp (av_rs 10 rfl rfl)) (ar_const (fun _ => rfl))⟩,
    .inl ⟨wants_plain rfl, does_move _ (.inl rfl) rfl rfl rfl rfl (ar_tmp (av_rs 14 rfl rfl))⟩,
    .inr (skips_guardU true rfl rfl rfl (av_rs 15 rfl rfl) rfl rfl rfl rfl),
    .inr (skips_guardU true rfl rfl rfl (av_rs 15 rfl rfl) rfl rfl rfl rfl),
    .inr (skips_guardU true rfl rfl rfl (av_rs 15 rfl rfl) rfl rfl rfl rfl),
    .inr (skips_guardU true rfl rfl rfl (av_rs 15 rfl rfl) rfl rfl rfl rfl),
    .inr (skips_guardU true rfl rfl rfl (av_rs 15 rfl rfl) rfl rfl rfl rfl),
    .inl ⟨wants_plain rfl, does_pick true _ _ _ rfl rfl rfl rfl rfl (ar_tmp (av_rs 15 rfl rfl)) (ar_const (fun _ => rfl))⟩,
    .inl ⟨wants_plain rfl, does_move _ (.inr rfl) rfl rfl rfl rfl (ar_tmp (av_rs 21 rfl rfl))⟩,
    trivial⟩ ?_
  refine nx_sub (fs' := [.box 1 100 [VP.bool x.1.1, VP.nums .u32 x.1.2, VP.bool x.2.1, VP.nums .u32 x.2.2], .slot 2 (VP.bool false), .box 3 69 [Bz 1, Dz 1], .slot 5 (VP.bool true)]) [0, 1, 2, 25] rfl ?_
  refine nx_then ?_
  refine t_cond_t 3 rfl ?_
  refine t_seq ?_
  refine t_region (F := ⟨_, _, _, _⟩) [.box 1 100 [VP.bool x.1.1, VP.nums .u32 x.1.2, VP.bool x.2.1, VP.nums .u32 x.2.2], .box 3 69 [Bz 1, Dz 1], .slot 5 (VP.bool true)] [(0, .slot 2 (VP.bool false))] [(0, .slot 2 (VP.bool false))] [0, 2, 3] [1] rfl rfl follow rfl ⟨
    .inl ⟨wants_plain rfl, does_move _ (.inr rfl) rfl rfl rfl rfl (ar_const (fun _ => rfl))⟩,
    trivial⟩ ?_
  refine nx_sub (fs' := [.box 1 100 [VP.bool x.1.1, VP.nums .u32 x.1.2, VP.bool x.2.1, VP.nums .u32 x.2.2], .box 3 69 [Bz 1, Dz 1], .slot 2 (VP.bool false)]) [0, 1, 3] rfl ?_
  refine nx_then ?_
  refine t_ret ?_
  refine rt_block ?_
  refine rt_then ?_
  exact rt_one rfl (res_tmp 2 rfl)
set_option maxRecDepth 100000 in
set_option maxHeartbeats 4000000 in
theorem fr_n2 (x : FRaw) (_ho1 : x.1.ok) (_ho2 : x.2.ok) (hl1 : x.1.2.length ≤ 100000000) (hl2 : x.2.2.length ≤ 100000000) (h : (rightB x.1.1 x.1.2) = true) (k : (rightB x.2.1 x.2.2) = false) : Spec Try.prog 87 [(VP.agg [VP.bool x.1.1, VP.nums .u32 x.1.2, VP.bool x.2.1, VP.nums .u32 x.2.2]).p] (VP.bool false) := by
  refine spec_of (xs := [VP.agg [VP.bool x.1.1, VP.nums .u32 x.1.2, VP.bool x.2.1, VP.nums .u32 x.2.2]]) 43 [1, 3] Try.func87 rfl Try.ntmps87 rfl fun w0 => ?_
  refine t_seq ?_
  refine t_region (F := ⟨_, _, _, _⟩) [.slot 0 (VP.agg [VP.bool x.1.1, VP.nums .u32 x.1.2, VP.bool x.2.1, VP.nums .u32 x.2.2])] [] [(0, .box 1 100 [VP.bool x.1.1, VP.nums .u32 x.1.2, VP.bool x.2.1, VP.nums .u32 x.2.2]), (1, .slot 2 (VP.bool false))] [0] [] rfl rfl follow rfl ⟨
    .inl ⟨wants_plain rfl, does_box _ rfl rfl rfl rfl rfl (ar_tmp (av_fs 0 rfl))⟩,
    .inl ⟨wants_plain rfl, does_move _ (.inr rfl) rfl rfl rfl rfl (ar_const (fun _ => rfl))⟩,
    trivial⟩ ?_
  refine nx_sub (fs' := [.box 1 100 [VP.bool x.1.1, VP.nums .u32 x.1.2, VP.bool x.2.1, VP.nums .u32 x.2.2], .slot 2 (VP.bool false)]) [1, 2] rfl ?_
  refine nx_then ?_
  refine t_seq ?_
  refine t_region (F := ⟨_, _, _, _⟩) [.box 1 100 [VP.bool x.1.1, VP.nums .u32 x.1.2, VP.bool x.2.1, VP.nums .u32 x.2.2], .slot 2 (VP.bool false)] [] [(0, .slot 4 (INT 1)), (1, .own 3 69 2), (2, .box 3 69 [Bz 1, Dz 1])] [0, 1] [] rfl rfl follow rfl ⟨
    .inl ⟨wants_plain rfl, does_call (s_of 1 (by decide) (by decide)) rfl hb_collator_whole_Of rfl rfl rfl rfl ⟨(ar_const (fun _ => rfl)), trivial⟩⟩,
    .inl ⟨wants_plain rfl, does_allocOwn [Bz 0, Dz 0] ty_zero_api_Int rfl rfl rfl rfl rfl z_int rfl⟩,
    .inl ⟨wants_plain rfl, does_storeNew 2 _ _ ty_agg_api_Int rfl rfl rfl rfl rfl (pt_own (av_rs 1 rfl rfl)) (av_rs 1 rfl rfl) (ar_tmp (av_rs 0 rfl rfl))⟩,
    trivial⟩ ?_
  refine nx_sub (fs' := [.box 1 100 [VP.bool x.1.1, VP.nums .u32 x.1.2, VP.bool x.2.1, VP.nums .u32 x.2.2], .slot 2 (VP.bool false), .box 3 69 [Bz 1, Dz 1]]) [0, 1, 4] rfl ?_
  refine nx_then ?_
  refine t_seq ?_
  refine t_block ?_
  refine t_seq ?_
  refine t_region (F := ⟨_, _, _, _⟩) [.box 1 100 [VP.bool x.1.1, VP.nums .u32 x.1.2, VP.bool x.2.1, VP.nums .u32 x.2.2], .slot 2 (VP.bool false), .box 3 69 [Bz 1, Dz 1]] [] [(0, .fp 6 1 0), (1, .slot 7 (VP.agg [VP.bool x.1.1, VP.nums .u32 x.1.2])), (2, .slot 8 (VP.bool (rightB x.1.1 x.1.2))), (3, .slot 9 (VP.bool false)), (4, .slot 10 (VP.bool false)), (5, .fp 11 1 2), (6, .slot 12 (VP.agg [VP.bool x.2.1, VP.nums .u32 x.2.2])), (7, .slot 13 (VP.bool (rightB x.2.1 x.2.2))), (8, .slot 14 (VP.bool true)), (9, .slot 15 (VP.bool true)), (10, .slot 16 (VP.bool true)), (11, .slot 17 (VP.undef)), (12, .slot 18 (VP.undef)), (13, .slot 19 (VP.undef)), (14, .slot 20 (VP.bool true)), (15, .slot 21 (VP.bool true)), (16, .slot 22 (VP.undef)), (17, .slot 23 (VP.undef)), (18, .slot 24 (VP.undef)), (19, .slot 25 (VP.undef)), (20, .slot 26 (VP.undef)), (21, .slot 27 (VP.bool true)), (22, .slot 5 (VP.bool true))] [0, 1, 2] [] rfl rfl follow rfl ⟨
    .inl ⟨wants_plain rfl, does_field _ _ _ 0 ty_f0_api_Frac rfl rfl rfl rfl rfl rfl rfl (pt_box (av_fs 0 rfl))⟩,
    .inl ⟨wants_plain rfl, does_loadAgg _ ty_agg_api_Int rfl rfl rfl rfl rfl rfl (pt_fp (av_rs 0 rfl rfl)) (av_fs 0 rfl)⟩,
    .inl ⟨wants_plain rfl, does_call (s_right x.1 hl1) rfl hb_collator_whole_Right rfl rfl rfl rfl ⟨(ar_tmp (av_rs 1 rfl rfl)), trivial⟩⟩,
    .inl ⟨wants_plain rfl, does_not true _ _ rfl rfl rfl rfl rfl (ar_tmp (av_bool h (av_rs 2 rfl rfl)))⟩,
    .inl ⟨wants_plain rfl, does_move _ (.inl rfl) rfl rfl rfl rfl (ar_tmp (av_rs 3 rfl rfl))⟩,
    .inl ⟨wants_guard false rfl rfl rfl (av_rs 4 rfl rfl), does_field _ _ _ 2 ty_f1_api_Frac rfl rfl rfl rfl rfl rfl rfl (pt_box (av_fs 0 rfl))⟩,
    .inl ⟨wants_guard false rfl rfl rfl (av_rs 4 rfl rfl), does_loadAgg _ ty_agg_api_Int rfl rfl rfl rfl rfl rfl (pt_fp (av_rs 5 rfl rfl)) (av_fs 0 rfl)⟩,
    .inl ⟨wants_guard false rfl rfl rfl (av_rs 4 rfl rfl), does_call (s_right x.2 hl2) rfl hb_collator_whole_Right rfl rfl rfl rfl ⟨(ar_tmp (av_rs 6 rfl rfl)), trivial⟩⟩,
    .inl ⟨wants_guard false rfl rfl rfl (av_rs 4 rfl rfl), does_not false _ _ rfl rfl rfl rfl rfl (ar_tmp (av_bool k (av_rs 7 rfl rfl)))⟩,
    .inl ⟨wants_plain rfl, does_pick false _ _ _ rfl rfl rfl rfl rfl (ar_tmp (av_rs 4 rfl rfl)) (ar_tmp (av_rs 8 rfl rfl))⟩,
    .inl ⟨wants_plain rfl, does_move _ (.inl rfl) rfl rfl rfl rfl (ar_tmp (av_rs 9 rfl rfl))⟩,
    .inr (skips_guardU true rfl rfl rfl (av_rs 10 rfl rfl) rfl rfl rfl rfl),
    .inr (skips_guardU true rfl rfl rfl (av_rs 10 rfl rfl) rfl rfl rfl rfl),
    .inr (skips_guardU true rfl rfl rfl (av_rs 10 rfl rfl) rfl rfl rfl rfl),
    .inl ⟨wants_plain rfl, does_pick true _ _ _ rfl rfl rfl rfl rfl (ar_tmp (av_rs 10 rfl rfl)) (ar_const (fun _ => rfl))⟩,
    .inl ⟨wants_plain rfl, does_move _ (.inl rfl) rfl rfl rfl rfl (ar_tmp (av_rs 14 rfl rfl))⟩,
    .inr (skips_guardU true rfl rfl rfl (av_rs 15 rfl rfl) rfl rfl rfl rfl),
    .inr (skips_guardU true rfl rfl rfl (av_rs 15 rfl rfl) rfl rfl rfl rfl),
    .inr (skips_guardU true rfl rfl rfl (av_rs 15 rfl rfl) rfl rfl rfl rfl),
    .inr (skips_guardU true rfl rfl rfl (av_rs 15 rfl rfl) rfl rfl rfl rfl),
    .inr (skips_guardU true rfl rfl rfl (av_rs 15 rfl rfl) rfl rfl rfl rfl),
    .inl ⟨wants_plain rfl, does_pick true _ _ _ rfl rfl rfl rfl rfl (ar_tmp (av_rs 15 rfl rfl)) (ar_const (fun _ => rfl))⟩,
    .inl ⟨wants_plain rfl, does_move _ (.inr rfl) rfl rfl rfl rfl (ar_tmp (av_rs 21 rfl rfl))⟩,
    trivial⟩ ?_
  refine nx_sub (fs' := [.box 1 100 [VP.bool x.1.1, VP.nums .u32 x.1.2, VP.bool x.2.1, VP.nums .u32 x.2.2], .slot 2 (VP.bool false), .box 3 69 [Bz 1, Dz 1], .slot 5 (VP.bool true)]) [0, 1, 2, 25] rfl ?_
  refine nx_then ?_
  refine t_cond_t 3 rfl ?_
  refine t_seq ?_
  refine t_region (F := ⟨_, _, _, _⟩) [.box 1 100 [VP.bool x.1.1, VP.nums .u32 x.1.2, VP.bool x.2.1, VP.nums .u32 x.2.2], .box 3 69 [Bz 1, Dz 1], .slot 5 (VP.bool true)] [(0, .slot 2 (VP.bool false))] [(0, .slot 2 (VP.bool false))] [0, 2, 3] [1] rfl rfl follow rfl ⟨
    .inl ⟨wants_plain rfl, does_move _ (.inr rfl) rfl rfl rfl rfl (ar_const (fun _ => rfl))⟩,
    trivial⟩ ?_
  refine nx_sub (fs' := [.box 1 100 [VP.bool x.1.1, VP.nums .u32 x.1.2, VP.bool x.2.1, VP.nums .u32 x.2.2], .box 3 69 [Bz 1, Dz 1], .slot 2 (VP.bool false)]) [0, 1, 3] rfl ?_
  refine nx_then ?_
  refine t_ret ?_
  refine rt_block ?_
  refine rt_then ?_
  exact rt_one rfl (res_tmp 2 rfl)
set_option maxRecDepth 100000 in
set_option maxHeartbeats 4000000 in
theorem gr_n1 (x : FRaw) (ho1 : x.1.ok) (_ho2 : x.2.ok) (hl1 : x.1.2.length ≤ 100000000) (_hl2 : x.2.2.length ≤ 100000000) (h : (rightB x.1.1 x.1.2) = false) : Spec Try.prog 88 [(VP.agg [VP.bool x.1.1, VP.nums .u32 x.1.2, VP.bool x.2.1, VP.nums .u32 x.2.2]).p] (VP.bool false) := by
  refine spec_of (xs := [VP.agg [VP.bool x.1.1, VP.nums .u32 x.1.2, VP.bool x.2.1, VP.nums .u32 x.2.2]]) 29 [1, 3] Try.func88 rfl Try.ntmps88 rfl fun w0 => ?_
  refine t_seq ?_
  refine t_region (F := ⟨_, _, _, _⟩) [.slot 0 (VP.agg [VP.bool x.1.1, VP.nums .u32 x.1.2, VP.bool x.2.1, VP.nums .u32 x.2.2])] [] [(0, .box 1 100 [VP.bool x.1.1, VP.nums .u32 x.1.2, VP.bool x.2.1, VP.nums .u32 x.2.2]), (1, .slot 2 (VP.bool false))] [0] [] rfl rfl follow rfl ⟨
    .inl ⟨wants_plain rfl, does_box _ rfl rfl rfl rfl rfl (ar_tmp (av_fs 0 rfl))⟩,
    .inl ⟨wants_plain rfl, does_move _ (.inr rfl) rfl rfl rfl rfl (ar_const (fun _ => rfl))⟩,
    trivial⟩ ?_
  refine nx_sub (fs' := [.box 1 100 [VP.bool x.1.1, VP.nums .u32 x.1.2, VP.bool x.2.1, VP.nums .u32 x.2.2], .slot 2 (VP.bool false)]) [1, 2] rfl ?_
  refine nx_then ?_
  refine t_seq ?_
  refine t_seq ?_
  refine t_region (F := ⟨_, _, _, _⟩) [.box 1 100 [VP.bool x.1.1, VP.nums .u32 x.1.2, VP.bool x.2.1, VP.nums .u32 x.2.2], .slot 2 (VP.bool false)] [] [(0, .fp 4 1 0), (1, .slot 5 (VP.agg [VP.bool x.1.1, VP.nums .u32 x.1.2])), (2, .slot 6 (VP.bool (rightB x.1.1 x.1.2))), (3, .slot 7 (VP.bool true)), (4, .slot 8 (VP.bool true)), (5, .slot 9 (VP.undef)), (6, .slot 10 (VP.undef)), (7, .slot 11 (VP.undef)), (8, .slot 12 (VP.undef)), (9, .slot 13 (VP.bool true)), (10, .slot 14 (VP.bool true)), (11, .slot 15 (VP.undef)), (12, .slot 16 (VP.undef)), (13, .slot 17 (VP.undef)), (14, .slot 18 (VP.bool true))] [0, 1] [] rfl rfl follow rfl ⟨
    .inl ⟨wants_plain rfl, does_field _ _ _ 0 ty_f0_api_Frac rfl rfl rfl rfl rfl rfl rfl (pt_box (av_fs 0 rfl))⟩,
    .inl ⟨wants_plain rfl, does_loadAgg _ ty_agg_api_Int rfl rfl rfl rfl rfl rfl (pt_fp (av_rs 0 rfl rfl)) (av_fs 0 rfl)⟩,
    .inl ⟨wants_plain rfl, does_call (r_rightR x.1 ho1 hl1) rfl hb_collator_collatorref01_Right rfl rfl rfl rfl ⟨(ar_tmp (av_rs 1 rfl rfl)), trivial⟩⟩,
    .inl ⟨wants_plain rfl, does_not false _ _ rfl rfl rfl rfl rfl (ar_tmp (av_bool h (av_rs 2 rfl rfl)))⟩,
    .inl ⟨wants_plain rfl, does_move _ (.inl rfl) rfl rfl rfl rfl (ar_tmp (av_rs 3 rfl rfl))⟩,
    .inr (skips_guardU true rfl rfl rfl (av_rs 4 rfl rfl) rfl rfl rfl rfl),
    .inr (skips_guardU true rfl rfl rfl (av_rs 4 rfl rfl) rfl rfl rfl rfl),
    .inr (skips_guardU true rfl rfl rfl (av_rs 4 rfl rfl) rfl rfl rfl rfl),
    .inr (skips_guardU true rfl rfl rfl (av_rs 4 rfl rfl) rfl rfl rfl rfl),
    .inl ⟨wants_plain rfl, does_pick true _ _ _ rfl rfl rfl rfl rfl (ar_tmp (av_rs 4 rfl rfl)) (ar_const (fun _ => rfl))⟩,
    .inl ⟨wants_plain rfl, does_move _ (.inl rfl) rfl rfl rfl rfl (ar_tmp (av_rs 9 rfl rfl))⟩,
    .inr (skips_guardU true rfl rfl rfl (av_rs 10 rfl rfl) rfl rfl rfl rfl),
    .inr (skips_guardU true rfl rfl rfl (av_rs 10 rfl rfl) rfl rfl rfl rfl),
    .inr (skips_guardU true rfl rfl rfl (av_rs 10 rfl rfl) rfl rfl rfl rfl),
    .inl ⟨wants_plain rfl, does_pick true _ _ _ rfl rfl rfl rfl rfl (ar_tmp (av_rs 10 rfl rfl)) (ar_const (fun _ => rfl))⟩,
    trivial⟩ ?_
  refine nx_sub (fs' := [.box 1 100 [VP.bool x.1.1, VP.nums .u32 x.1.2, VP.bool x.2.1, VP.nums .u32 x.2.2], .slot 2 (VP.bool false), .slot 18 (VP.bool true)]) [0, 1, 16] rfl ?_
  refine nx_then ?_
  refine t_cond_t 2 rfl ?_
  refine t_seq ?_
  refine t_region (F := ⟨_, _, _, _⟩) [.box 1 100 [VP.bool x.1.1, VP.nums .u32 x.1.2, VP.bool x.2.1, VP.nums .u32 x.2.2], .slot 18 (VP.bool true)] [(0, .slot 2 (VP.bool false))] [(0, .slot 2 (VP.bool false))] [0, 2] [1] rfl rfl follow rfl ⟨
    .inl ⟨wants_plain rfl, does_move _ (.inr rfl) rfl rfl rfl rfl (ar_const (fun _ => rfl))⟩,
    trivial⟩ ?_
  refine nx_sub (fs' := [.box 1 100 [VP.bool x.1.1, VP.nums .u32 x.1.2, VP.bool x.2.1, VP.nums .u32 x.2.2], .slot 2 (VP.bool false)]) [0, 2] rfl ?_
  refine nx_then ?_
  refine t_ret ?_
  refine rt_then ?_
  exact rt_one rfl (res_tmp 1 rfl)
set_option maxRecDepth 100000 in
set_option maxHeartbeats 4000000 in
theorem gr_n2 (x : FRaw) (ho1 : x.1.ok) (ho2 : x.2.ok) (hl1 : x.1.2.length ≤ 100000000) (hl2 : x.2.2.length ≤ 100000000) (h : (rightB x.1.1 x.1.2) = true) (k : (rightB x.2.1 x.2.2) = false) : Spec Try.prog 88 [(VP.agg [VP.bool x.1.1, VP.nums .u32 x.1.2, VP.bool x.2.1, VP.nums .u32 x.2.2]).p] (VP.bool false) := by
  refine spec_of (xs := [VP.agg [VP.bool x.1.1, VP.nums .u32 x.1.2, VP.bool x.2.1, VP.nums .u32 x.2.2]]) 29 [1, 3] Try.func88 rfl Try.ntmps88 rfl fun w0 => ?_
  refine t_seq ?_
  refine t_region (F := ⟨_, _, _, _⟩) [.slot 0 (VP.agg [VP.bool x.1.1, VP.nums .u32 x.1.2, VP.bool x.2.1, VP.nums .u32 x.2.2])] [] [(0, .box 1 100 [VP.bool x.1.1, VP.nums .u32 x.1.2, VP.bool x.2.1, VP.nums .u32 x.2.2]), (1, .slot 2 (VP.bool false))] [0] [] rfl rfl follow rfl ⟨
    .inl ⟨wants_plain rfl, does_box _ rfl rfl rfl rfl rfl (ar_tmp (av_fs 0 rfl))⟩,
    .inl ⟨wants_plain rfl, does_move _ (.inr rfl) rfl rfl rfl rfl (ar_const (fun _ => rfl))⟩,
    trivial⟩ ?_
  refine nx_sub (fs' := [.box 1 100 [VP.bool x.1.1, VP.nums .u32 x.1.2, VP.bool x.2.1, VP.nums .u32 x.2.2], .slot 2 (VP.bool false)]) [1, 2] rfl ?_
  refine nx_then ?_
  refine t_seq ?_
  refine t_seq ?_
  refine t_region (F := ⟨_, _, _, _⟩) [.box 1 100 [VP.bool x.1.1, VP.nums .u32 x.1.2, VP.bool x.2.1, VP.nums .u32 x.2.2], .slot 2 (VP.bool false)] [] [(0, .fp 4 1 0), (1, .slot 5 (VP.agg [VP.bool x.1.1, VP.nums .u32 x.1.2])), (2, .slot 6 (VP.bool (rightB x.1.1 x.1.2))), (3, .slot 7 (VP.bool false)), (4, .slot 8 (VP.bool false)), (5, .fp 9 1 2), (6, .slot 10 (VP.agg [VP.bool x.2.1, VP.nums .u32 x.2.2])), (7, .slot 11 (VP.bool (rightB x.2.1 x.2.2))), (8, .slot 12 (VP.bool true)), (9, .slot 13 (VP.bool true)), (10, .slot 14 (VP.bool true)), (11, .slot 15 (VP.undef)), (12, .slot 16 (VP.undef)), (13, .slot 17 (VP.undef)), (14, .slot 18 (VP.bool true))] [0, 1] [] rfl rfl follow rfl ⟨
    .inl ⟨wants_plain rfl, does_field _ _ _ 0 ty_f0_api_Frac rfl rfl rfl rfl rfl rfl rfl (pt_box (av_fs 0 rfl))⟩,
    .inl ⟨wants_plain rfl, does_loadAgg _ ty_agg_api_Int rfl rfl rfl rfl rfl rfl (pt_fp (av_rs 0 rfl rfl)) (av_fs 0 rfl)⟩,
    .inl ⟨wants_plain rfl, does_call (r_rightR x.1 ho1 hl1) rfl hb_collator_collatorref01_Right rfl rfl rfl rfl ⟨(ar_tmp (av_rs 1 rfl rfl)), trivial⟩⟩,
    .inl ⟨wants_plain rfl, does_not true _ _ rfl rfl rfl rfl rfl (ar_tmp (av_bool h (av_rs 2 rfl rfl)))⟩,
    .inl ⟨wants_plain rfl, does_move _ (.inl rfl) rfl rfl rfl rfl (ar_tmp (av_rs 3 rfl rfl))⟩,
    .inl ⟨wants_guard false rfl rfl rfl (av_rs 4 rfl rfl), does_field _ _ _ 2 ty_f1_api_Frac rfl rfl rfl rfl rfl rfl rfl (pt_box (av_fs 0 rfl))⟩,
    .inl ⟨wants_guard false rfl rfl rfl (av_rs 4 rfl rfl), does_loadAgg _ ty_agg_api_Int rfl rfl rfl rfl rfl rfl (pt_fp (av_rs 5 rfl rfl)) (av_fs 0 rfl)⟩,
    .inl ⟨wants_guard false rfl rfl rfl (av_rs 4 rfl rfl), does_call (r_rightR x.2 ho2 hl2) rfl hb_collator_collatorref01_Right rfl rfl rfl rfl ⟨(ar_tmp (av_rs 6 rfl rfl)), trivial⟩⟩,
    .inl ⟨wants_guard false rfl rfl rfl (av_rs 4 rfl rfl), does_not false _ _ rfl rfl rfl rfl rfl (ar_tmp (av_bool k (av_rs 7 rfl rfl)))⟩,
    .inl ⟨wants_plain rfl, does_pick false _ _ _ rfl rfl rfl rfl rfl (ar_tmp (av_rs 4 rfl rfl)) (ar_tmp (av_rs 8 rfl rfl))⟩,
    .inl ⟨wants_plain rfl, does_move _ (.inl rfl) rfl rfl rfl rfl (ar_tmp (av_rs 9 rfl rfl))⟩,
    .inr (skips_guardU true rfl rfl rfl (av_rs 10 rfl rfl) rfl rfl rfl rfl),
    .inr (skips_guardU true rfl rfl rfl (av_rs 10 rfl rfl) rfl rfl rfl rfl),
    .inr (skips_guardU true rfl rfl rfl (av_rs 10 rfl rfl) rfl rfl rfl rfl),
    .inl ⟨wants_plain rfl, does_pick true _ _ _ rfl rfl rfl rfl rfl (ar_tmp (av_rs 10 rfl rfl)) (ar_const (fun _ => rfl))⟩,
    trivial⟩ ?_
  refine nx_sub (fs' := [.box 1 100 [VP.bool x.1.1, VP.nums .u32 x.1.2, VP.bool x.2.1, VP.nums .u32 x.2.2], .slot 2 (VP.bool false), .slot 18 (VP.bool true)]) [0, 1, 16] rfl ?_
  refine nx_then ?_
  refine t_cond_t 2 rfl ?_
  refine t_seq ?_
  refine t_region (F := ⟨_, _, _, _⟩) [.box 1 100 [VP.bool x.1.1, VP.nums .u32 x.1.2, VP.bool x.2.1, VP.nums .u32 x.2.2], .slot 18 (VP.bool true)] [(0, .slot 2 (VP.bool false))] [(0, .slot 2 (VP.bool false))] [0, 2] [1] rfl rfl follow rfl ⟨
    .inl ⟨wants_plain rfl, does_move _ (.inr rfl) rfl rfl rfl rfl (ar_const (fun _ => rfl))⟩,
    trivial⟩ ?_
  refine nx_sub (fs' := [.box 1 100 [VP.bool x.1.1, VP.nums .u32 x.1.2, VP.bool x.2.1, VP.nums .u32 x.2.2], .slot 2 (VP.bool false)]) [0, 2] rfl ?_
  refine nx_then ?_
  refine t_ret ?_
  refine rt_then ?_
  exact rt_one rfl (res_tmp 1 rfl)
theorem s_rightI (z : Int) (h : L z ≤ 1000) : Spec Try.prog 69 [(INT z).p] (VP.bool true) := by
  have := s_right (raw z) (by show L z ≤ _; omega)
  rw [show rightB (raw z).1 (raw z).2 = true from int_right z] at this
  exact this
set_option maxRecDepth 100000 in
set_option maxHeartbeats 4000000 in
theorem fr_a (p q : Int) (hp : L p ≤ 1000) (hq : L q ≤ 1000) (h : q < 0) : Spec Try.prog 87 [(VP.agg [Bz p, Dz p, Bz q, Dz q]).p] (VP.bool false) := by
  refine spec_of (xs := [VP.agg [Bz p, Dz p, Bz q, Dz q]]) 43 [1, 3] Try.func87 rfl Try.ntmps87 rfl fun w0 => ?_
  refine t_seq ?_
  refine t_region (F := ⟨_, _, _, _⟩) [.slot 0 (VP.agg [Bz p, Dz p, Bz q, Dz q])] [] [(0, .box 1 100 [Bz p, Dz p, Bz q, Dz q]), (1, .slot 2 (VP.bool false))] [0] [] rfl rfl follow rfl ⟨
    .inl ⟨wants_plain rfl, does_box _ rfl rfl rfl rfl rfl (ar_tmp (av_fs 0 rfl))⟩,
    .inl ⟨wants_plain rfl, does_move _ (.inr rfl) rfl rfl rfl rfl (ar_const (fun _ => rfl))⟩,
    trivial⟩ ?_
  refine nx_sub (fs' := [.box 1 100 [Bz p, Dz p, Bz q, Dz q], .slot 2 (VP.bool false)]) [1, 2] rfl ?_
  refine nx_then ?_
  refine t_seq ?_
  refine t_region (F := ⟨_, _, _, _⟩) [.box 1 100 [Bz p, Dz p, Bz q, Dz q], .slot 2 (VP.bool false)] [] [(0, .slot 4 (INT 1)), (1, .own 3 69 2), (2, .box 3 69 [Bz 1, Dz 1])] [0, 1] [] rfl rfl follow rfl ⟨
    .inl ⟨wants_plain rfl, does_call (s_of 1 (by decide) (by decide)) rfl hb_collator_whole_Of rfl rfl rfl rfl ⟨(ar_const (fun _ => rfl)), trivial⟩⟩,
    .inl ⟨wants_plain rfl, does_allocOwn [Bz 0, Dz 0] ty_zero_api_Int rfl rfl rfl rfl rfl z_int rfl⟩,
    .inl ⟨wants_plain rfl, does_storeNew 2 _ _ ty_agg_api_Int rfl rfl rfl rfl rfl (pt_own (av_rs 1 rfl rfl)) (av_rs 1 rfl rfl) (ar_tmp (av_rs 0 rfl rfl))⟩,
    trivial⟩ ?_
  refine nx_sub (fs' := [.box 1 100 [Bz p, Dz p, Bz q, Dz q], .slot 2 (VP.bool false), .box 3 69 [Bz 1, Dz 1]]) [0, 1, 4] rfl ?_
  refine nx_then ?_
  refine t_seq ?_
  refine t_block ?_
  refine t_seq ?_
  refine t_region (F := ⟨_, _, _, _⟩) [.box 1 100 [Bz p, Dz p, Bz q, Dz q], .slot 2 (VP.bool false), .box 3 69 [Bz 1, Dz 1]] [] [(0, .fp 6 1 0), (1, .slot 7 (INT p)), (2, .slot 8 (VP.bool true)), (3, .slot 9 (VP.bool false)), (4, .slot 10 (VP.bool false)), (5, .fp 11 1 2), (6, .slot 12 (INT q)), (7, .slot 13 (VP.bool true)), (8, .slot 14 (VP.bool false)), (9, .slot 15 (VP.bool false)), (10, .slot 16 (VP.bool false)), (11, .fp 17 1 2), (12, .fp 18 1 2), (13, .slot 19 (Bz q)), (14, .slot 20 (Bz q)), (15, .slot 21 (Bz q)), (16, .slot 22 (VP.undef)), (17, .slot 23 (VP.undef)), (18, .slot 24 (VP.undef)), (19, .slot 25 (VP.undef)), (20, .slot 26 (VP.undef)), (21, .slot 27 (VP.bool true)), (22, .slot 5 (VP.bool true))] [0, 1, 2] [] rfl rfl follow rfl ⟨
    .inl ⟨wants_plain rfl, does_field _ _ _ 0 ty_f0_api_Frac rfl rfl rfl rfl rfl rfl rfl (pt_box (av_fs 0 rfl))⟩,
    .inl ⟨wants_plain rfl, does_loadAgg _ ty_agg_api_Int rfl rfl rfl rfl rfl rfl (pt_fp (av_rs 0 rfl rfl)) (av_fs 0 rfl)⟩,
    .inl ⟨wants_plain rfl, does_call (s_rightI p hp) rfl hb_collator_whole_Right rfl rfl rfl rfl ⟨(ar_tmp (av_rs 1 rfl rfl)), trivial⟩⟩,
    .inl ⟨wants_plain rfl, does_not true _ _ rfl rfl rfl rfl rfl (ar_tmp (av_rs 2 rfl rfl))⟩,
    .inl ⟨wants_plain rfl, does_move _ (.inl rfl) rfl rfl rfl rfl (ar_tmp (av_rs 3 rfl rfl))⟩,
    .inl ⟨wants_guard false rfl rfl rfl (av_rs 4 rfl rfl), does_field _ _ _ 2 ty_f1_api_Frac rfl rfl rfl rfl rfl rfl rfl (pt_box (av_fs 0 rfl))⟩,
    .inl ⟨wants_guard false rfl rfl rfl (av_rs 4 rfl rfl), does_loadAgg _ ty_agg_api_Int rfl rfl rfl rfl rfl rfl (pt_fp (av_rs 5 rfl rfl)) (av_fs 0 rfl)⟩,
    .inl ⟨wants_guard false rfl rfl rfl (av_rs 4 rfl rfl), does_call (s_rightI q hq) rfl hb_collator_whole_Right rfl rfl rfl rfl ⟨(ar_tmp (av_rs 6 rfl rfl)), trivial⟩⟩,
    .inl ⟨wants_guard false rfl rfl rfl (av_rs 4 rfl rfl), does_not true _ _ rfl rfl rfl rfl rfl (ar_tmp (av_rs 7 rfl rfl))⟩,
    .inl ⟨wants_plain rfl, does_pick false _ _ _ rfl rfl rfl rfl rfl (ar_tmp (av_rs 4 rfl rfl)) (ar_tmp (av_rs 8 rfl rfl))⟩,
    .inl ⟨wants_plain rfl, does_move _ (.inl rfl) rfl rfl rfl rfl (ar_tmp (av_rs 9 rfl rfl))⟩,
    .inl ⟨wants_guard false rfl rfl rfl (av_rs 10 rfl rfl), does_field _ _ _ 2 ty_f1_api_Frac rfl rfl rfl rfl rfl rfl rfl (pt_box (av_fs 0 rfl))⟩,
    .inl ⟨wants_guard false rfl rfl rfl (av_rs 10 rfl rfl), does_field _ _ _ 0 ty_f0_api_Int rfl rfl rfl rfl rfl rfl rfl (pt_fp (av_rs 11 rfl rfl))⟩,
    .inl ⟨wants_guard false rfl rfl rfl (av_rs 10 rfl rfl), does_loadOne _ ty_one_bool rfl rfl rfl rfl rfl rfl (pt_fp (av_rs 12 rfl rfl)) (av_fs 0 rfl)⟩,
    .inl ⟨wants_plain rfl, does_pick false _ _ _ rfl rfl rfl rfl rfl (ar_tmp (av_rs 10 rfl rfl)) (ar_tmp (av_rs 13 rfl rfl))⟩,
    .inl ⟨wants_plain rfl, does_move _ (.inl rfl) rfl rfl rfl rfl (ar_tmp (av_rs 14 rfl rfl))⟩,
    .inr (skips_guardU true rfl rfl rfl (av_bool (decide_eq_true h) (av_rs 15 rfl rfl)) rfl rfl rfl rfl),
    .inr (skips_guardU true rfl rfl rfl (av_bool (decide_eq_true h) (av_rs 15 rfl rfl)) rfl rfl rfl rfl),
    .inr (skips_guardU true rfl rfl rfl (av_bool (decide_eq_true h) (av_rs 15 rfl rfl)) rfl rfl rfl rfl),
    .inr (skips_guardU true rfl rfl rfl (av_bool (decide_eq_true h) (av_rs 15 rfl rfl)) rfl rfl rfl rfl),
    .inr (skips_guardU true rfl rfl rfl (av_bool (decide_eq_true h) (av_rs 15 rfl rfl)) rfl rfl rfl rfl),
    .inl ⟨wants_plain rfl, does_pick true _ _ _ rfl rfl rfl rfl rfl (ar_tmp (av_bool (decide_eq_true h) (av_rs 15 rfl rfl))) (ar_const (fun _ => rfl))⟩,
    .inl ⟨wants_plain rfl, does_move _ (.inr rfl) rfl rfl rfl rfl (ar_tmp (av_rs 21 rfl rfl))⟩,
    trivial⟩ ?_
  refine nx_sub (fs' := [.box 1 100 [Bz p, Dz p, Bz q, Dz q], .slot 2 (VP.bool false), .box 3 69 [Bz 1, Dz 1], .slot 5 (VP.bool true)]) [0, 1, 2, 25] rfl ?_
  refine nx_then ?_
  refine t_cond_t 3 rfl ?_
  refine t_seq ?_
  refine t_region (F := ⟨_, _, _, _⟩) [.box 1 100 [Bz p, Dz p, Bz q, Dz q], .box 3 69 [Bz 1, Dz 1], .slot 5 (VP.bool true)] [(0, .slot 2 (VP.bool false))] [(0, .slot 2 (VP.bool false))] [0, 2, 3] [1] rfl rfl follow rfl ⟨
    .inl ⟨wants_plain rfl, does_move _ (.inr rfl) rfl rfl rfl rfl (ar_const (fun _ => rfl))⟩,
    trivial⟩ ?_
  refine nx_sub (fs' := [.box 1 100 [Bz p, Dz p, Bz q, Dz q], .box 3 69 [Bz 1, Dz 1], .slot 2 (VP.bool false)]) [0, 1, 3] rfl ?_
  refine nx_then ?_
  refine t_ret ?_
  refine rt_block ?_
  refine rt_then ?_
  exact rt_one rfl (res_tmp 2 rfl)
set_option maxRecDepth 100000 in
set_option maxHeartbeats 4000000 in
theorem fr_b (p q : Int) (hp : L p ≤ 1000) (hq : L q ≤ 1000) (h : ¬ q < 0) (k : q = 1) : Spec Try.prog 87 [(VP.agg [Bz p, Dz p, Bz q, Dz q]).p] (VP.bool false) := by
  refine spec_of (xs := [VP.agg [Bz p, Dz p, Bz q, Dz q]]) 43 [1, 3] Try.func87 rfl Try.ntmps87 rfl fun w0 => ?_
  refine t_seq ?_
  refine t_region (F := ⟨_, _, _, _⟩) [.slot 0 (VP.agg [Bz p, Dz p, Bz q, Dz q])] [] [(0, .box 1 100 [Bz p, Dz p, Bz q, Dz q]), (1, .slot 2 (VP.bool false))] [0] [] rfl rfl follow rfl ⟨
    .inl ⟨wants_plain rfl, does_box _ rfl rfl rfl rfl rfl (ar_tmp (av_fs 0 rfl))⟩,
    .inl ⟨wants_plain rfl, does_move _ (.inr rfl) rfl rfl rfl rfl (ar_const (fun _ => rfl))⟩,
    trivial⟩ ?_
  refine nx_sub (fs' := [.box 1 100 [Bz p, Dz p, Bz q, Dz q], .slot 2 (VP.bool false)]) [1, 2] rfl ?_
  refine nx_then ?_
  refine t_seq ?_
  refine t_region (F := ⟨_, _, _, _⟩) [.box 1 100 [Bz p, Dz p, Bz q, Dz q], .slot 2 (VP.bool false)] [] [(0, .slot 4 (INT 1)), (1, .own 3 69 2), (2, .box 3 69 [Bz 1, Dz 1])] [0, 1] [] rfl rfl follow rfl ⟨
    .inl ⟨wants_plain rfl, does_call (s_of 1 (by decide) (by decide)) rfl hb_collator_whole_Of rfl rfl rfl rfl ⟨(ar_const (fun _ => rfl)), trivial⟩⟩,
    .inl ⟨wants_plain rfl, does_allocOwn [Bz 0, Dz 0] ty_zero_api_Int rfl rfl rfl rfl rfl z_int rfl⟩,
    .inl ⟨wants_plain rfl, does_storeNew 2 _ _ ty_agg_api_Int rfl rfl rfl rfl rfl (pt_own (av_rs 1 rfl rfl)) (av_rs 1 rfl rfl) (ar_tmp (av_rs 0 rfl rfl))⟩,
    trivial⟩ ?_
  refine nx_sub (fs' := [.box 1 100 [Bz p, Dz p, Bz q, Dz q], .slot 2 (VP.bool false), .box 3 69 [Bz 1, Dz 1]]) [0, 1, 4] rfl ?_
  refine nx_then ?_
  refine t_seq ?_
  refine t_block ?_
  refine t_seq ?_
  refine t_region (F := ⟨_, _, _, _⟩) [.box 1 100 [Bz p, Dz p, Bz q, Dz q], .slot 2 (VP.bool false), .box 3 69 [Bz 1, Dz 1]] [] [(0, .fp 6 1 0), (1, .slot 7 (INT p)), (2, .slot 8 (VP.bool true)), (3, .slot 9 (VP.bool false)), (4, .slot 10 (VP.bool false)), (5, .fp 11 1 2), (6, .slot 12 (INT q)), (7, .slot 13 (VP.bool true)), (8, .slot 14 (VP.bool false)), (9, .slot 15 (VP.bool false)), (10, .slot 16 (VP.bool false)), (11, .fp 17 1 2), (12, .fp 18 1 2), (13, .slot 19 (Bz q)), (14, .slot 20 (Bz q)), (15, .slot 21 (Bz q)), (16, .fp 22 1 2), (17, .slot 23 (INT q)), (18, .slot 24 (INT 1)), (19, .slot 25 (VP.int .i64 (cmpZ q 1))), (20, .slot 26 (VP.bool ((cmpZ q 1) == 0))), (21, .slot 27 (VP.bool ((cmpZ q 1) == 0))), (22, .slot 5 (VP.bool ((cmpZ q 1) == 0)))] [0, 1, 2] [] rfl rfl follow rfl ⟨
    .inl ⟨wants_plain rfl, does_field _ _ _ 0 ty_f0_api_Frac rfl rfl rfl rfl rfl rfl rfl (pt_box (av_fs 0 rfl))⟩,
    .inl ⟨wants_plain rfl, does_loadAgg _ ty_agg_api_Int rfl rfl rfl rfl rfl rfl (pt_fp (av_rs 0 rfl rfl)) (av_fs 0 rfl)⟩,
    .inl ⟨wants_plain rfl, does_call (s_rightI p hp) rfl hb_collator_whole_Right rfl rfl rfl rfl ⟨(ar_tmp (av_rs 1 rfl rfl)), trivial⟩⟩,
    .inl ⟨wants_plain rfl, does_not true _ _ rfl rfl rfl rfl rfl (ar_tmp (av_rs 2 rfl rfl))⟩,
    .inl ⟨wants_plain rfl, does_move _ (.inl rfl) rfl rfl rfl rfl (ar_tmp (av_rs 3 rfl rfl))⟩,
    .inl ⟨wants_guard false rfl rfl rfl (av_rs 4 rfl rfl), does_field _ _ _ 2 ty_f1_api_Frac rfl rfl rfl rfl rfl rfl rfl (pt_box (av_fs 0 rfl))⟩,
    .inl ⟨wants_guard false rfl rfl rfl (av_rs 4 rfl rfl), does_loadAgg _ ty_agg_api_Int rfl rfl rfl rfl rfl rfl (pt_fp (av_rs 5 rfl rfl)) (av_fs 0 rfl)⟩,
    .inl ⟨wants_guard false rfl rfl rfl (av_rs 4 rfl rfl), does_call (s_rightI q hq) rfl hb_collator_whole_Right rfl rfl rfl rfl ⟨(ar_tmp (av_rs 6 rfl rfl)), trivial⟩⟩,
    .inl ⟨wants_guard false rfl rfl rfl (av_rs 4 rfl rfl), does_not true _ _ rfl rfl rfl rfl rfl (ar_tmp (av_rs 7 rfl rfl))⟩,
    .inl ⟨wants_plain rfl, does_pick false _ _ _ rfl rfl rfl rfl rfl (ar_tmp (av_rs 4 rfl rfl)) (ar_tmp (av_rs 8 rfl rfl))⟩,
    .inl ⟨wants_plain rfl, does_move _ (.inl rfl) rfl rfl rfl rfl (ar_tmp (av_rs 9 rfl rfl))⟩,
    .inl ⟨wants_guard false rfl rfl rfl (av_rs 10 rfl rfl), does_field _ _ _ 2 ty_f1_api_Frac rfl rfl rfl rfl rfl rfl rfl (pt_box (av_fs 0 rfl))⟩,
    .inl ⟨wants_guard false rfl rfl rfl (av_rs 10 rfl rfl), does_field _ _ _ 0 ty_f0_api_Int rfl rfl rfl rfl rfl rfl rfl (pt_fp (av_rs 11 rfl rfl))⟩,
    .inl ⟨wants_guard false rfl rfl rfl (av_rs 10 rfl rfl), does_loadOne _ ty_one_bool rfl rfl rfl rfl rfl rfl (pt_fp (av_rs 12 rfl rfl)) (av_fs 0 rfl)⟩,
    .inl ⟨wants_plain rfl, does_pick false _ _ _ rfl rfl rfl rfl rfl (ar_tmp (av_rs 10 rfl rfl)) (ar_tmp (av_rs 13 rfl rfl))⟩,
    .inl ⟨wants_plain rfl, does_move _ (.inl rfl) rfl rfl rfl rfl (ar_tmp (av_rs 14 rfl rfl))⟩,
    .inl ⟨wants_guard false rfl rfl rfl (av_bool (decide_eq_false h) (av_rs 15 rfl rfl)), does_field _ _ _ 2 ty_f1_api_Frac rfl rfl rfl rfl rfl rfl rfl (pt_box (av_fs 0 rfl))⟩,
    .inl ⟨wants_guard false rfl rfl rfl (av_bool (decide_eq_false h) (av_rs 15 rfl rfl)), does_loadAgg _ ty_agg_api_Int rfl rfl rfl rfl rfl rfl (pt_fp (av_rs 16 rfl rfl)) (av_fs 0 rfl)⟩,
    .inl ⟨wants_guard false rfl rfl rfl (av_bool (decide_eq_false h) (av_rs 15 rfl rfl)), does_loadAgg _ ty_agg_api_Int rfl rfl rfl rfl rfl rfl (pt_box (av_fs 2 rfl)) (av_fs 2 rfl)⟩,
    .inl ⟨wants_guard false rfl rfl rfl (av_bool (decide_eq_false h) (av_rs 15 rfl rfl)), does_call (s_cmp q 1 (lle hq (by decide)) (lle lone (by decide))) rfl hb_collator_whole_Cmp rfl rfl rfl rfl ⟨(ar_tmp (av_rs 17 rfl rfl)), (ar_tmp (av_rs 18 rfl rfl)), trivial⟩⟩,
    .inl ⟨wants_guard false rfl rfl rfl (av_bool (decide_eq_false h) (av_rs 15 rfl rfl)), does_cmp (m := (cmpZ q 1)) (n := 0) _ _ _ _ _ rfl rfl rfl rfl rfl rfl .i64 (ar_tmp (av_rs 19 rfl rfl)) (ar_const (fun _ => rfl))⟩,
    .inl ⟨wants_plain rfl, does_pick false _ _ _ rfl rfl rfl rfl rfl (ar_tmp (av_bool (decide_eq_false h) (av_rs 15 rfl rfl))) (ar_tmp (av_rs 20 rfl rfl))⟩,
    .inl ⟨wants_plain rfl, does_move _ (.inr rfl) rfl rfl rfl rfl (ar_tmp (av_rs 21 rfl rfl))⟩,
    trivial⟩ ?_
  refine nx_sub (fs' := [.box 1 100 [Bz p, Dz p, Bz q, Dz q], .slot 2 (VP.bool false), .box 3 69 [Bz 1, Dz 1], .slot 5 (VP.bool ((cmpZ q 1) == 0))]) [0, 1, 2, 25] rfl ?_
  refine nx_then ?_
  refine t_cond_te 3 rfl (cmp_one k) ?_
  refine t_seq ?_
  refine t_region (F := ⟨_, _, _, _⟩) [.box 1 100 [Bz p, Dz p, Bz q, Dz q], .box 3 69 [Bz 1, Dz 1], .slot 5 (VP.bool ((cmpZ q 1) == 0))] [(0, .slot 2 (VP.bool false))] [(0, .slot 2 (VP.bool false))] [0, 2, 3] [1] rfl rfl follow rfl ⟨
    .inl ⟨wants_plain rfl, does_move _ (.inr rfl) rfl rfl rfl rfl (ar_const (fun _ => rfl))⟩,
    trivial⟩ ?_
  refine nx_sub (fs' := [.box 1 100 [Bz p, Dz p, Bz q, Dz q], .box 3 69 [Bz 1, Dz 1], .slot 2 (VP.bool false)]) [0, 1, 3] rfl ?_
  refine nx_then ?_
  refine t_ret ?_
  refine rt_block ?_
  refine rt_then ?_
  exact rt_one rfl (res_tmp 2 rfl)
set_option maxRecDepth 100000 in
set_option maxHeartbeats 4000000 in
theorem fr_c (p q : Int) (hp : L p ≤ 1000) (hq : L q ≤ 1000) (h : ¬ q < 0) (k : q ≠ 1) (g : p = 0) : Spec Try.prog 87 [(VP.agg [Bz p, Dz p, Bz q, Dz q]).p] (VP.bool (decide (q = 0))) := by
  refine spec_of (xs := [VP.agg [Bz p, Dz p, Bz q, Dz q]]) 43 [1, 3] Try.func87 rfl Try.ntmps87 rfl fun w0 => ?_
  refine t_seq ?_
  refine t_region (F := ⟨_, _, _, _⟩) [.slot 0 (VP.agg [Bz p, Dz p, Bz q, Dz q])] [] [(0, .box 1 100 [Bz p, Dz p, Bz q, Dz q]), (1, .slot 2 (VP.bool false))] [0] [] rfl rfl follow rfl ⟨
    .inl ⟨wants_plain rfl, does_box _ rfl rfl rfl rfl rfl (ar_tmp (av_fs 0 rfl))⟩,
    .inl ⟨wants_plain rfl, does_move _ (.inr rfl) rfl rfl rfl rfl (ar_const (fun _ => rfl))⟩,
    trivial⟩ ?_
  refine nx_sub (fs' := [.box 1 100 [Bz p, Dz p, Bz q, Dz q], .slot 2 (VP.bool false)]) [1, 2] rfl ?_
  refine nx_then ?_
  refine t_seq ?_
  refine t_region (F := ⟨_, _, _, _⟩) [.box 1 100 [Bz p, Dz p, Bz q, Dz q], .slot 2 (VP.bool false)] [] [(0, .slot 4 (INT 1)), (1, .own 3 69 2), (2, .box 3 69 [Bz 1, Dz 1])] [0, 1] [] rfl rfl follow rfl ⟨
    .inl ⟨wants_plain rfl, does_call (s_of 1 (by decide) (by decide)) rfl hb_collator_whole_Of rfl rfl rfl rfl ⟨(ar_const (fun _ => rfl)), trivial⟩⟩,
    .inl ⟨wants_plain rfl, does_allocOwn [Bz 0, Dz 0] ty_zero_api_Int rfl rfl rfl rfl rfl z_int rfl⟩,
    .inl ⟨wants_plain rfl, does_storeNew 2 _ _ ty_agg_api_Int rfl rfl rfl rfl rfl (pt_own (av_rs 1 rfl rfl)) (av_rs 1 rfl rfl) (ar_tmp (av_rs 0 rfl rfl))⟩,
    trivial⟩ ?_
  refine nx_sub (fs' := [.box 1 100 [Bz p, Dz p, Bz q, Dz q], .slot 2 (VP.bool false), .box 3 69 [Bz 1, Dz 1]]) [0, 1, 4] rfl ?_
  refine nx_then ?_
  refine t_seq ?_
  refine t_block ?_
  refine t_seq ?_
  refine t_region (F := ⟨_, _, _, _⟩) [.box 1 100 [Bz p, Dz p, Bz q, Dz q], .slot 2 (VP.bool false), .box 3 69 [Bz 1, Dz 1]] [] [(0, .fp 6 1 0), (1, .slot 7 (INT p)), (2, .slot 8 (VP.bool true)), (3, .slot 9 (VP.bool false)), (4, .slot 10 (VP.bool false)), (5, .fp 11 1 2), (6, .slot 12 (INT q)), (7, .slot 13 (VP.bool true)), (8, .slot 14 (VP.bool false)), (9, .slot 15 (VP.bool false)), (10, .slot 16 (VP.bool false)), (11, .fp 17 1 2), (12, .fp 18 1 2), (13, .slot 19 (Bz q)), (14, .slot 20 (Bz q)), (15, .slot 21 (Bz q)), (16, .fp 22 1 2), (17, .slot 23 (INT q)), (18, .slot 24 (INT 1)), (19, .slot 25 (VP.int .i64 (cmpZ q 1))), (20, .slot 26 (VP.bool ((cmpZ q 1) == 0))), (21, .slot 27 (VP.bool ((cmpZ q 1) == 0))), (22, .slot 5 (VP.bool ((cmpZ q 1) == 0)))] [0, 1, 2] [] rfl rfl follow rfl ⟨
    .inl ⟨wants_plain rfl, does_field _ _ _ 0 ty_f0_api_Frac rfl rfl rfl rfl rfl rfl rfl (pt_box (av_fs 0 rfl))⟩,
    .inl ⟨wants_plain rfl, does_loadAgg _ ty_agg_api_Int rfl rfl rfl rfl rfl rfl (pt_fp (av_rs 0 rfl rfl)) (av_fs 0 rfl)⟩,
    .inl ⟨wants_plain rfl, does_call (s_rightI p hp) rfl hb_collator_whole_Right rfl rfl rfl rfl ⟨(ar_tmp (av_rs 1 rfl rfl)), trivial⟩⟩,
    .inl ⟨wants_plain rfl, does_not true _ _ rfl rfl rfl rfl rfl (ar_tmp (av_rs 2 rfl rfl))⟩,
    .inl ⟨wants_plain rfl, does_move _ (.inl rfl) rfl rfl rfl rfl (ar_tmp (av_rs 3 rfl rfl))⟩,
    .inl ⟨wants_guard false rfl rfl rfl (av_rs 4 rfl rfl), does_field _ _ _ 2 ty_f1_api_Frac rfl rfl rfl rfl rfl rfl rfl (pt_box (av_fs 0 rfl))⟩,
    .inl ⟨wants_guard false rfl rfl rfl (av_rs 4 rfl rfl), does_loadAgg _ ty_agg_api_Int rfl rfl rfl rfl rfl rfl (pt_fp (av_rs 5 rfl rfl)) (av_fs 0 rfl)⟩,
    .inl ⟨wants_guard false rfl rfl rfl (av_rs 4 rfl rfl), does_call (s_rightI q hq) rfl hb_collator_whole_Right rfl rfl rfl rfl ⟨(ar_tmp (av_rs 6 rfl rfl)), trivial⟩⟩,
    .inl ⟨wants_guard false rfl rfl rfl (av_rs 4 rfl rfl), does_not true _ _ rfl rfl rfl rfl rfl (ar_tmp (av_rs 7 rfl rfl))⟩,
    .inl ⟨wants_plain rfl, does_pick false _ _ _ rfl rfl rfl rfl rfl (ar_tmp (av_rs 4 rfl rfl)) (ar_tmp (av_rs 8 rfl rfl))⟩,
    .inl ⟨wants_plain rfl, does_move _ (.inl rfl) rfl rfl rfl rfl (ar_tmp (av_rs 9 rfl rfl))⟩,
    .inl ⟨wants_guard false rfl rfl rfl (av_rs 10 rfl rfl), does_field _ _ _ 2 ty_f1_api_Frac rfl rfl rfl rfl rfl rfl rfl (pt_box (av_fs 0 rfl))⟩,
    .inl ⟨wants_guard false rfl rfl rfl (av_rs 10 rfl rfl), does_field _ _ _ 0 ty_f0_api_Int rfl rfl rfl rfl rfl rfl rfl (pt_fp (av_rs 11 rfl rfl))⟩,
    .inl ⟨wants_guard false rfl rfl rfl (av_rs 10 rfl rfl), does_loadOne _ ty_one_bool rfl rfl rfl rfl rfl rfl (pt_fp (av_rs 12 rfl rfl)) (av_fs 0 rfl)⟩,
    .inl ⟨wants_plain rfl, does_pick false _ _ _ rfl rfl rfl rfl rfl (ar_tmp (av_rs 10 rfl rfl)) (ar_tmp (av_rs 13 rfl rfl))⟩,
    .inl ⟨wants_plain rfl, does_move _ (.inl rfl) rfl rfl rfl rfl (ar_tmp (av_rs 14 rfl rfl))⟩,
    .inl ⟨wants_guard false rfl rfl rfl (av_bool (decide_eq_false h) (av_rs 15 rfl rfl)), does_field _ _ _ 2 ty_f1_api_Frac rfl rfl rfl rfl rfl rfl rfl (pt_box (av_fs 0 rfl))⟩,
    .inl ⟨wants_guard false rfl rfl rfl (av_bool (decide_eq_false h) (av_rs 15 rfl rfl)), does_loadAgg _ ty_agg_api_Int rfl rfl rfl rfl rfl rfl (pt_fp (av_rs 16 rfl rfl)) (av_fs 0 rfl)⟩,
    .inl ⟨wants_guard false rfl rfl rfl (av_bool (decide_eq_false h) (av_rs 15 rfl rfl)), does_loadAgg _ ty_agg_api_Int rfl rfl rfl rfl rfl rfl (pt_box (av_fs 2 rfl)) (av_fs 2 rfl)⟩,
    .inl ⟨wants_guard false rfl rfl rfl (av_bool (decide_eq_false h) (av_rs 15 rfl rfl)), does_call (s_cmp q 1 (lle hq (by decide)) (lle lone (by decide))) rfl hb_collator_whole_Cmp rfl rfl rfl rfl ⟨(ar_tmp (av_rs 17 rfl rfl)), (ar_tmp (av_rs 18 rfl rfl)), trivial⟩⟩,
    .inl ⟨wants_guard false rfl rfl rfl (av_bool (decide_eq_false h) (av_rs 15 rfl rfl)), does_cmp (m := (cmpZ q 1)) (n := 0) _ _ _ _ _ rfl rfl rfl rfl rfl rfl .i64 (ar_tmp (av_rs 19 rfl rfl)) (ar_const (fun _ => rfl))⟩,
    .inl ⟨wants_plain rfl, does_pick false _ _ _ rfl rfl rfl rfl rfl (ar_tmp (av_bool (decide_eq_false h) (av_rs 15 rfl rfl))) (ar_tmp (av_rs 20 rfl rfl))⟩,
    .inl ⟨wants_plain rfl, does_move _ (.inr rfl) rfl rfl rfl rfl (ar_tmp (av_rs 21 rfl rfl))⟩,
    trivial⟩ ?_
  refine nx_sub (fs' := [.box 1 100 [Bz p, Dz p, Bz q, Dz q], .slot 2 (VP.bool false), .box 3 69 [Bz 1, Dz 1], .slot 5 (VP.bool ((cmpZ q 1) == 0))]) [0, 1, 2, 25] rfl ?_
  refine nx_then ?_
  refine t_cond_fe 3 rfl (cmp_two k) ?_
  refine t_seq ?_
  refine t_region (F := ⟨_, _, _, _⟩) [.box 1 100 [Bz p, Dz p, Bz q, Dz q], .slot 2 (VP.bool false), .box 3 69 [Bz 1, Dz 1], .slot 5 (VP.bool ((cmpZ q 1) == 0))] [] [(0, .fp 29 1 0), (1, .slot 30 (INT p)), (2, .slot 31 (VP.bool (decide (p = 0)))), (3, .slot 28 (VP.bool (decide (p = 0))))] [0, 1, 2, 3] [] rfl rfl follow rfl ⟨
    .inl ⟨wants_plain rfl, does_field _ _ _ 0 ty_f0_api_Frac rfl rfl rfl rfl rfl rfl rfl (pt_box (av_fs 0 rfl))⟩,
    .inl ⟨wants_plain rfl, does_loadAgg _ ty_agg_api_Int rfl rfl rfl rfl rfl rfl (pt_fp (av_rs 0 rfl rfl)) (av_fs 0 rfl)⟩,
    .inl ⟨wants_plain rfl, does_call (f_zero p) rfl hb_collator_frac_zero rfl rfl rfl rfl ⟨(ar_tmp (av_rs 1 rfl rfl)), trivial⟩⟩,
    .inl ⟨wants_plain rfl, does_move _ (.inr rfl) rfl rfl rfl rfl (ar_tmp (av_rs 2 rfl rfl))⟩,
    trivial⟩ ?_
  refine nx_sub (fs' := [.box 1 100 [Bz p, Dz p, Bz q, Dz q], .slot 2 (VP.bool false), .box 3 69 [Bz 1, Dz 1], .slot 28 (VP.bool (decide (p = 0)))]) [0, 1, 2, 7] rfl ?_
  refine nx_then ?_
  refine t_cond_te 3 rfl (decide_eq_true g) ?_
  refine t_seq ?_
  refine t_region (F := ⟨_, _, _, _⟩) [.box 1 100 [Bz p, Dz p, Bz q, Dz q], .box 3 69 [Bz 1, Dz 1], .slot 28 (VP.bool (decide (p = 0)))] [(3, .slot 2 (VP.bool false))] [(0, .fp 32 1 2), (1, .slot 33 (INT q)), (2, .slot 34 (VP.bool (decide (q = 0)))), (3, .slot 2 (VP.bool (decide (q = 0))))] [0, 2, 3] [1] rfl rfl follow rfl ⟨
    .inl ⟨wants_plain rfl, does_field _ _ _ 2 ty_f1_api_Frac rfl rfl rfl rfl rfl rfl rfl (pt_box (av_fs 0 rfl))⟩,
    .inl ⟨wants_plain rfl, does_loadAgg _ ty_agg_api_Int rfl rfl rfl rfl rfl rfl (pt_fp (av_rs 0 rfl rfl)) (av_fs 0 rfl)⟩,
    .inl ⟨wants_plain rfl, does_call (f_zero q) rfl hb_collator_frac_zero rfl rfl rfl rfl ⟨(ar_tmp (av_rs 1 rfl rfl)), trivial⟩⟩,
    .inl ⟨wants_plain rfl, does_move _ (.inr rfl) rfl rfl rfl rfl (ar_tmp (av_rs 2 rfl rfl))⟩,
    trivial⟩ ?_
  refine nx_sub (fs' := [.box 1 100 [Bz p, Dz p, Bz q, Dz q], .box 3 69 [Bz 1, Dz 1], .slot 2 (VP.bool (decide (q = 0)))]) [0, 1, 6] rfl ?_
  refine nx_then ?_
  refine t_ret ?_
  refine rt_block ?_
  refine rt_then ?_
  exact rt_one rfl (res_tmp 2 rfl)
set_option maxRecDepth 100000 in
set_option maxHeartbeats 4000000 in
theorem fr_d (p q : Int) (hp : L p ≤ 1000) (hq : L q ≤ 1000) (h : ¬ q < 0) (k : q ≠ 1) (g : p ≠ 0) : Spec Try.prog 87 [(VP.agg [Bz p, Dz p, Bz q, Dz q]).p] (VP.bool ((cmpZ (gcdZ p (und q)) 1) == 0)) := by
  refine spec_of (xs := [VP.agg [Bz p, Dz p, Bz q, Dz q]]) 43 [1, 3] Try.func87 rfl Try.ntmps87 rfl fun w0 => ?_
  refine t_seq ?_
  refine t_region (F := ⟨_, _, _, _⟩) [.slot 0 (VP.agg [Bz p, Dz p, Bz q, Dz q])] [] [(0, .box 1 100 [Bz p, Dz p, Bz q, Dz q]), (1, .slot 2 (VP.bool false))] [0] [] rfl rfl follow rfl ⟨
    .inl ⟨wants_plain rfl, does_box _ rfl rfl rfl rfl rfl (ar_tmp (av_fs 0 rfl))⟩,
    .inl ⟨wants_plain rfl, does_move _ (.inr rfl) rfl rfl rfl rfl (ar_const (fun _ => rfl))⟩,
    trivial⟩ ?_
  refine nx_sub (fs' := [.box 1 100 [Bz p, Dz p, Bz q, Dz q], .slot 2 (VP.bool false)]) [1, 2] rfl ?_
  refine nx_then ?_
  refine t_seq ?_
  refine t_region (F := ⟨_, _, _, _⟩) [.box 1 100 [Bz p, Dz p, Bz q, Dz q], .slot 2 (VP.bool false)] [] [(0, .slot 4 (INT 1)), (1, .own 3 69 2), (2, .box 3 69 [Bz 1, Dz 1])] [0, 1] [] rfl rfl follow rfl ⟨
    .inl ⟨wants_plain rfl, does_call (s_of 1 (by decide) (by decide)) rfl hb_collator_whole_Of rfl rfl rfl rfl ⟨(ar_const (fun _ => rfl)), trivial⟩⟩,
    .inl ⟨wants_plain rfl, does_allocOwn [Bz 0, Dz 0] ty_zero_api_Int rfl rfl rfl rfl rfl z_int rfl⟩,
    .inl ⟨wants_plain rfl, does_storeNew 2 _ _ ty_agg_api_Int rfl rfl rfl rfl rfl (pt_own (av_rs 1 rfl rfl)) (av_rs 1 rfl rfl) (ar_tmp (av_rs 0 rfl rfl))⟩,
    trivial⟩ ?_
  refine nx_sub (fs' := [.box 1 100 [Bz p, Dz p, Bz q, Dz q], .slot 2 (VP.bool false), .box 3 69 [Bz 1, Dz 1]]) [0, 1, 4] rfl ?_
  refine nx_then ?_
  refine t_seq ?_
  refine t_block ?_
  refine t_seq ?_
  refine t_region (F := ⟨_, _, _, _⟩) [.box 1 100 [Bz p, Dz p, Bz q, Dz q], .slot 2 (VP.bool false), .box 3 69 [Bz 1, Dz 1]] [] [(0, .fp 6 1 0), (1, .slot 7 (INT p)), (2, .slot 8 (VP.bool true)), (3, .slot 9 (VP.bool false)), (4, .slot 10 (VP.bool false)), (5, .fp 11 1 2), (6, .slot 12 (INT q)), (7, .slot 13 (VP.bool true)), (8, .slot 14 (VP.bool false)), (9, .slot 15 (VP.bool false)), (10, .slot 16 (VP.bool false)), (11, .fp 17 1 2), (12, .fp 18 1 2), (13, .slot 19 (Bz q)), (14, .slot 20 (Bz q)), (15, .slot 21 (Bz q)), (16, .fp 22 1 2), (17, .slot 23 (INT q)), (18, .slot 24 (INT 1)), (19, .slot 25 (VP.int .i64 (cmpZ q 1))), (20, .slot 26 (VP.bool ((cmpZ q 1) == 0))), (21, .slot 27 (VP.bool ((cmpZ q 1) == 0))), (22, .slot 5 (VP.bool ((cmpZ q 1) == 0)))] [0, 1, 2] [] rfl rfl follow rfl ⟨
    .inl ⟨wants_plain rfl, does_field _ _ _ 0 ty_f0_api_Frac rfl rfl rfl rfl rfl rfl rfl (pt_box (av_fs 0 rfl))⟩,
    .inl ⟨wants_plain rfl, does_loadAgg _ ty_agg_api_Int rfl rfl rfl rfl rfl rfl (pt_fp (av_rs 0 rfl rfl)) (av_fs 0 rfl)⟩,
    .inl ⟨wants_plain rfl, does_call (s_rightI p hp) rfl hb_collator_whole_Right rfl rfl rfl rfl ⟨(ar_tmp (av_rs 1 rfl rfl)), trivial⟩⟩,
    .inl ⟨wants_plain rfl, does_not true _ _ rfl rfl rfl rfl rfl (ar_tmp (av_rs 2 rfl rfl))⟩,
    .inl ⟨wants_plain rfl, does_move _ (.inl rfl) rfl rfl rfl rfl (ar_tmp (av_rs 3 rfl rfl))⟩,
    .inl ⟨wants_guard false rfl rfl rfl (av_rs 4 rfl rfl), does_field _ _ _ 2 ty_f1_api_Frac rfl rfl rfl rfl rfl rfl rfl (pt_box (av_fs 0 rfl))⟩,
    .inl ⟨wants_guard false rfl rfl rfl (av_rs 4 rfl rfl), does_loadAgg _ ty_agg_api_Int rfl rfl rfl rfl rfl rfl (pt_fp (av_rs 5 rfl rfl)) (av_fs 0 rfl)⟩,
    .inl ⟨wants_guard false rfl rfl rfl (av_rs 4 rfl rfl), does_call (s_rightI q hq) rfl hb_collator_whole_Right rfl rfl rfl rfl ⟨(ar_tmp (av_rs 6 rfl rfl)), trivial⟩⟩,
    .inl ⟨wants_guard false rfl rfl rfl (av_rs 4 rfl rfl), does_not true _ _ rfl rfl rfl rfl rfl (ar_tmp (av_rs 7 rfl rfl))⟩,
    .inl ⟨wants_plain rfl, does_pick false _ _ _ rfl rfl rfl rfl rfl (ar_tmp (av_rs 4 rfl rfl)) (ar_tmp (av_rs 8 rfl rfl))⟩,
    .inl ⟨wants_plain rfl, does_move _ (.inl rfl) rfl rfl rfl rfl (ar_tmp (av_rs 9 rfl rfl))⟩,
    .inl ⟨wants_guard false rfl rfl rfl (av_rs 10 rfl rfl), does_field _ _ _ 2 ty_f1_api_Frac rfl rfl rfl rfl rfl rfl rfl (pt_box (av_fs 0 rfl))⟩,
    .inl ⟨wants_guard false rfl rfl rfl (av_rs 10 rfl rfl), does_field _ _ _ 0 ty_f0_api_Int rfl rfl rfl rfl rfl rfl rfl (pt_fp (av_rs 11 rfl rfl))⟩,
    .inl ⟨wants_guard false rfl rfl rfl (av_rs 10 rfl rfl), does_loadOne _ ty_one_bool rfl rfl rfl rfl rfl rfl (pt_fp (av_rs 12 rfl rfl)) (av_fs 0 rfl)⟩,
    .inl ⟨wants_plain rfl, does_pick false _ _ _ rfl rfl rfl rfl rfl (ar_tmp (av_rs 10 rfl rfl)) (ar_tmp (av_rs 13 rfl rfl))⟩,
    .inl ⟨wants_plain rfl, does_move _ (.inl rfl) rfl rfl rfl rfl (ar_tmp (av_rs 14 rfl rfl))⟩,
    .inl ⟨wants_guard false rfl rfl rfl (av_bool (decide_eq_false h) (av_rs 15 rfl rfl)), does_field _ _ _ 2 ty_f1_api_Frac rfl rfl rfl rfl rfl rfl rfl (pt_box (av_fs 0 rfl))⟩,
    .inl ⟨wants_guard false rfl rfl rfl (av_bool (decide_eq_false h) (av_rs 15 rfl rfl)), does_loadAgg _ ty_agg_api_Int rfl rfl rfl rfl rfl rfl (pt_fp (av_rs 16 rfl rfl)) (av_fs 0 rfl)⟩,
    .inl ⟨wants_guard false rfl rfl rfl (av_bool (decide_eq_false h) (av_rs 15 rfl rfl)), does_loadAgg _ ty_agg_api_Int rfl rfl rfl rfl rfl rfl (pt_box (av_fs 2 rfl)) (av_fs 2 rfl)⟩,
    .inl ⟨wants_guard false rfl rfl rfl (av_bool (decide_eq_false h) (av_rs 15 rfl rfl)), does_call (s_cmp q 1 (lle hq (by decide)) (lle lone (by decide))) rfl hb_collator_whole_Cmp rfl rfl rfl rfl ⟨(ar_tmp (av_rs 17 rfl rfl)), (ar_tmp (av_rs 18 rfl rfl)), trivial⟩⟩,
    .inl ⟨wants_guard false rfl rfl rfl (av_bool (decide_eq_false h) (av_rs 15 rfl rfl)), does_cmp (m := (cmpZ q 1)) (n := 0) _ _ _ _ _ rfl rfl rfl rfl rfl rfl .i64 (ar_tmp (av_rs 19 rfl rfl)) (ar_const (fun _ => rfl))⟩,
    .inl ⟨wants_plain rfl, does_pick false _ _ _ rfl rfl rfl rfl rfl (ar_tmp (av_bool (decide_eq_false h) (av_rs 15 rfl rfl))) (ar_tmp (av_rs 20 rfl rfl))⟩,
    .inl ⟨wants_plain rfl, does_move _ (.inr rfl) rfl rfl rfl rfl (ar_tmp (av_rs 21 rfl rfl))⟩,
    trivial⟩ ?_
  refine nx_sub (fs' := [.box 1 100 [Bz p, Dz p, Bz q, Dz q], .slot 2 (VP.bool false), .box 3 69 [Bz 1, Dz 1], .slot 5 (VP.bool ((cmpZ q 1) == 0))]) [0, 1, 2, 25] rfl ?_
  refine nx_then ?_
  refine t_cond_fe 3 rfl (cmp_two k) ?_
  refine t_seq ?_
  refine t_region (F := ⟨_, _, _, _⟩) [.box 1 100 [Bz p, Dz p, Bz q, Dz q], .slot 2 (VP.bool false), .box 3 69 [Bz 1, Dz 1], .slot 5 (VP.bool ((cmpZ q 1) == 0))] [] [(0, .fp 29 1 0), (1, .slot 30 (INT p)), (2, .slot 31 (VP.bool (decide (p = 0)))), (3, .slot 28 (VP.bool (decide (p = 0))))] [0, 1, 2, 3] [] rfl rfl follow rfl ⟨
    .inl ⟨wants_plain rfl, does_field _ _ _ 0 ty_f0_api_Frac rfl rfl rfl rfl rfl rfl rfl (pt_box (av_fs 0 rfl))⟩,
    .inl ⟨wants_plain rfl, does_loadAgg _ ty_agg_api_Int rfl rfl rfl rfl rfl rfl (pt_fp (av_rs 0 rfl rfl)) (av_fs 0 rfl)⟩,
    .inl ⟨wants_plain rfl, does_call (f_zero p) rfl hb_collator_frac_zero rfl rfl rfl rfl ⟨(ar_tmp (av_rs 1 rfl rfl)), trivial⟩⟩,
    .inl ⟨wants_plain rfl, does_move _ (.inr rfl) rfl rfl rfl rfl (ar_tmp (av_rs 2 rfl rfl))⟩,
    trivial⟩ ?_
  refine nx_sub (fs' := [.box 1 100 [Bz p, Dz p, Bz q, Dz q], .slot 2 (VP.bool false), .box 3 69 [Bz 1, Dz 1], .slot 28 (VP.bool (decide (p = 0)))]) [0, 1, 2, 7] rfl ?_
  refine nx_then ?_
  refine t_cond_fe 3 rfl (decide_eq_false g) ?_
  refine t_skip ?_
  refine nx_block ?_
  refine nx_then ?_
  refine t_seq ?_
  refine t_region (F := ⟨_, _, _, _⟩) [.box 1 100 [Bz p, Dz p, Bz q, Dz q], .box 3 69 [Bz 1, Dz 1], .slot 28 (VP.bool (decide (p = 0)))] [(8, .slot 2 (VP.bool false))] [(0, .fp 35 1 0), (1, .slot 36 (INT p)), (2, .slot 37 (VP.agg [Bz p, Dz p, Bz q, Dz q])), (3, .slot 38 (INT (und q))), (4, .slot 39 (INT (gcdZ p (und q)))), (5, .slot 40 (INT 1)), (6, .slot 41 (VP.int .i64 (cmpZ (gcdZ p (und q)) 1))), (7, .slot 42 (VP.bool ((cmpZ (gcdZ p (und q)) 1) == 0))), (8, .slot 2 (VP.bool ((cmpZ (gcdZ p (und q)) 1) == 0)))] [0, 2, 3] [1] rfl rfl follow rfl ⟨
    .inl ⟨wants_plain rfl, does_field _ _ _ 0 ty_f0_api_Frac rfl rfl rfl rfl rfl rfl rfl (pt_box (av_fs 0 rfl))⟩,
    .inl ⟨wants_plain rfl, does_loadAgg _ ty_agg_api_Int rfl rfl rfl rfl rfl rfl (pt_fp (av_rs 0 rfl rfl)) (av_fs 0 rfl)⟩,
    .inl ⟨wants_plain rfl, does_loadAgg _ ty_agg_api_Frac rfl rfl rfl rfl rfl rfl (pt_box (av_fs 0 rfl)) (av_fs 0 rfl)⟩,
    .inl ⟨wants_plain rfl, does_call (f_under p q hp hq) rfl hb_collator_frac_under rfl rfl rfl rfl ⟨(ar_tmp (av_rs 2 rfl rfl)), trivial⟩⟩,
    .inl ⟨wants_plain rfl, does_call (s_gcd p (und q) (lle hp (by decide)) (lle (lund hq (by decide)) (by decide))) rfl hb_collator_whole_Gcd rfl rfl rfl rfl ⟨(ar_tmp (av_rs 1 rfl rfl)), (ar_tmp (av_rs 3 rfl rfl)), trivial⟩⟩,
    .inl ⟨wants_plain rfl, does_loadAgg _ ty_agg_api_Int rfl rfl rfl rfl rfl rfl (pt_box (av_fs 1 rfl)) (av_fs 1 rfl)⟩,
    .inl ⟨wants_plain rfl, does_call (s_cmp (gcdZ p (und q)) 1 (lle (lgcd hp (lund hq (by decide))) (by decide)) (lle lone (by decide))) rfl hb_collator_whole_Cmp rfl rfl rfl rfl ⟨(ar_tmp (av_rs 4 rfl rfl)), (ar_tmp (av_rs 5 rfl rfl)), trivial⟩⟩,
    .inl ⟨wants_plain rfl, does_cmp (m := (cmpZ (gcdZ p (und q)) 1)) (n := 0) _ _ _ _ _ rfl rfl rfl rfl rfl rfl .i64 (ar_tmp (av_rs 6 rfl rfl)) (ar_const (fun _ => rfl))⟩,
    .inl ⟨wants_plain rfl, does_move _ (.inr rfl) rfl rfl rfl rfl (ar_tmp (av_rs 7 rfl rfl))⟩,
    trivial⟩ ?_
  refine nx_sub (fs' := [.slot 2 (VP.bool ((cmpZ (gcdZ p (und q)) 1) == 0))]) [11] rfl ?_
  refine nx_then ?_
  refine t_ret ?_
  exact rt_one rfl (res_tmp 0 rfl)
theorem cmp_oneD (z : Int) : ((cmpZ z 1) == 0) = decide (z = 1) := by
  by_cases h : z = 1
  · rw [cmp_one h, decide_eq_true h]
  · rw [cmp_two h, decide_eq_false h]
theorem rightF_iff (p q : Int) : rightF p q = true ↔ ∃ r : Rat, p = r.num ∧ q = fD r.den := by
  constructor
  · exact rightF_rat
  · rintro ⟨r, rfl, rfl⟩; exact rat_rightF r
theorem fr_int (p q : Int) (hp : L p ≤ 1000) (hq : L q ≤ 1000) : Spec Try.prog 87 [(VP.agg [Bz p, Dz p, Bz q, Dz q]).p] (VP.bool (rightF p q)) := by
  have hD : ∀ r : Rat, ¬ fD r.den < 0 ∧ fD r.den ≠ 1 := fun r => by
    have := r.den_nz
    unfold fD fU; constructor <;> split <;> omega
  by_cases h : q < 0
  · rw [show rightF p q = false from by
      rw [Bool.eq_false_iff]; intro g
      obtain ⟨r, rfl, rfl⟩ := rightF_rat g
      exact (hD r).1 h]
    exact fr_a p q hp hq h
  · by_cases k : q = 1
    · rw [show rightF p q = false from by
        rw [Bool.eq_false_iff]; intro g
        obtain ⟨r, rfl, rfl⟩ := rightF_rat g
        exact (hD r).2 k]
      exact fr_b p q hp hq h k
    · by_cases g : p = 0
      · rw [show rightF p q = decide (q = 0) from by
          rw [Bool.eq_iff_iff, rightF_iff, decide_eq_true_eq]
          constructor
          · rintro ⟨r, rfl, rfl⟩
            have : r = 0 := Rat.num_eq_zero.1 g
            subst this; rfl
          · rintro rfl; exact ⟨0, by rw [g]; rfl, rfl⟩]
        exact fr_c p q hp hq h k g
      · rw [show rightF p q = ((cmpZ (gcdZ p (und q)) 1) == 0) from by
          rw [cmp_oneD, Bool.eq_iff_iff, rightF_iff, decide_eq_true_eq]
          constructor
          · rintro ⟨r, rfl, rfl⟩
            rw [und_fD r.den_nz]
            unfold gcdZ
            have := r.reduced
            unfold Nat.Coprime at this
            rw [show ((r.den : Int)).natAbs = r.den from rfl, this]; rfl
          · intro h1
            have hu : und q ≠ 0 := by unfold und; split <;> omega
            have hu0 : 0 < und q := by unfold und; split <;> omega
            refine ⟨Rat.divInt p (und q), ?_, ?_⟩
            · rw [Rat.num_divInt, gcd_int, h1, Int.sign_eq_one_of_pos hu0, Int.one_mul, Int.ediv_one]
            · have h2 : ((Rat.divInt p (und q)).den : Int) = und q := by
                rw [← mkD_den p (und q) (by omega)]
                have e : (if und q < 0 then -gcdZ p (und q) else gcdZ p (und q)) = 1 := by rw [if_neg (by omega), h1]
                unfold mkD
                rw [e]
                unfold divZ
                rw [if_neg (by decide : ¬ (1 : Int) = 0), Int.ediv_one]
              unfold fD
              rw [h2]
              unfold fU und
              by_cases h4 : q = 0
              · rw [h4]; rfl
              · rw [if_neg h4, if_neg k]]
        exact fr_d p q hp hq h k g
/-- both say the same -/
theorem right_both (x : FRaw) (hx : x.ok) (h1 : x.1.2.length ≤ 8) (h2 : x.2.2.length ≤ 8) : ∃ b, Spec Try.prog 87 [(FRAW x).p] (VP.bool b) ∧ Spec Try.prog 88 [(FRAW x).p] (VP.bool b) := by
  cases e1 : rightB x.1.1 x.1.2
  · exact ⟨false, fr_n1 x hx.1 hx.2 (by omega) (by omega) e1, gr_n1 x hx.1 hx.2 (by omega) (by omega) e1⟩
  · cases e2 : rightB x.2.1 x.2.2
    · exact ⟨false, fr_n2 x hx.1 hx.2 (by omega) (by omega) e1 e2, gr_n2 x hx.1 hx.2 (by omega) (by omega) e1 e2⟩
    · obtain ⟨p, s1, l1⟩ := right_int e1
      obtain ⟨q, s2, l2⟩ := right_int e2
      have hL1 : L p ≤ 1000 := by unfold L; rw [← l1]; omega
      have hL2 : L q ≤ 1000 := by unfold L; rw [← l2]; omega
      have e : x = (raw p, raw q) := Prod.ext (Prod.ext s1 l1) (Prod.ext s2 l2)
      subst e
      exact ⟨rightF p q, fr_int p q hL1 hL2, g_right p q hL1 hL2⟩
theorem w_sameInt (x : Int) (h : L x ≤ 1000) : Spec Try.prog 89 [(RAT (x : Rat)).p, (VP.agg [Bz x, Dz x, Bz 0, Dz 0]).p] (VP.bool true) := by
  have h1 := w_same1 (x : Rat) (lrint h (by decide))
  have e : (VP.agg [Bz x, Dz x, Bz 0, Dz 0]) = RAT (x : Rat) := by
    show _ = VP.agg [Bz (x : Rat).num, Dz (x : Rat).num, Bz (fD (x : Rat).den), Dz (fD (x : Rat).den)]
    rw [Rat.num_intCast, Rat.den_intCast]; rfl
  rw [e]; exact h1
set_option maxRecDepth 100000 in
set_option maxHeartbeats 4000000 in
theorem fmk_even (x y : Int) (hx : L x ≤ 10) (hy : L y ≤ 10) (z : FRaw) (b : Bool) (HF : Spec Try.prog 87 [(FRAW z).p] (VP.bool b)) (HG : Spec Try.prog 88 [(FRAW z).p] (VP.bool b)) (h1 : z.1.2.length ≤ 8) (h2 : z.2.2.length ≤ 8) : Spec Try.prog 13 [(INT x).p, (INT y).p, (VP.agg [VP.bool z.1.1, VP.nums .u32 z.1.2, VP.bool z.2.1, VP.nums .u32 z.2.2]).p] (VP.bool true) := by
  refine spec_of (xs := [INT x, INT y, VP.agg [VP.bool z.1.1, VP.nums .u32 z.1.2, VP.bool z.2.1, VP.nums .u32 z.2.2]]) 51 [3, 4, 5] Try.func13 rfl Try.ntmps13 rfl fun w0 => ?_
  refine t_seq ?_
  refine t_region (F := ⟨_, _, _, _⟩) [.slot 0 (INT x), .slot 1 (INT y), .slot 2 (VP.agg [VP.bool z.1.1, VP.nums .u32 z.1.2, VP.bool z.2.1, VP.nums .u32 z.2.2])] [] [(0, .box 3 69 [Bz x, Dz x]), (1, .box 4 69 [Bz y, Dz y]), (2, .box 5 100 [VP.bool z.1.1, VP.nums .u32 z.1.2, VP.bool z.2.1, VP.nums .u32 z.2.2]), (3, .slot 6 (VP.bool false))] [0, 1, 2] [] rfl rfl follow rfl ⟨
    .inl ⟨wants_plain rfl, does_box _ rfl rfl rfl rfl rfl (ar_tmp (av_fs 0 rfl))⟩,
    .inl ⟨wants_plain rfl, does_box _ rfl rfl rfl rfl rfl (ar_tmp (av_fs 1 rfl))⟩,
    .inl ⟨wants_plain rfl, does_box _ rfl rfl rfl rfl rfl (ar_tmp (av_fs 2 rfl))⟩,
    .inl ⟨wants_plain rfl, does_move _ (.inr rfl) rfl rfl rfl rfl (ar_const (fun _ => rfl))⟩,
    trivial⟩ ?_
  refine nx_sub (fs' := [.box 3 69 [Bz x, Dz x], .box 4 69 [Bz y, Dz y], .box 5 100 [VP.bool z.1.1, VP.nums .u32 z.1.2, VP.bool z.2.1, VP.nums .u32 z.2.2], .slot 6 (VP.bool false)]) [3, 4, 5, 6] rfl ?_
  refine nx_then ?_
  refine t_seq ?_
  refine t_seq ?_
  refine t_region (F := ⟨_, _, _, _⟩) [.box 3 69 [Bz x, Dz x], .box 4 69 [Bz y, Dz y], .box 5 100 [VP.bool z.1.1, VP.nums .u32 z.1.2, VP.bool z.2.1, VP.nums .u32 z.2.2], .slot 6 (VP.bool false)] [] [(0, .slot 7 (VP.bool true)), (1, .slot 8 (VP.bool false))] [0, 1, 2, 3] [] rfl rfl follow rfl ⟨
    .inl ⟨wants_plain rfl, does_call sp2_spec rfl hb_collator_collatorlaw02_speaks rfl rfl rfl rfl trivial⟩,
    .inl ⟨wants_plain rfl, does_not true _ _ rfl rfl rfl rfl rfl (ar_tmp (av_rs 0 rfl rfl))⟩,
    trivial⟩ ?_
  refine nx_sub (fs' := [.box 3 69 [Bz x, Dz x], .box 4 69 [Bz y, Dz y], .box 5 100 [VP.bool z.1.1, VP.nums .u32 z.1.2, VP.bool z.2.1, VP.nums .u32 z.2.2], .slot 6 (VP.bool false), .slot 8 (VP.bool false)]) [0, 1, 2, 3, 5] rfl ?_
  refine nx_then ?_
  refine t_cond_f 4 rfl ?_
  refine t_skip ?_
  refine nx_then ?_
  refine t_seq ?_
  refine t_seq ?_
  refine t_region (F := ⟨_, _, _, _⟩) [.box 3 69 [Bz x, Dz x], .box 4 69 [Bz y, Dz y], .box 5 100 [VP.bool z.1.1, VP.nums .u32 z.1.2, VP.bool z.2.1, VP.nums .u32 z.2.2], .slot 6 (VP.bool false), .slot 8 (VP.bool false)] [] [(0, .slot 9 (INT x)), (1, .slot 10 (INT y)), (2, .arr 11 69 2 [Bz x, Dz x, Bz y, Dz y]), (3, .slot 12 (VP.bool false)), (4, .slot 13 (VP.bool false)), (5, .fp 14 5 0), (6, .fp 15 5 1), (7, .slot 16 (VP.nums .u32 z.1.2)), (8, .slot 17 (VP.int .i64 (((z.1.2).length : Nat) : Int))), (9, .slot 18 (VP.bool (decide ((((z.1.2).length : Nat) : Int) > 8)))), (10, .slot 19 (VP.bool (decide ((((z.1.2).length : Nat) : Int) > 8)))), (11, .slot 20 (VP.bool (decide ((((z.1.2).length : Nat) : Int) > 8)))), (12, .fp 21 5 2), (13, .fp 22 5 3), (14, .slot 23 (VP.nums .u32 z.2.2)), (15, .slot 24 (VP.int .i64 (((z.2.2).length : Nat) : Int))), (16, .slot 25 (VP.bool (decide ((((z.2.2).length : Nat) : Int) > 8)))), (17, .slot 26 (VP.bool (decide ((((z.2.2).length : Nat) : Int) > 8))))] [0, 1, 2, 3, 4] [] rfl rfl follow rfl ⟨
    .inl ⟨wants_plain rfl, does_loadAgg _ ty_agg_api_Int rfl rfl rfl rfl rfl rfl (pt_box (av_fs 0 rfl)) (av_fs 0 rfl)⟩,
    .inl ⟨wants_plain rfl, does_loadAgg _ ty_agg_api_Int rfl rfl rfl rfl rfl rfl (pt_box (av_fs 1 rfl)) (av_fs 1 rfl)⟩,
    .inl ⟨wants_plain rfl, does_buildSlice (sz := 2) [Bz 0, Dz 0, Bz 0, Dz 0] ty_zero_api_Int (by kernel_rfl) (fun w => run_sizeAgg ty_agg_api_Int w) rfl rfl rfl rfl rfl rfl (by kernel_rfl) (fun w => by exact z_int_2 w) (.cons 0 [Bz x, Dz x] rfl rfl (ar_cells_agg (ar_tmp (av_rs 0 rfl rfl))) (.cons 2 [Bz y, Dz y] rfl rfl (ar_cells_agg (ar_tmp (av_rs 1 rfl rfl))) (.nil _)))⟩,
    .inl ⟨wants_plain rfl, does_call (s_even2 x y hx hy) rfl hb_collator_collatorlaw01_Odd rfl rfl rfl rfl ⟨(ar_arr (av_rs 2 rfl rfl)), trivial⟩⟩,
    .inl ⟨wants_plain rfl, does_move _ (.inl rfl) rfl rfl rfl rfl (ar_tmp (av_rs 3 rfl rfl))⟩,
    .inl ⟨wants_guard false rfl rfl rfl (av_rs 4 rfl rfl), does_field _ _ _ 0 ty_f0_api_Frac rfl rfl rfl rfl rfl rfl rfl (pt_box (av_fs 2 rfl))⟩,
    .inl ⟨wants_guard false rfl rfl rfl (av_rs 4 rfl rfl), does_field _ _ _ 1 ty_f1_api_Int rfl rfl rfl rfl rfl rfl rfl (pt_fp (av_rs 5 rfl rfl))⟩,
    .inl ⟨wants_guard false rfl rfl rfl (av_rs 4 rfl rfl), does_loadOne _ ty_one___uint32 rfl rfl rfl rfl rfl rfl (pt_fp (av_rs 6 rfl rfl)) (av_fs 2 rfl)⟩,
    .inl ⟨wants_guard false rfl rfl rfl (av_rs 4 rfl rfl), does_len _ _ (by kernel_rfl) rfl rfl rfl rfl rfl (ar_tmp (av_rs 7 rfl rfl))⟩,
    .inl ⟨wants_guard false rfl rfl rfl (av_rs 4 rfl rfl), does_cmp (m := (((z.1.2).length : Nat) : Int)) (n := 8) _ _ _ _ _ rfl rfl rfl rfl rfl rfl .i64 (ar_tmp (av_rs 8 rfl rfl)) (ar_const (fun _ => rfl))⟩,
    .inl ⟨wants_plain rfl, does_pick false _ _ _ rfl rfl rfl rfl rfl (ar_tmp (av_rs 4 rfl rfl)) (ar_tmp (av_rs 9 rfl rfl))⟩,
    .inl ⟨wants_plain rfl, does_move _ (.inl rfl) rfl rfl rfl rfl (ar_tmp (av_rs 10 rfl rfl))⟩,
    .inl ⟨wants_guard false rfl rfl rfl (av_bool (decide_eq_false (by omega)) (av_rs 11 rfl rfl)), does_field _ _ _ 2 ty_f1_api_Frac rfl rfl rfl rfl rfl rfl rfl (pt_box (av_fs 2 rfl))⟩,
    .inl ⟨wants_guard false rfl rfl rfl (av_bool (decide_eq_false (by omega)) (av_rs 11 rfl rfl)), does_field _ _ _ 1 ty_f1_api_Int rfl rfl rfl rfl rfl rfl rfl (pt_fp (av_rs 12 rfl rfl))⟩,
    .inl ⟨wants_guard false rfl rfl rfl (av_bool (decide_eq_false (by omega)) (av_rs 11 rfl rfl)), does_loadOne _ ty_one___uint32 rfl rfl rfl rfl rfl rfl (pt_fp (av_rs 13 rfl rfl)) (av_fs 2 rfl)⟩,
    .inl ⟨wants_guard false rfl rfl rfl (av_bool (decide_eq_false (by omega)) (av_rs 11 rfl rfl)), does_len _ _ (by kernel_rfl) rfl rfl rfl rfl rfl (ar_tmp (av_rs 14 rfl rfl))⟩,
    .inl ⟨wants_guard false rfl rfl rfl (av_bool (decide_eq_false (by omega)) (av_rs 11 rfl rfl)), does_cmp (m := (((z.2.2).length : Nat) : Int)) (n := 8) _ _ _ _ _ rfl rfl rfl rfl rfl rfl .i64 (ar_tmp (av_rs 15 rfl rfl)) (ar_const (fun _ => rfl))⟩,
    .inl ⟨wants_plain rfl, does_pick false _ _ _ rfl rfl rfl rfl rfl (ar_tmp (av_bool (decide_eq_false (by omega)) (av_rs 11 rfl rfl))) (ar_tmp (av_rs 16 rfl rfl))⟩,
    trivial⟩ ?_
  refine nx_sub (fs' := [.box 3 69 [Bz x, Dz x], .box 4 69 [Bz y, Dz y], .box 5 100 [VP.bool z.1.1, VP.nums .u32 z.1.2, VP.bool z.2.1, VP.nums .u32 z.2.2], .slot 6 (VP.bool false), .slot 26 (VP.bool (decide ((((z.2.2).length : Nat) : Int) > 8)))]) [0, 1, 2, 3, 22] rfl ?_
  refine nx_then ?_
  refine t_cond_fe 4 rfl (decide_eq_false (by omega)) ?_
  refine t_skip ?_
  refine nx_then ?_
  refine t_seq ?_
  refine t_region (F := ⟨_, _, _, _⟩) [.box 3 69 [Bz x, Dz x], .box 4 69 [Bz y, Dz y], .box 5 100 [VP.bool z.1.1, VP.nums .u32 z.1.2, VP.bool z.2.1, VP.nums .u32 z.2.2], .slot 26 (VP.bool (decide ((((z.2.2).length : Nat) : Int) > 8)))] [(24, .slot 6 (VP.bool false))] [(0, .slot 27 (VP.agg [VP.bool z.1.1, VP.nums .u32 z.1.2, VP.bool z.2.1, VP.nums .u32 z.2.2])), (1, .slot 28 (VP.bool b)), (2, .slot 29 (VP.agg [VP.bool z.1.1, VP.nums .u32 z.1.2, VP.bool z.2.1, VP.nums .u32 z.2.2])), (3, .slot 30 (VP.bool b)), (4, .slot 31 (VP.bool (b == b))), (5, .slot 32 (VP.bool (b == b))), (6, .slot 33 (INT x)), (7, .slot 34 (INT y)), (8, .slot 35 (RAT (Rat.divInt x y))), (9, .slot 36 (INT x)), (10, .slot 37 (NUM x)), (11, .slot 38 (INT y)), (12, .slot 39 (NUM y)), (13, .slot 40 (RRAT (Rat.divInt x y))), (14, .slot 41 (RAT (Rat.divInt x y))), (15, .slot 42 (VP.bool true)), (16, .slot 43 (VP.bool true)), (17, .slot 44 (VP.bool true)), (18, .slot 45 (INT x)), (19, .slot 46 (RAT ((x : Int) : Rat))), (20, .slot 47 (INT x)), (21, .slot 48 (VP.agg [Bz x, Dz x, Bz 0, Dz 0])), (22, .slot 49 (VP.bool true)), (23, .slot 50 (VP.bool true)), (24, .slot 6 (VP.bool true))] [0, 1, 2, 4] [3] rfl rfl follow rfl ⟨
    .inl ⟨wants_plain rfl, does_loadAgg _ ty_agg_api_Frac rfl rfl rfl rfl rfl rfl (pt_box (av_fs 2 rfl)) (av_fs 2 rfl)⟩,
    .inl ⟨wants_plain rfl, does_call HF rfl hb_collator_frac_Right rfl rfl rfl rfl ⟨(ar_tmp (av_rs 0 rfl rfl)), trivial⟩⟩,
    .inl ⟨wants_plain rfl, does_loadAgg _ ty_agg_api_Frac rfl rfl rfl rfl rfl rfl (pt_box (av_fs 2 rfl)) (av_fs 2 rfl)⟩,
    .inl ⟨wants_plain rfl, does_call HG rfl hb_collator_collatorref02_Right rfl rfl rfl rfl ⟨(ar_tmp (av_rs 2 rfl rfl)), trivial⟩⟩,
    .inl ⟨wants_plain rfl, does_eqBool (u := b) (v := b) _ _ _ _ _ (by kernel_rfl) rfl rfl rfl rfl rfl rfl (ar_tmp (av_rs 1 rfl rfl)) (ar_tmp (av_rs 3 rfl rfl))⟩,
    .inl ⟨wants_plain rfl, does_move _ (.inl rfl) rfl rfl rfl rfl (ar_tmp (av_rs 4 rfl rfl))⟩,
    .inl ⟨wants_guard true rfl rfl rfl (av_bool (beq_self_eq_true _) (av_rs 5 rfl rfl)), does_loadAgg _ ty_agg_api_Int rfl rfl rfl rfl rfl rfl (pt_box (av_fs 0 rfl)) (av_fs 0 rfl)⟩,
    .inl ⟨wants_guard true rfl rfl rfl (av_bool (beq_self_eq_true _) (av_rs 5 rfl rfl)), does_loadAgg _ ty_agg_api_Int rfl rfl rfl rfl rfl rfl (pt_box (av_fs 1 rfl)) (av_fs 1 rfl)⟩,
    .inl ⟨wants_guard true rfl rfl rfl (av_bool (beq_self_eq_true _) (av_rs 5 rfl rfl)), does_call (q_make x y (lle hx (by decide)) (lle hy (by decide))) rfl hb_collator_frac_Make rfl rfl rfl rfl ⟨(ar_tmp (av_rs 6 rfl rfl)), (ar_tmp (av_rs 7 rfl rfl)), trivial⟩⟩,
    .inl ⟨wants_guard true rfl rfl rfl (av_bool (beq_self_eq_true _) (av_rs 5 rfl rfl)), does_loadAgg _ ty_agg_api_Int rfl rfl rfl rfl rfl rfl (pt_box (av_fs 0 rfl)) (av_fs 0 rfl)⟩,
    .inl ⟨wants_guard true rfl rfl rfl (av_bool (beq_self_eq_true _) (av_rs 5 rfl rfl)), does_call (r_of x (lle hx (by decide))) rfl hb_collator_collatorref01_Of rfl rfl rfl rfl ⟨(ar_tmp (av_rs 9 rfl rfl)), trivial⟩⟩,
    .inl ⟨wants_guard true rfl rfl rfl (av_bool (beq_self_eq_true _) (av_rs 5 rfl rfl)), does_loadAgg _ ty_agg_api_Int rfl rfl rfl rfl rfl rfl (pt_box (av_fs 1 rfl)) (av_fs 1 rfl)⟩,
    .inl ⟨wants_guard true rfl rfl rfl (av_bool (beq_self_eq_true _) (av_rs 5 rfl rfl)), does_call (r_of y (lle hy (by decide))) rfl hb_collator_collatorref01_Of rfl rfl rfl rfl ⟨(ar_tmp (av_rs 11 rfl rfl)), trivial⟩⟩,
    .inl ⟨wants_guard true rfl rfl rfl (av_bool (beq_self_eq_true _) (av_rs 5 rfl rfl)), does_call (w_make x y (lle hx (by decide)) (lle hy (by decide))) rfl hb_collator_collatorref02_Make rfl rfl rfl rfl ⟨(ar_tmp (av_rs 10 rfl rfl)), (ar_tmp (av_rs 12 rfl rfl)), trivial⟩⟩,
    .inl ⟨wants_guard true rfl rfl rfl (av_bool (beq_self_eq_true _) (av_rs 5 rfl rfl)), does_call (w_form (Rat.divInt x y) (LR.le (LR.div hx hy (by decide)) (by decide))) rfl hb_collator_collatorref02_Form rfl rfl rfl rfl ⟨(ar_tmp (av_rs 13 rfl rfl)), trivial⟩⟩,
    .inl ⟨wants_guard true rfl rfl rfl (av_bool (beq_self_eq_true _) (av_rs 5 rfl rfl)), does_call (w_same1 (Rat.divInt x y) (LR.le (LR.div hx hy (by decide)) (by decide))) rfl hb_collator_collatorref02_Same rfl rfl rfl rfl ⟨(ar_tmp (av_rs 8 rfl rfl)), (ar_tmp (av_rs 14 rfl rfl)), trivial⟩⟩,
    .inl ⟨wants_plain rfl, does_pick true _ _ _ rfl rfl rfl rfl rfl (ar_tmp (av_bool (beq_self_eq_true _) (av_rs 5 rfl rfl))) (ar_tmp (av_rs 15 rfl rfl))⟩,
    .inl ⟨wants_plain rfl, does_move _ (.inl rfl) rfl rfl rfl rfl (ar_tmp (av_rs 16 rfl rfl))⟩,
    .inl ⟨wants_guard true rfl rfl rfl (av_rs 17 rfl rfl), does_loadAgg _ ty_agg_api_Int rfl rfl rfl rfl rfl rfl (pt_box (av_fs 0 rfl)) (av_fs 0 rfl)⟩,
    .inl ⟨wants_guard true rfl rfl rfl (av_rs 17 rfl rfl), does_call (q_of x (lle hx (by decide))) rfl hb_collator_frac_Of rfl rfl rfl rfl ⟨(ar_tmp (av_rs 18 rfl rfl)), trivial⟩⟩,
    .inl ⟨wants_guard true rfl rfl rfl (av_rs 17 rfl rfl), does_loadAgg _ ty_agg_api_Int rfl rfl rfl rfl rfl rfl (pt_box (av_fs 0 rfl)) (av_fs 0 rfl)⟩,
    .inl ⟨wants_guard true rfl rfl rfl (av_rs 17 rfl rfl), does_build [Bz 0, Dz 0, Bz 0, Dz 0] ty_zero_api_Frac ty_pl_api_Frac rfl rfl rfl rfl rfl z_frac (.cons 0 [Bz x, Dz x] rfl rfl (ar_cells_agg (ar_tmp (av_rs 20 rfl rfl))) (.nil _))⟩,
    .inl ⟨wants_guard true rfl rfl rfl (av_rs 17 rfl rfl), does_call (w_sameInt x (lle hx (by decide))) rfl hb_collator_collatorref02_Same rfl rfl rfl rfl ⟨(ar_tmp (av_rs 19 rfl rfl)), (ar_tmp (av_rs 21 rfl rfl)), trivial⟩⟩,
    .inl ⟨wants_plain rfl, does_pick true _ _ _ rfl rfl rfl rfl rfl (ar_tmp (av_rs 17 rfl rfl)) (ar_tmp (av_rs 22 rfl rfl))⟩,
    .inl ⟨wants_plain rfl, does_move _ (.inr rfl) rfl rfl rfl rfl (ar_tmp (av_rs 23 rfl rfl))⟩,
    trivial⟩ ?_
  refine nx_sub (fs' := [.slot 6 (VP.bool true)]) [28] rfl ?_
  refine nx_then ?_
  refine t_ret ?_
  exact rt_one rfl (res_tmp 0 rfl)
set_option maxRecDepth 100000 in
set_option maxHeartbeats 4000000 in
theorem fmk_o (x y : Raw) (hx : x.ok) (hy : y.ok) (ho : [x, y].any oddP = true) (z : FRaw) : Spec Try.prog 13 [(VP.agg [VP.bool x.1, VP.nums .u32 x.2]).p, (VP.agg [VP.bool y.1, VP.nums .u32 y.2]).p, (VP.agg [VP.bool z.1.1, VP.nums .u32 z.1.2, VP.bool z.2.1, VP.nums .u32 z.2.2]).p] (VP.bool true) := by
  refine spec_of (xs := [VP.agg [VP.bool x.1, VP.nums .u32 x.2], VP.agg [VP.bool y.1, VP.nums .u32 y.2], VP.agg [VP.bool z.1.1, VP.nums .u32 z.1.2, VP.bool z.2.1, VP.nums .u32 z.2.2]]) 51 [3, 4, 5] Try.func13 rfl Try.ntmps13 rfl fun w0 => ?_
  refine t_seq ?_
  refine t_region (F := ⟨_, _, _, _⟩) [.slot 0 (VP.agg [VP.bool x.1, VP.nums .u32 x.2]), .slot 1 (VP.agg [VP.bool y.1, VP.nums .u32 y.2]), .slot 2 (VP.agg [VP.bool z.1.1, VP.nums .u32 z.1.2, VP.bool z.2.1, VP.nums .u32 z.2.2])] [] [(0, .box 3 69 [VP.bool x.1, VP.nums .u32 x.2]), (1, .box 4 69 [VP.bool y.1, VP.nums .u32 y.2]), (2, .box 5 100 [VP.bool z.1.1, VP.nums .u32 z.1.2, VP.bool z.2.1, VP.nums .u32 z.2.2]), (3, .slot 6 (VP.bool false))] [0, 1, 2] [] rfl rfl follow rfl ⟨
    .inl ⟨wants_plain rfl, does_box _ rfl rfl rfl rfl rfl (ar_tmp (av_fs 0 rfl))⟩,
    .inl ⟨wants_plain rfl, does_box _ rfl rfl rfl rfl rfl (ar_tmp (av_fs 1 rfl))⟩,
    .inl ⟨wants_plain rfl, does_box _ rfl rfl rfl rfl rfl (ar_tmp (av_fs 2 rfl))⟩,
    .inl ⟨wants_plain rfl, does_move _ (.inr rfl) rfl rfl rfl rfl (ar_const (fun _ => rfl))⟩,
    trivial⟩ ?_
  refine nx_sub (fs' := [.box 3 69 [VP.bool x.1, VP.nums .u32 x.2], .box 4 69 [VP.bool y.1, VP.nums .u32 y.2], .box 5 100 [VP.bool z.1.1, VP.nums .u32 z.1.2, VP.bool z.2.1, VP.nums .u32 z.2.2], .slot 6 (VP.bool false)]) [3, 4, 5, 6] rfl ?_
  refine nx_then ?_
  refine t_seq ?_
  refine t_seq ?_
  refine t_region (F := ⟨_, _, _, _⟩) [.box 3 69 [VP.bool x.1, VP.nums .u32 x.2], .box 4 69 [VP.bool y.1, VP.nums .u32 y.2], .box 5 100 [VP.bool z.1.1, VP.nums .u32 z.1.2, VP.bool z.2.1, VP.nums .u32 z.2.2], .slot 6 (VP.bool false)] [] [(0, .slot 7 (VP.bool true)), (1, .slot 8 (VP.bool false))] [0, 1, 2, 3] [] rfl rfl follow rfl ⟨
    .inl ⟨wants_plain rfl, does_call sp2_spec rfl hb_collator_collatorlaw02_speaks rfl rfl rfl rfl trivial⟩,
    .inl ⟨wants_plain rfl, does_not true _ _ rfl rfl rfl rfl rfl (ar_tmp (av_rs 0 rfl rfl))⟩,
    trivial⟩ ?_
  refine nx_sub (fs' := [.box 3 69 [VP.bool x.1, VP.nums .u32 x.2], .box 4 69 [VP.bool y.1, VP.nums .u32 y.2], .box 5 100 [VP.bool z.1.1, VP.nums .u32 z.1.2, VP.bool z.2.1, VP.nums .u32 z.2.2], .slot 6 (VP.bool false), .slot 8 (VP.bool false)]) [0, 1, 2, 3, 5] rfl ?_
  refine nx_then ?_
  refine t_cond_f 4 rfl ?_
  refine t_skip ?_
  refine nx_then ?_
  refine t_seq ?_
  refine t_seq ?_
  refine t_region (F := ⟨_, _, _, _⟩) [.box 3 69 [VP.bool x.1, VP.nums .u32 x.2], .box 4 69 [VP.bool y.1, VP.nums .u32 y.2], .box 5 100 [VP.bool z.1.1, VP.nums .u32 z.1.2, VP.bool z.2.1, VP.nums .u32 z.2.2], .slot 6 (VP.bool false), .slot 8 (VP.bool false)] [] [(0, .slot 9 (VP.agg [VP.bool x.1, VP.nums .u32 x.2])), (1, .slot 10 (VP.agg [VP.bool y.1, VP.nums .u32 y.2])), (2, .arr 11 69 2 [VP.bool x.1, VP.nums .u32 x.2, VP.bool y.1, VP.nums .u32 y.2]), (3, .slot 12 (VP.bool true)), (4, .slot 13 (VP.bool true)), (5, .slot 14 (VP.undef)), (6, .slot 15 (VP.undef)), (7, .slot 16 (VP.undef)), (8, .slot 17 (VP.undef)), (9, .slot 18 (VP.undef)), (10, .slot 19 (VP.bool true)), (11, .slot 20 (VP.bool true)), (12, .slot 21 (VP.undef)), (13, .slot 22 (VP.undef)), (14, .slot 23 (VP.undef)), (15, .slot 24 (VP.undef)), (16, .slot 25 (VP.undef)), (17, .slot 26 (VP.bool true))] [0, 1, 2, 3, 4] [] rfl rfl follow rfl ⟨
    .inl ⟨wants_plain rfl, does_loadAgg _ ty_agg_api_Int rfl rfl rfl rfl rfl rfl (pt_box (av_fs 0 rfl)) (av_fs 0 rfl)⟩,
    .inl ⟨wants_plain rfl, does_loadAgg _ ty_agg_api_Int rfl rfl rfl rfl rfl rfl (pt_box (av_fs 1 rfl)) (av_fs 1 rfl)⟩,
    .inl ⟨wants_plain rfl, does_buildSlice (sz := 2) [Bz 0, Dz 0, Bz 0, Dz 0] ty_zero_api_Int (by kernel_rfl) (fun w => run_sizeAgg ty_agg_api_Int w) rfl rfl rfl rfl rfl rfl (by kernel_rfl) (fun w => by exact z_int_2 w) (.cons 0 [VP.bool x.1, VP.nums .u32 x.2] rfl rfl (ar_cells_agg (ar_tmp (av_rs 0 rfl rfl))) (.cons 2 [VP.bool y.1, VP.nums .u32 y.2] rfl rfl (ar_cells_agg (ar_tmp (av_rs 1 rfl rfl))) (.nil _)))⟩,
    .inl ⟨wants_plain rfl, does_call (s_odd2 x y hx hy ho) rfl hb_collator_collatorlaw01_Odd rfl rfl rfl rfl ⟨(ar_arr (av_rs 2 rfl rfl)), trivial⟩⟩,
    .inl ⟨wants_plain rfl, does_move _ (.inl rfl) rfl rfl rfl rfl (ar_tmp (av_rs 3 rfl rfl))⟩,
    .inr (skips_guardU true rfl rfl rfl (av_rs 4 rfl rfl) rfl rfl rfl rfl),
    .inr (skips_guardU true rfl rfl rfl (av_rs 4 rfl rfl) rfl rfl rfl rfl),
    .inr (skips_guardU true rfl rfl rfl (av_rs 4 rfl rfl) rfl rfl rfl rfl),
    .inr (skips_guardU true rfl rfl rfl (av_rs 4 rfl rfl) rfl rfl rfl rfl),
    .inr (skips_guardU true rfl rfl rfl (av_rs 4 rfl rfl) rfl rfl rfl rfl),
    .inl ⟨wants_plain rfl, does_pick true _ _ _ rfl rfl rfl rfl rfl (ar_tmp (av_rs 4 rfl rfl)) (ar_const (fun _ => rfl))⟩,
    .inl ⟨wants_plain rfl, does_move _ (.inl rfl) rfl rfl rfl rfl (ar_tmp (av_rs 10 rfl rfl))⟩,
    .inr (skips_guardU true rfl rfl rfl (av_rs 11 rfl rfl) rfl rfl rfl rfl),
    .inr (skips_guardU true rfl rfl rfl (av_rs 11 rfl rfl) rfl rfl rfl rfl),
    .inr (skips_guardU true rfl rfl rfl (av_rs 11 rfl rfl) rfl rfl rfl rfl),
    .inr (skips_guardU true rfl rfl rfl (av_rs 11 rfl rfl) rfl rfl rfl rfl),
    .inr (skips_guardU true rfl rfl rfl (av_rs 11 rfl rfl) rfl rfl rfl rfl),
    .inl ⟨wants_plain rfl, does_pick true _ _ _ rfl rfl rfl rfl rfl (ar_tmp (av_rs 11 rfl rfl)) (ar_const (fun _ => rfl))⟩,
    trivial⟩ ?_
  refine nx_sub (fs' := [.box 3 69 [VP.bool x.1, VP.nums .u32 x.2], .box 4 69 [VP.bool y.1, VP.nums .u32 y.2], .box 5 100 [VP.bool z.1.1, VP.nums .u32 z.1.2, VP.bool z.2.1, VP.nums .u32 z.2.2], .slot 6 (VP.bool false), .slot 26 (VP.bool true)]) [0, 1, 2, 3, 22] rfl ?_
  refine nx_then ?_
  refine t_cond_t 4 rfl ?_
  refine t_seq ?_
  refine t_region (F := ⟨_, _, _, _⟩) [.box 3 69 [VP.bool x.1, VP.nums .u32 x.2], .box 4 69 [VP.bool y.1, VP.nums .u32 y.2], .box 5 100 [VP.bool z.1.1, VP.nums .u32 z.1.2, VP.bool z.2.1, VP.nums .u32 z.2.2], .slot 26 (VP.bool true)] [(0, .slot 6 (VP.bool false))] [(0, .slot 6 (VP.bool true))] [0, 1, 2, 4] [3] rfl rfl follow rfl ⟨
    .inl ⟨wants_plain rfl, does_move _ (.inr rfl) rfl rfl rfl rfl (ar_const (fun _ => rfl))⟩,
    trivial⟩ ?_
  refine nx_sub (fs' := [.box 3 69 [VP.bool x.1, VP.nums .u32 x.2], .box 4 69 [VP.bool y.1, VP.nums .u32 y.2], .box 5 100 [VP.bool z.1.1, VP.nums .u32 z.1.2, VP.bool z.2.1, VP.nums .u32 z.2.2], .slot 6 (VP.bool true)]) [0, 1, 2, 4] rfl ?_
  refine nx_then ?_
  refine t_ret ?_
  refine rt_then ?_
  exact rt_one rfl (res_tmp 3 rfl)
set_option maxRecDepth 100000 in
set_option maxHeartbeats 4000000 in
theorem fmk_1 (x y : Int) (hx : L x ≤ 10) (hy : L y ≤ 10) (z : FRaw) (h1 : 8 < z.1.2.length) : Spec Try.prog 13 [(INT x).p, (INT y).p, (VP.agg [VP.bool z.1.1, VP.nums .u32 z.1.2, VP.bool z.2.1, VP.nums .u32 z.2.2]).p] (VP.bool true) := by
  refine spec_of (xs := [INT x, INT y, VP.agg [VP.bool z.1.1, VP.nums .u32 z.1.2, VP.bool z.2.1, VP.nums .u32 z.2.2]]) 51 [3, 4, 5] Try.func13 rfl Try.ntmps13 rfl fun w0 => ?_
  refine t_seq ?_
  refine t_region (F := ⟨_, _, _, _⟩) [.slot 0 (INT x), .slot 1 (INT y), .slot 2 (VP.agg [VP.bool z.1.1, VP.nums .u32 z.1.2, VP.bool z.2.1, VP.nums .u32 z.2.2])] [] [(0, .box 3 69 [Bz x, Dz x]), (1, .box 4 69 [Bz y, Dz y]), (2, .box 5 100 [VP.bool z.1.1, VP.nums .u32 z.1.2, VP.bool z.2.1, VP.nums .u32 z.2.2]), (3, .slot 6 (VP.bool false))] [0, 1, 2] [] rfl rfl follow rfl ⟨
    .inl ⟨wants_plain rfl, does_box _ rfl rfl rfl rfl rfl (ar_tmp (av_fs 0 rfl))⟩,
    .inl ⟨wants_plain rfl, does_box _ rfl rfl rfl rfl rfl (ar_tmp (av_fs 1 rfl))⟩,
    .inl ⟨wants_plain rfl, does_box _ rfl rfl rfl rfl rfl (ar_tmp (av_fs 2 rfl))⟩,
    .inl ⟨wants_plain rfl, does_move _ (.inr rfl) rfl rfl rfl rfl (ar_const (fun _ => rfl))⟩,
    trivial⟩ ?_
  refine nx_sub (fs' := [.box 3 69 [Bz x, Dz x], .box 4 69 [Bz y, Dz y], .box 5 100 [VP.bool z.1.1, VP.nums .u32 z.1.2, VP.bool z.2.1, VP.nums .u32 z.2.2], .slot 6 (VP.bool false)]) [3, 4, 5, 6] rfl ?_
  refine nx_then ?_
  refine t_seq ?_
  refine t_seq ?_
  refine t_region (F := ⟨_, _, _, _⟩) [.box 3 69 [Bz x, Dz x], .box 4 69 [Bz y, Dz y], .box 5 100 [VP.bool z.1.1, VP.nums .u32 z.1.2, VP.bool z.2.1, VP.nums .u32 z.2.2], .slot 6 (VP.bool false)] [] [(0, .slot 7 (VP.bool true)), (1, .slot 8 (VP.bool false))] [0, 1, 2, 3] [] rfl rfl follow rfl ⟨
    .inl ⟨wants_plain rfl, does_call sp2_spec rfl hb_collator_collatorlaw02_speaks rfl rfl rfl rfl trivial⟩,
    .inl ⟨wants_plain rfl, does_not true _ _ rfl rfl rfl rfl rfl (ar_tmp (av_rs 0 rfl rfl))⟩,
    trivial⟩ ?_
  refine nx_sub (fs' := [.box 3 69 [Bz x, Dz x], .box 4 69 [Bz y, Dz y], .box 5 100 [VP.bool z.1.1, VP.nums .u32 z.1.2, VP.bool z.2.1, VP.nums .u32 z.2.2], .slot 6 (VP.bool false), .slot 8 (VP.bool false)]) [0, 1, 2, 3, 5] rfl ?_
  refine nx_then ?_
  refine t_cond_f 4 rfl ?_
  refine t_skip ?_
  refine nx_then ?_
  refine t_seq ?_
  refine t_seq ?_
  refine t_region (F := ⟨_, _, _, _⟩) [.box 3 69 [Bz x, Dz x], .box 4 69 [Bz y, Dz y], .box 5 100 [VP.bool z.1.1, VP.nums .u32 z.1.2, VP.bool z.2.1, VP.nums .u32 z.2.2], .slot 6 (VP.bool false), .slot 8 (VP.bool false)] [] [(0, .slot 9 (INT x)), (1, .slot 10 (INT y)), (2, .arr 11 69 2 [Bz x, Dz x, Bz y, Dz y]), (3, .slot 12 (VP.bool false)), (4, .slot 13 (VP.bool false)), (5, .fp 14 5 0), (6, .fp 15 5 1), (7, .slot 16 (VP.nums .u32 z.1.2)), (8, .slot 17 (VP.int .i64 (((z.1.2).length : Nat) : Int))), (9, .slot 18 (VP.bool (decide ((((z.1.2).length : Nat) : Int) > 8)))), (10, .slot 19 (VP.bool (decide ((((z.1.2).length : Nat) : Int) > 8)))), (11, .slot 20 (VP.bool (decide ((((z.1.2).length : Nat) : Int) > 8)))), (12, .slot 21 (VP.undef)), (13, .slot 22 (VP.undef)), (14, .slot 23 (VP.undef)), (15, .slot 24 (VP.undef)), (16, .slot 25 (VP.undef)), (17, .slot 26 (VP.bool true))] [0, 1, 2, 3, 4] [] rfl rfl follow rfl ⟨
    .inl ⟨wants_plain rfl, does_loadAgg _ ty_agg_api_Int rfl rfl rfl rfl rfl rfl (pt_box (av_fs 0 rfl)) (av_fs 0 rfl)⟩,
    .inl ⟨wants_plain rfl, does_loadAgg _ ty_agg_api_Int rfl rfl rfl rfl rfl rfl (pt_box (av_fs 1 rfl)) (av_fs 1 rfl)⟩,
    .inl ⟨wants_plain rfl, does_buildSlice (sz := 2) [Bz 0, Dz 0, Bz 0, Dz 0] ty_zero_api_Int (by kernel_rfl) (fun w => run_sizeAgg ty_agg_api_Int w) rfl rfl rfl rfl rfl rfl (by kernel_rfl) (fun w => by exact z_int_2 w) (.cons 0 [Bz x, Dz x] rfl rfl (ar_cells_agg (ar_tmp (av_rs 0 rfl rfl))) (.cons 2 [Bz y, Dz y] rfl rfl (ar_cells_agg (ar_tmp (av_rs 1 rfl rfl))) (.nil _)))⟩,
    .inl ⟨wants_plain rfl, does_call (s_even2 x y hx hy) rfl hb_collator_collatorlaw01_Odd rfl rfl rfl rfl ⟨(ar_arr (av_rs 2 rfl rfl)), trivial⟩⟩,
    .inl ⟨wants_plain rfl, does_move _ (.inl rfl) rfl rfl rfl rfl (ar_tmp (av_rs 3 rfl rfl))⟩,
    .inl ⟨wants_guard false rfl rfl rfl (av_rs 4 rfl rfl), does_field _ _ _ 0 ty_f0_api_Frac rfl rfl rfl rfl rfl rfl rfl (pt_box (av_fs 2 rfl))⟩,
    .inl ⟨wants_guard false rfl rfl rfl (av_rs 4 rfl rfl), does_field _ _ _ 1 ty_f1_api_Int rfl rfl rfl rfl rfl rfl rfl (pt_fp (av_rs 5 rfl rfl))⟩,
    .inl ⟨wants_guard false rfl rfl rfl (av_rs 4 rfl rfl), does_loadOne _ ty_one___uint32 rfl rfl rfl rfl rfl rfl (pt_fp (av_rs 6 rfl rfl)) (av_fs 2 rfl)⟩,
    .inl ⟨wants_guard false rfl rfl rfl (av_rs 4 rfl rfl), does_len _ _ (by kernel_rfl) rfl rfl rfl rfl rfl (ar_tmp (av_rs 7 rfl rfl))⟩,
    .inl ⟨wants_guard false rfl rfl rfl (av_rs 4 rfl rfl), does_cmp (m := (((z.1.2).length : Nat) : Int)) (n := 8) _ _ _ _ _ rfl rfl rfl rfl rfl rfl .i64 (ar_tmp (av_rs 8 rfl rfl)) (ar_const (fun _ => rfl))⟩,
    .inl ⟨wants_plain rfl, does_pick false _ _ _ rfl rfl rfl rfl rfl (ar_tmp (av_rs 4 rfl rfl)) (ar_tmp (av_rs 9 rfl rfl))⟩,
    .inl ⟨wants_plain rfl, does_move _ (.inl rfl) rfl rfl rfl rfl (ar_tmp (av_rs 10 rfl rfl))⟩,
    .inr (skips_guardU true rfl rfl rfl (av_bool (decide_eq_true (by omega)) (av_rs 11 rfl rfl)) rfl rfl rfl rfl),
    .inr (skips_guardU true rfl rfl rfl (av_bool (decide_eq_true (by omega)) (av_rs 11 rfl rfl)) rfl rfl rfl rfl),
    .inr (skips_guardU true rfl rfl rfl (av_bool (decide_eq_true (by omega)) (av_rs 11 rfl rfl)) rfl rfl rfl rfl),
    .inr (skips_guardU true rfl rfl rfl (av_bool (decide_eq_true (by omega)) (av_rs 11 rfl rfl)) rfl rfl rfl rfl),
    .inr (skips_guardU true rfl rfl rfl (av_bool (decide_eq_true (by omega)) (av_rs 11 rfl rfl)) rfl rfl rfl rfl),
    .inl ⟨wants_plain rfl, does_pick true _ _ _ rfl rfl rfl rfl rfl (ar_tmp (av_bool (decide_eq_true (by omega)) (av_rs 11 rfl rfl))) (ar_const (fun _ => rfl))⟩,
    trivial⟩ ?_
  refine nx_sub (fs' := [.box 3 69 [Bz x, Dz x], .box 4 69 [Bz y, Dz y], .box 5 100 [VP.bool z.1.1, VP.nums .u32 z.1.2, VP.bool z.2.1, VP.nums .u32 z.2.2], .slot 6 (VP.bool false), .slot 26 (VP.bool true)]) [0, 1, 2, 3, 22] rfl ?_
  refine nx_then ?_
  refine t_cond_t 4 rfl ?_
  refine t_seq ?_
  refine t_region (F := ⟨_, _, _, _⟩) [.box 3 69 [Bz x, Dz x], .box 4 69 [Bz y, Dz y], .box 5 100 [VP.bool z.1.1, VP.nums .u32 z.1.2, VP.bool z.2.1, VP.nums .u32 z.2.2], .slot 26 (VP.bool true)] [(0, .slot 6 (VP.bool false))] [(0, .slot 6 (VP.bool true))] [0, 1, 2, 4] [3] rfl rfl follow rfl ⟨
    .inl ⟨wants_plain rfl, does_move _ (.inr rfl) rfl rfl rfl rfl (ar_const (fun _ => rfl))⟩,
    trivial⟩ ?_
  refine nx_sub (fs' := [.box 3 69 [Bz x, Dz x], .box 4 69 [Bz y, Dz y], .box 5 100 [VP.bool z.1.1, VP.nums .u32 z.1.2, VP.bool z.2.1, VP.nums .u32 z.2.2], .slot 6 (VP.bool true)]) [0, 1, 2, 4] rfl ?_
  refine nx_then ?_
  refine t_ret ?_
  refine rt_then ?_
  exact rt_one rfl (res_tmp 3 rfl)
set_option maxRecDepth 100000 in
set_option maxHeartbeats 4000000 in
theorem fmk_2 (x y : Int) (hx : L x ≤ 10) (hy : L y ≤ 10) (z : FRaw) (h1 : z.1.2.length ≤ 8) (h2 : 8 < z.2.2.length) : Spec Try.prog 13 [(INT x).p, (INT y).p, (VP.agg [VP.bool z.1.1, VP.nums .u32 z.1.2, VP.bool z.2.1, VP.nums .u32 z.2.2]).p] (VP.bool true) := by
  refine spec_of (xs := [INT x, INT y, VP.agg [VP.bool z.1.1, VP.nums .u32 z.1.2, VP.bool z.2.1, VP.nums .u32 z.2.2]]) 51 [3, 4, 5] Try.func13 rfl Try.ntmps13 rfl fun w0 => ?_
  refine t_seq ?_
  refine t_region (F := ⟨_, _, _, _⟩) [.slot 0 (INT x), .slot 1 (INT y), .slot 2 (VP.agg [VP.bool z.1.1, VP.nums .u32 z.1.2, VP.bool z.2.1, VP.nums .u32 z.2.2])] [] [(0, .box 3 69 [Bz x, Dz x]), (1, .box 4 69 [Bz y, Dz y]), (2, .box 5 100 [VP.bool z.1.1, VP.nums .u32 z.1.2, VP.bool z.2.1, VP.nums .u32 z.2.2]), (3, .slot 6 (VP.bool false))] [0, 1, 2] [] rfl rfl follow rfl ⟨
    .inl ⟨wants_plain rfl, does_box _ rfl rfl rfl rfl rfl (ar_tmp (av_fs 0 rfl))⟩,
    .inl ⟨wants_plain rfl, does_box _ rfl rfl rfl rfl rfl (ar_tmp (av_fs 1 rfl))⟩,
    .inl ⟨wants_plain rfl, does_box _ rfl rfl rfl rfl rfl (ar_tmp (av_fs 2 rfl))⟩,
    .inl ⟨wants_plain rfl, does_move _ (.inr rfl) rfl rfl rfl rfl (ar_const (fun _ => rfl))⟩,
    trivial⟩ ?_
  refine nx_sub (fs' := [.box 3 69 [Bz x, Dz x], .box 4 69 [Bz y, Dz y], .box 5 100 [VP.bool z.1.1, VP.nums .u32 z.1.2, VP.bool z.2.1, VP.nums .u32 z.2.2], .slot 6 (VP.bool false)]) [3, 4, 5, 6] rfl ?_
  refine nx_then ?_
  refine t_seq ?_
  refine t_seq ?_
  refine t_region (F := ⟨_, _, _, _⟩) [.box 3 69 [Bz x, Dz x], .box 4 69 [Bz y, Dz y], .box 5 100 [VP.bool z.1.1, VP.nums .u32 z.1.2, VP.bool z.2.1, VP.nums .u32 z.2.2], .slot 6 (VP.bool false)] [] [(0, .slot 7 (VP.bool true)), (1, .slot 8 (VP.bool false))] [0, 1, 2, 3] [] rfl rfl follow rfl ⟨
    .inl ⟨wants_plain rfl, does_call sp2_spec rfl hb_collator_collatorlaw02_speaks rfl rfl rfl rfl trivial⟩,
    .inl ⟨wants_plain rfl, does_not true _ _ rfl rfl rfl rfl rfl (ar_tmp (av_rs 0 rfl rfl))⟩,
    trivial⟩ ?_
  refine nx_sub (fs' := [.box 3 69 [Bz x, Dz x], .box 4 69 [Bz y, Dz y], .box 5 100 [VP.bool z.1.1, VP.nums .u32 z.1.2, VP.bool z.2.1, VP.nums .u32 z.2.2], .slot 6 (VP.bool false), .slot 8 (VP.bool false)]) [0, 1, 2, 3, 5] rfl ?_
  refine nx_then ?_
  refine t_cond_f 4 rfl ?_
  refine t_skip ?_
  refine nx_then ?_
  refine t_seq ?_
  refine t_seq ?_
  refine t_region (F := ⟨_, _, _, _⟩) [.box 3 69 [Bz x, Dz x], .box 4 69 [Bz y, Dz y], .box 5 100 [VP.bool z.1.1, VP.nums .u32 z.1.2, VP.bool z.2.1, VP.nums .u32 z.2.2], .slot 6 (VP.bool false), .slot 8 (VP.bool false)] [] [(0, .slot 9 (INT x)), (1, .slot 10 (INT y)), (2, .arr 11 69 2 [Bz x, Dz x, Bz y, Dz y]), (3, .slot 12 (VP.bool false)), (4, .slot 13 (VP.bool false)), (5, .fp 14 5 0), (6, .fp 15 5 1), (7, .slot 16 (VP.nums .u32 z.1.2)), (8, .slot 17 (VP.int .i64 (((z.1.2).length : Nat) : Int))), (9, .slot 18 (VP.bool (decide ((((z.1.2).length : Nat) : Int) > 8)))), (10, .slot 19 (VP.bool (decide ((((z.1.2).length : Nat) : Int) > 8)))), (11, .slot 20 (VP.bool (decide ((((z.1.2).length : Nat) : Int) > 8)))), (12, .fp 21 5 2), (13, .fp 22 5 3), (14, .slot 23 (VP.nums .u32 z.2.2)), (15, .slot 24 (VP.int .i64 (((z.2.2).length : Nat) : Int))), (16, .slot 25 (VP.bool (decide ((((z.2.2).length : Nat) : Int) > 8)))), (17, .slot 26 (VP.bool (decide ((((z.2.2).length : Nat) : Int) > 8))))] [0, 1, 2, 3, 4] [] rfl rfl follow rfl ⟨
    .inl ⟨wants_plain rfl, does_loadAgg _ ty_agg_api_Int rfl rfl rfl rfl rfl rfl (pt_box (av_fs 0 rfl)) (av_fs 0 rfl)⟩,
    .inl ⟨wants_plain rfl, does_loadAgg _ ty_agg_api_Int rfl rfl rfl rfl rfl rfl (pt_box (av_fs 1 rfl)) (av_fs 1 rfl)⟩,
    .inl ⟨wants_plain rfl, does_buildSlice (sz := 2) [Bz 0, Dz 0, Bz 0, Dz 0] ty_zero_api_Int (by kernel_rfl) (fun w => run_sizeAgg ty_agg_api_Int w) rfl rfl rfl rfl rfl rfl (by kernel_rfl) (fun w => by exact z_int_2 w) (.cons 0 [Bz x, Dz x] rfl rfl (ar_cells_agg (ar_tmp (av_rs 0 rfl rfl))) (.cons 2 [Bz y, Dz y] rfl rfl (ar_cells_agg (ar_tmp (av_rs 1 rfl rfl))) (.nil _)))⟩,
    .inl ⟨wants_plain rfl, does_call (s_even2 x y hx hy) rfl hb_collator_collatorlaw01_Odd rfl rfl rfl rfl ⟨(ar_arr (av_rs 2 rfl rfl)), trivial⟩⟩,
    .inl ⟨wants_plain rfl, does_move _ (.inl rfl) rfl rfl rfl rfl (ar_tmp (av_rs 3 rfl rfl))⟩,
    .inl ⟨wants_guard false rfl rfl rfl (av_rs 4 rfl rfl), does_field _ _ _ 0 ty_f0_api_Frac rfl rfl rfl rfl rfl rfl rfl (pt_box (av_fs 2 rfl))⟩,
    .inl ⟨wants_guard false rfl rfl rfl (av_rs 4 rfl rfl), does_field _ _ _ 1 ty_f1_api_Int rfl rfl rfl rfl rfl rfl rfl (pt_fp (av_rs 5 rfl rfl))⟩,
    .inl ⟨wants_guard false rfl rfl rfl (av_rs 4 rfl rfl), does_loadOne _ ty_one___uint32 rfl rfl rfl rfl rfl rfl (pt_fp (av_rs 6 rfl rfl)) (av_fs 2 rfl)⟩,
    .inl ⟨wants_guard false rfl rfl rfl (av_rs 4 rfl rfl), does_len _ _ (by kernel_rfl) rfl rfl rfl rfl rfl (ar_tmp (av_rs 7 rfl rfl))⟩,
    .inl ⟨wants_guard false rfl rfl rfl (av_rs 4 rfl rfl), does_cmp (m := (((z.1.2).length : Nat) : Int)) (n := 8) _ _ _ _ _ rfl rfl rfl rfl rfl rfl .i64 (ar_tmp (av_rs 8 rfl rfl)) (ar_const (fun _ => rfl))⟩,
    .inl ⟨wants_plain rfl, does_pick false _ _ _ rfl rfl rfl rfl rfl (ar_tmp (av_rs 4 rfl rfl)) (ar_tmp (av_rs 9 rfl rfl))⟩,
    .inl ⟨wants_plain rfl, does_move _ (.inl rfl) rfl rfl rfl rfl (ar_tmp (av_rs 10 rfl rfl))⟩,
    .inl ⟨wants_guard false rfl rfl rfl (av_bool (decide_eq_false (by omega)) (av_rs 11 rfl rfl)), does_field _ _ _ 2 ty_f1_api_Frac rfl rfl rfl rfl rfl rfl rfl (pt_box (av_fs 2 rfl))⟩,
    .inl ⟨wants_guard false rfl rfl rfl (av_bool (decide_eq_false (by omega)) (av_rs 11 rfl rfl)), does_field _ _ _ 1 ty_f1_api_Int rfl rfl rfl rfl rfl rfl rfl (pt_fp (av_rs 12 rfl rfl))⟩,
    .inl ⟨wants_guard false rfl rfl rfl (av_bool (decide_eq_false (by omega)) (av_rs 11 rfl rfl)), does_loadOne _ ty_one___uint32 rfl rfl rfl rfl rfl rfl (pt_fp (av_rs 13 rfl rfl)) (av_fs 2 rfl)⟩,
    .inl ⟨wants_guard false rfl rfl rfl (av_bool (decide_eq_false (by omega)) (av_rs 11 rfl rfl)), does_len _ _ (by kernel_rfl) rfl rfl rfl rfl rfl (ar_tmp (av_rs 14 rfl rfl))⟩,
    .inl ⟨wants_guard false rfl rfl rfl (av_bool (decide_eq_false (by omega)) (av_rs 11 rfl rfl)), does_cmp (m := (((z.2.2).length : Nat) : Int)) (n := 8) _ _ _ _ _ rfl rfl rfl rfl rfl rfl .i64 (ar_tmp (av_rs 15 rfl rfl)) (ar_const (fun _ => rfl))⟩,
    .inl ⟨wants_plain rfl, does_pick false _ _ _ rfl rfl rfl rfl rfl (ar_tmp (av_bool (decide_eq_false (by omega)) (av_rs 11 rfl rfl))) (ar_tmp (av_rs 16 rfl rfl))⟩,
    trivial⟩ ?_
  refine nx_sub (fs' := [.box 3 69 [Bz x, Dz x], .box 4 69 [Bz y, Dz y], .box 5 100 [VP.bool z.1.1, VP.nums .u32 z.1.2, VP.bool z.2.1, VP.nums .u32 z.2.2], .slot 6 (VP.bool false), .slot 26 (VP.bool (decide ((((z.2.2).length : Nat) : Int) > 8)))]) [0, 1, 2, 3, 22] rfl ?_
  refine nx_then ?_
  refine t_cond_te 4 rfl (decide_eq_true (by omega)) ?_
  refine t_seq ?_
  refine t_region (F := ⟨_, _, _, _⟩) [.box 3 69 [Bz x, Dz x], .box 4 69 [Bz y, Dz y], .box 5 100 [VP.bool z.1.1, VP.nums .u32 z.1.2, VP.bool z.2.1, VP.nums .u32 z.2.2], .slot 26 (VP.bool (decide ((((z.2.2).length : Nat) : Int) > 8)))] [(0, .slot 6 (VP.bool false))] [(0, .slot 6 (VP.bool true))] [0, 1, 2, 4] [3] rfl rfl follow rfl ⟨
    .inl ⟨wants_plain rfl, does_move _ (.inr rfl) rfl rfl rfl rfl (ar_const (fun _ => rfl))⟩,
    trivial⟩ ?_
  refine nx_sub (fs' := [.box 3 69 [Bz x, Dz x], .box 4 69 [Bz y, Dz y], .box 5 100 [VP.bool z.1.1, VP.nums .u32 z.1.2, VP.bool z.2.1, VP.nums .u32 z.2.2], .slot 6 (VP.bool true)]) [0, 1, 2, 4] rfl ?_
  refine nx_then ?_
  refine t_ret ?_
  refine rt_then ?_
  exact rt_one rfl (res_tmp 3 rfl)
theorem fmakes_all (W : World) (v1 v2 v3 : Value) (x y : Raw) (z : FRaw) (hx : x.ok) (hy : y.ok) (hz : z.ok) (p1 : (RAW x).p v1 W) (p2 : (RAW y).p v2 W) (p3 : (FRAW z).p v3 W) :
    Calls Try.prog 13 #[v1, v2, v3] W fun e W' => e = .returned (.bool true) ∧ Ext W W' := by
  cases ho : [x, y].any oddP
  · have hall := List.any_eq_false.1 ho
    obtain ⟨z1, l1, rfl⟩ := raw_right (by simpa using hall x (by simp))
    obtain ⟨z2, l2, rfl⟩ := raw_right (by simpa using hall y (by simp))
    by_cases h1 : 8 < z.1.2.length
    · exact ((fmk_1 z1 z2 l1 l2 z h1).call3 p1 p2 p3).mono fun e w' h => true_of h
    · by_cases h2 : 8 < z.2.2.length
      · exact ((fmk_2 z1 z2 l1 l2 z (by omega) h2).call3 p1 p2 p3).mono fun e w' h => true_of h
      · obtain ⟨b, HF, HG⟩ := right_both z hz (by omega) (by omega)
        exact ((fmk_even z1 z2 l1 l2 z b HF HG (by omega) (by omega)).call3 p1 p2 p3).mono fun e w' h => true_of h
  · exact ((fmk_o x y hx hy ho z).call3 p1 p2 p3).mono fun e w' h => true_of h
end Go.Proofs.Ytogodjiemgilaaa

/- FracMakes: for all that comes in the law returns true, and what came in reads as it did. No condition. -/
namespace Go.Proofs.Ytogodjiemgilaaa
open Go.ChangeShapes Go.WideShapes Go.ChangeAt Go.RowKit

theorem fracMakes_own : ownKnob Try.prog.godebug = none := by kernel_rfl
theorem fracMakes_laid : laidOutB Try.prog = true := by kernel_rfl

theorem fracMakes_args (W : World) (args : Array Value) (hn : args.size = 3) (h : ∀ (j : Nat) (t : TypeId) (v : Value), (#[69, 69, 100] : Array TypeId)[j]? = some t → args[j]? = some v → Arg Try.prog W t v) :
    Calls Try.prog 13 args W fun e W' => e = .returned (.bool true) ∧ Ext W W' := by
  obtain ⟨l⟩ := args
  match l, hn with
  | [v0, v1, v2], _ =>
    obtain ⟨x, hx, p1⟩ := arg_raw (h 0 _ v0 rfl rfl)
    obtain ⟨y, hy, p2⟩ := arg_raw (h 1 _ v1 rfl rfl)
    obtain ⟨z, hz, p3⟩ := arg_frac (h 2 _ v2 rfl rfl)
    exact fmakes_all W v0 v1 v2 x y z hx hy hz p1 p2 p3

set_option maxRecDepth 100000 in
theorem fracMakes_lifted (os : Os) (started : os.Started) (H : Type) (enc : TypeId × Value → H) :
    ReturnsInHanded {} Try.checked os 13 .any (Rows.fracMakesSpec.pre6 enc Try.prog Try.f13 Rows.fracMakesRow.domain false) (Rows.fracMakesSpec.post enc Try.prog Try.f13 false true false false) :=
  law_lifted (C := Try.checked) 4 fracMakes_own started (by kernel_rfl) Try.func13 fracMakes_laid
      (by rw [Try.params13]; exact (List.forall_mem_cons.2 ⟨⟨by kernel_rfl, of_decide_eq_true (by kernel_rfl)⟩, (List.forall_mem_cons.2 ⟨⟨by kernel_rfl, of_decide_eq_true (by kernel_rfl)⟩, (List.forall_mem_cons.2 ⟨⟨by kernel_rfl, of_decide_eq_true (by kernel_rfl)⟩, (fun _ h => by cases h)⟩)⟩)⟩))
      (by rw [Try.params13]; exact (List.forall_mem_cons.2 ⟨(by show Served Try.prog _; unfold Served; rw [Try.underlying69]; trivial), (List.forall_mem_cons.2 ⟨(by show Served Try.prog _; unfold Served; rw [Try.underlying69]; trivial), (List.forall_mem_cons.2 ⟨(by show Served Try.prog _; unfold Served; rw [Try.underlying100]; trivial), (fun _ h => by cases h)⟩)⟩)⟩))
      rfl Try.underlying4 rfl
      (fun ds hd => by match ds, hd with | [_, _, _], _ => rfl)
      (ChangeSpec.witness6 (enc := enc) (C := Try.checked) false ⟨#[], #[.agg #[.bool false, .slice none 0 0], .agg #[.bool false, .slice none 0 0], .agg #[.bool false, .slice none 0 0, .bool false, .slice none 0 0]], []⟩ 8 (by kernel_rfl) (by kernel_rfl) (by kernel_rfl) (by kernel_rfl))
      (fun W args hn h => fracMakes_args W args (by rw [Try.params13] at hn; exact hn) (by rw [Try.params13] at h; exact h))

theorem fracMakes_over : Rows.fracMakesRow.holds Try.pinned (OpenSpec.ofChange Rows.fracMakesSpec) :=
  OpenClaim.holds_of_wide 13 Try.f13 rfl rfl rfl rfl rfl rfl rfl ⟨rfl, rfl, rfl, rfl, rfl⟩ rfl rfl rfl rfl rfl (by kernel_rfl) Try.func13 (by kernel_rfl)
    (of_decide_eq_true (by kernel_rfl)) (by unfold Func.isWrapper; first | (rw [if_pos (by decide +kernel)]; kernel_rfl) | (rw [if_neg (by decide +kernel)]; exact ⟨rfl, rfl⟩))
    (fun os started H enc _ => fracMakes_lifted os started H enc)

theorem fracMakes_holds : Rows.FracMakesSaid := fracMakes_over
#print axioms fracMakes_holds
end Go.Proofs.Ytogodjiemgilaaa
