/- Part of the proof that a law returns true for all that comes in, and that what came in reads as it did. No condition. -/
import Derived.Test.YtapmngmpomhjmaaRows
import Derived.Test.YtapmngmpomhjmaaMgDagSorts6
/- DagSorts: the walk. -/
namespace Go.Proofs.Ytapmngmpomhjmaa
open Go.RowKit
namespace O

theorem ixf_neg {α : Type} {g : α → Bool} {l : List α} (h : ixf g l < 0) : ∀ x ∈ l, g x = false := by
  unfold ixf at h
  cases hf : l.findIdx? g with
  | some i => rw [hf] at h; simp only at h; omega
  | none => exact List.findIdx?_eq_none_iff.1 hf
theorem ixf_get {α : Type} {g : α → Bool} {l : List α} (h : ¬ ixf g l < 0) : ∃ x, l[(ixf g l).toNat]? = some x ∧ g x = true := by
  unfold ixf at h ⊢
  cases hf : l.findIdx? g with
  | some i =>
    obtain ⟨hi, hg, _⟩ := List.findIdx?_eq_some_iff_getElem.1 hf
    exact ⟨l[i], List.getElem?_eq_getElem hi, hg⟩
  | none => rw [hf] at h; simp only at h; omega
theorem ixf_snoc {α : Type} {g : α → Bool} {l : List α} {x : α} (h : ixf g l < 0) (hx : g x = true) : ixf g (l ++ [x]) = l.length :=
  ixf_hit (k := l.length) (x := x) (fun j y hj hy => by
    rw [List.getElem?_append_left hj] at hy
    exact ixf_neg h y (List.mem_of_getElem? hy)) (by simp) hx
theorem sortIs_self (n : ByteArray) (q : List Int) : sortIs n q ⟨n, q⟩ = true := by unfold sortIs; simp
theorem sortIs_eq {n : ByteArray} {q : List Int} {x : SortD} (h : sortIs n q x = true) : x.name.toList = n.toList ∧ x.args = q := by unfold sortIs at h; simpa using h
theorem lost_more {d : ArD} {q : List Int} {l : List SortD} (h : d.lost q = false) : ({ d with sorts := d.sorts ++ l } : ArD).lost q = false := by
  unfold ArD.lost at h ⊢
  refine List.any_eq_false.2 fun s hs => ?_
  have := List.any_eq_false.1 h s hs
  simp only [Bool.not_eq_true, Bool.not_eq_false', decide_eq_true_eq, List.length_append] at this ⊢
  omega
theorem lost_no {d : ArD} {q : List Int} (h : d.lost q = false) : ∀ s ∈ q, 0 ≤ s ∧ s < d.sorts.length := fun s hs => by
  have := List.any_eq_false.1 h s hs
  simpa using this
theorem sort_again (d : ArD) (n : ByteArray) (q : List Int) : (d.sort n q).sort n q = d.sort n q ∧ (d.sort n q).sortR n q = d.sortR n q ∧ (d.sort n q).sortE q = d.sortE q := by
  rcases Bool.eq_false_or_eq_true (d.lost q) with h | h
  · have := sort_l (n := n) h
    rw [this.1]; exact ⟨this.1, rfl, rfl⟩
  · by_cases h2 : d.at n q < 0
    · obtain ⟨e1, e2, e3⟩ := sort_n h h2
      have h3 : ({ d with sorts := d.sorts ++ [(⟨n, q⟩ : SortD)] } : ArD).at n q = d.sorts.length := ixf_snoc h2 (sortIs_self n q)
      have := sort_o (lost_more (l := [⟨n, q⟩]) h) (by rw [h3]; omega : ¬ ({ d with sorts := d.sorts ++ [(⟨n, q⟩ : SortD)] } : ArD).at n q < 0)
      rw [e1, e2, e3]
      exact ⟨this.1, this.2.1.trans h3, this.2.2⟩
    · have := sort_o h h2
      rw [this.1]; exact ⟨this.1, rfl, rfl⟩
theorem sort_at {d : ArD} {n : ByteArray} {q : List Int} (h : d.sortE q = 0) : ∃ x, (d.sort n q).sorts[(d.sortR n q).toNat]? = some x ∧ 0 ≤ d.sortR n q ∧ x.name.toList = n.toList ∧ x.args = q := by
  rcases Bool.eq_false_or_eq_true (d.lost q) with hl | hl
  · rw [(sort_l (n := n) hl).2.2] at h; cases h
  · by_cases h2 : d.at n q < 0
    · obtain ⟨e1, e2, _⟩ := sort_n hl h2
      rw [e1, e2]
      exact ⟨⟨n, q⟩, by simp, by omega, rfl, rfl⟩
    · obtain ⟨e1, e2, _⟩ := sort_o hl h2
      rw [e1, e2]
      obtain ⟨x, hx, hg⟩ := ixf_get (g := sortIs n q) (l := d.sorts) h2
      exact ⟨x, hx, by have := h2; omega, sortIs_eq hg⟩
/-- sorts as they should be -/
structure SInv (d : ArD) (k : Nat) : Prop where
  ns : d.sorts.length ≤ 2 + k
  nf : d.funs.length ≤ k
  sa : ∀ x ∈ d.sorts, x.args.length ≤ 12
  fa : ∀ x ∈ d.funs, x.args.length ≤ 12
  tm : d.terms = []
  uq : ∀ (i j : Nat) (x y : SortD), i < j → d.sorts[i]? = some x → d.sorts[j]? = some y → sortIs x.name x.args y = false
  lo : ∀ (i : Nat) (x : SortD), d.sorts[i]? = some x → ∀ k ∈ x.args, 0 ≤ k ∧ k < (i : Int)
theorem sinv_new (n : Int) : SInv (newA n) 0 where
  ns := Nat.le_refl _
  nf := Nat.le_refl _
  sa := fun x hx => by
    have hx : x ∈ [boolS, intS] := hx
    simp only [List.mem_cons, List.not_mem_nil, or_false] at hx
    rcases hx with rfl | rfl <;> exact Nat.zero_le _
  fa := fun x hx => by cases hx
  tm := rfl
  uq := fun i j x y h hx hy => by
    have hx : [boolS, intS][i]? = some x := hx
    have hy : [boolS, intS][j]? = some y := hy
    match i, j with
    | 0, 1 => injection hx with hx; injection hy with hy; subst hx hy; decide +kernel
    | 0, 0 => omega
    | i + 1, 0 => omega
    | i + 1, 1 => omega
    | i, j + 2 => simp at hy
  lo := fun i x hx k hk => by
    have hx : [boolS, intS][i]? = some x := hx
    match i with
    | 0 => injection hx with hx; subst hx; cases hk
    | 1 => injection hx with hx; subst hx; cases hk
    | i + 2 => simp at hx
theorem SInv.up {d : ArD} {k : Nat} (h : SInv d k) : SInv d (k + 1) := ⟨by have := h.ns; omega, by have := h.nf; omega, h.sa, h.fa, h.tm, h.uq, h.lo⟩
theorem sinv_sort {d : ArD} {k : Nat} (h : SInv d k) (n : ByteArray) (q : List Int) (hq : q.length ≤ 12) : SInv (d.sort n q) (k + 1) := by
  rcases Bool.eq_false_or_eq_true (d.lost q) with hl | hl
  · rw [(sort_l (n := n) hl).1]; exact h.up
  · by_cases h2 : d.at n q < 0
    · rw [(sort_n hl h2).1]
      refine ⟨by have := h.ns; show (d.sorts ++ [_]).length ≤ _; simp only [List.length_append, List.length_cons, List.length_nil]; omega, by have := h.nf; show d.funs.length ≤ k + 1; omega, fun x hx => ?_, h.fa, h.tm, fun i j x y hij hx hy => ?_, fun i x hx m hm => ?_⟩
      · rcases List.mem_append.1 (show x ∈ d.sorts ++ [_] from hx) with hx | hx
        · exact h.sa x hx
        · rw [List.mem_singleton] at hx; subst hx; exact hq
      · have hx : (d.sorts ++ [(⟨n, q⟩ : SortD)])[i]? = some x := hx
        have hy : (d.sorts ++ [(⟨n, q⟩ : SortD)])[j]? = some y := hy
        have hj := (List.getElem?_eq_some_iff.1 hy).1
        simp only [List.length_append, List.length_cons, List.length_nil] at hj
        rw [List.getElem?_append_left (by omega)] at hx
        by_cases e : j < d.sorts.length
        · rw [List.getElem?_append_left e] at hy; exact h.uq i j x y hij hx hy
        · have e : j = d.sorts.length := by omega
          subst e
          simp at hy
          subst hy
          have := ixf_neg h2 x (List.mem_of_getElem? hx)
          unfold sortIs at this ⊢
          simp only [Bool.and_eq_false_iff, beq_eq_false_iff_ne, ne_eq] at this ⊢
          exact this.imp (fun h => fun e => h e.symm) fun h => fun e => h e.symm
      · have hx : (d.sorts ++ [(⟨n, q⟩ : SortD)])[i]? = some x := hx
        by_cases e : i < d.sorts.length
        · rw [List.getElem?_append_left e] at hx; exact h.lo i x hx m hm
        · have hi := (List.getElem?_eq_some_iff.1 hx).1
          simp only [List.length_append, List.length_cons, List.length_nil] at hi
          have e : i = d.sorts.length := by omega
          subst e
          simp at hx
          subst hx
          have := lost_no hl m hm
          omega
    · rw [(sort_o hl h2).1]; exact h.up
theorem sinv_fun {d : ArD} {k : Nat} (h : SInv d k) (f : FunD) (hq : f.args.length ≤ 12) : SInv (d.fun_ f) (k + 1) := by
  rcases Bool.eq_false_or_eq_true (d.no f) with hl | hl
  · rw [(fun_l hl).1]; exact h.up
  · rw [(fun_n hl).1]
    refine ⟨by have := h.ns; show d.sorts.length ≤ _; omega, by have := h.nf; show (d.funs ++ [f]).length ≤ _; simp only [List.length_append, List.length_cons, List.length_nil]; omega, h.sa, fun x hx => ?_, h.tm, h.uq, h.lo⟩
    rcases List.mem_append.1 (show x ∈ d.funs ++ [_] from hx) with hx | hx
    · exact h.fa x hx
    · rw [List.mem_singleton] at hx; subst hx; exact hq
theorem sort_lo {d : ArD} {k : Nat} (h : SInv d k) {n : ByteArray} {q : List Int} (hq : q.length ≤ 12) (he : d.sortE q = 0) : ∀ m ∈ q, m < d.sortR n q := fun m hm => by
  obtain ⟨x, hx, h0, _, hxa⟩ := sort_at (n := n) he
  have := (sinv_sort h n q hq).lo _ x hx m (hxa ▸ hm)
  omega
theorem fun_funs {d : ArD} {f : FunD} (he : d.funE f = 0) : (d.fun_ f).funs = d.funs ++ [f] ∧ d.funR f = d.funs.length := by
  rcases Bool.eq_false_or_eq_true (d.no f) with hl | hl
  · rw [(fun_l hl).2.2] at he; cases he
  · rw [(fun_n hl).1]; exact ⟨rfl, (fun_n hl).2.1⟩
theorem fun_funsN {d : ArD} {f : FunD} (he : d.funE f ≠ 0) : d.fun_ f = d := by
  rcases Bool.eq_false_or_eq_true (d.no f) with hl | hl
  · exact (fun_l hl).1
  · exact absurd (fun_n hl).2.2 he
theorem sort_funs (d : ArD) (n : ByteArray) (q : List Int) : (d.sort n q).funs = d.funs := by
  unfold ArD.sort
  split
  · rfl
  · split <;> rfl
theorem DagN_hb_collator_collatorlaw06_speaks : hasBody Try.prog 7 = true := by kernel_rfl
theorem DagN_hb_collator_collatorlaw06_Great : hasBody Try.prog 8 = true := by kernel_rfl
theorem DagN_hb_collator_dag_New : hasBody Try.prog 9 = true := by kernel_rfl
theorem DagN_el_fun : Elem Try.prog 55 38 (.agg #[.string (ByteArray.mk #[]), .slice none 0 0, .int .i64 0]) 3 48 := Elem.mk Try.underlying55 (by kernel_rfl) rfl (by decide)
theorem DagN_agg_collatorlaw06_Act : aggTy Try.prog 32 8 = true := by kernel_rfl
theorem DagN_size_collatorlaw06_Act : ∀ w, (sizeOf 32).run Try.prog w = .ok 8 w := run_sizeAgg DagN_agg_collatorlaw06_Act
theorem DagN_zero_collatorlaw06_Act : zeroOf Try.prog 32 [(.int .i64 0), (.string (ByteArray.mk #[])), (.slice none 0 0), (.int .i64 0), (.int .i64 0), (.int .i64 0), (.slice none 0 0), (.string (ByteArray.mk #[]))] := by unfold zeroOf; kernel_rfl
theorem DagN_f_collatorlaw06_Act_0 : fieldAt Try.prog 32 0 0 = true := by kernel_rfl
theorem DagN_one_int : oneTy Try.prog 3 = true := by kernel_rfl
theorem DagN_f_collatorlaw06_Act_1 : fieldAt Try.prog 32 1 1 = true := by kernel_rfl
theorem DagN_one_string : oneTy Try.prog 9 = true := by kernel_rfl
theorem DagN_f_collatorlaw06_Act_2 : fieldAt Try.prog 32 2 2 = true := by kernel_rfl
theorem DagN_one___int : oneTy Try.prog 28 = true := by kernel_rfl
theorem DagN_hb___collator_dag_Arena__Sort : hasBody Try.prog 10 = true := by kernel_rfl
theorem DagN_hb___collator_dag_Arena__Sorts : hasBody Try.prog 21 = true := by kernel_rfl
theorem DagN_agg_api_Sort : aggTy Try.prog 57 2 = true := by kernel_rfl
theorem DagN_size_api_Sort : ∀ w, (sizeOf 57).run Try.prog w = .ok 2 w := run_sizeAgg DagN_agg_api_Sort
theorem DagN_f_api_Sort_0 : fieldAt Try.prog 57 0 0 = true := by kernel_rfl
theorem DagN_f_api_Sort_1 : fieldAt Try.prog 57 1 1 = true := by kernel_rfl
theorem DagN_hb_collator_collatorref06_SameInts : hasBody Try.prog 20 = true := by kernel_rfl
theorem DagN_size_int : ∀ w, (sizeOf 3).run Try.prog w = .ok 1 w := run_sizeOne DagN_one_int
theorem DagN_f_collatorlaw06_Act_3 : fieldAt Try.prog 32 3 3 = true := by kernel_rfl
theorem DagN_zero_api_Fun : zeroOf Try.prog 38 [(.string (ByteArray.mk #[])), (.slice none 0 0), (.int .i64 0)] := by unfold zeroOf; kernel_rfl
theorem DagN_pl_api_Fun : placesOf Try.prog 38 #[(0, 1), (1, 1), (2, 1)] := ⟨_, Try.underlying38, fun w => by kernel_rfl⟩
theorem DagN_agg_api_Fun : aggTy Try.prog 38 3 = true := by kernel_rfl
theorem DagN_size_api_Fun : ∀ w, (sizeOf 38).run Try.prog w = .ok 3 w := run_sizeAgg DagN_agg_api_Fun
theorem DagN_hb___collator_dag_Arena__Fun : hasBody Try.prog 11 = true := by kernel_rfl
theorem DagN_hb___collator_dag_Arena__Funs : hasBody Try.prog 23 = true := by kernel_rfl
theorem DagN_hb_collator_collatorlaw06_alike : hasBody Try.prog 22 = true := by kernel_rfl
theorem DagN_hb___collator_dag_Arena__Len : hasBody Try.prog 12 = true := by kernel_rfl
set_option maxRecDepth 100000 in
set_option maxHeartbeats 4000000 in
theorem dl_DagSorts (l : List ActD) : SpecO Try.prog 6 [.vp (O_act6 l)] [] [] [] (HA.of (VP.bool true)) := by
  refine spec_of 182 Try.func6 rfl Try.ntmps6 rfl fun w0 S0 Z0 Bf => ?_
  refine t_seq ?_
  refine t_region (F := ⟨_, _, _, _, _, _⟩) [.is (.tmp 0) (O_act6 l)] [] [(0, .is (.tmp 2) (VP.bool false))] [] [0] [] [[]] [[]] rfl rfl follow rfl ⟨
    .inl ⟨wants_plain rfl, does_move _ (.inr rfl) rfl rfl rfl rfl (ar_const (fun _ _ => rfl))⟩,
    trivial⟩ ?_
  refine nx_then ?_
  refine t_seq ?_
  refine t_seq ?_
  refine t_region (F := ⟨_, _, _, _, _, _⟩) [.is (.tmp 0) (O_act6 l), .is (.tmp 2) (VP.bool false)] [] [(0, .is (.tmp 19) (VP.bool true)), (1, .is (.tmp 20) (VP.bool false))] [] [0, 1] [] [[], [0]] [[1], []] rfl rfl follow rfl ⟨
    .inl ⟨wants_plain rfl, does_call dl_speaks (fun _ _ _ _ h => h) rfl DagN_hb_collator_collatorlaw06_speaks rfl rfl rfl rfl ar_clo ars_nil trivial⟩,
    .inl ⟨wants_plain rfl, does_not true _ _ rfl rfl rfl rfl rfl (ar_tmp (av_rs 0 0 rfl rfl))⟩,
    trivial⟩ ?_
  refine t_pick [0, 1, 3] rfl ?_
  refine nx_then ?_
  refine t_cond_f 2 rfl ?_
  refine t_skip ?_
  refine nx_then ?_
  refine t_seq ?_
  refine t_seq ?_
  refine t_region (F := ⟨_, _, _, _, _, _⟩) [.is (.tmp 0) (O_act6 l), .is (.tmp 2) (VP.bool false), .is (.tmp 20) (VP.bool false)] [] [(0, .is (.tmp 21) (O_act6 l)), (1, .is (.tmp 22) (VP.bool (greatL l)))] [] [0, 1, 2] [] [[], [0]] [[1], []] rfl rfl follow rfl ⟨
    .inl ⟨wants_plain rfl, does_move _ (.inl rfl) rfl rfl rfl rfl (ar_tmp (av_fs 0 rfl))⟩,
    .inl ⟨wants_plain rfl, does_call (dl_Great l) (fun _ _ _ _ h => h) rfl DagN_hb_collator_collatorlaw06_Great rfl rfl rfl rfl ar_clo (ars_cons (pa_slcRo (ar_tmp (av_rs 0 0 rfl rfl)) (flat_nil_iff cActD_len (by decide) _)) ars_nil) trivial⟩,
    trivial⟩ ?_
  refine t_pick [0, 1, 4] rfl ?_
  refine nx_then ?_
  refine t_split 2 rfl (fun hb1 => ?_) (fun hb1 => ?_)
  · refine t_seq ?_
    refine t_region (F := ⟨_, _, _, _, _, _⟩) [.is (.tmp 0) (O_act6 l), .is (.tmp 22) (VP.bool (greatL l))] [(0, .is (.tmp 2) (VP.bool false))] [(0, .is (.tmp 2) (VP.bool true))] [] [0, 2] [1] [[]] [[]] rfl rfl follow rfl ⟨
      .inl ⟨wants_plain rfl, does_move _ (.inr rfl) rfl rfl rfl rfl (ar_const (fun _ _ => rfl))⟩,
      trivial⟩ ?_
    refine t_pick [0, 2] rfl ?_
    refine nx_then ?_
    refine t_ret ?_
    refine rt_then ?_
    exact rt_post [HA.of (VP.bool true)] [[]] [] [] rfl ⟨(rv_vp 1 rfl), trivial⟩ (by decide) rfl rfl
  · obtain ⟨hg1, hg2⟩ := great_no hb1
    refine t_skip ?_
    refine nx_then ?_
    refine t_seq ?_
    refine t_region (F := ⟨_, _, _, _, _, _⟩) [.is (.tmp 0) (O_act6 l), .is (.tmp 2) (VP.bool false), .is (.tmp 22) (VP.bool (greatL l))] [] [(0, .own 101 (.tmp 23) (Arn (newA 10))), (1, .eq 3 (.tmp 23))] [] [0, 1, 2] [] [[], [0]] [[1], []] rfl rfl follow rfl ⟨
      .inl ⟨wants_plain rfl, does_callG [] [] [] 101 [0] (da_New 10) rfl DagN_hb_collator_dag_New rfl rfl rfl rfl rfl ar_clo (ars_cons (pa_vp (ar_const (fun _ _ => rfl))) ars_nil) trivial trivial⟩,
      .inl ⟨wants_plain rfl, does_eqTmp (k := 23) _ rfl (.inr rfl) rfl rfl rfl rfl rfl⟩,
      trivial⟩ ?_
    refine t_pick [0, 1, 3, 4] rfl ?_
    refine nx_then ?_
    refine t_pick [2, 0, 1, 3] rfl ?_
    refine t_nameP rfl fun va => ?_
    refine t_pick [4, 1, 0, 2, 3] rfl ?_
    refine t_eq ?_
    refine t_pick [0, 2, 3, 4] rfl ?_
    refine t_seq ?_
    refine t_region (F := ⟨_, _, _, _, _, _⟩) [.is (.tmp 3) (VP.ptr va), .own 101 (.val va) (Arn (newA 10)), .is (.tmp 0) (O_act6 l), .is (.tmp 2) (VP.bool false)] [] [(0, .own 102 (.tmp 24) (R_fun ([] : List FunD))), (1, .eq 4 (.tmp 24))] [] [0, 1, 2, 3] [] [[], [0]] [[1], []] rfl rfl follow rfl ⟨
      .inl ⟨wants_plain rfl, does_sliceLit (n := 0) DagN_el_fun rfl [] (fun _ _ => by rw [show zerosOf (.agg #[.string (ByteArray.mk #[]), .slice none 0 0, .int .i64 0]) (0 * 3) = [] by kernel_rfl]; trivial) rfl rfl rfl rfl rfl rfl rfl (.nil _)⟩,
      .inl ⟨wants_plain rfl, does_eqTmp (k := 24) _ rfl (.inr rfl) rfl rfl rfl rfl rfl⟩,
      trivial⟩ ?_
    refine nx_then ?_
    refine t_pick [4, 0, 1, 2, 3, 5] rfl ?_
    refine t_name rfl fun vk0 => ?_
    refine t_pick [6, 1, 0, 2, 3, 4, 5] rfl ?_
    refine t_eq ?_
    refine t_pick [0, 2, 3, 4, 5, 6] rfl ?_
    refine t_seq ?_
    refine t_seq ?_
    refine t_region (F := ⟨_, _, _, _, _, _⟩) [.is (.tmp 4) (VP.eq vk0 true true), .own 102 (.val vk0) (R_fun ([] : List FunD)), .is (.tmp 3) (VP.ptr va), .own 101 (.val va) (Arn (newA 10)), .is (.tmp 0) (O_act6 l), .is (.tmp 2) (VP.bool false)] [] [(0, .is (.tmp 25) (O_act6 l)), (1, .is (.tmp 26) (VP.int .i64 ((l.length : Nat) : Int))), (2, .is (.tmp 27) (VP.int .i64 0))] [] [0, 1, 2, 3, 4, 5] [] [[], [0], []] [[1], [], []] rfl rfl follow rfl ⟨
      .inl ⟨wants_plain rfl, does_move _ (.inl rfl) rfl rfl rfl rfl (ar_tmp (av_fs 4 rfl))⟩,
      .inl ⟨wants_plain rfl, does_len _ _ (by kernel_rfl) rfl rfl rfl rfl rfl (sl_ro (av_rs 0 0 rfl rfl) (flat_nil_iff cActD_len (by decide) _))⟩,
      .inl ⟨wants_plain rfl, does_move _ (.inl rfl) rfl rfl rfl rfl (ar_const (fun _ _ => rfl))⟩,
      trivial⟩ ?_
    refine t_pick [0, 1, 2, 3, 5, 6, 7, 8] rfl ?_
    refine nx_then ?_
    refine t_block ?_
    refine t_pick [1, 0, 2, 3, 4, 5, 6, 7] rfl ?_
    refine t_untmp rfl ?_
    refine t_pick [6, 0, 1, 2, 3, 4, 5] rfl ?_
    refine t_slot (y := VP.int .i64 ((0 : Nat) : Int)) (fun _ _ _ h => h) ?_
    refine t_loop (τ := {p : Nat × ArD // p.1 ≤ l.length ∧ SInv p.2 p.1}) (fun ⟨(k, d), _⟩ => [.is (.tmp 3) (VP.ptr va), .is (.tmp 25) (O_act6 l), .is (.tmp 26) (VP.int .i64 ((l.length : Nat) : Int)), .is (.tmp 27) (VP.int .i64 ((k : Nat) : Int)), .own 101 (.val va) (Arn d), .own 102 (.tmp 4) (R_fun d.funs)]) (fun ⟨(k, d), _⟩ => l.length - k) (⟨(0, newA 10), Nat.zero_le _, sinv_new 10⟩) [2, 5, 6, 0, 3, 1] rfl ?_
    rintro ⟨⟨k, d⟩, hk, hI⟩
    have hk : k ≤ l.length := hk
    have hI : SInv d k := hI
    have hns := hI.ns
    have hnf := hI.nf
    refine t_seq ?_
    refine t_pick [5, 0, 1, 2, 3, 4] rfl ?_
    refine t_name rfl fun vk => ?_
    refine t_region (F := ⟨_, _, _, _, _, _⟩) [.own 102 (.val vk) (R_fun d.funs), .is (.tmp 4) (VP.eq vk true true), .is (.tmp 3) (VP.ptr va), .is (.tmp 25) (O_act6 l), .is (.tmp 26) (VP.int .i64 ((l.length : Nat) : Int)), .is (.tmp 27) (VP.int .i64 ((k : Nat) : Int)), .own 101 (.val va) (Arn d)] [] [(0, .is (.tmp 28) (VP.bool (decide (((k : Nat) : Int) < ((l.length : Nat) : Int)))))] [] [0, 1, 2, 3, 4, 5, 6] [] [[]] [[]] rfl rfl follow rfl ⟨
      .inl ⟨wants_plain rfl, does_cmp (m := ((k : Nat) : Int)) (n := ((l.length : Nat) : Int)) _ _ _ _ _ rfl rfl rfl rfl rfl rfl .i64 (ar_tmp (av_fs 5 rfl)) (ar_tmp (av_fs 4 rfl))⟩,
      trivial⟩ ?_
    refine nx_then ?_
    refine t_seq ?_
    refine t_split 7 rfl (fun hb2 => ?_) (fun hb2 => ?_)
    · have hc2 := of_decide_eq_true hb2
      obtain ⟨a, ha⟩ : ∃ a, l[k]? = some a := ⟨_, List.getElem?_eq_getElem (by omega)⟩
      have hga0 := hg2 a (List.mem_of_getElem? ha)
      have hga := hga0.2.1
      refine t_skip ?_
      refine nx_then ?_
      refine t_seq ?_
      refine t_block ?_
      refine t_seq ?_
      refine t_region (F := ⟨_, _, _, _, _, _⟩) [.own 102 (.val vk) (R_fun d.funs), .is (.tmp 4) (VP.eq vk true true), .is (.tmp 3) (VP.ptr va), .is (.tmp 25) (O_act6 l), .is (.tmp 26) (VP.int .i64 ((l.length : Nat) : Int)), .is (.tmp 27) (VP.int .i64 ((k : Nat) : Int)), .own 101 (.val va) (Arn d), .is (.tmp 28) (VP.bool (decide (((k : Nat) : Int) < ((l.length : Nat) : Int))))] [] [(0, .pt 29 (.row (.tmp 25) (k * 8))), (1, .is (.tmp 30) (VP.agg [VP.int .i64 a.what, VP.str a.name, O_int a.args, VP.int .i64 a.res, VP.int .i64 a.term.op, VP.int .i64 a.term.fn, O_int a.term.kids, VP.str a.term.num])), (3, .own 103 (.tmp 6) (B_act6 a))] [(2, 3, .own 103 (.tmp 6) (HA.cells 32 [HA.of (VP.int .i64 0), HA.of (VP.str (ByteArray.mk #[])), HA.of (VP.nilS), HA.of (VP.int .i64 0), HA.of (VP.int .i64 0), HA.of (VP.int .i64 0), HA.of (VP.nilS), HA.of (VP.str (ByteArray.mk #[]))]))] [0, 1, 2, 3, 4, 5, 6, 7] [] [[], [0], [], [0, 1, 2]] [[1, 3], [3], [3], []] rfl rfl follow rfl ⟨
        .inl ⟨wants_plain rfl, does_index (m := k) _ _ Try.underlying22 DagN_size_collatorlaw06_Act rfl rfl rfl rfl rfl _ (by omega) rfl (by omega) (sl_ro (av_fs 3 rfl) (flat_nil_iff cActD_len (by decide) _)) (ar_tmp (av_fs 5 rfl))⟩,
        .inl ⟨wants_plain rfl, does_loadAgg (ps := [VP.int .i64 a.what, VP.str a.name, O_int a.args, VP.int .i64 a.res, VP.int .i64 a.term.op, VP.int .i64 a.term.fn, O_int a.term.kids, VP.str a.term.num]) _ DagN_agg_collatorlaw06_Act rfl rfl rfl rfl rfl (pt_pt (av_rs 0 0 rfl rfl)) (rds_ro (av_fs 3 rfl) (hq_flatV cActD_len ha (by omega) rfl))⟩,
        .inl ⟨wants_plain rfl, does_alloc (ps := [VP.int .i64 0, VP.str (ByteArray.mk #[]), VP.nilS, VP.int .i64 0, VP.int .i64 0, VP.int .i64 0, VP.nilS, VP.str (ByteArray.mk #[])]) DagN_zero_collatorlaw06_Act rfl rfl rfl rfl rfl rfl (fun _ _ => ⟨rfl, rfl, rfl, rfl, rfl, rfl, rfl, rfl, trivial⟩)⟩,
        .inl ⟨wants_plain rfl, does_store (off := 0) (Qs := [HA.of (VP.int .i64 a.what), HA.of (VP.str a.name), HA.of (O_int a.args), HA.of (VP.int .i64 a.res), HA.of (VP.int .i64 a.term.op), HA.of (VP.int .i64 a.term.fn), HA.of (O_int a.term.kids), HA.of (VP.str a.term.num)]) _ _ DagN_size_collatorlaw06_Act rfl rfl rfl rfl rfl rfl (pt_box (av_ms 0 2 3 rfl rfl rfl)) (av_ms 0 2 3 rfl rfl rfl) (cv_agg (ps := [VP.int .i64 a.what, VP.str a.name, O_int a.args, VP.int .i64 a.res, VP.int .i64 a.term.op, VP.int .i64 a.term.fn, O_int a.term.kids, VP.str a.term.num]) (ar_tmp (av_rs 1 1 rfl rfl)))⟩,
        trivial⟩ ?_
      refine nx_then ?_
      refine t_pick [10, 0, 1, 2, 3, 4, 5, 6, 7, 8, 9] rfl ?_
      refine t_nameP rfl fun ca => ?_
      refine t_seq ?_
      refine t_seq ?_
      refine t_region (F := ⟨_, _, _, _, _, _⟩) [.own 103 (.val ca) (B_act6 a), .is (.tmp 6) (VP.ptr ca), .own 102 (.val vk) (R_fun d.funs), .is (.tmp 4) (VP.eq vk true true), .is (.tmp 3) (VP.ptr va), .is (.tmp 25) (O_act6 l), .is (.tmp 26) (VP.int .i64 ((l.length : Nat) : Int)), .is (.tmp 27) (VP.int .i64 ((k : Nat) : Int)), .own 101 (.val va) (Arn d), .is (.tmp 28) (VP.bool (decide (((k : Nat) : Int) < ((l.length : Nat) : Int)))), .pt 29 (.row (.tmp 25) (k * 8)), .is (.tmp 30) (VP.agg [VP.int .i64 a.what, VP.str a.name, O_int a.args, VP.int .i64 a.res, VP.int .i64 a.term.op, VP.int .i64 a.term.fn, O_int a.term.kids, VP.str a.term.num])] [] [(0, .pt 31 (.blk (.val ca) 0)), (1, .is (.tmp 32) (VP.int .i64 a.what)), (2, .is (.tmp 33) (VP.bool (a.what == 0)))] [] [0, 1, 2, 3, 4, 5, 6, 7, 8, 9, 10, 11] [] [[], [0], [0, 1]] [[1, 2], [2], []] rfl rfl follow rfl ⟨
        .inl ⟨wants_plain rfl, does_field _ _ _ 0 DagN_f_collatorlaw06_Act_0 rfl rfl rfl rfl rfl rfl (pt_ptr (ar_tmp (av_fs 1 rfl)))⟩,
        .inl ⟨wants_plain rfl, does_loadOne _ DagN_one_int rfl rfl rfl rfl rfl (pt_pt (av_rs 0 0 rfl rfl)) (rds_box (off := 0) (av_fs 0 rfl) (hq_one rfl))⟩,
        .inl ⟨wants_plain rfl, does_cmp (m := a.what) (n := 0) _ _ _ _ _ rfl rfl rfl rfl rfl rfl .i64 (ar_tmp (av_rs 1 1 rfl rfl)) (ar_const (fun _ _ => rfl))⟩,
        trivial⟩ ?_
      refine nx_then ?_
      refine t_split 14 rfl (fun hb3 => ?_) (fun hb3 => ?_)
      · have hc3 := eq_of_beq hb3
        have hI1 := sinv_sort hI a.name a.args hga
        have hn1 := hI1.ns
        have hgs : ∀ x ∈ (d.sort a.name a.args).sorts, x.args.length ≤ 1000 := fun x hx => Nat.le_trans (hI1.sa x hx) (by decide)
        refine t_seq ?_
        refine t_region (F := ⟨_, _, _, _, _, _⟩) [.own 103 (.val ca) (B_act6 a), .is (.tmp 6) (VP.ptr ca), .own 102 (.val vk) (R_fun d.funs), .is (.tmp 4) (VP.eq vk true true), .is (.tmp 3) (VP.ptr va), .is (.tmp 25) (O_act6 l), .is (.tmp 26) (VP.int .i64 ((l.length : Nat) : Int)), .is (.tmp 27) (VP.int .i64 ((k : Nat) : Int)), .is (.tmp 28) (VP.bool (decide (((k : Nat) : Int) < ((l.length : Nat) : Int)))), .pt 29 (.row (.tmp 25) (k * 8)), .is (.tmp 30) (VP.agg [VP.int .i64 a.what, VP.str a.name, O_int a.args, VP.int .i64 a.res, VP.int .i64 a.term.op, VP.int .i64 a.term.fn, O_int a.term.kids, VP.str a.term.num]), .pt 31 (.blk (.val ca) 0), .is (.tmp 32) (VP.int .i64 a.what), .is (.tmp 33) (VP.bool (a.what == 0))] [(5, .own 101 (.val va) (Arn d))] [(0, .is (.tmp 35) (VP.ptr va)), (1, .pt 36 (.blk (.val ca) 1)), (2, .is (.tmp 37) (VP.str a.name)), (3, .pt 38 (.blk (.val ca) 2)), (4, .is (.tmp 39) (O_int a.args)), (5, .own 104 (.tmp 40) (HA.of (VP.tup [VP.int .i64 (d.sortR a.name a.args), VP.int .i64 (d.sortE a.args)]))), (5, .own 101 (.val va) (Arn (d.sort a.name a.args))), (6, .is (.tmp 34) (VP.tup [VP.int .i64 (d.sortR a.name a.args), VP.int .i64 (d.sortE a.args)])), (7, .is (.tmp 41) (VP.int .i64 (d.sortR a.name a.args))), (8, .is (.tmp 42) (VP.int .i64 (d.sortE a.args))), (9, .is (.tmp 7) (VP.int .i64 (d.sortR a.name a.args))), (10, .is (.tmp 8) (VP.int .i64 (d.sortE a.args)))] [] [0, 1, 2, 3, 4, 5, 6, 7, 9, 10, 11, 12, 13, 14] [8] [[], [], [1], [], [3], [0, 1, 2, 3, 4], [0, 1, 2, 3, 4, 5], [0, 1, 2, 3, 4, 5, 6], [0, 1, 2, 3, 4, 5, 6], [0, 1, 2, 3, 4, 5, 6, 7], [0, 1, 2, 3, 4, 5, 6, 7, 8, 9]] [[5, 6, 7, 8, 9, 10], [2, 5, 6, 7, 8, 9, 10], [5, 6, 7, 8, 9, 10], [4, 5, 6, 7, 8, 9, 10], [5, 6, 7, 8, 9, 10], [6, 7, 8, 9, 10], [7, 8, 9, 10], [9, 10], [10], [10], []] rfl rfl follow rfl ⟨
          .inl ⟨wants_plain rfl, does_move _ (.inl rfl) rfl rfl rfl rfl (ar_tmp (av_fs 4 rfl))⟩,
          .inl ⟨wants_plain rfl, does_field _ _ _ 1 DagN_f_collatorlaw06_Act_1 rfl rfl rfl rfl rfl rfl (pt_ptr (ar_tmp (av_fs 1 rfl)))⟩,
          .inl ⟨wants_plain rfl, does_loadOne _ DagN_one_string rfl rfl rfl rfl rfl (pt_pt (av_rs 1 1 rfl rfl)) (rds_box (off := 1) (av_fs 0 rfl) (hq_one rfl))⟩,
          .inl ⟨wants_plain rfl, does_field _ _ _ 2 DagN_f_collatorlaw06_Act_2 rfl rfl rfl rfl rfl rfl (pt_ptr (ar_tmp (av_fs 1 rfl)))⟩,
          .inl ⟨wants_plain rfl, does_loadOne _ DagN_one___int rfl rfl rfl rfl rfl (pt_pt (av_rs 3 3 rfl rfl)) (rds_box (off := 2) (av_fs 0 rfl) (hq_one rfl))⟩,
          .inl ⟨wants_plain rfl, does_callG [] [101] [101] 104 [0, 1] (da_Sort (v := va) (d := d) a.name a.args (by omega) (by omega)) rfl DagN_hb___collator_dag_Arena__Sort rfl rfl rfl rfl rfl ar_clo (ars_cons (pa_vp (ar_tmp (av_rs 0 0 rfl rfl))) (ars_cons (pa_vp (ar_tmp (av_rs 2 2 rfl rfl))) (ars_cons (pa_slcRo (ar_tmp (av_rs 4 4 rfl rfl)) (flat_nil_iff cInt_len (by decide) _)) ars_nil))) trivial ⟨(av_os 0 5 rfl rfl), trivial⟩⟩,
          .inl ⟨wants_plain rfl, does_move _ (.inl rfl) rfl rfl rfl rfl (ar_of (av_rs 5 5 rfl rfl))⟩,
          .inl ⟨wants_plain rfl, does_extract (ps := [VP.int .i64 (d.sortR a.name a.args), VP.int .i64 (d.sortE a.args)]) _ 0 rfl rfl rfl rfl rfl (ar_tmp (av_rs 7 6 rfl rfl)) rfl⟩,
          .inl ⟨wants_plain rfl, does_extract (ps := [VP.int .i64 (d.sortR a.name a.args), VP.int .i64 (d.sortE a.args)]) _ 1 rfl rfl rfl rfl rfl (ar_tmp (av_rs 7 6 rfl rfl)) rfl⟩,
          .inl ⟨wants_plain rfl, does_move _ (.inr rfl) rfl rfl rfl rfl (ar_tmp (av_rs 8 7 rfl rfl))⟩,
          .inl ⟨wants_plain rfl, does_move _ (.inr rfl) rfl rfl rfl rfl (ar_tmp (av_rs 9 8 rfl rfl))⟩,
          trivial⟩ ?_
        refine nx_then ?_
        refine t_pick [19, 0, 1, 2, 3, 4, 5, 6, 7, 8, 9, 10, 11, 12, 13, 14, 15, 16, 17, 18, 20, 21, 22, 23, 24, 25] rfl ?_
        refine t_freeze (fz_of _) rfl ?_
        refine t_seq ?_
        refine t_region (F := ⟨_, _, _, _, _, _⟩) [.is (.tmp 40) (VP.tup [VP.int .i64 (d.sortR a.name a.args), VP.int .i64 (d.sortE a.args)]), .own 103 (.val ca) (B_act6 a), .is (.tmp 6) (VP.ptr ca), .own 102 (.val vk) (R_fun d.funs), .is (.tmp 4) (VP.eq vk true true), .is (.tmp 3) (VP.ptr va), .is (.tmp 25) (O_act6 l), .is (.tmp 26) (VP.int .i64 ((l.length : Nat) : Int)), .is (.tmp 27) (VP.int .i64 ((k : Nat) : Int)), .is (.tmp 28) (VP.bool (decide (((k : Nat) : Int) < ((l.length : Nat) : Int)))), .pt 29 (.row (.tmp 25) (k * 8)), .is (.tmp 30) (VP.agg [VP.int .i64 a.what, VP.str a.name, O_int a.args, VP.int .i64 a.res, VP.int .i64 a.term.op, VP.int .i64 a.term.fn, O_int a.term.kids, VP.str a.term.num]), .pt 31 (.blk (.val ca) 0), .is (.tmp 32) (VP.int .i64 a.what), .is (.tmp 33) (VP.bool (a.what == 0)), .is (.tmp 35) (VP.ptr va), .pt 36 (.blk (.val ca) 1), .is (.tmp 37) (VP.str a.name), .pt 38 (.blk (.val ca) 2), .is (.tmp 39) (O_int a.args), .is (.tmp 34) (VP.tup [VP.int .i64 (d.sortR a.name a.args), VP.int .i64 (d.sortE a.args)]), .is (.tmp 41) (VP.int .i64 (d.sortR a.name a.args)), .is (.tmp 42) (VP.int .i64 (d.sortE a.args)), .is (.tmp 7) (VP.int .i64 (d.sortR a.name a.args)), .is (.tmp 8) (VP.int .i64 (d.sortE a.args))] [(5, .own 101 (.val va) (Arn (d.sort a.name a.args)))] [(0, .is (.tmp 44) (VP.ptr va)), (1, .pt 45 (.blk (.val ca) 1)), (2, .is (.tmp 46) (VP.str a.name)), (3, .pt 47 (.blk (.val ca) 2)), (4, .is (.tmp 48) (O_int a.args)), (5, .own 105 (.tmp 49) (HA.of (VP.tup [VP.int .i64 ((d.sort a.name a.args).sortR a.name a.args), VP.int .i64 ((d.sort a.name a.args).sortE a.args)]))), (5, .own 101 (.val va) (Arn ((d.sort a.name a.args).sort a.name a.args))), (6, .is (.tmp 43) (VP.tup [VP.int .i64 ((d.sort a.name a.args).sortR a.name a.args), VP.int .i64 ((d.sort a.name a.args).sortE a.args)])), (7, .is (.tmp 50) (VP.int .i64 ((d.sort a.name a.args).sortR a.name a.args))), (8, .is (.tmp 51) (VP.int .i64 ((d.sort a.name a.args).sortE a.args))), (9, .is (.tmp 9) (VP.int .i64 ((d.sort a.name a.args).sortR a.name a.args))), (10, .is (.tmp 10) (VP.int .i64 ((d.sort a.name a.args).sortE a.args)))] [] [0, 1, 2, 3, 4, 5, 6, 7, 8, 9, 10, 11, 12, 13, 14, 15, 16, 17, 18, 19, 21, 22, 23, 24, 25] [20] [[], [], [1], [], [3], [0, 1, 2, 3, 4], [0, 1, 2, 3, 4, 5], [0, 1, 2, 3, 4, 5, 6], [0, 1, 2, 3, 4, 5, 6], [0, 1, 2, 3, 4, 5, 6, 7], [0, 1, 2, 3, 4, 5, 6, 7, 8, 9]] [[5, 6, 7, 8, 9, 10], [2, 5, 6, 7, 8, 9, 10], [5, 6, 7, 8, 9, 10], [4, 5, 6, 7, 8, 9, 10], [5, 6, 7, 8, 9, 10], [6, 7, 8, 9, 10], [7, 8, 9, 10], [9, 10], [10], [10], []] rfl rfl follow rfl ⟨
          .inl ⟨wants_plain rfl, does_move _ (.inl rfl) rfl rfl rfl rfl (ar_tmp (av_fs 5 rfl))⟩,
          .inl ⟨wants_plain rfl, does_field _ _ _ 1 DagN_f_collatorlaw06_Act_1 rfl rfl rfl rfl rfl rfl (pt_ptr (ar_tmp (av_fs 2 rfl)))⟩,
          .inl ⟨wants_plain rfl, does_loadOne _ DagN_one_string rfl rfl rfl rfl rfl (pt_pt (av_rs 1 1 rfl rfl)) (rds_box (off := 1) (av_fs 1 rfl) (hq_one rfl))⟩,
          .inl ⟨wants_plain rfl, does_field _ _ _ 2 DagN_f_collatorlaw06_Act_2 rfl rfl rfl rfl rfl rfl (pt_ptr (ar_tmp (av_fs 2 rfl)))⟩,
          .inl ⟨wants_plain rfl, does_loadOne _ DagN_one___int rfl rfl rfl rfl rfl (pt_pt (av_rs 3 3 rfl rfl)) (rds_box (off := 2) (av_fs 1 rfl) (hq_one rfl))⟩,
          .inl ⟨wants_plain rfl, does_callG [] [101] [101] 105 [0, 1] (da_Sort (v := va) (d := (d.sort a.name a.args)) a.name a.args (by omega) (by omega)) rfl DagN_hb___collator_dag_Arena__Sort rfl rfl rfl rfl rfl ar_clo (ars_cons (pa_vp (ar_tmp (av_rs 0 0 rfl rfl))) (ars_cons (pa_vp (ar_tmp (av_rs 2 2 rfl rfl))) (ars_cons (pa_slcRo (ar_tmp (av_rs 4 4 rfl rfl)) (flat_nil_iff cInt_len (by decide) _)) ars_nil))) trivial ⟨(av_os 0 5 rfl rfl), trivial⟩⟩,
          .inl ⟨wants_plain rfl, does_move _ (.inl rfl) rfl rfl rfl rfl (ar_of (av_rs 5 5 rfl rfl))⟩,
          .inl ⟨wants_plain rfl, does_extract (ps := [VP.int .i64 ((d.sort a.name a.args).sortR a.name a.args), VP.int .i64 ((d.sort a.name a.args).sortE a.args)]) _ 0 rfl rfl rfl rfl rfl (ar_tmp (av_rs 7 6 rfl rfl)) rfl⟩,
          .inl ⟨wants_plain rfl, does_extract (ps := [VP.int .i64 ((d.sort a.name a.args).sortR a.name a.args), VP.int .i64 ((d.sort a.name a.args).sortE a.args)]) _ 1 rfl rfl rfl rfl rfl (ar_tmp (av_rs 7 6 rfl rfl)) rfl⟩,
          .inl ⟨wants_plain rfl, does_move _ (.inr rfl) rfl rfl rfl rfl (ar_tmp (av_rs 8 7 rfl rfl))⟩,
          .inl ⟨wants_plain rfl, does_move _ (.inr rfl) rfl rfl rfl rfl (ar_tmp (av_rs 9 8 rfl rfl))⟩,
          trivial⟩ ?_
        refine nx_then ?_
        refine t_pick [30, 0, 1, 2, 3, 4, 5, 6, 7, 8, 9, 10, 11, 12, 13, 14, 15, 16, 17, 18, 19, 20, 21, 22, 23, 24, 25, 26, 27, 28, 29, 31, 32, 33, 34, 35, 36] rfl ?_
        refine t_freeze (fz_of _) rfl ?_
        refine t_seq ?_
        refine t_seq ?_
        refine t_pick [35, 0, 1, 2, 3, 4, 5, 6, 7, 8, 9, 10, 11, 12, 13, 14, 15, 16, 17, 18, 19, 20, 21, 22, 23, 24, 25, 26, 27, 28, 29, 30, 31, 32, 33, 34, 36] rfl ?_
        refine t_slot (y := VP.int .i64 (d.sortR a.name a.args)) (fun _ _ _ h => by rw [(sort_again d a.name a.args).2.1] at h; exact h) ?_
        refine t_pick [36, 0, 1, 2, 3, 4, 5, 6, 7, 8, 9, 10, 11, 12, 13, 14, 15, 16, 17, 18, 19, 20, 21, 22, 23, 24, 25, 26, 27, 28, 29, 30, 31, 32, 33, 34, 35] rfl ?_
        refine t_slot (y := VP.int .i64 (d.sortE a.args)) (fun _ _ _ h => by rw [(sort_again d a.name a.args).2.2] at h; exact h) ?_
        refine t_pick [33, 0, 1, 2, 3, 4, 5, 6, 7, 8, 9, 10, 11, 12, 13, 14, 15, 16, 17, 18, 19, 20, 21, 22, 23, 24, 25, 26, 27, 28, 29, 30, 31, 32, 34, 35, 36] rfl ?_
        refine t_weak (R' := Arn (d.sort a.name a.args)) (fun _ _ _ _ h => by rw [(sort_again d a.name a.args).1] at h; exact h) rfl ?_
        rcases Bool.eq_false_or_eq_true ((d.sortE a.args) == 0) with hb4 | hb4
        · have hc4 := eq_of_beq hb4
          obtain ⟨x, hx, hx0, hxn, hxa⟩ := sort_at (n := a.name) (eq_of_beq hb4)
          have hxl := (List.getElem?_eq_some_iff.1 hx).1
          refine t_region (F := ⟨_, _, _, _, _, _⟩) [.own 101 (.val va) (Arn (d.sort a.name a.args)), .is (.tmp 10) (VP.int .i64 (d.sortE a.args)), .is (.tmp 9) (VP.int .i64 (d.sortR a.name a.args)), .is (.tmp 49) (VP.tup [VP.int .i64 ((d.sort a.name a.args).sortR a.name a.args), VP.int .i64 ((d.sort a.name a.args).sortE a.args)]), .is (.tmp 40) (VP.tup [VP.int .i64 (d.sortR a.name a.args), VP.int .i64 (d.sortE a.args)]), .own 103 (.val ca) (B_act6 a), .is (.tmp 6) (VP.ptr ca), .own 102 (.val vk) (R_fun d.funs), .is (.tmp 4) (VP.eq vk true true), .is (.tmp 3) (VP.ptr va), .is (.tmp 25) (O_act6 l), .is (.tmp 26) (VP.int .i64 ((l.length : Nat) : Int)), .is (.tmp 27) (VP.int .i64 ((k : Nat) : Int)), .is (.tmp 28) (VP.bool (decide (((k : Nat) : Int) < ((l.length : Nat) : Int)))), .pt 29 (.row (.tmp 25) (k * 8)), .is (.tmp 30) (VP.agg [VP.int .i64 a.what, VP.str a.name, O_int a.args, VP.int .i64 a.res, VP.int .i64 a.term.op, VP.int .i64 a.term.fn, O_int a.term.kids, VP.str a.term.num]), .pt 31 (.blk (.val ca) 0), .is (.tmp 32) (VP.int .i64 a.what), .is (.tmp 33) (VP.bool (a.what == 0)), .is (.tmp 35) (VP.ptr va), .pt 36 (.blk (.val ca) 1), .is (.tmp 37) (VP.str a.name), .pt 38 (.blk (.val ca) 2), .is (.tmp 39) (O_int a.args), .is (.tmp 34) (VP.tup [VP.int .i64 (d.sortR a.name a.args), VP.int .i64 (d.sortE a.args)]), .is (.tmp 41) (VP.int .i64 (d.sortR a.name a.args)), .is (.tmp 42) (VP.int .i64 (d.sortE a.args)), .is (.tmp 7) (VP.int .i64 (d.sortR a.name a.args)), .is (.tmp 8) (VP.int .i64 (d.sortE a.args)), .is (.tmp 44) (VP.ptr va), .pt 45 (.blk (.val ca) 1), .is (.tmp 46) (VP.str a.name), .pt 47 (.blk (.val ca) 2), .is (.tmp 48) (O_int a.args), .is (.tmp 43) (VP.tup [VP.int .i64 ((d.sort a.name a.args).sortR a.name a.args), VP.int .i64 ((d.sort a.name a.args).sortE a.args)]), .is (.tmp 50) (VP.int .i64 ((d.sort a.name a.args).sortR a.name a.args)), .is (.tmp 51) (VP.int .i64 ((d.sort a.name a.args).sortE a.args))] [] [(0, .is (.tmp 52) (VP.int .i64 (d.sortE a.args))), (1, .is (.tmp 53) (VP.int .i64 (d.sortE a.args))), (2, .is (.tmp 54) (VP.bool ((d.sortE a.args) != (d.sortE a.args)))), (3, .is (.tmp 55) (VP.bool ((d.sortE a.args) != (d.sortE a.args)))), (4, .is (.tmp 56) (VP.int .i64 (d.sortR a.name a.args))), (5, .is (.tmp 57) (VP.int .i64 (d.sortR a.name a.args))), (6, .is (.tmp 58) (VP.bool ((d.sortR a.name a.args) != (d.sortR a.name a.args)))), (7, .is (.tmp 59) (VP.bool ((d.sortR a.name a.args) != (d.sortR a.name a.args)))), (8, .is (.tmp 60) (VP.bool ((d.sortR a.name a.args) != (d.sortR a.name a.args)))), (9, .is (.tmp 61) (VP.int .i64 (d.sortE a.args))), (10, .is (.tmp 62) (VP.bool ((d.sortE a.args) == 0))), (11, .is (.tmp 63) (VP.bool ((d.sortE a.args) == 0))), (12, .is (.tmp 64) (VP.int .i64 (d.sortR a.name a.args))), (13, .is (.tmp 65) (VP.ptr va)), (14, .own 106 (.tmp 66) (R_sort ((d.sort a.name a.args).sorts))), (15, .is (.tmp 67) (VP.int .i64 ((((d.sort a.name a.args).sorts).length : Nat) : Int))), (16, .is (.tmp 68) (VP.bool (decide ((d.sortR a.name a.args) ≥ ((((d.sort a.name a.args).sorts).length : Nat) : Int))))), (17, .is (.tmp 69) (VP.bool (decide ((d.sortR a.name a.args) ≥ ((((d.sort a.name a.args).sorts).length : Nat) : Int))))), (18, .is (.tmp 70) (VP.ptr va)), (19, .own 107 (.tmp 71) (R_sort ((d.sort a.name a.args).sorts))), (20, .is (.tmp 72) (VP.int .i64 (d.sortR a.name a.args))), (21, .pt 73 (.row (.tmp 71) (((d.sortR a.name a.args).toNat) * 2))), (22, .pt 74 (.row (.tmp 71) ((((d.sortR a.name a.args).toNat) * 2) + 0))), (23, .is (.tmp 75) (VP.str x.name)), (24, .pt 76 (.blk (.val ca) 1)), (25, .is (.tmp 77) (VP.str a.name)), (26, .is (.tmp 78) (VP.bool (!(x.name.toList == a.name.toList)))), (27, .is (.tmp 79) (VP.bool (!(x.name.toList == a.name.toList)))), (28, .is (.tmp 80) (VP.bool (!(x.name.toList == a.name.toList)))), (29, .is (.tmp 81) (VP.ptr va)), (30, .own 108 (.tmp 82) (R_sort ((d.sort a.name a.args).sorts))), (31, .is (.tmp 83) (VP.int .i64 (d.sortR a.name a.args))), (32, .pt 84 (.row (.tmp 82) (((d.sortR a.name a.args).toNat) * 2))), (33, .pt 85 (.row (.tmp 82) ((((d.sortR a.name a.args).toNat) * 2) + 1))), (34, .is (.tmp 86) (O_int x.args)), (35, .pt 87 (.blk (.val ca) 2)), (36, .is (.tmp 88) (O_int a.args)), (37, .is (.tmp 89) (VP.bool (x.args == a.args))), (38, .is (.tmp 90) (VP.bool false)), (39, .is (.tmp 91) (VP.bool false)), (40, .is (.tmp 92) (VP.bool false)), (41, .is (.tmp 93) (VP.bool false))] [] [0, 1, 2, 3, 4, 5, 6, 7, 8, 9, 10, 11, 12, 13, 14, 15, 16, 17, 18, 19, 20, 21, 22, 23, 24, 25, 26, 27, 28, 29, 30, 31, 32, 33, 34, 35, 36] [] [[], [], [0, 1], [0, 1, 2], [0, 1, 2, 3], [0, 1, 2, 3], [0, 1, 2, 3, 4, 5], [0, 1, 2, 3, 4, 5, 6], [0, 1, 2, 3, 4, 5, 6, 7], [0, 1, 2, 3, 4, 5, 6, 7, 8], [0, 1, 2, 3, 4, 5, 6, 7, 8, 9], [0, 1, 2, 3, 4, 5, 6, 7, 8, 9, 10], [0, 1, 2, 3, 4, 5, 6, 7, 8, 9, 10, 11], [0, 1, 2, 3, 4, 5, 6, 7, 8, 9, 10, 11], [0, 1, 2, 3, 4, 5, 6, 7, 8, 9, 10, 11, 13], [0, 1, 2, 3, 4, 5, 6, 7, 8, 9, 10, 11, 13, 14], [0, 1, 2, 3, 4, 5, 6, 7, 8, 9, 10, 11, 12, 13, 14, 15], [0, 1, 2, 3, 4, 5, 6, 7, 8, 9, 10, 11, 12, 13, 14, 15, 16], [0, 1, 2, 3, 4, 5, 6, 7, 8, 9, 10, 11, 12, 13, 14, 15, 16, 17], [0, 1, 2, 3, 4, 5, 6, 7, 8, 9, 10, 11, 12, 13, 14, 15, 16, 17, 18], [0, 1, 2, 3, 4, 5, 6, 7, 8, 9, 10, 11, 12, 13, 14, 15, 16, 17], [0, 1, 2, 3, 4, 5, 6, 7, 8, 9, 10, 11, 12, 13, 14, 15, 16, 17, 18, 19, 20], [0, 1, 2, 3, 4, 5, 6, 7, 8, 9, 10, 11, 12, 13, 14, 15, 16, 17, 18, 19, 20, 21], [0, 1, 2, 3, 4, 5, 6, 7, 8, 9, 10, 11, 12, 13, 14, 15, 16, 17, 18, 19, 20, 21, 22], [0, 1, 2, 3, 4, 5, 6, 7, 8, 9, 10, 11, 12, 13, 14, 15, 16, 17], [0, 1, 2, 3, 4, 5, 6, 7, 8, 9, 10, 11, 12, 13, 14, 15, 16, 17, 24], [0, 1, 2, 3, 4, 5, 6, 7, 8, 9, 10, 11, 12, 13, 14, 15, 16, 17, 18, 19, 20, 21, 22, 23, 24, 25], [0, 1, 2, 3, 4, 5, 6, 7, 8, 9, 10, 11, 12, 13, 14, 15, 16, 17, 18, 19, 20, 21, 22, 23, 24, 25, 26], [0, 1, 2, 3, 4, 5, 6, 7, 8, 9, 10, 11, 12, 13, 14, 15, 16, 17, 18, 19, 20, 21, 22, 23, 24, 25, 26, 27], [0, 1, 2, 3, 4, 5, 6, 7, 8, 9, 10, 11, 12, 13, 14, 15, 16, 17, 18, 19, 20, 21, 22, 23, 24, 25, 26, 27, 28], [0, 1, 2, 3, 4, 5, 6, 7, 8, 9, 10, 11, 12, 13, 14, 15, 16, 17, 18, 19, 20, 21, 22, 23, 24, 25, 26, 27, 28, 29], [0, 1, 2, 3, 4, 5, 6, 7, 8, 9, 10, 11, 12, 13, 14, 15, 16, 17, 18, 19, 20, 21, 22, 23, 24, 25, 26, 27, 28], [0, 1, 2, 3, 4, 5, 6, 7, 8, 9, 10, 11, 12, 13, 14, 15, 16, 17, 18, 19, 20, 21, 22, 23, 24, 25, 26, 27, 28, 29, 30, 31], [0, 1, 2, 3, 4, 5, 6, 7, 8, 9, 10, 11, 12, 13, 14, 15, 16, 17, 18, 19, 20, 21, 22, 23, 24, 25, 26, 27, 28, 29, 30, 31, 32], [0, 1, 2, 3, 4, 5, 6, 7, 8, 9, 10, 11, 12, 13, 14, 15, 16, 17, 18, 19, 20, 21, 22, 23, 24, 25, 26, 27, 28, 29, 30, 31, 32, 33], [0, 1, 2, 3, 4, 5, 6, 7, 8, 9, 10, 11, 12, 13, 14, 15, 16, 17, 18, 19, 20, 21, 22, 23, 24, 25, 26, 27, 28], [0, 1, 2, 3, 4, 5, 6, 7, 8, 9, 10, 11, 12, 13, 14, 15, 16, 17, 18, 19, 20, 21, 22, 23, 24, 25, 26, 27, 28, 35], [0, 1, 2, 3, 4, 5, 6, 7, 8, 9, 10, 11, 12, 13, 14, 15, 16, 17, 18, 19, 20, 21, 22, 23, 24, 25, 26, 27, 28, 29, 30, 31, 32, 33, 34, 35, 36], [0, 1, 2, 3, 4, 5, 6, 7, 8, 9, 10, 11, 12, 13, 14, 15, 16, 17, 18, 19, 20, 21, 22, 23, 24, 25, 26, 27, 28, 29, 30, 31, 32, 33, 34, 35, 36, 37], [0, 1, 2, 3, 4, 5, 6, 7, 8, 9, 10, 11, 12, 13, 14, 15, 16, 17, 18, 19, 20, 21, 22, 23, 24, 25, 26, 27, 28, 29, 30, 31, 32, 33, 34, 35, 36, 37, 38], [0, 1, 2, 3, 4, 5, 6, 7, 8, 9, 10, 11, 12, 13, 14, 15, 16, 17, 18, 19, 20, 21, 22, 23, 24, 25, 26, 27, 28, 29, 30, 31, 32, 33, 34, 35, 36, 37, 38, 39], [0, 1, 2, 3, 4, 5, 6, 7, 8, 9, 10, 11, 12, 13, 14, 15, 16, 17, 18, 19, 20, 21, 22, 23, 24, 25, 26, 27, 28, 29, 30, 31, 32, 33, 34, 35, 36, 37, 38, 39, 40]] [[2, 3, 4, 5, 6, 7, 8, 9, 10, 11, 12, 13, 14, 15, 16, 17, 18, 19, 20, 21, 22, 23, 24, 25, 26, 27, 28, 29, 30, 31, 32, 33, 34, 35, 36, 37, 38, 39, 40, 41], [2, 3, 4, 5, 6, 7, 8, 9, 10, 11, 12, 13, 14, 15, 16, 17, 18, 19, 20, 21, 22, 23, 24, 25, 26, 27, 28, 29, 30, 31, 32, 33, 34, 35, 36, 37, 38, 39, 40, 41], [3, 4, 5, 6, 7, 8, 9, 10, 11, 12, 13, 14, 15, 16, 17, 18, 19, 20, 21, 22, 23, 24, 25, 26, 27, 28, 29, 30, 31, 32, 33, 34, 35, 36, 37, 38, 39, 40, 41], [4, 5, 6, 7, 8, 9, 10, 11, 12, 13, 14, 15, 16, 17, 18, 19, 20, 21, 22, 23, 24, 25, 26, 27, 28, 29, 30, 31, 32, 33, 34, 35, 36, 37, 38, 39, 40, 41], [6, 7, 8, 9, 10, 11, 12, 13, 14, 15, 16, 17, 18, 19, 20, 21, 22, 23, 24, 25, 26, 27, 28, 29, 30, 31, 32, 33, 34, 35, 36, 37, 38, 39, 40, 41], [6, 7, 8, 9, 10, 11, 12, 13, 14, 15, 16, 17, 18, 19, 20, 21, 22, 23, 24, 25, 26, 27, 28, 29, 30, 31, 32, 33, 34, 35, 36, 37, 38, 39, 40, 41], [7, 8, 9, 10, 11, 12, 13, 14, 15, 16, 17, 18, 19, 20, 21, 22, 23, 24, 25, 26, 27, 28, 29, 30, 31, 32, 33, 34, 35, 36, 37, 38, 39, 40, 41], [8, 9, 10, 11, 12, 13, 14, 15, 16, 17, 18, 19, 20, 21, 22, 23, 24, 25, 26, 27, 28, 29, 30, 31, 32, 33, 34, 35, 36, 37, 38, 39, 40, 41], [9, 10, 11, 12, 13, 14, 15, 16, 17, 18, 19, 20, 21, 22, 23, 24, 25, 26, 27, 28, 29, 30, 31, 32, 33, 34, 35, 36, 37, 38, 39, 40, 41], [10, 11, 12, 13, 14, 15, 16, 17, 18, 19, 20, 21, 22, 23, 24, 25, 26, 27, 28, 29, 30, 31, 32, 33, 34, 35, 36, 37, 38, 39, 40, 41], [11, 12, 13, 14, 15, 16, 17, 18, 19, 20, 21, 22, 23, 24, 25, 26, 27, 28, 29, 30, 31, 32, 33, 34, 35, 36, 37, 38, 39, 40, 41], [12, 13, 14, 15, 16, 17, 18, 19, 20, 21, 22, 23, 24, 25, 26, 27, 28, 29, 30, 31, 32, 33, 34, 35, 36, 37, 38, 39, 40, 41], [16, 17, 18, 19, 20, 21, 22, 23, 24, 25, 26, 27, 28, 29, 30, 31, 32, 33, 34, 35, 36, 37, 38, 39, 40, 41], [14, 15, 16, 17, 18, 19, 20, 21, 22, 23, 24, 25, 26, 27, 28, 29, 30, 31, 32, 33, 34, 35, 36, 37, 38, 39, 40, 41], [15, 16, 17, 18, 19, 20, 21, 22, 23, 24, 25, 26, 27, 28, 29, 30, 31, 32, 33, 34, 35, 36, 37, 38, 39, 40, 41], [16, 17, 18, 19, 20, 21, 22, 23, 24, 25, 26, 27, 28, 29, 30, 31, 32, 33, 34, 35, 36, 37, 38, 39, 40, 41], [17, 18, 19, 20, 21, 22, 23, 24, 25, 26, 27, 28, 29, 30, 31, 32, 33, 34, 35, 36, 37, 38, 39, 40, 41], [18, 19, 20, 21, 22, 23, 24, 25, 26, 27, 28, 29, 30, 31, 32, 33, 34, 35, 36, 37, 38, 39, 40, 41], [19, 21, 22, 23, 26, 27, 28, 29, 30, 31, 32, 33, 34, 35, 36, 37, 38, 39, 40, 41], [21, 22, 23, 26, 27, 28, 29, 30, 31, 32, 33, 34, 35, 36, 37, 38, 39, 40, 41], [21, 22, 23, 26, 27, 28, 29, 30, 31, 32, 33, 34, 35, 36, 37, 38, 39, 40, 41], [22, 23, 26, 27, 28, 29, 30, 31, 32, 33, 34, 35, 36, 37, 38, 39, 40, 41], [23, 26, 27, 28, 29, 30, 31, 32, 33, 34, 35, 36, 37, 38, 39, 40, 41], [26, 27, 28, 29, 30, 31, 32, 33, 34, 35, 36, 37, 38, 39, 40, 41], [25, 26, 27, 28, 29, 30, 31, 32, 33, 34, 35, 36, 37, 38, 39, 40, 41], [26, 27, 28, 29, 30, 31, 32, 33, 34, 35, 36, 37, 38, 39, 40, 41], [27, 28, 29, 30, 31, 32, 33, 34, 35, 36, 37, 38, 39, 40, 41], [28, 29, 30, 31, 32, 33, 34, 35, 36, 37, 38, 39, 40, 41], [29, 30, 31, 32, 33, 34, 35, 36, 37, 38, 39, 40, 41], [30, 32, 33, 34, 37, 38, 39, 40, 41], [32, 33, 34, 37, 38, 39, 40, 41], [32, 33, 34, 37, 38, 39, 40, 41], [33, 34, 37, 38, 39, 40, 41], [34, 37, 38, 39, 40, 41], [37, 38, 39, 40, 41], [36, 37, 38, 39, 40, 41], [37, 38, 39, 40, 41], [38, 39, 40, 41], [39, 40, 41], [40, 41], [41], []] rfl rfl follow rfl ⟨
            .inl ⟨wants_plain rfl, does_move _ (.inl rfl) rfl rfl rfl rfl (ar_tmp (av_fs 28 rfl))⟩,
            .inl ⟨wants_plain rfl, does_move _ (.inl rfl) rfl rfl rfl rfl (ar_tmp (av_fs 1 rfl))⟩,
            .inl ⟨wants_plain rfl, does_cmp (m := (d.sortE a.args)) (n := (d.sortE a.args)) _ _ _ _ _ rfl rfl rfl rfl rfl rfl .i64 (ar_tmp (av_rs 0 0 rfl rfl)) (ar_tmp (av_rs 1 1 rfl rfl))⟩,
            .inl ⟨wants_plain rfl, does_move _ (.inl rfl) rfl rfl rfl rfl (ar_tmp (av_rs 2 2 rfl rfl))⟩,
            .inl ⟨wants_guard false rfl rfl rfl (av_bool (by simp) (av_rs 3 3 rfl rfl)), does_move _ (.inl rfl) rfl rfl rfl rfl (ar_tmp (av_fs 27 rfl))⟩,
            .inl ⟨wants_guard false rfl rfl rfl (av_bool (by simp) (av_rs 3 3 rfl rfl)), does_move _ (.inl rfl) rfl rfl rfl rfl (ar_tmp (av_fs 2 rfl))⟩,
            .inl ⟨wants_guard false rfl rfl rfl (av_bool (by simp) (av_rs 3 3 rfl rfl)), does_cmp (m := (d.sortR a.name a.args)) (n := (d.sortR a.name a.args)) _ _ _ _ _ rfl rfl rfl rfl rfl rfl .i64 (ar_tmp (av_rs 4 4 rfl rfl)) (ar_tmp (av_rs 5 5 rfl rfl))⟩,
            .inl ⟨wants_plain rfl, does_pick false _ _ _ rfl rfl rfl rfl rfl (ar_tmp (av_bool (by simp) (av_rs 3 3 rfl rfl))) (ar_tmp (av_rs 6 6 rfl rfl))⟩,
            .inl ⟨wants_plain rfl, does_move _ (.inl rfl) rfl rfl rfl rfl (ar_tmp (av_rs 7 7 rfl rfl))⟩,
            .inl ⟨wants_guard false rfl rfl rfl (av_bool (by simp) (av_rs 8 8 rfl rfl)), does_move _ (.inl rfl) rfl rfl rfl rfl (ar_tmp (av_fs 28 rfl))⟩,
            .inl ⟨wants_guard false rfl rfl rfl (av_bool (by simp) (av_rs 8 8 rfl rfl)), does_cmp (m := (d.sortE a.args)) (n := 0) _ _ _ _ _ rfl rfl rfl rfl rfl rfl .i64 (ar_tmp (av_rs 9 9 rfl rfl)) (ar_const (fun _ _ => rfl))⟩,
            .inl ⟨wants_guard false rfl rfl rfl (av_bool (by simp) (av_rs 8 8 rfl rfl)), does_move _ (.inl rfl) rfl rfl rfl rfl (ar_tmp (av_rs 10 10 rfl rfl))⟩,
            .inl ⟨wants_guard true rfl rfl rfl (av_bool hb4 (av_rs 11 11 rfl rfl)), does_move _ (.inl rfl) rfl rfl rfl rfl (ar_tmp (av_fs 27 rfl))⟩,
            .inl ⟨wants_guard true rfl rfl rfl (av_bool hb4 (av_rs 11 11 rfl rfl)), does_move _ (.inl rfl) rfl rfl rfl rfl (ar_tmp (av_fs 9 rfl))⟩,
            .inl ⟨wants_guard true rfl rfl rfl (av_bool hb4 (av_rs 11 11 rfl rfl)), does_callG [] [] [] 106 [0] (da_Sorts (v := va) (d := (d.sort a.name a.args)) (by omega) (hgs)) rfl DagN_hb___collator_dag_Arena__Sorts rfl rfl rfl rfl rfl ar_clo (ars_cons (pa_vp (ar_tmp (av_rs 13 13 rfl rfl))) ars_nil) ⟨(brw_own (av_fs 0 rfl) rfl), trivial⟩ trivial⟩,
            .inl ⟨wants_guard true rfl rfl rfl (av_bool hb4 (av_rs 11 11 rfl rfl)), does_len _ _ (by kernel_rfl) rfl rfl rfl rfl rfl (sl_tmp (av_rs 14 14 rfl rfl))⟩,
            .inl ⟨wants_guard true rfl rfl rfl (av_bool hb4 (av_rs 11 11 rfl rfl)), does_cmp (m := (d.sortR a.name a.args)) (n := ((((d.sort a.name a.args).sorts).length : Nat) : Int)) _ _ _ _ _ rfl rfl rfl rfl rfl rfl .i64 (ar_tmp (av_rs 12 12 rfl rfl)) (ar_tmp (av_rs 15 15 rfl rfl))⟩,
            .inl ⟨wants_guard true rfl rfl rfl (av_bool hb4 (av_rs 11 11 rfl rfl)), does_move _ (.inl rfl) rfl rfl rfl rfl (ar_tmp (av_rs 16 16 rfl rfl))⟩,
            .inl ⟨wants_guard false rfl rfl rfl (av_bool (decide_eq_false (by omega)) (av_rs 17 17 rfl rfl)), does_move _ (.inl rfl) rfl rfl rfl rfl (ar_tmp (av_fs 9 rfl))⟩,
            .inl ⟨wants_guard false rfl rfl rfl (av_bool (decide_eq_false (by omega)) (av_rs 17 17 rfl rfl)), does_callG [] [] [] 107 [0] (da_Sorts (v := va) (d := (d.sort a.name a.args)) (by omega) (hgs)) rfl DagN_hb___collator_dag_Arena__Sorts rfl rfl rfl rfl rfl ar_clo (ars_cons (pa_vp (ar_tmp (av_rs 18 18 rfl rfl))) ars_nil) ⟨(brw_own (av_fs 0 rfl) rfl), trivial⟩ trivial⟩,
            .inl ⟨wants_guard false rfl rfl rfl (av_bool (decide_eq_false (by omega)) (av_rs 17 17 rfl rfl)), does_move _ (.inl rfl) rfl rfl rfl rfl (ar_tmp (av_fs 27 rfl))⟩,
            .inl ⟨wants_guard false rfl rfl rfl (av_bool (decide_eq_false (by omega)) (av_rs 17 17 rfl rfl)), does_index (m := (d.sortR a.name a.args).toNat) _ _ Try.underlying53 DagN_size_api_Sort rfl rfl rfl rfl rfl _ (by omega) rfl (by omega) (sl_tmp (av_rs 19 19 rfl rfl)) (ar_int_eq (by omega) (ar_tmp (av_rs 20 20 rfl rfl)))⟩,
            .inl ⟨wants_guard false rfl rfl rfl (av_bool (decide_eq_false (by omega)) (av_rs 17 17 rfl rfl)), does_field _ _ _ 0 DagN_f_api_Sort_0 rfl rfl rfl rfl rfl rfl (pt_pt (av_rs 21 21 rfl rfl))⟩,
            .inl ⟨wants_guard false rfl rfl rfl (av_bool (decide_eq_false (by omega)) (av_rs 17 17 rfl rfl)), does_loadOne _ DagN_one_string rfl rfl rfl rfl rfl (pt_pt (av_rs 22 22 rfl rfl)) (rds_row (av_rs 19 19 rfl rfl) (hq_flat1 cSort_len hx 0 (by omega) rfl))⟩,
            .inl ⟨wants_guard false rfl rfl rfl (av_bool (decide_eq_false (by omega)) (av_rs 17 17 rfl rfl)), does_field _ _ _ 1 DagN_f_collatorlaw06_Act_1 rfl rfl rfl rfl rfl rfl (pt_ptr (ar_tmp (av_fs 6 rfl)))⟩,
            .inl ⟨wants_guard false rfl rfl rfl (av_bool (decide_eq_false (by omega)) (av_rs 17 17 rfl rfl)), does_loadOne _ DagN_one_string rfl rfl rfl rfl rfl (pt_pt (av_rs 24 24 rfl rfl)) (rds_box (off := 1) (av_fs 5 rfl) (hq_one rfl))⟩,
            .inl ⟨wants_guard false rfl rfl rfl (av_bool (decide_eq_false (by omega)) (av_rs 17 17 rfl rfl)), does_eqStr (u := x.name) (v := a.name) _ _ _ _ _ rfl rfl rfl rfl rfl rfl (ar_tmp (av_rs 23 23 rfl rfl)) (ar_tmp (av_rs 25 25 rfl rfl))⟩,
            .inl ⟨wants_guard true rfl rfl rfl (av_bool hb4 (av_rs 11 11 rfl rfl)), does_pick false _ _ _ rfl rfl rfl rfl rfl (ar_tmp (av_bool (decide_eq_false (by omega)) (av_rs 17 17 rfl rfl))) (ar_tmp (av_rs 26 26 rfl rfl))⟩,
            .inl ⟨wants_guard true rfl rfl rfl (av_bool hb4 (av_rs 11 11 rfl rfl)), does_move _ (.inl rfl) rfl rfl rfl rfl (ar_tmp (av_rs 27 27 rfl rfl))⟩,
            .inl ⟨wants_guard false rfl rfl rfl (av_bool (by rw [hxn]; simp) (av_rs 28 28 rfl rfl)), does_move _ (.inl rfl) rfl rfl rfl rfl (ar_tmp (av_fs 9 rfl))⟩,
            .inl ⟨wants_guard false rfl rfl rfl (av_bool (by rw [hxn]; simp) (av_rs 28 28 rfl rfl)), does_callG [] [] [] 108 [0] (da_Sorts (v := va) (d := (d.sort a.name a.args)) (by omega) (hgs)) rfl DagN_hb___collator_dag_Arena__Sorts rfl rfl rfl rfl rfl ar_clo (ars_cons (pa_vp (ar_tmp (av_rs 29 29 rfl rfl))) ars_nil) ⟨(brw_own (av_fs 0 rfl) rfl), trivial⟩ trivial⟩,
            .inl ⟨wants_guard false rfl rfl rfl (av_bool (by rw [hxn]; simp) (av_rs 28 28 rfl rfl)), does_move _ (.inl rfl) rfl rfl rfl rfl (ar_tmp (av_fs 27 rfl))⟩,
            .inl ⟨wants_guard false rfl rfl rfl (av_bool (by rw [hxn]; simp) (av_rs 28 28 rfl rfl)), does_index (m := (d.sortR a.name a.args).toNat) _ _ Try.underlying53 DagN_size_api_Sort rfl rfl rfl rfl rfl _ (by omega) rfl (by omega) (sl_tmp (av_rs 30 30 rfl rfl)) (ar_int_eq (by omega) (ar_tmp (av_rs 31 31 rfl rfl)))⟩,
            .inl ⟨wants_guard false rfl rfl rfl (av_bool (by rw [hxn]; simp) (av_rs 28 28 rfl rfl)), does_field _ _ _ 1 DagN_f_api_Sort_1 rfl rfl rfl rfl rfl rfl (pt_pt (av_rs 32 32 rfl rfl))⟩,
            .inl ⟨wants_guard false rfl rfl rfl (av_bool (by rw [hxn]; simp) (av_rs 28 28 rfl rfl)), does_loadOne _ DagN_one___int rfl rfl rfl rfl rfl (pt_pt (av_rs 33 33 rfl rfl)) (rds_row (av_rs 30 30 rfl rfl) (hq_flat1 cSort_len hx 1 (by omega) rfl))⟩,
            .inl ⟨wants_guard false rfl rfl rfl (av_bool (by rw [hxn]; simp) (av_rs 28 28 rfl rfl)), does_field _ _ _ 2 DagN_f_collatorlaw06_Act_2 rfl rfl rfl rfl rfl rfl (pt_ptr (ar_tmp (av_fs 6 rfl)))⟩,
            .inl ⟨wants_guard false rfl rfl rfl (av_bool (by rw [hxn]; simp) (av_rs 28 28 rfl rfl)), does_loadOne _ DagN_one___int rfl rfl rfl rfl rfl (pt_pt (av_rs 35 35 rfl rfl)) (rds_box (off := 2) (av_fs 5 rfl) (hq_one rfl))⟩,
            .inl ⟨wants_guard false rfl rfl rfl (av_bool (by rw [hxn]; simp) (av_rs 28 28 rfl rfl)), does_call (dg_SameInts x.args a.args) (fun _ _ _ _ h => h) rfl DagN_hb_collator_collatorref06_SameInts rfl rfl rfl rfl ar_clo (ars_cons (pa_slcRo (ar_tmp (av_rs 34 34 rfl rfl)) (flat_nil_iff cInt_len (by decide) _)) (ars_cons (pa_slcRo (ar_tmp (av_rs 36 36 rfl rfl)) (flat_nil_iff cInt_len (by decide) _)) ars_nil)) trivial⟩,
            .inl ⟨wants_guard false rfl rfl rfl (av_bool (by rw [hxn]; simp) (av_rs 28 28 rfl rfl)), does_not true _ _ rfl rfl rfl rfl rfl (ar_tmp (av_bool (by rw [hxa]; simp) (av_rs 37 37 rfl rfl)))⟩,
            .inl ⟨wants_guard true rfl rfl rfl (av_bool hb4 (av_rs 11 11 rfl rfl)), does_pick false _ _ _ rfl rfl rfl rfl rfl (ar_tmp (av_bool (by rw [hxn]; simp) (av_rs 28 28 rfl rfl))) (ar_tmp (av_rs 38 38 rfl rfl))⟩,
            .inl ⟨wants_guard false rfl rfl rfl (av_bool (by simp) (av_rs 8 8 rfl rfl)), does_pick true _ _ _ rfl rfl rfl rfl rfl (ar_tmp (av_bool hb4 (av_rs 11 11 rfl rfl))) (ar_tmp (av_rs 39 39 rfl rfl))⟩,
            .inl ⟨wants_plain rfl, does_pick false _ _ _ rfl rfl rfl rfl rfl (ar_tmp (av_bool (by simp) (av_rs 8 8 rfl rfl))) (ar_tmp (av_rs 40 40 rfl rfl))⟩,
            trivial⟩ ?_
          refine nx_then ?_
          refine t_pick [51, 0, 1, 2, 3, 4, 5, 6, 7, 8, 9, 10, 11, 12, 13, 14, 15, 16, 17, 18, 19, 20, 21, 22, 23, 24, 25, 26, 27, 28, 29, 30, 31, 32, 33, 34, 35, 36, 37, 38, 39, 40, 41, 42, 43, 44, 45, 46, 47, 48, 49, 50, 52, 53, 54, 55, 56, 57, 58, 59, 60, 61, 62, 63, 64, 65, 66, 67, 68, 69, 70, 71, 72, 73, 74, 75, 76, 77, 78] rfl ?_
          refine t_name rfl fun v5 => ?_
          refine t_pick [57, 0, 1, 2, 3, 4, 5, 6, 7, 8, 9, 10, 11, 12, 13, 14, 15, 16, 17, 18, 19, 20, 21, 22, 23, 24, 25, 26, 27, 28, 29, 30, 31, 32, 33, 34, 35, 36, 37, 38, 39, 40, 41, 42, 43, 44, 45, 46, 47, 48, 49, 50, 51, 52, 53, 54, 55, 56, 58, 59, 60, 61, 62, 63, 64, 65, 66, 67, 68, 69, 70, 71, 72, 73, 74, 75, 76, 77, 78, 79] rfl ?_
          refine t_name rfl fun v6 => ?_
          refine t_pick [69, 0, 1, 2, 3, 4, 5, 6, 7, 8, 9, 10, 11, 12, 13, 14, 15, 16, 17, 18, 19, 20, 21, 22, 23, 24, 25, 26, 27, 28, 29, 30, 31, 32, 33, 34, 35, 36, 37, 38, 39, 40, 41, 42, 43, 44, 45, 46, 47, 48, 49, 50, 51, 52, 53, 54, 55, 56, 57, 58, 59, 60, 61, 62, 63, 64, 65, 66, 67, 68, 70, 71, 72, 73, 74, 75, 76, 77, 78, 79, 80] rfl ?_
          refine t_name rfl fun v7 => ?_
          refine t_cond_f 81 rfl ?_
          refine t_skip ?_
          refine nx_then ?_
          refine t_seq ?_
          refine t_region (F := ⟨_, _, _, _, _, _⟩) [.own 108 (.val v7) (R_sort ((d.sort a.name a.args).sorts)), .is (.tmp 82) (VP.eq v7 true true), .own 107 (.val v6) (R_sort ((d.sort a.name a.args).sorts)), .is (.tmp 71) (VP.eq v6 true true), .own 106 (.val v5) (R_sort ((d.sort a.name a.args).sorts)), .is (.tmp 66) (VP.eq v5 true true), .own 101 (.val va) (Arn (d.sort a.name a.args)), .is (.tmp 10) (VP.int .i64 (d.sortE a.args)), .is (.tmp 9) (VP.int .i64 (d.sortR a.name a.args)), .is (.tmp 49) (VP.tup [VP.int .i64 ((d.sort a.name a.args).sortR a.name a.args), VP.int .i64 ((d.sort a.name a.args).sortE a.args)]), .is (.tmp 40) (VP.tup [VP.int .i64 (d.sortR a.name a.args), VP.int .i64 (d.sortE a.args)]), .own 103 (.val ca) (B_act6 a), .is (.tmp 6) (VP.ptr ca), .own 102 (.val vk) (R_fun d.funs), .is (.tmp 4) (VP.eq vk true true), .is (.tmp 3) (VP.ptr va), .is (.tmp 25) (O_act6 l), .is (.tmp 26) (VP.int .i64 ((l.length : Nat) : Int)), .is (.tmp 27) (VP.int .i64 ((k : Nat) : Int)), .is (.tmp 28) (VP.bool (decide (((k : Nat) : Int) < ((l.length : Nat) : Int)))), .pt 29 (.row (.tmp 25) (k * 8)), .is (.tmp 30) (VP.agg [VP.int .i64 a.what, VP.str a.name, O_int a.args, VP.int .i64 a.res, VP.int .i64 a.term.op, VP.int .i64 a.term.fn, O_int a.term.kids, VP.str a.term.num]), .pt 31 (.blk (.val ca) 0), .is (.tmp 32) (VP.int .i64 a.what), .is (.tmp 33) (VP.bool (a.what == 0)), .is (.tmp 35) (VP.ptr va), .pt 36 (.blk (.val ca) 1), .is (.tmp 37) (VP.str a.name), .pt 38 (.blk (.val ca) 2), .is (.tmp 39) (O_int a.args), .is (.tmp 34) (VP.tup [VP.int .i64 (d.sortR a.name a.args), VP.int .i64 (d.sortE a.args)]), .is (.tmp 41) (VP.int .i64 (d.sortR a.name a.args)), .is (.tmp 42) (VP.int .i64 (d.sortE a.args)), .is (.tmp 7) (VP.int .i64 (d.sortR a.name a.args)), .is (.tmp 8) (VP.int .i64 (d.sortE a.args)), .is (.tmp 44) (VP.ptr va), .pt 45 (.blk (.val ca) 1), .is (.tmp 46) (VP.str a.name), .pt 47 (.blk (.val ca) 2), .is (.tmp 48) (O_int a.args), .is (.tmp 43) (VP.tup [VP.int .i64 ((d.sort a.name a.args).sortR a.name a.args), VP.int .i64 ((d.sort a.name a.args).sortE a.args)]), .is (.tmp 50) (VP.int .i64 ((d.sort a.name a.args).sortR a.name a.args)), .is (.tmp 51) (VP.int .i64 ((d.sort a.name a.args).sortE a.args)), .is (.tmp 52) (VP.int .i64 (d.sortE a.args)), .is (.tmp 53) (VP.int .i64 (d.sortE a.args)), .is (.tmp 54) (VP.bool ((d.sortE a.args) != (d.sortE a.args))), .is (.tmp 55) (VP.bool ((d.sortE a.args) != (d.sortE a.args))), .is (.tmp 56) (VP.int .i64 (d.sortR a.name a.args)), .is (.tmp 57) (VP.int .i64 (d.sortR a.name a.args)), .is (.tmp 58) (VP.bool ((d.sortR a.name a.args) != (d.sortR a.name a.args))), .is (.tmp 59) (VP.bool ((d.sortR a.name a.args) != (d.sortR a.name a.args))), .is (.tmp 60) (VP.bool ((d.sortR a.name a.args) != (d.sortR a.name a.args))), .is (.tmp 61) (VP.int .i64 (d.sortE a.args)), .is (.tmp 62) (VP.bool ((d.sortE a.args) == 0)), .is (.tmp 63) (VP.bool ((d.sortE a.args) == 0)), .is (.tmp 64) (VP.int .i64 (d.sortR a.name a.args)), .is (.tmp 65) (VP.ptr va), .is (.tmp 67) (VP.int .i64 ((((d.sort a.name a.args).sorts).length : Nat) : Int)), .is (.tmp 68) (VP.bool (decide ((d.sortR a.name a.args) ≥ ((((d.sort a.name a.args).sorts).length : Nat) : Int)))), .is (.tmp 69) (VP.bool (decide ((d.sortR a.name a.args) ≥ ((((d.sort a.name a.args).sorts).length : Nat) : Int)))), .is (.tmp 70) (VP.ptr va), .is (.tmp 72) (VP.int .i64 (d.sortR a.name a.args)), .pt 73 (.row (.tmp 71) (((d.sortR a.name a.args).toNat) * 2)), .pt 74 (.row (.tmp 71) ((((d.sortR a.name a.args).toNat) * 2) + 0)), .is (.tmp 75) (VP.str x.name), .pt 76 (.blk (.val ca) 1), .is (.tmp 77) (VP.str a.name), .is (.tmp 78) (VP.bool (!(x.name.toList == a.name.toList))), .is (.tmp 79) (VP.bool (!(x.name.toList == a.name.toList))), .is (.tmp 80) (VP.bool (!(x.name.toList == a.name.toList))), .is (.tmp 81) (VP.ptr va), .is (.tmp 83) (VP.int .i64 (d.sortR a.name a.args)), .pt 84 (.row (.tmp 82) (((d.sortR a.name a.args).toNat) * 2)), .pt 85 (.row (.tmp 82) ((((d.sortR a.name a.args).toNat) * 2) + 1)), .is (.tmp 86) (O_int x.args), .pt 87 (.blk (.val ca) 2), .is (.tmp 88) (O_int a.args), .is (.tmp 89) (VP.bool (x.args == a.args)), .is (.tmp 90) (VP.bool false), .is (.tmp 91) (VP.bool false), .is (.tmp 92) (VP.bool false), .is (.tmp 93) (VP.bool false)] [] [(0, .pt 94 (.blk (.val ca) 2)), (1, .is (.tmp 95) (O_int a.args)), (2, .is (.tmp 96) (VP.int .i64 ((a.args.length : Nat) : Int))), (3, .is (.tmp 97) (VP.int .i64 0))] [] [0, 1, 2, 3, 4, 5, 6, 7, 8, 9, 10, 11, 12, 13, 14, 15, 16, 17, 18, 19, 20, 21, 22, 23, 24, 25, 26, 27, 28, 29, 30, 31, 32, 33, 34, 35, 36, 37, 38, 39, 40, 41, 42, 43, 44, 45, 46, 47, 48, 49, 50, 51, 52, 53, 54, 55, 56, 57, 58, 59, 60, 61, 62, 63, 64, 65, 66, 67, 68, 69, 70, 71, 72, 73, 74, 75, 76, 77, 78, 79, 80, 81] [] [[], [0], [0, 1], []] [[1, 2], [2], [], []] rfl rfl follow rfl ⟨
            .inl ⟨wants_plain rfl, does_field _ _ _ 2 DagN_f_collatorlaw06_Act_2 rfl rfl rfl rfl rfl rfl (pt_ptr (ar_tmp (av_fs 12 rfl)))⟩,
            .inl ⟨wants_plain rfl, does_loadOne _ DagN_one___int rfl rfl rfl rfl rfl (pt_pt (av_rs 0 0 rfl rfl)) (rds_box (off := 2) (av_fs 11 rfl) (hq_one rfl))⟩,
            .inl ⟨wants_plain rfl, does_len _ _ (by kernel_rfl) rfl rfl rfl rfl rfl (sl_ro (av_rs 1 1 rfl rfl) (flat_nil_iff cInt_len (by decide) _))⟩,
            .inl ⟨wants_plain rfl, does_move _ (.inl rfl) rfl rfl rfl rfl (ar_const (fun _ _ => rfl))⟩,
            trivial⟩ ?_
          refine nx_then ?_
          refine t_block ?_
          refine t_pick [85, 0, 1, 2, 3, 4, 5, 6, 7, 8, 9, 10, 11, 12, 13, 14, 15, 16, 17, 18, 19, 20, 21, 22, 23, 24, 25, 26, 27, 28, 29, 30, 31, 32, 33, 34, 35, 36, 37, 38, 39, 40, 41, 42, 43, 44, 45, 46, 47, 48, 49, 50, 51, 52, 53, 54, 55, 56, 57, 58, 59, 60, 61, 62, 63, 64, 65, 66, 67, 68, 69, 70, 71, 72, 73, 74, 75, 76, 77, 78, 79, 80, 81, 82, 83, 84] rfl ?_
          refine t_slot (y := VP.int .i64 ((0 : Nat) : Int)) (fun _ _ _ h => h) ?_
          refine t_loop (τ := {m : Nat // m ≤ a.args.length}) (fun ⟨m, _⟩ => [.is (.tmp 3) (VP.ptr va), .is (.tmp 25) (O_act6 l), .is (.tmp 26) (VP.int .i64 ((l.length : Nat) : Int)), .is (.tmp 27) (VP.int .i64 ((k : Nat) : Int)), .is (.tmp 6) (VP.ptr ca), .is (.tmp 7) (VP.int .i64 (d.sortR a.name a.args)), .is (.tmp 8) (VP.int .i64 (d.sortE a.args)), .is (.tmp 95) (O_int a.args), .is (.tmp 96) (VP.int .i64 ((a.args.length : Nat) : Int)), .is (.tmp 97) (VP.int .i64 ((m : Nat) : Int)), .own 101 (.val va) (Arn (d.sort a.name a.args)), .own 103 (.val ca) (B_act6 a), .own 102 (.val vk) (R_fun d.funs), .is (.tmp 4) (VP.eq vk true true)]) (fun ⟨m, _⟩ => a.args.length - m) (⟨0, Nat.zero_le _⟩) [16, 17, 18, 19, 13, 34, 35, 84, 85, 0, 7, 12, 14, 15] rfl ?_
          rintro ⟨m, hm⟩
          refine t_seq ?_
          refine t_region (F := ⟨_, _, _, _, _, _⟩) [.is (.tmp 3) (VP.ptr va), .is (.tmp 25) (O_act6 l), .is (.tmp 26) (VP.int .i64 ((l.length : Nat) : Int)), .is (.tmp 27) (VP.int .i64 ((k : Nat) : Int)), .is (.tmp 6) (VP.ptr ca), .is (.tmp 7) (VP.int .i64 (d.sortR a.name a.args)), .is (.tmp 8) (VP.int .i64 (d.sortE a.args)), .is (.tmp 95) (O_int a.args), .is (.tmp 96) (VP.int .i64 ((a.args.length : Nat) : Int)), .is (.tmp 97) (VP.int .i64 ((m : Nat) : Int)), .own 101 (.val va) (Arn (d.sort a.name a.args)), .own 103 (.val ca) (B_act6 a), .own 102 (.val vk) (R_fun d.funs), .is (.tmp 4) (VP.eq vk true true)] [] [(0, .is (.tmp 98) (VP.bool (decide (((m : Nat) : Int) < ((a.args.length : Nat) : Int)))))] [] [0, 1, 2, 3, 4, 5, 6, 7, 8, 9, 10, 11, 12, 13] [] [[]] [[]] rfl rfl follow rfl ⟨
            .inl ⟨wants_plain rfl, does_cmp (m := ((m : Nat) : Int)) (n := ((a.args.length : Nat) : Int)) _ _ _ _ _ rfl rfl rfl rfl rfl rfl .i64 (ar_tmp (av_fs 9 rfl)) (ar_tmp (av_fs 8 rfl))⟩,
            trivial⟩ ?_
          refine nx_then ?_
          refine t_seq ?_
          refine t_split 14 rfl (fun hb8 => ?_) (fun hb8 => ?_)
          · have hc8 := of_decide_eq_true hb8
            obtain ⟨y, hy⟩ : ∃ y, a.args[m]? = some y := ⟨_, List.getElem?_eq_getElem (by omega)⟩
            have hym := List.mem_of_getElem? hy
            refine t_skip ?_
            refine nx_then ?_
            refine t_seq ?_
            refine t_block ?_
            refine t_seq ?_
            refine t_region (F := ⟨_, _, _, _, _, _⟩) [.is (.tmp 3) (VP.ptr va), .is (.tmp 25) (O_act6 l), .is (.tmp 26) (VP.int .i64 ((l.length : Nat) : Int)), .is (.tmp 27) (VP.int .i64 ((k : Nat) : Int)), .is (.tmp 6) (VP.ptr ca), .is (.tmp 7) (VP.int .i64 (d.sortR a.name a.args)), .is (.tmp 8) (VP.int .i64 (d.sortE a.args)), .is (.tmp 95) (O_int a.args), .is (.tmp 96) (VP.int .i64 ((a.args.length : Nat) : Int)), .is (.tmp 97) (VP.int .i64 ((m : Nat) : Int)), .own 101 (.val va) (Arn (d.sort a.name a.args)), .own 103 (.val ca) (B_act6 a), .own 102 (.val vk) (R_fun d.funs), .is (.tmp 4) (VP.eq vk true true), .is (.tmp 98) (VP.bool (decide (((m : Nat) : Int) < ((a.args.length : Nat) : Int))))] [] [(0, .pt 99 (.row (.tmp 95) (m * 1))), (1, .is (.tmp 100) (VP.int .i64 y)), (2, .is (.tmp 12) (VP.int .i64 y))] [] [0, 1, 2, 3, 4, 5, 6, 7, 8, 9, 10, 11, 12, 13, 14] [] [[], [0], [0, 1]] [[1, 2], [2], []] rfl rfl follow rfl ⟨
              .inl ⟨wants_plain rfl, does_index (m := m) _ _ Try.underlying28 DagN_size_int rfl rfl rfl rfl rfl _ (by omega) rfl (by omega) (sl_ro (av_fs 7 rfl) (flat_nil_iff cInt_len (by decide) _)) (ar_tmp (av_fs 9 rfl))⟩,
              .inl ⟨wants_plain rfl, does_loadOne _ DagN_one_int rfl rfl rfl rfl rfl (pt_pt (av_rs 0 0 rfl rfl)) (rds_ro (av_fs 7 rfl) (hq_flatV1 cInt_len hy 0 (by omega) rfl))⟩,
              .inl ⟨wants_plain rfl, does_move _ (.inr rfl) rfl rfl rfl rfl (ar_tmp (av_rs 1 1 rfl rfl))⟩,
              trivial⟩ ?_
            refine nx_then ?_
            refine t_seq ?_
            refine t_region (F := ⟨_, _, _, _, _, _⟩) [.is (.tmp 3) (VP.ptr va), .is (.tmp 25) (O_act6 l), .is (.tmp 26) (VP.int .i64 ((l.length : Nat) : Int)), .is (.tmp 27) (VP.int .i64 ((k : Nat) : Int)), .is (.tmp 6) (VP.ptr ca), .is (.tmp 7) (VP.int .i64 (d.sortR a.name a.args)), .is (.tmp 8) (VP.int .i64 (d.sortE a.args)), .is (.tmp 95) (O_int a.args), .is (.tmp 96) (VP.int .i64 ((a.args.length : Nat) : Int)), .is (.tmp 97) (VP.int .i64 ((m : Nat) : Int)), .own 101 (.val va) (Arn (d.sort a.name a.args)), .own 103 (.val ca) (B_act6 a), .own 102 (.val vk) (R_fun d.funs), .is (.tmp 4) (VP.eq vk true true), .is (.tmp 98) (VP.bool (decide (((m : Nat) : Int) < ((a.args.length : Nat) : Int)))), .pt 99 (.row (.tmp 95) (m * 1)), .is (.tmp 100) (VP.int .i64 y), .is (.tmp 12) (VP.int .i64 y)] [] [(0, .is (.tmp 101) (VP.int .i64 (d.sortE a.args))), (1, .is (.tmp 102) (VP.bool ((d.sortE a.args) == 0))), (2, .is (.tmp 103) (VP.bool ((d.sortE a.args) == 0))), (3, .is (.tmp 104) (VP.int .i64 y)), (4, .is (.tmp 105) (VP.int .i64 (d.sortR a.name a.args))), (5, .is (.tmp 106) (VP.bool (decide (y ≥ (d.sortR a.name a.args))))), (6, .is (.tmp 107) (VP.bool (decide (y ≥ (d.sortR a.name a.args)))))] [] [0, 1, 2, 3, 4, 5, 6, 7, 8, 9, 10, 11, 12, 13, 14, 15, 16, 17] [] [[], [0], [0, 1], [0, 1, 2], [0, 1, 2], [0, 1, 2, 3, 4], [0, 1, 2, 3, 4, 5]] [[1, 2, 3, 4, 5, 6], [2, 3, 4, 5, 6], [3, 4, 5, 6], [5, 6], [5, 6], [6], []] rfl rfl follow rfl ⟨
              .inl ⟨wants_plain rfl, does_move _ (.inl rfl) rfl rfl rfl rfl (ar_tmp (av_fs 6 rfl))⟩,
              .inl ⟨wants_plain rfl, does_cmp (m := (d.sortE a.args)) (n := 0) _ _ _ _ _ rfl rfl rfl rfl rfl rfl .i64 (ar_tmp (av_rs 0 0 rfl rfl)) (ar_const (fun _ _ => rfl))⟩,
              .inl ⟨wants_plain rfl, does_move _ (.inl rfl) rfl rfl rfl rfl (ar_tmp (av_rs 1 1 rfl rfl))⟩,
              .inl ⟨wants_guard true rfl rfl rfl (av_bool hb4 (av_rs 2 2 rfl rfl)), does_move _ (.inl rfl) rfl rfl rfl rfl (ar_tmp (av_fs 17 rfl))⟩,
              .inl ⟨wants_guard true rfl rfl rfl (av_bool hb4 (av_rs 2 2 rfl rfl)), does_move _ (.inl rfl) rfl rfl rfl rfl (ar_tmp (av_fs 5 rfl))⟩,
              .inl ⟨wants_guard true rfl rfl rfl (av_bool hb4 (av_rs 2 2 rfl rfl)), does_cmp (m := y) (n := (d.sortR a.name a.args)) _ _ _ _ _ rfl rfl rfl rfl rfl rfl .i64 (ar_tmp (av_rs 3 3 rfl rfl)) (ar_tmp (av_rs 4 4 rfl rfl))⟩,
              .inl ⟨wants_plain rfl, does_pick true _ _ _ rfl rfl rfl rfl rfl (ar_tmp (av_bool hb4 (av_rs 2 2 rfl rfl))) (ar_tmp (av_rs 5 5 rfl rfl))⟩,
              trivial⟩ ?_
            refine nx_then ?_
            refine t_cond_fe 24 rfl (decide_eq_false (by have := sort_lo (n := a.name) hI hga (eq_of_beq hb4) y hym; omega)) ?_
            refine t_skip ?_
            refine nx_block ?_
            refine nx_then ?_
            refine t_region (F := ⟨_, _, _, _, _, _⟩) [.is (.tmp 3) (VP.ptr va), .is (.tmp 25) (O_act6 l), .is (.tmp 26) (VP.int .i64 ((l.length : Nat) : Int)), .is (.tmp 27) (VP.int .i64 ((k : Nat) : Int)), .is (.tmp 6) (VP.ptr ca), .is (.tmp 7) (VP.int .i64 (d.sortR a.name a.args)), .is (.tmp 8) (VP.int .i64 (d.sortE a.args)), .is (.tmp 95) (O_int a.args), .is (.tmp 96) (VP.int .i64 ((a.args.length : Nat) : Int)), .own 101 (.val va) (Arn (d.sort a.name a.args)), .own 103 (.val ca) (B_act6 a), .own 102 (.val vk) (R_fun d.funs), .is (.tmp 4) (VP.eq vk true true), .is (.tmp 98) (VP.bool (decide (((m : Nat) : Int) < ((a.args.length : Nat) : Int)))), .pt 99 (.row (.tmp 95) (m * 1)), .is (.tmp 100) (VP.int .i64 y), .is (.tmp 12) (VP.int .i64 y), .is (.tmp 101) (VP.int .i64 (d.sortE a.args)), .is (.tmp 102) (VP.bool ((d.sortE a.args) == 0)), .is (.tmp 103) (VP.bool ((d.sortE a.args) == 0)), .is (.tmp 104) (VP.int .i64 y), .is (.tmp 105) (VP.int .i64 (d.sortR a.name a.args)), .is (.tmp 106) (VP.bool (decide (y ≥ (d.sortR a.name a.args)))), .is (.tmp 107) (VP.bool (decide (y ≥ (d.sortR a.name a.args))))] [(1, .is (.tmp 97) (VP.int .i64 ((m : Nat) : Int)))] [(0, .is (.tmp 108) (VP.int .i64 (((m + 1) : Nat) : Int))), (1, .is (.tmp 97) (VP.int .i64 (((m + 1) : Nat) : Int)))] [] [0, 1, 2, 3, 4, 5, 6, 7, 8, 10, 11, 12, 13, 14, 15, 16, 17, 18, 19, 20, 21, 22, 23, 24] [9] [[], [0]] [[1], []] rfl rfl follow rfl ⟨
              .inl ⟨wants_plain rfl, does_addE (m := ((m : Nat) : Int)) (n := 1) (x := (((m + 1) : Nat) : Int)) (by omega) _ _ _ _ rfl rfl rfl rfl rfl (by omega) (ar_tmp (av_os 0 1 rfl rfl)) (ar_const (fun _ _ => rfl))⟩,
              .inl ⟨wants_plain rfl, does_move _ (.inl rfl) rfl rfl rfl rfl (ar_tmp (av_rs 0 0 rfl rfl))⟩,
              trivial⟩ ?_
            refine nx_round (τ := {m : Nat // m ≤ a.args.length}) (I := fun ⟨m, _⟩ => [.is (.tmp 3) (VP.ptr va), .is (.tmp 25) (O_act6 l), .is (.tmp 26) (VP.int .i64 ((l.length : Nat) : Int)), .is (.tmp 27) (VP.int .i64 ((k : Nat) : Int)), .is (.tmp 6) (VP.ptr ca), .is (.tmp 7) (VP.int .i64 (d.sortR a.name a.args)), .is (.tmp 8) (VP.int .i64 (d.sortE a.args)), .is (.tmp 95) (O_int a.args), .is (.tmp 96) (VP.int .i64 ((a.args.length : Nat) : Int)), .is (.tmp 97) (VP.int .i64 ((m : Nat) : Int)), .own 101 (.val va) (Arn (d.sort a.name a.args)), .own 103 (.val ca) (B_act6 a), .own 102 (.val vk) (R_fun d.funs), .is (.tmp 4) (VP.eq vk true true)]) (μ := fun ⟨m, _⟩ => a.args.length - m) (s := ⟨m, hm⟩) (⟨m + 1, by omega⟩) ?_ [0, 1, 2, 3, 4, 5, 6, 7, 8, 25, 9, 10, 11, 12] ?_
            · exact (show a.args.length - (m + 1) < a.args.length - m by omega)
            · exact rfl
          · have hc8 := of_decide_eq_false hb8
            refine t_exit ?_
            refine ex_then ?_
            refine ex_then ?_
            refine ex_block ?_
            refine nx_then ?_
            refine t_seq ?_
            refine t_region (F := ⟨_, _, _, _, _, _⟩) [.is (.tmp 3) (VP.ptr va), .is (.tmp 25) (O_act6 l), .is (.tmp 26) (VP.int .i64 ((l.length : Nat) : Int)), .is (.tmp 27) (VP.int .i64 ((k : Nat) : Int)), .is (.tmp 6) (VP.ptr ca), .is (.tmp 7) (VP.int .i64 (d.sortR a.name a.args)), .is (.tmp 8) (VP.int .i64 (d.sortE a.args)), .is (.tmp 95) (O_int a.args), .is (.tmp 96) (VP.int .i64 ((a.args.length : Nat) : Int)), .is (.tmp 97) (VP.int .i64 ((m : Nat) : Int)), .own 101 (.val va) (Arn (d.sort a.name a.args)), .own 103 (.val ca) (B_act6 a), .own 102 (.val vk) (R_fun d.funs), .is (.tmp 4) (VP.eq vk true true), .is (.tmp 98) (VP.bool (decide (((m : Nat) : Int) < ((a.args.length : Nat) : Int))))] [] [(0, .pt 109 (.blk (.val ca) 0)), (1, .is (.tmp 110) (VP.int .i64 a.what)), (2, .is (.tmp 111) (VP.bool (a.what == 1)))] [] [0, 1, 2, 3, 4, 5, 6, 7, 8, 9, 10, 11, 12, 13, 14] [] [[], [0], [0, 1]] [[1, 2], [2], []] rfl rfl follow rfl ⟨
              .inl ⟨wants_plain rfl, does_field _ _ _ 0 DagN_f_collatorlaw06_Act_0 rfl rfl rfl rfl rfl rfl (pt_ptr (ar_tmp (av_fs 4 rfl)))⟩,
              .inl ⟨wants_plain rfl, does_loadOne _ DagN_one_int rfl rfl rfl rfl rfl (pt_pt (av_rs 0 0 rfl rfl)) (rds_box (off := 0) (av_fs 11 rfl) (hq_one rfl))⟩,
              .inl ⟨wants_plain rfl, does_cmp (m := a.what) (n := 1) _ _ _ _ _ rfl rfl rfl rfl rfl rfl .i64 (ar_tmp (av_rs 1 1 rfl rfl)) (ar_const (fun _ _ => rfl))⟩,
              trivial⟩ ?_
            refine nx_then ?_
            refine t_cond_fe 17 rfl (by rw [eq_of_beq hb3]; rfl) ?_
            refine t_skip ?_
            refine nx_block ?_
            refine nx_then ?_
            refine t_region (F := ⟨_, _, _, _, _, _⟩) [.is (.tmp 3) (VP.ptr va), .is (.tmp 25) (O_act6 l), .is (.tmp 26) (VP.int .i64 ((l.length : Nat) : Int)), .is (.tmp 6) (VP.ptr ca), .is (.tmp 7) (VP.int .i64 (d.sortR a.name a.args)), .is (.tmp 8) (VP.int .i64 (d.sortE a.args)), .is (.tmp 95) (O_int a.args), .is (.tmp 96) (VP.int .i64 ((a.args.length : Nat) : Int)), .is (.tmp 97) (VP.int .i64 ((m : Nat) : Int)), .own 101 (.val va) (Arn (d.sort a.name a.args)), .own 103 (.val ca) (B_act6 a), .own 102 (.val vk) (R_fun d.funs), .is (.tmp 4) (VP.eq vk true true), .is (.tmp 98) (VP.bool (decide (((m : Nat) : Int) < ((a.args.length : Nat) : Int)))), .pt 109 (.blk (.val ca) 0), .is (.tmp 110) (VP.int .i64 a.what), .is (.tmp 111) (VP.bool (a.what == 1))] [(1, .is (.tmp 27) (VP.int .i64 ((k : Nat) : Int)))] [(0, .is (.tmp 135) (VP.int .i64 (((k + 1) : Nat) : Int))), (1, .is (.tmp 27) (VP.int .i64 (((k + 1) : Nat) : Int)))] [] [0, 1, 2, 4, 5, 6, 7, 8, 9, 10, 11, 12, 13, 14, 15, 16, 17] [3] [[], [0]] [[1], []] rfl rfl follow rfl ⟨
              .inl ⟨wants_plain rfl, does_addE (m := ((k : Nat) : Int)) (n := 1) (x := (((k + 1) : Nat) : Int)) (by omega) _ _ _ _ rfl rfl rfl rfl rfl (by omega) (ar_tmp (av_os 0 1 rfl rfl)) (ar_const (fun _ _ => rfl))⟩,
              .inl ⟨wants_plain rfl, does_move _ (.inl rfl) rfl rfl rfl rfl (ar_tmp (av_rs 0 0 rfl rfl))⟩,
              trivial⟩ ?_
            refine t_pick [11, 12, 0, 1, 2, 3, 4, 5, 6, 7, 8, 9, 10, 13, 14, 15, 16, 17, 18] rfl ?_
            refine t_untmp rfl ?_
            refine t_weak (R' := R_fun ((d.sort a.name a.args).funs)) (fun _ _ _ _ h => by rw [sort_funs d a.name a.args]; exact h) rfl ?_
            refine nx_round (τ := {p : Nat × ArD // p.1 ≤ l.length ∧ SInv p.2 p.1}) (I := fun ⟨(k, d), _⟩ => [.is (.tmp 3) (VP.ptr va), .is (.tmp 25) (O_act6 l), .is (.tmp 26) (VP.int .i64 ((l.length : Nat) : Int)), .is (.tmp 27) (VP.int .i64 ((k : Nat) : Int)), .own 101 (.val va) (Arn d), .own 102 (.tmp 4) (R_fun d.funs)]) (μ := fun ⟨(k, d), _⟩ => l.length - k) (s := ⟨(k, d), hk, hI⟩) (⟨(k + 1, (d.sort a.name a.args)), (show k + 1 ≤ l.length by omega), sinv_sort hI a.name a.args hga⟩) ?_ [1, 2, 3, 17, 10, 0] ?_
            · exact (show l.length - (k + 1) < l.length - k by omega)
            · exact rfl
        · have hc4 := ne_of_beq_false hb4
          refine t_region (F := ⟨_, _, _, _, _, _⟩) [.own 101 (.val va) (Arn (d.sort a.name a.args)), .is (.tmp 10) (VP.int .i64 (d.sortE a.args)), .is (.tmp 9) (VP.int .i64 (d.sortR a.name a.args)), .is (.tmp 49) (VP.tup [VP.int .i64 ((d.sort a.name a.args).sortR a.name a.args), VP.int .i64 ((d.sort a.name a.args).sortE a.args)]), .is (.tmp 40) (VP.tup [VP.int .i64 (d.sortR a.name a.args), VP.int .i64 (d.sortE a.args)]), .own 103 (.val ca) (B_act6 a), .is (.tmp 6) (VP.ptr ca), .own 102 (.val vk) (R_fun d.funs), .is (.tmp 4) (VP.eq vk true true), .is (.tmp 3) (VP.ptr va), .is (.tmp 25) (O_act6 l), .is (.tmp 26) (VP.int .i64 ((l.length : Nat) : Int)), .is (.tmp 27) (VP.int .i64 ((k : Nat) : Int)), .is (.tmp 28) (VP.bool (decide (((k : Nat) : Int) < ((l.length : Nat) : Int)))), .pt 29 (.row (.tmp 25) (k * 8)), .is (.tmp 30) (VP.agg [VP.int .i64 a.what, VP.str a.name, O_int a.args, VP.int .i64 a.res, VP.int .i64 a.term.op, VP.int .i64 a.term.fn, O_int a.term.kids, VP.str a.term.num]), .pt 31 (.blk (.val ca) 0), .is (.tmp 32) (VP.int .i64 a.what), .is (.tmp 33) (VP.bool (a.what == 0)), .is (.tmp 35) (VP.ptr va), .pt 36 (.blk (.val ca) 1), .is (.tmp 37) (VP.str a.name), .pt 38 (.blk (.val ca) 2), .is (.tmp 39) (O_int a.args), .is (.tmp 34) (VP.tup [VP.int .i64 (d.sortR a.name a.args), VP.int .i64 (d.sortE a.args)]), .is (.tmp 41) (VP.int .i64 (d.sortR a.name a.args)), .is (.tmp 42) (VP.int .i64 (d.sortE a.args)), .is (.tmp 7) (VP.int .i64 (d.sortR a.name a.args)), .is (.tmp 8) (VP.int .i64 (d.sortE a.args)), .is (.tmp 44) (VP.ptr va), .pt 45 (.blk (.val ca) 1), .is (.tmp 46) (VP.str a.name), .pt 47 (.blk (.val ca) 2), .is (.tmp 48) (O_int a.args), .is (.tmp 43) (VP.tup [VP.int .i64 ((d.sort a.name a.args).sortR a.name a.args), VP.int .i64 ((d.sort a.name a.args).sortE a.args)]), .is (.tmp 50) (VP.int .i64 ((d.sort a.name a.args).sortR a.name a.args)), .is (.tmp 51) (VP.int .i64 ((d.sort a.name a.args).sortE a.args))] [] [(0, .is (.tmp 52) (VP.int .i64 (d.sortE a.args))), (1, .is (.tmp 53) (VP.int .i64 (d.sortE a.args))), (2, .is (.tmp 54) (VP.bool ((d.sortE a.args) != (d.sortE a.args)))), (3, .is (.tmp 55) (VP.bool ((d.sortE a.args) != (d.sortE a.args)))), (4, .is (.tmp 56) (VP.int .i64 (d.sortR a.name a.args))), (5, .is (.tmp 57) (VP.int .i64 (d.sortR a.name a.args))), (6, .is (.tmp 58) (VP.bool ((d.sortR a.name a.args) != (d.sortR a.name a.args)))), (7, .is (.tmp 59) (VP.bool ((d.sortR a.name a.args) != (d.sortR a.name a.args)))), (8, .is (.tmp 60) (VP.bool ((d.sortR a.name a.args) != (d.sortR a.name a.args)))), (9, .is (.tmp 61) (VP.int .i64 (d.sortE a.args))), (10, .is (.tmp 62) (VP.bool ((d.sortE a.args) == 0))), (11, .is (.tmp 63) (VP.bool ((d.sortE a.args) == 0))), (12, .is (.tmp 64) (VP.undef)), (13, .is (.tmp 65) (VP.undef)), (14, .is (.tmp 66) (VP.undef)), (15, .is (.tmp 67) (VP.undef)), (16, .is (.tmp 68) (VP.undef)), (17, .is (.tmp 69) (VP.undef)), (18, .is (.tmp 70) (VP.undef)), (19, .is (.tmp 71) (VP.undef)), (20, .is (.tmp 72) (VP.undef)), (21, .is (.tmp 73) (VP.undef)), (22, .is (.tmp 74) (VP.undef)), (23, .is (.tmp 75) (VP.undef)), (24, .is (.tmp 76) (VP.undef)), (25, .is (.tmp 77) (VP.undef)), (26, .is (.tmp 78) (VP.undef)), (27, .is (.tmp 79) (VP.undef)), (28, .is (.tmp 80) (VP.undef)), (29, .is (.tmp 81) (VP.undef)), (30, .is (.tmp 82) (VP.undef)), (31, .is (.tmp 83) (VP.undef)), (32, .is (.tmp 84) (VP.undef)), (33, .is (.tmp 85) (VP.undef)), (34, .is (.tmp 86) (VP.undef)), (35, .is (.tmp 87) (VP.undef)), (36, .is (.tmp 88) (VP.undef)), (37, .is (.tmp 89) (VP.undef)), (38, .is (.tmp 90) (VP.undef)), (39, .is (.tmp 91) (VP.undef)), (40, .is (.tmp 92) (VP.bool false)), (41, .is (.tmp 93) (VP.bool false))] [] [0, 1, 2, 3, 4, 5, 6, 7, 8, 9, 10, 11, 12, 13, 14, 15, 16, 17, 18, 19, 20, 21, 22, 23, 24, 25, 26, 27, 28, 29, 30, 31, 32, 33, 34, 35, 36] [] [[], [], [0, 1], [0, 1, 2], [0, 1, 2, 3], [0, 1, 2, 3], [0, 1, 2, 3, 4, 5], [0, 1, 2, 3, 4, 5, 6], [0, 1, 2, 3, 4, 5, 6, 7], [0, 1, 2, 3, 4, 5, 6, 7, 8], [0, 1, 2, 3, 4, 5, 6, 7, 8, 9], [0, 1, 2, 3, 4, 5, 6, 7, 8, 9, 10], [0, 1, 2, 3, 4, 5, 6, 7, 8, 9, 10, 11], [0, 1, 2, 3, 4, 5, 6, 7, 8, 9, 10, 11], [0, 1, 2, 3, 4, 5, 6, 7, 8, 9, 10, 11, 13], [0, 1, 2, 3, 4, 5, 6, 7, 8, 9, 10, 11, 13, 14], [0, 1, 2, 3, 4, 5, 6, 7, 8, 9, 10, 11, 12, 13, 14, 15], [0, 1, 2, 3, 4, 5, 6, 7, 8, 9, 10, 11, 12, 13, 14, 15, 16], [0, 1, 2, 3, 4, 5, 6, 7, 8, 9, 10, 11, 12, 13, 14, 15, 16, 17], [0, 1, 2, 3, 4, 5, 6, 7, 8, 9, 10, 11, 12, 13, 14, 15, 16, 17, 18], [0, 1, 2, 3, 4, 5, 6, 7, 8, 9, 10, 11, 12, 13, 14, 15, 16, 17], [0, 1, 2, 3, 4, 5, 6, 7, 8, 9, 10, 11, 12, 13, 14, 15, 16, 17, 18, 19, 20], [0, 1, 2, 3, 4, 5, 6, 7, 8, 9, 10, 11, 12, 13, 14, 15, 16, 17, 18, 19, 20, 21], [0, 1, 2, 3, 4, 5, 6, 7, 8, 9, 10, 11, 12, 13, 14, 15, 16, 17, 18, 19, 20, 21, 22], [0, 1, 2, 3, 4, 5, 6, 7, 8, 9, 10, 11, 12, 13, 14, 15, 16, 17], [0, 1, 2, 3, 4, 5, 6, 7, 8, 9, 10, 11, 12, 13, 14, 15, 16, 17, 24], [0, 1, 2, 3, 4, 5, 6, 7, 8, 9, 10, 11, 12, 13, 14, 15, 16, 17, 18, 19, 20, 21, 22, 23, 24, 25], [0, 1, 2, 3, 4, 5, 6, 7, 8, 9, 10, 11, 12, 13, 14, 15, 16, 17, 18, 19, 20, 21, 22, 23, 24, 25, 26], [0, 1, 2, 3, 4, 5, 6, 7, 8, 9, 10, 11, 12, 13, 14, 15, 16, 17, 18, 19, 20, 21, 22, 23, 24, 25, 26, 27], [0, 1, 2, 3, 4, 5, 6, 7, 8, 9, 10, 11, 12, 13, 14, 15, 16, 17, 18, 19, 20, 21, 22, 23, 24, 25, 26, 27, 28], [0, 1, 2, 3, 4, 5, 6, 7, 8, 9, 10, 11, 12, 13, 14, 15, 16, 17, 18, 19, 20, 21, 22, 23, 24, 25, 26, 27, 28, 29], [0, 1, 2, 3, 4, 5, 6, 7, 8, 9, 10, 11, 12, 13, 14, 15, 16, 17, 18, 19, 20, 21, 22, 23, 24, 25, 26, 27, 28], [0, 1, 2, 3, 4, 5, 6, 7, 8, 9, 10, 11, 12, 13, 14, 15, 16, 17, 18, 19, 20, 21, 22, 23, 24, 25, 26, 27, 28, 29, 30, 31], [0, 1, 2, 3, 4, 5, 6, 7, 8, 9, 10, 11, 12, 13, 14, 15, 16, 17, 18, 19, 20, 21, 22, 23, 24, 25, 26, 27, 28, 29, 30, 31, 32], [0, 1, 2, 3, 4, 5, 6, 7, 8, 9, 10, 11, 12, 13, 14, 15, 16, 17, 18, 19, 20, 21, 22, 23, 24, 25, 26, 27, 28, 29, 30, 31, 32, 33], [0, 1, 2, 3, 4, 5, 6, 7, 8, 9, 10, 11, 12, 13, 14, 15, 16, 17, 18, 19, 20, 21, 22, 23, 24, 25, 26, 27, 28], [0, 1, 2, 3, 4, 5, 6, 7, 8, 9, 10, 11, 12, 13, 14, 15, 16, 17, 18, 19, 20, 21, 22, 23, 24, 25, 26, 27, 28, 35], [0, 1, 2, 3, 4, 5, 6, 7, 8, 9, 10, 11, 12, 13, 14, 15, 16, 17, 18, 19, 20, 21, 22, 23, 24, 25, 26, 27, 28, 29, 30, 31, 32, 33, 34, 35, 36], [0, 1, 2, 3, 4, 5, 6, 7, 8, 9, 10, 11, 12, 13, 14, 15, 16, 17, 18, 19, 20, 21, 22, 23, 24, 25, 26, 27, 28, 29, 30, 31, 32, 33, 34, 35, 36, 37], [0, 1, 2, 3, 4, 5, 6, 7, 8, 9, 10, 11, 12, 13, 14, 15, 16, 17, 18, 19, 20, 21, 22, 23, 24, 25, 26, 27, 28, 29, 30, 31, 32, 33, 34, 35, 36, 37, 38], [0, 1, 2, 3, 4, 5, 6, 7, 8, 9, 10, 11, 12, 13, 14, 15, 16, 17, 18, 19, 20, 21, 22, 23, 24, 25, 26, 27, 28, 29, 30, 31, 32, 33, 34, 35, 36, 37, 38, 39], [0, 1, 2, 3, 4, 5, 6, 7, 8, 9, 10, 11, 12, 13, 14, 15, 16, 17, 18, 19, 20, 21, 22, 23, 24, 25, 26, 27, 28, 29, 30, 31, 32, 33, 34, 35, 36, 37, 38, 39, 40]] [[2, 3, 4, 5, 6, 7, 8, 9, 10, 11, 12, 13, 14, 15, 16, 17, 18, 19, 20, 21, 22, 23, 24, 25, 26, 27, 28, 29, 30, 31, 32, 33, 34, 35, 36, 37, 38, 39, 40, 41], [2, 3, 4, 5, 6, 7, 8, 9, 10, 11, 12, 13, 14, 15, 16, 17, 18, 19, 20, 21, 22, 23, 24, 25, 26, 27, 28, 29, 30, 31, 32, 33, 34, 35, 36, 37, 38, 39, 40, 41], [3, 4, 5, 6, 7, 8, 9, 10, 11, 12, 13, 14, 15, 16, 17, 18, 19, 20, 21, 22, 23, 24, 25, 26, 27, 28, 29, 30, 31, 32, 33, 34, 35, 36, 37, 38, 39, 40, 41], [4, 5, 6, 7, 8, 9, 10, 11, 12, 13, 14, 15, 16, 17, 18, 19, 20, 21, 22, 23, 24, 25, 26, 27, 28, 29, 30, 31, 32, 33, 34, 35, 36, 37, 38, 39, 40, 41], [6, 7, 8, 9, 10, 11, 12, 13, 14, 15, 16, 17, 18, 19, 20, 21, 22, 23, 24, 25, 26, 27, 28, 29, 30, 31, 32, 33, 34, 35, 36, 37, 38, 39, 40, 41], [6, 7, 8, 9, 10, 11, 12, 13, 14, 15, 16, 17, 18, 19, 20, 21, 22, 23, 24, 25, 26, 27, 28, 29, 30, 31, 32, 33, 34, 35, 36, 37, 38, 39, 40, 41], [7, 8, 9, 10, 11, 12, 13, 14, 15, 16, 17, 18, 19, 20, 21, 22, 23, 24, 25, 26, 27, 28, 29, 30, 31, 32, 33, 34, 35, 36, 37, 38, 39, 40, 41], [8, 9, 10, 11, 12, 13, 14, 15, 16, 17, 18, 19, 20, 21, 22, 23, 24, 25, 26, 27, 28, 29, 30, 31, 32, 33, 34, 35, 36, 37, 38, 39, 40, 41], [9, 10, 11, 12, 13, 14, 15, 16, 17, 18, 19, 20, 21, 22, 23, 24, 25, 26, 27, 28, 29, 30, 31, 32, 33, 34, 35, 36, 37, 38, 39, 40, 41], [10, 11, 12, 13, 14, 15, 16, 17, 18, 19, 20, 21, 22, 23, 24, 25, 26, 27, 28, 29, 30, 31, 32, 33, 34, 35, 36, 37, 38, 39, 40, 41], [11, 12, 13, 14, 15, 16, 17, 18, 19, 20, 21, 22, 23, 24, 25, 26, 27, 28, 29, 30, 31, 32, 33, 34, 35, 36, 37, 38, 39, 40, 41], [12, 13, 14, 15, 16, 17, 18, 19, 20, 21, 22, 23, 24, 25, 26, 27, 28, 29, 30, 31, 32, 33, 34, 35, 36, 37, 38, 39, 40, 41], [16, 17, 18, 19, 20, 21, 22, 23, 24, 25, 26, 27, 28, 29, 30, 31, 32, 33, 34, 35, 36, 37, 38, 39, 40, 41], [14, 15, 16, 17, 18, 19, 20, 21, 22, 23, 24, 25, 26, 27, 28, 29, 30, 31, 32, 33, 34, 35, 36, 37, 38, 39, 40, 41], [15, 16, 17, 18, 19, 20, 21, 22, 23, 24, 25, 26, 27, 28, 29, 30, 31, 32, 33, 34, 35, 36, 37, 38, 39, 40, 41], [16, 17, 18, 19, 20, 21, 22, 23, 24, 25, 26, 27, 28, 29, 30, 31, 32, 33, 34, 35, 36, 37, 38, 39, 40, 41], [17, 18, 19, 20, 21, 22, 23, 24, 25, 26, 27, 28, 29, 30, 31, 32, 33, 34, 35, 36, 37, 38, 39, 40, 41], [18, 19, 20, 21, 22, 23, 24, 25, 26, 27, 28, 29, 30, 31, 32, 33, 34, 35, 36, 37, 38, 39, 40, 41], [19, 21, 22, 23, 26, 27, 28, 29, 30, 31, 32, 33, 34, 35, 36, 37, 38, 39, 40, 41], [21, 22, 23, 26, 27, 28, 29, 30, 31, 32, 33, 34, 35, 36, 37, 38, 39, 40, 41], [21, 22, 23, 26, 27, 28, 29, 30, 31, 32, 33, 34, 35, 36, 37, 38, 39, 40, 41], [22, 23, 26, 27, 28, 29, 30, 31, 32, 33, 34, 35, 36, 37, 38, 39, 40, 41], [23, 26, 27, 28, 29, 30, 31, 32, 33, 34, 35, 36, 37, 38, 39, 40, 41], [26, 27, 28, 29, 30, 31, 32, 33, 34, 35, 36, 37, 38, 39, 40, 41], [25, 26, 27, 28, 29, 30, 31, 32, 33, 34, 35, 36, 37, 38, 39, 40, 41], [26, 27, 28, 29, 30, 31, 32, 33, 34, 35, 36, 37, 38, 39, 40, 41], [27, 28, 29, 30, 31, 32, 33, 34, 35, 36, 37, 38, 39, 40, 41], [28, 29, 30, 31, 32, 33, 34, 35, 36, 37, 38, 39, 40, 41], [29, 30, 31, 32, 33, 34, 35, 36, 37, 38, 39, 40, 41], [30, 32, 33, 34, 37, 38, 39, 40, 41], [32, 33, 34, 37, 38, 39, 40, 41], [32, 33, 34, 37, 38, 39, 40, 41], [33, 34, 37, 38, 39, 40, 41], [34, 37, 38, 39, 40, 41], [37, 38, 39, 40, 41], [36, 37, 38, 39, 40, 41], [37, 38, 39, 40, 41], [38, 39, 40, 41], [39, 40, 41], [40, 41], [41], []] rfl rfl follow rfl ⟨
            .inl ⟨wants_plain rfl, does_move _ (.inl rfl) rfl rfl rfl rfl (ar_tmp (av_fs 28 rfl))⟩,
            .inl ⟨wants_plain rfl, does_move _ (.inl rfl) rfl rfl rfl rfl (ar_tmp (av_fs 1 rfl))⟩,
            .inl ⟨wants_plain rfl, does_cmp (m := (d.sortE a.args)) (n := (d.sortE a.args)) _ _ _ _ _ rfl rfl rfl rfl rfl rfl .i64 (ar_tmp (av_rs 0 0 rfl rfl)) (ar_tmp (av_rs 1 1 rfl rfl))⟩,
            .inl ⟨wants_plain rfl, does_move _ (.inl rfl) rfl rfl rfl rfl (ar_tmp (av_rs 2 2 rfl rfl))⟩,
            .inl ⟨wants_guard false rfl rfl rfl (av_bool (by simp) (av_rs 3 3 rfl rfl)), does_move _ (.inl rfl) rfl rfl rfl rfl (ar_tmp (av_fs 27 rfl))⟩,
            .inl ⟨wants_guard false rfl rfl rfl (av_bool (by simp) (av_rs 3 3 rfl rfl)), does_move _ (.inl rfl) rfl rfl rfl rfl (ar_tmp (av_fs 2 rfl))⟩,
            .inl ⟨wants_guard false rfl rfl rfl (av_bool (by simp) (av_rs 3 3 rfl rfl)), does_cmp (m := (d.sortR a.name a.args)) (n := (d.sortR a.name a.args)) _ _ _ _ _ rfl rfl rfl rfl rfl rfl .i64 (ar_tmp (av_rs 4 4 rfl rfl)) (ar_tmp (av_rs 5 5 rfl rfl))⟩,
            .inl ⟨wants_plain rfl, does_pick false _ _ _ rfl rfl rfl rfl rfl (ar_tmp (av_bool (by simp) (av_rs 3 3 rfl rfl))) (ar_tmp (av_rs 6 6 rfl rfl))⟩,
            .inl ⟨wants_plain rfl, does_move _ (.inl rfl) rfl rfl rfl rfl (ar_tmp (av_rs 7 7 rfl rfl))⟩,
            .inl ⟨wants_guard false rfl rfl rfl (av_bool (by simp) (av_rs 8 8 rfl rfl)), does_move _ (.inl rfl) rfl rfl rfl rfl (ar_tmp (av_fs 28 rfl))⟩,
            .inl ⟨wants_guard false rfl rfl rfl (av_bool (by simp) (av_rs 8 8 rfl rfl)), does_cmp (m := (d.sortE a.args)) (n := 0) _ _ _ _ _ rfl rfl rfl rfl rfl rfl .i64 (ar_tmp (av_rs 9 9 rfl rfl)) (ar_const (fun _ _ => rfl))⟩,
            .inl ⟨wants_guard false rfl rfl rfl (av_bool (by simp) (av_rs 8 8 rfl rfl)), does_move _ (.inl rfl) rfl rfl rfl rfl (ar_tmp (av_rs 10 10 rfl rfl))⟩,
            .inr (skips_guardU false rfl rfl rfl (av_bool hb4 (av_rs 11 11 rfl rfl)) rfl rfl rfl rfl),
            .inr (skips_guardU false rfl rfl rfl (av_bool hb4 (av_rs 11 11 rfl rfl)) rfl rfl rfl rfl),
            .inr (skips_guardU false rfl rfl rfl (av_bool hb4 (av_rs 11 11 rfl rfl)) rfl rfl rfl rfl),
            .inr (skips_guardU false rfl rfl rfl (av_bool hb4 (av_rs 11 11 rfl rfl)) rfl rfl rfl rfl),
            .inr (skips_guardU false rfl rfl rfl (av_bool hb4 (av_rs 11 11 rfl rfl)) rfl rfl rfl rfl),
            .inr (skips_guardU false rfl rfl rfl (av_bool hb4 (av_rs 11 11 rfl rfl)) rfl rfl rfl rfl),
            .inr (skips_undefU false rfl rfl rfl (av_rs 17 17 rfl rfl) rfl rfl rfl rfl),
            .inr (skips_undefU false rfl rfl rfl (av_rs 17 17 rfl rfl) rfl rfl rfl rfl),
            .inr (skips_undefU false rfl rfl rfl (av_rs 17 17 rfl rfl) rfl rfl rfl rfl),
            .inr (skips_undefU false rfl rfl rfl (av_rs 17 17 rfl rfl) rfl rfl rfl rfl),
            .inr (skips_undefU false rfl rfl rfl (av_rs 17 17 rfl rfl) rfl rfl rfl rfl),
            .inr (skips_undefU false rfl rfl rfl (av_rs 17 17 rfl rfl) rfl rfl rfl rfl),
            .inr (skips_undefU false rfl rfl rfl (av_rs 17 17 rfl rfl) rfl rfl rfl rfl),
            .inr (skips_undefU false rfl rfl rfl (av_rs 17 17 rfl rfl) rfl rfl rfl rfl),
            .inr (skips_undefU false rfl rfl rfl (av_rs 17 17 rfl rfl) rfl rfl rfl rfl),
            .inr (skips_guardU false rfl rfl rfl (av_bool hb4 (av_rs 11 11 rfl rfl)) rfl rfl rfl rfl),
            .inr (skips_guardU false rfl rfl rfl (av_bool hb4 (av_rs 11 11 rfl rfl)) rfl rfl rfl rfl),
            .inr (skips_undefU false rfl rfl rfl (av_rs 28 28 rfl rfl) rfl rfl rfl rfl),
            .inr (skips_undefU false rfl rfl rfl (av_rs 28 28 rfl rfl) rfl rfl rfl rfl),
            .inr (skips_undefU false rfl rfl rfl (av_rs 28 28 rfl rfl) rfl rfl rfl rfl),
            .inr (skips_undefU false rfl rfl rfl (av_rs 28 28 rfl rfl) rfl rfl rfl rfl),
            .inr (skips_undefU false rfl rfl rfl (av_rs 28 28 rfl rfl) rfl rfl rfl rfl),
            .inr (skips_undefU false rfl rfl rfl (av_rs 28 28 rfl rfl) rfl rfl rfl rfl),
            .inr (skips_undefU false rfl rfl rfl (av_rs 28 28 rfl rfl) rfl rfl rfl rfl),
            .inr (skips_undefU false rfl rfl rfl (av_rs 28 28 rfl rfl) rfl rfl rfl rfl),
            .inr (skips_undefU false rfl rfl rfl (av_rs 28 28 rfl rfl) rfl rfl rfl rfl),
            .inr (skips_undefU false rfl rfl rfl (av_rs 28 28 rfl rfl) rfl rfl rfl rfl),
            .inr (skips_guardU false rfl rfl rfl (av_bool hb4 (av_rs 11 11 rfl rfl)) rfl rfl rfl rfl),
            .inl ⟨wants_guard false rfl rfl rfl (av_bool (by simp) (av_rs 8 8 rfl rfl)), does_pick false _ _ _ rfl rfl rfl rfl rfl (ar_tmp (av_bool hb4 (av_rs 11 11 rfl rfl))) (ar_const (fun _ _ => rfl))⟩,
            .inl ⟨wants_plain rfl, does_pick false _ _ _ rfl rfl rfl rfl rfl (ar_tmp (av_bool (by simp) (av_rs 8 8 rfl rfl))) (ar_tmp (av_rs 40 40 rfl rfl))⟩,
            trivial⟩ ?_
          refine nx_then ?_
          refine t_cond_f 78 rfl ?_
          refine t_skip ?_
          refine nx_then ?_
          refine t_seq ?_
          refine t_region (F := ⟨_, _, _, _, _, _⟩) [.own 101 (.val va) (Arn (d.sort a.name a.args)), .is (.tmp 10) (VP.int .i64 (d.sortE a.args)), .is (.tmp 9) (VP.int .i64 (d.sortR a.name a.args)), .is (.tmp 49) (VP.tup [VP.int .i64 ((d.sort a.name a.args).sortR a.name a.args), VP.int .i64 ((d.sort a.name a.args).sortE a.args)]), .is (.tmp 40) (VP.tup [VP.int .i64 (d.sortR a.name a.args), VP.int .i64 (d.sortE a.args)]), .own 103 (.val ca) (B_act6 a), .is (.tmp 6) (VP.ptr ca), .own 102 (.val vk) (R_fun d.funs), .is (.tmp 4) (VP.eq vk true true), .is (.tmp 3) (VP.ptr va), .is (.tmp 25) (O_act6 l), .is (.tmp 26) (VP.int .i64 ((l.length : Nat) : Int)), .is (.tmp 27) (VP.int .i64 ((k : Nat) : Int)), .is (.tmp 28) (VP.bool (decide (((k : Nat) : Int) < ((l.length : Nat) : Int)))), .pt 29 (.row (.tmp 25) (k * 8)), .is (.tmp 30) (VP.agg [VP.int .i64 a.what, VP.str a.name, O_int a.args, VP.int .i64 a.res, VP.int .i64 a.term.op, VP.int .i64 a.term.fn, O_int a.term.kids, VP.str a.term.num]), .pt 31 (.blk (.val ca) 0), .is (.tmp 32) (VP.int .i64 a.what), .is (.tmp 33) (VP.bool (a.what == 0)), .is (.tmp 35) (VP.ptr va), .pt 36 (.blk (.val ca) 1), .is (.tmp 37) (VP.str a.name), .pt 38 (.blk (.val ca) 2), .is (.tmp 39) (O_int a.args), .is (.tmp 34) (VP.tup [VP.int .i64 (d.sortR a.name a.args), VP.int .i64 (d.sortE a.args)]), .is (.tmp 41) (VP.int .i64 (d.sortR a.name a.args)), .is (.tmp 42) (VP.int .i64 (d.sortE a.args)), .is (.tmp 7) (VP.int .i64 (d.sortR a.name a.args)), .is (.tmp 8) (VP.int .i64 (d.sortE a.args)), .is (.tmp 44) (VP.ptr va), .pt 45 (.blk (.val ca) 1), .is (.tmp 46) (VP.str a.name), .pt 47 (.blk (.val ca) 2), .is (.tmp 48) (O_int a.args), .is (.tmp 43) (VP.tup [VP.int .i64 ((d.sort a.name a.args).sortR a.name a.args), VP.int .i64 ((d.sort a.name a.args).sortE a.args)]), .is (.tmp 50) (VP.int .i64 ((d.sort a.name a.args).sortR a.name a.args)), .is (.tmp 51) (VP.int .i64 ((d.sort a.name a.args).sortE a.args)), .is (.tmp 52) (VP.int .i64 (d.sortE a.args)), .is (.tmp 53) (VP.int .i64 (d.sortE a.args)), .is (.tmp 54) (VP.bool ((d.sortE a.args) != (d.sortE a.args))), .is (.tmp 55) (VP.bool ((d.sortE a.args) != (d.sortE a.args))), .is (.tmp 56) (VP.int .i64 (d.sortR a.name a.args)), .is (.tmp 57) (VP.int .i64 (d.sortR a.name a.args)), .is (.tmp 58) (VP.bool ((d.sortR a.name a.args) != (d.sortR a.name a.args))), .is (.tmp 59) (VP.bool ((d.sortR a.name a.args) != (d.sortR a.name a.args))), .is (.tmp 60) (VP.bool ((d.sortR a.name a.args) != (d.sortR a.name a.args))), .is (.tmp 61) (VP.int .i64 (d.sortE a.args)), .is (.tmp 62) (VP.bool ((d.sortE a.args) == 0)), .is (.tmp 63) (VP.bool ((d.sortE a.args) == 0)), .is (.tmp 64) (VP.undef), .is (.tmp 65) (VP.undef), .is (.tmp 66) (VP.undef), .is (.tmp 67) (VP.undef), .is (.tmp 68) (VP.undef), .is (.tmp 69) (VP.undef), .is (.tmp 70) (VP.undef), .is (.tmp 71) (VP.undef), .is (.tmp 72) (VP.undef), .is (.tmp 73) (VP.undef), .is (.tmp 74) (VP.undef), .is (.tmp 75) (VP.undef), .is (.tmp 76) (VP.undef), .is (.tmp 77) (VP.undef), .is (.tmp 78) (VP.undef), .is (.tmp 79) (VP.undef), .is (.tmp 80) (VP.undef), .is (.tmp 81) (VP.undef), .is (.tmp 82) (VP.undef), .is (.tmp 83) (VP.undef), .is (.tmp 84) (VP.undef), .is (.tmp 85) (VP.undef), .is (.tmp 86) (VP.undef), .is (.tmp 87) (VP.undef), .is (.tmp 88) (VP.undef), .is (.tmp 89) (VP.undef), .is (.tmp 90) (VP.undef), .is (.tmp 91) (VP.undef), .is (.tmp 92) (VP.bool false), .is (.tmp 93) (VP.bool false)] [] [(0, .pt 94 (.blk (.val ca) 2)), (1, .is (.tmp 95) (O_int a.args)), (2, .is (.tmp 96) (VP.int .i64 ((a.args.length : Nat) : Int))), (3, .is (.tmp 97) (VP.int .i64 0))] [] [0, 1, 2, 3, 4, 5, 6, 7, 8, 9, 10, 11, 12, 13, 14, 15, 16, 17, 18, 19, 20, 21, 22, 23, 24, 25, 26, 27, 28, 29, 30, 31, 32, 33, 34, 35, 36, 37, 38, 39, 40, 41, 42, 43, 44, 45, 46, 47, 48, 49, 50, 51, 52, 53, 54, 55, 56, 57, 58, 59, 60, 61, 62, 63, 64, 65, 66, 67, 68, 69, 70, 71, 72, 73, 74, 75, 76, 77, 78] [] [[], [0], [0, 1], []] [[1, 2], [2], [], []] rfl rfl follow rfl ⟨
            .inl ⟨wants_plain rfl, does_field _ _ _ 2 DagN_f_collatorlaw06_Act_2 rfl rfl rfl rfl rfl rfl (pt_ptr (ar_tmp (av_fs 6 rfl)))⟩,
            .inl ⟨wants_plain rfl, does_loadOne _ DagN_one___int rfl rfl rfl rfl rfl (pt_pt (av_rs 0 0 rfl rfl)) (rds_box (off := 2) (av_fs 5 rfl) (hq_one rfl))⟩,
            .inl ⟨wants_plain rfl, does_len _ _ (by kernel_rfl) rfl rfl rfl rfl rfl (sl_ro (av_rs 1 1 rfl rfl) (flat_nil_iff cInt_len (by decide) _))⟩,
            .inl ⟨wants_plain rfl, does_move _ (.inl rfl) rfl rfl rfl rfl (ar_const (fun _ _ => rfl))⟩,
            trivial⟩ ?_
          refine nx_then ?_
          refine t_block ?_
          refine t_pick [82, 0, 1, 2, 3, 4, 5, 6, 7, 8, 9, 10, 11, 12, 13, 14, 15, 16, 17, 18, 19, 20, 21, 22, 23, 24, 25, 26, 27, 28, 29, 30, 31, 32, 33, 34, 35, 36, 37, 38, 39, 40, 41, 42, 43, 44, 45, 46, 47, 48, 49, 50, 51, 52, 53, 54, 55, 56, 57, 58, 59, 60, 61, 62, 63, 64, 65, 66, 67, 68, 69, 70, 71, 72, 73, 74, 75, 76, 77, 78, 79, 80, 81] rfl ?_
          refine t_slot (y := VP.int .i64 ((0 : Nat) : Int)) (fun _ _ _ h => h) ?_
          refine t_loop (τ := {m : Nat // m ≤ a.args.length}) (fun ⟨m, _⟩ => [.is (.tmp 3) (VP.ptr va), .is (.tmp 25) (O_act6 l), .is (.tmp 26) (VP.int .i64 ((l.length : Nat) : Int)), .is (.tmp 27) (VP.int .i64 ((k : Nat) : Int)), .is (.tmp 6) (VP.ptr ca), .is (.tmp 7) (VP.int .i64 (d.sortR a.name a.args)), .is (.tmp 8) (VP.int .i64 (d.sortE a.args)), .is (.tmp 95) (O_int a.args), .is (.tmp 96) (VP.int .i64 ((a.args.length : Nat) : Int)), .is (.tmp 97) (VP.int .i64 ((m : Nat) : Int)), .own 101 (.val va) (Arn (d.sort a.name a.args)), .own 103 (.val ca) (B_act6 a), .own 102 (.val vk) (R_fun d.funs), .is (.tmp 4) (VP.eq vk true true)]) (fun ⟨m, _⟩ => a.args.length - m) (⟨0, Nat.zero_le _⟩) [10, 11, 12, 13, 7, 28, 29, 81, 82, 0, 1, 6, 8, 9] rfl ?_
          rintro ⟨m, hm⟩
          refine t_seq ?_
          refine t_region (F := ⟨_, _, _, _, _, _⟩) [.is (.tmp 3) (VP.ptr va), .is (.tmp 25) (O_act6 l), .is (.tmp 26) (VP.int .i64 ((l.length : Nat) : Int)), .is (.tmp 27) (VP.int .i64 ((k : Nat) : Int)), .is (.tmp 6) (VP.ptr ca), .is (.tmp 7) (VP.int .i64 (d.sortR a.name a.args)), .is (.tmp 8) (VP.int .i64 (d.sortE a.args)), .is (.tmp 95) (O_int a.args), .is (.tmp 96) (VP.int .i64 ((a.args.length : Nat) : Int)), .is (.tmp 97) (VP.int .i64 ((m : Nat) : Int)), .own 101 (.val va) (Arn (d.sort a.name a.args)), .own 103 (.val ca) (B_act6 a), .own 102 (.val vk) (R_fun d.funs), .is (.tmp 4) (VP.eq vk true true)] [] [(0, .is (.tmp 98) (VP.bool (decide (((m : Nat) : Int) < ((a.args.length : Nat) : Int)))))] [] [0, 1, 2, 3, 4, 5, 6, 7, 8, 9, 10, 11, 12, 13] [] [[]] [[]] rfl rfl follow rfl ⟨
            .inl ⟨wants_plain rfl, does_cmp (m := ((m : Nat) : Int)) (n := ((a.args.length : Nat) : Int)) _ _ _ _ _ rfl rfl rfl rfl rfl rfl .i64 (ar_tmp (av_fs 9 rfl)) (ar_tmp (av_fs 8 rfl))⟩,
            trivial⟩ ?_
          refine nx_then ?_
          refine t_seq ?_
          refine t_split 14 rfl (fun hb9 => ?_) (fun hb9 => ?_)
          · have hc9 := of_decide_eq_true hb9
            obtain ⟨y, hy⟩ : ∃ y, a.args[m]? = some y := ⟨_, List.getElem?_eq_getElem (by omega)⟩
            have hym := List.mem_of_getElem? hy
            refine t_skip ?_
            refine nx_then ?_
            refine t_seq ?_
            refine t_block ?_
            refine t_seq ?_
            refine t_region (F := ⟨_, _, _, _, _, _⟩) [.is (.tmp 3) (VP.ptr va), .is (.tmp 25) (O_act6 l), .is (.tmp 26) (VP.int .i64 ((l.length : Nat) : Int)), .is (.tmp 27) (VP.int .i64 ((k : Nat) : Int)), .is (.tmp 6) (VP.ptr ca), .is (.tmp 7) (VP.int .i64 (d.sortR a.name a.args)), .is (.tmp 8) (VP.int .i64 (d.sortE a.args)), .is (.tmp 95) (O_int a.args), .is (.tmp 96) (VP.int .i64 ((a.args.length : Nat) : Int)), .is (.tmp 97) (VP.int .i64 ((m : Nat) : Int)), .own 101 (.val va) (Arn (d.sort a.name a.args)), .own 103 (.val ca) (B_act6 a), .own 102 (.val vk) (R_fun d.funs), .is (.tmp 4) (VP.eq vk true true), .is (.tmp 98) (VP.bool (decide (((m : Nat) : Int) < ((a.args.length : Nat) : Int))))] [] [(0, .pt 99 (.row (.tmp 95) (m * 1))), (1, .is (.tmp 100) (VP.int .i64 y)), (2, .is (.tmp 12) (VP.int .i64 y))] [] [0, 1, 2, 3, 4, 5, 6, 7, 8, 9, 10, 11, 12, 13, 14] [] [[], [0], [0, 1]] [[1, 2], [2], []] rfl rfl follow rfl ⟨
              .inl ⟨wants_plain rfl, does_index (m := m) _ _ Try.underlying28 DagN_size_int rfl rfl rfl rfl rfl _ (by omega) rfl (by omega) (sl_ro (av_fs 7 rfl) (flat_nil_iff cInt_len (by decide) _)) (ar_tmp (av_fs 9 rfl))⟩,
              .inl ⟨wants_plain rfl, does_loadOne _ DagN_one_int rfl rfl rfl rfl rfl (pt_pt (av_rs 0 0 rfl rfl)) (rds_ro (av_fs 7 rfl) (hq_flatV1 cInt_len hy 0 (by omega) rfl))⟩,
              .inl ⟨wants_plain rfl, does_move _ (.inr rfl) rfl rfl rfl rfl (ar_tmp (av_rs 1 1 rfl rfl))⟩,
              trivial⟩ ?_
            refine nx_then ?_
            refine t_seq ?_
            refine t_region (F := ⟨_, _, _, _, _, _⟩) [.is (.tmp 3) (VP.ptr va), .is (.tmp 25) (O_act6 l), .is (.tmp 26) (VP.int .i64 ((l.length : Nat) : Int)), .is (.tmp 27) (VP.int .i64 ((k : Nat) : Int)), .is (.tmp 6) (VP.ptr ca), .is (.tmp 7) (VP.int .i64 (d.sortR a.name a.args)), .is (.tmp 8) (VP.int .i64 (d.sortE a.args)), .is (.tmp 95) (O_int a.args), .is (.tmp 96) (VP.int .i64 ((a.args.length : Nat) : Int)), .is (.tmp 97) (VP.int .i64 ((m : Nat) : Int)), .own 101 (.val va) (Arn (d.sort a.name a.args)), .own 103 (.val ca) (B_act6 a), .own 102 (.val vk) (R_fun d.funs), .is (.tmp 4) (VP.eq vk true true), .is (.tmp 98) (VP.bool (decide (((m : Nat) : Int) < ((a.args.length : Nat) : Int)))), .pt 99 (.row (.tmp 95) (m * 1)), .is (.tmp 100) (VP.int .i64 y), .is (.tmp 12) (VP.int .i64 y)] [] [(0, .is (.tmp 101) (VP.int .i64 (d.sortE a.args))), (1, .is (.tmp 102) (VP.bool ((d.sortE a.args) == 0))), (2, .is (.tmp 103) (VP.bool ((d.sortE a.args) == 0))), (3, .is (.tmp 104) (VP.undef)), (4, .is (.tmp 105) (VP.undef)), (5, .is (.tmp 106) (VP.undef)), (6, .is (.tmp 107) (VP.bool false))] [] [0, 1, 2, 3, 4, 5, 6, 7, 8, 9, 10, 11, 12, 13, 14, 15, 16, 17] [] [[], [0], [0, 1], [0, 1, 2], [0, 1, 2], [0, 1, 2, 3, 4], [0, 1, 2, 3, 4, 5]] [[1, 2, 3, 4, 5, 6], [2, 3, 4, 5, 6], [3, 4, 5, 6], [5, 6], [5, 6], [6], []] rfl rfl follow rfl ⟨
              .inl ⟨wants_plain rfl, does_move _ (.inl rfl) rfl rfl rfl rfl (ar_tmp (av_fs 6 rfl))⟩,
              .inl ⟨wants_plain rfl, does_cmp (m := (d.sortE a.args)) (n := 0) _ _ _ _ _ rfl rfl rfl rfl rfl rfl .i64 (ar_tmp (av_rs 0 0 rfl rfl)) (ar_const (fun _ _ => rfl))⟩,
              .inl ⟨wants_plain rfl, does_move _ (.inl rfl) rfl rfl rfl rfl (ar_tmp (av_rs 1 1 rfl rfl))⟩,
              .inr (skips_guardU false rfl rfl rfl (av_bool hb4 (av_rs 2 2 rfl rfl)) rfl rfl rfl rfl),
              .inr (skips_guardU false rfl rfl rfl (av_bool hb4 (av_rs 2 2 rfl rfl)) rfl rfl rfl rfl),
              .inr (skips_guardU false rfl rfl rfl (av_bool hb4 (av_rs 2 2 rfl rfl)) rfl rfl rfl rfl),
              .inl ⟨wants_plain rfl, does_pick false _ _ _ rfl rfl rfl rfl rfl (ar_tmp (av_bool hb4 (av_rs 2 2 rfl rfl))) (ar_const (fun _ _ => rfl))⟩,
              trivial⟩ ?_
            refine nx_then ?_
            refine t_cond_f 24 rfl ?_
            refine t_skip ?_
            refine nx_block ?_
            refine nx_then ?_
            refine t_region (F := ⟨_, _, _, _, _, _⟩) [.is (.tmp 3) (VP.ptr va), .is (.tmp 25) (O_act6 l), .is (.tmp 26) (VP.int .i64 ((l.length : Nat) : Int)), .is (.tmp 27) (VP.int .i64 ((k : Nat) : Int)), .is (.tmp 6) (VP.ptr ca), .is (.tmp 7) (VP.int .i64 (d.sortR a.name a.args)), .is (.tmp 8) (VP.int .i64 (d.sortE a.args)), .is (.tmp 95) (O_int a.args), .is (.tmp 96) (VP.int .i64 ((a.args.length : Nat) : Int)), .own 101 (.val va) (Arn (d.sort a.name a.args)), .own 103 (.val ca) (B_act6 a), .own 102 (.val vk) (R_fun d.funs), .is (.tmp 4) (VP.eq vk true true), .is (.tmp 98) (VP.bool (decide (((m : Nat) : Int) < ((a.args.length : Nat) : Int)))), .pt 99 (.row (.tmp 95) (m * 1)), .is (.tmp 100) (VP.int .i64 y), .is (.tmp 12) (VP.int .i64 y), .is (.tmp 101) (VP.int .i64 (d.sortE a.args)), .is (.tmp 102) (VP.bool ((d.sortE a.args) == 0)), .is (.tmp 103) (VP.bool ((d.sortE a.args) == 0)), .is (.tmp 104) (VP.undef), .is (.tmp 105) (VP.undef), .is (.tmp 106) (VP.undef), .is (.tmp 107) (VP.bool false)] [(1, .is (.tmp 97) (VP.int .i64 ((m : Nat) : Int)))] [(0, .is (.tmp 108) (VP.int .i64 (((m + 1) : Nat) : Int))), (1, .is (.tmp 97) (VP.int .i64 (((m + 1) : Nat) : Int)))] [] [0, 1, 2, 3, 4, 5, 6, 7, 8, 10, 11, 12, 13, 14, 15, 16, 17, 18, 19, 20, 21, 22, 23, 24] [9] [[], [0]] [[1], []] rfl rfl follow rfl ⟨
              .inl ⟨wants_plain rfl, does_addE (m := ((m : Nat) : Int)) (n := 1) (x := (((m + 1) : Nat) : Int)) (by omega) _ _ _ _ rfl rfl rfl rfl rfl (by omega) (ar_tmp (av_os 0 1 rfl rfl)) (ar_const (fun _ _ => rfl))⟩,
              .inl ⟨wants_plain rfl, does_move _ (.inl rfl) rfl rfl rfl rfl (ar_tmp (av_rs 0 0 rfl rfl))⟩,
              trivial⟩ ?_
            refine nx_round (τ := {m : Nat // m ≤ a.args.length}) (I := fun ⟨m, _⟩ => [.is (.tmp 3) (VP.ptr va), .is (.tmp 25) (O_act6 l), .is (.tmp 26) (VP.int .i64 ((l.length : Nat) : Int)), .is (.tmp 27) (VP.int .i64 ((k : Nat) : Int)), .is (.tmp 6) (VP.ptr ca), .is (.tmp 7) (VP.int .i64 (d.sortR a.name a.args)), .is (.tmp 8) (VP.int .i64 (d.sortE a.args)), .is (.tmp 95) (O_int a.args), .is (.tmp 96) (VP.int .i64 ((a.args.length : Nat) : Int)), .is (.tmp 97) (VP.int .i64 ((m : Nat) : Int)), .own 101 (.val va) (Arn (d.sort a.name a.args)), .own 103 (.val ca) (B_act6 a), .own 102 (.val vk) (R_fun d.funs), .is (.tmp 4) (VP.eq vk true true)]) (μ := fun ⟨m, _⟩ => a.args.length - m) (s := ⟨m, hm⟩) (⟨m + 1, by omega⟩) ?_ [0, 1, 2, 3, 4, 5, 6, 7, 8, 25, 9, 10, 11, 12] ?_
            · exact (show a.args.length - (m + 1) < a.args.length - m by omega)
            · exact rfl
          · have hc9 := of_decide_eq_false hb9
            refine t_exit ?_
            refine ex_then ?_
            refine ex_then ?_
            refine ex_block ?_
            refine nx_then ?_
            refine t_seq ?_
            refine t_region (F := ⟨_, _, _, _, _, _⟩) [.is (.tmp 3) (VP.ptr va), .is (.tmp 25) (O_act6 l), .is (.tmp 26) (VP.int .i64 ((l.length : Nat) : Int)), .is (.tmp 27) (VP.int .i64 ((k : Nat) : Int)), .is (.tmp 6) (VP.ptr ca), .is (.tmp 7) (VP.int .i64 (d.sortR a.name a.args)), .is (.tmp 8) (VP.int .i64 (d.sortE a.args)), .is (.tmp 95) (O_int a.args), .is (.tmp 96) (VP.int .i64 ((a.args.length : Nat) : Int)), .is (.tmp 97) (VP.int .i64 ((m : Nat) : Int)), .own 101 (.val va) (Arn (d.sort a.name a.args)), .own 103 (.val ca) (B_act6 a), .own 102 (.val vk) (R_fun d.funs), .is (.tmp 4) (VP.eq vk true true), .is (.tmp 98) (VP.bool (decide (((m : Nat) : Int) < ((a.args.length : Nat) : Int))))] [] [(0, .pt 109 (.blk (.val ca) 0)), (1, .is (.tmp 110) (VP.int .i64 a.what)), (2, .is (.tmp 111) (VP.bool (a.what == 1)))] [] [0, 1, 2, 3, 4, 5, 6, 7, 8, 9, 10, 11, 12, 13, 14] [] [[], [0], [0, 1]] [[1, 2], [2], []] rfl rfl follow rfl ⟨
              .inl ⟨wants_plain rfl, does_field _ _ _ 0 DagN_f_collatorlaw06_Act_0 rfl rfl rfl rfl rfl rfl (pt_ptr (ar_tmp (av_fs 4 rfl)))⟩,
              .inl ⟨wants_plain rfl, does_loadOne _ DagN_one_int rfl rfl rfl rfl rfl (pt_pt (av_rs 0 0 rfl rfl)) (rds_box (off := 0) (av_fs 11 rfl) (hq_one rfl))⟩,
              .inl ⟨wants_plain rfl, does_cmp (m := a.what) (n := 1) _ _ _ _ _ rfl rfl rfl rfl rfl rfl .i64 (ar_tmp (av_rs 1 1 rfl rfl)) (ar_const (fun _ _ => rfl))⟩,
              trivial⟩ ?_
            refine nx_then ?_
            refine t_cond_fe 17 rfl (by rw [eq_of_beq hb3]; rfl) ?_
            refine t_skip ?_
            refine nx_block ?_
            refine nx_then ?_
            refine t_region (F := ⟨_, _, _, _, _, _⟩) [.is (.tmp 3) (VP.ptr va), .is (.tmp 25) (O_act6 l), .is (.tmp 26) (VP.int .i64 ((l.length : Nat) : Int)), .is (.tmp 6) (VP.ptr ca), .is (.tmp 7) (VP.int .i64 (d.sortR a.name a.args)), .is (.tmp 8) (VP.int .i64 (d.sortE a.args)), .is (.tmp 95) (O_int a.args), .is (.tmp 96) (VP.int .i64 ((a.args.length : Nat) : Int)), .is (.tmp 97) (VP.int .i64 ((m : Nat) : Int)), .own 101 (.val va) (Arn (d.sort a.name a.args)), .own 103 (.val ca) (B_act6 a), .own 102 (.val vk) (R_fun d.funs), .is (.tmp 4) (VP.eq vk true true), .is (.tmp 98) (VP.bool (decide (((m : Nat) : Int) < ((a.args.length : Nat) : Int)))), .pt 109 (.blk (.val ca) 0), .is (.tmp 110) (VP.int .i64 a.what), .is (.tmp 111) (VP.bool (a.what == 1))] [(1, .is (.tmp 27) (VP.int .i64 ((k : Nat) : Int)))] [(0, .is (.tmp 135) (VP.int .i64 (((k + 1) : Nat) : Int))), (1, .is (.tmp 27) (VP.int .i64 (((k + 1) : Nat) : Int)))] [] [0, 1, 2, 4, 5, 6, 7, 8, 9, 10, 11, 12, 13, 14, 15, 16, 17] [3] [[], [0]] [[1], []] rfl rfl follow rfl ⟨
              .inl ⟨wants_plain rfl, does_addE (m := ((k : Nat) : Int)) (n := 1) (x := (((k + 1) : Nat) : Int)) (by omega) _ _ _ _ rfl rfl rfl rfl rfl (by omega) (ar_tmp (av_os 0 1 rfl rfl)) (ar_const (fun _ _ => rfl))⟩,
              .inl ⟨wants_plain rfl, does_move _ (.inl rfl) rfl rfl rfl rfl (ar_tmp (av_rs 0 0 rfl rfl))⟩,
              trivial⟩ ?_
            refine t_pick [11, 12, 0, 1, 2, 3, 4, 5, 6, 7, 8, 9, 10, 13, 14, 15, 16, 17, 18] rfl ?_
            refine t_untmp rfl ?_
            refine t_weak (R' := R_fun ((d.sort a.name a.args).funs)) (fun _ _ _ _ h => by rw [sort_funs d a.name a.args]; exact h) rfl ?_
            refine nx_round (τ := {p : Nat × ArD // p.1 ≤ l.length ∧ SInv p.2 p.1}) (I := fun ⟨(k, d), _⟩ => [.is (.tmp 3) (VP.ptr va), .is (.tmp 25) (O_act6 l), .is (.tmp 26) (VP.int .i64 ((l.length : Nat) : Int)), .is (.tmp 27) (VP.int .i64 ((k : Nat) : Int)), .own 101 (.val va) (Arn d), .own 102 (.tmp 4) (R_fun d.funs)]) (μ := fun ⟨(k, d), _⟩ => l.length - k) (s := ⟨(k, d), hk, hI⟩) (⟨(k + 1, (d.sort a.name a.args)), (show k + 1 ≤ l.length by omega), sinv_sort hI a.name a.args hga⟩) ?_ [1, 2, 3, 17, 10, 0] ?_
            · exact (show l.length - (k + 1) < l.length - k by omega)
            · exact rfl
      · have hc3 := ne_of_beq_false hb3
        refine t_skip ?_
        refine nx_then ?_
        refine t_seq ?_
        refine t_region (F := ⟨_, _, _, _, _, _⟩) [.own 103 (.val ca) (B_act6 a), .is (.tmp 6) (VP.ptr ca), .own 102 (.val vk) (R_fun d.funs), .is (.tmp 4) (VP.eq vk true true), .is (.tmp 3) (VP.ptr va), .is (.tmp 25) (O_act6 l), .is (.tmp 26) (VP.int .i64 ((l.length : Nat) : Int)), .is (.tmp 27) (VP.int .i64 ((k : Nat) : Int)), .own 101 (.val va) (Arn d), .is (.tmp 28) (VP.bool (decide (((k : Nat) : Int) < ((l.length : Nat) : Int)))), .pt 29 (.row (.tmp 25) (k * 8)), .is (.tmp 30) (VP.agg [VP.int .i64 a.what, VP.str a.name, O_int a.args, VP.int .i64 a.res, VP.int .i64 a.term.op, VP.int .i64 a.term.fn, O_int a.term.kids, VP.str a.term.num]), .pt 31 (.blk (.val ca) 0), .is (.tmp 32) (VP.int .i64 a.what), .is (.tmp 33) (VP.bool (a.what == 0))] [] [(0, .pt 109 (.blk (.val ca) 0)), (1, .is (.tmp 110) (VP.int .i64 a.what)), (2, .is (.tmp 111) (VP.bool (a.what == 1)))] [] [0, 1, 2, 3, 4, 5, 6, 7, 8, 9, 10, 11, 12, 13, 14] [] [[], [0], [0, 1]] [[1, 2], [2], []] rfl rfl follow rfl ⟨
          .inl ⟨wants_plain rfl, does_field _ _ _ 0 DagN_f_collatorlaw06_Act_0 rfl rfl rfl rfl rfl rfl (pt_ptr (ar_tmp (av_fs 1 rfl)))⟩,
          .inl ⟨wants_plain rfl, does_loadOne _ DagN_one_int rfl rfl rfl rfl rfl (pt_pt (av_rs 0 0 rfl rfl)) (rds_box (off := 0) (av_fs 0 rfl) (hq_one rfl))⟩,
          .inl ⟨wants_plain rfl, does_cmp (m := a.what) (n := 1) _ _ _ _ _ rfl rfl rfl rfl rfl rfl .i64 (ar_tmp (av_rs 1 1 rfl rfl)) (ar_const (fun _ _ => rfl))⟩,
          trivial⟩ ?_
        refine nx_then ?_
        refine t_split 17 rfl (fun hb10 => ?_) (fun hb10 => ?_)
        · have hc10 := eq_of_beq hb10
          refine t_seq ?_
          refine t_region (F := ⟨_, _, _, _, _, _⟩) [.own 103 (.val ca) (B_act6 a), .is (.tmp 6) (VP.ptr ca), .own 102 (.val vk) (R_fun d.funs), .is (.tmp 4) (VP.eq vk true true), .is (.tmp 3) (VP.ptr va), .is (.tmp 25) (O_act6 l), .is (.tmp 26) (VP.int .i64 ((l.length : Nat) : Int)), .is (.tmp 27) (VP.int .i64 ((k : Nat) : Int)), .own 101 (.val va) (Arn d), .is (.tmp 28) (VP.bool (decide (((k : Nat) : Int) < ((l.length : Nat) : Int)))), .pt 29 (.row (.tmp 25) (k * 8)), .is (.tmp 30) (VP.agg [VP.int .i64 a.what, VP.str a.name, O_int a.args, VP.int .i64 a.res, VP.int .i64 a.term.op, VP.int .i64 a.term.fn, O_int a.term.kids, VP.str a.term.num]), .pt 31 (.blk (.val ca) 0), .is (.tmp 32) (VP.int .i64 a.what), .is (.tmp 33) (VP.bool (a.what == 0)), .pt 109 (.blk (.val ca) 0), .is (.tmp 110) (VP.int .i64 a.what), .is (.tmp 111) (VP.bool (a.what == 1))] [] [(0, .pt 112 (.blk (.val ca) 1)), (1, .is (.tmp 113) (VP.str a.name)), (2, .pt 114 (.blk (.val ca) 2)), (3, .is (.tmp 115) (O_int a.args)), (4, .pt 116 (.blk (.val ca) 3)), (5, .is (.tmp 117) (VP.int .i64 a.res)), (6, .is (.tmp 118) (VP.agg [VP.str a.name, O_int a.args, VP.int .i64 a.res])), (8, .own 109 (.tmp 13) (HA.cells 38 [HA.of (VP.str a.name), HA.of (O_int a.args), HA.of (VP.int .i64 a.res)]))] [(7, 8, .own 109 (.tmp 13) (HA.cells 38 [HA.of (VP.str (ByteArray.mk #[])), HA.of (VP.nilS), HA.of (VP.int .i64 0)]))] [0, 1, 2, 3, 4, 5, 6, 7, 8, 9, 10, 11, 12, 13, 14, 15, 16, 17] [] [[], [0], [], [2], [], [4], [0, 1, 2, 3, 4, 5], [], [0, 1, 2, 3, 4, 5, 6, 7]] [[1, 6, 8], [6, 8], [3, 6, 8], [6, 8], [5, 6, 8], [6, 8], [8], [8], []] rfl rfl follow rfl ⟨
            .inl ⟨wants_plain rfl, does_field _ _ _ 1 DagN_f_collatorlaw06_Act_1 rfl rfl rfl rfl rfl rfl (pt_ptr (ar_tmp (av_fs 1 rfl)))⟩,
            .inl ⟨wants_plain rfl, does_loadOne _ DagN_one_string rfl rfl rfl rfl rfl (pt_pt (av_rs 0 0 rfl rfl)) (rds_box (off := 1) (av_fs 0 rfl) (hq_one rfl))⟩,
            .inl ⟨wants_plain rfl, does_field _ _ _ 2 DagN_f_collatorlaw06_Act_2 rfl rfl rfl rfl rfl rfl (pt_ptr (ar_tmp (av_fs 1 rfl)))⟩,
            .inl ⟨wants_plain rfl, does_loadOne _ DagN_one___int rfl rfl rfl rfl rfl (pt_pt (av_rs 2 2 rfl rfl)) (rds_box (off := 2) (av_fs 0 rfl) (hq_one rfl))⟩,
            .inl ⟨wants_plain rfl, does_field _ _ _ 3 DagN_f_collatorlaw06_Act_3 rfl rfl rfl rfl rfl rfl (pt_ptr (ar_tmp (av_fs 1 rfl)))⟩,
            .inl ⟨wants_plain rfl, does_loadOne _ DagN_one_int rfl rfl rfl rfl rfl (pt_pt (av_rs 4 4 rfl rfl)) (rds_box (off := 3) (av_fs 0 rfl) (hq_one rfl))⟩,
            .inl ⟨wants_plain rfl, does_build [VP.str (ByteArray.mk #[]), VP.nilS, VP.int .i64 0] DagN_zero_api_Fun DagN_pl_api_Fun rfl rfl rfl rfl rfl (fun _ _ => ⟨rfl, rfl, rfl, trivial⟩) (.cons 0 [HA.of (VP.str a.name)] none rfl rfl (cv_one rfl (mv_vp (ar_tmp (av_rs 1 1 rfl rfl)))) (.cons 1 [HA.of (O_int a.args)] none rfl rfl (cv_one rfl (mv_vp (ar_tmp (av_rs 3 3 rfl rfl)))) (.cons 2 [HA.of (VP.int .i64 a.res)] none rfl rfl (cv_one rfl (mv_vp (ar_tmp (av_rs 5 5 rfl rfl)))) (.nil _))))⟩,
            .inl ⟨wants_plain rfl, does_alloc (ps := [VP.str (ByteArray.mk #[]), VP.nilS, VP.int .i64 0]) DagN_zero_api_Fun rfl rfl rfl rfl rfl rfl (fun _ _ => ⟨rfl, rfl, rfl, trivial⟩)⟩,
            .inl ⟨wants_plain rfl, does_store (off := 0) (Qs := [HA.of (VP.str a.name), HA.of (O_int a.args), HA.of (VP.int .i64 a.res)]) _ _ DagN_size_api_Fun rfl rfl rfl rfl rfl rfl (pt_box (av_ms 0 7 8 rfl rfl rfl)) (av_ms 0 7 8 rfl rfl rfl) (cv_agg (ps := [VP.str a.name, O_int a.args, VP.int .i64 a.res]) (ar_tmp (av_rs 6 6 rfl rfl)))⟩,
            trivial⟩ ?_
          refine nx_then ?_
          refine t_pick [25, 0, 1, 2, 3, 4, 5, 6, 7, 8, 9, 10, 11, 12, 13, 14, 15, 16, 17, 18, 19, 20, 21, 22, 23, 24] rfl ?_
          refine t_nameP rfl fun v11 => ?_
          refine t_seq ?_
          refine t_region (F := ⟨_, _, _, _, _, _⟩) [.own 109 (.val v11) (HA.cells 38 [HA.of (VP.str a.name), HA.of (O_int a.args), HA.of (VP.int .i64 a.res)]), .is (.tmp 13) (VP.ptr v11), .own 103 (.val ca) (B_act6 a), .is (.tmp 6) (VP.ptr ca), .own 102 (.val vk) (R_fun d.funs), .is (.tmp 4) (VP.eq vk true true), .is (.tmp 3) (VP.ptr va), .is (.tmp 25) (O_act6 l), .is (.tmp 26) (VP.int .i64 ((l.length : Nat) : Int)), .is (.tmp 27) (VP.int .i64 ((k : Nat) : Int)), .is (.tmp 28) (VP.bool (decide (((k : Nat) : Int) < ((l.length : Nat) : Int)))), .pt 29 (.row (.tmp 25) (k * 8)), .is (.tmp 30) (VP.agg [VP.int .i64 a.what, VP.str a.name, O_int a.args, VP.int .i64 a.res, VP.int .i64 a.term.op, VP.int .i64 a.term.fn, O_int a.term.kids, VP.str a.term.num]), .pt 31 (.blk (.val ca) 0), .is (.tmp 32) (VP.int .i64 a.what), .is (.tmp 33) (VP.bool (a.what == 0)), .pt 109 (.blk (.val ca) 0), .is (.tmp 110) (VP.int .i64 a.what), .is (.tmp 111) (VP.bool (a.what == 1)), .pt 112 (.blk (.val ca) 1), .is (.tmp 113) (VP.str a.name), .pt 114 (.blk (.val ca) 2), .is (.tmp 115) (O_int a.args), .pt 116 (.blk (.val ca) 3), .is (.tmp 117) (VP.int .i64 a.res), .is (.tmp 118) (VP.agg [VP.str a.name, O_int a.args, VP.int .i64 a.res])] [(2, .own 101 (.val va) (Arn d))] [(0, .is (.tmp 120) (VP.ptr va)), (1, .is (.tmp 121) (VP.agg [VP.str a.name, O_int a.args, VP.int .i64 a.res])), (2, .own 110 (.tmp 122) (HA.of (VP.tup [VP.int .i64 (d.funR (⟨a.name, a.args, a.res⟩ : FunD)), VP.int .i64 (d.funE (⟨a.name, a.args, a.res⟩ : FunD))]))), (2, .own 101 (.val va) (Arn (d.fun_ (⟨a.name, a.args, a.res⟩ : FunD)))), (3, .is (.tmp 119) (VP.tup [VP.int .i64 (d.funR (⟨a.name, a.args, a.res⟩ : FunD)), VP.int .i64 (d.funE (⟨a.name, a.args, a.res⟩ : FunD))])), (4, .is (.tmp 123) (VP.int .i64 (d.funR (⟨a.name, a.args, a.res⟩ : FunD)))), (5, .is (.tmp 124) (VP.int .i64 (d.funE (⟨a.name, a.args, a.res⟩ : FunD)))), (6, .is (.tmp 14) (VP.int .i64 (d.funR (⟨a.name, a.args, a.res⟩ : FunD)))), (7, .is (.tmp 15) (VP.int .i64 (d.funE (⟨a.name, a.args, a.res⟩ : FunD))))] [] [0, 1, 2, 3, 4, 5, 6, 7, 8, 9, 11, 12, 13, 14, 15, 16, 17, 18, 19, 20, 21, 22, 23, 24, 25, 26] [10] [[], [], [0, 1], [0, 1, 2], [0, 1, 2, 3], [0, 1, 2, 3], [0, 1, 2, 3, 4], [0, 1, 2, 3, 4, 5, 6]] [[2, 3, 4, 5, 6, 7], [2, 3, 4, 5, 6, 7], [3, 4, 5, 6, 7], [4, 5, 6, 7], [6, 7], [7], [7], []] rfl rfl follow rfl ⟨
            .inl ⟨wants_plain rfl, does_move _ (.inl rfl) rfl rfl rfl rfl (ar_tmp (av_fs 6 rfl))⟩,
            .inl ⟨wants_plain rfl, does_loadAgg (ps := [VP.str a.name, O_int a.args, VP.int .i64 a.res]) _ DagN_agg_api_Fun rfl rfl rfl rfl rfl (pt_ptr (ar_tmp (av_fs 1 rfl))) (rds_box (off := 0) (av_fs 0 rfl) (hq_many (n := 3) rfl))⟩,
            .inl ⟨wants_plain rfl, does_callG [] [101] [101] 110 [0, 1] (da_Fun (v := va) (d := d) (⟨a.name, a.args, a.res⟩ : FunD) (by first | omega | (dsimp only; omega)) (by omega)) rfl DagN_hb___collator_dag_Arena__Fun rfl rfl rfl rfl rfl ar_clo (ars_cons (pa_vp (ar_tmp (av_rs 0 0 rfl rfl))) (ars_cons (pa_vp (ar_tmp (av_rs 1 1 rfl rfl))) ars_nil)) trivial ⟨(av_os 0 2 rfl rfl), trivial⟩⟩,
            .inl ⟨wants_plain rfl, does_move _ (.inl rfl) rfl rfl rfl rfl (ar_of (av_rs 2 2 rfl rfl))⟩,
            .inl ⟨wants_plain rfl, does_extract (ps := [VP.int .i64 (d.funR (⟨a.name, a.args, a.res⟩ : FunD)), VP.int .i64 (d.funE (⟨a.name, a.args, a.res⟩ : FunD))]) _ 0 rfl rfl rfl rfl rfl (ar_tmp (av_rs 4 3 rfl rfl)) rfl⟩,
            .inl ⟨wants_plain rfl, does_extract (ps := [VP.int .i64 (d.funR (⟨a.name, a.args, a.res⟩ : FunD)), VP.int .i64 (d.funE (⟨a.name, a.args, a.res⟩ : FunD))]) _ 1 rfl rfl rfl rfl rfl (ar_tmp (av_rs 4 3 rfl rfl)) rfl⟩,
            .inl ⟨wants_plain rfl, does_move _ (.inr rfl) rfl rfl rfl rfl (ar_tmp (av_rs 5 4 rfl rfl))⟩,
            .inl ⟨wants_plain rfl, does_move _ (.inr rfl) rfl rfl rfl rfl (ar_tmp (av_rs 6 5 rfl rfl))⟩,
            trivial⟩ ?_
          refine nx_then ?_
          refine t_pick [28, 0, 1, 2, 3, 4, 5, 6, 7, 8, 9, 10, 11, 12, 13, 14, 15, 16, 17, 18, 19, 20, 21, 22, 23, 24, 25, 26, 27, 29, 30, 31, 32, 33, 34] rfl ?_
          refine t_freeze (fz_of _) rfl ?_
          refine t_seq ?_
          refine t_region (F := ⟨_, _, _, _, _, _⟩) [.is (.tmp 122) (VP.tup [VP.int .i64 (d.funR (⟨a.name, a.args, a.res⟩ : FunD)), VP.int .i64 (d.funE (⟨a.name, a.args, a.res⟩ : FunD))]), .own 109 (.val v11) (HA.cells 38 [HA.of (VP.str a.name), HA.of (O_int a.args), HA.of (VP.int .i64 a.res)]), .is (.tmp 13) (VP.ptr v11), .own 103 (.val ca) (B_act6 a), .is (.tmp 6) (VP.ptr ca), .own 102 (.val vk) (R_fun d.funs), .is (.tmp 4) (VP.eq vk true true), .is (.tmp 3) (VP.ptr va), .is (.tmp 25) (O_act6 l), .is (.tmp 26) (VP.int .i64 ((l.length : Nat) : Int)), .is (.tmp 27) (VP.int .i64 ((k : Nat) : Int)), .is (.tmp 28) (VP.bool (decide (((k : Nat) : Int) < ((l.length : Nat) : Int)))), .pt 29 (.row (.tmp 25) (k * 8)), .is (.tmp 30) (VP.agg [VP.int .i64 a.what, VP.str a.name, O_int a.args, VP.int .i64 a.res, VP.int .i64 a.term.op, VP.int .i64 a.term.fn, O_int a.term.kids, VP.str a.term.num]), .pt 31 (.blk (.val ca) 0), .is (.tmp 32) (VP.int .i64 a.what), .is (.tmp 33) (VP.bool (a.what == 0)), .pt 109 (.blk (.val ca) 0), .is (.tmp 110) (VP.int .i64 a.what), .is (.tmp 111) (VP.bool (a.what == 1)), .pt 112 (.blk (.val ca) 1), .is (.tmp 113) (VP.str a.name), .pt 114 (.blk (.val ca) 2), .is (.tmp 115) (O_int a.args), .pt 116 (.blk (.val ca) 3), .is (.tmp 117) (VP.int .i64 a.res), .is (.tmp 118) (VP.agg [VP.str a.name, O_int a.args, VP.int .i64 a.res]), .is (.tmp 120) (VP.ptr va), .is (.tmp 121) (VP.agg [VP.str a.name, O_int a.args, VP.int .i64 a.res]), .own 101 (.val va) (Arn (d.fun_ (⟨a.name, a.args, a.res⟩ : FunD))), .is (.tmp 119) (VP.tup [VP.int .i64 (d.funR (⟨a.name, a.args, a.res⟩ : FunD)), VP.int .i64 (d.funE (⟨a.name, a.args, a.res⟩ : FunD))]), .is (.tmp 123) (VP.int .i64 (d.funR (⟨a.name, a.args, a.res⟩ : FunD))), .is (.tmp 124) (VP.int .i64 (d.funE (⟨a.name, a.args, a.res⟩ : FunD))), .is (.tmp 14) (VP.int .i64 (d.funR (⟨a.name, a.args, a.res⟩ : FunD))), .is (.tmp 15) (VP.int .i64 (d.funE (⟨a.name, a.args, a.res⟩ : FunD)))] [] [(0, .is (.tmp 125) (VP.int .i64 (d.funE (⟨a.name, a.args, a.res⟩ : FunD)))), (1, .is (.tmp 126) (VP.bool ((d.funE (⟨a.name, a.args, a.res⟩ : FunD)) == 0)))] [] [0, 1, 2, 3, 4, 5, 6, 7, 8, 9, 10, 11, 12, 13, 14, 15, 16, 17, 18, 19, 20, 21, 22, 23, 24, 25, 26, 27, 28, 29, 30, 31, 32, 33, 34] [] [[], [0]] [[1], []] rfl rfl follow rfl ⟨
            .inl ⟨wants_plain rfl, does_move _ (.inl rfl) rfl rfl rfl rfl (ar_tmp (av_fs 34 rfl))⟩,
            .inl ⟨wants_plain rfl, does_cmp (m := (d.funE (⟨a.name, a.args, a.res⟩ : FunD))) (n := 0) _ _ _ _ _ rfl rfl rfl rfl rfl rfl .i64 (ar_tmp (av_rs 0 0 rfl rfl)) (ar_const (fun _ _ => rfl))⟩,
            trivial⟩ ?_
          refine nx_then ?_
          refine t_split 36 rfl (fun hb12 => ?_) (fun hb12 => ?_)
          · have hc12 := eq_of_beq hb12
            refine t_seq ?_
            refine t_seq ?_
            refine t_region (F := ⟨_, _, _, _, _, _⟩) [.is (.tmp 122) (VP.tup [VP.int .i64 (d.funR (⟨a.name, a.args, a.res⟩ : FunD)), VP.int .i64 (d.funE (⟨a.name, a.args, a.res⟩ : FunD))]), .own 109 (.val v11) (HA.cells 38 [HA.of (VP.str a.name), HA.of (O_int a.args), HA.of (VP.int .i64 a.res)]), .is (.tmp 13) (VP.ptr v11), .own 103 (.val ca) (B_act6 a), .is (.tmp 6) (VP.ptr ca), .own 102 (.val vk) (R_fun d.funs), .is (.tmp 4) (VP.eq vk true true), .is (.tmp 3) (VP.ptr va), .is (.tmp 25) (O_act6 l), .is (.tmp 26) (VP.int .i64 ((l.length : Nat) : Int)), .is (.tmp 27) (VP.int .i64 ((k : Nat) : Int)), .is (.tmp 28) (VP.bool (decide (((k : Nat) : Int) < ((l.length : Nat) : Int)))), .pt 29 (.row (.tmp 25) (k * 8)), .is (.tmp 30) (VP.agg [VP.int .i64 a.what, VP.str a.name, O_int a.args, VP.int .i64 a.res, VP.int .i64 a.term.op, VP.int .i64 a.term.fn, O_int a.term.kids, VP.str a.term.num]), .pt 31 (.blk (.val ca) 0), .is (.tmp 32) (VP.int .i64 a.what), .is (.tmp 33) (VP.bool (a.what == 0)), .pt 109 (.blk (.val ca) 0), .is (.tmp 110) (VP.int .i64 a.what), .is (.tmp 111) (VP.bool (a.what == 1)), .pt 112 (.blk (.val ca) 1), .is (.tmp 113) (VP.str a.name), .pt 114 (.blk (.val ca) 2), .is (.tmp 115) (O_int a.args), .pt 116 (.blk (.val ca) 3), .is (.tmp 117) (VP.int .i64 a.res), .is (.tmp 118) (VP.agg [VP.str a.name, O_int a.args, VP.int .i64 a.res]), .is (.tmp 120) (VP.ptr va), .is (.tmp 121) (VP.agg [VP.str a.name, O_int a.args, VP.int .i64 a.res]), .own 101 (.val va) (Arn (d.fun_ (⟨a.name, a.args, a.res⟩ : FunD))), .is (.tmp 119) (VP.tup [VP.int .i64 (d.funR (⟨a.name, a.args, a.res⟩ : FunD)), VP.int .i64 (d.funE (⟨a.name, a.args, a.res⟩ : FunD))]), .is (.tmp 123) (VP.int .i64 (d.funR (⟨a.name, a.args, a.res⟩ : FunD))), .is (.tmp 124) (VP.int .i64 (d.funE (⟨a.name, a.args, a.res⟩ : FunD))), .is (.tmp 14) (VP.int .i64 (d.funR (⟨a.name, a.args, a.res⟩ : FunD))), .is (.tmp 15) (VP.int .i64 (d.funE (⟨a.name, a.args, a.res⟩ : FunD))), .is (.tmp 125) (VP.int .i64 (d.funE (⟨a.name, a.args, a.res⟩ : FunD))), .is (.tmp 126) (VP.bool ((d.funE (⟨a.name, a.args, a.res⟩ : FunD)) == 0))] [] [(0, .is (.tmp 127) (VP.int .i64 (d.funR (⟨a.name, a.args, a.res⟩ : FunD)))), (1, .is (.tmp 128) (VP.eq vk true true)), (2, .is (.tmp 129) (VP.int .i64 ((d.funs.length : Nat) : Int))), (3, .is (.tmp 130) (VP.bool ((d.funR (⟨a.name, a.args, a.res⟩ : FunD)) != ((d.funs.length : Nat) : Int))))] [] [0, 1, 2, 3, 4, 5, 6, 7, 8, 9, 10, 11, 12, 13, 14, 15, 16, 17, 18, 19, 20, 21, 22, 23, 24, 25, 26, 27, 28, 29, 30, 31, 32, 33, 34, 35, 36] [] [[], [], [1], [0, 1, 2]] [[3], [2, 3], [3], []] rfl rfl follow rfl ⟨
              .inl ⟨wants_plain rfl, does_move _ (.inl rfl) rfl rfl rfl rfl (ar_tmp (av_fs 33 rfl))⟩,
              .inl ⟨wants_plain rfl, does_move _ (.inl rfl) rfl rfl rfl rfl (ar_tmp (av_fs 6 rfl))⟩,
              .inl ⟨wants_plain rfl, does_len _ _ (by kernel_rfl) rfl rfl rfl rfl rfl (sl_own (av_fs 5 rfl) (ar_tmp (av_rs 1 1 rfl rfl)))⟩,
              .inl ⟨wants_plain rfl, does_cmp (m := (d.funR (⟨a.name, a.args, a.res⟩ : FunD))) (n := ((d.funs.length : Nat) : Int)) _ _ _ _ _ rfl rfl rfl rfl rfl rfl .i64 (ar_tmp (av_rs 0 0 rfl rfl)) (ar_tmp (av_rs 2 2 rfl rfl))⟩,
              trivial⟩ ?_
            refine nx_then ?_
            refine t_cond_fe 40 rfl (by rw [(fun_funs (eq_of_beq hb12)).2]; simp) ?_
            refine t_skip ?_
            refine nx_then ?_
            refine t_region (F := ⟨_, _, _, _, _, _⟩) [.is (.tmp 122) (VP.tup [VP.int .i64 (d.funR (⟨a.name, a.args, a.res⟩ : FunD)), VP.int .i64 (d.funE (⟨a.name, a.args, a.res⟩ : FunD))]), .own 109 (.val v11) (HA.cells 38 [HA.of (VP.str a.name), HA.of (O_int a.args), HA.of (VP.int .i64 a.res)]), .is (.tmp 13) (VP.ptr v11), .own 103 (.val ca) (B_act6 a), .is (.tmp 6) (VP.ptr ca), .is (.tmp 3) (VP.ptr va), .is (.tmp 25) (O_act6 l), .is (.tmp 26) (VP.int .i64 ((l.length : Nat) : Int)), .is (.tmp 27) (VP.int .i64 ((k : Nat) : Int)), .is (.tmp 28) (VP.bool (decide (((k : Nat) : Int) < ((l.length : Nat) : Int)))), .pt 29 (.row (.tmp 25) (k * 8)), .is (.tmp 30) (VP.agg [VP.int .i64 a.what, VP.str a.name, O_int a.args, VP.int .i64 a.res, VP.int .i64 a.term.op, VP.int .i64 a.term.fn, O_int a.term.kids, VP.str a.term.num]), .pt 31 (.blk (.val ca) 0), .is (.tmp 32) (VP.int .i64 a.what), .is (.tmp 33) (VP.bool (a.what == 0)), .pt 109 (.blk (.val ca) 0), .is (.tmp 110) (VP.int .i64 a.what), .is (.tmp 111) (VP.bool (a.what == 1)), .pt 112 (.blk (.val ca) 1), .is (.tmp 113) (VP.str a.name), .pt 114 (.blk (.val ca) 2), .is (.tmp 115) (O_int a.args), .pt 116 (.blk (.val ca) 3), .is (.tmp 117) (VP.int .i64 a.res), .is (.tmp 118) (VP.agg [VP.str a.name, O_int a.args, VP.int .i64 a.res]), .is (.tmp 120) (VP.ptr va), .is (.tmp 121) (VP.agg [VP.str a.name, O_int a.args, VP.int .i64 a.res]), .own 101 (.val va) (Arn (d.fun_ (⟨a.name, a.args, a.res⟩ : FunD))), .is (.tmp 119) (VP.tup [VP.int .i64 (d.funR (⟨a.name, a.args, a.res⟩ : FunD)), VP.int .i64 (d.funE (⟨a.name, a.args, a.res⟩ : FunD))]), .is (.tmp 123) (VP.int .i64 (d.funR (⟨a.name, a.args, a.res⟩ : FunD))), .is (.tmp 124) (VP.int .i64 (d.funE (⟨a.name, a.args, a.res⟩ : FunD))), .is (.tmp 14) (VP.int .i64 (d.funR (⟨a.name, a.args, a.res⟩ : FunD))), .is (.tmp 15) (VP.int .i64 (d.funE (⟨a.name, a.args, a.res⟩ : FunD))), .is (.tmp 125) (VP.int .i64 (d.funE (⟨a.name, a.args, a.res⟩ : FunD))), .is (.tmp 126) (VP.bool ((d.funE (⟨a.name, a.args, a.res⟩ : FunD)) == 0)), .is (.tmp 127) (VP.int .i64 (d.funR (⟨a.name, a.args, a.res⟩ : FunD))), .is (.tmp 128) (VP.eq vk true true), .is (.tmp 129) (VP.int .i64 ((d.funs.length : Nat) : Int)), .is (.tmp 130) (VP.bool ((d.funR (⟨a.name, a.args, a.res⟩ : FunD)) != ((d.funs.length : Nat) : Int)))] [(3, .own 102 (.val vk) (R_fun d.funs)), (4, .is (.tmp 4) (VP.eq vk true true))] [(0, .is (.tmp 131) (VP.eq vk true true)), (1, .is (.tmp 132) (VP.agg [VP.str a.name, O_int a.args, VP.int .i64 a.res])), (3, .own 102 (.tmp 134) (R_fun (d.funs ++ [(⟨a.name, a.args, a.res⟩ : FunD)]))), (4, .eq 4 (.tmp 134))] [(2, 3, .own 111 (.tmp 133) (R_fun ([(⟨a.name, a.args, a.res⟩ : FunD)])))] [0, 1, 2, 3, 4, 7, 8, 9, 10, 11, 12, 13, 14, 15, 16, 17, 18, 19, 20, 21, 22, 23, 24, 25, 26, 27, 28, 29, 30, 31, 32, 33, 34, 35, 36, 37, 38, 39, 40] [5, 6] [[], [], [1], [0, 1, 2], [0, 1, 2, 3]] [[3, 4], [2, 3, 4], [3, 4], [4], []] rfl rfl follow rfl ⟨
              .inl ⟨wants_plain rfl, does_move _ (.inl rfl) rfl rfl rfl rfl (ar_tmp (av_os 1 4 rfl rfl))⟩,
              .inl ⟨wants_plain rfl, does_loadAgg (ps := [VP.str a.name, O_int a.args, VP.int .i64 a.res]) _ DagN_agg_api_Fun rfl rfl rfl rfl rfl (pt_ptr (ar_tmp (av_fs 2 rfl))) (rds_box (off := 0) (av_fs 1 rfl) (hq_many (n := 3) rfl))⟩,
              .inl ⟨wants_plain rfl, does_sliceLit (n := 1) DagN_el_fun rfl [VP.str (ByteArray.mk #[]), VP.nilS, VP.int .i64 0] (fun _ _ => by rw [show zerosOf (.agg #[.string (ByteArray.mk #[]), .slice none 0 0, .int .i64 0]) (1 * 3) = [.string (ByteArray.mk #[]), .slice none 0 0, .int .i64 0] by kernel_rfl]; exact ⟨rfl, rfl, rfl, trivial⟩) rfl rfl rfl rfl rfl rfl rfl (.cons 0 [HA.of (VP.str a.name), HA.of (O_int a.args), HA.of (VP.int .i64 a.res)] none rfl rfl (cv_agg (ps := [VP.str a.name, O_int a.args, VP.int .i64 a.res]) (ar_tmp (av_rs 1 1 rfl rfl))) (.nil _))⟩,
              .inl ⟨wants_plain rfl, does_append (n := d.funs.length) (m := ([(⟨a.name, a.args, a.res⟩ : FunD)]).length) DagN_el_fun rfl _ _ rfl rfl rfl rfl rfl (by simp only [List.length_append, List.length_nil, List.length_cons, Nat.zero_add]) (flat_cat d.funs ([(⟨a.name, a.args, a.res⟩ : FunD)])) rfl (by constructor <;> first | decide | omega | (simp only [List.length_append, List.length_cons, List.length_nil] at *; omega)) (flat_lenH cFun_len _) (flat_allH (fun _ => rfl) cFun_one _) (flat_allH (fun _ => rfl) cFun_nu _) (mv_ownv (av_os 0 3 rfl rfl) (ar_tmp (av_rs 0 0 rfl rfl))) (src_row (av_ms 0 2 3 rfl rfl rfl))⟩,
              .inl ⟨wants_plain rfl, does_eqTmp (k := 134) _ rfl (.inr rfl) rfl rfl rfl rfl rfl⟩,
              trivial⟩ ?_
            refine nx_block ?_
            refine nx_then ?_
            refine t_pick [41, 0, 1, 2, 3, 4, 5, 6, 7, 8, 9, 10, 11, 12, 13, 14, 15, 16, 17, 18, 19, 20, 21, 22, 23, 24, 25, 26, 27, 28, 29, 30, 31, 32, 33, 34, 35, 36, 37, 38, 39, 40, 42] rfl ?_
            refine t_name rfl fun v13 => ?_
            refine t_pick [43, 1, 0, 2, 3, 4, 5, 6, 7, 8, 9, 10, 11, 12, 13, 14, 15, 16, 17, 18, 19, 20, 21, 22, 23, 24, 25, 26, 27, 28, 29, 30, 31, 32, 33, 34, 35, 36, 37, 38, 39, 40, 41, 42] rfl ?_
            refine t_eq ?_
            refine t_region (F := ⟨_, _, _, _, _, _⟩) [.is (.tmp 4) (VP.eq v13 true true), .is (.tmp 134) (VP.eq v13 true true), .own 102 (.val v13) (R_fun (d.funs ++ [(⟨a.name, a.args, a.res⟩ : FunD)])), .is (.tmp 122) (VP.tup [VP.int .i64 (d.funR (⟨a.name, a.args, a.res⟩ : FunD)), VP.int .i64 (d.funE (⟨a.name, a.args, a.res⟩ : FunD))]), .own 109 (.val v11) (HA.cells 38 [HA.of (VP.str a.name), HA.of (O_int a.args), HA.of (VP.int .i64 a.res)]), .is (.tmp 13) (VP.ptr v11), .own 103 (.val ca) (B_act6 a), .is (.tmp 6) (VP.ptr ca), .is (.tmp 3) (VP.ptr va), .is (.tmp 25) (O_act6 l), .is (.tmp 26) (VP.int .i64 ((l.length : Nat) : Int)), .is (.tmp 28) (VP.bool (decide (((k : Nat) : Int) < ((l.length : Nat) : Int)))), .pt 29 (.row (.tmp 25) (k * 8)), .is (.tmp 30) (VP.agg [VP.int .i64 a.what, VP.str a.name, O_int a.args, VP.int .i64 a.res, VP.int .i64 a.term.op, VP.int .i64 a.term.fn, O_int a.term.kids, VP.str a.term.num]), .pt 31 (.blk (.val ca) 0), .is (.tmp 32) (VP.int .i64 a.what), .is (.tmp 33) (VP.bool (a.what == 0)), .pt 109 (.blk (.val ca) 0), .is (.tmp 110) (VP.int .i64 a.what), .is (.tmp 111) (VP.bool (a.what == 1)), .pt 112 (.blk (.val ca) 1), .is (.tmp 113) (VP.str a.name), .pt 114 (.blk (.val ca) 2), .is (.tmp 115) (O_int a.args), .pt 116 (.blk (.val ca) 3), .is (.tmp 117) (VP.int .i64 a.res), .is (.tmp 118) (VP.agg [VP.str a.name, O_int a.args, VP.int .i64 a.res]), .is (.tmp 120) (VP.ptr va), .is (.tmp 121) (VP.agg [VP.str a.name, O_int a.args, VP.int .i64 a.res]), .own 101 (.val va) (Arn (d.fun_ (⟨a.name, a.args, a.res⟩ : FunD))), .is (.tmp 119) (VP.tup [VP.int .i64 (d.funR (⟨a.name, a.args, a.res⟩ : FunD)), VP.int .i64 (d.funE (⟨a.name, a.args, a.res⟩ : FunD))]), .is (.tmp 123) (VP.int .i64 (d.funR (⟨a.name, a.args, a.res⟩ : FunD))), .is (.tmp 124) (VP.int .i64 (d.funE (⟨a.name, a.args, a.res⟩ : FunD))), .is (.tmp 14) (VP.int .i64 (d.funR (⟨a.name, a.args, a.res⟩ : FunD))), .is (.tmp 15) (VP.int .i64 (d.funE (⟨a.name, a.args, a.res⟩ : FunD))), .is (.tmp 125) (VP.int .i64 (d.funE (⟨a.name, a.args, a.res⟩ : FunD))), .is (.tmp 126) (VP.bool ((d.funE (⟨a.name, a.args, a.res⟩ : FunD)) == 0)), .is (.tmp 127) (VP.int .i64 (d.funR (⟨a.name, a.args, a.res⟩ : FunD))), .is (.tmp 128) (VP.eq vk true true), .is (.tmp 129) (VP.int .i64 ((d.funs.length : Nat) : Int)), .is (.tmp 130) (VP.bool ((d.funR (⟨a.name, a.args, a.res⟩ : FunD)) != ((d.funs.length : Nat) : Int))), .is (.tmp 131) (VP.eq vk true true), .is (.tmp 132) (VP.agg [VP.str a.name, O_int a.args, VP.int .i64 a.res])] [(1, .is (.tmp 27) (VP.int .i64 ((k : Nat) : Int)))] [(0, .is (.tmp 135) (VP.int .i64 (((k + 1) : Nat) : Int))), (1, .is (.tmp 27) (VP.int .i64 (((k + 1) : Nat) : Int)))] [] [0, 1, 2, 3, 4, 5, 6, 7, 8, 9, 10, 12, 13, 14, 15, 16, 17, 18, 19, 20, 21, 22, 23, 24, 25, 26, 27, 28, 29, 30, 31, 32, 33, 34, 35, 36, 37, 38, 39, 40, 41, 42, 43] [11] [[], [0]] [[1], []] rfl rfl follow rfl ⟨
              .inl ⟨wants_plain rfl, does_addE (m := ((k : Nat) : Int)) (n := 1) (x := (((k + 1) : Nat) : Int)) (by omega) _ _ _ _ rfl rfl rfl rfl rfl (by omega) (ar_tmp (av_os 0 1 rfl rfl)) (ar_const (fun _ _ => rfl))⟩,
              .inl ⟨wants_plain rfl, does_move _ (.inl rfl) rfl rfl rfl rfl (ar_tmp (av_rs 0 0 rfl rfl))⟩,
              trivial⟩ ?_
            refine t_pick [2, 0, 1, 3, 4, 5, 6, 7, 8, 9, 10, 11, 12, 13, 14, 15, 16, 17, 18, 19, 20, 21, 22, 23, 24, 25, 26, 27, 28, 29, 30, 31, 32, 33, 34, 35, 36, 37, 38, 39, 40, 41, 42, 43, 44] rfl ?_
            refine t_untmp rfl ?_
            refine t_weak (R' := R_fun ((d.fun_ (⟨a.name, a.args, a.res⟩ : FunD)).funs)) (fun _ _ _ _ h => by rw [(fun_funs (eq_of_beq hb12)).1]; exact h) rfl ?_
            refine nx_round (τ := {p : Nat × ArD // p.1 ≤ l.length ∧ SInv p.2 p.1}) (I := fun ⟨(k, d), _⟩ => [.is (.tmp 3) (VP.ptr va), .is (.tmp 25) (O_act6 l), .is (.tmp 26) (VP.int .i64 ((l.length : Nat) : Int)), .is (.tmp 27) (VP.int .i64 ((k : Nat) : Int)), .own 101 (.val va) (Arn d), .own 102 (.tmp 4) (R_fun d.funs)]) (μ := fun ⟨(k, d), _⟩ => l.length - k) (s := ⟨(k, d), hk, hI⟩) (⟨(k + 1, (d.fun_ (⟨a.name, a.args, a.res⟩ : FunD))), (show k + 1 ≤ l.length by omega), sinv_fun hI (⟨a.name, a.args, a.res⟩ : FunD) hga⟩) ?_ [7, 8, 9, 43, 28, 0] ?_
            · exact (show l.length - (k + 1) < l.length - k by omega)
            · exact rfl
          · have hc12 := ne_of_beq_false hb12
            refine t_skip ?_
            refine nx_block ?_
            refine nx_then ?_
            refine t_region (F := ⟨_, _, _, _, _, _⟩) [.is (.tmp 122) (VP.tup [VP.int .i64 (d.funR (⟨a.name, a.args, a.res⟩ : FunD)), VP.int .i64 (d.funE (⟨a.name, a.args, a.res⟩ : FunD))]), .own 109 (.val v11) (HA.cells 38 [HA.of (VP.str a.name), HA.of (O_int a.args), HA.of (VP.int .i64 a.res)]), .is (.tmp 13) (VP.ptr v11), .own 103 (.val ca) (B_act6 a), .is (.tmp 6) (VP.ptr ca), .own 102 (.val vk) (R_fun d.funs), .is (.tmp 4) (VP.eq vk true true), .is (.tmp 3) (VP.ptr va), .is (.tmp 25) (O_act6 l), .is (.tmp 26) (VP.int .i64 ((l.length : Nat) : Int)), .is (.tmp 28) (VP.bool (decide (((k : Nat) : Int) < ((l.length : Nat) : Int)))), .pt 29 (.row (.tmp 25) (k * 8)), .is (.tmp 30) (VP.agg [VP.int .i64 a.what, VP.str a.name, O_int a.args, VP.int .i64 a.res, VP.int .i64 a.term.op, VP.int .i64 a.term.fn, O_int a.term.kids, VP.str a.term.num]), .pt 31 (.blk (.val ca) 0), .is (.tmp 32) (VP.int .i64 a.what), .is (.tmp 33) (VP.bool (a.what == 0)), .pt 109 (.blk (.val ca) 0), .is (.tmp 110) (VP.int .i64 a.what), .is (.tmp 111) (VP.bool (a.what == 1)), .pt 112 (.blk (.val ca) 1), .is (.tmp 113) (VP.str a.name), .pt 114 (.blk (.val ca) 2), .is (.tmp 115) (O_int a.args), .pt 116 (.blk (.val ca) 3), .is (.tmp 117) (VP.int .i64 a.res), .is (.tmp 118) (VP.agg [VP.str a.name, O_int a.args, VP.int .i64 a.res]), .is (.tmp 120) (VP.ptr va), .is (.tmp 121) (VP.agg [VP.str a.name, O_int a.args, VP.int .i64 a.res]), .own 101 (.val va) (Arn (d.fun_ (⟨a.name, a.args, a.res⟩ : FunD))), .is (.tmp 119) (VP.tup [VP.int .i64 (d.funR (⟨a.name, a.args, a.res⟩ : FunD)), VP.int .i64 (d.funE (⟨a.name, a.args, a.res⟩ : FunD))]), .is (.tmp 123) (VP.int .i64 (d.funR (⟨a.name, a.args, a.res⟩ : FunD))), .is (.tmp 124) (VP.int .i64 (d.funE (⟨a.name, a.args, a.res⟩ : FunD))), .is (.tmp 14) (VP.int .i64 (d.funR (⟨a.name, a.args, a.res⟩ : FunD))), .is (.tmp 15) (VP.int .i64 (d.funE (⟨a.name, a.args, a.res⟩ : FunD))), .is (.tmp 125) (VP.int .i64 (d.funE (⟨a.name, a.args, a.res⟩ : FunD))), .is (.tmp 126) (VP.bool ((d.funE (⟨a.name, a.args, a.res⟩ : FunD)) == 0))] [(1, .is (.tmp 27) (VP.int .i64 ((k : Nat) : Int)))] [(0, .is (.tmp 135) (VP.int .i64 (((k + 1) : Nat) : Int))), (1, .is (.tmp 27) (VP.int .i64 (((k + 1) : Nat) : Int)))] [] [0, 1, 2, 3, 4, 5, 6, 7, 8, 9, 11, 12, 13, 14, 15, 16, 17, 18, 19, 20, 21, 22, 23, 24, 25, 26, 27, 28, 29, 30, 31, 32, 33, 34, 35, 36] [10] [[], [0]] [[1], []] rfl rfl follow rfl ⟨
              .inl ⟨wants_plain rfl, does_addE (m := ((k : Nat) : Int)) (n := 1) (x := (((k + 1) : Nat) : Int)) (by omega) _ _ _ _ rfl rfl rfl rfl rfl (by omega) (ar_tmp (av_os 0 1 rfl rfl)) (ar_const (fun _ _ => rfl))⟩,
              .inl ⟨wants_plain rfl, does_move _ (.inl rfl) rfl rfl rfl rfl (ar_tmp (av_rs 0 0 rfl rfl))⟩,
              trivial⟩ ?_
            refine t_pick [5, 6, 0, 1, 2, 3, 4, 7, 8, 9, 10, 11, 12, 13, 14, 15, 16, 17, 18, 19, 20, 21, 22, 23, 24, 25, 26, 27, 28, 29, 30, 31, 32, 33, 34, 35, 36, 37] rfl ?_
            refine t_untmp rfl ?_
            refine t_weak (R' := R_fun ((d.fun_ (⟨a.name, a.args, a.res⟩ : FunD)).funs)) (fun _ _ _ _ h => by rw [congrArg ArD.funs (fun_funsN (ne_of_beq_false hb12))]; exact h) rfl ?_
            refine nx_round (τ := {p : Nat × ArD // p.1 ≤ l.length ∧ SInv p.2 p.1}) (I := fun ⟨(k, d), _⟩ => [.is (.tmp 3) (VP.ptr va), .is (.tmp 25) (O_act6 l), .is (.tmp 26) (VP.int .i64 ((l.length : Nat) : Int)), .is (.tmp 27) (VP.int .i64 ((k : Nat) : Int)), .own 101 (.val va) (Arn d), .own 102 (.tmp 4) (R_fun d.funs)]) (μ := fun ⟨(k, d), _⟩ => l.length - k) (s := ⟨(k, d), hk, hI⟩) (⟨(k + 1, (d.fun_ (⟨a.name, a.args, a.res⟩ : FunD))), (show k + 1 ≤ l.length by omega), sinv_fun hI (⟨a.name, a.args, a.res⟩ : FunD) hga⟩) ?_ [6, 7, 8, 36, 27, 0] ?_
            · exact (show l.length - (k + 1) < l.length - k by omega)
            · exact rfl
        · have hc10 := ne_of_beq_false hb10
          refine t_skip ?_
          refine nx_block ?_
          refine nx_then ?_
          refine t_region (F := ⟨_, _, _, _, _, _⟩) [.own 103 (.val ca) (B_act6 a), .is (.tmp 6) (VP.ptr ca), .own 102 (.val vk) (R_fun d.funs), .is (.tmp 4) (VP.eq vk true true), .is (.tmp 3) (VP.ptr va), .is (.tmp 25) (O_act6 l), .is (.tmp 26) (VP.int .i64 ((l.length : Nat) : Int)), .own 101 (.val va) (Arn d), .is (.tmp 28) (VP.bool (decide (((k : Nat) : Int) < ((l.length : Nat) : Int)))), .pt 29 (.row (.tmp 25) (k * 8)), .is (.tmp 30) (VP.agg [VP.int .i64 a.what, VP.str a.name, O_int a.args, VP.int .i64 a.res, VP.int .i64 a.term.op, VP.int .i64 a.term.fn, O_int a.term.kids, VP.str a.term.num]), .pt 31 (.blk (.val ca) 0), .is (.tmp 32) (VP.int .i64 a.what), .is (.tmp 33) (VP.bool (a.what == 0)), .pt 109 (.blk (.val ca) 0), .is (.tmp 110) (VP.int .i64 a.what), .is (.tmp 111) (VP.bool (a.what == 1))] [(1, .is (.tmp 27) (VP.int .i64 ((k : Nat) : Int)))] [(0, .is (.tmp 135) (VP.int .i64 (((k + 1) : Nat) : Int))), (1, .is (.tmp 27) (VP.int .i64 (((k + 1) : Nat) : Int)))] [] [0, 1, 2, 3, 4, 5, 6, 8, 9, 10, 11, 12, 13, 14, 15, 16, 17] [7] [[], [0]] [[1], []] rfl rfl follow rfl ⟨
            .inl ⟨wants_plain rfl, does_addE (m := ((k : Nat) : Int)) (n := 1) (x := (((k + 1) : Nat) : Int)) (by omega) _ _ _ _ rfl rfl rfl rfl rfl (by omega) (ar_tmp (av_os 0 1 rfl rfl)) (ar_const (fun _ _ => rfl))⟩,
            .inl ⟨wants_plain rfl, does_move _ (.inl rfl) rfl rfl rfl rfl (ar_tmp (av_rs 0 0 rfl rfl))⟩,
            trivial⟩ ?_
          refine t_pick [2, 3, 0, 1, 4, 5, 6, 7, 8, 9, 10, 11, 12, 13, 14, 15, 16, 17, 18] rfl ?_
          refine t_untmp rfl ?_
          refine t_weak (R' := R_fun d.funs) (fun _ _ _ _ h => h) rfl ?_
          refine nx_round (τ := {p : Nat × ArD // p.1 ≤ l.length ∧ SInv p.2 p.1}) (I := fun ⟨(k, d), _⟩ => [.is (.tmp 3) (VP.ptr va), .is (.tmp 25) (O_act6 l), .is (.tmp 26) (VP.int .i64 ((l.length : Nat) : Int)), .is (.tmp 27) (VP.int .i64 ((k : Nat) : Int)), .own 101 (.val va) (Arn d), .own 102 (.tmp 4) (R_fun d.funs)]) (μ := fun ⟨(k, d), _⟩ => l.length - k) (s := ⟨(k, d), hk, hI⟩) (⟨(k + 1, d), (show k + 1 ≤ l.length by omega), hI.up⟩) ?_ [3, 4, 5, 17, 6, 0] ?_
          · exact (show l.length - (k + 1) < l.length - k by omega)
          · exact rfl
    · have hc2 := of_decide_eq_false hb2
      refine t_exit ?_
      refine ex_then ?_
      refine ex_then ?_
      refine ex_block ?_
      refine nx_then ?_
      refine t_pick [0, 1, 2, 6] rfl ?_
      refine t_seq ?_
      have hgs : ∀ x ∈ d.sorts, x.args.length ≤ 1000 := fun x hx => Nat.le_trans (hI.sa x hx) (by decide)
      have hgf : ∀ x ∈ d.funs, x.args.length ≤ 1000 := fun x hx => Nat.le_trans (hI.fa x hx) (by decide)
      refine t_region (F := ⟨_, _, _, _, _, _⟩) [.own 102 (.val vk) (R_fun d.funs), .is (.tmp 4) (VP.eq vk true true), .is (.tmp 3) (VP.ptr va), .own 101 (.val va) (Arn d)] [] [(0, .is (.tmp 136) (VP.ptr va)), (1, .own 112 (.tmp 137) (R_sort d.sorts)), (2, .eq 16 (.tmp 137))] [] [0, 1, 2, 3] [] [[], [0], [0, 1]] [[1, 2], [2], []] rfl rfl follow rfl ⟨
        .inl ⟨wants_plain rfl, does_move _ (.inl rfl) rfl rfl rfl rfl (ar_tmp (av_fs 2 rfl))⟩,
        .inl ⟨wants_plain rfl, does_callG [] [] [] 112 [0] (da_Sorts (v := va) (d := d) (by omega) (hgs)) rfl DagN_hb___collator_dag_Arena__Sorts rfl rfl rfl rfl rfl ar_clo (ars_cons (pa_vp (ar_tmp (av_rs 0 0 rfl rfl))) ars_nil) ⟨(brw_own (av_fs 3 rfl) rfl), trivial⟩ trivial⟩,
        .inl ⟨wants_plain rfl, does_eqTmp (k := 137) _ rfl (.inr rfl) rfl rfl rfl rfl rfl⟩,
        trivial⟩ ?_
      refine t_pick [0, 1, 2, 3, 5, 6] rfl ?_
      refine nx_then ?_
      refine t_pick [4, 0, 1, 2, 3, 5] rfl ?_
      refine t_name rfl fun vs => ?_
      refine t_pick [6, 1, 0, 2, 3, 4, 5] rfl ?_
      refine t_eq ?_
      refine t_pick [0, 2, 3, 4, 5, 6] rfl ?_
      refine t_seq ?_
      refine t_seq ?_
      refine t_region (F := ⟨_, _, _, _, _, _⟩) [.is (.tmp 16) (VP.eq vs true true), .own 112 (.val vs) (R_sort d.sorts), .own 102 (.val vk) (R_fun d.funs), .is (.tmp 4) (VP.eq vk true true), .is (.tmp 3) (VP.ptr va), .own 101 (.val va) (Arn d)] [] [(0, .is (.tmp 138) (VP.eq vs true true)), (1, .is (.tmp 139) (VP.int .i64 ((d.sorts.length : Nat) : Int))), (2, .is (.tmp 140) (VP.int .i64 0))] [] [0, 1, 2, 3, 4, 5] [] [[], [0], []] [[1], [], []] rfl rfl follow rfl ⟨
        .inl ⟨wants_plain rfl, does_move _ (.inl rfl) rfl rfl rfl rfl (ar_tmp (av_fs 0 rfl))⟩,
        .inl ⟨wants_plain rfl, does_len _ _ (by kernel_rfl) rfl rfl rfl rfl rfl (sl_own (av_fs 1 rfl) (ar_tmp (av_rs 0 0 rfl rfl)))⟩,
        .inl ⟨wants_plain rfl, does_move _ (.inl rfl) rfl rfl rfl rfl (ar_const (fun _ _ => rfl))⟩,
        trivial⟩ ?_
      refine t_pick [0, 1, 2, 3, 4, 5, 7, 8] rfl ?_
      refine nx_then ?_
      refine t_block ?_
      refine t_pick [7, 0, 1, 2, 3, 4, 5, 6] rfl ?_
      refine t_slot (y := VP.int .i64 ((0 : Nat) : Int)) (fun _ _ _ h => h) ?_
      refine t_loop (τ := {i : Nat // i ≤ d.sorts.length}) (fun ⟨i, _⟩ => [.is (.tmp 139) (VP.int .i64 ((d.sorts.length : Nat) : Int)), .is (.tmp 140) (VP.int .i64 ((i : Nat) : Int)), .is (.tmp 4) (VP.eq vk true true), .is (.tmp 3) (VP.ptr va), .is (.tmp 16) (VP.eq vs true true), .own 101 (.val va) (Arn d), .own 102 (.val vk) (R_fun d.funs), .own 112 (.val vs) (R_sort d.sorts)]) (fun ⟨i, _⟩ => d.sorts.length - i) (⟨0, Nat.zero_le _⟩) [7, 0, 4, 5, 1, 6, 3, 2] rfl ?_
      rintro ⟨i, hi⟩
      refine t_seq ?_
      refine t_region (F := ⟨_, _, _, _, _, _⟩) [.is (.tmp 139) (VP.int .i64 ((d.sorts.length : Nat) : Int)), .is (.tmp 140) (VP.int .i64 ((i : Nat) : Int)), .is (.tmp 4) (VP.eq vk true true), .is (.tmp 3) (VP.ptr va), .is (.tmp 16) (VP.eq vs true true), .own 101 (.val va) (Arn d), .own 102 (.val vk) (R_fun d.funs), .own 112 (.val vs) (R_sort d.sorts)] [] [(0, .is (.tmp 141) (VP.bool (decide (((i : Nat) : Int) < ((d.sorts.length : Nat) : Int)))))] [] [0, 1, 2, 3, 4, 5, 6, 7] [] [[]] [[]] rfl rfl follow rfl ⟨
        .inl ⟨wants_plain rfl, does_cmp (m := ((i : Nat) : Int)) (n := ((d.sorts.length : Nat) : Int)) _ _ _ _ _ rfl rfl rfl rfl rfl rfl .i64 (ar_tmp (av_fs 1 rfl)) (ar_tmp (av_fs 0 rfl))⟩,
        trivial⟩ ?_
      refine nx_then ?_
      refine t_seq ?_
      refine t_split 8 rfl (fun hb14 => ?_) (fun hb14 => ?_)
      · have hc14 := of_decide_eq_true hb14
        obtain ⟨x, hx⟩ : ∃ x, d.sorts[i]? = some x := ⟨_, List.getElem?_eq_getElem (by omega)⟩
        refine t_skip ?_
        refine nx_then ?_
        refine t_seq ?_
        refine t_block ?_
        refine t_seq ?_
        refine t_region (F := ⟨_, _, _, _, _, _⟩) [.is (.tmp 139) (VP.int .i64 ((d.sorts.length : Nat) : Int)), .is (.tmp 140) (VP.int .i64 ((i : Nat) : Int)), .is (.tmp 4) (VP.eq vk true true), .is (.tmp 3) (VP.ptr va), .is (.tmp 16) (VP.eq vs true true), .own 101 (.val va) (Arn d), .own 102 (.val vk) (R_fun d.funs), .own 112 (.val vs) (R_sort d.sorts), .is (.tmp 141) (VP.bool (decide (((i : Nat) : Int) < ((d.sorts.length : Nat) : Int))))] [] [(0, .is (.tmp 142) (VP.int .i64 ((i : Nat) : Int))), (1, .is (.tmp 17) (VP.int .i64 ((i : Nat) : Int)))] [] [0, 1, 2, 3, 4, 5, 6, 7, 8] [] [[], [0]] [[1], []] rfl rfl follow rfl ⟨
          .inl ⟨wants_plain rfl, does_move _ (.inl rfl) rfl rfl rfl rfl (ar_tmp (av_fs 1 rfl))⟩,
          .inl ⟨wants_plain rfl, does_move _ (.inr rfl) rfl rfl rfl rfl (ar_tmp (av_rs 0 0 rfl rfl))⟩,
          trivial⟩ ?_
        refine nx_then ?_
        refine t_seq ?_
        refine t_region (F := ⟨_, _, _, _, _, _⟩) [.is (.tmp 139) (VP.int .i64 ((d.sorts.length : Nat) : Int)), .is (.tmp 140) (VP.int .i64 ((i : Nat) : Int)), .is (.tmp 4) (VP.eq vk true true), .is (.tmp 3) (VP.ptr va), .is (.tmp 16) (VP.eq vs true true), .own 101 (.val va) (Arn d), .own 102 (.val vk) (R_fun d.funs), .own 112 (.val vs) (R_sort d.sorts), .is (.tmp 141) (VP.bool (decide (((i : Nat) : Int) < ((d.sorts.length : Nat) : Int)))), .is (.tmp 142) (VP.int .i64 ((i : Nat) : Int)), .is (.tmp 17) (VP.int .i64 ((i : Nat) : Int))] [] [(0, .is (.tmp 18) (VP.int .i64 0))] [] [0, 1, 2, 3, 4, 5, 6, 7, 8, 9, 10] [] [[]] [[]] rfl rfl follow rfl ⟨
          .inl ⟨wants_plain rfl, does_move _ (.inr rfl) rfl rfl rfl rfl (ar_const (fun _ _ => rfl))⟩,
          trivial⟩ ?_
        refine nx_then ?_
        refine t_block ?_
        refine t_pick [11, 0, 1, 2, 3, 4, 5, 6, 7, 8, 9, 10] rfl ?_
        refine t_slot (y := VP.int .i64 ((0 : Nat) : Int)) (fun _ _ _ h => h) ?_
        refine t_loop (τ := {j : Nat // j ≤ i}) (fun ⟨j, _⟩ => [.is (.tmp 139) (VP.int .i64 ((d.sorts.length : Nat) : Int)), .is (.tmp 140) (VP.int .i64 ((i : Nat) : Int)), .is (.tmp 17) (VP.int .i64 ((i : Nat) : Int)), .is (.tmp 18) (VP.int .i64 ((j : Nat) : Int)), .is (.tmp 4) (VP.eq vk true true), .is (.tmp 3) (VP.ptr va), .is (.tmp 16) (VP.eq vs true true), .own 101 (.val va) (Arn d), .own 102 (.val vk) (R_fun d.funs), .own 112 (.val vs) (R_sort d.sorts)]) (fun ⟨j, _⟩ => i - j) (⟨0, Nat.zero_le _⟩) [1, 2, 11, 0, 3, 4, 5, 6, 7, 8] rfl ?_
        rintro ⟨j, hj⟩
        refine t_seq ?_
        refine t_seq ?_
        refine t_region (F := ⟨_, _, _, _, _, _⟩) [.is (.tmp 139) (VP.int .i64 ((d.sorts.length : Nat) : Int)), .is (.tmp 140) (VP.int .i64 ((i : Nat) : Int)), .is (.tmp 17) (VP.int .i64 ((i : Nat) : Int)), .is (.tmp 18) (VP.int .i64 ((j : Nat) : Int)), .is (.tmp 4) (VP.eq vk true true), .is (.tmp 3) (VP.ptr va), .is (.tmp 16) (VP.eq vs true true), .own 101 (.val va) (Arn d), .own 102 (.val vk) (R_fun d.funs), .own 112 (.val vs) (R_sort d.sorts)] [] [(0, .is (.tmp 143) (VP.int .i64 ((j : Nat) : Int))), (1, .is (.tmp 144) (VP.int .i64 ((i : Nat) : Int))), (2, .is (.tmp 145) (VP.bool (decide (((j : Nat) : Int) < ((i : Nat) : Int)))))] [] [0, 1, 2, 3, 4, 5, 6, 7, 8, 9] [] [[], [], [0, 1]] [[2], [2], []] rfl rfl follow rfl ⟨
          .inl ⟨wants_plain rfl, does_move _ (.inl rfl) rfl rfl rfl rfl (ar_tmp (av_fs 3 rfl))⟩,
          .inl ⟨wants_plain rfl, does_move _ (.inl rfl) rfl rfl rfl rfl (ar_tmp (av_fs 2 rfl))⟩,
          .inl ⟨wants_plain rfl, does_cmp (m := ((j : Nat) : Int)) (n := ((i : Nat) : Int)) _ _ _ _ _ rfl rfl rfl rfl rfl rfl .i64 (ar_tmp (av_rs 0 0 rfl rfl)) (ar_tmp (av_rs 1 1 rfl rfl))⟩,
          trivial⟩ ?_
        refine nx_then ?_
        refine t_split 12 rfl (fun hb15 => ?_) (fun hb15 => ?_)
        · have hc15 := of_decide_eq_true hb15
          obtain ⟨y, hy⟩ : ∃ y, d.sorts[j]? = some y := ⟨_, List.getElem?_eq_getElem (by omega)⟩
          have huq := hI.uq j i y x (by omega) hy hx
          refine t_skip ?_
          refine nx_then ?_
          refine t_seq ?_
          refine t_block ?_
          refine t_seq ?_
          rcases Bool.eq_false_or_eq_true (x.name.toList == y.name.toList) with hb16 | hb16
          · refine t_region (F := ⟨_, _, _, _, _, _⟩) [.is (.tmp 139) (VP.int .i64 ((d.sorts.length : Nat) : Int)), .is (.tmp 140) (VP.int .i64 ((i : Nat) : Int)), .is (.tmp 17) (VP.int .i64 ((i : Nat) : Int)), .is (.tmp 18) (VP.int .i64 ((j : Nat) : Int)), .is (.tmp 4) (VP.eq vk true true), .is (.tmp 3) (VP.ptr va), .is (.tmp 16) (VP.eq vs true true), .own 101 (.val va) (Arn d), .own 102 (.val vk) (R_fun d.funs), .own 112 (.val vs) (R_sort d.sorts), .is (.tmp 143) (VP.int .i64 ((j : Nat) : Int)), .is (.tmp 144) (VP.int .i64 ((i : Nat) : Int)), .is (.tmp 145) (VP.bool (decide (((j : Nat) : Int) < ((i : Nat) : Int))))] [] [(0, .is (.tmp 148) (VP.eq vs true true)), (1, .is (.tmp 149) (VP.int .i64 ((i : Nat) : Int))), (2, .pt 150 (.row (.val vs) (i * 2))), (3, .pt 151 (.row (.val vs) ((i * 2) + 0))), (4, .is (.tmp 152) (VP.str x.name)), (5, .is (.tmp 153) (VP.eq vs true true)), (6, .is (.tmp 154) (VP.int .i64 ((j : Nat) : Int))), (7, .pt 155 (.row (.val vs) (j * 2))), (8, .pt 156 (.row (.val vs) ((j * 2) + 0))), (9, .is (.tmp 157) (VP.str y.name)), (10, .is (.tmp 158) (VP.bool (x.name.toList == y.name.toList))), (11, .is (.tmp 159) (VP.bool (x.name.toList == y.name.toList))), (12, .is (.tmp 160) (VP.eq vs true true)), (13, .is (.tmp 161) (VP.int .i64 ((i : Nat) : Int))), (14, .pt 162 (.row (.val vs) (i * 2))), (15, .pt 163 (.row (.val vs) ((i * 2) + 1))), (16, .is (.tmp 164) (O_int x.args)), (17, .is (.tmp 165) (VP.eq vs true true)), (18, .is (.tmp 166) (VP.int .i64 ((j : Nat) : Int))), (19, .pt 167 (.row (.val vs) (j * 2))), (20, .pt 168 (.row (.val vs) ((j * 2) + 1))), (21, .is (.tmp 169) (O_int y.args)), (22, .is (.tmp 170) (VP.bool (x.args == y.args))), (23, .is (.tmp 171) (VP.bool (x.args == y.args)))] [] [0, 1, 2, 3, 4, 5, 6, 7, 8, 9, 10, 11, 12] [] [[], [], [0, 1], [0, 1, 2], [0, 1, 2, 3], [], [], [5, 6], [5, 6, 7], [5, 6, 7, 8], [0, 1, 2, 3, 4, 5, 6, 7, 8, 9], [0, 1, 2, 3, 4, 5, 6, 7, 8, 9, 10], [0, 1, 2, 3, 4, 5, 6, 7, 8, 9, 10, 11], [0, 1, 2, 3, 4, 5, 6, 7, 8, 9, 10, 11], [0, 1, 2, 3, 4, 5, 6, 7, 8, 9, 10, 11, 12, 13], [0, 1, 2, 3, 4, 5, 6, 7, 8, 9, 10, 11, 12, 13, 14], [0, 1, 2, 3, 4, 5, 6, 7, 8, 9, 10, 11, 12, 13, 14, 15], [0, 1, 2, 3, 4, 5, 6, 7, 8, 9, 10, 11], [0, 1, 2, 3, 4, 5, 6, 7, 8, 9, 10, 11], [0, 1, 2, 3, 4, 5, 6, 7, 8, 9, 10, 11, 17, 18], [0, 1, 2, 3, 4, 5, 6, 7, 8, 9, 10, 11, 17, 18, 19], [0, 1, 2, 3, 4, 5, 6, 7, 8, 9, 10, 11, 17, 18, 19, 20], [0, 1, 2, 3, 4, 5, 6, 7, 8, 9, 10, 11, 12, 13, 14, 15, 16, 17, 18, 19, 20, 21], [0, 1, 2, 3, 4, 5, 6, 7, 8, 9, 10, 11, 12, 13, 14, 15, 16, 17, 18, 19, 20, 21, 22]] [[2, 3, 4, 10, 11, 12, 13, 14, 15, 16, 17, 18, 19, 20, 21, 22, 23], [2, 3, 4, 10, 11, 12, 13, 14, 15, 16, 17, 18, 19, 20, 21, 22, 23], [3, 4, 10, 11, 12, 13, 14, 15, 16, 17, 18, 19, 20, 21, 22, 23], [4, 10, 11, 12, 13, 14, 15, 16, 17, 18, 19, 20, 21, 22, 23], [10, 11, 12, 13, 14, 15, 16, 17, 18, 19, 20, 21, 22, 23], [7, 8, 9, 10, 11, 12, 13, 14, 15, 16, 17, 18, 19, 20, 21, 22, 23], [7, 8, 9, 10, 11, 12, 13, 14, 15, 16, 17, 18, 19, 20, 21, 22, 23], [8, 9, 10, 11, 12, 13, 14, 15, 16, 17, 18, 19, 20, 21, 22, 23], [9, 10, 11, 12, 13, 14, 15, 16, 17, 18, 19, 20, 21, 22, 23], [10, 11, 12, 13, 14, 15, 16, 17, 18, 19, 20, 21, 22, 23], [11, 12, 13, 14, 15, 16, 17, 18, 19, 20, 21, 22, 23], [12, 13, 14, 15, 16, 17, 18, 19, 20, 21, 22, 23], [14, 15, 16, 22, 23], [14, 15, 16, 22, 23], [15, 16, 22, 23], [16, 22, 23], [22, 23], [19, 20, 21, 22, 23], [19, 20, 21, 22, 23], [20, 21, 22, 23], [21, 22, 23], [22, 23], [23], []] rfl rfl follow rfl ⟨
              .inl ⟨wants_plain rfl, does_move _ (.inl rfl) rfl rfl rfl rfl (ar_tmp (av_fs 6 rfl))⟩,
              .inl ⟨wants_plain rfl, does_move _ (.inl rfl) rfl rfl rfl rfl (ar_tmp (av_fs 2 rfl))⟩,
              .inl ⟨wants_plain rfl, does_index (m := i) _ _ Try.underlying53 DagN_size_api_Sort rfl rfl rfl rfl rfl _ (by omega) rfl (by omega) (sl_own (av_fs 9 rfl) (ar_tmp (av_rs 0 0 rfl rfl))) (ar_tmp (av_rs 1 1 rfl rfl))⟩,
              .inl ⟨wants_plain rfl, does_field _ _ _ 0 DagN_f_api_Sort_0 rfl rfl rfl rfl rfl rfl (pt_pt (av_rs 2 2 rfl rfl))⟩,
              .inl ⟨wants_plain rfl, does_loadOne _ DagN_one_string rfl rfl rfl rfl rfl (pt_pt (av_rs 3 3 rfl rfl)) (rds_row (av_fs 9 rfl) (hq_flat1 cSort_len hx 0 (by omega) rfl))⟩,
              .inl ⟨wants_plain rfl, does_move _ (.inl rfl) rfl rfl rfl rfl (ar_tmp (av_fs 6 rfl))⟩,
              .inl ⟨wants_plain rfl, does_move _ (.inl rfl) rfl rfl rfl rfl (ar_tmp (av_fs 3 rfl))⟩,
              .inl ⟨wants_plain rfl, does_index (m := j) _ _ Try.underlying53 DagN_size_api_Sort rfl rfl rfl rfl rfl _ (by omega) rfl (by omega) (sl_own (av_fs 9 rfl) (ar_tmp (av_rs 5 5 rfl rfl))) (ar_tmp (av_rs 6 6 rfl rfl))⟩,
              .inl ⟨wants_plain rfl, does_field _ _ _ 0 DagN_f_api_Sort_0 rfl rfl rfl rfl rfl rfl (pt_pt (av_rs 7 7 rfl rfl))⟩,
              .inl ⟨wants_plain rfl, does_loadOne _ DagN_one_string rfl rfl rfl rfl rfl (pt_pt (av_rs 8 8 rfl rfl)) (rds_row (av_fs 9 rfl) (hq_flat1 cSort_len hy 0 (by omega) rfl))⟩,
              .inl ⟨wants_plain rfl, does_eqStr (u := x.name) (v := y.name) _ _ _ _ _ rfl rfl rfl rfl rfl rfl (ar_tmp (av_rs 4 4 rfl rfl)) (ar_tmp (av_rs 9 9 rfl rfl))⟩,
              .inl ⟨wants_plain rfl, does_move _ (.inl rfl) rfl rfl rfl rfl (ar_tmp (av_rs 10 10 rfl rfl))⟩,
              .inl ⟨wants_guard true rfl rfl rfl (av_bool hb16 (av_rs 11 11 rfl rfl)), does_move _ (.inl rfl) rfl rfl rfl rfl (ar_tmp (av_fs 6 rfl))⟩,
              .inl ⟨wants_guard true rfl rfl rfl (av_bool hb16 (av_rs 11 11 rfl rfl)), does_move _ (.inl rfl) rfl rfl rfl rfl (ar_tmp (av_fs 2 rfl))⟩,
              .inl ⟨wants_guard true rfl rfl rfl (av_bool hb16 (av_rs 11 11 rfl rfl)), does_index (m := i) _ _ Try.underlying53 DagN_size_api_Sort rfl rfl rfl rfl rfl _ (by omega) rfl (by omega) (sl_own (av_fs 9 rfl) (ar_tmp (av_rs 12 12 rfl rfl))) (ar_tmp (av_rs 13 13 rfl rfl))⟩,
              .inl ⟨wants_guard true rfl rfl rfl (av_bool hb16 (av_rs 11 11 rfl rfl)), does_field _ _ _ 1 DagN_f_api_Sort_1 rfl rfl rfl rfl rfl rfl (pt_pt (av_rs 14 14 rfl rfl))⟩,
              .inl ⟨wants_guard true rfl rfl rfl (av_bool hb16 (av_rs 11 11 rfl rfl)), does_loadOne _ DagN_one___int rfl rfl rfl rfl rfl (pt_pt (av_rs 15 15 rfl rfl)) (rds_row (av_fs 9 rfl) (hq_flat1 cSort_len hx 1 (by omega) rfl))⟩,
              .inl ⟨wants_guard true rfl rfl rfl (av_bool hb16 (av_rs 11 11 rfl rfl)), does_move _ (.inl rfl) rfl rfl rfl rfl (ar_tmp (av_fs 6 rfl))⟩,
              .inl ⟨wants_guard true rfl rfl rfl (av_bool hb16 (av_rs 11 11 rfl rfl)), does_move _ (.inl rfl) rfl rfl rfl rfl (ar_tmp (av_fs 3 rfl))⟩,
              .inl ⟨wants_guard true rfl rfl rfl (av_bool hb16 (av_rs 11 11 rfl rfl)), does_index (m := j) _ _ Try.underlying53 DagN_size_api_Sort rfl rfl rfl rfl rfl _ (by omega) rfl (by omega) (sl_own (av_fs 9 rfl) (ar_tmp (av_rs 17 17 rfl rfl))) (ar_tmp (av_rs 18 18 rfl rfl))⟩,
              .inl ⟨wants_guard true rfl rfl rfl (av_bool hb16 (av_rs 11 11 rfl rfl)), does_field _ _ _ 1 DagN_f_api_Sort_1 rfl rfl rfl rfl rfl rfl (pt_pt (av_rs 19 19 rfl rfl))⟩,
              .inl ⟨wants_guard true rfl rfl rfl (av_bool hb16 (av_rs 11 11 rfl rfl)), does_loadOne _ DagN_one___int rfl rfl rfl rfl rfl (pt_pt (av_rs 20 20 rfl rfl)) (rds_row (av_fs 9 rfl) (hq_flat1 cSort_len hy 1 (by omega) rfl))⟩,
              .inl ⟨wants_guard true rfl rfl rfl (av_bool hb16 (av_rs 11 11 rfl rfl)), does_call (dg_SameInts x.args y.args) (fun _ _ _ _ h => h) rfl DagN_hb_collator_collatorref06_SameInts rfl rfl rfl rfl ar_clo (ars_cons (pa_slcRo (ar_tmp (av_rs 16 16 rfl rfl)) (flat_nil_iff cInt_len (by decide) _)) (ars_cons (pa_slcRo (ar_tmp (av_rs 21 21 rfl rfl)) (flat_nil_iff cInt_len (by decide) _)) ars_nil)) trivial⟩,
              .inl ⟨wants_plain rfl, does_pick true _ _ _ rfl rfl rfl rfl rfl (ar_tmp (av_bool hb16 (av_rs 11 11 rfl rfl))) (ar_tmp (av_rs 22 22 rfl rfl))⟩,
              trivial⟩ ?_
            refine nx_then ?_
            refine t_cond_fe 36 rfl (by have := huq; unfold sortIs at this; rw [hb16] at this; simpa using this) ?_
            refine t_skip ?_
            refine nx_block ?_
            refine nx_then ?_
            refine t_region (F := ⟨_, _, _, _, _, _⟩) [.is (.tmp 139) (VP.int .i64 ((d.sorts.length : Nat) : Int)), .is (.tmp 140) (VP.int .i64 ((i : Nat) : Int)), .is (.tmp 17) (VP.int .i64 ((i : Nat) : Int)), .is (.tmp 4) (VP.eq vk true true), .is (.tmp 3) (VP.ptr va), .is (.tmp 16) (VP.eq vs true true), .own 101 (.val va) (Arn d), .own 102 (.val vk) (R_fun d.funs), .own 112 (.val vs) (R_sort d.sorts), .is (.tmp 143) (VP.int .i64 ((j : Nat) : Int)), .is (.tmp 144) (VP.int .i64 ((i : Nat) : Int)), .is (.tmp 145) (VP.bool (decide (((j : Nat) : Int) < ((i : Nat) : Int)))), .is (.tmp 148) (VP.eq vs true true), .is (.tmp 149) (VP.int .i64 ((i : Nat) : Int)), .pt 150 (.row (.val vs) (i * 2)), .pt 151 (.row (.val vs) ((i * 2) + 0)), .is (.tmp 152) (VP.str x.name), .is (.tmp 153) (VP.eq vs true true), .is (.tmp 154) (VP.int .i64 ((j : Nat) : Int)), .pt 155 (.row (.val vs) (j * 2)), .pt 156 (.row (.val vs) ((j * 2) + 0)), .is (.tmp 157) (VP.str y.name), .is (.tmp 158) (VP.bool (x.name.toList == y.name.toList)), .is (.tmp 159) (VP.bool (x.name.toList == y.name.toList)), .is (.tmp 160) (VP.eq vs true true), .is (.tmp 161) (VP.int .i64 ((i : Nat) : Int)), .pt 162 (.row (.val vs) (i * 2)), .pt 163 (.row (.val vs) ((i * 2) + 1)), .is (.tmp 164) (O_int x.args), .is (.tmp 165) (VP.eq vs true true), .is (.tmp 166) (VP.int .i64 ((j : Nat) : Int)), .pt 167 (.row (.val vs) (j * 2)), .pt 168 (.row (.val vs) ((j * 2) + 1)), .is (.tmp 169) (O_int y.args), .is (.tmp 170) (VP.bool (x.args == y.args)), .is (.tmp 171) (VP.bool (x.args == y.args))] [(2, .is (.tmp 18) (VP.int .i64 ((j : Nat) : Int)))] [(0, .is (.tmp 146) (VP.int .i64 ((j : Nat) : Int))), (1, .is (.tmp 147) (VP.int .i64 (((j + 1) : Nat) : Int))), (2, .is (.tmp 18) (VP.int .i64 (((j + 1) : Nat) : Int)))] [] [0, 1, 2, 4, 5, 6, 7, 8, 9, 10, 11, 12, 13, 14, 15, 16, 17, 18, 19, 20, 21, 22, 23, 24, 25, 26, 27, 28, 29, 30, 31, 32, 33, 34, 35, 36] [3] [[], [0], [0, 1]] [[1, 2], [2], []] rfl rfl follow rfl ⟨
              .inl ⟨wants_plain rfl, does_move _ (.inl rfl) rfl rfl rfl rfl (ar_tmp (av_os 0 2 rfl rfl))⟩,
              .inl ⟨wants_plain rfl, does_addE (m := ((j : Nat) : Int)) (n := 1) (x := (((j + 1) : Nat) : Int)) (by omega) _ _ _ _ rfl rfl rfl rfl rfl (by omega) (ar_tmp (av_rs 0 0 rfl rfl)) (ar_const (fun _ _ => rfl))⟩,
              .inl ⟨wants_plain rfl, does_move _ (.inr rfl) rfl rfl rfl rfl (ar_tmp (av_rs 1 1 rfl rfl))⟩,
              trivial⟩ ?_
            refine nx_round (τ := {j : Nat // j ≤ i}) (I := fun ⟨j, _⟩ => [.is (.tmp 139) (VP.int .i64 ((d.sorts.length : Nat) : Int)), .is (.tmp 140) (VP.int .i64 ((i : Nat) : Int)), .is (.tmp 17) (VP.int .i64 ((i : Nat) : Int)), .is (.tmp 18) (VP.int .i64 ((j : Nat) : Int)), .is (.tmp 4) (VP.eq vk true true), .is (.tmp 3) (VP.ptr va), .is (.tmp 16) (VP.eq vs true true), .own 101 (.val va) (Arn d), .own 102 (.val vk) (R_fun d.funs), .own 112 (.val vs) (R_sort d.sorts)]) (μ := fun ⟨j, _⟩ => i - j) (s := ⟨j, hj⟩) (⟨j + 1, by omega⟩) ?_ [0, 1, 2, 38, 3, 4, 5, 6, 7, 8] ?_
            · exact (show i - (j + 1) < i - j by omega)
            · exact rfl
          · refine t_region (F := ⟨_, _, _, _, _, _⟩) [.is (.tmp 139) (VP.int .i64 ((d.sorts.length : Nat) : Int)), .is (.tmp 140) (VP.int .i64 ((i : Nat) : Int)), .is (.tmp 17) (VP.int .i64 ((i : Nat) : Int)), .is (.tmp 18) (VP.int .i64 ((j : Nat) : Int)), .is (.tmp 4) (VP.eq vk true true), .is (.tmp 3) (VP.ptr va), .is (.tmp 16) (VP.eq vs true true), .own 101 (.val va) (Arn d), .own 102 (.val vk) (R_fun d.funs), .own 112 (.val vs) (R_sort d.sorts), .is (.tmp 143) (VP.int .i64 ((j : Nat) : Int)), .is (.tmp 144) (VP.int .i64 ((i : Nat) : Int)), .is (.tmp 145) (VP.bool (decide (((j : Nat) : Int) < ((i : Nat) : Int))))] [] [(0, .is (.tmp 148) (VP.eq vs true true)), (1, .is (.tmp 149) (VP.int .i64 ((i : Nat) : Int))), (2, .pt 150 (.row (.val vs) (i * 2))), (3, .pt 151 (.row (.val vs) ((i * 2) + 0))), (4, .is (.tmp 152) (VP.str x.name)), (5, .is (.tmp 153) (VP.eq vs true true)), (6, .is (.tmp 154) (VP.int .i64 ((j : Nat) : Int))), (7, .pt 155 (.row (.val vs) (j * 2))), (8, .pt 156 (.row (.val vs) ((j * 2) + 0))), (9, .is (.tmp 157) (VP.str y.name)), (10, .is (.tmp 158) (VP.bool (x.name.toList == y.name.toList))), (11, .is (.tmp 159) (VP.bool (x.name.toList == y.name.toList))), (12, .is (.tmp 160) (VP.undef)), (13, .is (.tmp 161) (VP.undef)), (14, .is (.tmp 162) (VP.undef)), (15, .is (.tmp 163) (VP.undef)), (16, .is (.tmp 164) (VP.undef)), (17, .is (.tmp 165) (VP.undef)), (18, .is (.tmp 166) (VP.undef)), (19, .is (.tmp 167) (VP.undef)), (20, .is (.tmp 168) (VP.undef)), (21, .is (.tmp 169) (VP.undef)), (22, .is (.tmp 170) (VP.undef)), (23, .is (.tmp 171) (VP.bool false))] [] [0, 1, 2, 3, 4, 5, 6, 7, 8, 9, 10, 11, 12] [] [[], [], [0, 1], [0, 1, 2], [0, 1, 2, 3], [], [], [5, 6], [5, 6, 7], [5, 6, 7, 8], [0, 1, 2, 3, 4, 5, 6, 7, 8, 9], [0, 1, 2, 3, 4, 5, 6, 7, 8, 9, 10], [0, 1, 2, 3, 4, 5, 6, 7, 8, 9, 10, 11], [0, 1, 2, 3, 4, 5, 6, 7, 8, 9, 10, 11], [0, 1, 2, 3, 4, 5, 6, 7, 8, 9, 10, 11, 12, 13], [0, 1, 2, 3, 4, 5, 6, 7, 8, 9, 10, 11, 12, 13, 14], [0, 1, 2, 3, 4, 5, 6, 7, 8, 9, 10, 11, 12, 13, 14, 15], [0, 1, 2, 3, 4, 5, 6, 7, 8, 9, 10, 11], [0, 1, 2, 3, 4, 5, 6, 7, 8, 9, 10, 11], [0, 1, 2, 3, 4, 5, 6, 7, 8, 9, 10, 11, 17, 18], [0, 1, 2, 3, 4, 5, 6, 7, 8, 9, 10, 11, 17, 18, 19], [0, 1, 2, 3, 4, 5, 6, 7, 8, 9, 10, 11, 17, 18, 19, 20], [0, 1, 2, 3, 4, 5, 6, 7, 8, 9, 10, 11, 12, 13, 14, 15, 16, 17, 18, 19, 20, 21], [0, 1, 2, 3, 4, 5, 6, 7, 8, 9, 10, 11, 12, 13, 14, 15, 16, 17, 18, 19, 20, 21, 22]] [[2, 3, 4, 10, 11, 12, 13, 14, 15, 16, 17, 18, 19, 20, 21, 22, 23], [2, 3, 4, 10, 11, 12, 13, 14, 15, 16, 17, 18, 19, 20, 21, 22, 23], [3, 4, 10, 11, 12, 13, 14, 15, 16, 17, 18, 19, 20, 21, 22, 23], [4, 10, 11, 12, 13, 14, 15, 16, 17, 18, 19, 20, 21, 22, 23], [10, 11, 12, 13, 14, 15, 16, 17, 18, 19, 20, 21, 22, 23], [7, 8, 9, 10, 11, 12, 13, 14, 15, 16, 17, 18, 19, 20, 21, 22, 23], [7, 8, 9, 10, 11, 12, 13, 14, 15, 16, 17, 18, 19, 20, 21, 22, 23], [8, 9, 10, 11, 12, 13, 14, 15, 16, 17, 18, 19, 20, 21, 22, 23], [9, 10, 11, 12, 13, 14, 15, 16, 17, 18, 19, 20, 21, 22, 23], [10, 11, 12, 13, 14, 15, 16, 17, 18, 19, 20, 21, 22, 23], [11, 12, 13, 14, 15, 16, 17, 18, 19, 20, 21, 22, 23], [12, 13, 14, 15, 16, 17, 18, 19, 20, 21, 22, 23], [14, 15, 16, 22, 23], [14, 15, 16, 22, 23], [15, 16, 22, 23], [16, 22, 23], [22, 23], [19, 20, 21, 22, 23], [19, 20, 21, 22, 23], [20, 21, 22, 23], [21, 22, 23], [22, 23], [23], []] rfl rfl follow rfl ⟨
              .inl ⟨wants_plain rfl, does_move _ (.inl rfl) rfl rfl rfl rfl (ar_tmp (av_fs 6 rfl))⟩,
              .inl ⟨wants_plain rfl, does_move _ (.inl rfl) rfl rfl rfl rfl (ar_tmp (av_fs 2 rfl))⟩,
              .inl ⟨wants_plain rfl, does_index (m := i) _ _ Try.underlying53 DagN_size_api_Sort rfl rfl rfl rfl rfl _ (by omega) rfl (by omega) (sl_own (av_fs 9 rfl) (ar_tmp (av_rs 0 0 rfl rfl))) (ar_tmp (av_rs 1 1 rfl rfl))⟩,
              .inl ⟨wants_plain rfl, does_field _ _ _ 0 DagN_f_api_Sort_0 rfl rfl rfl rfl rfl rfl (pt_pt (av_rs 2 2 rfl rfl))⟩,
              .inl ⟨wants_plain rfl, does_loadOne _ DagN_one_string rfl rfl rfl rfl rfl (pt_pt (av_rs 3 3 rfl rfl)) (rds_row (av_fs 9 rfl) (hq_flat1 cSort_len hx 0 (by omega) rfl))⟩,
              .inl ⟨wants_plain rfl, does_move _ (.inl rfl) rfl rfl rfl rfl (ar_tmp (av_fs 6 rfl))⟩,
              .inl ⟨wants_plain rfl, does_move _ (.inl rfl) rfl rfl rfl rfl (ar_tmp (av_fs 3 rfl))⟩,
              .inl ⟨wants_plain rfl, does_index (m := j) _ _ Try.underlying53 DagN_size_api_Sort rfl rfl rfl rfl rfl _ (by omega) rfl (by omega) (sl_own (av_fs 9 rfl) (ar_tmp (av_rs 5 5 rfl rfl))) (ar_tmp (av_rs 6 6 rfl rfl))⟩,
              .inl ⟨wants_plain rfl, does_field _ _ _ 0 DagN_f_api_Sort_0 rfl rfl rfl rfl rfl rfl (pt_pt (av_rs 7 7 rfl rfl))⟩,
              .inl ⟨wants_plain rfl, does_loadOne _ DagN_one_string rfl rfl rfl rfl rfl (pt_pt (av_rs 8 8 rfl rfl)) (rds_row (av_fs 9 rfl) (hq_flat1 cSort_len hy 0 (by omega) rfl))⟩,
              .inl ⟨wants_plain rfl, does_eqStr (u := x.name) (v := y.name) _ _ _ _ _ rfl rfl rfl rfl rfl rfl (ar_tmp (av_rs 4 4 rfl rfl)) (ar_tmp (av_rs 9 9 rfl rfl))⟩,
              .inl ⟨wants_plain rfl, does_move _ (.inl rfl) rfl rfl rfl rfl (ar_tmp (av_rs 10 10 rfl rfl))⟩,
              .inr (skips_guardU false rfl rfl rfl (av_bool hb16 (av_rs 11 11 rfl rfl)) rfl rfl rfl rfl),
              .inr (skips_guardU false rfl rfl rfl (av_bool hb16 (av_rs 11 11 rfl rfl)) rfl rfl rfl rfl),
              .inr (skips_guardU false rfl rfl rfl (av_bool hb16 (av_rs 11 11 rfl rfl)) rfl rfl rfl rfl),
              .inr (skips_guardU false rfl rfl rfl (av_bool hb16 (av_rs 11 11 rfl rfl)) rfl rfl rfl rfl),
              .inr (skips_guardU false rfl rfl rfl (av_bool hb16 (av_rs 11 11 rfl rfl)) rfl rfl rfl rfl),
              .inr (skips_guardU false rfl rfl rfl (av_bool hb16 (av_rs 11 11 rfl rfl)) rfl rfl rfl rfl),
              .inr (skips_guardU false rfl rfl rfl (av_bool hb16 (av_rs 11 11 rfl rfl)) rfl rfl rfl rfl),
              .inr (skips_guardU false rfl rfl rfl (av_bool hb16 (av_rs 11 11 rfl rfl)) rfl rfl rfl rfl),
              .inr (skips_guardU false rfl rfl rfl (av_bool hb16 (av_rs 11 11 rfl rfl)) rfl rfl rfl rfl),
              .inr (skips_guardU false rfl rfl rfl (av_bool hb16 (av_rs 11 11 rfl rfl)) rfl rfl rfl rfl),
              .inr (skips_guardU false rfl rfl rfl (av_bool hb16 (av_rs 11 11 rfl rfl)) rfl rfl rfl rfl),
              .inl ⟨wants_plain rfl, does_pick false _ _ _ rfl rfl rfl rfl rfl (ar_tmp (av_bool hb16 (av_rs 11 11 rfl rfl))) (ar_const (fun _ _ => rfl))⟩,
              trivial⟩ ?_
            refine nx_then ?_
            refine t_cond_f 36 rfl ?_
            refine t_skip ?_
            refine nx_block ?_
            refine nx_then ?_
            refine t_region (F := ⟨_, _, _, _, _, _⟩) [.is (.tmp 139) (VP.int .i64 ((d.sorts.length : Nat) : Int)), .is (.tmp 140) (VP.int .i64 ((i : Nat) : Int)), .is (.tmp 17) (VP.int .i64 ((i : Nat) : Int)), .is (.tmp 4) (VP.eq vk true true), .is (.tmp 3) (VP.ptr va), .is (.tmp 16) (VP.eq vs true true), .own 101 (.val va) (Arn d), .own 102 (.val vk) (R_fun d.funs), .own 112 (.val vs) (R_sort d.sorts), .is (.tmp 143) (VP.int .i64 ((j : Nat) : Int)), .is (.tmp 144) (VP.int .i64 ((i : Nat) : Int)), .is (.tmp 145) (VP.bool (decide (((j : Nat) : Int) < ((i : Nat) : Int)))), .is (.tmp 148) (VP.eq vs true true), .is (.tmp 149) (VP.int .i64 ((i : Nat) : Int)), .pt 150 (.row (.val vs) (i * 2)), .pt 151 (.row (.val vs) ((i * 2) + 0)), .is (.tmp 152) (VP.str x.name), .is (.tmp 153) (VP.eq vs true true), .is (.tmp 154) (VP.int .i64 ((j : Nat) : Int)), .pt 155 (.row (.val vs) (j * 2)), .pt 156 (.row (.val vs) ((j * 2) + 0)), .is (.tmp 157) (VP.str y.name), .is (.tmp 158) (VP.bool (x.name.toList == y.name.toList)), .is (.tmp 159) (VP.bool (x.name.toList == y.name.toList)), .is (.tmp 160) (VP.undef), .is (.tmp 161) (VP.undef), .is (.tmp 162) (VP.undef), .is (.tmp 163) (VP.undef), .is (.tmp 164) (VP.undef), .is (.tmp 165) (VP.undef), .is (.tmp 166) (VP.undef), .is (.tmp 167) (VP.undef), .is (.tmp 168) (VP.undef), .is (.tmp 169) (VP.undef), .is (.tmp 170) (VP.undef), .is (.tmp 171) (VP.bool false)] [(2, .is (.tmp 18) (VP.int .i64 ((j : Nat) : Int)))] [(0, .is (.tmp 146) (VP.int .i64 ((j : Nat) : Int))), (1, .is (.tmp 147) (VP.int .i64 (((j + 1) : Nat) : Int))), (2, .is (.tmp 18) (VP.int .i64 (((j + 1) : Nat) : Int)))] [] [0, 1, 2, 4, 5, 6, 7, 8, 9, 10, 11, 12, 13, 14, 15, 16, 17, 18, 19, 20, 21, 22, 23, 24, 25, 26, 27, 28, 29, 30, 31, 32, 33, 34, 35, 36] [3] [[], [0], [0, 1]] [[1, 2], [2], []] rfl rfl follow rfl ⟨
              .inl ⟨wants_plain rfl, does_move _ (.inl rfl) rfl rfl rfl rfl (ar_tmp (av_os 0 2 rfl rfl))⟩,
              .inl ⟨wants_plain rfl, does_addE (m := ((j : Nat) : Int)) (n := 1) (x := (((j + 1) : Nat) : Int)) (by omega) _ _ _ _ rfl rfl rfl rfl rfl (by omega) (ar_tmp (av_rs 0 0 rfl rfl)) (ar_const (fun _ _ => rfl))⟩,
              .inl ⟨wants_plain rfl, does_move _ (.inr rfl) rfl rfl rfl rfl (ar_tmp (av_rs 1 1 rfl rfl))⟩,
              trivial⟩ ?_
            refine nx_round (τ := {j : Nat // j ≤ i}) (I := fun ⟨j, _⟩ => [.is (.tmp 139) (VP.int .i64 ((d.sorts.length : Nat) : Int)), .is (.tmp 140) (VP.int .i64 ((i : Nat) : Int)), .is (.tmp 17) (VP.int .i64 ((i : Nat) : Int)), .is (.tmp 18) (VP.int .i64 ((j : Nat) : Int)), .is (.tmp 4) (VP.eq vk true true), .is (.tmp 3) (VP.ptr va), .is (.tmp 16) (VP.eq vs true true), .own 101 (.val va) (Arn d), .own 102 (.val vk) (R_fun d.funs), .own 112 (.val vs) (R_sort d.sorts)]) (μ := fun ⟨j, _⟩ => i - j) (s := ⟨j, hj⟩) (⟨j + 1, by omega⟩) ?_ [0, 1, 2, 38, 3, 4, 5, 6, 7, 8] ?_
            · exact (show i - (j + 1) < i - j by omega)
            · exact rfl
        · have hc15 := of_decide_eq_false hb15
          refine t_exit ?_
          refine ex_then ?_
          refine ex_then ?_
          refine ex_block ?_
          refine nx_block ?_
          refine nx_then ?_
          refine t_region (F := ⟨_, _, _, _, _, _⟩) [.is (.tmp 139) (VP.int .i64 ((d.sorts.length : Nat) : Int)), .is (.tmp 17) (VP.int .i64 ((i : Nat) : Int)), .is (.tmp 18) (VP.int .i64 ((j : Nat) : Int)), .is (.tmp 4) (VP.eq vk true true), .is (.tmp 3) (VP.ptr va), .is (.tmp 16) (VP.eq vs true true), .own 101 (.val va) (Arn d), .own 102 (.val vk) (R_fun d.funs), .own 112 (.val vs) (R_sort d.sorts), .is (.tmp 143) (VP.int .i64 ((j : Nat) : Int)), .is (.tmp 144) (VP.int .i64 ((i : Nat) : Int)), .is (.tmp 145) (VP.bool (decide (((j : Nat) : Int) < ((i : Nat) : Int))))] [(1, .is (.tmp 140) (VP.int .i64 ((i : Nat) : Int)))] [(0, .is (.tmp 172) (VP.int .i64 (((i + 1) : Nat) : Int))), (1, .is (.tmp 140) (VP.int .i64 (((i + 1) : Nat) : Int)))] [] [0, 2, 3, 4, 5, 6, 7, 8, 9, 10, 11, 12] [1] [[], [0]] [[1], []] rfl rfl follow rfl ⟨
            .inl ⟨wants_plain rfl, does_addE (m := ((i : Nat) : Int)) (n := 1) (x := (((i + 1) : Nat) : Int)) (by omega) _ _ _ _ rfl rfl rfl rfl rfl (by omega) (ar_tmp (av_os 0 1 rfl rfl)) (ar_const (fun _ _ => rfl))⟩,
            .inl ⟨wants_plain rfl, does_move _ (.inl rfl) rfl rfl rfl rfl (ar_tmp (av_rs 0 0 rfl rfl))⟩,
            trivial⟩ ?_
          refine nx_round (τ := {i : Nat // i ≤ d.sorts.length}) (I := fun ⟨i, _⟩ => [.is (.tmp 139) (VP.int .i64 ((d.sorts.length : Nat) : Int)), .is (.tmp 140) (VP.int .i64 ((i : Nat) : Int)), .is (.tmp 4) (VP.eq vk true true), .is (.tmp 3) (VP.ptr va), .is (.tmp 16) (VP.eq vs true true), .own 101 (.val va) (Arn d), .own 102 (.val vk) (R_fun d.funs), .own 112 (.val vs) (R_sort d.sorts)]) (μ := fun ⟨i, _⟩ => d.sorts.length - i) (s := ⟨i, hi⟩) (⟨i + 1, by omega⟩) ?_ [0, 13, 3, 4, 5, 6, 7, 8] ?_
          · exact (show d.sorts.length - (i + 1) < d.sorts.length - i by omega)
          · exact rfl
      · have hc14 := of_decide_eq_false hb14
        refine t_exit ?_
        refine ex_then ?_
        refine ex_then ?_
        refine ex_block ?_
        refine nx_then ?_
        refine t_pick [2, 3, 5, 6, 7] rfl ?_
        refine t_seq ?_
        refine t_region (F := ⟨_, _, _, _, _, _⟩) [.is (.tmp 4) (VP.eq vk true true), .is (.tmp 3) (VP.ptr va), .own 101 (.val va) (Arn d), .own 102 (.val vk) (R_fun d.funs), .own 112 (.val vs) (R_sort d.sorts)] [] [(0, .is (.tmp 173) (VP.ptr va)), (1, .own 113 (.tmp 174) (R_fun d.funs)), (2, .is (.tmp 175) (VP.eq vk true true)), (3, .is (.tmp 176) (VP.bool true)), (4, .is (.tmp 177) (VP.bool true)), (5, .is (.tmp 178) (VP.ptr va)), (6, .is (.tmp 179) (VP.int .i64 ((d.terms.length : Nat) : Int))), (7, .is (.tmp 180) (VP.bool (((d.terms.length : Nat) : Int) == 0))), (8, .is (.tmp 181) (VP.bool (((d.terms.length : Nat) : Int) == 0))), (9, .is (.tmp 2) (VP.bool (((d.terms.length : Nat) : Int) == 0)))] [] [0, 1, 2, 3, 4] [] [[], [0], [], [0, 1, 2], [0, 1, 2, 3], [0, 1, 2, 3, 4], [0, 1, 2, 3, 4, 5], [0, 1, 2, 3, 4, 5, 6], [0, 1, 2, 3, 4, 5, 6, 7], [0, 1, 2, 3, 4, 5, 6, 7, 8]] [[1, 3, 4, 5, 6, 7, 8, 9], [3, 4, 5, 6, 7, 8, 9], [3, 4, 5, 6, 7, 8, 9], [4, 5, 6, 7, 8, 9], [5, 6, 7, 8, 9], [6, 7, 8, 9], [7, 8, 9], [8, 9], [9], []] rfl rfl follow rfl ⟨
          .inl ⟨wants_plain rfl, does_move _ (.inl rfl) rfl rfl rfl rfl (ar_tmp (av_fs 1 rfl))⟩,
          .inl ⟨wants_plain rfl, does_callG [] [] [] 113 [0] (da_Funs (v := va) (d := d) (by omega) (hgf)) rfl DagN_hb___collator_dag_Arena__Funs rfl rfl rfl rfl rfl ar_clo (ars_cons (pa_vp (ar_tmp (av_rs 0 0 rfl rfl))) ars_nil) ⟨(brw_own (av_fs 2 rfl) rfl), trivial⟩ trivial⟩,
          .inl ⟨wants_plain rfl, does_move _ (.inl rfl) rfl rfl rfl rfl (ar_tmp (av_fs 0 rfl))⟩,
          .inl ⟨wants_plain rfl, does_call (dl_alike d.funs) (fun _ _ _ _ h => h) rfl DagN_hb_collator_collatorlaw06_alike rfl rfl rfl rfl ar_clo (ars_cons (pa_slc (pa_tmp (av_rs 1 1 rfl rfl) rfl) (flat_nil_iff cFun_len (by decide) _)) (ars_cons (pa_slc (pa_own (av_fs 3 rfl) rfl (ar_tmp (av_rs 2 2 rfl rfl))) (flat_nil_iff cFun_len (by decide) _)) ars_nil)) trivial⟩,
          .inl ⟨wants_plain rfl, does_move _ (.inl rfl) rfl rfl rfl rfl (ar_tmp (av_rs 3 3 rfl rfl))⟩,
          .inl ⟨wants_guard true rfl rfl rfl (av_rs 4 4 rfl rfl), does_move _ (.inl rfl) rfl rfl rfl rfl (ar_tmp (av_fs 1 rfl))⟩,
          .inl ⟨wants_guard true rfl rfl rfl (av_rs 4 4 rfl rfl), does_call (da_Len (v := va) (d := d)) (fun _ _ _ _ h => h) rfl DagN_hb___collator_dag_Arena__Len rfl rfl rfl rfl ar_clo (ars_cons (pa_vp (ar_tmp (av_rs 5 5 rfl rfl))) ars_nil) ⟨(brw_own (av_fs 2 rfl) rfl), trivial⟩⟩,
          .inl ⟨wants_guard true rfl rfl rfl (av_rs 4 4 rfl rfl), does_cmp (m := ((d.terms.length : Nat) : Int)) (n := 0) _ _ _ _ _ rfl rfl rfl rfl rfl rfl .i64 (ar_tmp (av_rs 6 6 rfl rfl)) (ar_const (fun _ _ => rfl))⟩,
          .inl ⟨wants_plain rfl, does_pick true _ _ _ rfl rfl rfl rfl rfl (ar_tmp (av_rs 4 4 rfl rfl)) (ar_tmp (av_rs 7 7 rfl rfl))⟩,
          .inl ⟨wants_plain rfl, does_move _ (.inr rfl) rfl rfl rfl rfl (ar_tmp (av_rs 8 8 rfl rfl))⟩,
          trivial⟩ ?_
        refine t_pick [2, 3, 4, 6, 14] rfl ?_
        refine nx_then ?_
        refine t_pick [0, 1, 2, 4] rfl ?_
        refine t_ret ?_
        exact rt_post [HA.of (VP.bool true)] [[]] [] [] rfl ⟨(rv_eq (congrArg (fun b => HA.of (VP.bool b)) (by rw [hI.tm]; rfl)) (rv_vp 3 rfl)), trivial⟩ (by decide) rfl rfl

end O
end Go.Proofs.Ytapmngmpomhjmaa

/- DagSorts: for all that comes in the law returns true, and what came in reads as it did. No condition. -/
namespace Go.Proofs.Ytapmngmpomhjmaa
open Go.ChangeShapes Go.WideShapes Go.ChangeAt Go.RowKit

theorem dagSorts_own : ownKnob Try.prog.godebug = none := by kernel_rfl
theorem dagSorts_laid : laidOutB Try.prog = true := by kernel_rfl

theorem dagSorts_args (W : World) (args : Array Value) (hn : args.size = 1) (h : ∀ (j : Nat) (t : TypeId) (v : Value), (#[22] : Array TypeId)[j]? = some t → args[j]? = some v → Arg Try.prog W t v) :
    Calls Try.prog 6 args W fun e W' => e = .returned (.bool true) ∧ Ext W W' := by
  obtain ⟨l⟩ := args
  match l, hn with
  | [v0], _ =>
    obtain ⟨l, _, p1⟩ := O.arg_acts6 (h 0 _ v0 rfl rfl)
    exact O.SpecO.law (ps := [_]) (O.dl_DagSorts l) ⟨p1, trivial⟩

set_option maxRecDepth 100000 in
theorem dagSorts_lifted (os : Os) (started : os.Started) (H : Type) (enc : TypeId × Value → H) :
    ReturnsInHanded {} Try.checked os 6 .any (Rows.dagSortsSpec.pre6 enc Try.prog Try.f6 Rows.dagSortsRow.domain false) (Rows.dagSortsSpec.post enc Try.prog Try.f6 false true false false) :=
  law_lifted (C := Try.checked) 4 dagSorts_own started (by kernel_rfl) Try.func6 dagSorts_laid
      (by rw [Try.params6]; exact (List.forall_mem_cons.2 ⟨⟨by kernel_rfl, of_decide_eq_true (by kernel_rfl)⟩, (fun _ h => by cases h)⟩))
      (by rw [Try.params6]; exact (List.forall_mem_cons.2 ⟨(by show Served Try.prog _; unfold Served; rw [Try.underlying22]; trivial), (fun _ h => by cases h)⟩))
      rfl Try.underlying4 rfl
      (fun ds hd => by match ds, hd with | [_], _ => rfl)
      (ChangeSpec.witness6 (enc := enc) (C := Try.checked) false ⟨#[], #[.slice none 0 0], []⟩ 8 (by kernel_rfl) (by kernel_rfl) (by kernel_rfl) (by kernel_rfl))
      (fun W args hn h => dagSorts_args W args (by rw [Try.params6] at hn; exact hn) (by rw [Try.params6] at h; exact h))

theorem dagSorts_over : Rows.dagSortsRow.holds Try.pinned (OpenSpec.ofChange Rows.dagSortsSpec) :=
  OpenClaim.holds_of_wide 6 Try.f6 rfl rfl rfl rfl rfl rfl rfl ⟨rfl, rfl, rfl, rfl, rfl⟩ rfl rfl rfl rfl rfl (by kernel_rfl) Try.func6 (by kernel_rfl)
    (of_decide_eq_true (by kernel_rfl)) (by unfold Func.isWrapper; first | (rw [if_pos (by decide +kernel)]; kernel_rfl) | (rw [if_neg (by decide +kernel)]; exact ⟨rfl, rfl⟩))
    (fun os started H enc _ => dagSorts_lifted os started H enc)

theorem dagSorts_holds : Rows.DagSortsSaid := dagSorts_over
#print axioms dagSorts_holds
end Go.Proofs.Ytapmngmpomhjmaa
