/- Part of the proof that a law returns true for all that comes in, and that what came in reads as it did. No condition. -/
import Derived.Test.YtapmngmpomhjmaaMgDagOnce1
/- Rows of numbers that are looked at. -/
namespace Go.Proofs.Ytapmngmpomhjmaa
open Go.RowKit
namespace O
abbrev R_int (l : List Int) : HA := HA.row 3 1 l.length ((l.flatMap cInt).map HA.of)
abbrev S_int (l : List Int) : HA := HA.slc l.length (l.flatMap cInt)
abbrev O_int (l : List Int) : VP := VP.ro l.length (l.flatMap cInt)

theorem si_len {a b : List Int} (h : a.length ≠ b.length) : (a == b) = false := Bool.eq_false_iff.2 fun e => h (by rw [eq_of_beq e])
theorem si_ne {a b : List Int} {x y : Int} {i : Nat} (hx : a[i]? = some x) (hy : b[i]? = some y) (h : x ≠ y) : (a == b) = false := Bool.eq_false_iff.2 fun e => h (by
  rw [eq_of_beq e, hy] at hx; injection hx with hx; exact hx.symm)
theorem si_step {a b : List Int} {x y : Int} {i : Nat} (h : a.take i = b.take i) (hx : a[i]? = some x) (hy : b[i]? = some y) (e : x = y) : a.take (i + 1) = b.take (i + 1) := by
  rw [List.take_add_one, List.take_add_one, h, hx, hy, e]
theorem si_all {a b : List Int} {i : Nat} (h : a.take i = b.take i) (h1 : a.length ≤ i) (h2 : a.length = b.length) : (a == b) = true := by
  rw [List.take_of_length_le h1, List.take_of_length_le (by omega)] at h
  rw [h]; exact beq_self_eq_true _

theorem ro_nil {l : List Int} (h : l.length = 0) : ∀ Z v w, (VP.nilS).p Z v w → (VP.ro l.length (l.flatMap cInt)).p Z v w := fun Z v w e => by
  obtain rfl := List.eq_nil_of_length_eq_zero h
  exact ⟨none, 0, e, Nat.le_refl _, by simp [maxLen], .inl rfl⟩

structure TermD where
  op : Int
  fn : Int
  kids : List Int
  num : ByteArray
deriving DecidableEq
def cTerm (t : TermD) : List VP := [VP.int .i64 t.op, VP.int .i64 t.fn, VP.ro t.kids.length (t.kids.flatMap cInt), VP.str t.num]
theorem cTerm_len (t : TermD) : (cTerm t).length = 4 := rfl
theorem cTerm_one (t : TermD) : (cTerm t).all (·.one) = true := rfl
theorem cTerm_nu (t : TermD) : (cTerm t).all (·.nu) = true := rfl
def sameT (s t : TermD) : Bool := s.op == t.op && s.fn == t.fn && s.num.toList == t.num.toList && s.kids == t.kids
theorem sameT_1 {s t : TermD} (h : (s.op == t.op) = false) : sameT s t = false := by unfold sameT; rw [h]; rfl
theorem sameT_2 {s t : TermD} (h : (s.fn == t.fn) = false) : sameT s t = false := by unfold sameT; rw [h]; simp
theorem sameT_3 {s t : TermD} (h : (s.num.toList == t.num.toList) = false) : sameT s t = false := by unfold sameT; rw [h]; simp
theorem sameT_4 {s t : TermD} (h1 : (s.op == t.op) = true) (h2 : (s.fn == t.fn) = true) (h3 : (s.num.toList == t.num.toList) = true) : sameT s t = (s.kids == t.kids) := by unfold sameT; rw [h1, h2, h3]; rfl
abbrev R_term (l : List TermD) : HA := HA.row 30 4 l.length ((l.flatMap cTerm).map HA.of)
abbrev B_term (x : TermD) : HA := HA.cells 30 [HA.of (VP.int .i64 x.op), HA.of (VP.int .i64 x.fn), HA.of (O_int x.kids), HA.of (VP.str x.num)]

def ixf {α : Type} (g : α → Bool) (l : List α) : Int := match l.findIdx? g with | some i => (i : Int) | none => -1
theorem ixf_hit {α : Type} {g : α → Bool} {l : List α} {x : α} {k : Nat} (h : ∀ j y, j < k → l[j]? = some y → g y = false) (hx : l[k]? = some x) (he : g x = true) : ixf g l = k := by
  unfold ixf
  obtain ⟨hk, rfl⟩ := List.getElem?_eq_some_iff.1 hx
  rw [List.findIdx?_eq_some_iff_getElem.2 ⟨hk, he, fun j hj => by rw [h j _ hj (List.getElem?_eq_getElem (by omega))]; exact Bool.false_ne_true⟩]
theorem ixf_miss {α : Type} {g : α → Bool} {l : List α} {k : Nat} (h : ∀ j y, j < k → l[j]? = some y → g y = false) (hk : l.length ≤ k) : ixf g l = -1 := by
  unfold ixf
  have : l.findIdx? g = none := by
    rw [List.findIdx?_eq_none_iff]
    intro x hx
    obtain ⟨j, hj, rfl⟩ := List.mem_iff_getElem.1 hx
    exact h j _ (by omega) (List.getElem?_eq_getElem hj)
  rw [this]
theorem ixf_step {α : Type} {g : α → Bool} {l : List α} {x : α} {k : Nat} (h : ∀ j y, j < k → l[j]? = some y → g y = false) (hx : l[k]? = some x) (he : g x = false) : ∀ j y, j < k + 1 → l[j]? = some y → g y = false := fun j y hj hy => by
  by_cases e : j = k
  · subst e; rw [hx] at hy; injection hy with hy; subst hy; exact he
  · exact h j y (by omega) hy

theorem ixf_any {α : Type} (g : α → Bool) (l : List α) : decide (ixf g l ≥ 0) = l.any g := by
  unfold ixf
  cases h : l.findIdx? g with
  | some i =>
    rw [decide_eq_true (show ((i : Nat) : Int) ≥ 0 by omega)]
    obtain ⟨hi, hg, _⟩ := List.findIdx?_eq_some_iff_getElem.1 h
    exact (List.any_eq_true.2 ⟨_, List.getElem_mem hi, hg⟩).symm
  | none =>
    rw [decide_eq_false (show ¬ (-1 : Int) ≥ 0 by omega)]
    rw [List.findIdx?_eq_none_iff] at h
    exact (List.any_eq_false.2 fun x hx => by rw [h x hx]; exact Bool.false_ne_true).symm
theorem DagA_one_int : oneTy Try.prog 3 = true := by kernel_rfl
theorem DagA_size_int : ∀ w, (sizeOf 3).run Try.prog w = .ok 1 w := run_sizeOne DagA_one_int
abbrev DagA_p20_6 : Tab2 := [[], [], [0, 1], [0, 1, 2], [], [], [4, 5], [4, 5, 6], [0, 1, 2, 3, 4, 5, 6, 7]]
abbrev DagA_s20_6 : Tab2 := [[2, 3, 8], [2, 3, 8], [3, 8], [8], [6, 7, 8], [6, 7, 8], [7, 8], [8], []]
abbrev DagA_p28_6 : Tab2 := [[], [], [0, 1], [0, 1, 2], [], [], [4, 5], [4, 5, 6], [0, 1, 2, 3, 4, 5, 6, 7]]
abbrev DagA_s28_6 : Tab2 := [[2, 3, 8], [2, 3, 8], [3, 8], [8], [6, 7, 8], [6, 7, 8], [7, 8], [8], []]
theorem DagA_el_int : Elem Try.prog 28 3 (.int .i64 0) 1 8 := Elem.mk Try.underlying28 (by kernel_rfl) rfl (by decide)
theorem DagA_f_api_Term_0 : fieldAt Try.prog 30 0 0 = true := by kernel_rfl
theorem DagA_f_api_Term_1 : fieldAt Try.prog 30 1 1 = true := by kernel_rfl
theorem DagA_f_api_Term_3 : fieldAt Try.prog 30 3 3 = true := by kernel_rfl
theorem DagA_one_string : oneTy Try.prog 9 = true := by kernel_rfl
theorem DagA_f_api_Term_2 : fieldAt Try.prog 30 2 2 = true := by kernel_rfl
theorem DagA_one___int : oneTy Try.prog 28 = true := by kernel_rfl
theorem DagA_hb_collator_collatorref06_SameInts : hasBody Try.prog 20 = true := by kernel_rfl
abbrev DagA_p14_1 : Tab2 := [[], [0], [], [2], [0, 1, 2, 3], [0, 1, 2, 3, 4], [0, 1, 2, 3, 4, 5], [0, 1, 2, 3, 4, 5, 6], [0, 1, 2, 3, 4, 5], [0, 1, 2, 3, 4, 5, 8], [0, 1, 2, 3, 4, 5, 6, 7, 8, 9], [0, 1, 2, 3, 4, 5, 6, 7, 8, 9, 10], [0, 1, 2, 3, 4, 5, 6, 7, 8, 9, 10, 11], [0, 1, 2, 3, 4, 5, 6, 7, 8, 9, 10, 11, 12], [0, 1, 2, 3, 4, 5, 6, 7, 8, 9, 10, 11, 12, 13], [0, 1, 2, 3, 4, 5, 6, 7, 8, 9, 10, 11, 12], [0, 1, 2, 3, 4, 5, 6, 7, 8, 9, 10, 11, 12, 15], [0, 1, 2, 3, 4, 5, 6, 7, 8, 9, 10, 11, 12, 13, 14, 15, 16], [0, 1, 2, 3, 4, 5, 6, 7, 8, 9, 10, 11, 12, 13, 14, 15, 16, 17], [0, 1, 2, 3, 4, 5, 6, 7, 8, 9, 10, 11, 12, 13, 14, 15, 16, 17, 18], [0, 1, 2, 3, 4, 5, 6, 7, 8, 9, 10, 11, 12, 13, 14, 15, 16, 17, 18, 19], [0, 1, 2, 3, 4, 5, 6, 7, 8, 9, 10, 11, 12, 13, 14, 15, 16, 17, 18, 19, 20], [0, 1, 2, 3, 4, 5, 6, 7, 8, 9, 10, 11, 12, 13, 14, 15, 16, 17, 18, 19], [0, 1, 2, 3, 4, 5, 6, 7, 8, 9, 10, 11, 12, 13, 14, 15, 16, 17, 18, 19, 22], [0, 1, 2, 3, 4, 5, 6, 7, 8, 9, 10, 11, 12, 13, 14, 15, 16, 17, 18, 19, 20, 21, 22, 23], [0, 1, 2, 3, 4, 5, 6, 7, 8, 9, 10, 11, 12, 13, 14, 15, 16, 17, 18, 19, 20, 21, 22, 23, 24], [0, 1, 2, 3, 4, 5, 6, 7, 8, 9, 10, 11, 12, 13, 14, 15, 16, 17, 18, 19, 20, 21, 22, 23, 24, 25]]
abbrev DagA_s14_1 : Tab2 := [[1, 4, 5, 6, 7, 8, 9, 10, 11, 12, 13, 14, 15, 16, 17, 18, 19, 20, 21, 22, 23, 24, 25, 26], [4, 5, 6, 7, 8, 9, 10, 11, 12, 13, 14, 15, 16, 17, 18, 19, 20, 21, 22, 23, 24, 25, 26], [3, 4, 5, 6, 7, 8, 9, 10, 11, 12, 13, 14, 15, 16, 17, 18, 19, 20, 21, 22, 23, 24, 25, 26], [4, 5, 6, 7, 8, 9, 10, 11, 12, 13, 14, 15, 16, 17, 18, 19, 20, 21, 22, 23, 24, 25, 26], [5, 6, 7, 8, 9, 10, 11, 12, 13, 14, 15, 16, 17, 18, 19, 20, 21, 22, 23, 24, 25, 26], [6, 7, 8, 9, 10, 11, 12, 13, 14, 15, 16, 17, 18, 19, 20, 21, 22, 23, 24, 25, 26], [7, 10, 11, 12, 13, 14, 15, 16, 17, 18, 19, 20, 21, 22, 23, 24, 25, 26], [10, 11, 12, 13, 14, 15, 16, 17, 18, 19, 20, 21, 22, 23, 24, 25, 26], [9, 10, 11, 12, 13, 14, 15, 16, 17, 18, 19, 20, 21, 22, 23, 24, 25, 26], [10, 11, 12, 13, 14, 15, 16, 17, 18, 19, 20, 21, 22, 23, 24, 25, 26], [11, 12, 13, 14, 15, 16, 17, 18, 19, 20, 21, 22, 23, 24, 25, 26], [12, 13, 14, 15, 16, 17, 18, 19, 20, 21, 22, 23, 24, 25, 26], [13, 14, 15, 16, 17, 18, 19, 20, 21, 22, 23, 24, 25, 26], [14, 17, 18, 19, 20, 21, 22, 23, 24, 25, 26], [17, 18, 19, 20, 21, 22, 23, 24, 25, 26], [16, 17, 18, 19, 20, 21, 22, 23, 24, 25, 26], [17, 18, 19, 20, 21, 22, 23, 24, 25, 26], [18, 19, 20, 21, 22, 23, 24, 25, 26], [19, 20, 21, 22, 23, 24, 25, 26], [20, 21, 22, 23, 24, 25, 26], [21, 24, 25, 26], [24, 25, 26], [23, 24, 25, 26], [24, 25, 26], [25, 26], [26], []]
theorem DagA_hb_slices_Equal___int_int_ : hasBody Try.prog 28 = true := by kernel_rfl
abbrev DagA_p32_1 : Tab2 := [[], [0], [], [2], [0, 1, 2, 3], [0, 1, 2, 3, 4], [0, 1, 2, 3, 4, 5], [0, 1, 2, 3, 4, 5, 6], [0, 1, 2, 3, 4, 5], [0, 1, 2, 3, 4, 5, 8], [0, 1, 2, 3, 4, 5, 6, 7, 8, 9], [0, 1, 2, 3, 4, 5, 6, 7, 8, 9, 10], [0, 1, 2, 3, 4, 5, 6, 7, 8, 9, 10, 11], [0, 1, 2, 3, 4, 5, 6, 7, 8, 9, 10, 11, 12], [0, 1, 2, 3, 4, 5, 6, 7, 8, 9, 10, 11, 12, 13], [0, 1, 2, 3, 4, 5, 6, 7, 8, 9, 10, 11, 12], [0, 1, 2, 3, 4, 5, 6, 7, 8, 9, 10, 11, 12, 15], [0, 1, 2, 3, 4, 5, 6, 7, 8, 9, 10, 11, 12, 13, 14, 15, 16], [0, 1, 2, 3, 4, 5, 6, 7, 8, 9, 10, 11, 12, 13, 14, 15, 16, 17], [0, 1, 2, 3, 4, 5, 6, 7, 8, 9, 10, 11, 12, 13, 14, 15, 16, 17, 18], [0, 1, 2, 3, 4, 5, 6, 7, 8, 9, 10, 11, 12, 13, 14, 15, 16, 17, 18, 19], [0, 1, 2, 3, 4, 5, 6, 7, 8, 9, 10, 11, 12, 13, 14, 15, 16, 17, 18, 19, 20], [0, 1, 2, 3, 4, 5, 6, 7, 8, 9, 10, 11, 12, 13, 14, 15, 16, 17, 18, 19], [0, 1, 2, 3, 4, 5, 6, 7, 8, 9, 10, 11, 12, 13, 14, 15, 16, 17, 18, 19, 22], [0, 1, 2, 3, 4, 5, 6, 7, 8, 9, 10, 11, 12, 13, 14, 15, 16, 17, 18, 19, 20, 21, 22, 23], [0, 1, 2, 3, 4, 5, 6, 7, 8, 9, 10, 11, 12, 13, 14, 15, 16, 17, 18, 19, 20, 21, 22, 23, 24], [0, 1, 2, 3, 4, 5, 6, 7, 8, 9, 10, 11, 12, 13, 14, 15, 16, 17, 18, 19, 20, 21, 22, 23, 24, 25]]
abbrev DagA_s32_1 : Tab2 := [[1, 4, 5, 6, 7, 8, 9, 10, 11, 12, 13, 14, 15, 16, 17, 18, 19, 20, 21, 22, 23, 24, 25, 26], [4, 5, 6, 7, 8, 9, 10, 11, 12, 13, 14, 15, 16, 17, 18, 19, 20, 21, 22, 23, 24, 25, 26], [3, 4, 5, 6, 7, 8, 9, 10, 11, 12, 13, 14, 15, 16, 17, 18, 19, 20, 21, 22, 23, 24, 25, 26], [4, 5, 6, 7, 8, 9, 10, 11, 12, 13, 14, 15, 16, 17, 18, 19, 20, 21, 22, 23, 24, 25, 26], [5, 6, 7, 8, 9, 10, 11, 12, 13, 14, 15, 16, 17, 18, 19, 20, 21, 22, 23, 24, 25, 26], [6, 7, 8, 9, 10, 11, 12, 13, 14, 15, 16, 17, 18, 19, 20, 21, 22, 23, 24, 25, 26], [7, 10, 11, 12, 13, 14, 15, 16, 17, 18, 19, 20, 21, 22, 23, 24, 25, 26], [10, 11, 12, 13, 14, 15, 16, 17, 18, 19, 20, 21, 22, 23, 24, 25, 26], [9, 10, 11, 12, 13, 14, 15, 16, 17, 18, 19, 20, 21, 22, 23, 24, 25, 26], [10, 11, 12, 13, 14, 15, 16, 17, 18, 19, 20, 21, 22, 23, 24, 25, 26], [11, 12, 13, 14, 15, 16, 17, 18, 19, 20, 21, 22, 23, 24, 25, 26], [12, 13, 14, 15, 16, 17, 18, 19, 20, 21, 22, 23, 24, 25, 26], [13, 14, 15, 16, 17, 18, 19, 20, 21, 22, 23, 24, 25, 26], [14, 17, 18, 19, 20, 21, 22, 23, 24, 25, 26], [17, 18, 19, 20, 21, 22, 23, 24, 25, 26], [16, 17, 18, 19, 20, 21, 22, 23, 24, 25, 26], [17, 18, 19, 20, 21, 22, 23, 24, 25, 26], [18, 19, 20, 21, 22, 23, 24, 25, 26], [19, 20, 21, 22, 23, 24, 25, 26], [20, 21, 22, 23, 24, 25, 26], [21, 24, 25, 26], [24, 25, 26], [23, 24, 25, 26], [24, 25, 26], [25, 26], [26], []]
abbrev DagA_p42_4 : Tab2 := [[], [], [], [1, 2], [1, 2, 3], [0, 1, 2, 3, 4]]
abbrev DagA_s42_4 : Tab2 := [[5], [3, 4, 5], [3, 4, 5], [4, 5], [5], []]
theorem DagA_hb_slices_IndexFunc___int_int_ : hasBody Try.prog 42 = true := by kernel_rfl
abbrev DagA_p24_1 : Tab2 := [[], [], [0, 1], [0, 1, 2], [0, 1, 2, 3]]
abbrev DagA_s24_1 : Tab2 := [[2, 3, 4], [2, 3, 4], [3, 4], [4], []]
set_option maxRecDepth 100000 in
set_option maxHeartbeats 4000000 in
theorem dg_SameInts (a b : List Int) : SpecO Try.prog 20 [.bo (S_int a), .bo (S_int b)] [] [] [] (HA.of (VP.bool (a == b))) := by
  refine spec_of 26 Try.func20 rfl Try.ntmps20 rfl fun w0 S0 Z0 Bf => ?_
  refine b_name fun v0 => ?_
  refine t_pick [2, 0, 1] rfl ?_
  refine b_name fun v1 => ?_
  refine t_pick [2, 0, 1, 3] rfl ?_
  refine b_know slc_le fun ha => ?_
  refine t_pick [1, 0, 2, 3] rfl ?_
  refine b_know slc_le fun hb0 => ?_
  refine t_seq ?_
  refine t_rg [.bor (.val v1) (S_int b), .bor (.val v0) (S_int a), .is (.tmp 1) (VP.eq v1 true true), .is (.tmp 0) (VP.eq v0 true true)] [] [(0, .is (.tmp 4) (VP.bool false))] [] [0, 1, 2, 3] [] [[]] [[]] rfl rfl follow rfl ⟨
    wp rfl (does_move _ (.inr rfl) rfl rfl rfl rfl (ar_const (fun _ _ => rfl))),
    trivial⟩ ?_
  refine nx_then ?_
  refine t_seq ?_
  refine t_seq ?_
  refine t_rg [.bor (.val v1) (S_int b), .bor (.val v0) (S_int a), .is (.tmp 1) (VP.eq v1 true true), .is (.tmp 0) (VP.eq v0 true true), .is (.tmp 4) (VP.bool false)] [] [(0, .is (.tmp 6) (VP.eq v0 true true)), (1, .is (.tmp 7) (VP.int .i64 ((a.length : Nat) : Int))), (2, .is (.tmp 8) (VP.eq v1 true true)), (3, .is (.tmp 9) (VP.int .i64 ((b.length : Nat) : Int))), (4, .is (.tmp 10) (VP.bool (((a.length : Nat) : Int) != ((b.length : Nat) : Int))))] [] [0, 1, 2, 3, 4] [] [[], [0], [], [2], [0, 1, 2, 3]] [[1, 4], [4], [3, 4], [4], []] rfl rfl follow rfl ⟨
    wp rfl (does_move _ (.inl rfl) rfl rfl rfl rfl (ar_tmp (av_fs 3 rfl))),
    wp rfl (does_len _ _ (by kernel_rfl) rfl rfl rfl rfl rfl (sl_slc (av_fs 1 rfl) (ar_tmp (av_rs 0 0 rfl rfl)))),
    wp rfl (does_move _ (.inl rfl) rfl rfl rfl rfl (ar_tmp (av_fs 2 rfl))),
    wp rfl (does_len _ _ (by kernel_rfl) rfl rfl rfl rfl rfl (sl_slc (av_fs 0 rfl) (ar_tmp (av_rs 2 2 rfl rfl)))),
    wp rfl (does_cmp (m := ((a.length : Nat) : Int)) (n := ((b.length : Nat) : Int)) _ _ _ _ _ rfl rfl rfl rfl rfl rfl .i64 (ar_tmp (av_rs 1 1 rfl rfl)) (ar_tmp (av_rs 3 3 rfl rfl))),
    trivial⟩ ?_
  refine t_pick [0, 1, 2, 3, 4, 9] rfl ?_
  refine nx_then ?_
  refine t_split 5 rfl (fun hb1 => ?_) (fun hb1 => ?_)
  · have hc1 := (bne_iff_ne.1 hb1)
    refine t_seq ?_
    refine t_rg [.bor (.val v1) (S_int b), .bor (.val v0) (S_int a), .is (.tmp 1) (VP.eq v1 true true), .is (.tmp 0) (VP.eq v0 true true), .is (.tmp 10) (VP.bool (((a.length : Nat) : Int) != ((b.length : Nat) : Int)))] [(0, .is (.tmp 4) (VP.bool false))] [(0, .is (.tmp 4) (VP.bool false))] [] [0, 1, 2, 3, 5] [4] [[]] [[]] rfl rfl follow rfl ⟨
      wp rfl (does_move _ (.inr rfl) rfl rfl rfl rfl (ar_const (fun _ _ => rfl))),
      trivial⟩ ?_
    refine t_pick [0, 1, 2, 3, 5] rfl ?_
    refine nx_then ?_
    refine t_ret ?_
    refine rt_then ?_
    exact rt_post [HA.of (VP.bool (a == b))] [[]] [] [] rfl ⟨(rv_eq (congrArg HA.of (congrArg VP.bool (show false = (a == b) from Eq.symm (si_len (fun e => (bne_iff_ne.1 hb1) (by rw [e])))))) (rv_vp 4 rfl)), trivial⟩ (by decide) rfl rfl
  · have hc1 := (bne_eq_false_iff_eq.1 hb1)
    have hab : a.length = b.length := by have := bne_eq_false_iff_eq.1 hb1; omega
    refine t_skip ?_
    refine nx_then ?_
    refine t_seq ?_
    refine t_seq ?_
    refine t_rg [.bor (.val v1) (S_int b), .bor (.val v0) (S_int a), .is (.tmp 1) (VP.eq v1 true true), .is (.tmp 0) (VP.eq v0 true true), .is (.tmp 4) (VP.bool false), .is (.tmp 10) (VP.bool (((a.length : Nat) : Int) != ((b.length : Nat) : Int)))] [] [(0, .is (.tmp 5) (VP.int .i64 0))] [] [0, 1, 2, 3, 4, 5] [] [[]] [[]] rfl rfl follow rfl ⟨
      wp rfl (does_move _ (.inr rfl) rfl rfl rfl rfl (ar_const (fun _ _ => rfl))),
      trivial⟩ ?_
    refine t_pick [0, 1, 2, 3, 4, 6] rfl ?_
    refine nx_then ?_
    refine t_block ?_
    refine t_pick [5, 0, 1, 2, 3, 4] rfl ?_
    refine t_slot (y := VP.int .i64 ((0 : Nat) : Int)) (fun _ _ _ h => h) ?_
    refine t_loop (τ := {i : Nat // i ≤ a.length ∧ a.take i = b.take i}) (fun ⟨i, _⟩ => [.is (.tmp 0) (VP.eq v0 true true), .is (.tmp 1) (VP.eq v1 true true), .is (.tmp 5) (VP.int .i64 ((i : Nat) : Int)), .bor (.val v0) (S_int a), .bor (.val v1) (S_int b)]) (fun ⟨i, _⟩ => a.length - i) (⟨0, Nat.zero_le _, rfl⟩) [4, 3, 0, 2, 1] rfl ?_
    rintro ⟨i, hi, ht⟩
    refine t_seq ?_
    refine t_seq ?_
    refine t_rg [.is (.tmp 0) (VP.eq v0 true true), .is (.tmp 1) (VP.eq v1 true true), .is (.tmp 5) (VP.int .i64 ((i : Nat) : Int)), .bor (.val v0) (S_int a), .bor (.val v1) (S_int b)] [] [(0, .is (.tmp 11) (VP.int .i64 ((i : Nat) : Int))), (1, .is (.tmp 12) (VP.eq v0 true true)), (2, .is (.tmp 13) (VP.int .i64 ((a.length : Nat) : Int))), (3, .is (.tmp 14) (VP.bool (decide (((i : Nat) : Int) < ((a.length : Nat) : Int)))))] [] [0, 1, 2, 3, 4] [] [[], [], [1], [0, 1, 2]] [[3], [2, 3], [3], []] rfl rfl follow rfl ⟨
      wp rfl (does_move _ (.inl rfl) rfl rfl rfl rfl (ar_tmp (av_fs 2 rfl))),
      wp rfl (does_move _ (.inl rfl) rfl rfl rfl rfl (ar_tmp (av_fs 0 rfl))),
      wp rfl (does_len _ _ (by kernel_rfl) rfl rfl rfl rfl rfl (sl_slc (av_fs 3 rfl) (ar_tmp (av_rs 1 1 rfl rfl)))),
      wp rfl (does_cmp (m := ((i : Nat) : Int)) (n := ((a.length : Nat) : Int)) _ _ _ _ _ rfl rfl rfl rfl rfl rfl .i64 (ar_tmp (av_rs 0 0 rfl rfl)) (ar_tmp (av_rs 2 2 rfl rfl))),
      trivial⟩ ?_
    refine nx_then ?_
    refine t_split 8 rfl (fun hb2 => ?_) (fun hb2 => ?_)
    · have hc2 := of_decide_eq_true hb2
      obtain ⟨x, hx⟩ : ∃ x, a[i]? = some x := ⟨_, List.getElem?_eq_getElem (by omega)⟩
      obtain ⟨y, hy⟩ : ∃ y, b[i]? = some y := ⟨_, List.getElem?_eq_getElem (by omega)⟩
      refine t_skip ?_
      refine nx_then ?_
      refine t_seq ?_
      refine t_block ?_
      refine t_seq ?_
      refine t_rg [.is (.tmp 0) (VP.eq v0 true true), .is (.tmp 1) (VP.eq v1 true true), .is (.tmp 5) (VP.int .i64 ((i : Nat) : Int)), .bor (.val v0) (S_int a), .bor (.val v1) (S_int b), .is (.tmp 11) (VP.int .i64 ((i : Nat) : Int)), .is (.tmp 12) (VP.eq v0 true true), .is (.tmp 13) (VP.int .i64 ((a.length : Nat) : Int)), .is (.tmp 14) (VP.bool (decide (((i : Nat) : Int) < ((a.length : Nat) : Int))))] [] [(0, .is (.tmp 17) (VP.eq v0 true true)), (1, .is (.tmp 18) (VP.int .i64 ((i : Nat) : Int))), (2, .pt 19 (.row (.val v0) (i * 1))), (3, .is (.tmp 20) (VP.int .i64 x)), (4, .is (.tmp 21) (VP.eq v1 true true)), (5, .is (.tmp 22) (VP.int .i64 ((i : Nat) : Int))), (6, .pt 23 (.row (.val v1) (i * 1))), (7, .is (.tmp 24) (VP.int .i64 y)), (8, .is (.tmp 25) (VP.bool (x != y)))] [] [0, 1, 2, 3, 4, 5, 6, 7, 8] [] DagA_p20_6 DagA_s20_6 rfl rfl follow rfl ⟨
        wp rfl (does_move _ (.inl rfl) rfl rfl rfl rfl (ar_tmp (av_fs 0 rfl))),
        wp rfl (does_move _ (.inl rfl) rfl rfl rfl rfl (ar_tmp (av_fs 2 rfl))),
        wp rfl (does_index (m := i) _ _ Try.underlying28 DagA_size_int rfl rfl rfl rfl rfl _ (by omega) rfl (by omega) (sl_slc (av_fs 3 rfl) (ar_tmp (av_rs 0 0 rfl rfl))) (ar_tmp (av_rs 1 1 rfl rfl))),
        wp rfl (does_loadOne _ DagA_one_int rfl rfl rfl rfl rfl (pt_pt (av_rs 2 2 rfl rfl)) (rds_slc (av_fs 3 rfl) (hq_flatV1 cInt_len hx 0 (by omega) rfl))),
        wp rfl (does_move _ (.inl rfl) rfl rfl rfl rfl (ar_tmp (av_fs 1 rfl))),
        wp rfl (does_move _ (.inl rfl) rfl rfl rfl rfl (ar_tmp (av_fs 2 rfl))),
        wp rfl (does_index (m := i) _ _ Try.underlying28 DagA_size_int rfl rfl rfl rfl rfl _ (by omega) rfl (by omega) (sl_slc (av_fs 4 rfl) (ar_tmp (av_rs 4 4 rfl rfl))) (ar_tmp (av_rs 5 5 rfl rfl))),
        wp rfl (does_loadOne _ DagA_one_int rfl rfl rfl rfl rfl (pt_pt (av_rs 6 6 rfl rfl)) (rds_slc (av_fs 4 rfl) (hq_flatV1 cInt_len hy 0 (by omega) rfl))),
        wp rfl (does_cmp (m := x) (n := y) _ _ _ _ _ rfl rfl rfl rfl rfl rfl .i64 (ar_tmp (av_rs 3 3 rfl rfl)) (ar_tmp (av_rs 7 7 rfl rfl))),
        trivial⟩ ?_
      refine nx_then ?_
      refine t_split 17 rfl (fun hb3 => ?_) (fun hb3 => ?_)
      · have hc3 := (bne_iff_ne.1 hb3)
        refine t_seq ?_
        refine t_rg [.is (.tmp 0) (VP.eq v0 true true), .is (.tmp 1) (VP.eq v1 true true), .is (.tmp 5) (VP.int .i64 ((i : Nat) : Int)), .bor (.val v0) (S_int a), .bor (.val v1) (S_int b), .is (.tmp 11) (VP.int .i64 ((i : Nat) : Int)), .is (.tmp 12) (VP.eq v0 true true), .is (.tmp 13) (VP.int .i64 ((a.length : Nat) : Int)), .is (.tmp 14) (VP.bool (decide (((i : Nat) : Int) < ((a.length : Nat) : Int)))), .is (.tmp 17) (VP.eq v0 true true), .is (.tmp 18) (VP.int .i64 ((i : Nat) : Int)), .pt 19 (.row (.val v0) (i * 1)), .is (.tmp 20) (VP.int .i64 x), .is (.tmp 21) (VP.eq v1 true true), .is (.tmp 22) (VP.int .i64 ((i : Nat) : Int)), .pt 23 (.row (.val v1) (i * 1)), .is (.tmp 24) (VP.int .i64 y), .is (.tmp 25) (VP.bool (x != y))] [] [(0, .is (.tmp 4) (VP.bool false))] [] [0, 1, 2, 3, 4, 5, 6, 7, 8, 9, 10, 11, 12, 13, 14, 15, 16, 17] [] [[]] [[]] rfl rfl follow rfl ⟨
          wp rfl (does_move _ (.inr rfl) rfl rfl rfl rfl (ar_const (fun _ _ => rfl))),
          trivial⟩ ?_
        refine nx_then ?_
        refine t_ret ?_
        refine rt_block ?_
        refine rt_then ?_
        refine rt_then ?_
        refine rt_block ?_
        refine rt_then ?_
        exact rt_post [HA.of (VP.bool (a == b))] [[]] [] [] rfl ⟨(rv_eq (congrArg HA.of (congrArg VP.bool (show false = (a == b) from Eq.symm (si_ne hx hy (bne_iff_ne.1 hb3))))) (rv_vp 18 rfl)), trivial⟩ (by decide) rfl rfl
      · have hc3 := (bne_eq_false_iff_eq.1 hb3)
        refine t_skip ?_
        refine nx_block ?_
        refine nx_then ?_
        refine t_rg [.is (.tmp 0) (VP.eq v0 true true), .is (.tmp 1) (VP.eq v1 true true), .bor (.val v0) (S_int a), .bor (.val v1) (S_int b), .is (.tmp 11) (VP.int .i64 ((i : Nat) : Int)), .is (.tmp 12) (VP.eq v0 true true), .is (.tmp 13) (VP.int .i64 ((a.length : Nat) : Int)), .is (.tmp 14) (VP.bool (decide (((i : Nat) : Int) < ((a.length : Nat) : Int)))), .is (.tmp 17) (VP.eq v0 true true), .is (.tmp 18) (VP.int .i64 ((i : Nat) : Int)), .pt 19 (.row (.val v0) (i * 1)), .is (.tmp 20) (VP.int .i64 x), .is (.tmp 21) (VP.eq v1 true true), .is (.tmp 22) (VP.int .i64 ((i : Nat) : Int)), .pt 23 (.row (.val v1) (i * 1)), .is (.tmp 24) (VP.int .i64 y), .is (.tmp 25) (VP.bool (x != y))] [(2, .is (.tmp 5) (VP.int .i64 ((i : Nat) : Int)))] [(0, .is (.tmp 15) (VP.int .i64 ((i : Nat) : Int))), (1, .is (.tmp 16) (VP.int .i64 (((i + 1) : Nat) : Int))), (2, .is (.tmp 5) (VP.int .i64 (((i + 1) : Nat) : Int)))] [] [0, 1, 3, 4, 5, 6, 7, 8, 9, 10, 11, 12, 13, 14, 15, 16, 17] [2] [[], [0], [0, 1]] [[1, 2], [2], []] rfl rfl follow rfl ⟨
          wp rfl (does_move _ (.inl rfl) rfl rfl rfl rfl (ar_tmp (av_os 0 2 rfl rfl))),
          wp rfl (does_addE (m := ((i : Nat) : Int)) (n := 1) (x := (((i + 1) : Nat) : Int)) (by omega) _ _ _ _ rfl rfl rfl rfl rfl (by omega) (ar_tmp (av_rs 0 0 rfl rfl)) (ar_const (fun _ _ => rfl))),
          wp rfl (does_move _ (.inr rfl) rfl rfl rfl rfl (ar_tmp (av_rs 1 1 rfl rfl))),
          trivial⟩ ?_
        refine nx_round (τ := {i : Nat // i ≤ a.length ∧ a.take i = b.take i}) (I := fun ⟨i, _⟩ => [.is (.tmp 0) (VP.eq v0 true true), .is (.tmp 1) (VP.eq v1 true true), .is (.tmp 5) (VP.int .i64 ((i : Nat) : Int)), .bor (.val v0) (S_int a), .bor (.val v1) (S_int b)]) (μ := fun ⟨i, _⟩ => a.length - i) (s := ⟨i, hi, ht⟩) (⟨i + 1, by omega, si_step ht hx hy (bne_eq_false_iff_eq.1 hb3)⟩) ?_ [0, 1, 19, 2, 3] ?_
        · exact (show a.length - (i + 1) < a.length - i by omega)
        · exact rfl
    · have hc2 := of_decide_eq_false hb2
      refine t_exit ?_
      refine ex_then ?_
      refine ex_then ?_
      refine ex_block ?_
      refine nx_then ?_
      refine t_pick [3, 4] rfl ?_
      refine t_seq ?_
      refine t_rg [.bor (.val v0) (S_int a), .bor (.val v1) (S_int b)] [] [(0, .is (.tmp 4) (VP.bool true))] [] [0, 1] [] [[]] [[]] rfl rfl follow rfl ⟨
        wp rfl (does_move _ (.inr rfl) rfl rfl rfl rfl (ar_const (fun _ _ => rfl))),
        trivial⟩ ?_
      refine nx_then ?_
      refine t_ret ?_
      exact rt_post [HA.of (VP.bool (a == b))] [[]] [] [] rfl ⟨(rv_eq (congrArg HA.of (congrArg VP.bool (show true = (a == b) from Eq.symm (si_all ht (by omega) hab)))) (rv_vp 2 rfl)), trivial⟩ (by decide) rfl rfl

set_option maxRecDepth 100000 in
set_option maxHeartbeats 4000000 in
theorem dg_Equal (a b : List Int) : SpecO Try.prog 28 [.bo (S_int a), .bo (S_int b)] [] [] [] (HA.of (VP.bool (a == b))) := by
  refine spec_of 26 Try.func28 rfl Try.ntmps28 rfl fun w0 S0 Z0 Bf => ?_
  refine b_name fun v0 => ?_
  refine t_pick [2, 0, 1] rfl ?_
  refine b_name fun v1 => ?_
  refine t_pick [2, 0, 1, 3] rfl ?_
  refine b_know slc_le fun ha => ?_
  refine t_pick [1, 0, 2, 3] rfl ?_
  refine b_know slc_le fun hb0 => ?_
  refine t_seq ?_
  refine t_rg [.bor (.val v1) (S_int b), .bor (.val v0) (S_int a), .is (.tmp 1) (VP.eq v1 true true), .is (.tmp 0) (VP.eq v0 true true)] [] [(0, .is (.tmp 4) (VP.bool false))] [] [0, 1, 2, 3] [] [[]] [[]] rfl rfl follow rfl ⟨
    wp rfl (does_move _ (.inr rfl) rfl rfl rfl rfl (ar_const (fun _ _ => rfl))),
    trivial⟩ ?_
  refine nx_then ?_
  refine t_seq ?_
  refine t_seq ?_
  refine t_rg [.bor (.val v1) (S_int b), .bor (.val v0) (S_int a), .is (.tmp 1) (VP.eq v1 true true), .is (.tmp 0) (VP.eq v0 true true), .is (.tmp 4) (VP.bool false)] [] [(0, .is (.tmp 6) (VP.eq v0 true true)), (1, .is (.tmp 7) (VP.int .i64 ((a.length : Nat) : Int))), (2, .is (.tmp 8) (VP.eq v1 true true)), (3, .is (.tmp 9) (VP.int .i64 ((b.length : Nat) : Int))), (4, .is (.tmp 10) (VP.bool (((a.length : Nat) : Int) != ((b.length : Nat) : Int))))] [] [0, 1, 2, 3, 4] [] [[], [0], [], [2], [0, 1, 2, 3]] [[1, 4], [4], [3, 4], [4], []] rfl rfl follow rfl ⟨
    wp rfl (does_move _ (.inl rfl) rfl rfl rfl rfl (ar_tmp (av_fs 3 rfl))),
    wp rfl (does_len _ _ (by kernel_rfl) rfl rfl rfl rfl rfl (sl_slc (av_fs 1 rfl) (ar_tmp (av_rs 0 0 rfl rfl)))),
    wp rfl (does_move _ (.inl rfl) rfl rfl rfl rfl (ar_tmp (av_fs 2 rfl))),
    wp rfl (does_len _ _ (by kernel_rfl) rfl rfl rfl rfl rfl (sl_slc (av_fs 0 rfl) (ar_tmp (av_rs 2 2 rfl rfl)))),
    wp rfl (does_cmp (m := ((a.length : Nat) : Int)) (n := ((b.length : Nat) : Int)) _ _ _ _ _ rfl rfl rfl rfl rfl rfl .i64 (ar_tmp (av_rs 1 1 rfl rfl)) (ar_tmp (av_rs 3 3 rfl rfl))),
    trivial⟩ ?_
  refine t_pick [0, 1, 2, 3, 4, 9] rfl ?_
  refine nx_then ?_
  refine t_split 5 rfl (fun hb1 => ?_) (fun hb1 => ?_)
  · have hc1 := (bne_iff_ne.1 hb1)
    refine t_seq ?_
    refine t_rg [.bor (.val v1) (S_int b), .bor (.val v0) (S_int a), .is (.tmp 1) (VP.eq v1 true true), .is (.tmp 0) (VP.eq v0 true true), .is (.tmp 10) (VP.bool (((a.length : Nat) : Int) != ((b.length : Nat) : Int)))] [(0, .is (.tmp 4) (VP.bool false))] [(0, .is (.tmp 4) (VP.bool false))] [] [0, 1, 2, 3, 5] [4] [[]] [[]] rfl rfl follow rfl ⟨
      wp rfl (does_move _ (.inr rfl) rfl rfl rfl rfl (ar_const (fun _ _ => rfl))),
      trivial⟩ ?_
    refine t_pick [0, 1, 2, 3, 5] rfl ?_
    refine nx_then ?_
    refine t_ret ?_
    refine rt_then ?_
    exact rt_post [HA.of (VP.bool (a == b))] [[]] [] [] rfl ⟨(rv_eq (congrArg HA.of (congrArg VP.bool (show false = (a == b) from Eq.symm (si_len (fun e => (bne_iff_ne.1 hb1) (by rw [e])))))) (rv_vp 4 rfl)), trivial⟩ (by decide) rfl rfl
  · have hc1 := (bne_eq_false_iff_eq.1 hb1)
    have hab : a.length = b.length := by have := bne_eq_false_iff_eq.1 hb1; omega
    refine t_skip ?_
    refine nx_then ?_
    refine t_seq ?_
    refine t_seq ?_
    refine t_rg [.bor (.val v1) (S_int b), .bor (.val v0) (S_int a), .is (.tmp 1) (VP.eq v1 true true), .is (.tmp 0) (VP.eq v0 true true), .is (.tmp 4) (VP.bool false), .is (.tmp 10) (VP.bool (((a.length : Nat) : Int) != ((b.length : Nat) : Int)))] [] [(0, .is (.tmp 11) (VP.eq v0 true true)), (1, .is (.tmp 12) (VP.int .i64 ((a.length : Nat) : Int))), (2, .is (.tmp 13) (VP.int .i64 0))] [] [0, 1, 2, 3, 4, 5] [] [[], [0], []] [[1], [], []] rfl rfl follow rfl ⟨
      wp rfl (does_move _ (.inl rfl) rfl rfl rfl rfl (ar_tmp (av_fs 3 rfl))),
      wp rfl (does_len _ _ (by kernel_rfl) rfl rfl rfl rfl rfl (sl_slc (av_fs 1 rfl) (ar_tmp (av_rs 0 0 rfl rfl)))),
      wp rfl (does_move _ (.inl rfl) rfl rfl rfl rfl (ar_const (fun _ _ => rfl))),
      trivial⟩ ?_
    refine t_pick [0, 1, 2, 3, 4, 7, 8] rfl ?_
    refine nx_then ?_
    refine t_block ?_
    refine t_pick [6, 0, 1, 2, 3, 4, 5] rfl ?_
    refine t_slot (y := VP.int .i64 ((0 : Nat) : Int)) (fun _ _ _ h => h) ?_
    refine t_loop (τ := {i : Nat // i ≤ a.length ∧ a.take i = b.take i}) (fun ⟨i, _⟩ => [.is (.tmp 0) (VP.eq v0 true true), .is (.tmp 1) (VP.eq v1 true true), .is (.tmp 12) (VP.int .i64 ((a.length : Nat) : Int)), .is (.tmp 13) (VP.int .i64 ((i : Nat) : Int)), .bor (.val v0) (S_int a), .bor (.val v1) (S_int b)]) (fun ⟨i, _⟩ => a.length - i) (⟨0, Nat.zero_le _, rfl⟩) [4, 3, 6, 0, 2, 1] rfl ?_
    rintro ⟨i, hi, ht⟩
    refine t_seq ?_
    refine t_rg [.is (.tmp 0) (VP.eq v0 true true), .is (.tmp 1) (VP.eq v1 true true), .is (.tmp 12) (VP.int .i64 ((a.length : Nat) : Int)), .is (.tmp 13) (VP.int .i64 ((i : Nat) : Int)), .bor (.val v0) (S_int a), .bor (.val v1) (S_int b)] [] [(0, .is (.tmp 14) (VP.bool (decide (((i : Nat) : Int) < ((a.length : Nat) : Int)))))] [] [0, 1, 2, 3, 4, 5] [] [[]] [[]] rfl rfl follow rfl ⟨
      wp rfl (does_cmp (m := ((i : Nat) : Int)) (n := ((a.length : Nat) : Int)) _ _ _ _ _ rfl rfl rfl rfl rfl rfl .i64 (ar_tmp (av_fs 3 rfl)) (ar_tmp (av_fs 2 rfl))),
      trivial⟩ ?_
    refine nx_then ?_
    refine t_seq ?_
    refine t_split 6 rfl (fun hb2 => ?_) (fun hb2 => ?_)
    · have hc2 := of_decide_eq_true hb2
      obtain ⟨x, hx⟩ : ∃ x, a[i]? = some x := ⟨_, List.getElem?_eq_getElem (by omega)⟩
      obtain ⟨y, hy⟩ : ∃ y, b[i]? = some y := ⟨_, List.getElem?_eq_getElem (by omega)⟩
      refine t_skip ?_
      refine nx_then ?_
      refine t_seq ?_
      refine t_block ?_
      refine t_seq ?_
      refine t_rg [.is (.tmp 0) (VP.eq v0 true true), .is (.tmp 1) (VP.eq v1 true true), .is (.tmp 12) (VP.int .i64 ((a.length : Nat) : Int)), .is (.tmp 13) (VP.int .i64 ((i : Nat) : Int)), .bor (.val v0) (S_int a), .bor (.val v1) (S_int b), .is (.tmp 14) (VP.bool (decide (((i : Nat) : Int) < ((a.length : Nat) : Int))))] [] [(0, .is (.tmp 15) (VP.int .i64 ((i : Nat) : Int))), (1, .is (.tmp 5) (VP.int .i64 ((i : Nat) : Int)))] [] [0, 1, 2, 3, 4, 5, 6] [] [[], [0]] [[1], []] rfl rfl follow rfl ⟨
        wp rfl (does_move _ (.inl rfl) rfl rfl rfl rfl (ar_tmp (av_fs 3 rfl))),
        wp rfl (does_move _ (.inr rfl) rfl rfl rfl rfl (ar_tmp (av_rs 0 0 rfl rfl))),
        trivial⟩ ?_
      refine nx_then ?_
      refine t_seq ?_
      refine t_rg [.is (.tmp 0) (VP.eq v0 true true), .is (.tmp 1) (VP.eq v1 true true), .is (.tmp 12) (VP.int .i64 ((a.length : Nat) : Int)), .is (.tmp 13) (VP.int .i64 ((i : Nat) : Int)), .bor (.val v0) (S_int a), .bor (.val v1) (S_int b), .is (.tmp 14) (VP.bool (decide (((i : Nat) : Int) < ((a.length : Nat) : Int)))), .is (.tmp 15) (VP.int .i64 ((i : Nat) : Int)), .is (.tmp 5) (VP.int .i64 ((i : Nat) : Int))] [] [(0, .is (.tmp 16) (VP.eq v0 true true)), (1, .is (.tmp 17) (VP.int .i64 ((i : Nat) : Int))), (2, .pt 18 (.row (.val v0) (i * 1))), (3, .is (.tmp 19) (VP.int .i64 x)), (4, .is (.tmp 20) (VP.eq v1 true true)), (5, .is (.tmp 21) (VP.int .i64 ((i : Nat) : Int))), (6, .pt 22 (.row (.val v1) (i * 1))), (7, .is (.tmp 23) (VP.int .i64 y)), (8, .is (.tmp 24) (VP.bool (x != y)))] [] [0, 1, 2, 3, 4, 5, 6, 7, 8] [] DagA_p28_6 DagA_s28_6 rfl rfl follow rfl ⟨
        wp rfl (does_move _ (.inl rfl) rfl rfl rfl rfl (ar_tmp (av_fs 0 rfl))),
        wp rfl (does_move _ (.inl rfl) rfl rfl rfl rfl (ar_tmp (av_fs 8 rfl))),
        wp rfl (does_index (m := i) _ _ Try.underlying28 DagA_size_int rfl rfl rfl rfl rfl _ (by omega) rfl (by omega) (sl_slc (av_fs 4 rfl) (ar_tmp (av_rs 0 0 rfl rfl))) (ar_tmp (av_rs 1 1 rfl rfl))),
        wp rfl (does_loadOne _ DagA_one_int rfl rfl rfl rfl rfl (pt_pt (av_rs 2 2 rfl rfl)) (rds_slc (av_fs 4 rfl) (hq_flatV1 cInt_len hx 0 (by omega) rfl))),
        wp rfl (does_move _ (.inl rfl) rfl rfl rfl rfl (ar_tmp (av_fs 1 rfl))),
        wp rfl (does_move _ (.inl rfl) rfl rfl rfl rfl (ar_tmp (av_fs 8 rfl))),
        wp rfl (does_index (m := i) _ _ Try.underlying28 DagA_size_int rfl rfl rfl rfl rfl _ (by omega) rfl (by omega) (sl_slc (av_fs 5 rfl) (ar_tmp (av_rs 4 4 rfl rfl))) (ar_tmp (av_rs 5 5 rfl rfl))),
        wp rfl (does_loadOne _ DagA_one_int rfl rfl rfl rfl rfl (pt_pt (av_rs 6 6 rfl rfl)) (rds_slc (av_fs 5 rfl) (hq_flatV1 cInt_len hy 0 (by omega) rfl))),
        wp rfl (does_cmp (m := x) (n := y) _ _ _ _ _ rfl rfl rfl rfl rfl rfl .i64 (ar_tmp (av_rs 3 3 rfl rfl)) (ar_tmp (av_rs 7 7 rfl rfl))),
        trivial⟩ ?_
      refine nx_then ?_
      refine t_split 17 rfl (fun hb3 => ?_) (fun hb3 => ?_)
      · have hc3 := (bne_iff_ne.1 hb3)
        refine t_seq ?_
        refine t_rg [.is (.tmp 0) (VP.eq v0 true true), .is (.tmp 1) (VP.eq v1 true true), .is (.tmp 12) (VP.int .i64 ((a.length : Nat) : Int)), .is (.tmp 13) (VP.int .i64 ((i : Nat) : Int)), .bor (.val v0) (S_int a), .bor (.val v1) (S_int b), .is (.tmp 14) (VP.bool (decide (((i : Nat) : Int) < ((a.length : Nat) : Int)))), .is (.tmp 15) (VP.int .i64 ((i : Nat) : Int)), .is (.tmp 5) (VP.int .i64 ((i : Nat) : Int)), .is (.tmp 16) (VP.eq v0 true true), .is (.tmp 17) (VP.int .i64 ((i : Nat) : Int)), .pt 18 (.row (.val v0) (i * 1)), .is (.tmp 19) (VP.int .i64 x), .is (.tmp 20) (VP.eq v1 true true), .is (.tmp 21) (VP.int .i64 ((i : Nat) : Int)), .pt 22 (.row (.val v1) (i * 1)), .is (.tmp 23) (VP.int .i64 y), .is (.tmp 24) (VP.bool (x != y))] [] [(0, .is (.tmp 4) (VP.bool false))] [] [0, 1, 2, 3, 4, 5, 6, 7, 8, 9, 10, 11, 12, 13, 14, 15, 16, 17] [] [[]] [[]] rfl rfl follow rfl ⟨
          wp rfl (does_move _ (.inr rfl) rfl rfl rfl rfl (ar_const (fun _ _ => rfl))),
          trivial⟩ ?_
        refine nx_then ?_
        refine t_ret ?_
        refine rt_block ?_
        refine rt_then ?_
        refine rt_then ?_
        refine rt_block ?_
        refine rt_then ?_
        exact rt_post [HA.of (VP.bool (a == b))] [[]] [] [] rfl ⟨(rv_eq (congrArg HA.of (congrArg VP.bool (show false = (a == b) from Eq.symm (si_ne hx hy (bne_iff_ne.1 hb3))))) (rv_vp 18 rfl)), trivial⟩ (by decide) rfl rfl
      · have hc3 := (bne_eq_false_iff_eq.1 hb3)
        refine t_skip ?_
        refine nx_block ?_
        refine nx_then ?_
        refine t_rg [.is (.tmp 0) (VP.eq v0 true true), .is (.tmp 1) (VP.eq v1 true true), .is (.tmp 12) (VP.int .i64 ((a.length : Nat) : Int)), .bor (.val v0) (S_int a), .bor (.val v1) (S_int b), .is (.tmp 14) (VP.bool (decide (((i : Nat) : Int) < ((a.length : Nat) : Int)))), .is (.tmp 15) (VP.int .i64 ((i : Nat) : Int)), .is (.tmp 5) (VP.int .i64 ((i : Nat) : Int)), .is (.tmp 16) (VP.eq v0 true true), .is (.tmp 17) (VP.int .i64 ((i : Nat) : Int)), .pt 18 (.row (.val v0) (i * 1)), .is (.tmp 19) (VP.int .i64 x), .is (.tmp 20) (VP.eq v1 true true), .is (.tmp 21) (VP.int .i64 ((i : Nat) : Int)), .pt 22 (.row (.val v1) (i * 1)), .is (.tmp 23) (VP.int .i64 y), .is (.tmp 24) (VP.bool (x != y))] [(1, .is (.tmp 13) (VP.int .i64 ((i : Nat) : Int)))] [(0, .is (.tmp 25) (VP.int .i64 (((i + 1) : Nat) : Int))), (1, .is (.tmp 13) (VP.int .i64 (((i + 1) : Nat) : Int)))] [] [0, 1, 2, 4, 5, 6, 7, 8, 9, 10, 11, 12, 13, 14, 15, 16, 17] [3] [[], [0]] [[1], []] rfl rfl follow rfl ⟨
          wp rfl (does_addE (m := ((i : Nat) : Int)) (n := 1) (x := (((i + 1) : Nat) : Int)) (by omega) _ _ _ _ rfl rfl rfl rfl rfl (by omega) (ar_tmp (av_os 0 1 rfl rfl)) (ar_const (fun _ _ => rfl))),
          wp rfl (does_move _ (.inl rfl) rfl rfl rfl rfl (ar_tmp (av_rs 0 0 rfl rfl))),
          trivial⟩ ?_
        refine nx_round (τ := {i : Nat // i ≤ a.length ∧ a.take i = b.take i}) (I := fun ⟨i, _⟩ => [.is (.tmp 0) (VP.eq v0 true true), .is (.tmp 1) (VP.eq v1 true true), .is (.tmp 12) (VP.int .i64 ((a.length : Nat) : Int)), .is (.tmp 13) (VP.int .i64 ((i : Nat) : Int)), .bor (.val v0) (S_int a), .bor (.val v1) (S_int b)]) (μ := fun ⟨i, _⟩ => a.length - i) (s := ⟨i, hi, ht⟩) (⟨i + 1, by omega, si_step ht hx hy (bne_eq_false_iff_eq.1 hb3)⟩) ?_ [0, 1, 2, 18, 3, 4] ?_
        · exact (show a.length - (i + 1) < a.length - i by omega)
        · exact rfl
    · have hc2 := of_decide_eq_false hb2
      refine t_exit ?_
      refine ex_then ?_
      refine ex_then ?_
      refine ex_block ?_
      refine nx_then ?_
      refine t_pick [4, 5] rfl ?_
      refine t_seq ?_
      refine t_rg [.bor (.val v0) (S_int a), .bor (.val v1) (S_int b)] [] [(0, .is (.tmp 4) (VP.bool true))] [] [0, 1] [] [[]] [[]] rfl rfl follow rfl ⟨
        wp rfl (does_move _ (.inr rfl) rfl rfl rfl rfl (ar_const (fun _ _ => rfl))),
        trivial⟩ ?_
      refine nx_then ?_
      refine t_ret ?_
      exact rt_post [HA.of (VP.bool (a == b))] [[]] [] [] rfl ⟨(rv_eq (congrArg HA.of (congrArg VP.bool (show true = (a == b) from Eq.symm (si_all ht (by omega) hab)))) (rv_vp 2 rfl)), trivial⟩ (by decide) rfl rfl

set_option maxRecDepth 100000 in
set_option maxHeartbeats 4000000 in
theorem dg_CloneInt (l : List Int) (hl : l.length ≤ 1000000000) : SpecO Try.prog 29 [.bo (S_int l)] [] [] [] (HA.of (O_int l)) := by
  refine spec_of 8 Try.func29 rfl Try.ntmps29 rfl fun w0 S0 Z0 Bf => ?_
  refine b_name fun v0 => ?_
  refine t_seq ?_
  refine t_rg [.bor (.val v0) (S_int l), .is (.tmp 0) (VP.eq v0 true true)] [] [(0, .is (.tmp 2) (VP.nilS))] [] [0, 1] [] [[]] [[]] rfl rfl follow rfl ⟨
    wp rfl (does_move _ (.inr rfl) rfl rfl rfl rfl (ar_const (fun _ _ => rfl))),
    trivial⟩ ?_
  refine nx_then ?_
  refine t_seq ?_
  refine t_seq ?_
  refine t_rg [.bor (.val v0) (S_int l), .is (.tmp 0) (VP.eq v0 true true), .is (.tmp 2) (VP.nilS)] [] [(0, .is (.tmp 3) (VP.eq v0 true true)), (1, .is (.tmp 4) (VP.may (l.length = 0)))] [] [0, 1, 2] [] [[], [0]] [[1], []] rfl rfl follow rfl ⟨
    wp rfl (does_move _ (.inl rfl) rfl rfl rfl rfl (ar_tmp (av_fs 1 rfl))),
    wp rfl (does_isNil _ _ Try.underlying28 rfl rfl rfl rfl rfl (sl_slc (av_fs 0 rfl) (ar_tmp (av_rs 0 0 rfl rfl))) (ar_const (fun _ _ => rfl))),
    trivial⟩ ?_
  refine t_pick [0, 1, 2, 4] rfl ?_
  refine nx_then ?_
  refine t_condM 3 rfl (fun hm1 => ?_) ?_
  · have _ := hm1
    refine t_seq ?_
    refine t_rg [.bor (.val v0) (S_int l), .is (.tmp 0) (VP.eq v0 true true), .is (.tmp 4) (VP.may (l.length = 0))] [(0, .is (.tmp 2) (VP.nilS))] [(0, .is (.tmp 2) (VP.nilS))] [] [0, 1, 3] [2] [[]] [[]] rfl rfl follow rfl ⟨
      wp rfl (does_move _ (.inr rfl) rfl rfl rfl rfl (ar_const (fun _ _ => rfl))),
      trivial⟩ ?_
    refine t_pick [0, 1, 3] rfl ?_
    refine nx_then ?_
    refine t_pick [2, 0, 1] rfl ?_
    refine t_slot (y := O_int l) (fun _ _ _ h => ro_nil (by omega) _ _ _ h) ?_
    refine t_ret ?_
    refine rt_then ?_
    exact rt_post [HA.of (O_int l)] [[]] [] [] rfl ⟨(rv_vp 0 rfl), trivial⟩ (by decide) rfl rfl
  · refine t_skip ?_
    refine nx_then ?_
    refine t_seq ?_
    refine t_rg [.bor (.val v0) (S_int l), .is (.tmp 0) (VP.eq v0 true true), .is (.tmp 4) (VP.may (l.length = 0))] [(3, .is (.tmp 2) (VP.nilS))] [(1, .is (.tmp 6) (VP.eq v0 true true)), (2, .own 101 (.tmp 7) (R_int (([] : List Int) ++ l))), (3, .eq 2 (.tmp 7))] [(0, 2, .own 101 (.tmp 5) (R_int ([] : List Int)))] [0, 1, 3] [2] [[], [], [0, 1], [0, 1, 2]] [[2, 3], [2, 3], [3], []] rfl rfl follow rfl ⟨
      wp rfl (does_sliceLit (n := 0) DagA_el_int rfl (List.replicate 0 (VP.int .i64 0)) (z1_of (fun _ _ => rfl) rfl 0) rfl rfl rfl rfl rfl rfl rfl (.nil _)),
      wp rfl (does_move _ (.inl rfl) rfl rfl rfl rfl (ar_tmp (av_fs 1 rfl))),
      wp rfl (does_append (n := 0) (m := l.length) DagA_el_int rfl _ _ rfl rfl rfl rfl rfl (by simp only [List.length_append, List.length_nil, List.length_cons, Nat.zero_add]) (flat_cat ([] : List Int) l) rfl (by constructor <;> first | decide | omega | (simp only [List.length_append, List.length_cons, List.length_nil] at *; omega)) (flat_lenH cInt_len _) (flat_allH (fun _ => rfl) cInt_one _) (flat_allH (fun _ => rfl) cInt_nu _) (mv_own (av_ms 0 0 2 rfl rfl rfl)) (src_slc (av_fs 0 rfl) (ar_tmp (av_rs 0 1 rfl rfl)))),
      wp rfl (does_eqTmp (k := 7) _ rfl (.inr rfl) rfl rfl rfl rfl rfl),
      trivial⟩ ?_
    refine t_pick [0, 4, 5] rfl ?_
    refine nx_then ?_
    refine t_pick [1, 0, 2] rfl ?_
    refine t_freeze (fz_row ((([] : List Int) ++ l).flatMap cInt)) rfl ?_
    refine t_pick [2, 0, 1] rfl ?_
    refine t_eq ?_
    refine t_pick [0, 2] rfl ?_
    refine t_slot (y := O_int l) (fun _ _ _ h => by simpa using h) ?_
    refine t_ret ?_
    exact rt_post [HA.of (O_int l)] [[]] [] [] rfl ⟨(rv_vp 0 rfl), trivial⟩ (by decide) rfl rfl

set_option maxRecDepth 100000 in
set_option maxHeartbeats 4000000 in
theorem dg_Same (s t : TermD) : SpecO Try.prog 14 [.vp (VP.agg [VP.int .i64 s.op, VP.int .i64 s.fn, O_int s.kids, VP.str s.num]), .vp (VP.agg [VP.int .i64 t.op, VP.int .i64 t.fn, O_int t.kids, VP.str t.num])] [] [] [] (HA.of (VP.bool (sameT s t))) := by
  refine spec_of 31 Try.func14 rfl Try.ntmps14 rfl fun w0 S0 Z0 Bf => ?_
  refine t_seq ?_
  refine t_rg [.is (.tmp 0) (VP.agg [VP.int .i64 s.op, VP.int .i64 s.fn, O_int s.kids, VP.str s.num]), .is (.tmp 1) (VP.agg [VP.int .i64 t.op, VP.int .i64 t.fn, O_int t.kids, VP.str t.num])] [] [(0, .own 101 (.tmp 2) (B_term s)), (1, .own 102 (.tmp 3) (B_term t)), (2, .is (.tmp 4) (VP.bool false))] [] [0, 1] [] [[], [], []] [[], [], []] rfl rfl follow rfl ⟨
    wp rfl (does_box (Rs := [HA.of (VP.int .i64 s.op), HA.of (VP.int .i64 s.fn), HA.of (O_int s.kids), HA.of (VP.str s.num)]) _ rfl rfl rfl rfl rfl rfl (cv_agg (ps := [VP.int .i64 s.op, VP.int .i64 s.fn, O_int s.kids, VP.str s.num]) (ar_tmp (av_fs 0 rfl)))),
    wp rfl (does_box (Rs := [HA.of (VP.int .i64 t.op), HA.of (VP.int .i64 t.fn), HA.of (O_int t.kids), HA.of (VP.str t.num)]) _ rfl rfl rfl rfl rfl rfl (cv_agg (ps := [VP.int .i64 t.op, VP.int .i64 t.fn, O_int t.kids, VP.str t.num]) (ar_tmp (av_fs 1 rfl)))),
    wp rfl (does_move _ (.inr rfl) rfl rfl rfl rfl (ar_const (fun _ _ => rfl))),
    trivial⟩ ?_
  refine t_pick [2, 3, 4] rfl ?_
  refine nx_then ?_
  refine t_nameP rfl fun v2 => ?_
  refine t_pick [2, 0, 1, 3] rfl ?_
  refine t_nameP rfl fun v3 => ?_
  refine t_seq ?_
  rcases Bool.eq_false_or_eq_true (s.op == t.op) with hb1 | hb1
  · have hc1 := eq_of_beq hb1
    rcases Bool.eq_false_or_eq_true (s.fn == t.fn) with hb2 | hb2
    · have hc2 := eq_of_beq hb2
      rcases Bool.eq_false_or_eq_true (s.num.toList == t.num.toList) with hb3 | hb3
      · refine t_rg [.own 102 (.val v3) (B_term t), .is (.tmp 3) (VP.ptr v3), .own 101 (.val v2) (B_term s), .is (.tmp 2) (VP.ptr v2)] [(26, .is (.tmp 4) (VP.bool false))] [(0, .pt 5 (.blk (.val v2) 0)), (1, .is (.tmp 6) (VP.int .i64 s.op)), (2, .pt 7 (.blk (.val v3) 0)), (3, .is (.tmp 8) (VP.int .i64 t.op)), (4, .is (.tmp 9) (VP.bool (s.op == t.op))), (5, .is (.tmp 10) (VP.bool (s.op == t.op))), (6, .pt 11 (.blk (.val v2) 1)), (7, .is (.tmp 12) (VP.int .i64 s.fn)), (8, .pt 13 (.blk (.val v3) 1)), (9, .is (.tmp 14) (VP.int .i64 t.fn)), (10, .is (.tmp 15) (VP.bool (s.fn == t.fn))), (11, .is (.tmp 16) (VP.bool (s.fn == t.fn))), (12, .is (.tmp 17) (VP.bool (s.fn == t.fn))), (13, .pt 18 (.blk (.val v2) 3)), (14, .is (.tmp 19) (VP.str s.num)), (15, .pt 20 (.blk (.val v3) 3)), (16, .is (.tmp 21) (VP.str t.num)), (17, .is (.tmp 22) (VP.bool (s.num.toList == t.num.toList))), (18, .is (.tmp 23) (VP.bool (s.num.toList == t.num.toList))), (19, .is (.tmp 24) (VP.bool (s.num.toList == t.num.toList))), (20, .pt 25 (.blk (.val v2) 2)), (21, .is (.tmp 26) (O_int s.kids)), (22, .pt 27 (.blk (.val v3) 2)), (23, .is (.tmp 28) (O_int t.kids)), (24, .is (.tmp 29) (VP.bool (s.kids == t.kids))), (25, .is (.tmp 30) (VP.bool (s.kids == t.kids))), (26, .is (.tmp 4) (VP.bool (s.kids == t.kids)))] [] [0, 1, 2, 3] [4] DagA_p14_1 DagA_s14_1 rfl rfl follow rfl ⟨
          wp rfl (does_field _ _ _ 0 DagA_f_api_Term_0 rfl rfl rfl rfl rfl rfl (pt_ptr (ar_tmp (av_fs 3 rfl)))),
          wp rfl (does_loadOne _ DagA_one_int rfl rfl rfl rfl rfl (pt_pt (av_rs 0 0 rfl rfl)) (rds_box (off := 0) (av_fs 2 rfl) (hq_one rfl))),
          wp rfl (does_field _ _ _ 0 DagA_f_api_Term_0 rfl rfl rfl rfl rfl rfl (pt_ptr (ar_tmp (av_fs 1 rfl)))),
          wp rfl (does_loadOne _ DagA_one_int rfl rfl rfl rfl rfl (pt_pt (av_rs 2 2 rfl rfl)) (rds_box (off := 0) (av_fs 0 rfl) (hq_one rfl))),
          wp rfl (does_cmp (m := s.op) (n := t.op) _ _ _ _ _ rfl rfl rfl rfl rfl rfl .i64 (ar_tmp (av_rs 1 1 rfl rfl)) (ar_tmp (av_rs 3 3 rfl rfl))),
          wp rfl (does_move _ (.inl rfl) rfl rfl rfl rfl (ar_tmp (av_rs 4 4 rfl rfl))),
          .inl ⟨wants_guard true rfl rfl rfl (av_bool hb1 (av_rs 5 5 rfl rfl)), does_field _ _ _ 1 DagA_f_api_Term_1 rfl rfl rfl rfl rfl rfl (pt_ptr (ar_tmp (av_fs 3 rfl)))⟩,
          .inl ⟨wants_guard true rfl rfl rfl (av_bool hb1 (av_rs 5 5 rfl rfl)), does_loadOne _ DagA_one_int rfl rfl rfl rfl rfl (pt_pt (av_rs 6 6 rfl rfl)) (rds_box (off := 1) (av_fs 2 rfl) (hq_one rfl))⟩,
          .inl ⟨wants_guard true rfl rfl rfl (av_bool hb1 (av_rs 5 5 rfl rfl)), does_field _ _ _ 1 DagA_f_api_Term_1 rfl rfl rfl rfl rfl rfl (pt_ptr (ar_tmp (av_fs 1 rfl)))⟩,
          .inl ⟨wants_guard true rfl rfl rfl (av_bool hb1 (av_rs 5 5 rfl rfl)), does_loadOne _ DagA_one_int rfl rfl rfl rfl rfl (pt_pt (av_rs 8 8 rfl rfl)) (rds_box (off := 1) (av_fs 0 rfl) (hq_one rfl))⟩,
          .inl ⟨wants_guard true rfl rfl rfl (av_bool hb1 (av_rs 5 5 rfl rfl)), does_cmp (m := s.fn) (n := t.fn) _ _ _ _ _ rfl rfl rfl rfl rfl rfl .i64 (ar_tmp (av_rs 7 7 rfl rfl)) (ar_tmp (av_rs 9 9 rfl rfl))⟩,
          wp rfl (does_pick true _ _ _ rfl rfl rfl rfl rfl (ar_tmp (av_bool hb1 (av_rs 5 5 rfl rfl))) (ar_tmp (av_rs 10 10 rfl rfl))),
          wp rfl (does_move _ (.inl rfl) rfl rfl rfl rfl (ar_tmp (av_rs 11 11 rfl rfl))),
          .inl ⟨wants_guard true rfl rfl rfl (av_bool hb2 (av_rs 12 12 rfl rfl)), does_field _ _ _ 3 DagA_f_api_Term_3 rfl rfl rfl rfl rfl rfl (pt_ptr (ar_tmp (av_fs 3 rfl)))⟩,
          .inl ⟨wants_guard true rfl rfl rfl (av_bool hb2 (av_rs 12 12 rfl rfl)), does_loadOne _ DagA_one_string rfl rfl rfl rfl rfl (pt_pt (av_rs 13 13 rfl rfl)) (rds_box (off := 3) (av_fs 2 rfl) (hq_one rfl))⟩,
          .inl ⟨wants_guard true rfl rfl rfl (av_bool hb2 (av_rs 12 12 rfl rfl)), does_field _ _ _ 3 DagA_f_api_Term_3 rfl rfl rfl rfl rfl rfl (pt_ptr (ar_tmp (av_fs 1 rfl)))⟩,
          .inl ⟨wants_guard true rfl rfl rfl (av_bool hb2 (av_rs 12 12 rfl rfl)), does_loadOne _ DagA_one_string rfl rfl rfl rfl rfl (pt_pt (av_rs 15 15 rfl rfl)) (rds_box (off := 3) (av_fs 0 rfl) (hq_one rfl))⟩,
          .inl ⟨wants_guard true rfl rfl rfl (av_bool hb2 (av_rs 12 12 rfl rfl)), does_eqStr (u := s.num) (v := t.num) _ _ _ _ _ rfl rfl rfl rfl rfl rfl (ar_tmp (av_rs 14 14 rfl rfl)) (ar_tmp (av_rs 16 16 rfl rfl))⟩,
          wp rfl (does_pick true _ _ _ rfl rfl rfl rfl rfl (ar_tmp (av_bool hb2 (av_rs 12 12 rfl rfl))) (ar_tmp (av_rs 17 17 rfl rfl))),
          wp rfl (does_move _ (.inl rfl) rfl rfl rfl rfl (ar_tmp (av_rs 18 18 rfl rfl))),
          .inl ⟨wants_guard true rfl rfl rfl (av_bool hb3 (av_rs 19 19 rfl rfl)), does_field _ _ _ 2 DagA_f_api_Term_2 rfl rfl rfl rfl rfl rfl (pt_ptr (ar_tmp (av_fs 3 rfl)))⟩,
          .inl ⟨wants_guard true rfl rfl rfl (av_bool hb3 (av_rs 19 19 rfl rfl)), does_loadOne _ DagA_one___int rfl rfl rfl rfl rfl (pt_pt (av_rs 20 20 rfl rfl)) (rds_box (off := 2) (av_fs 2 rfl) (hq_one rfl))⟩,
          .inl ⟨wants_guard true rfl rfl rfl (av_bool hb3 (av_rs 19 19 rfl rfl)), does_field _ _ _ 2 DagA_f_api_Term_2 rfl rfl rfl rfl rfl rfl (pt_ptr (ar_tmp (av_fs 1 rfl)))⟩,
          .inl ⟨wants_guard true rfl rfl rfl (av_bool hb3 (av_rs 19 19 rfl rfl)), does_loadOne _ DagA_one___int rfl rfl rfl rfl rfl (pt_pt (av_rs 22 22 rfl rfl)) (rds_box (off := 2) (av_fs 0 rfl) (hq_one rfl))⟩,
          .inl ⟨wants_guard true rfl rfl rfl (av_bool hb3 (av_rs 19 19 rfl rfl)), does_call (dg_SameInts s.kids t.kids) (fun _ _ _ _ h => h) rfl DagA_hb_collator_collatorref06_SameInts rfl rfl rfl rfl ar_clo (ars_cons (pa_slcRo (ar_tmp (av_rs 21 21 rfl rfl)) (flat_nil_iff cInt_len (by decide) _)) (ars_cons (pa_slcRo (ar_tmp (av_rs 23 23 rfl rfl)) (flat_nil_iff cInt_len (by decide) _)) ars_nil)) trivial⟩,
          wp rfl (does_pick true _ _ _ rfl rfl rfl rfl rfl (ar_tmp (av_bool hb3 (av_rs 19 19 rfl rfl))) (ar_tmp (av_rs 24 24 rfl rfl))),
          wp rfl (does_move _ (.inr rfl) rfl rfl rfl rfl (ar_tmp (av_rs 25 25 rfl rfl))),
          trivial⟩ ?_
        refine t_pick [0, 2, 30] rfl ?_
        refine nx_then ?_
        refine t_ret ?_
        exact rt_post [HA.of (VP.bool (sameT s t))] [[]] [] [] rfl ⟨(rv_eq (congrArg HA.of (congrArg VP.bool (show (s.kids == t.kids) = sameT s t from Eq.symm (sameT_4 hb1 hb2 hb3)))) (rv_vp 2 rfl)), trivial⟩ (by decide) rfl rfl
      · refine t_rg [.own 102 (.val v3) (B_term t), .is (.tmp 3) (VP.ptr v3), .own 101 (.val v2) (B_term s), .is (.tmp 2) (VP.ptr v2)] [(26, .is (.tmp 4) (VP.bool false))] [(0, .pt 5 (.blk (.val v2) 0)), (1, .is (.tmp 6) (VP.int .i64 s.op)), (2, .pt 7 (.blk (.val v3) 0)), (3, .is (.tmp 8) (VP.int .i64 t.op)), (4, .is (.tmp 9) (VP.bool (s.op == t.op))), (5, .is (.tmp 10) (VP.bool (s.op == t.op))), (6, .pt 11 (.blk (.val v2) 1)), (7, .is (.tmp 12) (VP.int .i64 s.fn)), (8, .pt 13 (.blk (.val v3) 1)), (9, .is (.tmp 14) (VP.int .i64 t.fn)), (10, .is (.tmp 15) (VP.bool (s.fn == t.fn))), (11, .is (.tmp 16) (VP.bool (s.fn == t.fn))), (12, .is (.tmp 17) (VP.bool (s.fn == t.fn))), (13, .pt 18 (.blk (.val v2) 3)), (14, .is (.tmp 19) (VP.str s.num)), (15, .pt 20 (.blk (.val v3) 3)), (16, .is (.tmp 21) (VP.str t.num)), (17, .is (.tmp 22) (VP.bool (s.num.toList == t.num.toList))), (18, .is (.tmp 23) (VP.bool (s.num.toList == t.num.toList))), (19, .is (.tmp 24) (VP.bool (s.num.toList == t.num.toList))), (20, .is (.tmp 25) (VP.undef)), (21, .is (.tmp 26) (VP.undef)), (22, .is (.tmp 27) (VP.undef)), (23, .is (.tmp 28) (VP.undef)), (24, .is (.tmp 29) (VP.undef)), (25, .is (.tmp 30) (VP.bool false)), (26, .is (.tmp 4) (VP.bool false))] [] [0, 1, 2, 3] [4] DagA_p14_1 DagA_s14_1 rfl rfl follow rfl ⟨
          wp rfl (does_field _ _ _ 0 DagA_f_api_Term_0 rfl rfl rfl rfl rfl rfl (pt_ptr (ar_tmp (av_fs 3 rfl)))),
          wp rfl (does_loadOne _ DagA_one_int rfl rfl rfl rfl rfl (pt_pt (av_rs 0 0 rfl rfl)) (rds_box (off := 0) (av_fs 2 rfl) (hq_one rfl))),
          wp rfl (does_field _ _ _ 0 DagA_f_api_Term_0 rfl rfl rfl rfl rfl rfl (pt_ptr (ar_tmp (av_fs 1 rfl)))),
          wp rfl (does_loadOne _ DagA_one_int rfl rfl rfl rfl rfl (pt_pt (av_rs 2 2 rfl rfl)) (rds_box (off := 0) (av_fs 0 rfl) (hq_one rfl))),
          wp rfl (does_cmp (m := s.op) (n := t.op) _ _ _ _ _ rfl rfl rfl rfl rfl rfl .i64 (ar_tmp (av_rs 1 1 rfl rfl)) (ar_tmp (av_rs 3 3 rfl rfl))),
          wp rfl (does_move _ (.inl rfl) rfl rfl rfl rfl (ar_tmp (av_rs 4 4 rfl rfl))),
          .inl ⟨wants_guard true rfl rfl rfl (av_bool hb1 (av_rs 5 5 rfl rfl)), does_field _ _ _ 1 DagA_f_api_Term_1 rfl rfl rfl rfl rfl rfl (pt_ptr (ar_tmp (av_fs 3 rfl)))⟩,
          .inl ⟨wants_guard true rfl rfl rfl (av_bool hb1 (av_rs 5 5 rfl rfl)), does_loadOne _ DagA_one_int rfl rfl rfl rfl rfl (pt_pt (av_rs 6 6 rfl rfl)) (rds_box (off := 1) (av_fs 2 rfl) (hq_one rfl))⟩,
          .inl ⟨wants_guard true rfl rfl rfl (av_bool hb1 (av_rs 5 5 rfl rfl)), does_field _ _ _ 1 DagA_f_api_Term_1 rfl rfl rfl rfl rfl rfl (pt_ptr (ar_tmp (av_fs 1 rfl)))⟩,
          .inl ⟨wants_guard true rfl rfl rfl (av_bool hb1 (av_rs 5 5 rfl rfl)), does_loadOne _ DagA_one_int rfl rfl rfl rfl rfl (pt_pt (av_rs 8 8 rfl rfl)) (rds_box (off := 1) (av_fs 0 rfl) (hq_one rfl))⟩,
          .inl ⟨wants_guard true rfl rfl rfl (av_bool hb1 (av_rs 5 5 rfl rfl)), does_cmp (m := s.fn) (n := t.fn) _ _ _ _ _ rfl rfl rfl rfl rfl rfl .i64 (ar_tmp (av_rs 7 7 rfl rfl)) (ar_tmp (av_rs 9 9 rfl rfl))⟩,
          wp rfl (does_pick true _ _ _ rfl rfl rfl rfl rfl (ar_tmp (av_bool hb1 (av_rs 5 5 rfl rfl))) (ar_tmp (av_rs 10 10 rfl rfl))),
          wp rfl (does_move _ (.inl rfl) rfl rfl rfl rfl (ar_tmp (av_rs 11 11 rfl rfl))),
          .inl ⟨wants_guard true rfl rfl rfl (av_bool hb2 (av_rs 12 12 rfl rfl)), does_field _ _ _ 3 DagA_f_api_Term_3 rfl rfl rfl rfl rfl rfl (pt_ptr (ar_tmp (av_fs 3 rfl)))⟩,
          .inl ⟨wants_guard true rfl rfl rfl (av_bool hb2 (av_rs 12 12 rfl rfl)), does_loadOne _ DagA_one_string rfl rfl rfl rfl rfl (pt_pt (av_rs 13 13 rfl rfl)) (rds_box (off := 3) (av_fs 2 rfl) (hq_one rfl))⟩,
          .inl ⟨wants_guard true rfl rfl rfl (av_bool hb2 (av_rs 12 12 rfl rfl)), does_field _ _ _ 3 DagA_f_api_Term_3 rfl rfl rfl rfl rfl rfl (pt_ptr (ar_tmp (av_fs 1 rfl)))⟩,
          .inl ⟨wants_guard true rfl rfl rfl (av_bool hb2 (av_rs 12 12 rfl rfl)), does_loadOne _ DagA_one_string rfl rfl rfl rfl rfl (pt_pt (av_rs 15 15 rfl rfl)) (rds_box (off := 3) (av_fs 0 rfl) (hq_one rfl))⟩,
          .inl ⟨wants_guard true rfl rfl rfl (av_bool hb2 (av_rs 12 12 rfl rfl)), does_eqStr (u := s.num) (v := t.num) _ _ _ _ _ rfl rfl rfl rfl rfl rfl (ar_tmp (av_rs 14 14 rfl rfl)) (ar_tmp (av_rs 16 16 rfl rfl))⟩,
          wp rfl (does_pick true _ _ _ rfl rfl rfl rfl rfl (ar_tmp (av_bool hb2 (av_rs 12 12 rfl rfl))) (ar_tmp (av_rs 17 17 rfl rfl))),
          wp rfl (does_move _ (.inl rfl) rfl rfl rfl rfl (ar_tmp (av_rs 18 18 rfl rfl))),
          .inr (skips_guardU false rfl rfl rfl (av_bool hb3 (av_rs 19 19 rfl rfl)) rfl rfl rfl rfl),
          .inr (skips_guardU false rfl rfl rfl (av_bool hb3 (av_rs 19 19 rfl rfl)) rfl rfl rfl rfl),
          .inr (skips_guardU false rfl rfl rfl (av_bool hb3 (av_rs 19 19 rfl rfl)) rfl rfl rfl rfl),
          .inr (skips_guardU false rfl rfl rfl (av_bool hb3 (av_rs 19 19 rfl rfl)) rfl rfl rfl rfl),
          .inr (skips_guardU false rfl rfl rfl (av_bool hb3 (av_rs 19 19 rfl rfl)) rfl rfl rfl rfl),
          wp rfl (does_pick false _ _ _ rfl rfl rfl rfl rfl (ar_tmp (av_bool hb3 (av_rs 19 19 rfl rfl))) (ar_const (fun _ _ => rfl))),
          wp rfl (does_move _ (.inr rfl) rfl rfl rfl rfl (ar_tmp (av_rs 25 25 rfl rfl))),
          trivial⟩ ?_
        refine t_pick [0, 2, 30] rfl ?_
        refine nx_then ?_
        refine t_ret ?_
        exact rt_post [HA.of (VP.bool (sameT s t))] [[]] [] [] rfl ⟨(rv_eq (congrArg HA.of (congrArg VP.bool (show false = sameT s t from Eq.symm (sameT_3 hb3)))) (rv_vp 2 rfl)), trivial⟩ (by decide) rfl rfl
    · have hc2 := ne_of_beq_false hb2
      refine t_rg [.own 102 (.val v3) (B_term t), .is (.tmp 3) (VP.ptr v3), .own 101 (.val v2) (B_term s), .is (.tmp 2) (VP.ptr v2)] [(26, .is (.tmp 4) (VP.bool false))] [(0, .pt 5 (.blk (.val v2) 0)), (1, .is (.tmp 6) (VP.int .i64 s.op)), (2, .pt 7 (.blk (.val v3) 0)), (3, .is (.tmp 8) (VP.int .i64 t.op)), (4, .is (.tmp 9) (VP.bool (s.op == t.op))), (5, .is (.tmp 10) (VP.bool (s.op == t.op))), (6, .pt 11 (.blk (.val v2) 1)), (7, .is (.tmp 12) (VP.int .i64 s.fn)), (8, .pt 13 (.blk (.val v3) 1)), (9, .is (.tmp 14) (VP.int .i64 t.fn)), (10, .is (.tmp 15) (VP.bool (s.fn == t.fn))), (11, .is (.tmp 16) (VP.bool (s.fn == t.fn))), (12, .is (.tmp 17) (VP.bool (s.fn == t.fn))), (13, .is (.tmp 18) (VP.undef)), (14, .is (.tmp 19) (VP.undef)), (15, .is (.tmp 20) (VP.undef)), (16, .is (.tmp 21) (VP.undef)), (17, .is (.tmp 22) (VP.undef)), (18, .is (.tmp 23) (VP.bool false)), (19, .is (.tmp 24) (VP.bool false)), (20, .is (.tmp 25) (VP.undef)), (21, .is (.tmp 26) (VP.undef)), (22, .is (.tmp 27) (VP.undef)), (23, .is (.tmp 28) (VP.undef)), (24, .is (.tmp 29) (VP.undef)), (25, .is (.tmp 30) (VP.bool false)), (26, .is (.tmp 4) (VP.bool false))] [] [0, 1, 2, 3] [4] DagA_p14_1 DagA_s14_1 rfl rfl follow rfl ⟨
        wp rfl (does_field _ _ _ 0 DagA_f_api_Term_0 rfl rfl rfl rfl rfl rfl (pt_ptr (ar_tmp (av_fs 3 rfl)))),
        wp rfl (does_loadOne _ DagA_one_int rfl rfl rfl rfl rfl (pt_pt (av_rs 0 0 rfl rfl)) (rds_box (off := 0) (av_fs 2 rfl) (hq_one rfl))),
        wp rfl (does_field _ _ _ 0 DagA_f_api_Term_0 rfl rfl rfl rfl rfl rfl (pt_ptr (ar_tmp (av_fs 1 rfl)))),
        wp rfl (does_loadOne _ DagA_one_int rfl rfl rfl rfl rfl (pt_pt (av_rs 2 2 rfl rfl)) (rds_box (off := 0) (av_fs 0 rfl) (hq_one rfl))),
        wp rfl (does_cmp (m := s.op) (n := t.op) _ _ _ _ _ rfl rfl rfl rfl rfl rfl .i64 (ar_tmp (av_rs 1 1 rfl rfl)) (ar_tmp (av_rs 3 3 rfl rfl))),
        wp rfl (does_move _ (.inl rfl) rfl rfl rfl rfl (ar_tmp (av_rs 4 4 rfl rfl))),
        .inl ⟨wants_guard true rfl rfl rfl (av_bool hb1 (av_rs 5 5 rfl rfl)), does_field _ _ _ 1 DagA_f_api_Term_1 rfl rfl rfl rfl rfl rfl (pt_ptr (ar_tmp (av_fs 3 rfl)))⟩,
        .inl ⟨wants_guard true rfl rfl rfl (av_bool hb1 (av_rs 5 5 rfl rfl)), does_loadOne _ DagA_one_int rfl rfl rfl rfl rfl (pt_pt (av_rs 6 6 rfl rfl)) (rds_box (off := 1) (av_fs 2 rfl) (hq_one rfl))⟩,
        .inl ⟨wants_guard true rfl rfl rfl (av_bool hb1 (av_rs 5 5 rfl rfl)), does_field _ _ _ 1 DagA_f_api_Term_1 rfl rfl rfl rfl rfl rfl (pt_ptr (ar_tmp (av_fs 1 rfl)))⟩,
        .inl ⟨wants_guard true rfl rfl rfl (av_bool hb1 (av_rs 5 5 rfl rfl)), does_loadOne _ DagA_one_int rfl rfl rfl rfl rfl (pt_pt (av_rs 8 8 rfl rfl)) (rds_box (off := 1) (av_fs 0 rfl) (hq_one rfl))⟩,
        .inl ⟨wants_guard true rfl rfl rfl (av_bool hb1 (av_rs 5 5 rfl rfl)), does_cmp (m := s.fn) (n := t.fn) _ _ _ _ _ rfl rfl rfl rfl rfl rfl .i64 (ar_tmp (av_rs 7 7 rfl rfl)) (ar_tmp (av_rs 9 9 rfl rfl))⟩,
        wp rfl (does_pick true _ _ _ rfl rfl rfl rfl rfl (ar_tmp (av_bool hb1 (av_rs 5 5 rfl rfl))) (ar_tmp (av_rs 10 10 rfl rfl))),
        wp rfl (does_move _ (.inl rfl) rfl rfl rfl rfl (ar_tmp (av_rs 11 11 rfl rfl))),
        .inr (skips_guardU false rfl rfl rfl (av_bool hb2 (av_rs 12 12 rfl rfl)) rfl rfl rfl rfl),
        .inr (skips_guardU false rfl rfl rfl (av_bool hb2 (av_rs 12 12 rfl rfl)) rfl rfl rfl rfl),
        .inr (skips_guardU false rfl rfl rfl (av_bool hb2 (av_rs 12 12 rfl rfl)) rfl rfl rfl rfl),
        .inr (skips_guardU false rfl rfl rfl (av_bool hb2 (av_rs 12 12 rfl rfl)) rfl rfl rfl rfl),
        .inr (skips_guardU false rfl rfl rfl (av_bool hb2 (av_rs 12 12 rfl rfl)) rfl rfl rfl rfl),
        wp rfl (does_pick false _ _ _ rfl rfl rfl rfl rfl (ar_tmp (av_bool hb2 (av_rs 12 12 rfl rfl))) (ar_const (fun _ _ => rfl))),
        wp rfl (does_move _ (.inl rfl) rfl rfl rfl rfl (ar_tmp (av_rs 18 18 rfl rfl))),
        .inr (skips_guardU false rfl rfl rfl (av_rs 19 19 rfl rfl) rfl rfl rfl rfl),
        .inr (skips_guardU false rfl rfl rfl (av_rs 19 19 rfl rfl) rfl rfl rfl rfl),
        .inr (skips_guardU false rfl rfl rfl (av_rs 19 19 rfl rfl) rfl rfl rfl rfl),
        .inr (skips_guardU false rfl rfl rfl (av_rs 19 19 rfl rfl) rfl rfl rfl rfl),
        .inr (skips_guardU false rfl rfl rfl (av_rs 19 19 rfl rfl) rfl rfl rfl rfl),
        wp rfl (does_pick false _ _ _ rfl rfl rfl rfl rfl (ar_tmp (av_rs 19 19 rfl rfl)) (ar_const (fun _ _ => rfl))),
        wp rfl (does_move _ (.inr rfl) rfl rfl rfl rfl (ar_tmp (av_rs 25 25 rfl rfl))),
        trivial⟩ ?_
      refine t_pick [0, 2, 30] rfl ?_
      refine nx_then ?_
      refine t_ret ?_
      exact rt_post [HA.of (VP.bool (sameT s t))] [[]] [] [] rfl ⟨(rv_eq (congrArg HA.of (congrArg VP.bool (show false = sameT s t from Eq.symm (sameT_2 hb2)))) (rv_vp 2 rfl)), trivial⟩ (by decide) rfl rfl
  · have hc1 := ne_of_beq_false hb1
    refine t_rg [.own 102 (.val v3) (B_term t), .is (.tmp 3) (VP.ptr v3), .own 101 (.val v2) (B_term s), .is (.tmp 2) (VP.ptr v2)] [(26, .is (.tmp 4) (VP.bool false))] [(0, .pt 5 (.blk (.val v2) 0)), (1, .is (.tmp 6) (VP.int .i64 s.op)), (2, .pt 7 (.blk (.val v3) 0)), (3, .is (.tmp 8) (VP.int .i64 t.op)), (4, .is (.tmp 9) (VP.bool (s.op == t.op))), (5, .is (.tmp 10) (VP.bool (s.op == t.op))), (6, .is (.tmp 11) (VP.undef)), (7, .is (.tmp 12) (VP.undef)), (8, .is (.tmp 13) (VP.undef)), (9, .is (.tmp 14) (VP.undef)), (10, .is (.tmp 15) (VP.undef)), (11, .is (.tmp 16) (VP.bool false)), (12, .is (.tmp 17) (VP.bool false)), (13, .is (.tmp 18) (VP.undef)), (14, .is (.tmp 19) (VP.undef)), (15, .is (.tmp 20) (VP.undef)), (16, .is (.tmp 21) (VP.undef)), (17, .is (.tmp 22) (VP.undef)), (18, .is (.tmp 23) (VP.bool false)), (19, .is (.tmp 24) (VP.bool false)), (20, .is (.tmp 25) (VP.undef)), (21, .is (.tmp 26) (VP.undef)), (22, .is (.tmp 27) (VP.undef)), (23, .is (.tmp 28) (VP.undef)), (24, .is (.tmp 29) (VP.undef)), (25, .is (.tmp 30) (VP.bool false)), (26, .is (.tmp 4) (VP.bool false))] [] [0, 1, 2, 3] [4] DagA_p14_1 DagA_s14_1 rfl rfl follow rfl ⟨
      wp rfl (does_field _ _ _ 0 DagA_f_api_Term_0 rfl rfl rfl rfl rfl rfl (pt_ptr (ar_tmp (av_fs 3 rfl)))),
      wp rfl (does_loadOne _ DagA_one_int rfl rfl rfl rfl rfl (pt_pt (av_rs 0 0 rfl rfl)) (rds_box (off := 0) (av_fs 2 rfl) (hq_one rfl))),
      wp rfl (does_field _ _ _ 0 DagA_f_api_Term_0 rfl rfl rfl rfl rfl rfl (pt_ptr (ar_tmp (av_fs 1 rfl)))),
      wp rfl (does_loadOne _ DagA_one_int rfl rfl rfl rfl rfl (pt_pt (av_rs 2 2 rfl rfl)) (rds_box (off := 0) (av_fs 0 rfl) (hq_one rfl))),
      wp rfl (does_cmp (m := s.op) (n := t.op) _ _ _ _ _ rfl rfl rfl rfl rfl rfl .i64 (ar_tmp (av_rs 1 1 rfl rfl)) (ar_tmp (av_rs 3 3 rfl rfl))),
      wp rfl (does_move _ (.inl rfl) rfl rfl rfl rfl (ar_tmp (av_rs 4 4 rfl rfl))),
      .inr (skips_guardU false rfl rfl rfl (av_bool hb1 (av_rs 5 5 rfl rfl)) rfl rfl rfl rfl),
      .inr (skips_guardU false rfl rfl rfl (av_bool hb1 (av_rs 5 5 rfl rfl)) rfl rfl rfl rfl),
      .inr (skips_guardU false rfl rfl rfl (av_bool hb1 (av_rs 5 5 rfl rfl)) rfl rfl rfl rfl),
      .inr (skips_guardU false rfl rfl rfl (av_bool hb1 (av_rs 5 5 rfl rfl)) rfl rfl rfl rfl),
      .inr (skips_guardU false rfl rfl rfl (av_bool hb1 (av_rs 5 5 rfl rfl)) rfl rfl rfl rfl),
      wp rfl (does_pick false _ _ _ rfl rfl rfl rfl rfl (ar_tmp (av_bool hb1 (av_rs 5 5 rfl rfl))) (ar_const (fun _ _ => rfl))),
      wp rfl (does_move _ (.inl rfl) rfl rfl rfl rfl (ar_tmp (av_rs 11 11 rfl rfl))),
      .inr (skips_guardU false rfl rfl rfl (av_rs 12 12 rfl rfl) rfl rfl rfl rfl),
      .inr (skips_guardU false rfl rfl rfl (av_rs 12 12 rfl rfl) rfl rfl rfl rfl),
      .inr (skips_guardU false rfl rfl rfl (av_rs 12 12 rfl rfl) rfl rfl rfl rfl),
      .inr (skips_guardU false rfl rfl rfl (av_rs 12 12 rfl rfl) rfl rfl rfl rfl),
      .inr (skips_guardU false rfl rfl rfl (av_rs 12 12 rfl rfl) rfl rfl rfl rfl),
      wp rfl (does_pick false _ _ _ rfl rfl rfl rfl rfl (ar_tmp (av_rs 12 12 rfl rfl)) (ar_const (fun _ _ => rfl))),
      wp rfl (does_move _ (.inl rfl) rfl rfl rfl rfl (ar_tmp (av_rs 18 18 rfl rfl))),
      .inr (skips_guardU false rfl rfl rfl (av_rs 19 19 rfl rfl) rfl rfl rfl rfl),
      .inr (skips_guardU false rfl rfl rfl (av_rs 19 19 rfl rfl) rfl rfl rfl rfl),
      .inr (skips_guardU false rfl rfl rfl (av_rs 19 19 rfl rfl) rfl rfl rfl rfl),
      .inr (skips_guardU false rfl rfl rfl (av_rs 19 19 rfl rfl) rfl rfl rfl rfl),
      .inr (skips_guardU false rfl rfl rfl (av_rs 19 19 rfl rfl) rfl rfl rfl rfl),
      wp rfl (does_pick false _ _ _ rfl rfl rfl rfl rfl (ar_tmp (av_rs 19 19 rfl rfl)) (ar_const (fun _ _ => rfl))),
      wp rfl (does_move _ (.inr rfl) rfl rfl rfl rfl (ar_tmp (av_rs 25 25 rfl rfl))),
      trivial⟩ ?_
    refine t_pick [0, 2, 30] rfl ?_
    refine nx_then ?_
    refine t_ret ?_
    exact rt_post [HA.of (VP.bool (sameT s t))] [[]] [] [] rfl ⟨(rv_eq (congrArg HA.of (congrArg VP.bool (show false = sameT s t from Eq.symm (sameT_1 hb1)))) (rv_vp 2 rfl)), trivial⟩ (by decide) rfl rfl

set_option maxRecDepth 100000 in
set_option maxHeartbeats 4000000 in
theorem dg_same (s t : TermD) : SpecO Try.prog 32 [.vp (VP.agg [VP.int .i64 s.op, VP.int .i64 s.fn, O_int s.kids, VP.str s.num]), .vp (VP.agg [VP.int .i64 t.op, VP.int .i64 t.fn, O_int t.kids, VP.str t.num])] [] [] [] (HA.of (VP.bool (sameT s t))) := by
  refine spec_of 31 Try.func32 rfl Try.ntmps32 rfl fun w0 S0 Z0 Bf => ?_
  refine t_seq ?_
  refine t_rg [.is (.tmp 0) (VP.agg [VP.int .i64 s.op, VP.int .i64 s.fn, O_int s.kids, VP.str s.num]), .is (.tmp 1) (VP.agg [VP.int .i64 t.op, VP.int .i64 t.fn, O_int t.kids, VP.str t.num])] [] [(0, .own 101 (.tmp 2) (B_term s)), (1, .own 102 (.tmp 3) (B_term t)), (2, .is (.tmp 4) (VP.bool false))] [] [0, 1] [] [[], [], []] [[], [], []] rfl rfl follow rfl ⟨
    wp rfl (does_box (Rs := [HA.of (VP.int .i64 s.op), HA.of (VP.int .i64 s.fn), HA.of (O_int s.kids), HA.of (VP.str s.num)]) _ rfl rfl rfl rfl rfl rfl (cv_agg (ps := [VP.int .i64 s.op, VP.int .i64 s.fn, O_int s.kids, VP.str s.num]) (ar_tmp (av_fs 0 rfl)))),
    wp rfl (does_box (Rs := [HA.of (VP.int .i64 t.op), HA.of (VP.int .i64 t.fn), HA.of (O_int t.kids), HA.of (VP.str t.num)]) _ rfl rfl rfl rfl rfl rfl (cv_agg (ps := [VP.int .i64 t.op, VP.int .i64 t.fn, O_int t.kids, VP.str t.num]) (ar_tmp (av_fs 1 rfl)))),
    wp rfl (does_move _ (.inr rfl) rfl rfl rfl rfl (ar_const (fun _ _ => rfl))),
    trivial⟩ ?_
  refine t_pick [2, 3, 4] rfl ?_
  refine nx_then ?_
  refine t_nameP rfl fun v2 => ?_
  refine t_pick [2, 0, 1, 3] rfl ?_
  refine t_nameP rfl fun v3 => ?_
  refine t_seq ?_
  rcases Bool.eq_false_or_eq_true (s.op == t.op) with hb1 | hb1
  · have hc1 := eq_of_beq hb1
    rcases Bool.eq_false_or_eq_true (s.fn == t.fn) with hb2 | hb2
    · have hc2 := eq_of_beq hb2
      rcases Bool.eq_false_or_eq_true (s.num.toList == t.num.toList) with hb3 | hb3
      · refine t_rg [.own 102 (.val v3) (B_term t), .is (.tmp 3) (VP.ptr v3), .own 101 (.val v2) (B_term s), .is (.tmp 2) (VP.ptr v2)] [(26, .is (.tmp 4) (VP.bool false))] [(0, .pt 5 (.blk (.val v2) 0)), (1, .is (.tmp 6) (VP.int .i64 s.op)), (2, .pt 7 (.blk (.val v3) 0)), (3, .is (.tmp 8) (VP.int .i64 t.op)), (4, .is (.tmp 9) (VP.bool (s.op == t.op))), (5, .is (.tmp 10) (VP.bool (s.op == t.op))), (6, .pt 11 (.blk (.val v2) 1)), (7, .is (.tmp 12) (VP.int .i64 s.fn)), (8, .pt 13 (.blk (.val v3) 1)), (9, .is (.tmp 14) (VP.int .i64 t.fn)), (10, .is (.tmp 15) (VP.bool (s.fn == t.fn))), (11, .is (.tmp 16) (VP.bool (s.fn == t.fn))), (12, .is (.tmp 17) (VP.bool (s.fn == t.fn))), (13, .pt 18 (.blk (.val v2) 3)), (14, .is (.tmp 19) (VP.str s.num)), (15, .pt 20 (.blk (.val v3) 3)), (16, .is (.tmp 21) (VP.str t.num)), (17, .is (.tmp 22) (VP.bool (s.num.toList == t.num.toList))), (18, .is (.tmp 23) (VP.bool (s.num.toList == t.num.toList))), (19, .is (.tmp 24) (VP.bool (s.num.toList == t.num.toList))), (20, .pt 25 (.blk (.val v2) 2)), (21, .is (.tmp 26) (O_int s.kids)), (22, .pt 27 (.blk (.val v3) 2)), (23, .is (.tmp 28) (O_int t.kids)), (24, .is (.tmp 29) (VP.bool (s.kids == t.kids))), (25, .is (.tmp 30) (VP.bool (s.kids == t.kids))), (26, .is (.tmp 4) (VP.bool (s.kids == t.kids)))] [] [0, 1, 2, 3] [4] DagA_p32_1 DagA_s32_1 rfl rfl follow rfl ⟨
          wp rfl (does_field _ _ _ 0 DagA_f_api_Term_0 rfl rfl rfl rfl rfl rfl (pt_ptr (ar_tmp (av_fs 3 rfl)))),
          wp rfl (does_loadOne _ DagA_one_int rfl rfl rfl rfl rfl (pt_pt (av_rs 0 0 rfl rfl)) (rds_box (off := 0) (av_fs 2 rfl) (hq_one rfl))),
          wp rfl (does_field _ _ _ 0 DagA_f_api_Term_0 rfl rfl rfl rfl rfl rfl (pt_ptr (ar_tmp (av_fs 1 rfl)))),
          wp rfl (does_loadOne _ DagA_one_int rfl rfl rfl rfl rfl (pt_pt (av_rs 2 2 rfl rfl)) (rds_box (off := 0) (av_fs 0 rfl) (hq_one rfl))),
          wp rfl (does_cmp (m := s.op) (n := t.op) _ _ _ _ _ rfl rfl rfl rfl rfl rfl .i64 (ar_tmp (av_rs 1 1 rfl rfl)) (ar_tmp (av_rs 3 3 rfl rfl))),
          wp rfl (does_move _ (.inl rfl) rfl rfl rfl rfl (ar_tmp (av_rs 4 4 rfl rfl))),
          .inl ⟨wants_guard true rfl rfl rfl (av_bool hb1 (av_rs 5 5 rfl rfl)), does_field _ _ _ 1 DagA_f_api_Term_1 rfl rfl rfl rfl rfl rfl (pt_ptr (ar_tmp (av_fs 3 rfl)))⟩,
          .inl ⟨wants_guard true rfl rfl rfl (av_bool hb1 (av_rs 5 5 rfl rfl)), does_loadOne _ DagA_one_int rfl rfl rfl rfl rfl (pt_pt (av_rs 6 6 rfl rfl)) (rds_box (off := 1) (av_fs 2 rfl) (hq_one rfl))⟩,
          .inl ⟨wants_guard true rfl rfl rfl (av_bool hb1 (av_rs 5 5 rfl rfl)), does_field _ _ _ 1 DagA_f_api_Term_1 rfl rfl rfl rfl rfl rfl (pt_ptr (ar_tmp (av_fs 1 rfl)))⟩,
          .inl ⟨wants_guard true rfl rfl rfl (av_bool hb1 (av_rs 5 5 rfl rfl)), does_loadOne _ DagA_one_int rfl rfl rfl rfl rfl (pt_pt (av_rs 8 8 rfl rfl)) (rds_box (off := 1) (av_fs 0 rfl) (hq_one rfl))⟩,
          .inl ⟨wants_guard true rfl rfl rfl (av_bool hb1 (av_rs 5 5 rfl rfl)), does_cmp (m := s.fn) (n := t.fn) _ _ _ _ _ rfl rfl rfl rfl rfl rfl .i64 (ar_tmp (av_rs 7 7 rfl rfl)) (ar_tmp (av_rs 9 9 rfl rfl))⟩,
          wp rfl (does_pick true _ _ _ rfl rfl rfl rfl rfl (ar_tmp (av_bool hb1 (av_rs 5 5 rfl rfl))) (ar_tmp (av_rs 10 10 rfl rfl))),
          wp rfl (does_move _ (.inl rfl) rfl rfl rfl rfl (ar_tmp (av_rs 11 11 rfl rfl))),
          .inl ⟨wants_guard true rfl rfl rfl (av_bool hb2 (av_rs 12 12 rfl rfl)), does_field _ _ _ 3 DagA_f_api_Term_3 rfl rfl rfl rfl rfl rfl (pt_ptr (ar_tmp (av_fs 3 rfl)))⟩,
          .inl ⟨wants_guard true rfl rfl rfl (av_bool hb2 (av_rs 12 12 rfl rfl)), does_loadOne _ DagA_one_string rfl rfl rfl rfl rfl (pt_pt (av_rs 13 13 rfl rfl)) (rds_box (off := 3) (av_fs 2 rfl) (hq_one rfl))⟩,
          .inl ⟨wants_guard true rfl rfl rfl (av_bool hb2 (av_rs 12 12 rfl rfl)), does_field _ _ _ 3 DagA_f_api_Term_3 rfl rfl rfl rfl rfl rfl (pt_ptr (ar_tmp (av_fs 1 rfl)))⟩,
          .inl ⟨wants_guard true rfl rfl rfl (av_bool hb2 (av_rs 12 12 rfl rfl)), does_loadOne _ DagA_one_string rfl rfl rfl rfl rfl (pt_pt (av_rs 15 15 rfl rfl)) (rds_box (off := 3) (av_fs 0 rfl) (hq_one rfl))⟩,
          .inl ⟨wants_guard true rfl rfl rfl (av_bool hb2 (av_rs 12 12 rfl rfl)), does_eqStr (u := s.num) (v := t.num) _ _ _ _ _ rfl rfl rfl rfl rfl rfl (ar_tmp (av_rs 14 14 rfl rfl)) (ar_tmp (av_rs 16 16 rfl rfl))⟩,
          wp rfl (does_pick true _ _ _ rfl rfl rfl rfl rfl (ar_tmp (av_bool hb2 (av_rs 12 12 rfl rfl))) (ar_tmp (av_rs 17 17 rfl rfl))),
          wp rfl (does_move _ (.inl rfl) rfl rfl rfl rfl (ar_tmp (av_rs 18 18 rfl rfl))),
          .inl ⟨wants_guard true rfl rfl rfl (av_bool hb3 (av_rs 19 19 rfl rfl)), does_field _ _ _ 2 DagA_f_api_Term_2 rfl rfl rfl rfl rfl rfl (pt_ptr (ar_tmp (av_fs 3 rfl)))⟩,
          .inl ⟨wants_guard true rfl rfl rfl (av_bool hb3 (av_rs 19 19 rfl rfl)), does_loadOne _ DagA_one___int rfl rfl rfl rfl rfl (pt_pt (av_rs 20 20 rfl rfl)) (rds_box (off := 2) (av_fs 2 rfl) (hq_one rfl))⟩,
          .inl ⟨wants_guard true rfl rfl rfl (av_bool hb3 (av_rs 19 19 rfl rfl)), does_field _ _ _ 2 DagA_f_api_Term_2 rfl rfl rfl rfl rfl rfl (pt_ptr (ar_tmp (av_fs 1 rfl)))⟩,
          .inl ⟨wants_guard true rfl rfl rfl (av_bool hb3 (av_rs 19 19 rfl rfl)), does_loadOne _ DagA_one___int rfl rfl rfl rfl rfl (pt_pt (av_rs 22 22 rfl rfl)) (rds_box (off := 2) (av_fs 0 rfl) (hq_one rfl))⟩,
          .inl ⟨wants_guard true rfl rfl rfl (av_bool hb3 (av_rs 19 19 rfl rfl)), does_call (dg_Equal s.kids t.kids) (fun _ _ _ _ h => h) rfl DagA_hb_slices_Equal___int_int_ rfl rfl rfl rfl ar_clo (ars_cons (pa_slcRo (ar_tmp (av_rs 21 21 rfl rfl)) (flat_nil_iff cInt_len (by decide) _)) (ars_cons (pa_slcRo (ar_tmp (av_rs 23 23 rfl rfl)) (flat_nil_iff cInt_len (by decide) _)) ars_nil)) trivial⟩,
          wp rfl (does_pick true _ _ _ rfl rfl rfl rfl rfl (ar_tmp (av_bool hb3 (av_rs 19 19 rfl rfl))) (ar_tmp (av_rs 24 24 rfl rfl))),
          wp rfl (does_move _ (.inr rfl) rfl rfl rfl rfl (ar_tmp (av_rs 25 25 rfl rfl))),
          trivial⟩ ?_
        refine t_pick [0, 2, 30] rfl ?_
        refine nx_then ?_
        refine t_ret ?_
        exact rt_post [HA.of (VP.bool (sameT s t))] [[]] [] [] rfl ⟨(rv_eq (congrArg HA.of (congrArg VP.bool (show (s.kids == t.kids) = sameT s t from Eq.symm (sameT_4 hb1 hb2 hb3)))) (rv_vp 2 rfl)), trivial⟩ (by decide) rfl rfl
      · refine t_rg [.own 102 (.val v3) (B_term t), .is (.tmp 3) (VP.ptr v3), .own 101 (.val v2) (B_term s), .is (.tmp 2) (VP.ptr v2)] [(26, .is (.tmp 4) (VP.bool false))] [(0, .pt 5 (.blk (.val v2) 0)), (1, .is (.tmp 6) (VP.int .i64 s.op)), (2, .pt 7 (.blk (.val v3) 0)), (3, .is (.tmp 8) (VP.int .i64 t.op)), (4, .is (.tmp 9) (VP.bool (s.op == t.op))), (5, .is (.tmp 10) (VP.bool (s.op == t.op))), (6, .pt 11 (.blk (.val v2) 1)), (7, .is (.tmp 12) (VP.int .i64 s.fn)), (8, .pt 13 (.blk (.val v3) 1)), (9, .is (.tmp 14) (VP.int .i64 t.fn)), (10, .is (.tmp 15) (VP.bool (s.fn == t.fn))), (11, .is (.tmp 16) (VP.bool (s.fn == t.fn))), (12, .is (.tmp 17) (VP.bool (s.fn == t.fn))), (13, .pt 18 (.blk (.val v2) 3)), (14, .is (.tmp 19) (VP.str s.num)), (15, .pt 20 (.blk (.val v3) 3)), (16, .is (.tmp 21) (VP.str t.num)), (17, .is (.tmp 22) (VP.bool (s.num.toList == t.num.toList))), (18, .is (.tmp 23) (VP.bool (s.num.toList == t.num.toList))), (19, .is (.tmp 24) (VP.bool (s.num.toList == t.num.toList))), (20, .is (.tmp 25) (VP.undef)), (21, .is (.tmp 26) (VP.undef)), (22, .is (.tmp 27) (VP.undef)), (23, .is (.tmp 28) (VP.undef)), (24, .is (.tmp 29) (VP.undef)), (25, .is (.tmp 30) (VP.bool false)), (26, .is (.tmp 4) (VP.bool false))] [] [0, 1, 2, 3] [4] DagA_p32_1 DagA_s32_1 rfl rfl follow rfl ⟨
          wp rfl (does_field _ _ _ 0 DagA_f_api_Term_0 rfl rfl rfl rfl rfl rfl (pt_ptr (ar_tmp (av_fs 3 rfl)))),
          wp rfl (does_loadOne _ DagA_one_int rfl rfl rfl rfl rfl (pt_pt (av_rs 0 0 rfl rfl)) (rds_box (off := 0) (av_fs 2 rfl) (hq_one rfl))),
          wp rfl (does_field _ _ _ 0 DagA_f_api_Term_0 rfl rfl rfl rfl rfl rfl (pt_ptr (ar_tmp (av_fs 1 rfl)))),
          wp rfl (does_loadOne _ DagA_one_int rfl rfl rfl rfl rfl (pt_pt (av_rs 2 2 rfl rfl)) (rds_box (off := 0) (av_fs 0 rfl) (hq_one rfl))),
          wp rfl (does_cmp (m := s.op) (n := t.op) _ _ _ _ _ rfl rfl rfl rfl rfl rfl .i64 (ar_tmp (av_rs 1 1 rfl rfl)) (ar_tmp (av_rs 3 3 rfl rfl))),
          wp rfl (does_move _ (.inl rfl) rfl rfl rfl rfl (ar_tmp (av_rs 4 4 rfl rfl))),
          .inl ⟨wants_guard true rfl rfl rfl (av_bool hb1 (av_rs 5 5 rfl rfl)), does_field _ _ _ 1 DagA_f_api_Term_1 rfl rfl rfl rfl rfl rfl (pt_ptr (ar_tmp (av_fs 3 rfl)))⟩,
          .inl ⟨wants_guard true rfl rfl rfl (av_bool hb1 (av_rs 5 5 rfl rfl)), does_loadOne _ DagA_one_int rfl rfl rfl rfl rfl (pt_pt (av_rs 6 6 rfl rfl)) (rds_box (off := 1) (av_fs 2 rfl) (hq_one rfl))⟩,
          .inl ⟨wants_guard true rfl rfl rfl (av_bool hb1 (av_rs 5 5 rfl rfl)), does_field _ _ _ 1 DagA_f_api_Term_1 rfl rfl rfl rfl rfl rfl (pt_ptr (ar_tmp (av_fs 1 rfl)))⟩,
          .inl ⟨wants_guard true rfl rfl rfl (av_bool hb1 (av_rs 5 5 rfl rfl)), does_loadOne _ DagA_one_int rfl rfl rfl rfl rfl (pt_pt (av_rs 8 8 rfl rfl)) (rds_box (off := 1) (av_fs 0 rfl) (hq_one rfl))⟩,
          .inl ⟨wants_guard true rfl rfl rfl (av_bool hb1 (av_rs 5 5 rfl rfl)), does_cmp (m := s.fn) (n := t.fn) _ _ _ _ _ rfl rfl rfl rfl rfl rfl .i64 (ar_tmp (av_rs 7 7 rfl rfl)) (ar_tmp (av_rs 9 9 rfl rfl))⟩,
          wp rfl (does_pick true _ _ _ rfl rfl rfl rfl rfl (ar_tmp (av_bool hb1 (av_rs 5 5 rfl rfl))) (ar_tmp (av_rs 10 10 rfl rfl))),
          wp rfl (does_move _ (.inl rfl) rfl rfl rfl rfl (ar_tmp (av_rs 11 11 rfl rfl))),
          .inl ⟨wants_guard true rfl rfl rfl (av_bool hb2 (av_rs 12 12 rfl rfl)), does_field _ _ _ 3 DagA_f_api_Term_3 rfl rfl rfl rfl rfl rfl (pt_ptr (ar_tmp (av_fs 3 rfl)))⟩,
          .inl ⟨wants_guard true rfl rfl rfl (av_bool hb2 (av_rs 12 12 rfl rfl)), does_loadOne _ DagA_one_string rfl rfl rfl rfl rfl (pt_pt (av_rs 13 13 rfl rfl)) (rds_box (off := 3) (av_fs 2 rfl) (hq_one rfl))⟩,
          .inl ⟨wants_guard true rfl rfl rfl (av_bool hb2 (av_rs 12 12 rfl rfl)), does_field _ _ _ 3 DagA_f_api_Term_3 rfl rfl rfl rfl rfl rfl (pt_ptr (ar_tmp (av_fs 1 rfl)))⟩,
          .inl ⟨wants_guard true rfl rfl rfl (av_bool hb2 (av_rs 12 12 rfl rfl)), does_loadOne _ DagA_one_string rfl rfl rfl rfl rfl (pt_pt (av_rs 15 15 rfl rfl)) (rds_box (off := 3) (av_fs 0 rfl) (hq_one rfl))⟩,
          .inl ⟨wants_guard true rfl rfl rfl (av_bool hb2 (av_rs 12 12 rfl rfl)), does_eqStr (u := s.num) (v := t.num) _ _ _ _ _ rfl rfl rfl rfl rfl rfl (ar_tmp (av_rs 14 14 rfl rfl)) (ar_tmp (av_rs 16 16 rfl rfl))⟩,
          wp rfl (does_pick true _ _ _ rfl rfl rfl rfl rfl (ar_tmp (av_bool hb2 (av_rs 12 12 rfl rfl))) (ar_tmp (av_rs 17 17 rfl rfl))),
          wp rfl (does_move _ (.inl rfl) rfl rfl rfl rfl (ar_tmp (av_rs 18 18 rfl rfl))),
          .inr (skips_guardU false rfl rfl rfl (av_bool hb3 (av_rs 19 19 rfl rfl)) rfl rfl rfl rfl),
          .inr (skips_guardU false rfl rfl rfl (av_bool hb3 (av_rs 19 19 rfl rfl)) rfl rfl rfl rfl),
          .inr (skips_guardU false rfl rfl rfl (av_bool hb3 (av_rs 19 19 rfl rfl)) rfl rfl rfl rfl),
          .inr (skips_guardU false rfl rfl rfl (av_bool hb3 (av_rs 19 19 rfl rfl)) rfl rfl rfl rfl),
          .inr (skips_guardU false rfl rfl rfl (av_bool hb3 (av_rs 19 19 rfl rfl)) rfl rfl rfl rfl),
          wp rfl (does_pick false _ _ _ rfl rfl rfl rfl rfl (ar_tmp (av_bool hb3 (av_rs 19 19 rfl rfl))) (ar_const (fun _ _ => rfl))),
          wp rfl (does_move _ (.inr rfl) rfl rfl rfl rfl (ar_tmp (av_rs 25 25 rfl rfl))),
          trivial⟩ ?_
        refine t_pick [0, 2, 30] rfl ?_
        refine nx_then ?_
        refine t_ret ?_
        exact rt_post [HA.of (VP.bool (sameT s t))] [[]] [] [] rfl ⟨(rv_eq (congrArg HA.of (congrArg VP.bool (show false = sameT s t from Eq.symm (sameT_3 hb3)))) (rv_vp 2 rfl)), trivial⟩ (by decide) rfl rfl
    · have hc2 := ne_of_beq_false hb2
      refine t_rg [.own 102 (.val v3) (B_term t), .is (.tmp 3) (VP.ptr v3), .own 101 (.val v2) (B_term s), .is (.tmp 2) (VP.ptr v2)] [(26, .is (.tmp 4) (VP.bool false))] [(0, .pt 5 (.blk (.val v2) 0)), (1, .is (.tmp 6) (VP.int .i64 s.op)), (2, .pt 7 (.blk (.val v3) 0)), (3, .is (.tmp 8) (VP.int .i64 t.op)), (4, .is (.tmp 9) (VP.bool (s.op == t.op))), (5, .is (.tmp 10) (VP.bool (s.op == t.op))), (6, .pt 11 (.blk (.val v2) 1)), (7, .is (.tmp 12) (VP.int .i64 s.fn)), (8, .pt 13 (.blk (.val v3) 1)), (9, .is (.tmp 14) (VP.int .i64 t.fn)), (10, .is (.tmp 15) (VP.bool (s.fn == t.fn))), (11, .is (.tmp 16) (VP.bool (s.fn == t.fn))), (12, .is (.tmp 17) (VP.bool (s.fn == t.fn))), (13, .is (.tmp 18) (VP.undef)), (14, .is (.tmp 19) (VP.undef)), (15, .is (.tmp 20) (VP.undef)), (16, .is (.tmp 21) (VP.undef)), (17, .is (.tmp 22) (VP.undef)), (18, .is (.tmp 23) (VP.bool false)), (19, .is (.tmp 24) (VP.bool false)), (20, .is (.tmp 25) (VP.undef)), (21, .is (.tmp 26) (VP.undef)), (22, .is (.tmp 27) (VP.undef)), (23, .is (.tmp 28) (VP.undef)), (24, .is (.tmp 29) (VP.undef)), (25, .is (.tmp 30) (VP.bool false)), (26, .is (.tmp 4) (VP.bool false))] [] [0, 1, 2, 3] [4] DagA_p32_1 DagA_s32_1 rfl rfl follow rfl ⟨
        wp rfl (does_field _ _ _ 0 DagA_f_api_Term_0 rfl rfl rfl rfl rfl rfl (pt_ptr (ar_tmp (av_fs 3 rfl)))),
        wp rfl (does_loadOne _ DagA_one_int rfl rfl rfl rfl rfl (pt_pt (av_rs 0 0 rfl rfl)) (rds_box (off := 0) (av_fs 2 rfl) (hq_one rfl))),
        wp rfl (does_field _ _ _ 0 DagA_f_api_Term_0 rfl rfl rfl rfl rfl rfl (pt_ptr (ar_tmp (av_fs 1 rfl)))),
        wp rfl (does_loadOne _ DagA_one_int rfl rfl rfl rfl rfl (pt_pt (av_rs 2 2 rfl rfl)) (rds_box (off := 0) (av_fs 0 rfl) (hq_one rfl))),
        wp rfl (does_cmp (m := s.op) (n := t.op) _ _ _ _ _ rfl rfl rfl rfl rfl rfl .i64 (ar_tmp (av_rs 1 1 rfl rfl)) (ar_tmp (av_rs 3 3 rfl rfl))),
        wp rfl (does_move _ (.inl rfl) rfl rfl rfl rfl (ar_tmp (av_rs 4 4 rfl rfl))),
        .inl ⟨wants_guard true rfl rfl rfl (av_bool hb1 (av_rs 5 5 rfl rfl)), does_field _ _ _ 1 DagA_f_api_Term_1 rfl rfl rfl rfl rfl rfl (pt_ptr (ar_tmp (av_fs 3 rfl)))⟩,
        .inl ⟨wants_guard true rfl rfl rfl (av_bool hb1 (av_rs 5 5 rfl rfl)), does_loadOne _ DagA_one_int rfl rfl rfl rfl rfl (pt_pt (av_rs 6 6 rfl rfl)) (rds_box (off := 1) (av_fs 2 rfl) (hq_one rfl))⟩,
        .inl ⟨wants_guard true rfl rfl rfl (av_bool hb1 (av_rs 5 5 rfl rfl)), does_field _ _ _ 1 DagA_f_api_Term_1 rfl rfl rfl rfl rfl rfl (pt_ptr (ar_tmp (av_fs 1 rfl)))⟩,
        .inl ⟨wants_guard true rfl rfl rfl (av_bool hb1 (av_rs 5 5 rfl rfl)), does_loadOne _ DagA_one_int rfl rfl rfl rfl rfl (pt_pt (av_rs 8 8 rfl rfl)) (rds_box (off := 1) (av_fs 0 rfl) (hq_one rfl))⟩,
        .inl ⟨wants_guard true rfl rfl rfl (av_bool hb1 (av_rs 5 5 rfl rfl)), does_cmp (m := s.fn) (n := t.fn) _ _ _ _ _ rfl rfl rfl rfl rfl rfl .i64 (ar_tmp (av_rs 7 7 rfl rfl)) (ar_tmp (av_rs 9 9 rfl rfl))⟩,
        wp rfl (does_pick true _ _ _ rfl rfl rfl rfl rfl (ar_tmp (av_bool hb1 (av_rs 5 5 rfl rfl))) (ar_tmp (av_rs 10 10 rfl rfl))),
        wp rfl (does_move _ (.inl rfl) rfl rfl rfl rfl (ar_tmp (av_rs 11 11 rfl rfl))),
        .inr (skips_guardU false rfl rfl rfl (av_bool hb2 (av_rs 12 12 rfl rfl)) rfl rfl rfl rfl),
        .inr (skips_guardU false rfl rfl rfl (av_bool hb2 (av_rs 12 12 rfl rfl)) rfl rfl rfl rfl),
        .inr (skips_guardU false rfl rfl rfl (av_bool hb2 (av_rs 12 12 rfl rfl)) rfl rfl rfl rfl),
        .inr (skips_guardU false rfl rfl rfl (av_bool hb2 (av_rs 12 12 rfl rfl)) rfl rfl rfl rfl),
        .inr (skips_guardU false rfl rfl rfl (av_bool hb2 (av_rs 12 12 rfl rfl)) rfl rfl rfl rfl),
        wp rfl (does_pick false _ _ _ rfl rfl rfl rfl rfl (ar_tmp (av_bool hb2 (av_rs 12 12 rfl rfl))) (ar_const (fun _ _ => rfl))),
        wp rfl (does_move _ (.inl rfl) rfl rfl rfl rfl (ar_tmp (av_rs 18 18 rfl rfl))),
        .inr (skips_guardU false rfl rfl rfl (av_rs 19 19 rfl rfl) rfl rfl rfl rfl),
        .inr (skips_guardU false rfl rfl rfl (av_rs 19 19 rfl rfl) rfl rfl rfl rfl),
        .inr (skips_guardU false rfl rfl rfl (av_rs 19 19 rfl rfl) rfl rfl rfl rfl),
        .inr (skips_guardU false rfl rfl rfl (av_rs 19 19 rfl rfl) rfl rfl rfl rfl),
        .inr (skips_guardU false rfl rfl rfl (av_rs 19 19 rfl rfl) rfl rfl rfl rfl),
        wp rfl (does_pick false _ _ _ rfl rfl rfl rfl rfl (ar_tmp (av_rs 19 19 rfl rfl)) (ar_const (fun _ _ => rfl))),
        wp rfl (does_move _ (.inr rfl) rfl rfl rfl rfl (ar_tmp (av_rs 25 25 rfl rfl))),
        trivial⟩ ?_
      refine t_pick [0, 2, 30] rfl ?_
      refine nx_then ?_
      refine t_ret ?_
      exact rt_post [HA.of (VP.bool (sameT s t))] [[]] [] [] rfl ⟨(rv_eq (congrArg HA.of (congrArg VP.bool (show false = sameT s t from Eq.symm (sameT_2 hb2)))) (rv_vp 2 rfl)), trivial⟩ (by decide) rfl rfl
  · have hc1 := ne_of_beq_false hb1
    refine t_rg [.own 102 (.val v3) (B_term t), .is (.tmp 3) (VP.ptr v3), .own 101 (.val v2) (B_term s), .is (.tmp 2) (VP.ptr v2)] [(26, .is (.tmp 4) (VP.bool false))] [(0, .pt 5 (.blk (.val v2) 0)), (1, .is (.tmp 6) (VP.int .i64 s.op)), (2, .pt 7 (.blk (.val v3) 0)), (3, .is (.tmp 8) (VP.int .i64 t.op)), (4, .is (.tmp 9) (VP.bool (s.op == t.op))), (5, .is (.tmp 10) (VP.bool (s.op == t.op))), (6, .is (.tmp 11) (VP.undef)), (7, .is (.tmp 12) (VP.undef)), (8, .is (.tmp 13) (VP.undef)), (9, .is (.tmp 14) (VP.undef)), (10, .is (.tmp 15) (VP.undef)), (11, .is (.tmp 16) (VP.bool false)), (12, .is (.tmp 17) (VP.bool false)), (13, .is (.tmp 18) (VP.undef)), (14, .is (.tmp 19) (VP.undef)), (15, .is (.tmp 20) (VP.undef)), (16, .is (.tmp 21) (VP.undef)), (17, .is (.tmp 22) (VP.undef)), (18, .is (.tmp 23) (VP.bool false)), (19, .is (.tmp 24) (VP.bool false)), (20, .is (.tmp 25) (VP.undef)), (21, .is (.tmp 26) (VP.undef)), (22, .is (.tmp 27) (VP.undef)), (23, .is (.tmp 28) (VP.undef)), (24, .is (.tmp 29) (VP.undef)), (25, .is (.tmp 30) (VP.bool false)), (26, .is (.tmp 4) (VP.bool false))] [] [0, 1, 2, 3] [4] DagA_p32_1 DagA_s32_1 rfl rfl follow rfl ⟨
      wp rfl (does_field _ _ _ 0 DagA_f_api_Term_0 rfl rfl rfl rfl rfl rfl (pt_ptr (ar_tmp (av_fs 3 rfl)))),
      wp rfl (does_loadOne _ DagA_one_int rfl rfl rfl rfl rfl (pt_pt (av_rs 0 0 rfl rfl)) (rds_box (off := 0) (av_fs 2 rfl) (hq_one rfl))),
      wp rfl (does_field _ _ _ 0 DagA_f_api_Term_0 rfl rfl rfl rfl rfl rfl (pt_ptr (ar_tmp (av_fs 1 rfl)))),
      wp rfl (does_loadOne _ DagA_one_int rfl rfl rfl rfl rfl (pt_pt (av_rs 2 2 rfl rfl)) (rds_box (off := 0) (av_fs 0 rfl) (hq_one rfl))),
      wp rfl (does_cmp (m := s.op) (n := t.op) _ _ _ _ _ rfl rfl rfl rfl rfl rfl .i64 (ar_tmp (av_rs 1 1 rfl rfl)) (ar_tmp (av_rs 3 3 rfl rfl))),
      wp rfl (does_move _ (.inl rfl) rfl rfl rfl rfl (ar_tmp (av_rs 4 4 rfl rfl))),
      .inr (skips_guardU false rfl rfl rfl (av_bool hb1 (av_rs 5 5 rfl rfl)) rfl rfl rfl rfl),
      .inr (skips_guardU false rfl rfl rfl (av_bool hb1 (av_rs 5 5 rfl rfl)) rfl rfl rfl rfl),
      .inr (skips_guardU false rfl rfl rfl (av_bool hb1 (av_rs 5 5 rfl rfl)) rfl rfl rfl rfl),
      .inr (skips_guardU false rfl rfl rfl (av_bool hb1 (av_rs 5 5 rfl rfl)) rfl rfl rfl rfl),
      .inr (skips_guardU false rfl rfl rfl (av_bool hb1 (av_rs 5 5 rfl rfl)) rfl rfl rfl rfl),
      wp rfl (does_pick false _ _ _ rfl rfl rfl rfl rfl (ar_tmp (av_bool hb1 (av_rs 5 5 rfl rfl))) (ar_const (fun _ _ => rfl))),
      wp rfl (does_move _ (.inl rfl) rfl rfl rfl rfl (ar_tmp (av_rs 11 11 rfl rfl))),
      .inr (skips_guardU false rfl rfl rfl (av_rs 12 12 rfl rfl) rfl rfl rfl rfl),
      .inr (skips_guardU false rfl rfl rfl (av_rs 12 12 rfl rfl) rfl rfl rfl rfl),
      .inr (skips_guardU false rfl rfl rfl (av_rs 12 12 rfl rfl) rfl rfl rfl rfl),
      .inr (skips_guardU false rfl rfl rfl (av_rs 12 12 rfl rfl) rfl rfl rfl rfl),
      .inr (skips_guardU false rfl rfl rfl (av_rs 12 12 rfl rfl) rfl rfl rfl rfl),
      wp rfl (does_pick false _ _ _ rfl rfl rfl rfl rfl (ar_tmp (av_rs 12 12 rfl rfl)) (ar_const (fun _ _ => rfl))),
      wp rfl (does_move _ (.inl rfl) rfl rfl rfl rfl (ar_tmp (av_rs 18 18 rfl rfl))),
      .inr (skips_guardU false rfl rfl rfl (av_rs 19 19 rfl rfl) rfl rfl rfl rfl),
      .inr (skips_guardU false rfl rfl rfl (av_rs 19 19 rfl rfl) rfl rfl rfl rfl),
      .inr (skips_guardU false rfl rfl rfl (av_rs 19 19 rfl rfl) rfl rfl rfl rfl),
      .inr (skips_guardU false rfl rfl rfl (av_rs 19 19 rfl rfl) rfl rfl rfl rfl),
      .inr (skips_guardU false rfl rfl rfl (av_rs 19 19 rfl rfl) rfl rfl rfl rfl),
      wp rfl (does_pick false _ _ _ rfl rfl rfl rfl rfl (ar_tmp (av_rs 19 19 rfl rfl)) (ar_const (fun _ _ => rfl))),
      wp rfl (does_move _ (.inr rfl) rfl rfl rfl rfl (ar_tmp (av_rs 25 25 rfl rfl))),
      trivial⟩ ?_
    refine t_pick [0, 2, 30] rfl ?_
    refine nx_then ?_
    refine t_ret ?_
    exact rt_post [HA.of (VP.bool (sameT s t))] [[]] [] [] rfl ⟨(rv_eq (congrArg HA.of (congrArg VP.bool (show false = sameT s t from Eq.symm (sameT_1 hb1)))) (rv_vp 2 rfl)), trivial⟩ (by decide) rfl rfl

set_option maxRecDepth 100000 in
set_option maxHeartbeats 4000000 in
theorem dg_IndexInt (l : List Int) (f : FuncId) (fs cs : List Value) (ps cps : List VP) (hb : hasBody Try.prog f = true) (hfl : fs.length = ps.length) (hfp : ∀ Z w, All2 Z ps fs w) (hcl : cs.length = cps.length) (hcp : ∀ Z w, All2 Z cps cs w) (L : List (Value × HA)) (g : Int → Bool) (hs : ∀ x ∈ l, SpecO Try.prog f (ps.map Par.vp ++ (.vp (VP.int .i64 x) :: cps.map Par.vp)) [(Go.undef, HA.look L)] [] [] (HA.of (VP.bool (g x)))) : SpecO Try.prog 42 [.bo (S_int l), .vp (VP.bnd f fs cs)] [(Go.undef, HA.look L)] [] [] (HA.of (VP.int .i64 (ixf g l))) := by
  refine spec_of 19 Try.func42 rfl Try.ntmps42 rfl fun w0 S0 Z0 Bf => ?_
  refine b_name fun v0 => ?_
  refine b_know slc_le fun hl => ?_
  refine t_seq ?_
  refine t_rg [.bor (.val v0) (S_int l), .is (.tmp 0) (VP.eq v0 true true), .is (.tmp 1) (VP.bnd f fs cs), .bor (.val Go.undef) (HA.look L)] [] [(0, .is (.tmp 4) (VP.int .i64 0))] [] [0, 1, 2, 3] [] [[]] [[]] rfl rfl follow rfl ⟨
    wp rfl (does_move _ (.inr rfl) rfl rfl rfl rfl (ar_const (fun _ _ => rfl))),
    trivial⟩ ?_
  refine nx_then ?_
  refine t_seq ?_
  refine t_seq ?_
  refine t_rg [.bor (.val v0) (S_int l), .is (.tmp 0) (VP.eq v0 true true), .is (.tmp 1) (VP.bnd f fs cs), .bor (.val Go.undef) (HA.look L), .is (.tmp 4) (VP.int .i64 0)] [] [(0, .is (.tmp 6) (VP.eq v0 true true)), (1, .is (.tmp 7) (VP.int .i64 ((l.length : Nat) : Int))), (2, .is (.tmp 8) (VP.int .i64 0))] [] [0, 1, 2, 3, 4] [] [[], [0], []] [[1], [], []] rfl rfl follow rfl ⟨
    wp rfl (does_move _ (.inl rfl) rfl rfl rfl rfl (ar_tmp (av_fs 1 rfl))),
    wp rfl (does_len _ _ (by kernel_rfl) rfl rfl rfl rfl rfl (sl_slc (av_fs 0 rfl) (ar_tmp (av_rs 0 0 rfl rfl)))),
    wp rfl (does_move _ (.inl rfl) rfl rfl rfl rfl (ar_const (fun _ _ => rfl))),
    trivial⟩ ?_
  refine t_pick [0, 1, 2, 3, 4, 6, 7] rfl ?_
  refine nx_then ?_
  refine t_block ?_
  refine t_pick [6, 0, 1, 2, 3, 4, 5] rfl ?_
  refine t_slot (y := VP.int .i64 ((0 : Nat) : Int)) (fun _ _ _ h => h) ?_
  refine t_loop (τ := {k : Nat // k ≤ l.length ∧ ∀ j y, j < k → l[j]? = some y → g y = false}) (fun ⟨k, _⟩ => [.is (.tmp 0) (VP.eq v0 true true), .is (.tmp 1) (VP.bnd f fs cs), .is (.tmp 7) (VP.int .i64 ((l.length : Nat) : Int)), .is (.tmp 8) (VP.int .i64 ((k : Nat) : Int)), .bor (.val v0) (S_int l), .bor (.val Go.undef) (HA.look L)]) (fun ⟨k, _⟩ => l.length - k) (⟨0, Nat.zero_le _, fun j y hj => by omega⟩) [2, 3, 6, 0, 1, 4] rfl ?_
  rintro ⟨k, hk1, hk2⟩
  refine t_seq ?_
  refine t_rg [.is (.tmp 0) (VP.eq v0 true true), .is (.tmp 1) (VP.bnd f fs cs), .is (.tmp 7) (VP.int .i64 ((l.length : Nat) : Int)), .is (.tmp 8) (VP.int .i64 ((k : Nat) : Int)), .bor (.val v0) (S_int l), .bor (.val Go.undef) (HA.look L)] [] [(0, .is (.tmp 9) (VP.bool (decide (((k : Nat) : Int) < ((l.length : Nat) : Int)))))] [] [0, 1, 2, 3, 4, 5] [] [[]] [[]] rfl rfl follow rfl ⟨
    wp rfl (does_cmp (m := ((k : Nat) : Int)) (n := ((l.length : Nat) : Int)) _ _ _ _ _ rfl rfl rfl rfl rfl rfl .i64 (ar_tmp (av_fs 3 rfl)) (ar_tmp (av_fs 2 rfl))),
    trivial⟩ ?_
  refine nx_then ?_
  refine t_seq ?_
  refine t_split 6 rfl (fun hb1 => ?_) (fun hb1 => ?_)
  · have hc1 := of_decide_eq_true hb1
    obtain ⟨x, hx⟩ : ∃ x, l[k]? = some x := ⟨_, List.getElem?_eq_getElem (by omega)⟩
    have hxm := List.mem_of_getElem? hx
    refine t_skip ?_
    refine nx_then ?_
    refine t_seq ?_
    refine t_block ?_
    refine t_seq ?_
    refine t_rg [.is (.tmp 0) (VP.eq v0 true true), .is (.tmp 1) (VP.bnd f fs cs), .is (.tmp 7) (VP.int .i64 ((l.length : Nat) : Int)), .is (.tmp 8) (VP.int .i64 ((k : Nat) : Int)), .bor (.val v0) (S_int l), .bor (.val Go.undef) (HA.look L), .is (.tmp 9) (VP.bool (decide (((k : Nat) : Int) < ((l.length : Nat) : Int))))] [] [(0, .is (.tmp 10) (VP.int .i64 ((k : Nat) : Int))), (1, .is (.tmp 5) (VP.int .i64 ((k : Nat) : Int)))] [] [0, 1, 2, 3, 4, 5, 6] [] [[], [0]] [[1], []] rfl rfl follow rfl ⟨
      wp rfl (does_move _ (.inl rfl) rfl rfl rfl rfl (ar_tmp (av_fs 3 rfl))),
      wp rfl (does_move _ (.inr rfl) rfl rfl rfl rfl (ar_tmp (av_rs 0 0 rfl rfl))),
      trivial⟩ ?_
    refine nx_then ?_
    refine t_seq ?_
    refine t_rg [.is (.tmp 0) (VP.eq v0 true true), .is (.tmp 1) (VP.bnd f fs cs), .is (.tmp 7) (VP.int .i64 ((l.length : Nat) : Int)), .is (.tmp 8) (VP.int .i64 ((k : Nat) : Int)), .bor (.val v0) (S_int l), .bor (.val Go.undef) (HA.look L), .is (.tmp 9) (VP.bool (decide (((k : Nat) : Int) < ((l.length : Nat) : Int)))), .is (.tmp 10) (VP.int .i64 ((k : Nat) : Int)), .is (.tmp 5) (VP.int .i64 ((k : Nat) : Int))] [] [(0, .is (.tmp 11) (VP.bnd f fs cs)), (1, .is (.tmp 12) (VP.eq v0 true true)), (2, .is (.tmp 13) (VP.int .i64 ((k : Nat) : Int))), (3, .pt 14 (.row (.val v0) (k * 1))), (4, .is (.tmp 15) (VP.int .i64 x)), (5, .is (.tmp 16) (VP.bool (g x)))] [] [0, 1, 2, 3, 4, 5, 6, 7, 8] [] DagA_p42_4 DagA_s42_4 rfl rfl follow rfl ⟨
      wp rfl (does_move _ (.inl rfl) rfl rfl rfl rfl (ar_tmp (av_fs 1 rfl))),
      wp rfl (does_move _ (.inl rfl) rfl rfl rfl rfl (ar_tmp (av_fs 0 rfl))),
      wp rfl (does_move _ (.inl rfl) rfl rfl rfl rfl (ar_tmp (av_fs 8 rfl))),
      wp rfl (does_index (m := k) _ _ Try.underlying28 DagA_size_int rfl rfl rfl rfl rfl _ (by omega) rfl (by omega) (sl_slc (av_fs 4 rfl) (ar_tmp (av_rs 1 1 rfl rfl))) (ar_tmp (av_rs 2 2 rfl rfl))),
      wp rfl (does_loadOne _ DagA_one_int rfl rfl rfl rfl rfl (pt_pt (av_rs 3 3 rfl rfl)) (rds_slc (av_fs 4 rfl) (hq_flatV1 cInt_len hx 0 (by omega) rfl))),
      wp rfl (does_callF (hs x hxm) (fun _ _ _ _ h => h) rfl hb rfl rfl rfl rfl (ar_tmp (av_rs 0 0 rfl rfl)) (vrs_of hfl hfp) (ars_cons (pa_vp (ar_tmp (av_rs 4 4 rfl rfl))) (ars_caps hcl hcp)) ⟨(brw_bor (av_fs 5 rfl)), trivial⟩),
      trivial⟩ ?_
    refine nx_then ?_
    refine t_split 14 rfl (fun hb2 => ?_) (fun hb2 => ?_)
    · refine t_seq ?_
      refine t_rg [.is (.tmp 0) (VP.eq v0 true true), .is (.tmp 1) (VP.bnd f fs cs), .is (.tmp 7) (VP.int .i64 ((l.length : Nat) : Int)), .is (.tmp 8) (VP.int .i64 ((k : Nat) : Int)), .bor (.val v0) (S_int l), .bor (.val Go.undef) (HA.look L), .is (.tmp 9) (VP.bool (decide (((k : Nat) : Int) < ((l.length : Nat) : Int)))), .is (.tmp 10) (VP.int .i64 ((k : Nat) : Int)), .is (.tmp 5) (VP.int .i64 ((k : Nat) : Int)), .is (.tmp 11) (VP.bnd f fs cs), .is (.tmp 12) (VP.eq v0 true true), .is (.tmp 13) (VP.int .i64 ((k : Nat) : Int)), .pt 14 (.row (.val v0) (k * 1)), .is (.tmp 15) (VP.int .i64 x), .is (.tmp 16) (VP.bool (g x))] [] [(0, .is (.tmp 17) (VP.int .i64 ((k : Nat) : Int))), (1, .is (.tmp 4) (VP.int .i64 ((k : Nat) : Int)))] [] [0, 1, 2, 3, 4, 5, 6, 7, 8, 9, 10, 11, 12, 13, 14] [] [[], [0]] [[1], []] rfl rfl follow rfl ⟨
        wp rfl (does_move _ (.inl rfl) rfl rfl rfl rfl (ar_tmp (av_fs 8 rfl))),
        wp rfl (does_move _ (.inr rfl) rfl rfl rfl rfl (ar_tmp (av_rs 0 0 rfl rfl))),
        trivial⟩ ?_
      refine nx_then ?_
      refine t_ret ?_
      refine rt_block ?_
      refine rt_then ?_
      refine rt_then ?_
      refine rt_block ?_
      refine rt_then ?_
      exact rt_post [HA.of (VP.int .i64 (ixf g l))] [[]] [] [] rfl ⟨(rv_eq (congrArg HA.of (congrArg (VP.int .i64) (ixf_hit hk2 hx hb2).symm)) (rv_vp 16 rfl)), trivial⟩ (by decide) rfl rfl
    · refine t_skip ?_
      refine nx_block ?_
      refine nx_then ?_
      refine t_rg [.is (.tmp 0) (VP.eq v0 true true), .is (.tmp 1) (VP.bnd f fs cs), .is (.tmp 7) (VP.int .i64 ((l.length : Nat) : Int)), .bor (.val v0) (S_int l), .bor (.val Go.undef) (HA.look L), .is (.tmp 9) (VP.bool (decide (((k : Nat) : Int) < ((l.length : Nat) : Int)))), .is (.tmp 10) (VP.int .i64 ((k : Nat) : Int)), .is (.tmp 5) (VP.int .i64 ((k : Nat) : Int)), .is (.tmp 11) (VP.bnd f fs cs), .is (.tmp 12) (VP.eq v0 true true), .is (.tmp 13) (VP.int .i64 ((k : Nat) : Int)), .pt 14 (.row (.val v0) (k * 1)), .is (.tmp 15) (VP.int .i64 x), .is (.tmp 16) (VP.bool (g x))] [(1, .is (.tmp 8) (VP.int .i64 ((k : Nat) : Int)))] [(0, .is (.tmp 18) (VP.int .i64 (((k + 1) : Nat) : Int))), (1, .is (.tmp 8) (VP.int .i64 (((k + 1) : Nat) : Int)))] [] [0, 1, 2, 4, 5, 6, 7, 8, 9, 10, 11, 12, 13, 14] [3] [[], [0]] [[1], []] rfl rfl follow rfl ⟨
        wp rfl (does_addE (m := ((k : Nat) : Int)) (n := 1) (x := (((k + 1) : Nat) : Int)) (by omega) _ _ _ _ rfl rfl rfl rfl rfl (by omega) (ar_tmp (av_os 0 1 rfl rfl)) (ar_const (fun _ _ => rfl))),
        wp rfl (does_move _ (.inl rfl) rfl rfl rfl rfl (ar_tmp (av_rs 0 0 rfl rfl))),
        trivial⟩ ?_
      refine nx_round (τ := {k : Nat // k ≤ l.length ∧ ∀ j y, j < k → l[j]? = some y → g y = false}) (I := fun ⟨k, _⟩ => [.is (.tmp 0) (VP.eq v0 true true), .is (.tmp 1) (VP.bnd f fs cs), .is (.tmp 7) (VP.int .i64 ((l.length : Nat) : Int)), .is (.tmp 8) (VP.int .i64 ((k : Nat) : Int)), .bor (.val v0) (S_int l), .bor (.val Go.undef) (HA.look L)]) (μ := fun ⟨k, _⟩ => l.length - k) (s := ⟨k, hk1, hk2⟩) (⟨k + 1, by omega, ixf_step hk2 hx hb2⟩) ?_ [0, 1, 2, 15, 3, 4] ?_
      · exact (show l.length - (k + 1) < l.length - k by omega)
      · exact rfl
  · have hc1 := of_decide_eq_false hb1
    refine t_exit ?_
    refine ex_then ?_
    refine ex_then ?_
    refine ex_block ?_
    refine nx_then ?_
    refine t_pick [4, 5] rfl ?_
    refine t_seq ?_
    refine t_rg [.bor (.val v0) (S_int l), .bor (.val Go.undef) (HA.look L)] [] [(0, .is (.tmp 4) (VP.int .i64 (-1)))] [] [0, 1] [] [[]] [[]] rfl rfl follow rfl ⟨
      wp rfl (does_move _ (.inr rfl) rfl rfl rfl rfl (ar_const (fun _ _ => rfl))),
      trivial⟩ ?_
    refine nx_then ?_
    refine t_ret ?_
    exact rt_post [HA.of (VP.int .i64 (ixf g l))] [[]] [] [] rfl ⟨(rv_eq (congrArg HA.of (congrArg (VP.int .i64) (ixf_miss hk2 (by omega)).symm)) (rv_vp 2 rfl)), trivial⟩ (by decide) rfl rfl

set_option maxRecDepth 100000 in
set_option maxHeartbeats 4000000 in
theorem dg_AnyInt (l : List Int) (f : FuncId) (fs cs : List Value) (ps cps : List VP) (hb : hasBody Try.prog f = true) (hfl : fs.length = ps.length) (hfp : ∀ Z w, All2 Z ps fs w) (hcl : cs.length = cps.length) (hcp : ∀ Z w, All2 Z cps cs w) (L : List (Value × HA)) (g : Int → Bool) (hs : ∀ x ∈ l, SpecO Try.prog f (ps.map Par.vp ++ (.vp (VP.int .i64 x) :: cps.map Par.vp)) [(Go.undef, HA.look L)] [] [] (HA.of (VP.bool (g x)))) : SpecO Try.prog 24 [.bo (S_int l), .vp (VP.bnd f fs cs)] [(Go.undef, HA.look L)] [] [] (HA.of (VP.bool (l.any g))) := by
  refine spec_of 9 Try.func24 rfl Try.ntmps24 rfl fun w0 S0 Z0 Bf => ?_
  refine b_name fun v0 => ?_
  refine t_seq ?_
  refine t_rg [.bor (.val v0) (S_int l), .is (.tmp 0) (VP.eq v0 true true), .is (.tmp 1) (VP.bnd f fs cs), .bor (.val Go.undef) (HA.look L)] [] [(0, .is (.tmp 4) (VP.bool false))] [] [0, 1, 2, 3] [] [[]] [[]] rfl rfl follow rfl ⟨
    wp rfl (does_move _ (.inr rfl) rfl rfl rfl rfl (ar_const (fun _ _ => rfl))),
    trivial⟩ ?_
  refine nx_then ?_
  refine t_seq ?_
  refine t_rg [.bor (.val v0) (S_int l), .is (.tmp 0) (VP.eq v0 true true), .is (.tmp 1) (VP.bnd f fs cs), .bor (.val Go.undef) (HA.look L)] [(4, .is (.tmp 4) (VP.bool false))] [(0, .is (.tmp 5) (VP.eq v0 true true)), (1, .is (.tmp 6) (VP.bnd f fs cs)), (2, .is (.tmp 7) (VP.int .i64 (ixf g l))), (3, .is (.tmp 8) (VP.bool (decide ((ixf g l) ≥ 0)))), (4, .is (.tmp 4) (VP.bool (decide ((ixf g l) ≥ 0))))] [] [0, 1, 2, 3] [4] DagA_p24_1 DagA_s24_1 rfl rfl follow rfl ⟨
    wp rfl (does_move _ (.inl rfl) rfl rfl rfl rfl (ar_tmp (av_fs 1 rfl))),
    wp rfl (does_move _ (.inl rfl) rfl rfl rfl rfl (ar_tmp (av_fs 2 rfl))),
    wp rfl (does_call (dg_IndexInt l f fs cs ps cps hb hfl hfp hcl hcp L g hs) (fun _ _ _ _ h => h) rfl DagA_hb_slices_IndexFunc___int_int_ rfl rfl rfl rfl ar_clo (ars_cons (pa_bor (av_fs 0 rfl) (ar_tmp (av_rs 0 0 rfl rfl))) (ars_cons (pa_vp (ar_tmp (av_rs 1 1 rfl rfl))) ars_nil)) ⟨(brw_bor (av_fs 3 rfl)), trivial⟩),
    wp rfl (does_cmp (m := (ixf g l)) (n := 0) _ _ _ _ _ rfl rfl rfl rfl rfl rfl .i64 (ar_tmp (av_rs 2 2 rfl rfl)) (ar_const (fun _ _ => rfl))),
    wp rfl (does_move _ (.inr rfl) rfl rfl rfl rfl (ar_tmp (av_rs 3 3 rfl rfl))),
    trivial⟩ ?_
  refine t_pick [0, 3, 8] rfl ?_
  refine nx_then ?_
  refine t_ret ?_
  exact rt_post [HA.of (VP.bool (l.any g))] [[]] [] [] rfl ⟨(rv_eq (congrArg HA.of (congrArg VP.bool (ixf_any g l))) (rv_vp 2 rfl)), trivial⟩ (by decide) rfl rfl

end O
end Go.Proofs.Ytapmngmpomhjmaa

/- Sorts of an arena. -/
namespace Go.Proofs.Ytapmngmpomhjmaa
open Go.RowKit
namespace O

structure SortD where
  name : ByteArray
  args : List Int
deriving DecidableEq
def cSort (t : SortD) : List VP := [VP.str t.name, VP.ro t.args.length (t.args.flatMap cInt)]
theorem cSort_len (t : SortD) : (cSort t).length = 2 := rfl
theorem cSort_one (t : SortD) : (cSort t).all (·.one) = true := rfl
theorem cSort_nu (t : SortD) : (cSort t).all (·.nu) = true := rfl
abbrev R_sort (l : List SortD) : HA := HA.row 57 2 l.length ((l.flatMap cSort).map HA.of)
abbrev S_sort (l : List SortD) : HA := HA.slc l.length (l.flatMap cSort)
abbrev B_sort (x : SortD) : HA := HA.cells 57 [HA.of (VP.str x.name), HA.of (O_int x.args)]
def sortIs (n : ByteArray) (q : List Int) (s : SortD) : Bool := s.name.toList == n.toList && s.args == q
theorem DagB_agg_api_Sort : aggTy Try.prog 57 2 = true := by kernel_rfl
theorem DagB_size_api_Sort : ∀ w, (sizeOf 57).run Try.prog w = .ok 2 w := run_sizeAgg DagB_agg_api_Sort
abbrev DagB_p26_4 : Tab2 := [[], [], [], [1, 2], [1, 2, 3], [0, 1, 2, 3, 4]]
abbrev DagB_s26_4 : Tab2 := [[5], [3, 4, 5], [3, 4, 5], [4, 5], [5], []]
theorem DagB_f_api_Sort_0 : fieldAt Try.prog 57 0 0 = true := by kernel_rfl
theorem DagB_one_string : oneTy Try.prog 9 = true := by kernel_rfl
theorem DagB_f_api_Sort_1 : fieldAt Try.prog 57 1 1 = true := by kernel_rfl
theorem DagB_one___int : oneTy Try.prog 28 = true := by kernel_rfl
theorem DagB_hb_slices_Equal___int_int_ : hasBody Try.prog 28 = true := by kernel_rfl
abbrev DagB_p27_1 : Tab2 := [[], [0], [], [0, 1, 2], [0, 1, 2, 3], [0, 1, 2, 3, 4], [0, 1, 2, 3, 4, 5], [0, 1, 2, 3, 4], [0, 1, 2, 3, 4, 5, 6, 7], [0, 1, 2, 3, 4, 5, 6, 7, 8], [0, 1, 2, 3, 4, 5, 6, 7, 8, 9]]
abbrev DagB_s27_1 : Tab2 := [[1, 3, 4, 5, 6, 7, 8, 9, 10], [3, 4, 5, 6, 7, 8, 9, 10], [3, 4, 5, 6, 7, 8, 9, 10], [4, 5, 6, 7, 8, 9, 10], [5, 6, 7, 8, 9, 10], [6, 8, 9, 10], [8, 9, 10], [8, 9, 10], [9, 10], [10], []]
set_option maxRecDepth 100000 in
set_option maxHeartbeats 4000000 in
theorem dg_IndexSort (l : List SortD) (f : FuncId) (fs cs : List Value) (ps cps : List VP) (hb : hasBody Try.prog f = true) (hfl : fs.length = ps.length) (hfp : ∀ Z w, All2 Z ps fs w) (hcl : cs.length = cps.length) (hcp : ∀ Z w, All2 Z cps cs w) (L : List (Value × HA)) (g : SortD → Bool) (hs : ∀ x ∈ l, SpecO Try.prog f (ps.map Par.vp ++ (.vp (VP.agg [VP.str x.name, O_int x.args]) :: cps.map Par.vp)) [(Go.undef, HA.look L)] [] [] (HA.of (VP.bool (g x)))) : SpecO Try.prog 26 [.bo (S_sort l), .vp (VP.bnd f fs cs)] [(Go.undef, HA.look L)] [] [] (HA.of (VP.int .i64 (ixf g l))) := by
  refine spec_of 19 Try.func26 rfl Try.ntmps26 rfl fun w0 S0 Z0 Bf => ?_
  refine b_name fun v0 => ?_
  refine b_know slc_le fun hl => ?_
  refine t_seq ?_
  refine t_rg [.bor (.val v0) (S_sort l), .is (.tmp 0) (VP.eq v0 true true), .is (.tmp 1) (VP.bnd f fs cs), .bor (.val Go.undef) (HA.look L)] [] [(0, .is (.tmp 4) (VP.int .i64 0))] [] [0, 1, 2, 3] [] [[]] [[]] rfl rfl follow rfl ⟨
    wp rfl (does_move _ (.inr rfl) rfl rfl rfl rfl (ar_const (fun _ _ => rfl))),
    trivial⟩ ?_
  refine nx_then ?_
  refine t_seq ?_
  refine t_seq ?_
  refine t_rg [.bor (.val v0) (S_sort l), .is (.tmp 0) (VP.eq v0 true true), .is (.tmp 1) (VP.bnd f fs cs), .bor (.val Go.undef) (HA.look L), .is (.tmp 4) (VP.int .i64 0)] [] [(0, .is (.tmp 6) (VP.eq v0 true true)), (1, .is (.tmp 7) (VP.int .i64 ((l.length : Nat) : Int))), (2, .is (.tmp 8) (VP.int .i64 0))] [] [0, 1, 2, 3, 4] [] [[], [0], []] [[1], [], []] rfl rfl follow rfl ⟨
    wp rfl (does_move _ (.inl rfl) rfl rfl rfl rfl (ar_tmp (av_fs 1 rfl))),
    wp rfl (does_len _ _ (by kernel_rfl) rfl rfl rfl rfl rfl (sl_slc (av_fs 0 rfl) (ar_tmp (av_rs 0 0 rfl rfl)))),
    wp rfl (does_move _ (.inl rfl) rfl rfl rfl rfl (ar_const (fun _ _ => rfl))),
    trivial⟩ ?_
  refine t_pick [0, 1, 2, 3, 4, 6, 7] rfl ?_
  refine nx_then ?_
  refine t_block ?_
  refine t_pick [6, 0, 1, 2, 3, 4, 5] rfl ?_
  refine t_slot (y := VP.int .i64 ((0 : Nat) : Int)) (fun _ _ _ h => h) ?_
  refine t_loop (τ := {k : Nat // k ≤ l.length ∧ ∀ j y, j < k → l[j]? = some y → g y = false}) (fun ⟨k, _⟩ => [.is (.tmp 0) (VP.eq v0 true true), .is (.tmp 1) (VP.bnd f fs cs), .is (.tmp 7) (VP.int .i64 ((l.length : Nat) : Int)), .is (.tmp 8) (VP.int .i64 ((k : Nat) : Int)), .bor (.val v0) (S_sort l), .bor (.val Go.undef) (HA.look L)]) (fun ⟨k, _⟩ => l.length - k) (⟨0, Nat.zero_le _, fun j y hj => by omega⟩) [2, 3, 6, 0, 1, 4] rfl ?_
  rintro ⟨k, hk1, hk2⟩
  refine t_seq ?_
  refine t_rg [.is (.tmp 0) (VP.eq v0 true true), .is (.tmp 1) (VP.bnd f fs cs), .is (.tmp 7) (VP.int .i64 ((l.length : Nat) : Int)), .is (.tmp 8) (VP.int .i64 ((k : Nat) : Int)), .bor (.val v0) (S_sort l), .bor (.val Go.undef) (HA.look L)] [] [(0, .is (.tmp 9) (VP.bool (decide (((k : Nat) : Int) < ((l.length : Nat) : Int)))))] [] [0, 1, 2, 3, 4, 5] [] [[]] [[]] rfl rfl follow rfl ⟨
    wp rfl (does_cmp (m := ((k : Nat) : Int)) (n := ((l.length : Nat) : Int)) _ _ _ _ _ rfl rfl rfl rfl rfl rfl .i64 (ar_tmp (av_fs 3 rfl)) (ar_tmp (av_fs 2 rfl))),
    trivial⟩ ?_
  refine nx_then ?_
  refine t_seq ?_
  refine t_split 6 rfl (fun hb1 => ?_) (fun hb1 => ?_)
  · have hc1 := of_decide_eq_true hb1
    obtain ⟨x, hx⟩ : ∃ x, l[k]? = some x := ⟨_, List.getElem?_eq_getElem (by omega)⟩
    have hxm := List.mem_of_getElem? hx
    refine t_skip ?_
    refine nx_then ?_
    refine t_seq ?_
    refine t_block ?_
    refine t_seq ?_
    refine t_rg [.is (.tmp 0) (VP.eq v0 true true), .is (.tmp 1) (VP.bnd f fs cs), .is (.tmp 7) (VP.int .i64 ((l.length : Nat) : Int)), .is (.tmp 8) (VP.int .i64 ((k : Nat) : Int)), .bor (.val v0) (S_sort l), .bor (.val Go.undef) (HA.look L), .is (.tmp 9) (VP.bool (decide (((k : Nat) : Int) < ((l.length : Nat) : Int))))] [] [(0, .is (.tmp 10) (VP.int .i64 ((k : Nat) : Int))), (1, .is (.tmp 5) (VP.int .i64 ((k : Nat) : Int)))] [] [0, 1, 2, 3, 4, 5, 6] [] [[], [0]] [[1], []] rfl rfl follow rfl ⟨
      wp rfl (does_move _ (.inl rfl) rfl rfl rfl rfl (ar_tmp (av_fs 3 rfl))),
      wp rfl (does_move _ (.inr rfl) rfl rfl rfl rfl (ar_tmp (av_rs 0 0 rfl rfl))),
      trivial⟩ ?_
    refine nx_then ?_
    refine t_seq ?_
    refine t_rg [.is (.tmp 0) (VP.eq v0 true true), .is (.tmp 1) (VP.bnd f fs cs), .is (.tmp 7) (VP.int .i64 ((l.length : Nat) : Int)), .is (.tmp 8) (VP.int .i64 ((k : Nat) : Int)), .bor (.val v0) (S_sort l), .bor (.val Go.undef) (HA.look L), .is (.tmp 9) (VP.bool (decide (((k : Nat) : Int) < ((l.length : Nat) : Int)))), .is (.tmp 10) (VP.int .i64 ((k : Nat) : Int)), .is (.tmp 5) (VP.int .i64 ((k : Nat) : Int))] [] [(0, .is (.tmp 11) (VP.bnd f fs cs)), (1, .is (.tmp 12) (VP.eq v0 true true)), (2, .is (.tmp 13) (VP.int .i64 ((k : Nat) : Int))), (3, .pt 14 (.row (.val v0) (k * 2))), (4, .is (.tmp 15) (VP.agg [VP.str x.name, O_int x.args])), (5, .is (.tmp 16) (VP.bool (g x)))] [] [0, 1, 2, 3, 4, 5, 6, 7, 8] [] DagB_p26_4 DagB_s26_4 rfl rfl follow rfl ⟨
      wp rfl (does_move _ (.inl rfl) rfl rfl rfl rfl (ar_tmp (av_fs 1 rfl))),
      wp rfl (does_move _ (.inl rfl) rfl rfl rfl rfl (ar_tmp (av_fs 0 rfl))),
      wp rfl (does_move _ (.inl rfl) rfl rfl rfl rfl (ar_tmp (av_fs 8 rfl))),
      wp rfl (does_index (m := k) _ _ Try.underlying53 DagB_size_api_Sort rfl rfl rfl rfl rfl _ (by omega) rfl (by omega) (sl_slc (av_fs 4 rfl) (ar_tmp (av_rs 1 1 rfl rfl))) (ar_tmp (av_rs 2 2 rfl rfl))),
      wp rfl (does_loadAgg (ps := [VP.str x.name, O_int x.args]) _ DagB_agg_api_Sort rfl rfl rfl rfl rfl (pt_pt (av_rs 3 3 rfl rfl)) (rds_slc (av_fs 4 rfl) (hq_flatV cSort_len hx (by omega) rfl))),
      wp rfl (does_callF (hs x hxm) (fun _ _ _ _ h => h) rfl hb rfl rfl rfl rfl (ar_tmp (av_rs 0 0 rfl rfl)) (vrs_of hfl hfp) (ars_cons (pa_vp (ar_tmp (av_rs 4 4 rfl rfl))) (ars_caps hcl hcp)) ⟨(brw_bor (av_fs 5 rfl)), trivial⟩),
      trivial⟩ ?_
    refine nx_then ?_
    refine t_split 14 rfl (fun hb2 => ?_) (fun hb2 => ?_)
    · refine t_seq ?_
      refine t_rg [.is (.tmp 0) (VP.eq v0 true true), .is (.tmp 1) (VP.bnd f fs cs), .is (.tmp 7) (VP.int .i64 ((l.length : Nat) : Int)), .is (.tmp 8) (VP.int .i64 ((k : Nat) : Int)), .bor (.val v0) (S_sort l), .bor (.val Go.undef) (HA.look L), .is (.tmp 9) (VP.bool (decide (((k : Nat) : Int) < ((l.length : Nat) : Int)))), .is (.tmp 10) (VP.int .i64 ((k : Nat) : Int)), .is (.tmp 5) (VP.int .i64 ((k : Nat) : Int)), .is (.tmp 11) (VP.bnd f fs cs), .is (.tmp 12) (VP.eq v0 true true), .is (.tmp 13) (VP.int .i64 ((k : Nat) : Int)), .pt 14 (.row (.val v0) (k * 2)), .is (.tmp 15) (VP.agg [VP.str x.name, O_int x.args]), .is (.tmp 16) (VP.bool (g x))] [] [(0, .is (.tmp 17) (VP.int .i64 ((k : Nat) : Int))), (1, .is (.tmp 4) (VP.int .i64 ((k : Nat) : Int)))] [] [0, 1, 2, 3, 4, 5, 6, 7, 8, 9, 10, 11, 12, 13, 14] [] [[], [0]] [[1], []] rfl rfl follow rfl ⟨
        wp rfl (does_move _ (.inl rfl) rfl rfl rfl rfl (ar_tmp (av_fs 8 rfl))),
        wp rfl (does_move _ (.inr rfl) rfl rfl rfl rfl (ar_tmp (av_rs 0 0 rfl rfl))),
        trivial⟩ ?_
      refine nx_then ?_
      refine t_ret ?_
      refine rt_block ?_
      refine rt_then ?_
      refine rt_then ?_
      refine rt_block ?_
      refine rt_then ?_
      exact rt_post [HA.of (VP.int .i64 (ixf g l))] [[]] [] [] rfl ⟨(rv_eq (congrArg HA.of (congrArg (VP.int .i64) (ixf_hit hk2 hx hb2).symm)) (rv_vp 16 rfl)), trivial⟩ (by decide) rfl rfl
    · refine t_skip ?_
      refine nx_block ?_
      refine nx_then ?_
      refine t_rg [.is (.tmp 0) (VP.eq v0 true true), .is (.tmp 1) (VP.bnd f fs cs), .is (.tmp 7) (VP.int .i64 ((l.length : Nat) : Int)), .bor (.val v0) (S_sort l), .bor (.val Go.undef) (HA.look L), .is (.tmp 9) (VP.bool (decide (((k : Nat) : Int) < ((l.length : Nat) : Int)))), .is (.tmp 10) (VP.int .i64 ((k : Nat) : Int)), .is (.tmp 5) (VP.int .i64 ((k : Nat) : Int)), .is (.tmp 11) (VP.bnd f fs cs), .is (.tmp 12) (VP.eq v0 true true), .is (.tmp 13) (VP.int .i64 ((k : Nat) : Int)), .pt 14 (.row (.val v0) (k * 2)), .is (.tmp 15) (VP.agg [VP.str x.name, O_int x.args]), .is (.tmp 16) (VP.bool (g x))] [(1, .is (.tmp 8) (VP.int .i64 ((k : Nat) : Int)))] [(0, .is (.tmp 18) (VP.int .i64 (((k + 1) : Nat) : Int))), (1, .is (.tmp 8) (VP.int .i64 (((k + 1) : Nat) : Int)))] [] [0, 1, 2, 4, 5, 6, 7, 8, 9, 10, 11, 12, 13, 14] [3] [[], [0]] [[1], []] rfl rfl follow rfl ⟨
        wp rfl (does_addE (m := ((k : Nat) : Int)) (n := 1) (x := (((k + 1) : Nat) : Int)) (by omega) _ _ _ _ rfl rfl rfl rfl rfl (by omega) (ar_tmp (av_os 0 1 rfl rfl)) (ar_const (fun _ _ => rfl))),
        wp rfl (does_move _ (.inl rfl) rfl rfl rfl rfl (ar_tmp (av_rs 0 0 rfl rfl))),
        trivial⟩ ?_
      refine nx_round (τ := {k : Nat // k ≤ l.length ∧ ∀ j y, j < k → l[j]? = some y → g y = false}) (I := fun ⟨k, _⟩ => [.is (.tmp 0) (VP.eq v0 true true), .is (.tmp 1) (VP.bnd f fs cs), .is (.tmp 7) (VP.int .i64 ((l.length : Nat) : Int)), .is (.tmp 8) (VP.int .i64 ((k : Nat) : Int)), .bor (.val v0) (S_sort l), .bor (.val Go.undef) (HA.look L)]) (μ := fun ⟨k, _⟩ => l.length - k) (s := ⟨k, hk1, hk2⟩) (⟨k + 1, by omega, ixf_step hk2 hx hb2⟩) ?_ [0, 1, 2, 15, 3, 4] ?_
      · exact (show l.length - (k + 1) < l.length - k by omega)
      · exact rfl
  · have hc1 := of_decide_eq_false hb1
    refine t_exit ?_
    refine ex_then ?_
    refine ex_then ?_
    refine ex_block ?_
    refine nx_then ?_
    refine t_pick [4, 5] rfl ?_
    refine t_seq ?_
    refine t_rg [.bor (.val v0) (S_sort l), .bor (.val Go.undef) (HA.look L)] [] [(0, .is (.tmp 4) (VP.int .i64 (-1)))] [] [0, 1] [] [[]] [[]] rfl rfl follow rfl ⟨
      wp rfl (does_move _ (.inr rfl) rfl rfl rfl rfl (ar_const (fun _ _ => rfl))),
      trivial⟩ ?_
    refine nx_then ?_
    refine t_ret ?_
    exact rt_post [HA.of (VP.int .i64 (ixf g l))] [[]] [] [] rfl ⟨(rv_eq (congrArg HA.of (congrArg (VP.int .i64) (ixf_miss hk2 (by omega)).symm)) (rv_vp 2 rfl)), trivial⟩ (by decide) rfl rfl

set_option maxRecDepth 100000 in
set_option maxHeartbeats 4000000 in
theorem dg_Sort1 {c1 c2 v : Value} (s : SortD) (n : ByteArray) (q : List Int) : SpecO Try.prog 27 [.vp (VP.agg [VP.str s.name, O_int s.args]), .vp (VP.ptr c1), .vp (VP.ptr c2)] [(c1, HA.cells 9 [HA.of (VP.str n)]), (c2, HA.cells 28 [HA.of (VP.eq v true true)]), (v, S_int q)] [] [] (HA.of (VP.bool (sortIs n q s))) := by
  refine spec_of 15 Try.func27 rfl Try.ntmps27 rfl fun w0 S0 Z0 Bf => ?_
  refine t_seq ?_
  refine t_rg [.is (.tmp 0) (VP.agg [VP.str s.name, O_int s.args]), .is (.tmp 1) (VP.ptr c1), .is (.tmp 2) (VP.ptr c2), .bor (.val c1) (HA.cells 9 [HA.of (VP.str n)]), .bor (.val c2) (HA.cells 28 [HA.of (VP.eq v true true)]), .bor (.val v) (S_int q)] [] [(0, .own 101 (.tmp 3) (B_sort s)), (1, .is (.tmp 4) (VP.bool false))] [] [0, 1, 2, 3, 4, 5] [] [[], []] [[], []] rfl rfl follow rfl ⟨
    wp rfl (does_box (Rs := [HA.of (VP.str s.name), HA.of (O_int s.args)]) _ rfl rfl rfl rfl rfl rfl (cv_agg (ps := [VP.str s.name, O_int s.args]) (ar_tmp (av_fs 0 rfl)))),
    wp rfl (does_move _ (.inr rfl) rfl rfl rfl rfl (ar_const (fun _ _ => rfl))),
    trivial⟩ ?_
  refine t_pick [1, 2, 3, 4, 5, 6, 7] rfl ?_
  refine nx_then ?_
  refine t_pick [5, 0, 1, 2, 3, 4, 6] rfl ?_
  refine t_nameP rfl fun v3 => ?_
  refine t_seq ?_
  rcases Bool.eq_false_or_eq_true (s.name.toList == n.toList) with hb1 | hb1
  · refine t_rg [.own 101 (.val v3) (B_sort s), .is (.tmp 3) (VP.ptr v3), .is (.tmp 1) (VP.ptr c1), .is (.tmp 2) (VP.ptr c2), .bor (.val c1) (HA.cells 9 [HA.of (VP.str n)]), .bor (.val c2) (HA.cells 28 [HA.of (VP.eq v true true)]), .bor (.val v) (S_int q)] [(10, .is (.tmp 4) (VP.bool false))] [(0, .pt 5 (.blk (.val v3) 0)), (1, .is (.tmp 6) (VP.str s.name)), (2, .is (.tmp 7) (VP.str n)), (3, .is (.tmp 8) (VP.bool (s.name.toList == n.toList))), (4, .is (.tmp 9) (VP.bool (s.name.toList == n.toList))), (5, .pt 10 (.blk (.val v3) 1)), (6, .is (.tmp 11) (O_int s.args)), (7, .is (.tmp 12) (VP.eq v true true)), (8, .is (.tmp 13) (VP.bool (s.args == q))), (9, .is (.tmp 14) (VP.bool (s.args == q))), (10, .is (.tmp 4) (VP.bool (s.args == q)))] [] [0, 1, 2, 3, 4, 5, 6] [7] DagB_p27_1 DagB_s27_1 rfl rfl follow rfl ⟨
      wp rfl (does_field _ _ _ 0 DagB_f_api_Sort_0 rfl rfl rfl rfl rfl rfl (pt_ptr (ar_tmp (av_fs 1 rfl)))),
      wp rfl (does_loadOne _ DagB_one_string rfl rfl rfl rfl rfl (pt_pt (av_rs 0 0 rfl rfl)) (rds_box (off := 0) (av_fs 0 rfl) (hq_one rfl))),
      wp rfl (does_loadOne _ DagB_one_string rfl rfl rfl rfl rfl (pt_ptr (ar_tmp (av_fs 2 rfl))) (rds_bbox (off := 0) (av_fs 4 rfl) (hq_one rfl))),
      wp rfl (does_eqStr (u := s.name) (v := n) _ _ _ _ _ rfl rfl rfl rfl rfl rfl (ar_tmp (av_rs 1 1 rfl rfl)) (ar_tmp (av_rs 2 2 rfl rfl))),
      wp rfl (does_move _ (.inl rfl) rfl rfl rfl rfl (ar_tmp (av_rs 3 3 rfl rfl))),
      .inl ⟨wants_guard true rfl rfl rfl (av_bool hb1 (av_rs 4 4 rfl rfl)), does_field _ _ _ 1 DagB_f_api_Sort_1 rfl rfl rfl rfl rfl rfl (pt_ptr (ar_tmp (av_fs 1 rfl)))⟩,
      .inl ⟨wants_guard true rfl rfl rfl (av_bool hb1 (av_rs 4 4 rfl rfl)), does_loadOne _ DagB_one___int rfl rfl rfl rfl rfl (pt_pt (av_rs 5 5 rfl rfl)) (rds_box (off := 1) (av_fs 0 rfl) (hq_one rfl))⟩,
      .inl ⟨wants_guard true rfl rfl rfl (av_bool hb1 (av_rs 4 4 rfl rfl)), does_loadOne _ DagB_one___int rfl rfl rfl rfl rfl (pt_ptr (ar_tmp (av_fs 3 rfl))) (rds_bbox (off := 0) (av_fs 5 rfl) (hq_one rfl))⟩,
      .inl ⟨wants_guard true rfl rfl rfl (av_bool hb1 (av_rs 4 4 rfl rfl)), does_call (dg_Equal s.args q) (fun _ _ _ _ h => h) rfl DagB_hb_slices_Equal___int_int_ rfl rfl rfl rfl ar_clo (ars_cons (pa_slcRo (ar_tmp (av_rs 6 6 rfl rfl)) (flat_nil_iff cInt_len (by decide) _)) (ars_cons (pa_bor (av_fs 6 rfl) (ar_tmp (av_rs 7 7 rfl rfl))) ars_nil)) trivial⟩,
      wp rfl (does_pick true _ _ _ rfl rfl rfl rfl rfl (ar_tmp (av_bool hb1 (av_rs 4 4 rfl rfl))) (ar_tmp (av_rs 8 8 rfl rfl))),
      wp rfl (does_move _ (.inr rfl) rfl rfl rfl rfl (ar_tmp (av_rs 9 9 rfl rfl))),
      trivial⟩ ?_
    refine t_pick [0, 4, 5, 6, 17] rfl ?_
    refine nx_then ?_
    refine t_ret ?_
    exact rt_post [HA.of (VP.bool (sortIs n q s))] [[]] [] [] rfl ⟨(rv_eq (congrArg HA.of (congrArg VP.bool (show (s.args == q) = sortIs n q s from Eq.symm (by unfold sortIs; rw [hb1]; rfl)))) (rv_vp 4 rfl)), trivial⟩ (by decide) rfl rfl
  · refine t_rg [.own 101 (.val v3) (B_sort s), .is (.tmp 3) (VP.ptr v3), .is (.tmp 1) (VP.ptr c1), .is (.tmp 2) (VP.ptr c2), .bor (.val c1) (HA.cells 9 [HA.of (VP.str n)]), .bor (.val c2) (HA.cells 28 [HA.of (VP.eq v true true)]), .bor (.val v) (S_int q)] [(10, .is (.tmp 4) (VP.bool false))] [(0, .pt 5 (.blk (.val v3) 0)), (1, .is (.tmp 6) (VP.str s.name)), (2, .is (.tmp 7) (VP.str n)), (3, .is (.tmp 8) (VP.bool (s.name.toList == n.toList))), (4, .is (.tmp 9) (VP.bool (s.name.toList == n.toList))), (5, .is (.tmp 10) (VP.undef)), (6, .is (.tmp 11) (VP.undef)), (7, .is (.tmp 12) (VP.undef)), (8, .is (.tmp 13) (VP.undef)), (9, .is (.tmp 14) (VP.bool false)), (10, .is (.tmp 4) (VP.bool false))] [] [0, 1, 2, 3, 4, 5, 6] [7] DagB_p27_1 DagB_s27_1 rfl rfl follow rfl ⟨
      wp rfl (does_field _ _ _ 0 DagB_f_api_Sort_0 rfl rfl rfl rfl rfl rfl (pt_ptr (ar_tmp (av_fs 1 rfl)))),
      wp rfl (does_loadOne _ DagB_one_string rfl rfl rfl rfl rfl (pt_pt (av_rs 0 0 rfl rfl)) (rds_box (off := 0) (av_fs 0 rfl) (hq_one rfl))),
      wp rfl (does_loadOne _ DagB_one_string rfl rfl rfl rfl rfl (pt_ptr (ar_tmp (av_fs 2 rfl))) (rds_bbox (off := 0) (av_fs 4 rfl) (hq_one rfl))),
      wp rfl (does_eqStr (u := s.name) (v := n) _ _ _ _ _ rfl rfl rfl rfl rfl rfl (ar_tmp (av_rs 1 1 rfl rfl)) (ar_tmp (av_rs 2 2 rfl rfl))),
      wp rfl (does_move _ (.inl rfl) rfl rfl rfl rfl (ar_tmp (av_rs 3 3 rfl rfl))),
      .inr (skips_guardU false rfl rfl rfl (av_bool hb1 (av_rs 4 4 rfl rfl)) rfl rfl rfl rfl),
      .inr (skips_guardU false rfl rfl rfl (av_bool hb1 (av_rs 4 4 rfl rfl)) rfl rfl rfl rfl),
      .inr (skips_guardU false rfl rfl rfl (av_bool hb1 (av_rs 4 4 rfl rfl)) rfl rfl rfl rfl),
      .inr (skips_guardU false rfl rfl rfl (av_bool hb1 (av_rs 4 4 rfl rfl)) rfl rfl rfl rfl),
      wp rfl (does_pick false _ _ _ rfl rfl rfl rfl rfl (ar_tmp (av_bool hb1 (av_rs 4 4 rfl rfl))) (ar_const (fun _ _ => rfl))),
      wp rfl (does_move _ (.inr rfl) rfl rfl rfl rfl (ar_tmp (av_rs 9 9 rfl rfl))),
      trivial⟩ ?_
    refine t_pick [0, 4, 5, 6, 17] rfl ?_
    refine nx_then ?_
    refine t_ret ?_
    exact rt_post [HA.of (VP.bool (sortIs n q s))] [[]] [] [] rfl ⟨(rv_eq (congrArg HA.of (congrArg VP.bool (show false = sortIs n q s from Eq.symm (by unfold sortIs; rw [hb1]; rfl)))) (rv_vp 4 rfl)), trivial⟩ (by decide) rfl rfl

end O
end Go.Proofs.Ytapmngmpomhjmaa

/- An arena. -/
namespace Go.Proofs.Ytapmngmpomhjmaa
open Go.RowKit
namespace O

structure FunD where
  name : ByteArray
  args : List Int
  res : Int
deriving DecidableEq
def cFun (t : FunD) : List VP := [VP.str t.name, VP.ro t.args.length (t.args.flatMap cInt), VP.int .i64 t.res]
theorem cFun_len (t : FunD) : (cFun t).length = 3 := rfl
theorem cFun_one (t : FunD) : (cFun t).all (·.one) = true := rfl
theorem cFun_nu (t : FunD) : (cFun t).all (·.nu) = true := rfl
def cU64 (n : Int) : List VP := [VP.int .u64 n]
theorem cU64_len (n : Int) : (cU64 n).length = 1 := rfl
theorem cU64_one (n : Int) : (cU64 n).all (·.one) = true := rfl
theorem cU64_nu (n : Int) : (cU64 n).all (·.nu) = true := rfl
/-- an arena -/
structure ArD where
  sorts : List SortD
  funs : List FunD
  terms : List TermD
  of_ : List Int
  hashes : List Int
  table : List (List Int)
  most : Int
abbrev rowInt (b : List Int) : HA := HA.row 3 1 b.length ((b.flatMap cInt).map HA.of)
abbrev rowsInt (t : List (List Int)) : HA := HA.row 28 1 t.length (t.map rowInt)
abbrev Arn (d : ArD) : HA := HA.cells 64 [HA.row 57 2 d.sorts.length ((d.sorts.flatMap cSort).map HA.of), HA.row 38 3 d.funs.length ((d.funs.flatMap cFun).map HA.of), HA.row 30 4 d.terms.length ((d.terms.flatMap cTerm).map HA.of), HA.row 3 1 d.of_.length ((d.of_.flatMap cInt).map HA.of), HA.row 49 1 d.hashes.length ((d.hashes.flatMap cU64).map HA.of), rowsInt d.table, HA.of (VP.int .i64 d.most)]
abbrev R_fun (l : List FunD) : HA := HA.row 38 3 l.length ((l.flatMap cFun).map HA.of)
abbrev R_u64 (l : List Int) : HA := HA.row 49 1 l.length ((l.flatMap cU64).map HA.of)
abbrev B_fun (x : FunD) : HA := HA.cells 38 [HA.of (VP.str x.name), HA.of (O_int x.args), HA.of (VP.int .i64 x.res)]
abbrev ArO (us uf ut uo uh ub : Value) (m : Int) : HA := HA.cells 64 [HA.of (VP.eq us true true), HA.of (VP.eq uf true true), HA.of (VP.eq ut true true), HA.of (VP.eq uo true true), HA.of (VP.eq uh true true), HA.of (VP.eq ub true true), HA.of (VP.int .i64 m)]
theorem DagC_f_dag_Arena_2 : fieldAt Try.prog 64 2 2 = true := by kernel_rfl
theorem DagC_one___api_Term : oneTy Try.prog 61 = true := by kernel_rfl
abbrev DagC_p12_1 : Tab2 := [[], [0], [0, 1], [0, 1, 2], [0, 1, 2, 3], [0, 1, 2, 3, 4]]
abbrev DagC_s12_1 : Tab2 := [[1, 2, 3, 4, 5], [2, 3, 4, 5], [3, 4, 5], [4, 5], [5], []]
theorem DagC_f_dag_Arena_0 : fieldAt Try.prog 64 0 0 = true := by kernel_rfl
theorem DagC_one___api_Sort : oneTy Try.prog 53 = true := by kernel_rfl
abbrev DagC_p43_1 : Tab2 := [[], [0], [0, 1], [0, 1, 2], [0, 1, 2], [0, 1, 2, 4], [0, 1, 2, 4, 5], [0, 1, 2, 4, 5, 6], [0, 1, 2, 4, 5, 6, 7], [0, 1, 2, 3, 4, 5, 6, 7, 8], [0, 1, 2, 3, 4, 5, 6, 7, 8, 9], [0, 1, 2, 3, 4, 5, 6, 7, 8, 9, 10]]
abbrev DagC_s43_1 : Tab2 := [[1, 2, 3, 4, 5, 6, 7, 8, 9, 10, 11], [2, 3, 4, 5, 6, 7, 8, 9, 10, 11], [3, 4, 5, 6, 7, 8, 9, 10, 11], [9, 10, 11], [5, 6, 7, 8, 9, 10, 11], [6, 7, 8, 9, 10, 11], [7, 8, 9, 10, 11], [8, 9, 10, 11], [9, 10, 11], [10, 11], [11], []]
theorem DagC_hb___collator_dag_Arena__sort : hasBody Try.prog 43 = true := by kernel_rfl
abbrev DagC_p25_1 : Tab2 := [[], [], [0, 1], [0, 1, 2], [0, 1, 2, 3]]
abbrev DagC_s25_1 : Tab2 := [[2, 3, 4], [2, 3, 4], [3, 4], [4], []]
set_option maxRecDepth 100000 in
set_option maxHeartbeats 4000000 in
theorem da_Len {v : Value} {d : ArD} : SpecO Try.prog 12 [.vp (VP.ptr v)] [(v, Arn d)] [] [] (HA.of (VP.int .i64 ((d.terms.length : Nat) : Int))) := by
  refine spec_of 8 Try.func12 rfl Try.ntmps12 rfl fun w0 S0 Z0 Bf => ?_
  refine t_pick [1, 0] rfl ?_
  refine b_part (part_cells (T' := 64) (Rs := [R_sort d.sorts, R_fun d.funs, R_term d.terms, R_int d.of_, R_u64 d.hashes, rowsInt d.table, HA.of (VP.int .i64 d.most)]) 0 rfl) fun u1 => ?_
  refine b_part (part_cells (T' := 64) (Rs := [HA.of (VP.eq u1 true true), R_fun d.funs, R_term d.terms, R_int d.of_, R_u64 d.hashes, rowsInt d.table, HA.of (VP.int .i64 d.most)]) 1 rfl) fun u2 => ?_
  refine b_part (part_cells (T' := 64) (Rs := [HA.of (VP.eq u1 true true), HA.of (VP.eq u2 true true), R_term d.terms, R_int d.of_, R_u64 d.hashes, rowsInt d.table, HA.of (VP.int .i64 d.most)]) 2 rfl) fun u3 => ?_
  refine b_part (part_cells (T' := 64) (Rs := [HA.of (VP.eq u1 true true), HA.of (VP.eq u2 true true), HA.of (VP.eq u3 true true), R_int d.of_, R_u64 d.hashes, rowsInt d.table, HA.of (VP.int .i64 d.most)]) 3 rfl) fun u4 => ?_
  refine b_part (part_cells (T' := 64) (Rs := [HA.of (VP.eq u1 true true), HA.of (VP.eq u2 true true), HA.of (VP.eq u3 true true), HA.of (VP.eq u4 true true), R_u64 d.hashes, rowsInt d.table, HA.of (VP.int .i64 d.most)]) 4 rfl) fun u5 => ?_
  refine b_part (part_cells (T' := 64) (Rs := [HA.of (VP.eq u1 true true), HA.of (VP.eq u2 true true), HA.of (VP.eq u3 true true), HA.of (VP.eq u4 true true), HA.of (VP.eq u5 true true), rowsInt d.table, HA.of (VP.int .i64 d.most)]) 5 rfl) fun u6 => ?_
  refine t_seq ?_
  refine t_rg [.bor (.val v) (ArO u1 u2 u3 u4 u5 u6 d.most), .bor (.val u6) (rowsInt d.table), .bor (.val u5) (R_u64 d.hashes), .bor (.val u4) (R_int d.of_), .bor (.val u3) (R_term d.terms), .bor (.val u2) (R_fun d.funs), .bor (.val u1) (R_sort d.sorts), .is (.tmp 0) (VP.ptr v)] [] [(0, .is (.tmp 2) (VP.int .i64 0))] [] [0, 1, 2, 3, 4, 5, 6, 7] [] [[]] [[]] rfl rfl follow rfl ⟨
    wp rfl (does_move _ (.inr rfl) rfl rfl rfl rfl (ar_const (fun _ _ => rfl))),
    trivial⟩ ?_
  refine nx_then ?_
  refine t_seq ?_
  refine t_rg [.bor (.val v) (ArO u1 u2 u3 u4 u5 u6 d.most), .bor (.val u6) (rowsInt d.table), .bor (.val u5) (R_u64 d.hashes), .bor (.val u4) (R_int d.of_), .bor (.val u3) (R_term d.terms), .bor (.val u2) (R_fun d.funs), .bor (.val u1) (R_sort d.sorts), .is (.tmp 0) (VP.ptr v)] [(5, .is (.tmp 2) (VP.int .i64 0))] [(0, .is (.tmp 3) (VP.ptr v)), (1, .is (.tmp 4) (VP.ptr v)), (2, .pt 5 (.blk (.val v) 2)), (3, .is (.tmp 6) (VP.eq u3 true true)), (4, .is (.tmp 7) (VP.int .i64 ((d.terms.length : Nat) : Int))), (5, .is (.tmp 2) (VP.int .i64 ((d.terms.length : Nat) : Int)))] [] [0, 1, 2, 3, 4, 5, 6, 7] [8] DagC_p12_1 DagC_s12_1 rfl rfl follow rfl ⟨
    wp rfl (does_move _ (.inl rfl) rfl rfl rfl rfl (ar_tmp (av_fs 7 rfl))),
    wp rfl (does_nil _ rfl rfl rfl rfl rfl (ar_tmp (av_rs 0 0 rfl rfl))),
    wp rfl (does_field _ _ _ 2 DagC_f_dag_Arena_2 rfl rfl rfl rfl rfl rfl (pt_ptr (ar_tmp (av_rs 1 1 rfl rfl)))),
    wp rfl (does_loadOne _ DagC_one___api_Term rfl rfl rfl rfl rfl (pt_pt (av_rs 2 2 rfl rfl)) (rds_bbox (off := 2) (av_fs 0 rfl) (hq_one rfl))),
    wp rfl (does_len _ _ (by kernel_rfl) rfl rfl rfl rfl rfl (sl_bor (av_fs 4 rfl) (ar_tmp (av_rs 3 3 rfl rfl)))),
    wp rfl (does_move _ (.inr rfl) rfl rfl rfl rfl (ar_tmp (av_rs 4 4 rfl rfl))),
    trivial⟩ ?_
  refine t_pick [0, 1, 2, 3, 4, 5, 6, 13] rfl ?_
  refine nx_then ?_
  refine t_ret ?_
  exact rt_post [HA.of (VP.int .i64 ((d.terms.length : Nat) : Int))] [[]] [] [] rfl ⟨(rv_vp 7 rfl), trivial⟩ (by decide) rfl rfl

set_option maxRecDepth 100000 in
set_option maxHeartbeats 4000000 in
theorem da_sort {v : Value} {d : ArD} (s : Int) : SpecO Try.prog 43 [.vp (VP.ptr v), .vp (VP.int .i64 s)] [(v, Arn d)] [] [] (HA.of (VP.bool (decide (0 ≤ s ∧ s < d.sorts.length)))) := by
  refine spec_of 16 Try.func43 rfl Try.ntmps43 rfl fun w0 S0 Z0 Bf => ?_
  refine t_pick [2, 0, 1] rfl ?_
  refine b_part (part_cells (T' := 64) (Rs := [R_sort d.sorts, R_fun d.funs, R_term d.terms, R_int d.of_, R_u64 d.hashes, rowsInt d.table, HA.of (VP.int .i64 d.most)]) 0 rfl) fun u1 => ?_
  refine b_part (part_cells (T' := 64) (Rs := [HA.of (VP.eq u1 true true), R_fun d.funs, R_term d.terms, R_int d.of_, R_u64 d.hashes, rowsInt d.table, HA.of (VP.int .i64 d.most)]) 1 rfl) fun u2 => ?_
  refine b_part (part_cells (T' := 64) (Rs := [HA.of (VP.eq u1 true true), HA.of (VP.eq u2 true true), R_term d.terms, R_int d.of_, R_u64 d.hashes, rowsInt d.table, HA.of (VP.int .i64 d.most)]) 2 rfl) fun u3 => ?_
  refine b_part (part_cells (T' := 64) (Rs := [HA.of (VP.eq u1 true true), HA.of (VP.eq u2 true true), HA.of (VP.eq u3 true true), R_int d.of_, R_u64 d.hashes, rowsInt d.table, HA.of (VP.int .i64 d.most)]) 3 rfl) fun u4 => ?_
  refine b_part (part_cells (T' := 64) (Rs := [HA.of (VP.eq u1 true true), HA.of (VP.eq u2 true true), HA.of (VP.eq u3 true true), HA.of (VP.eq u4 true true), R_u64 d.hashes, rowsInt d.table, HA.of (VP.int .i64 d.most)]) 4 rfl) fun u5 => ?_
  refine b_part (part_cells (T' := 64) (Rs := [HA.of (VP.eq u1 true true), HA.of (VP.eq u2 true true), HA.of (VP.eq u3 true true), HA.of (VP.eq u4 true true), HA.of (VP.eq u5 true true), rowsInt d.table, HA.of (VP.int .i64 d.most)]) 5 rfl) fun u6 => ?_
  refine t_seq ?_
  refine t_rg [.bor (.val v) (ArO u1 u2 u3 u4 u5 u6 d.most), .bor (.val u6) (rowsInt d.table), .bor (.val u5) (R_u64 d.hashes), .bor (.val u4) (R_int d.of_), .bor (.val u3) (R_term d.terms), .bor (.val u2) (R_fun d.funs), .bor (.val u1) (R_sort d.sorts), .is (.tmp 0) (VP.ptr v), .is (.tmp 1) (VP.int .i64 s)] [] [(0, .is (.tmp 4) (VP.bool false))] [] [0, 1, 2, 3, 4, 5, 6, 7, 8] [] [[]] [[]] rfl rfl follow rfl ⟨
    wp rfl (does_move _ (.inr rfl) rfl rfl rfl rfl (ar_const (fun _ _ => rfl))),
    trivial⟩ ?_
  refine nx_then ?_
  refine t_seq ?_
  rcases Bool.eq_false_or_eq_true (decide (s ≥ 0)) with hb7 | hb7
  · have hc7 := of_decide_eq_true hb7
    refine t_rg [.bor (.val v) (ArO u1 u2 u3 u4 u5 u6 d.most), .bor (.val u6) (rowsInt d.table), .bor (.val u5) (R_u64 d.hashes), .bor (.val u4) (R_int d.of_), .bor (.val u3) (R_term d.terms), .bor (.val u2) (R_fun d.funs), .bor (.val u1) (R_sort d.sorts), .is (.tmp 0) (VP.ptr v), .is (.tmp 1) (VP.int .i64 s)] [(11, .is (.tmp 4) (VP.bool false))] [(0, .is (.tmp 5) (VP.int .i64 s)), (1, .is (.tmp 6) (VP.bool (decide (s ≥ 0)))), (2, .is (.tmp 7) (VP.bool (decide (s ≥ 0)))), (3, .is (.tmp 8) (VP.int .i64 s)), (4, .is (.tmp 9) (VP.ptr v)), (5, .is (.tmp 10) (VP.ptr v)), (6, .pt 11 (.blk (.val v) 0)), (7, .is (.tmp 12) (VP.eq u1 true true)), (8, .is (.tmp 13) (VP.int .i64 ((d.sorts.length : Nat) : Int))), (9, .is (.tmp 14) (VP.bool (decide (s < ((d.sorts.length : Nat) : Int))))), (10, .is (.tmp 15) (VP.bool (decide (s < ((d.sorts.length : Nat) : Int))))), (11, .is (.tmp 4) (VP.bool (decide (s < ((d.sorts.length : Nat) : Int)))))] [] [0, 1, 2, 3, 4, 5, 6, 7, 8] [9] DagC_p43_1 DagC_s43_1 rfl rfl follow rfl ⟨
      wp rfl (does_move _ (.inl rfl) rfl rfl rfl rfl (ar_tmp (av_fs 8 rfl))),
      wp rfl (does_cmp (m := s) (n := 0) _ _ _ _ _ rfl rfl rfl rfl rfl rfl .i64 (ar_tmp (av_rs 0 0 rfl rfl)) (ar_const (fun _ _ => rfl))),
      wp rfl (does_move _ (.inl rfl) rfl rfl rfl rfl (ar_tmp (av_rs 1 1 rfl rfl))),
      .inl ⟨wants_guard true rfl rfl rfl (av_bool hb7 (av_rs 2 2 rfl rfl)), does_move _ (.inl rfl) rfl rfl rfl rfl (ar_tmp (av_fs 8 rfl))⟩,
      .inl ⟨wants_guard true rfl rfl rfl (av_bool hb7 (av_rs 2 2 rfl rfl)), does_move _ (.inl rfl) rfl rfl rfl rfl (ar_tmp (av_fs 7 rfl))⟩,
      .inl ⟨wants_guard true rfl rfl rfl (av_bool hb7 (av_rs 2 2 rfl rfl)), does_nil _ rfl rfl rfl rfl rfl (ar_tmp (av_rs 4 4 rfl rfl))⟩,
      .inl ⟨wants_guard true rfl rfl rfl (av_bool hb7 (av_rs 2 2 rfl rfl)), does_field _ _ _ 0 DagC_f_dag_Arena_0 rfl rfl rfl rfl rfl rfl (pt_ptr (ar_tmp (av_rs 5 5 rfl rfl)))⟩,
      .inl ⟨wants_guard true rfl rfl rfl (av_bool hb7 (av_rs 2 2 rfl rfl)), does_loadOne _ DagC_one___api_Sort rfl rfl rfl rfl rfl (pt_pt (av_rs 6 6 rfl rfl)) (rds_bbox (off := 0) (av_fs 0 rfl) (hq_one rfl))⟩,
      .inl ⟨wants_guard true rfl rfl rfl (av_bool hb7 (av_rs 2 2 rfl rfl)), does_len _ _ (by kernel_rfl) rfl rfl rfl rfl rfl (sl_bor (av_fs 6 rfl) (ar_tmp (av_rs 7 7 rfl rfl)))⟩,
      .inl ⟨wants_guard true rfl rfl rfl (av_bool hb7 (av_rs 2 2 rfl rfl)), does_cmp (m := s) (n := ((d.sorts.length : Nat) : Int)) _ _ _ _ _ rfl rfl rfl rfl rfl rfl .i64 (ar_tmp (av_rs 3 3 rfl rfl)) (ar_tmp (av_rs 8 8 rfl rfl))⟩,
      wp rfl (does_pick true _ _ _ rfl rfl rfl rfl rfl (ar_tmp (av_bool hb7 (av_rs 2 2 rfl rfl))) (ar_tmp (av_rs 9 9 rfl rfl))),
      wp rfl (does_move _ (.inr rfl) rfl rfl rfl rfl (ar_tmp (av_rs 10 10 rfl rfl))),
      trivial⟩ ?_
    refine t_pick [0, 1, 2, 3, 4, 5, 6, 20] rfl ?_
    refine nx_then ?_
    refine t_ret ?_
    exact rt_post [HA.of (VP.bool (decide (0 ≤ s ∧ s < d.sorts.length)))] [[]] [] [] rfl ⟨(rv_eq (congrArg HA.of (congrArg VP.bool (show (decide (s < ((d.sorts.length : Nat) : Int))) = (decide (0 ≤ s ∧ s < d.sorts.length)) from (by simp only [decide_eq_decide]; omega)))) (rv_vp 7 rfl)), trivial⟩ (by decide) rfl rfl
  · have hc7 := of_decide_eq_false hb7
    refine t_rg [.bor (.val v) (ArO u1 u2 u3 u4 u5 u6 d.most), .bor (.val u6) (rowsInt d.table), .bor (.val u5) (R_u64 d.hashes), .bor (.val u4) (R_int d.of_), .bor (.val u3) (R_term d.terms), .bor (.val u2) (R_fun d.funs), .bor (.val u1) (R_sort d.sorts), .is (.tmp 0) (VP.ptr v), .is (.tmp 1) (VP.int .i64 s)] [(11, .is (.tmp 4) (VP.bool false))] [(0, .is (.tmp 5) (VP.int .i64 s)), (1, .is (.tmp 6) (VP.bool (decide (s ≥ 0)))), (2, .is (.tmp 7) (VP.bool (decide (s ≥ 0)))), (3, .is (.tmp 8) (VP.undef)), (4, .is (.tmp 9) (VP.undef)), (5, .is (.tmp 10) (VP.undef)), (6, .is (.tmp 11) (VP.undef)), (7, .is (.tmp 12) (VP.undef)), (8, .is (.tmp 13) (VP.undef)), (9, .is (.tmp 14) (VP.undef)), (10, .is (.tmp 15) (VP.bool false)), (11, .is (.tmp 4) (VP.bool false))] [] [0, 1, 2, 3, 4, 5, 6, 7, 8] [9] DagC_p43_1 DagC_s43_1 rfl rfl follow rfl ⟨
      wp rfl (does_move _ (.inl rfl) rfl rfl rfl rfl (ar_tmp (av_fs 8 rfl))),
      wp rfl (does_cmp (m := s) (n := 0) _ _ _ _ _ rfl rfl rfl rfl rfl rfl .i64 (ar_tmp (av_rs 0 0 rfl rfl)) (ar_const (fun _ _ => rfl))),
      wp rfl (does_move _ (.inl rfl) rfl rfl rfl rfl (ar_tmp (av_rs 1 1 rfl rfl))),
      .inr (skips_guardU false rfl rfl rfl (av_bool hb7 (av_rs 2 2 rfl rfl)) rfl rfl rfl rfl),
      .inr (skips_guardU false rfl rfl rfl (av_bool hb7 (av_rs 2 2 rfl rfl)) rfl rfl rfl rfl),
      .inr (skips_guardU false rfl rfl rfl (av_bool hb7 (av_rs 2 2 rfl rfl)) rfl rfl rfl rfl),
      .inr (skips_guardU false rfl rfl rfl (av_bool hb7 (av_rs 2 2 rfl rfl)) rfl rfl rfl rfl),
      .inr (skips_guardU false rfl rfl rfl (av_bool hb7 (av_rs 2 2 rfl rfl)) rfl rfl rfl rfl),
      .inr (skips_guardU false rfl rfl rfl (av_bool hb7 (av_rs 2 2 rfl rfl)) rfl rfl rfl rfl),
      .inr (skips_guardU false rfl rfl rfl (av_bool hb7 (av_rs 2 2 rfl rfl)) rfl rfl rfl rfl),
      wp rfl (does_pick false _ _ _ rfl rfl rfl rfl rfl (ar_tmp (av_bool hb7 (av_rs 2 2 rfl rfl))) (ar_const (fun _ _ => rfl))),
      wp rfl (does_move _ (.inr rfl) rfl rfl rfl rfl (ar_tmp (av_rs 10 10 rfl rfl))),
      trivial⟩ ?_
    refine t_pick [0, 1, 2, 3, 4, 5, 6, 20] rfl ?_
    refine nx_then ?_
    refine t_ret ?_
    exact rt_post [HA.of (VP.bool (decide (0 ≤ s ∧ s < d.sorts.length)))] [[]] [] [] rfl ⟨(rv_eq (congrArg HA.of (congrArg VP.bool (show false = (decide (0 ≤ s ∧ s < d.sorts.length)) from (decide_eq_false (by omega)).symm))) (rv_vp 7 rfl)), trivial⟩ (by decide) rfl rfl

set_option maxRecDepth 100000 in
set_option maxHeartbeats 4000000 in
theorem da_lost {v : Value} {d : ArD} (s : Int) : SpecO Try.prog 25 [.vp (VP.ptr v), .vp (VP.int .i64 s)] [(v, Arn d)] [] [] (HA.of (VP.bool (!(decide (0 ≤ s ∧ s < d.sorts.length))))) := by
  refine spec_of 9 Try.func25 rfl Try.ntmps25 rfl fun w0 S0 Z0 Bf => ?_
  refine t_seq ?_
  refine t_rg [.is (.tmp 0) (VP.ptr v), .is (.tmp 1) (VP.int .i64 s), .bor (.val v) (Arn d)] [] [(0, .is (.tmp 4) (VP.bool false))] [] [0, 1, 2] [] [[]] [[]] rfl rfl follow rfl ⟨
    wp rfl (does_move _ (.inr rfl) rfl rfl rfl rfl (ar_const (fun _ _ => rfl))),
    trivial⟩ ?_
  refine nx_then ?_
  refine t_seq ?_
  refine t_rg [.is (.tmp 0) (VP.ptr v), .is (.tmp 1) (VP.int .i64 s), .bor (.val v) (Arn d)] [(4, .is (.tmp 4) (VP.bool false))] [(0, .is (.tmp 5) (VP.ptr v)), (1, .is (.tmp 6) (VP.int .i64 s)), (2, .is (.tmp 7) (VP.bool (decide (0 ≤ s ∧ s < d.sorts.length)))), (3, .is (.tmp 8) (VP.bool (!(decide (0 ≤ s ∧ s < d.sorts.length))))), (4, .is (.tmp 4) (VP.bool (!(decide (0 ≤ s ∧ s < d.sorts.length)))))] [] [0, 1, 2] [3] DagC_p25_1 DagC_s25_1 rfl rfl follow rfl ⟨
    wp rfl (does_move _ (.inl rfl) rfl rfl rfl rfl (ar_tmp (av_fs 0 rfl))),
    wp rfl (does_move _ (.inl rfl) rfl rfl rfl rfl (ar_tmp (av_fs 1 rfl))),
    wp rfl (does_call (da_sort (v := v) (d := d) s) (fun _ _ _ _ h => h) rfl DagC_hb___collator_dag_Arena__sort rfl rfl rfl rfl ar_clo (ars_cons (pa_vp (ar_tmp (av_rs 0 0 rfl rfl))) (ars_cons (pa_vp (ar_tmp (av_rs 1 1 rfl rfl))) ars_nil)) ⟨(brw_bor (av_fs 2 rfl)), trivial⟩),
    wp rfl (does_not (decide (0 ≤ s ∧ s < d.sorts.length)) _ _ rfl rfl rfl rfl rfl (ar_tmp (av_rs 2 2 rfl rfl))),
    wp rfl (does_move _ (.inr rfl) rfl rfl rfl rfl (ar_tmp (av_rs 3 3 rfl rfl))),
    trivial⟩ ?_
  refine t_pick [2, 7] rfl ?_
  refine nx_then ?_
  refine t_ret ?_
  exact rt_post [HA.of (VP.bool (!(decide (0 ≤ s ∧ s < d.sorts.length))))] [[]] [] [] rfl ⟨(rv_vp 1 rfl), trivial⟩ (by decide) rfl rfl

end O
end Go.Proofs.Ytapmngmpomhjmaa

/- The functions of an arena. -/
namespace Go.Proofs.Ytapmngmpomhjmaa
open Go.RowKit
namespace O
theorem DagD_hb_lost : hasBody Try.prog 25 = true := by kernel_rfl
theorem DagD_hb_sort1 : hasBody Try.prog 27 = true := by kernel_rfl

theorem take_snoc {α : Type} {l : List α} {k : Nat} {x : α} (hx : l[k]? = some x) : l.take k ++ [x] = l.take (k + 1) := by rw [List.take_add_one, hx]; rfl
def ArD.lost (d : ArD) (q : List Int) : Bool := q.any fun s => !(decide (0 ≤ s ∧ s < d.sorts.length))
def ArD.at (d : ArD) (n : ByteArray) (q : List Int) : Int := ixf (sortIs n q) d.sorts
def ArD.sortR (d : ArD) (n : ByteArray) (q : List Int) : Int := if d.lost q then 0 else if d.at n q < 0 then d.sorts.length else d.at n q
def ArD.sortE (d : ArD) (q : List Int) : Int := if d.lost q then 2 else 0
def ArD.sort (d : ArD) (n : ByteArray) (q : List Int) : ArD := if d.lost q then d else if d.at n q < 0 then { d with sorts := d.sorts ++ [(⟨n, q⟩ : SortD)] } else d
def ArD.no (d : ArD) (f : FunD) : Bool := d.lost f.args || !(decide (0 ≤ f.res ∧ f.res < d.sorts.length))
def ArD.funR (d : ArD) (f : FunD) : Int := if d.no f then 0 else d.funs.length
def ArD.funE (d : ArD) (f : FunD) : Int := if d.no f then 2 else 0
def ArD.fun_ (d : ArD) (f : FunD) : ArD := if d.no f then d else { d with funs := d.funs ++ [f] }
section
variable {d : ArD} {n : ByteArray} {q : List Int} {f : FunD}
theorem sort_l (h : d.lost q = true) : d.sort n q = d ∧ d.sortR n q = 0 ∧ d.sortE q = 2 := by unfold ArD.sort ArD.sortR ArD.sortE; simp [h]
theorem sort_n (h : d.lost q = false) (h2 : d.at n q < 0) : d.sort n q = { d with sorts := d.sorts ++ [(⟨n, q⟩ : SortD)] } ∧ d.sortR n q = d.sorts.length ∧ d.sortE q = 0 := by unfold ArD.sort ArD.sortR ArD.sortE; simp [h, h2]
theorem sort_o (h : d.lost q = false) (h2 : ¬ d.at n q < 0) : d.sort n q = d ∧ d.sortR n q = d.at n q ∧ d.sortE q = 0 := by unfold ArD.sort ArD.sortR ArD.sortE; simp [h, h2]
theorem no_1 (h : d.lost f.args = true) : d.no f = true := by unfold ArD.no; simp [h]
theorem no_2 (h : d.lost f.args = false) : d.no f = !(decide (0 ≤ f.res ∧ f.res < d.sorts.length)) := by unfold ArD.no; simp [h]
theorem fun_l (h : d.no f = true) : d.fun_ f = d ∧ d.funR f = 0 ∧ d.funE f = 2 := by unfold ArD.fun_ ArD.funR ArD.funE; simp [h]
theorem fun_n (h : d.no f = false) : d.fun_ f = { d with funs := d.funs ++ [f] } ∧ d.funR f = d.funs.length ∧ d.funE f = 0 := by unfold ArD.fun_ ArD.funR ArD.funE; simp [h]
end
theorem da_anyLost {v : Value} {d : ArD} (hv : ∃ g o, v = .pointer (some ⟨g, o, none⟩)) (q : List Int) : SpecO Try.prog 24 [.bo (HA.slc q.length (q.flatMap cInt)), .vp (VP.bnd 25 [v] [])] [(v, Arn d)] [] [] (HA.of (VP.bool (d.lost q))) :=
  spec_unlook Go.undef (dg_AnyInt q 25 [v] [] [VP.ptr v] [] DagD_hb_lost rfl (fun Z w => ⟨⟨rfl, hv⟩, trivial⟩) rfl (fun _ _ => trivial) [(v, Arn d)] (fun s => !(decide (0 ≤ s ∧ s < d.sorts.length))) fun x _ => spec_look _ (da_lost (v := v) (d := d) x))
theorem da_ixSort {c1 c2 v : Value} (h1 : ∃ g o, c1 = .pointer (some ⟨g, o, none⟩)) (h2 : ∃ g o, c2 = .pointer (some ⟨g, o, none⟩)) (l : List SortD) (n : ByteArray) (q : List Int) : SpecO Try.prog 26 [.bo (HA.slc l.length (l.flatMap cSort)), .vp (VP.clo 27 [c1, c2])]
    [(c1, HA.cells 9 [HA.of (VP.str n)]), (c2, HA.cells 28 [HA.of (VP.eq v true true)]), (v, HA.slc q.length (q.flatMap cInt))] [] [] (HA.of (VP.int .i64 (ixf (sortIs n q) l))) :=
  spec_unlook Go.undef (dg_IndexSort l 27 [] [c1, c2] [] [VP.ptr c1, VP.ptr c2] DagD_hb_sort1 rfl (fun Z w => trivial) rfl (fun _ _ => ⟨⟨rfl, h1⟩, ⟨rfl, h2⟩, trivial⟩) _ (sortIs n q) fun x _ => spec_look _ (dg_Sort1 (c1 := c1) (c2 := c2) (v := v) x n q))
theorem DagD_one___int : oneTy Try.prog 28 = true := by kernel_rfl
theorem DagD_hb_slices_ContainsFunc___int_int_ : hasBody Try.prog 24 = true := by kernel_rfl
theorem DagD_f_dag_Arena_0 : fieldAt Try.prog 64 0 0 = true := by kernel_rfl
theorem DagD_one___api_Sort : oneTy Try.prog 53 = true := by kernel_rfl
theorem DagD_hb_slices_IndexFunc___collator_api_Sort_collator_api_Sort_ : hasBody Try.prog 26 = true := by kernel_rfl
abbrev DagD_p10_3 : Tab2 := [[], [0], [0, 1], [0, 1, 2], [], [0, 1, 2, 3, 4], [0, 1, 2, 3, 4, 5]]
abbrev DagD_s10_3 : Tab2 := [[1, 2, 3, 5, 6], [2, 3, 5, 6], [3, 5, 6], [5, 6], [5, 6], [6], []]
abbrev DagD_p10_5 : Tab2 := [[], [0], [0, 1], [0, 1, 2], [0, 1, 2, 3], [0, 1, 2, 3, 4]]
abbrev DagD_s10_5 : Tab2 := [[1, 2, 3, 4, 5], [2, 3, 4, 5], [3, 4, 5], [4, 5], [5], []]
theorem DagD_one_string : oneTy Try.prog 9 = true := by kernel_rfl
theorem DagD_hb_slices_Clone___int_int_ : hasBody Try.prog 29 = true := by kernel_rfl
theorem DagD_zero_api_Sort : zeroOf Try.prog 57 [(.string (ByteArray.mk #[])), (.slice none 0 0)] := by unfold zeroOf; kernel_rfl
theorem DagD_pl_api_Sort : placesOf Try.prog 57 #[(0, 1), (1, 1)] := ⟨_, Try.underlying57, fun w => by kernel_rfl⟩
theorem DagD_el_sort : Elem Try.prog 53 57 (.agg #[.string (ByteArray.mk #[]), .slice none 0 0]) 2 40 := Elem.mk Try.underlying53 (by kernel_rfl) rfl (by decide)
theorem DagD_size___api_Sort : ∀ w, (sizeOf 53).run Try.prog w = .ok 1 w := run_sizeOne DagD_one___api_Sort
abbrev DagD_p10_6 : Tab2 := [[], [], [1], [1, 2], [1, 2, 3], [], [], [6], [5, 6, 7], [5, 6, 7, 8], [1, 2, 3, 4, 5, 6, 7, 8, 9], [0, 1, 2, 3, 4, 5, 6, 7, 8, 9, 10], [0, 1, 2, 3, 4, 5, 6, 7, 8, 9, 10, 11], [0, 1, 2, 3, 4, 5, 6, 7, 8, 9, 10, 11, 12]]
abbrev DagD_s10_6 : Tab2 := [[11, 12, 13], [2, 3, 4, 10, 11, 12, 13], [3, 4, 10, 11, 12, 13], [4, 10, 11, 12, 13], [10, 11, 12, 13], [8, 9, 10, 11, 12, 13], [7, 8, 9, 10, 11, 12, 13], [8, 9, 10, 11, 12, 13], [9, 10, 11, 12, 13], [10, 11, 12, 13], [11, 12, 13], [12, 13], [13], []]
theorem DagD_f_api_Fun_1 : fieldAt Try.prog 38 1 1 = true := by kernel_rfl
abbrev DagD_p11_1 : Tab2 := [[], [0], [], [2], [0, 1, 2, 3], [0, 1, 2, 3, 4], [0, 1, 2, 3, 4, 5], [0, 1, 2, 3, 4, 5], [0, 1, 2, 3, 4, 5, 7], [0, 1, 2, 3, 4, 5, 6, 7, 8], [0, 1, 2, 3, 4, 5, 6, 7, 8, 9]]
abbrev DagD_s11_1 : Tab2 := [[1, 4, 5, 6, 7, 8, 9, 10], [4, 5, 6, 7, 8, 9, 10], [3, 4, 5, 6, 7, 8, 9, 10], [4, 5, 6, 7, 8, 9, 10], [5, 6, 7, 8, 9, 10], [6, 7, 8, 9, 10], [9, 10], [8, 9, 10], [9, 10], [10], []]
theorem DagD_f_api_Fun_2 : fieldAt Try.prog 38 2 2 = true := by kernel_rfl
theorem DagD_one_int : oneTy Try.prog 3 = true := by kernel_rfl
theorem DagD_hb___collator_dag_Arena__lost : hasBody Try.prog 25 = true := by kernel_rfl
theorem DagD_size___int : ∀ w, (sizeOf 28).run Try.prog w = .ok 1 w := run_sizeOne DagD_one___int
abbrev DagD_p11_3 : Tab2 := [[], [0], [0, 1], [0, 1, 2], [0, 1, 2, 3]]
abbrev DagD_s11_3 : Tab2 := [[1, 2, 3, 4], [2, 3, 4], [3, 4], [4], []]
theorem DagD_f_dag_Arena_1 : fieldAt Try.prog 64 1 1 = true := by kernel_rfl
theorem DagD_one___api_Fun : oneTy Try.prog 55 = true := by kernel_rfl
theorem DagD_agg_api_Fun : aggTy Try.prog 38 3 = true := by kernel_rfl
theorem DagD_el_fun : Elem Try.prog 55 38 (.agg #[.string (ByteArray.mk #[]), .slice none 0 0, .int .i64 0]) 3 48 := Elem.mk Try.underlying55 (by kernel_rfl) rfl (by decide)
theorem DagD_size___api_Fun : ∀ w, (sizeOf 55).run Try.prog w = .ok 1 w := run_sizeOne DagD_one___api_Fun
abbrev DagD_p11_4 : Tab2 := [[], [], [1], [1, 2], [1, 2, 3], [], [5], [1, 2, 3, 4, 5, 6], [0, 1, 2, 3, 4, 5, 6, 7], [0, 1, 2, 3, 4, 5, 6, 7, 8], [0, 1, 2, 3, 4, 5, 6, 7, 8, 9]]
abbrev DagD_s11_4 : Tab2 := [[8, 9, 10], [2, 3, 4, 7, 8, 9, 10], [3, 4, 7, 8, 9, 10], [4, 7, 8, 9, 10], [7, 8, 9, 10], [6, 7, 8, 9, 10], [7, 8, 9, 10], [8, 9, 10], [9, 10], [10], []]
abbrev DagD_p11_5 : Tab2 := [[], [0], [0, 1], [0, 1, 2], [0, 1, 2, 3], [0, 1, 2, 3, 4], [0, 1, 2, 3, 4, 5], [0, 1, 2, 3, 4, 5, 6]]
abbrev DagD_s11_5 : Tab2 := [[1, 2, 3, 4, 5, 6, 7], [2, 3, 4, 5, 6, 7], [3, 4, 5, 6, 7], [4, 5, 6, 7], [5, 6, 7], [6, 7], [7], []]
abbrev DagD_p21_1 : Tab2 := [[], [0], [0, 1], [0, 1, 2], [0, 1, 2, 3], []]
abbrev DagD_s21_1 : Tab2 := [[1, 2, 3, 4], [2, 3, 4], [3, 4], [4], [], []]
theorem DagD_agg_api_Sort : aggTy Try.prog 57 2 = true := by kernel_rfl
theorem DagD_size_api_Sort : ∀ w, (sizeOf 57).run Try.prog w = .ok 2 w := run_sizeAgg DagD_agg_api_Sort
theorem DagD_f_api_Sort_0 : fieldAt Try.prog 57 0 0 = true := by kernel_rfl
theorem DagD_f_api_Sort_1 : fieldAt Try.prog 57 1 1 = true := by kernel_rfl
abbrev DagD_p21_4 : Tab2 := [[], [], [1], [], [3], [3, 4], [1, 2, 3, 4, 5], [1, 2, 3, 4, 5, 6], [0, 1, 2, 3, 4, 5, 6, 7], [0, 1, 2, 3, 4, 5, 6, 7, 8]]
abbrev DagD_s21_4 : Tab2 := [[8, 9], [2, 6, 7, 8, 9], [6, 7, 8, 9], [4, 5, 6, 7, 8, 9], [5, 6, 7, 8, 9], [6, 7, 8, 9], [7, 8, 9], [8, 9], [9], []]
set_option maxRecDepth 100000 in
set_option maxHeartbeats 4000000 in
theorem da_Sort {v : Value} {d : ArD} (n : ByteArray) (q : List Int) (hq : q.length ≤ 1000) (hn : d.sorts.length ≤ 1000000) : SpecO Try.prog 10 [.vp (VP.ptr v), .vp (VP.str n), .bo (S_int q)] [] [(v, Arn d)] [(v, Arn (d.sort n q))] (HA.of (VP.tup [VP.int .i64 (d.sortR n q), VP.int .i64 (d.sortE q)])) := by
  refine spec_tup (ps := [VP.int .i64 (d.sortR n q), VP.int .i64 (d.sortE q)]) ?_
  refine spec_of 40 Try.func10 rfl Try.ntmps10 rfl fun w0 S0 Z0 Bf => ?_
  refine t_pick [2, 0, 1, 3] rfl ?_
  refine b_name fun v2 => ?_
  refine t_pick [4, 0, 1, 2, 3] rfl ?_
  refine t_knowP fun hv => ?_
  refine t_seq ?_
  refine t_rg [.own 0 (.val v) (Arn d), .bor (.val v2) (S_int q), .is (.tmp 2) (VP.eq v2 true true), .is (.tmp 0) (VP.ptr v), .is (.tmp 1) (VP.str n)] [] [(0, .own 101 (.tmp 4) (HA.cells 9 [HA.of (VP.str n)])), (1, .own 102 (.tmp 5) (HA.cells 28 [HA.of (VP.eq v2 true true)])), (2, .is (.tmp 6) (VP.int .i64 0)), (3, .is (.tmp 7) (VP.int .i64 0))] [] [0, 1, 2, 3, 4] [] [[], [], [], [2]] [[], [], [3], []] rfl rfl follow rfl ⟨
    wp rfl (does_box (Rs := [HA.of (VP.str n)]) _ rfl rfl rfl rfl rfl rfl (cv_one rfl (mv_vp (ar_tmp (av_fs 4 rfl))))),
    wp rfl (does_box (Rs := [HA.of (VP.eq v2 true true)]) _ rfl rfl rfl rfl rfl rfl (cv_one rfl (mv_vp (ar_tmp (av_fs 2 rfl))))),
    wp rfl (does_move _ (.inr rfl) rfl rfl rfl rfl (ar_const (fun _ _ => rfl))),
    wp rfl (does_move _ (.inr rfl) rfl rfl rfl rfl (ar_const (fun _ _ => rfl))),
    trivial⟩ ?_
  refine t_pick [0, 1, 3, 5, 6, 7, 8] rfl ?_
  refine nx_then ?_
  refine t_pick [3, 0, 1, 2, 4, 5, 6] rfl ?_
  refine t_nameP rfl fun c1 => ?_
  refine t_pick [5, 0, 1, 2, 3, 4, 6, 7] rfl ?_
  refine t_nameP rfl fun c2 => ?_
  refine t_pick [2, 0, 1, 3, 4, 5, 6, 7, 8] rfl ?_
  refine t_knowP fun hc1 => ?_
  refine t_pick [1, 0, 2, 3, 4, 5, 6, 7, 8] rfl ?_
  refine t_knowP fun hc2 => ?_
  refine t_seq ?_
  refine t_seq ?_
  refine t_rg [.own 102 (.val c2) (HA.cells 28 [HA.of (VP.eq v2 true true)]), .own 101 (.val c1) (HA.cells 9 [HA.of (VP.str n)]), .is (.tmp 5) (VP.ptr c2), .is (.tmp 4) (VP.ptr c1), .own 0 (.val v) (Arn d), .bor (.val v2) (S_int q), .is (.tmp 0) (VP.ptr v), .is (.tmp 6) (VP.int .i64 0), .is (.tmp 7) (VP.int .i64 0)] [] [(0, .is (.tmp 9) (VP.eq v2 true true)), (1, .is (.tmp 10) (VP.ptr v)), (2, .is (.tmp 11) (VP.bnd (25) ([v]) ([]))), (3, .is (.tmp 12) (VP.bool (d.lost q)))] [] [0, 1, 2, 3, 4, 5, 6, 7, 8] [] [[], [], [1], [0, 1, 2]] [[3], [2, 3], [3], []] rfl rfl follow rfl ⟨
    wp rfl (does_loadOne _ DagD_one___int rfl rfl rfl rfl rfl (pt_ptr (ar_tmp (av_fs 2 rfl))) (rds_box (off := 0) (av_fs 0 rfl) (hq_one rfl))),
    wp rfl (does_move _ (.inl rfl) rfl rfl rfl rfl (ar_tmp (av_fs 6 rfl))),
    wp rfl (does_makeBnd rfl rfl rfl rfl rfl ⟨(cap_ptr (ar_tmp (av_rs 1 1 rfl rfl))), trivial⟩ trivial),
    wp rfl (does_call (da_anyLost (d := d) hv q) (fun _ _ _ _ h => h) rfl DagD_hb_slices_ContainsFunc___int_int_ rfl rfl rfl rfl ar_clo (ars_cons (pa_bor (av_fs 5 rfl) (ar_tmp (av_rs 0 0 rfl rfl))) (ars_cons (pa_vp (ar_tmp (av_rs 2 2 rfl rfl))) ars_nil)) ⟨(brw_own (av_fs 4 rfl) rfl), trivial⟩),
    trivial⟩ ?_
  refine t_pick [0, 1, 2, 3, 4, 5, 6, 7, 8, 12] rfl ?_
  refine nx_then ?_
  refine t_split 9 rfl (fun hb1 => ?_) (fun hb1 => ?_)
  · refine t_seq ?_
    refine t_rg [.own 102 (.val c2) (HA.cells 28 [HA.of (VP.eq v2 true true)]), .own 101 (.val c1) (HA.cells 9 [HA.of (VP.str n)]), .is (.tmp 5) (VP.ptr c2), .is (.tmp 4) (VP.ptr c1), .own 0 (.val v) (Arn d), .bor (.val v2) (S_int q), .is (.tmp 0) (VP.ptr v), .is (.tmp 12) (VP.bool (d.lost q))] [(0, .is (.tmp 6) (VP.int .i64 0)), (1, .is (.tmp 7) (VP.int .i64 0))] [(0, .is (.tmp 6) (VP.int .i64 0)), (1, .is (.tmp 7) (VP.int .i64 2))] [] [0, 1, 2, 3, 4, 5, 6, 9] [7, 8] [[], [0]] [[1], []] rfl rfl follow rfl ⟨
      wp rfl (does_move _ (.inr rfl) rfl rfl rfl rfl (ar_const (fun _ _ => rfl))),
      wp rfl (does_move _ (.inr rfl) rfl rfl rfl rfl (ar_const (fun _ _ => rfl))),
      trivial⟩ ?_
    refine t_pick [0, 1, 2, 3, 4, 5, 6, 8, 9] rfl ?_
    refine nx_then ?_
    refine t_pick [4, 0, 1, 2, 3, 5, 6, 7, 8] rfl ?_
    refine t_weak (R' := Arn (d.sort n q)) (fun _ _ _ _ h => by rw [(sort_l (n := n) hb1).1]; exact h) rfl ?_
    refine t_ret ?_
    refine rt_then ?_
    exact rt_post [HA.of (VP.int .i64 (d.sortR n q)), HA.of (VP.int .i64 (d.sortE q))] [[], []] [0] [0] rfl ⟨(rv_eq (congrArg HA.of (congrArg (VP.int .i64) (show 0 = (d.sortR n q) from (sort_l (n := n) hb1).2.1.symm))) (rv_vp 7 rfl)), (rv_eq (congrArg HA.of (congrArg (VP.int .i64) (show 2 = (d.sortE q) from (sort_l (n := n) hb1).2.2.symm))) (rv_vp 8 rfl)), trivial⟩ (by decide) rfl rfl
  · refine t_skip ?_
    refine nx_then ?_
    refine t_seq ?_
    refine t_pick [4, 0, 1, 2, 3, 5, 6, 7, 8, 9] rfl ?_
    refine t_part 103 (part_cells (T' := 64) (Rs := [R_sort d.sorts, R_fun d.funs, R_term d.terms, R_int d.of_, R_u64 d.hashes, rowsInt d.table, HA.of (VP.int .i64 d.most)]) 0 rfl) rfl rfl fun us => ?_
    refine t_part 104 (part_cells (T' := 64) (Rs := [HA.of (VP.eq us true true), R_fun d.funs, R_term d.terms, R_int d.of_, R_u64 d.hashes, rowsInt d.table, HA.of (VP.int .i64 d.most)]) 1 rfl) rfl rfl fun uf => ?_
    refine t_part 105 (part_cells (T' := 64) (Rs := [HA.of (VP.eq us true true), HA.of (VP.eq uf true true), R_term d.terms, R_int d.of_, R_u64 d.hashes, rowsInt d.table, HA.of (VP.int .i64 d.most)]) 2 rfl) rfl rfl fun ut => ?_
    refine t_part 106 (part_cells (T' := 64) (Rs := [HA.of (VP.eq us true true), HA.of (VP.eq uf true true), HA.of (VP.eq ut true true), R_int d.of_, R_u64 d.hashes, rowsInt d.table, HA.of (VP.int .i64 d.most)]) 3 rfl) rfl rfl fun uo => ?_
    refine t_part 107 (part_cells (T' := 64) (Rs := [HA.of (VP.eq us true true), HA.of (VP.eq uf true true), HA.of (VP.eq ut true true), HA.of (VP.eq uo true true), R_u64 d.hashes, rowsInt d.table, HA.of (VP.int .i64 d.most)]) 4 rfl) rfl rfl fun uh => ?_
    refine t_part 108 (part_cells (T' := 64) (Rs := [HA.of (VP.eq us true true), HA.of (VP.eq uf true true), HA.of (VP.eq ut true true), HA.of (VP.eq uo true true), HA.of (VP.eq uh true true), rowsInt d.table, HA.of (VP.int .i64 d.most)]) 5 rfl) rfl rfl fun ub => ?_
    refine t_rg [.own 0 (.val v) (ArO us uf ut uo uh ub d.most), .own 108 (.val ub) (rowsInt d.table), .own 107 (.val uh) (R_u64 d.hashes), .own 106 (.val uo) (R_int d.of_), .own 105 (.val ut) (R_term d.terms), .own 104 (.val uf) (R_fun d.funs), .own 103 (.val us) (R_sort d.sorts), .own 102 (.val c2) (HA.cells 28 [HA.of (VP.eq v2 true true)]), .own 101 (.val c1) (HA.cells 9 [HA.of (VP.str n)]), .is (.tmp 5) (VP.ptr c2), .is (.tmp 4) (VP.ptr c1), .bor (.val v2) (S_int q), .is (.tmp 0) (VP.ptr v), .is (.tmp 6) (VP.int .i64 0), .is (.tmp 7) (VP.int .i64 0), .is (.tmp 12) (VP.bool (d.lost q))] [] [(0, .is (.tmp 13) (VP.ptr v)), (1, .is (.tmp 14) (VP.ptr v)), (2, .pt 15 (.blk (.val v) 0)), (3, .is (.tmp 16) (VP.eq us true true)), (4, .is (.tmp 17) (VP.clo 27 [c1, c2])), (5, .is (.tmp 18) (VP.int .i64 (ixf (sortIs n q) d.sorts))), (6, .is (.tmp 8) (VP.int .i64 (ixf (sortIs n q) d.sorts)))] [] [0, 1, 2, 3, 4, 5, 6, 7, 8, 9, 10, 11, 12, 13, 14, 15] [] DagD_p10_3 DagD_s10_3 rfl rfl follow rfl ⟨
      wp rfl (does_move _ (.inl rfl) rfl rfl rfl rfl (ar_tmp (av_fs 12 rfl))),
      wp rfl (does_nil _ rfl rfl rfl rfl rfl (ar_tmp (av_rs 0 0 rfl rfl))),
      wp rfl (does_field _ _ _ 0 DagD_f_dag_Arena_0 rfl rfl rfl rfl rfl rfl (pt_ptr (ar_tmp (av_rs 1 1 rfl rfl)))),
      wp rfl (does_loadOne _ DagD_one___api_Sort rfl rfl rfl rfl rfl (pt_pt (av_rs 2 2 rfl rfl)) (rds_box (off := 0) (av_fs 0 rfl) (hq_one rfl))),
      wp rfl (does_makeFunc rfl rfl rfl rfl rfl ⟨(cap_ptr (ar_tmp (av_fs 10 rfl))), (cap_ptr (ar_tmp (av_fs 9 rfl))), trivial⟩),
      wp rfl (does_call (da_ixSort hc1 hc2 d.sorts n q) (fun _ _ _ _ h => h) rfl DagD_hb_slices_IndexFunc___collator_api_Sort_collator_api_Sort_ rfl rfl rfl rfl ar_clo (ars_cons (pa_slc (pa_own (av_fs 6 rfl) rfl (ar_tmp (av_rs 3 3 rfl rfl))) (flat_nil_iff cSort_len (by decide) _)) (ars_cons (pa_vp (ar_tmp (av_rs 4 4 rfl rfl))) ars_nil)) ⟨(brw_own (av_fs 8 rfl) rfl), (brw_own (av_fs 7 rfl) rfl), (brw_bor (av_fs 11 rfl)), trivial⟩),
      wp rfl (does_move _ (.inr rfl) rfl rfl rfl rfl (ar_tmp (av_rs 5 5 rfl rfl))),
      trivial⟩ ?_
    refine t_pick [0, 1, 2, 3, 4, 5, 6, 7, 8, 9, 10, 11, 12, 13, 14, 22] rfl ?_
    refine nx_then ?_
    refine t_seq ?_
    refine t_seq ?_
    refine t_rg [.own 0 (.val v) (ArO us uf ut uo uh ub d.most), .own 108 (.val ub) (rowsInt d.table), .own 107 (.val uh) (R_u64 d.hashes), .own 106 (.val uo) (R_int d.of_), .own 105 (.val ut) (R_term d.terms), .own 104 (.val uf) (R_fun d.funs), .own 103 (.val us) (R_sort d.sorts), .own 102 (.val c2) (HA.cells 28 [HA.of (VP.eq v2 true true)]), .own 101 (.val c1) (HA.cells 9 [HA.of (VP.str n)]), .is (.tmp 5) (VP.ptr c2), .is (.tmp 4) (VP.ptr c1), .bor (.val v2) (S_int q), .is (.tmp 0) (VP.ptr v), .is (.tmp 6) (VP.int .i64 0), .is (.tmp 7) (VP.int .i64 0), .is (.tmp 8) (VP.int .i64 (ixf (sortIs n q) d.sorts))] [] [(0, .is (.tmp 19) (VP.int .i64 (ixf (sortIs n q) d.sorts))), (1, .is (.tmp 20) (VP.bool (decide ((ixf (sortIs n q) d.sorts) < 0))))] [] [0, 1, 2, 3, 4, 5, 6, 7, 8, 9, 10, 11, 12, 13, 14, 15] [] [[], [0]] [[1], []] rfl rfl follow rfl ⟨
      wp rfl (does_move _ (.inl rfl) rfl rfl rfl rfl (ar_tmp (av_fs 15 rfl))),
      wp rfl (does_cmp (m := (ixf (sortIs n q) d.sorts)) (n := 0) _ _ _ _ _ rfl rfl rfl rfl rfl rfl .i64 (ar_tmp (av_rs 0 0 rfl rfl)) (ar_const (fun _ _ => rfl))),
      trivial⟩ ?_
    refine t_pick [0, 1, 2, 3, 4, 5, 6, 7, 8, 9, 10, 11, 12, 13, 14, 15, 17] rfl ?_
    refine nx_then ?_
    refine t_split 16 rfl (fun hb2 => ?_) (fun hb2 => ?_)
    · have hc2 := of_decide_eq_true hb2
      refine t_seq ?_
      refine t_rg [.own 0 (.val v) (ArO us uf ut uo uh ub d.most), .own 108 (.val ub) (rowsInt d.table), .own 107 (.val uh) (R_u64 d.hashes), .own 106 (.val uo) (R_int d.of_), .own 105 (.val ut) (R_term d.terms), .own 104 (.val uf) (R_fun d.funs), .own 103 (.val us) (R_sort d.sorts), .own 102 (.val c2) (HA.cells 28 [HA.of (VP.eq v2 true true)]), .own 101 (.val c1) (HA.cells 9 [HA.of (VP.str n)]), .is (.tmp 5) (VP.ptr c2), .is (.tmp 4) (VP.ptr c1), .bor (.val v2) (S_int q), .is (.tmp 0) (VP.ptr v), .is (.tmp 6) (VP.int .i64 0), .is (.tmp 7) (VP.int .i64 0), .is (.tmp 20) (VP.bool (decide ((ixf (sortIs n q) d.sorts) < 0)))] [(5, .is (.tmp 8) (VP.int .i64 (ixf (sortIs n q) d.sorts)))] [(0, .is (.tmp 21) (VP.ptr v)), (1, .is (.tmp 22) (VP.ptr v)), (2, .pt 23 (.blk (.val v) 0)), (3, .is (.tmp 24) (VP.eq us true true)), (4, .is (.tmp 25) (VP.int .i64 ((d.sorts.length : Nat) : Int))), (5, .is (.tmp 8) (VP.int .i64 ((d.sorts.length : Nat) : Int)))] [] [0, 1, 2, 3, 4, 5, 6, 7, 8, 9, 10, 11, 12, 13, 14, 16] [15] DagD_p10_5 DagD_s10_5 rfl rfl follow rfl ⟨
        wp rfl (does_move _ (.inl rfl) rfl rfl rfl rfl (ar_tmp (av_fs 12 rfl))),
        wp rfl (does_nil _ rfl rfl rfl rfl rfl (ar_tmp (av_rs 0 0 rfl rfl))),
        wp rfl (does_field _ _ _ 0 DagD_f_dag_Arena_0 rfl rfl rfl rfl rfl rfl (pt_ptr (ar_tmp (av_rs 1 1 rfl rfl)))),
        wp rfl (does_loadOne _ DagD_one___api_Sort rfl rfl rfl rfl rfl (pt_pt (av_rs 2 2 rfl rfl)) (rds_box (off := 0) (av_fs 0 rfl) (hq_one rfl))),
        wp rfl (does_len _ _ (by kernel_rfl) rfl rfl rfl rfl rfl (sl_own (av_fs 6 rfl) (ar_tmp (av_rs 3 3 rfl rfl)))),
        wp rfl (does_move _ (.inr rfl) rfl rfl rfl rfl (ar_tmp (av_rs 4 4 rfl rfl))),
        trivial⟩ ?_
      refine t_pick [0, 1, 2, 3, 4, 5, 6, 7, 8, 9, 10, 11, 12, 13, 14, 21] rfl ?_
      refine nx_then ?_
      refine t_rg [.own 108 (.val ub) (rowsInt d.table), .own 107 (.val uh) (R_u64 d.hashes), .own 106 (.val uo) (R_int d.of_), .own 105 (.val ut) (R_term d.terms), .own 104 (.val uf) (R_fun d.funs), .own 102 (.val c2) (HA.cells 28 [HA.of (VP.eq v2 true true)]), .own 101 (.val c1) (HA.cells 9 [HA.of (VP.str n)]), .is (.tmp 5) (VP.ptr c2), .is (.tmp 4) (VP.ptr c1), .bor (.val v2) (S_int q), .is (.tmp 0) (VP.ptr v), .is (.tmp 6) (VP.int .i64 0), .is (.tmp 7) (VP.int .i64 0), .is (.tmp 8) (VP.int .i64 ((d.sorts.length : Nat) : Int))] [(13, .own 0 (.val v) (ArO us uf ut uo uh ub d.most)), (10, .own 103 (.val us) (R_sort d.sorts))] [(0, .is (.tmp 26) (VP.ptr v)), (1, .is (.tmp 27) (VP.ptr v)), (2, .is (.tmp 28) (VP.ptr v)), (3, .pt 29 (.blk (.val v) 0)), (4, .is (.tmp 30) (VP.eq us true true)), (5, .is (.tmp 31) (VP.str n)), (6, .is (.tmp 32) (VP.eq v2 true true)), (7, .own 109 (.tmp 33) (HA.of (O_int q))), (8, .is (.tmp 34) (VP.agg [VP.str n, O_int q])), (11, .is (.tmp 37) (VP.ptr v)), (12, .pt 38 (.blk (.val v) 0)), (13, .own 0 (.val v) (HA.cells 64 [R_sort (d.sorts ++ [(⟨n, q⟩ : SortD)]), HA.of (VP.eq uf true true), HA.of (VP.eq ut true true), HA.of (VP.eq uo true true), HA.of (VP.eq uh true true), HA.of (VP.eq ub true true), HA.of (VP.int .i64 d.most)]))] [(9, 10, .own 110 (.tmp 35) (R_sort ([(⟨n, q⟩ : SortD)]))), (10, 13, .own 103 (.tmp 36) (R_sort (d.sorts ++ [(⟨n, q⟩ : SortD)])))] [1, 2, 3, 4, 5, 7, 8, 9, 10, 11, 12, 13, 14, 15] [0, 6] DagD_p10_6 DagD_s10_6 rfl rfl follow rfl ⟨
        wp rfl (does_move _ (.inl rfl) rfl rfl rfl rfl (ar_tmp (av_fs 10 rfl))),
        wp rfl (does_move _ (.inl rfl) rfl rfl rfl rfl (ar_tmp (av_fs 10 rfl))),
        wp rfl (does_nil _ rfl rfl rfl rfl rfl (ar_tmp (av_rs 1 1 rfl rfl))),
        wp rfl (does_field _ _ _ 0 DagD_f_dag_Arena_0 rfl rfl rfl rfl rfl rfl (pt_ptr (ar_tmp (av_rs 2 2 rfl rfl)))),
        wp rfl (does_loadOne _ DagD_one___api_Sort rfl rfl rfl rfl rfl (pt_pt (av_rs 3 3 rfl rfl)) (rds_box (off := 0) (av_os 0 13 rfl rfl) (hq_one rfl))),
        wp rfl (does_loadOne _ DagD_one_string rfl rfl rfl rfl rfl (pt_ptr (ar_tmp (av_fs 8 rfl))) (rds_box (off := 0) (av_fs 6 rfl) (hq_one rfl))),
        wp rfl (does_loadOne _ DagD_one___int rfl rfl rfl rfl rfl (pt_ptr (ar_tmp (av_fs 7 rfl))) (rds_box (off := 0) (av_fs 5 rfl) (hq_one rfl))),
        wp rfl (does_callG [] [] [] 109 [0] (dg_CloneInt q (by omega)) rfl DagD_hb_slices_Clone___int_int_ rfl rfl rfl rfl rfl ar_clo (ars_cons (pa_bor (av_fs 9 rfl) (ar_tmp (av_rs 6 6 rfl rfl))) ars_nil) trivial trivial),
        wp rfl (does_build [VP.str (ByteArray.mk #[]), VP.nilS] DagD_zero_api_Sort DagD_pl_api_Sort rfl rfl rfl rfl rfl (fun _ _ => ⟨rfl, rfl, trivial⟩) (.cons 0 [HA.of (VP.str n)] none rfl rfl (cv_one rfl (mv_vp (ar_tmp (av_rs 5 5 rfl rfl)))) (.cons 1 [HA.of (O_int q)] none rfl rfl (cv_one rfl (mv_vp (ar_of (av_rs 7 7 rfl rfl)))) (.nil _)))),
        wp rfl (does_sliceLit (n := 1) DagD_el_sort rfl [VP.str (ByteArray.mk #[]), VP.nilS] (fun _ _ => by rw [show zerosOf (.agg #[.string (ByteArray.mk #[]), .slice none 0 0]) (1 * 2) = [.string (ByteArray.mk #[]), .slice none 0 0] by kernel_rfl]; exact ⟨rfl, rfl, trivial⟩) rfl rfl rfl rfl rfl rfl rfl (.cons 0 [HA.of (VP.str n), HA.of (O_int q)] none rfl rfl (cv_agg (ps := [VP.str n, O_int q]) (ar_tmp (av_rs 8 8 rfl rfl))) (.nil _))),
        wp rfl (does_append (n := d.sorts.length) (m := ([(⟨n, q⟩ : SortD)]).length) DagD_el_sort rfl _ _ rfl rfl rfl rfl rfl (by simp only [List.length_append, List.length_nil, List.length_cons, Nat.zero_add]) (flat_cat d.sorts ([(⟨n, q⟩ : SortD)])) rfl (by constructor <;> first | decide | omega | (simp only [List.length_append, List.length_cons, List.length_nil] at *; omega)) (flat_lenH cSort_len _) (flat_allH (fun _ => rfl) cSort_one _) (flat_allH (fun _ => rfl) cSort_nu _) (mv_ownv (av_os 1 10 rfl rfl) (ar_tmp (av_rs 4 4 rfl rfl))) (src_row (av_ms 0 9 10 rfl rfl rfl))),
        wp rfl (does_nil _ rfl rfl rfl rfl rfl (ar_tmp (av_rs 0 0 rfl rfl))),
        wp rfl (does_field _ _ _ 0 DagD_f_dag_Arena_0 rfl rfl rfl rfl rfl rfl (pt_ptr (ar_tmp (av_rs 9 11 rfl rfl)))),
        wp rfl (does_store (off := 0) (Qs := [R_sort (d.sorts ++ [(⟨n, q⟩ : SortD)])]) _ _ DagD_size___api_Sort rfl rfl rfl rfl rfl rfl (pt_pt (av_rs 10 12 rfl rfl)) (av_os 0 13 rfl rfl) (cv_one rfl (mv_own (av_ms 1 10 13 rfl rfl rfl)))),
        trivial⟩ ?_
      refine t_pick [0, 1, 2, 3, 4, 5, 6, 9, 11, 12, 13, 21, 25] rfl ?_
      refine nx_then ?_
      refine t_pick [0, 1, 2, 3, 4, 5, 6, 7, 8, 9, 10, 12] rfl ?_
      refine t_seq ?_
      refine t_rg [.own 108 (.val ub) (rowsInt d.table), .own 107 (.val uh) (R_u64 d.hashes), .own 106 (.val uo) (R_int d.of_), .own 105 (.val ut) (R_term d.terms), .own 104 (.val uf) (R_fun d.funs), .own 102 (.val c2) (HA.cells 28 [HA.of (VP.eq v2 true true)]), .own 101 (.val c1) (HA.cells 9 [HA.of (VP.str n)]), .bor (.val v2) (S_int q), .is (.tmp 8) (VP.int .i64 ((d.sorts.length : Nat) : Int)), .own 0 (.val v) (HA.cells 64 [R_sort (d.sorts ++ [(⟨n, q⟩ : SortD)]), HA.of (VP.eq uf true true), HA.of (VP.eq ut true true), HA.of (VP.eq uo true true), HA.of (VP.eq uh true true), HA.of (VP.eq ub true true), HA.of (VP.int .i64 d.most)])] [(1, .is (.tmp 6) (VP.int .i64 0)), (2, .is (.tmp 7) (VP.int .i64 0))] [(0, .is (.tmp 39) (VP.int .i64 ((d.sorts.length : Nat) : Int))), (1, .is (.tmp 6) (VP.int .i64 ((d.sorts.length : Nat) : Int))), (2, .is (.tmp 7) (VP.int .i64 0))] [] [0, 1, 2, 3, 4, 5, 6, 7, 10, 11] [8, 9] [[], [0], [0, 1]] [[1, 2], [2], []] rfl rfl follow rfl ⟨
        wp rfl (does_move _ (.inl rfl) rfl rfl rfl rfl (ar_tmp (av_fs 8 rfl))),
        wp rfl (does_move _ (.inr rfl) rfl rfl rfl rfl (ar_tmp (av_rs 0 0 rfl rfl))),
        wp rfl (does_move _ (.inr rfl) rfl rfl rfl rfl (ar_const (fun _ _ => rfl))),
        trivial⟩ ?_
      refine t_pick [0, 1, 2, 3, 4, 5, 6, 7, 9, 11, 12] rfl ?_
      refine nx_then ?_
      refine t_pick [8, 4, 0, 1, 2, 3, 5, 6, 7, 9, 10] rfl ?_
      refine t_whole (whole_cells (T' := 64) (Rs := [R_sort (d.sorts ++ [(⟨n, q⟩ : SortD)]), HA.of (VP.eq uf true true), HA.of (VP.eq ut true true), HA.of (VP.eq uo true true), HA.of (VP.eq uh true true), HA.of (VP.eq ub true true), HA.of (VP.int .i64 d.most)]) (j := 1) (show 1 < 7 by decide)) rfl rfl ?_
      refine t_pick [0, 4, 1, 2, 3, 5, 6, 7, 8, 9] rfl ?_
      refine t_whole (whole_cells (T' := 64) (Rs := [R_sort (d.sorts ++ [(⟨n, q⟩ : SortD)]), R_fun d.funs, HA.of (VP.eq ut true true), HA.of (VP.eq uo true true), HA.of (VP.eq uh true true), HA.of (VP.eq ub true true), HA.of (VP.int .i64 d.most)]) (j := 2) (show 2 < 7 by decide)) rfl rfl ?_
      refine t_pick [0, 3, 1, 2, 4, 5, 6, 7, 8] rfl ?_
      refine t_whole (whole_cells (T' := 64) (Rs := [R_sort (d.sorts ++ [(⟨n, q⟩ : SortD)]), R_fun d.funs, R_term d.terms, HA.of (VP.eq uo true true), HA.of (VP.eq uh true true), HA.of (VP.eq ub true true), HA.of (VP.int .i64 d.most)]) (j := 3) (show 3 < 7 by decide)) rfl rfl ?_
      refine t_pick [0, 2, 1, 3, 4, 5, 6, 7] rfl ?_
      refine t_whole (whole_cells (T' := 64) (Rs := [R_sort (d.sorts ++ [(⟨n, q⟩ : SortD)]), R_fun d.funs, R_term d.terms, R_int d.of_, HA.of (VP.eq uh true true), HA.of (VP.eq ub true true), HA.of (VP.int .i64 d.most)]) (j := 4) (show 4 < 7 by decide)) rfl rfl ?_
      refine t_whole (whole_cells (T' := 64) (Rs := [R_sort (d.sorts ++ [(⟨n, q⟩ : SortD)]), R_fun d.funs, R_term d.terms, R_int d.of_, R_u64 d.hashes, HA.of (VP.eq ub true true), HA.of (VP.int .i64 d.most)]) (j := 5) (show 5 < 7 by decide)) rfl rfl ?_
      refine t_weak (R' := Arn (d.sort n q)) (fun _ _ _ _ h => by rw [(sort_n hb1 (of_decide_eq_true hb2)).1]; exact h) rfl ?_
      refine t_ret ?_
      exact rt_post [HA.of (VP.int .i64 (d.sortR n q)), HA.of (VP.int .i64 (d.sortE q))] [[], []] [0] [0] rfl ⟨(rv_eq (congrArg HA.of (congrArg (VP.int .i64) (show ((d.sorts.length : Nat) : Int) = (d.sortR n q) from (sort_n hb1 (of_decide_eq_true hb2)).2.1.symm))) (rv_vp 4 rfl)), (rv_eq (congrArg HA.of (congrArg (VP.int .i64) (show 0 = (d.sortE q) from (sort_n hb1 (of_decide_eq_true hb2)).2.2.symm))) (rv_vp 5 rfl)), trivial⟩ (by decide) rfl rfl
    · have hc2 := of_decide_eq_false hb2
      refine t_skip ?_
      refine nx_then ?_
      refine t_seq ?_
      refine t_rg [.own 0 (.val v) (ArO us uf ut uo uh ub d.most), .own 108 (.val ub) (rowsInt d.table), .own 107 (.val uh) (R_u64 d.hashes), .own 106 (.val uo) (R_int d.of_), .own 105 (.val ut) (R_term d.terms), .own 104 (.val uf) (R_fun d.funs), .own 103 (.val us) (R_sort d.sorts), .own 102 (.val c2) (HA.cells 28 [HA.of (VP.eq v2 true true)]), .own 101 (.val c1) (HA.cells 9 [HA.of (VP.str n)]), .is (.tmp 5) (VP.ptr c2), .is (.tmp 4) (VP.ptr c1), .bor (.val v2) (S_int q), .is (.tmp 0) (VP.ptr v), .is (.tmp 8) (VP.int .i64 (ixf (sortIs n q) d.sorts)), .is (.tmp 20) (VP.bool (decide ((ixf (sortIs n q) d.sorts) < 0)))] [(1, .is (.tmp 6) (VP.int .i64 0)), (2, .is (.tmp 7) (VP.int .i64 0))] [(0, .is (.tmp 39) (VP.int .i64 (ixf (sortIs n q) d.sorts))), (1, .is (.tmp 6) (VP.int .i64 (ixf (sortIs n q) d.sorts))), (2, .is (.tmp 7) (VP.int .i64 0))] [] [0, 1, 2, 3, 4, 5, 6, 7, 8, 9, 10, 11, 12, 15, 16] [13, 14] [[], [0], [0, 1]] [[1, 2], [2], []] rfl rfl follow rfl ⟨
        wp rfl (does_move _ (.inl rfl) rfl rfl rfl rfl (ar_tmp (av_fs 13 rfl))),
        wp rfl (does_move _ (.inr rfl) rfl rfl rfl rfl (ar_tmp (av_rs 0 0 rfl rfl))),
        wp rfl (does_move _ (.inr rfl) rfl rfl rfl rfl (ar_const (fun _ _ => rfl))),
        trivial⟩ ?_
      refine t_pick [0, 1, 2, 3, 4, 5, 6, 7, 8, 11, 16, 17] rfl ?_
      refine nx_then ?_
      refine t_pick [0, 6, 1, 2, 3, 4, 5, 7, 8, 9, 10, 11] rfl ?_
      refine t_whole (whole_cells (T' := 64) (Rs := [HA.of (VP.eq us true true), HA.of (VP.eq uf true true), HA.of (VP.eq ut true true), HA.of (VP.eq uo true true), HA.of (VP.eq uh true true), HA.of (VP.eq ub true true), HA.of (VP.int .i64 d.most)]) (j := 0) (show 0 < 7 by decide)) rfl rfl ?_
      refine t_pick [0, 5, 1, 2, 3, 4, 6, 7, 8, 9, 10] rfl ?_
      refine t_whole (whole_cells (T' := 64) (Rs := [R_sort d.sorts, HA.of (VP.eq uf true true), HA.of (VP.eq ut true true), HA.of (VP.eq uo true true), HA.of (VP.eq uh true true), HA.of (VP.eq ub true true), HA.of (VP.int .i64 d.most)]) (j := 1) (show 1 < 7 by decide)) rfl rfl ?_
      refine t_pick [0, 4, 1, 2, 3, 5, 6, 7, 8, 9] rfl ?_
      refine t_whole (whole_cells (T' := 64) (Rs := [R_sort d.sorts, R_fun d.funs, HA.of (VP.eq ut true true), HA.of (VP.eq uo true true), HA.of (VP.eq uh true true), HA.of (VP.eq ub true true), HA.of (VP.int .i64 d.most)]) (j := 2) (show 2 < 7 by decide)) rfl rfl ?_
      refine t_pick [0, 3, 1, 2, 4, 5, 6, 7, 8] rfl ?_
      refine t_whole (whole_cells (T' := 64) (Rs := [R_sort d.sorts, R_fun d.funs, R_term d.terms, HA.of (VP.eq uo true true), HA.of (VP.eq uh true true), HA.of (VP.eq ub true true), HA.of (VP.int .i64 d.most)]) (j := 3) (show 3 < 7 by decide)) rfl rfl ?_
      refine t_pick [0, 2, 1, 3, 4, 5, 6, 7] rfl ?_
      refine t_whole (whole_cells (T' := 64) (Rs := [R_sort d.sorts, R_fun d.funs, R_term d.terms, R_int d.of_, HA.of (VP.eq uh true true), HA.of (VP.eq ub true true), HA.of (VP.int .i64 d.most)]) (j := 4) (show 4 < 7 by decide)) rfl rfl ?_
      refine t_whole (whole_cells (T' := 64) (Rs := [R_sort d.sorts, R_fun d.funs, R_term d.terms, R_int d.of_, R_u64 d.hashes, HA.of (VP.eq ub true true), HA.of (VP.int .i64 d.most)]) (j := 5) (show 5 < 7 by decide)) rfl rfl ?_
      refine t_weak (R' := Arn (d.sort n q)) (fun _ _ _ _ h => by rw [(sort_o hb1 (of_decide_eq_false hb2)).1]; exact h) rfl ?_
      refine t_ret ?_
      exact rt_post [HA.of (VP.int .i64 (d.sortR n q)), HA.of (VP.int .i64 (d.sortE q))] [[], []] [0] [0] rfl ⟨(rv_eq (congrArg HA.of (congrArg (VP.int .i64) (show (ixf (sortIs n q) d.sorts) = (d.sortR n q) from (sort_o hb1 (of_decide_eq_false hb2)).2.1.symm))) (rv_vp 4 rfl)), (rv_eq (congrArg HA.of (congrArg (VP.int .i64) (show 0 = (d.sortE q) from (sort_o hb1 (of_decide_eq_false hb2)).2.2.symm))) (rv_vp 5 rfl)), trivial⟩ (by decide) rfl rfl

set_option maxRecDepth 100000 in
set_option maxHeartbeats 4000000 in
theorem da_Fun {v : Value} {d : ArD} (f : FunD) (hq : f.args.length ≤ 1000) (hn : d.funs.length ≤ 1000000) : SpecO Try.prog 11 [.vp (VP.ptr v), .vp (VP.agg [VP.str f.name, O_int f.args, VP.int .i64 f.res])] [] [(v, Arn d)] [(v, Arn (d.fun_ f))] (HA.of (VP.tup [VP.int .i64 (d.funR f), VP.int .i64 (d.funE f)])) := by
  refine spec_tup (ps := [VP.int .i64 (d.funR f), VP.int .i64 (d.funE f)]) ?_
  refine spec_of 37 Try.func11 rfl Try.ntmps11 rfl fun w0 S0 Z0 Bf => ?_
  refine t_pick [2, 0, 1] rfl ?_
  refine t_knowP fun hv => ?_
  refine t_seq ?_
  refine t_rg [.own 0 (.val v) (Arn d), .is (.tmp 0) (VP.ptr v), .is (.tmp 1) (VP.agg [VP.str f.name, O_int f.args, VP.int .i64 f.res])] [] [(0, .own 101 (.tmp 3) (B_fun f)), (1, .is (.tmp 4) (VP.int .i64 0)), (2, .is (.tmp 5) (VP.int .i64 0))] [] [0, 1, 2] [] [[], [], [1]] [[], [2], []] rfl rfl follow rfl ⟨
    wp rfl (does_box (Rs := [HA.of (VP.str f.name), HA.of (O_int f.args), HA.of (VP.int .i64 f.res)]) _ rfl rfl rfl rfl rfl rfl (cv_agg (ps := [VP.str f.name, O_int f.args, VP.int .i64 f.res]) (ar_tmp (av_fs 2 rfl)))),
    wp rfl (does_move _ (.inr rfl) rfl rfl rfl rfl (ar_const (fun _ _ => rfl))),
    wp rfl (does_move _ (.inr rfl) rfl rfl rfl rfl (ar_const (fun _ _ => rfl))),
    trivial⟩ ?_
  refine t_pick [0, 1, 3, 4, 5] rfl ?_
  refine nx_then ?_
  refine t_pick [2, 0, 1, 3, 4] rfl ?_
  refine t_nameP rfl fun c3 => ?_
  refine t_seq ?_
  refine t_seq ?_
  rcases Bool.eq_false_or_eq_true (d.lost f.args) with hb1 | hb1
  · refine t_rg [.own 101 (.val c3) (B_fun f), .is (.tmp 3) (VP.ptr c3), .own 0 (.val v) (Arn d), .is (.tmp 0) (VP.ptr v), .is (.tmp 4) (VP.int .i64 0), .is (.tmp 5) (VP.int .i64 0)] [] [(0, .pt 6 (.blk (.val c3) 1)), (1, .is (.tmp 7) (O_int f.args)), (2, .is (.tmp 8) (VP.ptr v)), (3, .is (.tmp 9) (VP.bnd (25) ([v]) ([]))), (4, .is (.tmp 10) (VP.bool (d.lost f.args))), (5, .is (.tmp 11) (VP.bool (d.lost f.args))), (6, .is (.tmp 12) (VP.undef)), (7, .is (.tmp 13) (VP.undef)), (8, .is (.tmp 14) (VP.undef)), (9, .is (.tmp 15) (VP.undef)), (10, .is (.tmp 16) (VP.bool true))] [] [0, 1, 2, 3, 4, 5] [] DagD_p11_1 DagD_s11_1 rfl rfl follow rfl ⟨
      wp rfl (does_field _ _ _ 1 DagD_f_api_Fun_1 rfl rfl rfl rfl rfl rfl (pt_ptr (ar_tmp (av_fs 1 rfl)))),
      wp rfl (does_loadOne _ DagD_one___int rfl rfl rfl rfl rfl (pt_pt (av_rs 0 0 rfl rfl)) (rds_box (off := 1) (av_fs 0 rfl) (hq_one rfl))),
      wp rfl (does_move _ (.inl rfl) rfl rfl rfl rfl (ar_tmp (av_fs 3 rfl))),
      wp rfl (does_makeBnd rfl rfl rfl rfl rfl ⟨(cap_ptr (ar_tmp (av_rs 2 2 rfl rfl))), trivial⟩ trivial),
      wp rfl (does_call (da_anyLost (d := d) hv f.args) (fun _ _ _ _ h => h) rfl DagD_hb_slices_ContainsFunc___int_int_ rfl rfl rfl rfl ar_clo (ars_cons (pa_slcRo (ar_tmp (av_rs 1 1 rfl rfl)) (flat_nil_iff cInt_len (by decide) _)) (ars_cons (pa_vp (ar_tmp (av_rs 3 3 rfl rfl))) ars_nil)) ⟨(brw_own (av_fs 2 rfl) rfl), trivial⟩),
      wp rfl (does_move _ (.inl rfl) rfl rfl rfl rfl (ar_tmp (av_rs 4 4 rfl rfl))),
      .inr (skips_guardU true rfl rfl rfl (av_bool hb1 (av_rs 5 5 rfl rfl)) rfl rfl rfl rfl),
      .inr (skips_guardU true rfl rfl rfl (av_bool hb1 (av_rs 5 5 rfl rfl)) rfl rfl rfl rfl),
      .inr (skips_guardU true rfl rfl rfl (av_bool hb1 (av_rs 5 5 rfl rfl)) rfl rfl rfl rfl),
      .inr (skips_guardU true rfl rfl rfl (av_bool hb1 (av_rs 5 5 rfl rfl)) rfl rfl rfl rfl),
      wp rfl (does_pick true _ _ _ rfl rfl rfl rfl rfl (ar_tmp (av_bool hb1 (av_rs 5 5 rfl rfl))) (ar_const (fun _ _ => rfl))),
      trivial⟩ ?_
    refine t_pick [0, 1, 2, 3, 4, 5, 16] rfl ?_
    refine nx_then ?_
    refine t_cond_t 6 rfl ?_
    refine t_seq ?_
    refine t_rg [.own 101 (.val c3) (B_fun f), .is (.tmp 3) (VP.ptr c3), .own 0 (.val v) (Arn d), .is (.tmp 0) (VP.ptr v), .is (.tmp 16) (VP.bool true)] [(0, .is (.tmp 4) (VP.int .i64 0)), (1, .is (.tmp 5) (VP.int .i64 0))] [(0, .is (.tmp 4) (VP.int .i64 0)), (1, .is (.tmp 5) (VP.int .i64 2))] [] [0, 1, 2, 3, 6] [4, 5] [[], [0]] [[1], []] rfl rfl follow rfl ⟨
      wp rfl (does_move _ (.inr rfl) rfl rfl rfl rfl (ar_const (fun _ _ => rfl))),
      wp rfl (does_move _ (.inr rfl) rfl rfl rfl rfl (ar_const (fun _ _ => rfl))),
      trivial⟩ ?_
    refine t_pick [0, 1, 2, 3, 5, 6] rfl ?_
    refine nx_then ?_
    refine t_pick [2, 0, 1, 3, 4, 5] rfl ?_
    refine t_weak (R' := Arn (d.fun_ f)) (fun _ _ _ _ h => by rw [(fun_l (no_1 hb1)).1]; exact h) rfl ?_
    refine t_ret ?_
    refine rt_then ?_
    exact rt_post [HA.of (VP.int .i64 (d.funR f)), HA.of (VP.int .i64 (d.funE f))] [[], []] [0] [0] rfl ⟨(rv_eq (congrArg HA.of (congrArg (VP.int .i64) (show 0 = (d.funR f) from (fun_l (no_1 hb1)).2.1.symm))) (rv_vp 4 rfl)), (rv_eq (congrArg HA.of (congrArg (VP.int .i64) (show 2 = (d.funE f) from (fun_l (no_1 hb1)).2.2.symm))) (rv_vp 5 rfl)), trivial⟩ (by decide) rfl rfl
  · refine t_rg [.own 101 (.val c3) (B_fun f), .is (.tmp 3) (VP.ptr c3), .own 0 (.val v) (Arn d), .is (.tmp 0) (VP.ptr v), .is (.tmp 4) (VP.int .i64 0), .is (.tmp 5) (VP.int .i64 0)] [] [(0, .pt 6 (.blk (.val c3) 1)), (1, .is (.tmp 7) (O_int f.args)), (2, .is (.tmp 8) (VP.ptr v)), (3, .is (.tmp 9) (VP.bnd (25) ([v]) ([]))), (4, .is (.tmp 10) (VP.bool (d.lost f.args))), (5, .is (.tmp 11) (VP.bool (d.lost f.args))), (6, .is (.tmp 12) (VP.ptr v)), (7, .pt 13 (.blk (.val c3) 2)), (8, .is (.tmp 14) (VP.int .i64 f.res)), (9, .is (.tmp 15) (VP.bool (!(decide (0 ≤ f.res ∧ f.res < d.sorts.length))))), (10, .is (.tmp 16) (VP.bool (!(decide (0 ≤ f.res ∧ f.res < d.sorts.length)))))] [] [0, 1, 2, 3, 4, 5] [] DagD_p11_1 DagD_s11_1 rfl rfl follow rfl ⟨
      wp rfl (does_field _ _ _ 1 DagD_f_api_Fun_1 rfl rfl rfl rfl rfl rfl (pt_ptr (ar_tmp (av_fs 1 rfl)))),
      wp rfl (does_loadOne _ DagD_one___int rfl rfl rfl rfl rfl (pt_pt (av_rs 0 0 rfl rfl)) (rds_box (off := 1) (av_fs 0 rfl) (hq_one rfl))),
      wp rfl (does_move _ (.inl rfl) rfl rfl rfl rfl (ar_tmp (av_fs 3 rfl))),
      wp rfl (does_makeBnd rfl rfl rfl rfl rfl ⟨(cap_ptr (ar_tmp (av_rs 2 2 rfl rfl))), trivial⟩ trivial),
      wp rfl (does_call (da_anyLost (d := d) hv f.args) (fun _ _ _ _ h => h) rfl DagD_hb_slices_ContainsFunc___int_int_ rfl rfl rfl rfl ar_clo (ars_cons (pa_slcRo (ar_tmp (av_rs 1 1 rfl rfl)) (flat_nil_iff cInt_len (by decide) _)) (ars_cons (pa_vp (ar_tmp (av_rs 3 3 rfl rfl))) ars_nil)) ⟨(brw_own (av_fs 2 rfl) rfl), trivial⟩),
      wp rfl (does_move _ (.inl rfl) rfl rfl rfl rfl (ar_tmp (av_rs 4 4 rfl rfl))),
      .inl ⟨wants_guard false rfl rfl rfl (av_bool hb1 (av_rs 5 5 rfl rfl)), does_move _ (.inl rfl) rfl rfl rfl rfl (ar_tmp (av_fs 3 rfl))⟩,
      .inl ⟨wants_guard false rfl rfl rfl (av_bool hb1 (av_rs 5 5 rfl rfl)), does_field _ _ _ 2 DagD_f_api_Fun_2 rfl rfl rfl rfl rfl rfl (pt_ptr (ar_tmp (av_fs 1 rfl)))⟩,
      .inl ⟨wants_guard false rfl rfl rfl (av_bool hb1 (av_rs 5 5 rfl rfl)), does_loadOne _ DagD_one_int rfl rfl rfl rfl rfl (pt_pt (av_rs 7 7 rfl rfl)) (rds_box (off := 2) (av_fs 0 rfl) (hq_one rfl))⟩,
      .inl ⟨wants_guard false rfl rfl rfl (av_bool hb1 (av_rs 5 5 rfl rfl)), does_call (da_lost (v := v) (d := d) f.res) (fun _ _ _ _ h => h) rfl DagD_hb___collator_dag_Arena__lost rfl rfl rfl rfl ar_clo (ars_cons (pa_vp (ar_tmp (av_rs 6 6 rfl rfl))) (ars_cons (pa_vp (ar_tmp (av_rs 8 8 rfl rfl))) ars_nil)) ⟨(brw_own (av_fs 2 rfl) rfl), trivial⟩⟩,
      wp rfl (does_pick false _ _ _ rfl rfl rfl rfl rfl (ar_tmp (av_bool hb1 (av_rs 5 5 rfl rfl))) (ar_tmp (av_rs 9 9 rfl rfl))),
      trivial⟩ ?_
    refine t_pick [0, 1, 2, 3, 4, 5, 16] rfl ?_
    refine nx_then ?_
    refine t_split 6 rfl (fun hb2 => ?_) (fun hb2 => ?_)
    · refine t_seq ?_
      refine t_rg [.own 101 (.val c3) (B_fun f), .is (.tmp 3) (VP.ptr c3), .own 0 (.val v) (Arn d), .is (.tmp 0) (VP.ptr v), .is (.tmp 16) (VP.bool (!(decide (0 ≤ f.res ∧ f.res < d.sorts.length))))] [(0, .is (.tmp 4) (VP.int .i64 0)), (1, .is (.tmp 5) (VP.int .i64 0))] [(0, .is (.tmp 4) (VP.int .i64 0)), (1, .is (.tmp 5) (VP.int .i64 2))] [] [0, 1, 2, 3, 6] [4, 5] [[], [0]] [[1], []] rfl rfl follow rfl ⟨
        wp rfl (does_move _ (.inr rfl) rfl rfl rfl rfl (ar_const (fun _ _ => rfl))),
        wp rfl (does_move _ (.inr rfl) rfl rfl rfl rfl (ar_const (fun _ _ => rfl))),
        trivial⟩ ?_
      refine t_pick [0, 1, 2, 3, 5, 6] rfl ?_
      refine nx_then ?_
      refine t_pick [2, 0, 1, 3, 4, 5] rfl ?_
      refine t_weak (R' := Arn (d.fun_ f)) (fun _ _ _ _ h => by rw [(fun_l ((no_2 hb1).trans hb2)).1]; exact h) rfl ?_
      refine t_ret ?_
      refine rt_then ?_
      exact rt_post [HA.of (VP.int .i64 (d.funR f)), HA.of (VP.int .i64 (d.funE f))] [[], []] [0] [0] rfl ⟨(rv_eq (congrArg HA.of (congrArg (VP.int .i64) (show 0 = (d.funR f) from (fun_l ((no_2 hb1).trans hb2)).2.1.symm))) (rv_vp 4 rfl)), (rv_eq (congrArg HA.of (congrArg (VP.int .i64) (show 2 = (d.funE f) from (fun_l ((no_2 hb1).trans hb2)).2.2.symm))) (rv_vp 5 rfl)), trivial⟩ (by decide) rfl rfl
    · refine t_skip ?_
      refine nx_then ?_
      refine t_seq ?_
      refine t_pick [2, 0, 1, 3, 4, 5, 6] rfl ?_
      refine t_part 102 (part_cells (T' := 64) (Rs := [R_sort d.sorts, R_fun d.funs, R_term d.terms, R_int d.of_, R_u64 d.hashes, rowsInt d.table, HA.of (VP.int .i64 d.most)]) 0 rfl) rfl rfl fun us => ?_
      refine t_part 103 (part_cells (T' := 64) (Rs := [HA.of (VP.eq us true true), R_fun d.funs, R_term d.terms, R_int d.of_, R_u64 d.hashes, rowsInt d.table, HA.of (VP.int .i64 d.most)]) 1 rfl) rfl rfl fun uf => ?_
      refine t_part 104 (part_cells (T' := 64) (Rs := [HA.of (VP.eq us true true), HA.of (VP.eq uf true true), R_term d.terms, R_int d.of_, R_u64 d.hashes, rowsInt d.table, HA.of (VP.int .i64 d.most)]) 2 rfl) rfl rfl fun ut => ?_
      refine t_part 105 (part_cells (T' := 64) (Rs := [HA.of (VP.eq us true true), HA.of (VP.eq uf true true), HA.of (VP.eq ut true true), R_int d.of_, R_u64 d.hashes, rowsInt d.table, HA.of (VP.int .i64 d.most)]) 3 rfl) rfl rfl fun uo => ?_
      refine t_part 106 (part_cells (T' := 64) (Rs := [HA.of (VP.eq us true true), HA.of (VP.eq uf true true), HA.of (VP.eq ut true true), HA.of (VP.eq uo true true), R_u64 d.hashes, rowsInt d.table, HA.of (VP.int .i64 d.most)]) 4 rfl) rfl rfl fun uh => ?_
      refine t_part 107 (part_cells (T' := 64) (Rs := [HA.of (VP.eq us true true), HA.of (VP.eq uf true true), HA.of (VP.eq ut true true), HA.of (VP.eq uo true true), HA.of (VP.eq uh true true), rowsInt d.table, HA.of (VP.int .i64 d.most)]) 5 rfl) rfl rfl fun ub => ?_
      refine t_rg [.own 0 (.val v) (ArO us uf ut uo uh ub d.most), .own 107 (.val ub) (rowsInt d.table), .own 106 (.val uh) (R_u64 d.hashes), .own 105 (.val uo) (R_int d.of_), .own 104 (.val ut) (R_term d.terms), .own 103 (.val uf) (R_fun d.funs), .own 102 (.val us) (R_sort d.sorts), .is (.tmp 3) (VP.ptr c3), .is (.tmp 0) (VP.ptr v), .is (.tmp 4) (VP.int .i64 0), .is (.tmp 5) (VP.int .i64 0), .is (.tmp 16) (VP.bool (!(decide (0 ≤ f.res ∧ f.res < d.sorts.length))))] [(4, .own 101 (.val c3) (B_fun f))] [(0, .pt 17 (.blk (.val c3) 1)), (1, .is (.tmp 18) (O_int f.args)), (2, .own 108 (.tmp 19) (HA.of (O_int f.args))), (3, .pt 20 (.blk (.val c3) 1)), (4, .own 101 (.val c3) (B_fun f))] [] [0, 1, 2, 3, 4, 5, 6, 8, 9, 10, 11, 12] [7] DagD_p11_3 DagD_s11_3 rfl rfl follow rfl ⟨
        wp rfl (does_field _ _ _ 1 DagD_f_api_Fun_1 rfl rfl rfl rfl rfl rfl (pt_ptr (ar_tmp (av_fs 7 rfl)))),
        wp rfl (does_loadOne _ DagD_one___int rfl rfl rfl rfl rfl (pt_pt (av_rs 0 0 rfl rfl)) (rds_box (off := 1) (av_os 0 4 rfl rfl) (hq_one rfl))),
        wp rfl (does_callG [] [] [] 108 [0] (dg_CloneInt f.args (by omega)) rfl DagD_hb_slices_Clone___int_int_ rfl rfl rfl rfl rfl ar_clo (ars_cons (pa_slcRo (ar_tmp (av_rs 1 1 rfl rfl)) (flat_nil_iff cInt_len (by decide) _)) ars_nil) trivial trivial),
        wp rfl (does_field _ _ _ 1 DagD_f_api_Fun_1 rfl rfl rfl rfl rfl rfl (pt_ptr (ar_tmp (av_fs 7 rfl)))),
        wp rfl (does_store (off := 1) (Qs := [HA.of (O_int f.args)]) _ _ DagD_size___int rfl rfl rfl rfl rfl rfl (pt_pt (av_rs 3 3 rfl rfl)) (av_os 0 4 rfl rfl) (cv_one rfl (mv_vp (ar_of (av_rs 2 2 rfl rfl))))),
        trivial⟩ ?_
      refine t_pick [0, 1, 2, 3, 4, 5, 6, 7, 8, 9, 10, 14, 16] rfl ?_
      refine nx_then ?_
      refine t_pick [0, 1, 2, 3, 4, 5, 6, 7, 8, 9, 10, 12] rfl ?_
      refine t_seq ?_
      refine t_rg [.own 107 (.val ub) (rowsInt d.table), .own 106 (.val uh) (R_u64 d.hashes), .own 105 (.val uo) (R_int d.of_), .own 104 (.val ut) (R_term d.terms), .own 102 (.val us) (R_sort d.sorts), .is (.tmp 3) (VP.ptr c3), .is (.tmp 0) (VP.ptr v), .is (.tmp 4) (VP.int .i64 0), .is (.tmp 5) (VP.int .i64 0), .own 101 (.val c3) (B_fun f)] [(10, .own 0 (.val v) (ArO us uf ut uo uh ub d.most)), (7, .own 103 (.val uf) (R_fun d.funs))] [(0, .is (.tmp 21) (VP.ptr v)), (1, .is (.tmp 22) (VP.ptr v)), (2, .is (.tmp 23) (VP.ptr v)), (3, .pt 24 (.blk (.val v) 1)), (4, .is (.tmp 25) (VP.eq uf true true)), (5, .is (.tmp 26) (VP.agg [VP.str f.name, O_int f.args, VP.int .i64 f.res])), (8, .is (.tmp 29) (VP.ptr v)), (9, .pt 30 (.blk (.val v) 1)), (10, .own 0 (.val v) (HA.cells 64 [HA.of (VP.eq us true true), R_fun (d.funs ++ [f]), HA.of (VP.eq ut true true), HA.of (VP.eq uo true true), HA.of (VP.eq uh true true), HA.of (VP.eq ub true true), HA.of (VP.int .i64 d.most)]))] [(6, 7, .own 109 (.tmp 27) (R_fun ([f]))), (7, 10, .own 103 (.tmp 28) (R_fun (d.funs ++ [f])))] [1, 2, 3, 4, 6, 7, 8, 9, 10, 11] [0, 5] DagD_p11_4 DagD_s11_4 rfl rfl follow rfl ⟨
        wp rfl (does_move _ (.inl rfl) rfl rfl rfl rfl (ar_tmp (av_fs 6 rfl))),
        wp rfl (does_move _ (.inl rfl) rfl rfl rfl rfl (ar_tmp (av_fs 6 rfl))),
        wp rfl (does_nil _ rfl rfl rfl rfl rfl (ar_tmp (av_rs 1 1 rfl rfl))),
        wp rfl (does_field _ _ _ 1 DagD_f_dag_Arena_1 rfl rfl rfl rfl rfl rfl (pt_ptr (ar_tmp (av_rs 2 2 rfl rfl)))),
        wp rfl (does_loadOne _ DagD_one___api_Fun rfl rfl rfl rfl rfl (pt_pt (av_rs 3 3 rfl rfl)) (rds_box (off := 1) (av_os 0 10 rfl rfl) (hq_one rfl))),
        wp rfl (does_loadAgg (ps := [VP.str f.name, O_int f.args, VP.int .i64 f.res]) _ DagD_agg_api_Fun rfl rfl rfl rfl rfl (pt_ptr (ar_tmp (av_fs 5 rfl))) (rds_box (off := 0) (av_fs 9 rfl) (hq_many (n := 3) rfl))),
        wp rfl (does_sliceLit (n := 1) DagD_el_fun rfl [VP.str (ByteArray.mk #[]), VP.nilS, VP.int .i64 0] (fun _ _ => by rw [show zerosOf (.agg #[.string (ByteArray.mk #[]), .slice none 0 0, .int .i64 0]) (1 * 3) = [.string (ByteArray.mk #[]), .slice none 0 0, .int .i64 0] by kernel_rfl]; exact ⟨rfl, rfl, rfl, trivial⟩) rfl rfl rfl rfl rfl rfl rfl (.cons 0 [HA.of (VP.str f.name), HA.of (O_int f.args), HA.of (VP.int .i64 f.res)] none rfl rfl (cv_agg (ps := [VP.str f.name, O_int f.args, VP.int .i64 f.res]) (ar_tmp (av_rs 5 5 rfl rfl))) (.nil _))),
        wp rfl (does_append (n := d.funs.length) (m := ([f]).length) DagD_el_fun rfl _ _ rfl rfl rfl rfl rfl (by simp only [List.length_append, List.length_nil, List.length_cons, Nat.zero_add]) (flat_cat d.funs ([f])) rfl (by constructor <;> first | decide | omega | (simp only [List.length_append, List.length_cons, List.length_nil] at *; omega)) (flat_lenH cFun_len _) (flat_allH (fun _ => rfl) cFun_one _) (flat_allH (fun _ => rfl) cFun_nu _) (mv_ownv (av_os 1 7 rfl rfl) (ar_tmp (av_rs 4 4 rfl rfl))) (src_row (av_ms 0 6 7 rfl rfl rfl))),
        wp rfl (does_nil _ rfl rfl rfl rfl rfl (ar_tmp (av_rs 0 0 rfl rfl))),
        wp rfl (does_field _ _ _ 1 DagD_f_dag_Arena_1 rfl rfl rfl rfl rfl rfl (pt_ptr (ar_tmp (av_rs 6 8 rfl rfl)))),
        wp rfl (does_store (off := 1) (Qs := [R_fun (d.funs ++ [f])]) _ _ DagD_size___api_Fun rfl rfl rfl rfl rfl rfl (pt_pt (av_rs 7 9 rfl rfl)) (av_os 0 10 rfl rfl) (cv_one rfl (mv_own (av_ms 1 7 10 rfl rfl rfl)))),
        trivial⟩ ?_
      refine t_pick [0, 1, 2, 3, 4, 6, 7, 8, 9, 18] rfl ?_
      refine nx_then ?_
      refine t_seq ?_
      refine t_pick [9, 0, 1, 2, 3, 4, 5, 6, 7, 8] rfl ?_
      refine t_part 110 (part_cells (T' := 64) (Rs := [HA.of (VP.eq us true true), R_fun (d.funs ++ [f]), HA.of (VP.eq ut true true), HA.of (VP.eq uo true true), HA.of (VP.eq uh true true), HA.of (VP.eq ub true true), HA.of (VP.int .i64 d.most)]) 1 rfl) rfl rfl fun uf2 => ?_
      have hl1 : (d.funs ++ [f]).length = d.funs.length + 1 := by simp
      refine t_rg [.own 0 (.val v) (ArO us uf2 ut uo uh ub d.most), .own 110 (.val uf2) (R_fun (d.funs ++ [f])), .own 107 (.val ub) (rowsInt d.table), .own 106 (.val uh) (R_u64 d.hashes), .own 105 (.val uo) (R_int d.of_), .own 104 (.val ut) (R_term d.terms), .own 102 (.val us) (R_sort d.sorts), .is (.tmp 0) (VP.ptr v), .own 101 (.val c3) (B_fun f)] [(6, .is (.tmp 4) (VP.int .i64 0)), (7, .is (.tmp 5) (VP.int .i64 0))] [(0, .is (.tmp 31) (VP.ptr v)), (1, .is (.tmp 32) (VP.ptr v)), (2, .pt 33 (.blk (.val v) 1)), (3, .is (.tmp 34) (VP.eq uf2 true true)), (4, .is (.tmp 35) (VP.int .i64 (((d.funs ++ [f]).length : Nat) : Int))), (5, .is (.tmp 36) (VP.int .i64 ((((d.funs ++ [f]).length : Nat) : Int) - 1))), (6, .is (.tmp 4) (VP.int .i64 ((((d.funs ++ [f]).length : Nat) : Int) - 1))), (7, .is (.tmp 5) (VP.int .i64 0))] [] [0, 1, 2, 3, 4, 5, 6, 7, 10] [8, 9] DagD_p11_5 DagD_s11_5 rfl rfl follow rfl ⟨
        wp rfl (does_move _ (.inl rfl) rfl rfl rfl rfl (ar_tmp (av_fs 7 rfl))),
        wp rfl (does_nil _ rfl rfl rfl rfl rfl (ar_tmp (av_rs 0 0 rfl rfl))),
        wp rfl (does_field _ _ _ 1 DagD_f_dag_Arena_1 rfl rfl rfl rfl rfl rfl (pt_ptr (ar_tmp (av_rs 1 1 rfl rfl)))),
        wp rfl (does_loadOne _ DagD_one___api_Fun rfl rfl rfl rfl rfl (pt_pt (av_rs 2 2 rfl rfl)) (rds_box (off := 1) (av_fs 0 rfl) (hq_one rfl))),
        wp rfl (does_len _ _ (by kernel_rfl) rfl rfl rfl rfl rfl (sl_own (av_fs 1 rfl) (ar_tmp (av_rs 3 3 rfl rfl)))),
        wp rfl (does_subE (m := (((d.funs ++ [f]).length : Nat) : Int)) (n := 1) (x := ((((d.funs ++ [f]).length : Nat) : Int) - 1)) (by omega) _ _ _ _ rfl rfl rfl rfl rfl (by omega) (ar_tmp (av_rs 4 4 rfl rfl)) (ar_const (fun _ _ => rfl))),
        wp rfl (does_move _ (.inr rfl) rfl rfl rfl rfl (ar_tmp (av_rs 5 5 rfl rfl))),
        wp rfl (does_move _ (.inr rfl) rfl rfl rfl rfl (ar_const (fun _ _ => rfl))),
        trivial⟩ ?_
      refine t_pick [0, 1, 2, 3, 4, 5, 6, 8, 15, 16] rfl ?_
      refine nx_then ?_
      refine t_pick [0, 6, 1, 2, 3, 4, 5, 7, 8, 9] rfl ?_
      refine t_whole (whole_cells (T' := 64) (Rs := [HA.of (VP.eq us true true), HA.of (VP.eq uf2 true true), HA.of (VP.eq ut true true), HA.of (VP.eq uo true true), HA.of (VP.eq uh true true), HA.of (VP.eq ub true true), HA.of (VP.int .i64 d.most)]) (j := 0) (show 0 < 7 by decide)) rfl rfl ?_
      refine t_whole (whole_cells (T' := 64) (Rs := [R_sort d.sorts, HA.of (VP.eq uf2 true true), HA.of (VP.eq ut true true), HA.of (VP.eq uo true true), HA.of (VP.eq uh true true), HA.of (VP.eq ub true true), HA.of (VP.int .i64 d.most)]) (j := 1) (show 1 < 7 by decide)) rfl rfl ?_
      refine t_pick [0, 4, 1, 2, 3, 5, 6, 7] rfl ?_
      refine t_whole (whole_cells (T' := 64) (Rs := [R_sort d.sorts, R_fun (d.funs ++ [f]), HA.of (VP.eq ut true true), HA.of (VP.eq uo true true), HA.of (VP.eq uh true true), HA.of (VP.eq ub true true), HA.of (VP.int .i64 d.most)]) (j := 2) (show 2 < 7 by decide)) rfl rfl ?_
      refine t_pick [0, 3, 1, 2, 4, 5, 6] rfl ?_
      refine t_whole (whole_cells (T' := 64) (Rs := [R_sort d.sorts, R_fun (d.funs ++ [f]), R_term d.terms, HA.of (VP.eq uo true true), HA.of (VP.eq uh true true), HA.of (VP.eq ub true true), HA.of (VP.int .i64 d.most)]) (j := 3) (show 3 < 7 by decide)) rfl rfl ?_
      refine t_pick [0, 2, 1, 3, 4, 5] rfl ?_
      refine t_whole (whole_cells (T' := 64) (Rs := [R_sort d.sorts, R_fun (d.funs ++ [f]), R_term d.terms, R_int d.of_, HA.of (VP.eq uh true true), HA.of (VP.eq ub true true), HA.of (VP.int .i64 d.most)]) (j := 4) (show 4 < 7 by decide)) rfl rfl ?_
      refine t_whole (whole_cells (T' := 64) (Rs := [R_sort d.sorts, R_fun (d.funs ++ [f]), R_term d.terms, R_int d.of_, R_u64 d.hashes, HA.of (VP.eq ub true true), HA.of (VP.int .i64 d.most)]) (j := 5) (show 5 < 7 by decide)) rfl rfl ?_
      refine t_weak (R' := Arn (d.fun_ f)) (fun _ _ _ _ h => by rw [(fun_n ((no_2 hb1).trans hb2)).1]; exact h) rfl ?_
      refine t_ret ?_
      exact rt_post [HA.of (VP.int .i64 (d.funR f)), HA.of (VP.int .i64 (d.funE f))] [[], []] [0] [0] rfl ⟨(rv_eq (congrArg HA.of (congrArg (VP.int .i64) (show ((((d.funs ++ [f]).length : Nat) : Int) - 1) = (d.funR f) by rw [(fun_n ((no_2 hb1).trans hb2)).2.1]; simp only [List.length_append, List.length_cons, List.length_nil]; omega))) (rv_vp 2 rfl)), (rv_eq (congrArg HA.of (congrArg (VP.int .i64) (show 0 = (d.funE f) from (fun_n ((no_2 hb1).trans hb2)).2.2.symm))) (rv_vp 3 rfl)), trivial⟩ (by decide) rfl rfl

set_option maxRecDepth 100000 in
set_option maxHeartbeats 4000000 in
theorem da_Sorts {v : Value} {d : ArD} (hn : d.sorts.length ≤ 1000000) (hz : ∀ x ∈ d.sorts, x.args.length ≤ 1000) : SpecO Try.prog 21 [.vp (VP.ptr v)] [(v, Arn d)] [] [] (R_sort d.sorts) := by
  refine spec_of 25 Try.func21 rfl Try.ntmps21 rfl fun w0 S0 Z0 Bf => ?_
  refine t_pick [1, 0] rfl ?_
  refine b_part (part_cells (T' := 64) (Rs := [R_sort d.sorts, R_fun d.funs, R_term d.terms, R_int d.of_, R_u64 d.hashes, rowsInt d.table, HA.of (VP.int .i64 d.most)]) 0 rfl) fun us => ?_
  refine b_part (part_cells (T' := 64) (Rs := [HA.of (VP.eq us true true), R_fun d.funs, R_term d.terms, R_int d.of_, R_u64 d.hashes, rowsInt d.table, HA.of (VP.int .i64 d.most)]) 1 rfl) fun uf => ?_
  refine b_part (part_cells (T' := 64) (Rs := [HA.of (VP.eq us true true), HA.of (VP.eq uf true true), R_term d.terms, R_int d.of_, R_u64 d.hashes, rowsInt d.table, HA.of (VP.int .i64 d.most)]) 2 rfl) fun ut => ?_
  refine b_part (part_cells (T' := 64) (Rs := [HA.of (VP.eq us true true), HA.of (VP.eq uf true true), HA.of (VP.eq ut true true), R_int d.of_, R_u64 d.hashes, rowsInt d.table, HA.of (VP.int .i64 d.most)]) 3 rfl) fun uo => ?_
  refine b_part (part_cells (T' := 64) (Rs := [HA.of (VP.eq us true true), HA.of (VP.eq uf true true), HA.of (VP.eq ut true true), HA.of (VP.eq uo true true), R_u64 d.hashes, rowsInt d.table, HA.of (VP.int .i64 d.most)]) 4 rfl) fun uh => ?_
  refine b_part (part_cells (T' := 64) (Rs := [HA.of (VP.eq us true true), HA.of (VP.eq uf true true), HA.of (VP.eq ut true true), HA.of (VP.eq uo true true), HA.of (VP.eq uh true true), rowsInt d.table, HA.of (VP.int .i64 d.most)]) 5 rfl) fun ub => ?_
  refine t_seq ?_
  refine t_rg [.bor (.val v) (ArO us uf ut uo uh ub d.most), .bor (.val ub) (rowsInt d.table), .bor (.val uh) (R_u64 d.hashes), .bor (.val uo) (R_int d.of_), .bor (.val ut) (R_term d.terms), .bor (.val uf) (R_fun d.funs), .bor (.val us) (R_sort d.sorts), .is (.tmp 0) (VP.ptr v)] [] [(0, .is (.tmp 2) (VP.nilS))] [] [0, 1, 2, 3, 4, 5, 6, 7] [] [[]] [[]] rfl rfl follow rfl ⟨
    wp rfl (does_move _ (.inr rfl) rfl rfl rfl rfl (ar_const (fun _ _ => rfl))),
    trivial⟩ ?_
  refine nx_then ?_
  refine t_seq ?_
  refine t_seq ?_
  refine t_rg [.bor (.val v) (ArO us uf ut uo uh ub d.most), .bor (.val ub) (rowsInt d.table), .bor (.val uh) (R_u64 d.hashes), .bor (.val uo) (R_int d.of_), .bor (.val ut) (R_term d.terms), .bor (.val uf) (R_fun d.funs), .bor (.val us) (R_sort d.sorts), .is (.tmp 0) (VP.ptr v), .is (.tmp 2) (VP.nilS)] [] [(0, .is (.tmp 5) (VP.ptr v)), (1, .is (.tmp 6) (VP.ptr v)), (2, .pt 7 (.blk (.val v) 0)), (3, .is (.tmp 8) (VP.eq us true true)), (4, .is (.tmp 9) (VP.int .i64 ((d.sorts.length : Nat) : Int))), (5, .is (.tmp 10) (VP.int .i64 0))] [] [0, 1, 2, 3, 4, 5, 6, 7, 8] [] DagD_p21_1 DagD_s21_1 rfl rfl follow rfl ⟨
    wp rfl (does_move _ (.inl rfl) rfl rfl rfl rfl (ar_tmp (av_fs 7 rfl))),
    wp rfl (does_nil _ rfl rfl rfl rfl rfl (ar_tmp (av_rs 0 0 rfl rfl))),
    wp rfl (does_field _ _ _ 0 DagD_f_dag_Arena_0 rfl rfl rfl rfl rfl rfl (pt_ptr (ar_tmp (av_rs 1 1 rfl rfl)))),
    wp rfl (does_loadOne _ DagD_one___api_Sort rfl rfl rfl rfl rfl (pt_pt (av_rs 2 2 rfl rfl)) (rds_bbox (off := 0) (av_fs 0 rfl) (hq_one rfl))),
    wp rfl (does_len _ _ (by kernel_rfl) rfl rfl rfl rfl rfl (sl_bor (av_fs 6 rfl) (ar_tmp (av_rs 3 3 rfl rfl)))),
    wp rfl (does_move _ (.inl rfl) rfl rfl rfl rfl (ar_const (fun _ _ => rfl))),
    trivial⟩ ?_
  refine t_pick [0, 1, 2, 3, 4, 5, 6, 8, 12, 13, 14] rfl ?_
  refine nx_then ?_
  refine t_block ?_
  refine t_pick [7, 0, 1, 2, 3, 4, 5, 6, 8, 9, 10] rfl ?_
  refine t_nilRow (id := 7777) (E := 57) (sz := 2) rfl ?_
  refine t_pick [10, 0, 1, 2, 3, 4, 5, 6, 7, 8, 9] rfl ?_
  refine t_slot (y := VP.int .i64 ((0 : Nat) : Int)) (fun _ _ _ h => h) ?_
  refine t_loop (τ := {k : Nat // k ≤ d.sorts.length}) (fun ⟨k, _⟩ => [.is (.tmp 8) (VP.eq us true true), .is (.tmp 9) (VP.int .i64 ((d.sorts.length : Nat) : Int)), .is (.tmp 10) (VP.int .i64 ((k : Nat) : Int)), .own 7777 (.tmp 2) (R_sort (d.sorts.take k)), .bor (.val us) (R_sort d.sorts)]) (fun ⟨k, _⟩ => d.sorts.length - k) (⟨0, Nat.zero_le _⟩) [9, 10, 0, 1, 8] rfl ?_
  rintro ⟨k, hk⟩
  refine t_seq ?_
  refine t_pick [3, 0, 1, 2, 4] rfl ?_
  refine t_name rfl fun v1 => ?_
  refine t_rg [.own 7777 (.val v1) (R_sort (d.sorts.take k)), .is (.tmp 2) (VP.eq v1 true true), .is (.tmp 8) (VP.eq us true true), .is (.tmp 9) (VP.int .i64 ((d.sorts.length : Nat) : Int)), .is (.tmp 10) (VP.int .i64 ((k : Nat) : Int)), .bor (.val us) (R_sort d.sorts)] [] [(0, .is (.tmp 11) (VP.bool (decide (((k : Nat) : Int) < ((d.sorts.length : Nat) : Int)))))] [] [0, 1, 2, 3, 4, 5] [] [[]] [[]] rfl rfl follow rfl ⟨
    wp rfl (does_cmp (m := ((k : Nat) : Int)) (n := ((d.sorts.length : Nat) : Int)) _ _ _ _ _ rfl rfl rfl rfl rfl rfl .i64 (ar_tmp (av_fs 4 rfl)) (ar_tmp (av_fs 3 rfl))),
    trivial⟩ ?_
  refine nx_then ?_
  refine t_seq ?_
  refine t_split 6 rfl (fun hb2 => ?_) (fun hb2 => ?_)
  · have hc2 := of_decide_eq_true hb2
    obtain ⟨x, hx⟩ : ∃ x, d.sorts[k]? = some x := ⟨_, List.getElem?_eq_getElem (by omega)⟩
    have hzx := hz x (List.mem_of_getElem? hx)
    refine t_skip ?_
    refine nx_then ?_
    refine t_seq ?_
    refine t_block ?_
    refine t_seq ?_
    refine t_rg [.own 7777 (.val v1) (R_sort (d.sorts.take k)), .is (.tmp 2) (VP.eq v1 true true), .is (.tmp 8) (VP.eq us true true), .is (.tmp 9) (VP.int .i64 ((d.sorts.length : Nat) : Int)), .is (.tmp 10) (VP.int .i64 ((k : Nat) : Int)), .bor (.val us) (R_sort d.sorts), .is (.tmp 11) (VP.bool (decide (((k : Nat) : Int) < ((d.sorts.length : Nat) : Int))))] [] [(0, .pt 12 (.row (.val us) (k * 2))), (1, .is (.tmp 13) (VP.agg [VP.str x.name, O_int x.args])), (3, .own 101 (.tmp 4) (B_sort x))] [(2, 3, .own 101 (.tmp 4) (HA.cells 57 [HA.of (VP.str (ByteArray.mk #[])), HA.of (VP.nilS)]))] [0, 1, 2, 3, 4, 5, 6] [] [[], [0], [], [0, 1, 2]] [[1, 3], [3], [3], []] rfl rfl follow rfl ⟨
      wp rfl (does_index (m := k) _ _ Try.underlying53 DagD_size_api_Sort rfl rfl rfl rfl rfl _ (by omega) rfl (by omega) (sl_bor (av_fs 5 rfl) (ar_tmp (av_fs 2 rfl))) (ar_tmp (av_fs 4 rfl))),
      wp rfl (does_loadAgg (ps := [VP.str x.name, O_int x.args]) _ DagD_agg_api_Sort rfl rfl rfl rfl rfl (pt_pt (av_rs 0 0 rfl rfl)) (rds_brow (av_fs 5 rfl) (hq_flat cSort_len hx (by omega) rfl))),
      wp rfl (does_alloc (ps := [VP.str (ByteArray.mk #[]), VP.nilS]) DagD_zero_api_Sort rfl rfl rfl rfl rfl rfl (fun _ _ => ⟨rfl, rfl, trivial⟩)),
      wp rfl (does_store (off := 0) (Qs := [HA.of (VP.str x.name), HA.of (O_int x.args)]) _ _ DagD_size_api_Sort rfl rfl rfl rfl rfl rfl (pt_box (av_ms 0 2 3 rfl rfl rfl)) (av_ms 0 2 3 rfl rfl rfl) (cv_agg (ps := [VP.str x.name, O_int x.args]) (ar_tmp (av_rs 1 1 rfl rfl)))),
      trivial⟩ ?_
    refine nx_then ?_
    refine t_pick [9, 0, 1, 2, 3, 4, 5, 6, 7, 8] rfl ?_
    refine t_nameP rfl fun v3 => ?_
    refine t_rg [.own 101 (.val v3) (B_sort x), .is (.tmp 4) (VP.ptr v3), .is (.tmp 8) (VP.eq us true true), .is (.tmp 9) (VP.int .i64 ((d.sorts.length : Nat) : Int)), .is (.tmp 10) (VP.int .i64 ((k : Nat) : Int)), .bor (.val us) (R_sort d.sorts), .is (.tmp 11) (VP.bool (decide (((k : Nat) : Int) < ((d.sorts.length : Nat) : Int)))), .pt 12 (.row (.val us) (k * 2)), .is (.tmp 13) (VP.agg [VP.str x.name, O_int x.args])] [(8, .own 7777 (.val v1) (R_sort (d.sorts.take k))), (9, .is (.tmp 2) (VP.eq v1 true true))] [(0, .is (.tmp 14) (VP.eq v1 true true)), (1, .pt 15 (.blk (.val v3) 0)), (2, .is (.tmp 16) (VP.str x.name)), (3, .pt 17 (.blk (.val v3) 1)), (4, .is (.tmp 18) (O_int x.args)), (5, .own 102 (.tmp 19) (HA.of (O_int x.args))), (6, .is (.tmp 20) (VP.agg [VP.str x.name, O_int x.args])), (8, .own 7777 (.tmp 22) (R_sort ((d.sorts.take k) ++ [x]))), (9, .eq 2 (.tmp 22))] [(7, 8, .own 103 (.tmp 21) (R_sort ([x])))] [0, 1, 4, 5, 6, 7, 8, 9, 10] [2, 3] DagD_p21_4 DagD_s21_4 rfl rfl follow rfl ⟨
      wp rfl (does_move _ (.inl rfl) rfl rfl rfl rfl (ar_tmp (av_os 1 9 rfl rfl))),
      wp rfl (does_field _ _ _ 0 DagD_f_api_Sort_0 rfl rfl rfl rfl rfl rfl (pt_ptr (ar_tmp (av_fs 1 rfl)))),
      wp rfl (does_loadOne _ DagD_one_string rfl rfl rfl rfl rfl (pt_pt (av_rs 1 1 rfl rfl)) (rds_box (off := 0) (av_fs 0 rfl) (hq_one rfl))),
      wp rfl (does_field _ _ _ 1 DagD_f_api_Sort_1 rfl rfl rfl rfl rfl rfl (pt_ptr (ar_tmp (av_fs 1 rfl)))),
      wp rfl (does_loadOne _ DagD_one___int rfl rfl rfl rfl rfl (pt_pt (av_rs 3 3 rfl rfl)) (rds_box (off := 1) (av_fs 0 rfl) (hq_one rfl))),
      wp rfl (does_callG [] [] [] 102 [0] (dg_CloneInt x.args (by omega)) rfl DagD_hb_slices_Clone___int_int_ rfl rfl rfl rfl rfl ar_clo (ars_cons (pa_slcRo (ar_tmp (av_rs 4 4 rfl rfl)) (flat_nil_iff cInt_len (by decide) _)) ars_nil) trivial trivial),
      wp rfl (does_build [VP.str (ByteArray.mk #[]), VP.nilS] DagD_zero_api_Sort DagD_pl_api_Sort rfl rfl rfl rfl rfl (fun _ _ => ⟨rfl, rfl, trivial⟩) (.cons 0 [HA.of (VP.str x.name)] none rfl rfl (cv_one rfl (mv_vp (ar_tmp (av_rs 2 2 rfl rfl)))) (.cons 1 [HA.of (O_int x.args)] none rfl rfl (cv_one rfl (mv_vp (ar_of (av_rs 5 5 rfl rfl)))) (.nil _)))),
      wp rfl (does_sliceLit (n := 1) DagD_el_sort rfl [VP.str (ByteArray.mk #[]), VP.nilS] (fun _ _ => by rw [show zerosOf (.agg #[.string (ByteArray.mk #[]), .slice none 0 0]) (1 * 2) = [.string (ByteArray.mk #[]), .slice none 0 0] by kernel_rfl]; exact ⟨rfl, rfl, trivial⟩) rfl rfl rfl rfl rfl rfl rfl (.cons 0 [HA.of (VP.str x.name), HA.of (O_int x.args)] none rfl rfl (cv_agg (ps := [VP.str x.name, O_int x.args]) (ar_tmp (av_rs 6 6 rfl rfl))) (.nil _))),
      wp rfl (does_append (n := (d.sorts.take k).length) (m := ([x]).length) DagD_el_sort rfl _ _ rfl rfl rfl rfl rfl (by simp only [List.length_append, List.length_nil, List.length_cons, Nat.zero_add]) (flat_cat (d.sorts.take k) ([x])) rfl (by have := List.length_take_le k d.sorts; constructor <;> first | decide | omega | (simp only [List.length_append, List.length_take, List.length_cons, List.length_nil] at *; omega)) (flat_lenH cSort_len _) (flat_allH (fun _ => rfl) cSort_one _) (flat_allH (fun _ => rfl) cSort_nu _) (mv_ownv (av_os 0 8 rfl rfl) (ar_tmp (av_rs 0 0 rfl rfl))) (src_row (av_ms 0 7 8 rfl rfl rfl))),
      wp rfl (does_eqTmp (k := 22) _ rfl (.inr rfl) rfl rfl rfl rfl rfl),
      trivial⟩ ?_
    refine nx_block ?_
    refine nx_then ?_
    refine t_pick [14, 0, 1, 2, 3, 4, 5, 6, 7, 8, 9, 10, 11, 12, 13, 15, 16, 17] rfl ?_
    refine t_freeze (fz_of _) rfl ?_
    refine t_pick [16, 0, 1, 2, 3, 4, 5, 6, 7, 8, 9, 10, 11, 12, 13, 14, 15, 17] rfl ?_
    refine t_name rfl fun v4 => ?_
    refine t_pick [18, 1, 0, 2, 3, 4, 5, 6, 7, 8, 9, 10, 11, 12, 13, 14, 15, 16, 17] rfl ?_
    refine t_eq ?_
    refine t_rg [.is (.tmp 2) (VP.eq v4 true true), .is (.tmp 22) (VP.eq v4 true true), .own 7777 (.val v4) (R_sort ((d.sorts.take k) ++ [x])), .is (.tmp 19) (O_int x.args), .own 101 (.val v3) (B_sort x), .is (.tmp 4) (VP.ptr v3), .is (.tmp 8) (VP.eq us true true), .is (.tmp 9) (VP.int .i64 ((d.sorts.length : Nat) : Int)), .bor (.val us) (R_sort d.sorts), .is (.tmp 11) (VP.bool (decide (((k : Nat) : Int) < ((d.sorts.length : Nat) : Int)))), .pt 12 (.row (.val us) (k * 2)), .is (.tmp 13) (VP.agg [VP.str x.name, O_int x.args]), .is (.tmp 14) (VP.eq v1 true true), .pt 15 (.blk (.val v3) 0), .is (.tmp 16) (VP.str x.name), .pt 17 (.blk (.val v3) 1), .is (.tmp 18) (O_int x.args), .is (.tmp 20) (VP.agg [VP.str x.name, O_int x.args])] [(1, .is (.tmp 10) (VP.int .i64 ((k : Nat) : Int)))] [(0, .is (.tmp 23) (VP.int .i64 (((k + 1) : Nat) : Int))), (1, .is (.tmp 10) (VP.int .i64 (((k + 1) : Nat) : Int)))] [] [0, 1, 2, 3, 4, 5, 6, 7, 9, 10, 11, 12, 13, 14, 15, 16, 17, 18] [8] [[], [0]] [[1], []] rfl rfl follow rfl ⟨
      wp rfl (does_addE (m := ((k : Nat) : Int)) (n := 1) (x := (((k + 1) : Nat) : Int)) (by omega) _ _ _ _ rfl rfl rfl rfl rfl (by omega) (ar_tmp (av_os 0 1 rfl rfl)) (ar_const (fun _ _ => rfl))),
      wp rfl (does_move _ (.inl rfl) rfl rfl rfl rfl (ar_tmp (av_rs 0 0 rfl rfl))),
      trivial⟩ ?_
    refine t_pick [2, 0, 1, 3, 4, 5, 6, 7, 8, 9, 10, 11, 12, 13, 14, 15, 16, 17, 18, 19] rfl ?_
    refine t_untmp rfl ?_
    refine t_weak (R' := R_sort (d.sorts.take (k + 1))) (fun _ _ _ _ h => by rw [← take_snoc hx]; exact h) rfl ?_
    refine nx_round (τ := {k : Nat // k ≤ d.sorts.length}) (I := fun ⟨k, _⟩ => [.is (.tmp 8) (VP.eq us true true), .is (.tmp 9) (VP.int .i64 ((d.sorts.length : Nat) : Int)), .is (.tmp 10) (VP.int .i64 ((k : Nat) : Int)), .own 7777 (.tmp 2) (R_sort (d.sorts.take k)), .bor (.val us) (R_sort d.sorts)]) (μ := fun ⟨k, _⟩ => d.sorts.length - k) (s := ⟨k, hk⟩) (⟨k + 1, by omega⟩) ?_ [5, 6, 18, 0, 7] ?_
    · exact (show d.sorts.length - (k + 1) < d.sorts.length - k by omega)
    · exact rfl
  · have hc2 := of_decide_eq_false hb2
    refine t_exit ?_
    refine ex_then ?_
    refine ex_then ?_
    refine ex_block ?_
    refine nx_then ?_
    refine t_pick [0, 1, 5] rfl ?_
    refine t_seq ?_
    refine t_rg [.own 7777 (.val v1) (R_sort (d.sorts.take k)), .bor (.val us) (R_sort d.sorts)] [(1, .is (.tmp 2) (VP.eq v1 true true))] [(0, .is (.tmp 24) (VP.eq v1 true true)), (1, .is (.tmp 2) (VP.eq v1 true true))] [] [0, 2] [1] [[], [0]] [[1], []] rfl rfl follow rfl ⟨
      wp rfl (does_move _ (.inl rfl) rfl rfl rfl rfl (ar_tmp (av_os 0 1 rfl rfl))),
      wp rfl (does_move _ (.inr rfl) rfl rfl rfl rfl (ar_tmp (av_rs 0 0 rfl rfl))),
      trivial⟩ ?_
    refine t_pick [0, 1, 3] rfl ?_
    refine nx_then ?_
    refine t_weak (R' := R_sort d.sorts) (fun _ _ _ _ h => by rw [List.take_of_length_le (show d.sorts.length ≤ k by omega)] at h; exact h) rfl ?_
    refine t_ret ?_
    exact rt_post [R_sort d.sorts] [[7777]] [] [] rfl ⟨(rv_ownv 0 2 rfl rfl), trivial⟩ (by decide) rfl rfl

end O
end Go.Proofs.Ytapmngmpomhjmaa
