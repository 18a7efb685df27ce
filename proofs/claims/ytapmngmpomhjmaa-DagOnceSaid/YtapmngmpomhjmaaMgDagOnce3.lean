/- Part of the proof that a law returns true for all that comes in, and that what came in reads as it did. No condition. -/
import Derived.Test.YtapmngmpomhjmaaMgDagOnce2
/- What an arena asks of a term. -/
namespace Go.Proofs.Ytapmngmpomhjmaa
open Go.RowKit
namespace O

def chr (s : ByteArray) (i : Nat) : Nat := if h : i < s.size then s[i].toNat else 0
theorem chr_at {s : ByteArray} {i : Nat} (h : i < s.size) : ∃ h : i < s.size, s[i].toNat = chr s i := ⟨h, by unfold chr; rw [dif_pos h]⟩
def dig (s : ByteArray) (i : Nat) : Bool := !(decide (((chr s i : Nat) : Int) < 48) || decide (((chr s i : Nat) : Int) > 57))
def digs (s : ByteArray) (n : Nat) : Bool := (List.range n).all (dig s)
theorem digs_succ {s : ByteArray} {n : Nat} : digs s (n + 1) = (digs s n && dig s n) := by unfold digs; rw [List.range_succ, List.all_append]; simp
theorem digs_no {s : ByteArray} {n i : Nat} (h : i < n) (hd : dig s i = false) : digs s n = false := by
  unfold digs
  rw [List.all_eq_false]
  exact ⟨i, List.mem_range.2 h, by rw [hd]; exact Bool.false_ne_true⟩
def odd_ (s : ByteArray) : Bool := (((s.size : Nat) : Int) == 0) || decide (((s.size : Nat) : Int) > 10000) || (decide (((s.size : Nat) : Int) > 1) && (((chr s 0 : Nat) : Int) == 48))
theorem odd_small {s : ByteArray} (h : odd_ s = false) : s.size ≤ 10000 := by
  simp only [odd_, Bool.or_eq_false_iff, decide_eq_false_iff_not] at h
  omega
def decB (s : ByteArray) : Bool := bif odd_ s then false else digs s s.size
def kid (t : TermD) (i : Nat) : Int := (t.kids[i]?).getD 0
def noT : TermD := ⟨0, 0, [], ByteArray.mk #[]⟩
def ArD.term_ (d : ArD) (k : Int) : TermD := (d.terms[k.toNat]?).getD noT
def ArD.ofk (d : ArD) (k : Int) : Int := (d.of_[k.toNat]?).getD 0
def ArD.fn_ (d : ArD) (k : Int) : FunD := (d.funs[k.toNat]?).getD ⟨ByteArray.mk #[], [], 0⟩
def ArD.there (d : ArD) (k : Int) : Bool := decide (0 ≤ k ∧ k < d.terms.length)
/-- a number, or one with the other sign -/
def ArD.cst (d : ArD) : Nat → Int → Bool
  | 0, _ => false
  | f + 1, x => bif d.there x then bif ((d.term_ x).op != 18) || (((d.term_ x).kids.length : Int) != 1) then (d.term_ x).op == 4 else d.cst f (kid (d.term_ x) 0) else false
def ArD.con (d : ArD) (x : Int) : Bool := d.cst (x.toNat + 1) x
/-- kids stand ahead of what is over them -/
def ArD.kidsOk (d : ArD) : Prop := ∀ (i : Nat) (t : TermD), d.terms[i]? = some t → ∀ k ∈ t.kids, 0 ≤ k ∧ k < (i : Int)
theorem cst_no {d : ArD} {x : Int} {f : Nat} (h : d.there x = false) : d.cst f x = false := by
  cases f with
  | zero => rfl
  | succ f => unfold ArD.cst; rw [h]; rfl
theorem cst_end {d : ArD} {x : Int} {f : Nat} (hf : x < f) (h : d.there x = true) (h2 : (((d.term_ x).op != 18) || (((d.term_ x).kids.length : Int) != 1)) = true) : d.cst f x = ((d.term_ x).op == 4) := by
  have h0 := of_decide_eq_true h
  cases f with
  | zero => omega
  | succ f => unfold ArD.cst; rw [h, h2]; rfl
theorem cst_on {d : ArD} {x : Int} {f : Nat} (hf : x < f) (h : d.there x = true) (h2 : (((d.term_ x).op != 18) || (((d.term_ x).kids.length : Int) != 1)) = false) : d.cst f x = d.cst (f - 1) (kid (d.term_ x) 0) := by
  have h0 := of_decide_eq_true h
  cases f with
  | zero => omega
  | succ f =>
    show d.cst (f + 1) x = d.cst f _
    conv => lhs; unfold ArD.cst
    rw [h, h2]; rfl
theorem term_at {d : ArD} {x : Int} (h : d.there x = true) : d.terms[x.toNat]? = some (d.term_ x) := by
  have h0 := of_decide_eq_true h
  exact at_getD (by omega)
theorem kid_mem {t : TermD} {i : Nat} (h : i < t.kids.length) : kid t i ∈ t.kids := by
  unfold kid; rw [List.getElem?_eq_getElem h]; exact List.getElem_mem h
theorem kid_lt {d : ArD} (hd : d.kidsOk) {x : Int} (h : d.there x = true) (hk : (d.term_ x).kids.length = 1) : 0 ≤ kid (d.term_ x) 0 ∧ kid (d.term_ x) 0 < x := by
  have h0 := of_decide_eq_true h
  have := hd _ _ (term_at h) _ (kid_mem (i := 0) (by omega))
  omega
def ArD.bareE (d : ArD) (t : TermD) : Int :=
  bif decide (t.op < 1) || decide (t.op > 19) || ((t.op != 3) && (t.fn != 0)) then 1
  else bif ((t.op == 4) && !(decB t.num)) || ((t.op != 4) && !(t.num.toList == (ByteArray.mk #[]).toList)) then 1
  else bif (t.op == 3) && (decide (t.fn < 0) || decide (t.fn ≥ ((d.funs.length : Nat) : Int))) then 2 else 0
def ArD.least (d : ArD) (t : TermD) : Int :=
  bif (t.op == 1) || (t.op == 2) || (t.op == 4) then 0 else bif (t.op == 3) then (((d.fn_ t.fn).args.length : Nat) : Int) else bif (t.op == 5) then 1 else bif (t.op == 10) then 3 else bif (t.op == 18) then 1 else 2
def ArD.great (d : ArD) (t : TermD) : Int :=
  bif (t.op == 1) || (t.op == 2) || (t.op == 4) then 0 else bif (t.op == 3) then (((d.fn_ t.fn).args.length : Nat) : Int) else bif (t.op == 5) then 1 else bif (t.op == 10) then 3 else 1073741824
def ArD.want (d : ArD) (t : TermD) (i : Nat) : Int :=
  bif (t.op == 10) && decide (((i : Nat) : Int) > 0) then d.ofk (kid t 1) else bif (t.op == 11) || (t.op == 12) then d.ofk (kid t 0) else bif decide (t.op ≥ 13) then 1 else 0
def ArD.wantK (d : ArD) (t : TermD) (k : Nat) : List Int := (List.range t.kids.length).map fun i => if i < k then d.want t i else 0
def ArD.wants (d : ArD) (t : TermD) : List Int := bif (t.op == 3) then (d.fn_ t.fn).args else d.wantK t t.kids.length
def ArD.give (d : ArD) (t : TermD) : Int :=
  bif (t.op == 3) then (d.fn_ t.fn).res else bif (t.op == 10) then d.ofk (kid t 1) else bif (t.op == 4) || decide (t.op ≥ 17) then 1 else 0
theorem wantK_len {d : ArD} {t : TermD} {k : Nat} : (d.wantK t k).length = t.kids.length := by unfold ArD.wantK; simp
theorem wantK_0 {d : ArD} {t : TermD} : List.replicate t.kids.length (0 : Int) = d.wantK t 0 := by
  unfold ArD.wantK
  refine List.ext_getElem (by simp) fun i h1 h2 => by simp
theorem wantK_set {d : ArD} {t : TermD} {k : Nat} : (d.wantK t k).set k (d.want t k) = d.wantK t (k + 1) := by
  unfold ArD.wantK
  refine List.ext_getElem (by simp) fun i h1 h2 => ?_
  rw [List.getElem_set]
  simp only [List.getElem_map, List.getElem_range]
  by_cases e : k = i
  · subst e; simp
  · rw [if_neg e]
    by_cases h : i < k
    · rw [if_pos h, if_pos (by omega)]
    · rw [if_neg h, if_neg (by omega)]
theorem wantK_same {d : ArD} {t : TermD} {k : Nat} (h : d.want t k = 0) : d.wantK t k = d.wantK t (k + 1) := by
  unfold ArD.wantK
  refine List.map_congr_left fun i _ => ?_
  by_cases e : i < k
  · rw [if_pos e, if_pos (by omega)]
  · rw [if_neg e]
    by_cases h2 : i < k + 1
    · rw [if_pos h2, show i = k by omega, h]
    · rw [if_neg h2]
theorem DagE_f_dag_Arena_2 : fieldAt Try.prog 64 2 2 = true := by kernel_rfl
theorem DagE_one___api_Term : oneTy Try.prog 61 = true := by kernel_rfl
abbrev DagE_p46_1 : Tab2 := [[], [0], [0, 1], [0, 1, 2], [0, 1, 2], [0, 1, 2, 4], [0, 1, 2, 4, 5], [0, 1, 2, 4, 5, 6], [0, 1, 2, 4, 5, 6, 7], [0, 1, 2, 3, 4, 5, 6, 7, 8], [0, 1, 2, 3, 4, 5, 6, 7, 8, 9], [0, 1, 2, 3, 4, 5, 6, 7, 8, 9, 10]]
abbrev DagE_s46_1 : Tab2 := [[1, 2, 3, 4, 5, 6, 7, 8, 9, 10, 11], [2, 3, 4, 5, 6, 7, 8, 9, 10, 11], [3, 4, 5, 6, 7, 8, 9, 10, 11], [9, 10, 11], [5, 6, 7, 8, 9, 10, 11], [6, 7, 8, 9, 10, 11], [7, 8, 9, 10, 11], [8, 9, 10, 11], [9, 10, 11], [10, 11], [11], []]
theorem DagE_hb___collator_dag_Arena__there : hasBody Try.prog 46 = true := by kernel_rfl
theorem DagE_agg_api_Term : aggTy Try.prog 30 4 = true := by kernel_rfl
theorem DagE_size_api_Term : ∀ w, (sizeOf 30).run Try.prog w = .ok 4 w := run_sizeAgg DagE_agg_api_Term
theorem DagE_zero_api_Term : zeroOf Try.prog 30 [(.int .i64 0), (.int .i64 0), (.slice none 0 0), (.string (ByteArray.mk #[]))] := by unfold zeroOf; kernel_rfl
abbrev DagE_p49_2 : Tab2 := [[], [0], [0, 1], [0, 1, 2], [], [0, 1, 2, 3, 4], [0, 1, 2, 3, 4, 5], [], [0, 1, 2, 3, 4, 5, 6, 7]]
abbrev DagE_s49_2 : Tab2 := [[1, 2, 3, 5, 6, 8], [2, 3, 5, 6, 8], [3, 5, 6, 8], [5, 6, 8], [5, 6, 8], [6, 8], [8], [8], []]
theorem DagE_f_api_Term_0 : fieldAt Try.prog 30 0 0 = true := by kernel_rfl
theorem DagE_one_int : oneTy Try.prog 3 = true := by kernel_rfl
abbrev DagE_p49_3 : Tab2 := [[], [0], [0, 1], [0, 1, 2], [0, 1, 2, 3], [0, 1, 2, 3, 4], [0, 1, 2, 3, 4, 5], [0, 1, 2, 3, 4, 5, 6], [0, 1, 2, 3, 4, 5, 6, 7]]
abbrev DagE_s49_3 : Tab2 := [[1, 2, 3, 4, 5, 6, 7, 8], [2, 3, 4, 5, 6, 7, 8], [3, 4, 5, 6, 7, 8], [4, 5, 6, 7, 8], [5, 6, 7, 8], [6, 7, 8], [7, 8], [8], []]
theorem DagE_f_api_Term_2 : fieldAt Try.prog 30 2 2 = true := by kernel_rfl
theorem DagE_one___int : oneTy Try.prog 28 = true := by kernel_rfl
theorem DagE_size_int : ∀ w, (sizeOf 3).run Try.prog w = .ok 1 w := run_sizeOne DagE_one_int
abbrev DagE_p49_5 : Tab2 := [[], [0], [0, 1], [0, 1, 2], [0, 1, 2, 3]]
abbrev DagE_s49_5 : Tab2 := [[1, 2, 3, 4], [2, 3, 4], [3, 4], [4], []]
abbrev DagE_p52_1 : Tab2 := [[], [0], [0, 1], [0, 1, 2], [0, 1, 2, 3], [0, 1, 2, 3, 4], [0, 1, 2, 3, 4, 5], [0, 1, 2, 3, 4, 5, 6], [0, 1, 2, 3, 4, 5, 6, 7], [0, 1, 2, 3, 4, 5, 6, 7, 8], [0, 1, 2, 3, 4, 5, 6, 7, 8, 9], [0, 1, 2, 3, 4, 5, 6, 7, 8, 9, 10], [0, 1, 2, 3, 4, 5, 6, 7, 8, 9, 10, 11], [0, 1, 2, 3, 4, 5, 6, 7, 8, 9, 10, 11, 12], [0, 1, 2, 3, 4, 5, 6, 7, 8, 9, 10, 11, 12, 13], [0, 1, 2, 3, 4, 5, 6, 7, 8, 9, 10, 11, 12, 13, 14], [0, 1, 2, 3, 4, 5, 6, 7, 8, 9, 10, 11, 12, 13, 14, 15], [0, 1, 2, 3, 4, 5, 6, 7, 8, 9, 10, 11, 12, 13, 14, 15, 16]]
abbrev DagE_s52_1 : Tab2 := [[1, 2, 3, 4, 5, 6, 7, 8, 9, 10, 11, 12, 13, 14, 15, 16, 17], [2, 3, 4, 5, 6, 7, 8, 9, 10, 11, 12, 13, 14, 15, 16, 17], [3, 4, 5, 6, 7, 8, 9, 10, 11, 12, 13, 14, 15, 16, 17], [4, 5, 6, 7, 8, 9, 10, 11, 12, 13, 14, 15, 16, 17], [5, 6, 7, 8, 9, 10, 11, 12, 13, 14, 15, 16, 17], [6, 7, 8, 9, 10, 11, 12, 13, 14, 15, 16, 17], [7, 8, 9, 10, 11, 12, 13, 14, 15, 16, 17], [8, 9, 10, 11, 12, 13, 14, 15, 16, 17], [9, 10, 11, 12, 13, 14, 15, 16, 17], [10, 11, 12, 13, 14, 15, 16, 17], [11, 12, 13, 14, 15, 16, 17], [12, 13, 14, 15, 16, 17], [13, 14, 15, 16, 17], [14, 15, 16, 17], [15, 16, 17], [16, 17], [17], []]
abbrev DagE_p52_6 : Tab2 := [[], [], [0, 1], [0, 1, 2], [0, 1, 2, 3], [0, 1, 2, 3, 4], [0, 1, 2, 3, 4], [0, 1, 2, 3, 4, 5, 6], [0, 1, 2, 3, 4, 5, 6, 7], [0, 1, 2, 3, 4, 5, 6, 7, 8]]
abbrev DagE_s52_6 : Tab2 := [[2, 3, 4, 5, 6, 7, 8, 9], [2, 3, 4, 5, 6, 7, 8, 9], [3, 4, 5, 6, 7, 8, 9], [4, 5, 6, 7, 8, 9], [5, 6, 7, 8, 9], [7, 8, 9], [7, 8, 9], [8, 9], [9], []]
abbrev DagE_p44_1 : Tab2 := [[], [0], [0, 1], [0, 1, 2], [0, 1, 2, 3], [0, 1, 2, 3, 4], [0, 1, 2, 3, 4, 5], [0, 1, 2, 3, 4, 5, 6], [0, 1, 2, 3, 4, 5, 6, 7], [0, 1, 2, 3, 4, 5, 6, 7, 8], [0, 1, 2, 3, 4, 5, 6, 7, 8, 9], [0, 1, 2, 3, 4, 5, 6, 7, 8, 9, 10], [0, 1, 2, 3, 4, 5, 6, 7, 8, 9, 10, 11], [0, 1, 2, 3, 4, 5, 6, 7, 8, 9, 10, 11, 12], [0, 1, 2, 3, 4, 5, 6, 7, 8, 9, 10, 11, 12, 13], [0, 1, 2, 3, 4, 5, 6, 7, 8, 9, 10, 11, 12, 13, 14], [0, 1, 2, 3, 4, 5, 6, 7, 8, 9, 10, 11, 12, 13, 14, 15], [0, 1, 2, 3, 4, 5, 6, 7, 8, 9, 10, 11, 12, 13, 14, 15, 16], [0, 1, 2, 3, 4, 5, 6, 7, 8, 9, 10, 11, 12, 13, 14, 15, 16, 17]]
abbrev DagE_s44_1 : Tab2 := [[1, 2, 3, 4, 5, 6, 7, 8, 9, 10, 11, 12, 13, 14, 15, 16, 17, 18], [2, 3, 4, 5, 6, 7, 8, 9, 10, 11, 12, 13, 14, 15, 16, 17, 18], [3, 4, 5, 6, 7, 8, 9, 10, 11, 12, 13, 14, 15, 16, 17, 18], [4, 5, 6, 7, 8, 9, 10, 11, 12, 13, 14, 15, 16, 17, 18], [5, 6, 7, 8, 9, 10, 11, 12, 13, 14, 15, 16, 17, 18], [6, 7, 8, 9, 10, 11, 12, 13, 14, 15, 16, 17, 18], [7, 8, 9, 10, 11, 12, 13, 14, 15, 16, 17, 18], [8, 9, 10, 11, 12, 13, 14, 15, 16, 17, 18], [9, 10, 11, 12, 13, 14, 15, 16, 17, 18], [10, 11, 12, 13, 14, 15, 16, 17, 18], [11, 12, 13, 14, 15, 16, 17, 18], [12, 13, 14, 15, 16, 17, 18], [13, 14, 15, 16, 17, 18], [14, 15, 16, 17, 18], [15, 16, 17, 18], [16, 17, 18], [17, 18], [18], []]
theorem DagE_f_api_Term_1 : fieldAt Try.prog 30 1 1 = true := by kernel_rfl
theorem DagE_f_api_Term_3 : fieldAt Try.prog 30 3 3 = true := by kernel_rfl
theorem DagE_one_string : oneTy Try.prog 9 = true := by kernel_rfl
theorem DagE_hb_collator_dag_decimal : hasBody Try.prog 52 = true := by kernel_rfl
abbrev DagE_p44_3 : Tab2 := [[], [0], [0, 1], [0, 1, 2], [0, 1, 2, 3], [0, 1, 2, 3, 4], [0, 1, 2, 3, 4, 5], [0, 1, 2, 3, 4, 5, 6], [0, 1, 2, 3, 4, 5, 6, 7], [0, 1, 2, 3, 4, 5, 6, 7, 8], [0, 1, 2, 3, 4, 5, 6, 7, 8, 9], [0, 1, 2, 3, 4, 5, 6, 7, 8, 9, 10], [0, 1, 2, 3, 4, 5, 6, 7, 8, 9, 10, 11], [0, 1, 2, 3, 4, 5, 6, 7, 8, 9, 10, 11, 12], [0, 1, 2, 3, 4, 5, 6, 7, 8, 9, 10, 11, 12, 13], [0, 1, 2, 3, 4, 5, 6, 7, 8, 9, 10, 11, 12, 13, 14], [0, 1, 2, 3, 4, 5, 6, 7, 8, 9, 10, 11, 12, 13, 14, 15], [0, 1, 2, 3, 4, 5, 6, 7, 8, 9, 10, 11, 12, 13, 14, 15, 16], [0, 1, 2, 3, 4, 5, 6, 7, 8, 9, 10, 11, 12, 13, 14, 15, 16, 17], [0, 1, 2, 3, 4, 5, 6, 7, 8, 9, 10, 11, 12, 13, 14, 15, 16, 17, 18]]
abbrev DagE_s44_3 : Tab2 := [[1, 2, 3, 4, 5, 6, 7, 8, 9, 10, 11, 12, 13, 14, 15, 16, 17, 18, 19], [2, 3, 4, 5, 6, 7, 8, 9, 10, 11, 12, 13, 14, 15, 16, 17, 18, 19], [3, 4, 5, 6, 7, 8, 9, 10, 11, 12, 13, 14, 15, 16, 17, 18, 19], [4, 5, 6, 7, 8, 9, 10, 11, 12, 13, 14, 15, 16, 17, 18, 19], [5, 6, 7, 8, 9, 10, 11, 12, 13, 14, 15, 16, 17, 18, 19], [6, 7, 8, 9, 10, 11, 12, 13, 14, 15, 16, 17, 18, 19], [7, 8, 9, 10, 11, 12, 13, 14, 15, 16, 17, 18, 19], [8, 9, 10, 11, 12, 13, 14, 15, 16, 17, 18, 19], [9, 10, 11, 12, 13, 14, 15, 16, 17, 18, 19], [10, 11, 12, 13, 14, 15, 16, 17, 18, 19], [11, 12, 13, 14, 15, 16, 17, 18, 19], [12, 13, 14, 15, 16, 17, 18, 19], [13, 14, 15, 16, 17, 18, 19], [14, 15, 16, 17, 18, 19], [15, 16, 17, 18, 19], [16, 17, 18, 19], [17, 18, 19], [18, 19], [19], []]
abbrev DagE_p44_5 : Tab2 := [[], [0], [0, 1], [0, 1, 2], [0, 1, 2, 3], [0, 1, 2, 3, 4], [0, 1, 2, 3, 4, 5], [0, 1, 2, 3, 4, 5, 6], [0, 1, 2, 3, 4, 5, 6, 7], [0, 1, 2, 3, 4, 5, 6, 7, 8], [0, 1, 2, 3, 4, 5, 6, 7], [0, 1, 2, 3, 4, 5, 6, 7, 10], [0, 1, 2, 3, 4, 5, 6, 7, 10, 11], [0, 1, 2, 3, 4, 5, 6, 7, 10, 11, 12], [0, 1, 2, 3, 4, 5, 6, 7, 10, 11, 12, 13], [0, 1, 2, 3, 4, 5, 6, 7, 8, 9, 10, 11, 12, 13, 14], [0, 1, 2, 3, 4, 5, 6, 7, 8, 9, 10, 11, 12, 13, 14, 15], [0, 1, 2, 3, 4, 5, 6, 7, 8, 9, 10, 11, 12, 13, 14, 15, 16], [0, 1, 2, 3, 4, 5, 6, 7, 8, 9, 10, 11, 12, 13, 14, 15, 16, 17]]
abbrev DagE_s44_5 : Tab2 := [[1, 2, 3, 4, 5, 6, 7, 8, 9, 10, 11, 12, 13, 14, 15, 16, 17, 18], [2, 3, 4, 5, 6, 7, 8, 9, 10, 11, 12, 13, 14, 15, 16, 17, 18], [3, 4, 5, 6, 7, 8, 9, 10, 11, 12, 13, 14, 15, 16, 17, 18], [4, 5, 6, 7, 8, 9, 10, 11, 12, 13, 14, 15, 16, 17, 18], [5, 6, 7, 8, 9, 10, 11, 12, 13, 14, 15, 16, 17, 18], [6, 7, 8, 9, 10, 11, 12, 13, 14, 15, 16, 17, 18], [7, 8, 9, 10, 11, 12, 13, 14, 15, 16, 17, 18], [8, 9, 10, 11, 12, 13, 14, 15, 16, 17, 18], [9, 15, 16, 17, 18], [15, 16, 17, 18], [11, 12, 13, 14, 15, 16, 17, 18], [12, 13, 14, 15, 16, 17, 18], [13, 14, 15, 16, 17, 18], [14, 15, 16, 17, 18], [15, 16, 17, 18], [16, 17, 18], [17, 18], [18], []]
theorem DagE_f_dag_Arena_1 : fieldAt Try.prog 64 1 1 = true := by kernel_rfl
theorem DagE_one___api_Fun : oneTy Try.prog 55 = true := by kernel_rfl
theorem DagE_agg_api_Fun : aggTy Try.prog 38 3 = true := by kernel_rfl
theorem DagE_size_api_Fun : ∀ w, (sizeOf 38).run Try.prog w = .ok 3 w := run_sizeAgg DagE_agg_api_Fun
theorem DagE_f_api_Fun_1 : fieldAt Try.prog 38 1 1 = true := by kernel_rfl
abbrev DagE_p47_7 : Tab2 := [[], [0], [0, 1], [0, 1, 2], [], [4], [0, 1, 2, 3, 4, 5], [0, 1, 2, 3, 4, 5, 6], [0, 1, 2, 3, 4, 5, 6, 7], [0, 1, 2, 3, 4, 5, 6, 7, 8], [0, 1, 2, 3, 4, 5, 6, 7, 8, 9]]
abbrev DagE_s47_7 : Tab2 := [[1, 2, 3, 6, 7, 8, 9, 10], [2, 3, 6, 7, 8, 9, 10], [3, 6, 7, 8, 9, 10], [6, 7, 8, 9, 10], [5, 6, 7, 8, 9, 10], [6, 7, 8, 9, 10], [7, 8, 9, 10], [8, 9, 10], [9, 10], [10], []]
theorem DagE_f_api_Fun_2 : fieldAt Try.prog 38 2 2 = true := by kernel_rfl
abbrev DagE_p33_2 : Tab2 := [[], [0], [0, 1], [0, 1, 2], [], [4], [0, 1, 2, 3, 4, 5], [0, 1, 2, 3, 4, 5, 6], [0, 1, 2, 3, 4, 5, 6, 7], [0, 1, 2, 3, 4, 5, 6, 7, 8]]
abbrev DagE_s33_2 : Tab2 := [[1, 2, 3, 6, 7, 8, 9], [2, 3, 6, 7, 8, 9], [3, 6, 7, 8, 9], [6, 7, 8, 9], [5, 6, 7, 8, 9], [6, 7, 8, 9], [7, 8, 9], [8, 9], [9], []]
theorem DagE_f_dag_Arena_3 : fieldAt Try.prog 64 3 3 = true := by kernel_rfl
abbrev DagE_p33_4 : Tab2 := [[], [0], [0, 1], [0, 1, 2], [], [4], [4, 5], [4, 5, 6], [0, 1, 2, 3, 4, 5, 6, 7], [0, 1, 2, 3, 4, 5, 6, 7, 8], [0, 1, 2, 3, 4, 5, 6, 7, 8, 9]]
abbrev DagE_s33_4 : Tab2 := [[1, 2, 3, 8, 9, 10], [2, 3, 8, 9, 10], [3, 8, 9, 10], [8, 9, 10], [5, 6, 7, 8, 9, 10], [6, 7, 8, 9, 10], [7, 8, 9, 10], [8, 9, 10], [9, 10], [10], []]
abbrev DagE_p33_5 : Tab2 := [[], [0], [0, 1], [0, 1, 2], [0, 1, 2, 3], [0, 1, 2, 3, 4], [0, 1, 2, 3, 4, 5], [0, 1, 2, 3, 4, 5, 6], [0, 1, 2, 3, 4, 5, 6, 7]]
abbrev DagE_s33_5 : Tab2 := [[1, 2, 3, 4, 5, 6, 7, 8], [2, 3, 4, 5, 6, 7, 8], [3, 4, 5, 6, 7, 8], [4, 5, 6, 7, 8], [5, 6, 7, 8], [6, 7, 8], [7, 8], [8], []]
set_option maxRecDepth 100000 in
set_option maxHeartbeats 4000000 in
theorem da_there {v : Value} {d : ArD} (s : Int) : SpecO Try.prog 46 [.vp (VP.ptr v), .vp (VP.int .i64 s)] [(v, Arn d)] [] [] (HA.of (VP.bool (d.there s))) := by
  refine spec_of 16 Try.func46 rfl Try.ntmps46 rfl fun w0 S0 Z0 Bf => ?_
  refine t_pick [2, 0, 1] rfl ?_
  refine b_part (part_cells (T' := 64) (Rs := [R_sort d.sorts, R_fun d.funs, R_term d.terms, R_int d.of_, R_u64 d.hashes, rowsInt d.table, HA.of (VP.int .i64 d.most)]) 0 rfl) fun u1 => ?_
  refine b_part (part_cells (T' := 64) (Rs := [HA.of (VP.eq u1 true true), R_fun d.funs, R_term d.terms, R_int d.of_, R_u64 d.hashes, rowsInt d.table, HA.of (VP.int .i64 d.most)]) 1 rfl) fun u2 => ?_
  refine b_part (part_cells (T' := 64) (Rs := [HA.of (VP.eq u1 true true), HA.of (VP.eq u2 true true), R_term d.terms, R_int d.of_, R_u64 d.hashes, rowsInt d.table, HA.of (VP.int .i64 d.most)]) 2 rfl) fun u3 => ?_
  refine b_part (part_cells (T' := 64) (Rs := [HA.of (VP.eq u1 true true), HA.of (VP.eq u2 true true), HA.of (VP.eq u3 true true), R_int d.of_, R_u64 d.hashes, rowsInt d.table, HA.of (VP.int .i64 d.most)]) 3 rfl) fun u4 => ?_
  refine b_part (part_cells (T' := 64) (Rs := [HA.of (VP.eq u1 true true), HA.of (VP.eq u2 true true), HA.of (VP.eq u3 true true), HA.of (VP.eq u4 true true), R_u64 d.hashes, rowsInt d.table, HA.of (VP.int .i64 d.most)]) 4 rfl) fun u5 => ?_
  refine b_part (part_cells (T' := 64) (Rs := [HA.of (VP.eq u1 true true), HA.of (VP.eq u2 true true), HA.of (VP.eq u3 true true), HA.of (VP.eq u4 true true), HA.of (VP.eq u5 true true), rowsInt d.table, HA.of (VP.int .i64 d.most)]) 5 rfl) fun u6 => ?_
  refine t_seq ?_
  refine t_rg [.bor (.val v) (ArO u1 u2 u3 u4 u5 u6 d.most), .bor (.val u6) (rowsInt d.table), .bor (.val u5) (R_u64 d.hashes), .bor (.val u4) (R_int d.of_), .bor (.val u3) (R_term d.terms), .bor (.val u2) (R_fun d.funs), .bor (.val u1) (R_sort d.sorts), .is (.tmp 0) (VP.ptr v), .is (.tmp 1) (VP.int .i64 s)] [] [(0, .is (.tmp 4) (VP.bool false))] [] [0, 1, 2, 3, 4, 5, 6, 7, 8] [] [[]] [[]] rfl rfl follow rfl ⟨
    wp rfl (does_move _ (.inr rfl) rfl rfl rfl rfl (ar_const (fun _ _ => rfl))),
    trivial⟩ ?_
  refine nx_then ?_
  refine t_seq ?_
  rcases Bool.eq_false_or_eq_true (decide (s ≥ 0)) with hb7 | hb7
  · have hc7 := of_decide_eq_true hb7
    refine t_rg [.bor (.val v) (ArO u1 u2 u3 u4 u5 u6 d.most), .bor (.val u6) (rowsInt d.table), .bor (.val u5) (R_u64 d.hashes), .bor (.val u4) (R_int d.of_), .bor (.val u3) (R_term d.terms), .bor (.val u2) (R_fun d.funs), .bor (.val u1) (R_sort d.sorts), .is (.tmp 0) (VP.ptr v), .is (.tmp 1) (VP.int .i64 s)] [(11, .is (.tmp 4) (VP.bool false))] [(0, .is (.tmp 5) (VP.int .i64 s)), (1, .is (.tmp 6) (VP.bool (decide (s ≥ 0)))), (2, .is (.tmp 7) (VP.bool (decide (s ≥ 0)))), (3, .is (.tmp 8) (VP.int .i64 s)), (4, .is (.tmp 9) (VP.ptr v)), (5, .is (.tmp 10) (VP.ptr v)), (6, .pt 11 (.blk (.val v) 2)), (7, .is (.tmp 12) (VP.eq u3 true true)), (8, .is (.tmp 13) (VP.int .i64 ((d.terms.length : Nat) : Int))), (9, .is (.tmp 14) (VP.bool (decide (s < ((d.terms.length : Nat) : Int))))), (10, .is (.tmp 15) (VP.bool (decide (s < ((d.terms.length : Nat) : Int))))), (11, .is (.tmp 4) (VP.bool (decide (s < ((d.terms.length : Nat) : Int)))))] [] [0, 1, 2, 3, 4, 5, 6, 7, 8] [9] DagE_p46_1 DagE_s46_1 rfl rfl follow rfl ⟨
      wp rfl (does_move _ (.inl rfl) rfl rfl rfl rfl (ar_tmp (av_fs 8 rfl))),
      wp rfl (does_cmp (m := s) (n := 0) _ _ _ _ _ rfl rfl rfl rfl rfl rfl .i64 (ar_tmp (av_rs 0 0 rfl rfl)) (ar_const (fun _ _ => rfl))),
      wp rfl (does_move _ (.inl rfl) rfl rfl rfl rfl (ar_tmp (av_rs 1 1 rfl rfl))),
      .inl ⟨wants_guard true rfl rfl rfl (av_bool hb7 (av_rs 2 2 rfl rfl)), does_move _ (.inl rfl) rfl rfl rfl rfl (ar_tmp (av_fs 8 rfl))⟩,
      .inl ⟨wants_guard true rfl rfl rfl (av_bool hb7 (av_rs 2 2 rfl rfl)), does_move _ (.inl rfl) rfl rfl rfl rfl (ar_tmp (av_fs 7 rfl))⟩,
      .inl ⟨wants_guard true rfl rfl rfl (av_bool hb7 (av_rs 2 2 rfl rfl)), does_nil _ rfl rfl rfl rfl rfl (ar_tmp (av_rs 4 4 rfl rfl))⟩,
      .inl ⟨wants_guard true rfl rfl rfl (av_bool hb7 (av_rs 2 2 rfl rfl)), does_field _ _ _ 2 DagE_f_dag_Arena_2 rfl rfl rfl rfl rfl rfl (pt_ptr (ar_tmp (av_rs 5 5 rfl rfl)))⟩,
      .inl ⟨wants_guard true rfl rfl rfl (av_bool hb7 (av_rs 2 2 rfl rfl)), does_loadOne _ DagE_one___api_Term rfl rfl rfl rfl rfl (pt_pt (av_rs 6 6 rfl rfl)) (rds_bbox (off := 2) (av_fs 0 rfl) (hq_one rfl))⟩,
      .inl ⟨wants_guard true rfl rfl rfl (av_bool hb7 (av_rs 2 2 rfl rfl)), does_len _ _ (by kernel_rfl) rfl rfl rfl rfl rfl (sl_bor (av_fs 4 rfl) (ar_tmp (av_rs 7 7 rfl rfl)))⟩,
      .inl ⟨wants_guard true rfl rfl rfl (av_bool hb7 (av_rs 2 2 rfl rfl)), does_cmp (m := s) (n := ((d.terms.length : Nat) : Int)) _ _ _ _ _ rfl rfl rfl rfl rfl rfl .i64 (ar_tmp (av_rs 3 3 rfl rfl)) (ar_tmp (av_rs 8 8 rfl rfl))⟩,
      wp rfl (does_pick true _ _ _ rfl rfl rfl rfl rfl (ar_tmp (av_bool hb7 (av_rs 2 2 rfl rfl))) (ar_tmp (av_rs 9 9 rfl rfl))),
      wp rfl (does_move _ (.inr rfl) rfl rfl rfl rfl (ar_tmp (av_rs 10 10 rfl rfl))),
      trivial⟩ ?_
    refine t_pick [0, 1, 2, 3, 4, 5, 6, 20] rfl ?_
    refine nx_then ?_
    refine t_ret ?_
    exact rt_post [HA.of (VP.bool (d.there s))] [[]] [] [] rfl ⟨(rv_eq (congrArg HA.of (congrArg VP.bool (show (decide (s < ((d.terms.length : Nat) : Int))) = d.there s from (by unfold ArD.there; simp only [decide_eq_decide]; omega)))) (rv_vp 7 rfl)), trivial⟩ (by decide) rfl rfl
  · have hc7 := of_decide_eq_false hb7
    refine t_rg [.bor (.val v) (ArO u1 u2 u3 u4 u5 u6 d.most), .bor (.val u6) (rowsInt d.table), .bor (.val u5) (R_u64 d.hashes), .bor (.val u4) (R_int d.of_), .bor (.val u3) (R_term d.terms), .bor (.val u2) (R_fun d.funs), .bor (.val u1) (R_sort d.sorts), .is (.tmp 0) (VP.ptr v), .is (.tmp 1) (VP.int .i64 s)] [(11, .is (.tmp 4) (VP.bool false))] [(0, .is (.tmp 5) (VP.int .i64 s)), (1, .is (.tmp 6) (VP.bool (decide (s ≥ 0)))), (2, .is (.tmp 7) (VP.bool (decide (s ≥ 0)))), (3, .is (.tmp 8) (VP.undef)), (4, .is (.tmp 9) (VP.undef)), (5, .is (.tmp 10) (VP.undef)), (6, .is (.tmp 11) (VP.undef)), (7, .is (.tmp 12) (VP.undef)), (8, .is (.tmp 13) (VP.undef)), (9, .is (.tmp 14) (VP.undef)), (10, .is (.tmp 15) (VP.bool false)), (11, .is (.tmp 4) (VP.bool false))] [] [0, 1, 2, 3, 4, 5, 6, 7, 8] [9] DagE_p46_1 DagE_s46_1 rfl rfl follow rfl ⟨
      wp rfl (does_move _ (.inl rfl) rfl rfl rfl rfl (ar_tmp (av_fs 8 rfl))),
      wp rfl (does_cmp (m := s) (n := 0) _ _ _ _ _ rfl rfl rfl rfl rfl rfl .i64 (ar_tmp (av_rs 0 0 rfl rfl)) (ar_const (fun _ _ => rfl))),
      wp rfl (does_move _ (.inl rfl) rfl rfl rfl rfl (ar_tmp (av_rs 1 1 rfl rfl))),
      .inr (skips_guardU false rfl rfl rfl (av_bool hb7 (av_rs 2 2 rfl rfl)) rfl rfl rfl rfl),
      .inr (skips_guardU false rfl rfl rfl (av_bool hb7 (av_rs 2 2 rfl rfl)) rfl rfl rfl rfl),
      .inr (skips_guardU false rfl rfl rfl (av_bool hb7 (av_rs 2 2 rfl rfl)) rfl rfl rfl rfl),
      .inr (skips_guardU false rfl rfl rfl (av_bool hb7 (av_rs 2 2 rfl rfl)) rfl rfl rfl rfl),
      .inr (skips_guardU false rfl rfl rfl (av_bool hb7 (av_rs 2 2 rfl rfl)) rfl rfl rfl rfl),
      .inr (skips_guardU false rfl rfl rfl (av_bool hb7 (av_rs 2 2 rfl rfl)) rfl rfl rfl rfl),
      .inr (skips_guardU false rfl rfl rfl (av_bool hb7 (av_rs 2 2 rfl rfl)) rfl rfl rfl rfl),
      wp rfl (does_pick false _ _ _ rfl rfl rfl rfl rfl (ar_tmp (av_bool hb7 (av_rs 2 2 rfl rfl))) (ar_const (fun _ _ => rfl))),
      wp rfl (does_move _ (.inr rfl) rfl rfl rfl rfl (ar_tmp (av_rs 10 10 rfl rfl))),
      trivial⟩ ?_
    refine t_pick [0, 1, 2, 3, 4, 5, 6, 20] rfl ?_
    refine nx_then ?_
    refine t_ret ?_
    exact rt_post [HA.of (VP.bool (d.there s))] [[]] [] [] rfl ⟨(rv_eq (congrArg HA.of (congrArg VP.bool (show false = d.there s from (decide_eq_false (by omega)).symm))) (rv_vp 7 rfl)), trivial⟩ (by decide) rfl rfl

set_option maxRecDepth 100000 in
set_option maxHeartbeats 4000000 in
theorem da_Constant {v : Value} {d : ArD} (hd : d.kidsOk) (x0 : Int) : SpecO Try.prog 49 [.vp (VP.ptr v), .vp (VP.int .i64 x0)] [(v, Arn d)] [] [] (HA.of (VP.bool (d.con x0))) := by
  refine spec_of 32 Try.func49 rfl Try.ntmps49 rfl fun w0 S0 Z0 Bf => ?_
  refine t_pick [2, 2, 0, 1] rfl ?_
  refine b_part (part_cells (T' := 64) (Rs := [R_sort d.sorts, R_fun d.funs, R_term d.terms, R_int d.of_, R_u64 d.hashes, rowsInt d.table, HA.of (VP.int .i64 d.most)]) 0 rfl) fun us => ?_
  refine b_part (part_cells (T' := 64) (Rs := [HA.of (VP.eq us true true), R_fun d.funs, R_term d.terms, R_int d.of_, R_u64 d.hashes, rowsInt d.table, HA.of (VP.int .i64 d.most)]) 1 rfl) fun uf => ?_
  refine b_part (part_cells (T' := 64) (Rs := [HA.of (VP.eq us true true), HA.of (VP.eq uf true true), R_term d.terms, R_int d.of_, R_u64 d.hashes, rowsInt d.table, HA.of (VP.int .i64 d.most)]) 2 rfl) fun ut => ?_
  refine b_part (part_cells (T' := 64) (Rs := [HA.of (VP.eq us true true), HA.of (VP.eq uf true true), HA.of (VP.eq ut true true), R_int d.of_, R_u64 d.hashes, rowsInt d.table, HA.of (VP.int .i64 d.most)]) 3 rfl) fun uo => ?_
  refine b_part (part_cells (T' := 64) (Rs := [HA.of (VP.eq us true true), HA.of (VP.eq uf true true), HA.of (VP.eq ut true true), HA.of (VP.eq uo true true), R_u64 d.hashes, rowsInt d.table, HA.of (VP.int .i64 d.most)]) 4 rfl) fun uh => ?_
  refine b_part (part_cells (T' := 64) (Rs := [HA.of (VP.eq us true true), HA.of (VP.eq uf true true), HA.of (VP.eq ut true true), HA.of (VP.eq uo true true), HA.of (VP.eq uh true true), rowsInt d.table, HA.of (VP.int .i64 d.most)]) 5 rfl) fun ub => ?_
  refine t_seq ?_
  refine t_rg [.bor (.val v) (ArO us uf ut uo uh ub d.most), .bor (.val ub) (rowsInt d.table), .bor (.val uh) (R_u64 d.hashes), .bor (.val uo) (R_int d.of_), .bor (.val ut) (R_term d.terms), .bor (.val uf) (R_fun d.funs), .bor (.val us) (R_sort d.sorts), .bor (.val v) (Arn d), .is (.tmp 0) (VP.ptr v), .is (.tmp 1) (VP.int .i64 x0)] [] [(0, .is (.tmp 4) (VP.bool false))] [] [0, 1, 2, 3, 4, 5, 6, 7, 8, 9] [] [[]] [[]] rfl rfl follow rfl ⟨
    wp rfl (does_move _ (.inr rfl) rfl rfl rfl rfl (ar_const (fun _ _ => rfl))),
    trivial⟩ ?_
  refine nx_then ?_
  refine t_seq ?_
  refine t_block ?_
  refine t_loop (τ := {p : Int × Nat // d.con x0 = d.cst p.2 p.1 ∧ p.1 < (p.2 : Int)}) (fun ⟨(x, f), _⟩ => [.is (.tmp 0) (VP.ptr v), .is (.tmp 1) (VP.int .i64 x), .bor (.val v) (ArO us uf ut uo uh ub d.most), .bor (.val us) (R_sort d.sorts), .bor (.val uf) (R_fun d.funs), .bor (.val ut) (R_term d.terms), .bor (.val uo) (R_int d.of_), .bor (.val uh) (R_u64 d.hashes), .bor (.val ub) (rowsInt d.table), .bor (.val v) (Arn d)]) (fun ⟨(x, f), _⟩ => f) (⟨(x0, x0.toNat + 1), rfl, (show x0 < ((x0.toNat + 1 : Nat) : Int) by omega)⟩) [8, 9, 0, 6, 5, 4, 3, 2, 1, 7] rfl ?_
  rintro ⟨⟨x, f⟩, hx, hf⟩
  have hx : d.con x0 = d.cst f x := hx
  have hf : x < (f : Int) := hf
  refine t_seq ?_
  refine t_seq ?_
  refine t_rg [.is (.tmp 0) (VP.ptr v), .is (.tmp 1) (VP.int .i64 x), .bor (.val v) (ArO us uf ut uo uh ub d.most), .bor (.val us) (R_sort d.sorts), .bor (.val uf) (R_fun d.funs), .bor (.val ut) (R_term d.terms), .bor (.val uo) (R_int d.of_), .bor (.val uh) (R_u64 d.hashes), .bor (.val ub) (rowsInt d.table), .bor (.val v) (Arn d)] [] [(0, .is (.tmp 6) (VP.ptr v)), (1, .is (.tmp 7) (VP.int .i64 x)), (2, .is (.tmp 8) (VP.bool (d.there x)))] [] [0, 1, 2, 3, 4, 5, 6, 7, 8, 9] [] [[], [], [0, 1]] [[2], [2], []] rfl rfl follow rfl ⟨
    wp rfl (does_move _ (.inl rfl) rfl rfl rfl rfl (ar_tmp (av_fs 0 rfl))),
    wp rfl (does_move _ (.inl rfl) rfl rfl rfl rfl (ar_tmp (av_fs 1 rfl))),
    wp rfl (does_call (da_there (v := v) (d := d) x) (fun _ _ _ _ h => h) rfl DagE_hb___collator_dag_Arena__there rfl rfl rfl rfl ar_clo (ars_cons (pa_vp (ar_tmp (av_rs 0 0 rfl rfl))) (ars_cons (pa_vp (ar_tmp (av_rs 1 1 rfl rfl))) ars_nil)) ⟨(brw_bor (av_fs 9 rfl)), trivial⟩),
    trivial⟩ ?_
  refine nx_then ?_
  refine t_split 12 rfl (fun hb1 => ?_) (fun hb1 => ?_)
  · have hth := hb1
    have hth2 := of_decide_eq_true hb1
    refine t_skip ?_
    refine nx_then ?_
    refine t_block ?_
    refine t_seq ?_
    refine t_rg [.is (.tmp 0) (VP.ptr v), .is (.tmp 1) (VP.int .i64 x), .bor (.val v) (ArO us uf ut uo uh ub d.most), .bor (.val us) (R_sort d.sorts), .bor (.val uf) (R_fun d.funs), .bor (.val ut) (R_term d.terms), .bor (.val uo) (R_int d.of_), .bor (.val uh) (R_u64 d.hashes), .bor (.val ub) (rowsInt d.table), .bor (.val v) (Arn d), .is (.tmp 6) (VP.ptr v), .is (.tmp 7) (VP.int .i64 x), .is (.tmp 8) (VP.bool (d.there x))] [] [(0, .is (.tmp 9) (VP.ptr v)), (1, .is (.tmp 10) (VP.ptr v)), (2, .pt 11 (.blk (.val v) 2)), (3, .is (.tmp 12) (VP.eq ut true true)), (4, .is (.tmp 13) (VP.int .i64 x)), (5, .pt 14 (.row (.val ut) (x.toNat * 4))), (6, .is (.tmp 15) (VP.agg [VP.int .i64 ((d.term_ x).op), VP.int .i64 ((d.term_ x).fn), O_int ((d.term_ x).kids), VP.str ((d.term_ x).num)])), (8, .own 101 (.tmp 5) (B_term (d.term_ x)))] [(7, 8, .own 101 (.tmp 5) (HA.cells 30 [HA.of (VP.int .i64 0), HA.of (VP.int .i64 0), HA.of (VP.nilS), HA.of (VP.str (ByteArray.mk #[]))]))] [0, 1, 2, 3, 4, 5, 6, 7, 8, 9, 10, 11, 12] [] DagE_p49_2 DagE_s49_2 rfl rfl follow rfl ⟨
      wp rfl (does_move _ (.inl rfl) rfl rfl rfl rfl (ar_tmp (av_fs 0 rfl))),
      wp rfl (does_nil _ rfl rfl rfl rfl rfl (ar_tmp (av_rs 0 0 rfl rfl))),
      wp rfl (does_field _ _ _ 2 DagE_f_dag_Arena_2 rfl rfl rfl rfl rfl rfl (pt_ptr (ar_tmp (av_rs 1 1 rfl rfl)))),
      wp rfl (does_loadOne _ DagE_one___api_Term rfl rfl rfl rfl rfl (pt_pt (av_rs 2 2 rfl rfl)) (rds_bbox (off := 2) (av_fs 2 rfl) (hq_one rfl))),
      wp rfl (does_move _ (.inl rfl) rfl rfl rfl rfl (ar_tmp (av_fs 1 rfl))),
      wp rfl (does_index (m := x.toNat) _ _ Try.underlying61 DagE_size_api_Term rfl rfl rfl rfl rfl _ (by omega) rfl (by omega) (sl_bor (av_fs 5 rfl) (ar_tmp (av_rs 3 3 rfl rfl))) (ar_int_eq (by omega) (ar_tmp (av_rs 4 4 rfl rfl)))),
      wp rfl (does_loadAgg (ps := [VP.int .i64 ((d.term_ x).op), VP.int .i64 ((d.term_ x).fn), O_int ((d.term_ x).kids), VP.str ((d.term_ x).num)]) _ DagE_agg_api_Term rfl rfl rfl rfl rfl (pt_pt (av_rs 5 5 rfl rfl)) (rds_brow (av_fs 5 rfl) (hq_flat cTerm_len (term_at hth) (by omega) rfl))),
      wp rfl (does_alloc (ps := [VP.int .i64 0, VP.int .i64 0, VP.nilS, VP.str (ByteArray.mk #[])]) DagE_zero_api_Term rfl rfl rfl rfl rfl rfl (fun _ _ => ⟨rfl, rfl, rfl, rfl, trivial⟩)),
      wp rfl (does_store (off := 0) (Qs := [HA.of (VP.int .i64 ((d.term_ x).op)), HA.of (VP.int .i64 ((d.term_ x).fn)), HA.of (O_int ((d.term_ x).kids)), HA.of (VP.str ((d.term_ x).num))]) _ _ DagE_size_api_Term rfl rfl rfl rfl rfl rfl (pt_box (av_ms 0 7 8 rfl rfl rfl)) (av_ms 0 7 8 rfl rfl rfl) (cv_agg (ps := [VP.int .i64 ((d.term_ x).op), VP.int .i64 ((d.term_ x).fn), O_int ((d.term_ x).kids), VP.str ((d.term_ x).num)]) (ar_tmp (av_rs 6 6 rfl rfl)))),
      trivial⟩ ?_
    refine nx_then ?_
    refine t_pick [20, 0, 1, 2, 3, 4, 5, 6, 7, 8, 9, 10, 11, 12, 13, 14, 15, 16, 17, 18, 19] rfl ?_
    refine t_nameP rfl fun c5 => ?_
    refine t_seq ?_
    refine t_seq ?_
    rcases Bool.eq_false_or_eq_true (((d.term_ x).op) != 18) with hb2 | hb2
    · have hc2 := (bne_iff_ne.1 hb2)
      refine t_rg [.own 101 (.val c5) (B_term (d.term_ x)), .is (.tmp 5) (VP.ptr c5), .is (.tmp 0) (VP.ptr v), .is (.tmp 1) (VP.int .i64 x), .bor (.val v) (ArO us uf ut uo uh ub d.most), .bor (.val us) (R_sort d.sorts), .bor (.val uf) (R_fun d.funs), .bor (.val ut) (R_term d.terms), .bor (.val uo) (R_int d.of_), .bor (.val uh) (R_u64 d.hashes), .bor (.val ub) (rowsInt d.table), .bor (.val v) (Arn d), .is (.tmp 6) (VP.ptr v), .is (.tmp 7) (VP.int .i64 x), .is (.tmp 8) (VP.bool (d.there x)), .is (.tmp 9) (VP.ptr v), .is (.tmp 10) (VP.ptr v), .pt 11 (.blk (.val v) 2), .is (.tmp 12) (VP.eq ut true true), .is (.tmp 13) (VP.int .i64 x), .pt 14 (.row (.val ut) (x.toNat * 4)), .is (.tmp 15) (VP.agg [VP.int .i64 ((d.term_ x).op), VP.int .i64 ((d.term_ x).fn), O_int ((d.term_ x).kids), VP.str ((d.term_ x).num)])] [] [(0, .pt 16 (.blk (.val c5) 0)), (1, .is (.tmp 17) (VP.int .i64 ((d.term_ x).op))), (2, .is (.tmp 18) (VP.bool (((d.term_ x).op) != 18))), (3, .is (.tmp 19) (VP.bool (((d.term_ x).op) != 18))), (4, .is (.tmp 20) (VP.undef)), (5, .is (.tmp 21) (VP.undef)), (6, .is (.tmp 22) (VP.undef)), (7, .is (.tmp 23) (VP.undef)), (8, .is (.tmp 24) (VP.bool true))] [] [0, 1, 2, 3, 4, 5, 6, 7, 8, 9, 10, 11, 12, 13, 14, 15, 16, 17, 18, 19, 20, 21] [] DagE_p49_3 DagE_s49_3 rfl rfl follow rfl ⟨
        wp rfl (does_field _ _ _ 0 DagE_f_api_Term_0 rfl rfl rfl rfl rfl rfl (pt_ptr (ar_tmp (av_fs 1 rfl)))),
        wp rfl (does_loadOne _ DagE_one_int rfl rfl rfl rfl rfl (pt_pt (av_rs 0 0 rfl rfl)) (rds_box (off := 0) (av_fs 0 rfl) (hq_one rfl))),
        wp rfl (does_cmp (m := (d.term_ x).op) (n := 18) _ _ _ _ _ rfl rfl rfl rfl rfl rfl .i64 (ar_tmp (av_rs 1 1 rfl rfl)) (ar_const (fun _ _ => rfl))),
        wp rfl (does_move _ (.inl rfl) rfl rfl rfl rfl (ar_tmp (av_rs 2 2 rfl rfl))),
        .inr (skips_guardU true rfl rfl rfl (av_bool hb2 (av_rs 3 3 rfl rfl)) rfl rfl rfl rfl),
        .inr (skips_guardU true rfl rfl rfl (av_bool hb2 (av_rs 3 3 rfl rfl)) rfl rfl rfl rfl),
        .inr (skips_guardU true rfl rfl rfl (av_bool hb2 (av_rs 3 3 rfl rfl)) rfl rfl rfl rfl),
        .inr (skips_guardU true rfl rfl rfl (av_bool hb2 (av_rs 3 3 rfl rfl)) rfl rfl rfl rfl),
        wp rfl (does_pick true _ _ _ rfl rfl rfl rfl rfl (ar_tmp (av_bool hb2 (av_rs 3 3 rfl rfl))) (ar_const (fun _ _ => rfl))),
        trivial⟩ ?_
      refine nx_then ?_
      refine t_cond_t 30 rfl ?_
      refine t_seq ?_
      refine t_rg [.own 101 (.val c5) (B_term (d.term_ x)), .is (.tmp 5) (VP.ptr c5), .is (.tmp 0) (VP.ptr v), .is (.tmp 1) (VP.int .i64 x), .bor (.val v) (ArO us uf ut uo uh ub d.most), .bor (.val us) (R_sort d.sorts), .bor (.val uf) (R_fun d.funs), .bor (.val ut) (R_term d.terms), .bor (.val uo) (R_int d.of_), .bor (.val uh) (R_u64 d.hashes), .bor (.val ub) (rowsInt d.table), .bor (.val v) (Arn d), .is (.tmp 6) (VP.ptr v), .is (.tmp 7) (VP.int .i64 x), .is (.tmp 8) (VP.bool (d.there x)), .is (.tmp 9) (VP.ptr v), .is (.tmp 10) (VP.ptr v), .pt 11 (.blk (.val v) 2), .is (.tmp 12) (VP.eq ut true true), .is (.tmp 13) (VP.int .i64 x), .pt 14 (.row (.val ut) (x.toNat * 4)), .is (.tmp 15) (VP.agg [VP.int .i64 ((d.term_ x).op), VP.int .i64 ((d.term_ x).fn), O_int ((d.term_ x).kids), VP.str ((d.term_ x).num)]), .pt 16 (.blk (.val c5) 0), .is (.tmp 17) (VP.int .i64 ((d.term_ x).op)), .is (.tmp 18) (VP.bool (((d.term_ x).op) != 18)), .is (.tmp 19) (VP.bool (((d.term_ x).op) != 18)), .is (.tmp 20) (VP.undef), .is (.tmp 21) (VP.undef), .is (.tmp 22) (VP.undef), .is (.tmp 23) (VP.undef), .is (.tmp 24) (VP.bool true)] [] [(0, .pt 25 (.blk (.val c5) 0)), (1, .is (.tmp 26) (VP.int .i64 ((d.term_ x).op))), (2, .is (.tmp 27) (VP.bool (((d.term_ x).op) == 4))), (3, .is (.tmp 4) (VP.bool (((d.term_ x).op) == 4)))] [] [0, 1, 2, 3, 4, 5, 6, 7, 8, 9, 10, 11, 12, 13, 14, 15, 16, 17, 18, 19, 20, 21, 22, 23, 24, 25, 26, 27, 28, 29, 30] [] [[], [0], [0, 1], [0, 1, 2]] [[1, 2, 3], [2, 3], [3], []] rfl rfl follow rfl ⟨
        wp rfl (does_field _ _ _ 0 DagE_f_api_Term_0 rfl rfl rfl rfl rfl rfl (pt_ptr (ar_tmp (av_fs 1 rfl)))),
        wp rfl (does_loadOne _ DagE_one_int rfl rfl rfl rfl rfl (pt_pt (av_rs 0 0 rfl rfl)) (rds_box (off := 0) (av_fs 0 rfl) (hq_one rfl))),
        wp rfl (does_cmp (m := (d.term_ x).op) (n := 4) _ _ _ _ _ rfl rfl rfl rfl rfl rfl .i64 (ar_tmp (av_rs 1 1 rfl rfl)) (ar_const (fun _ _ => rfl))),
        wp rfl (does_move _ (.inr rfl) rfl rfl rfl rfl (ar_tmp (av_rs 2 2 rfl rfl))),
        trivial⟩ ?_
      refine nx_then ?_
      refine t_ret ?_
      refine rt_then ?_
      refine rt_block ?_
      refine rt_then ?_
      refine rt_block ?_
      refine rt_then ?_
      exact rt_post [HA.of (VP.bool (d.con x0))] [[]] [] [] rfl ⟨(rv_eq (congrArg HA.of (congrArg VP.bool (show (((d.term_ x).op) == 4) = d.con x0 from (hx.trans (cst_end hf hb1 (by (try rw [hb2]); (try rfl)))).symm))) (rv_vp 34 rfl)), trivial⟩ (by decide) rfl rfl
    · have hc2 := (bne_eq_false_iff_eq.1 hb2)
      refine t_rg [.own 101 (.val c5) (B_term (d.term_ x)), .is (.tmp 5) (VP.ptr c5), .is (.tmp 0) (VP.ptr v), .is (.tmp 1) (VP.int .i64 x), .bor (.val v) (ArO us uf ut uo uh ub d.most), .bor (.val us) (R_sort d.sorts), .bor (.val uf) (R_fun d.funs), .bor (.val ut) (R_term d.terms), .bor (.val uo) (R_int d.of_), .bor (.val uh) (R_u64 d.hashes), .bor (.val ub) (rowsInt d.table), .bor (.val v) (Arn d), .is (.tmp 6) (VP.ptr v), .is (.tmp 7) (VP.int .i64 x), .is (.tmp 8) (VP.bool (d.there x)), .is (.tmp 9) (VP.ptr v), .is (.tmp 10) (VP.ptr v), .pt 11 (.blk (.val v) 2), .is (.tmp 12) (VP.eq ut true true), .is (.tmp 13) (VP.int .i64 x), .pt 14 (.row (.val ut) (x.toNat * 4)), .is (.tmp 15) (VP.agg [VP.int .i64 ((d.term_ x).op), VP.int .i64 ((d.term_ x).fn), O_int ((d.term_ x).kids), VP.str ((d.term_ x).num)])] [] [(0, .pt 16 (.blk (.val c5) 0)), (1, .is (.tmp 17) (VP.int .i64 ((d.term_ x).op))), (2, .is (.tmp 18) (VP.bool (((d.term_ x).op) != 18))), (3, .is (.tmp 19) (VP.bool (((d.term_ x).op) != 18))), (4, .pt 20 (.blk (.val c5) 2)), (5, .is (.tmp 21) (O_int ((d.term_ x).kids))), (6, .is (.tmp 22) (VP.int .i64 ((((d.term_ x).kids).length : Nat) : Int))), (7, .is (.tmp 23) (VP.bool (((((d.term_ x).kids).length : Nat) : Int) != 1))), (8, .is (.tmp 24) (VP.bool (((((d.term_ x).kids).length : Nat) : Int) != 1)))] [] [0, 1, 2, 3, 4, 5, 6, 7, 8, 9, 10, 11, 12, 13, 14, 15, 16, 17, 18, 19, 20, 21] [] DagE_p49_3 DagE_s49_3 rfl rfl follow rfl ⟨
        wp rfl (does_field _ _ _ 0 DagE_f_api_Term_0 rfl rfl rfl rfl rfl rfl (pt_ptr (ar_tmp (av_fs 1 rfl)))),
        wp rfl (does_loadOne _ DagE_one_int rfl rfl rfl rfl rfl (pt_pt (av_rs 0 0 rfl rfl)) (rds_box (off := 0) (av_fs 0 rfl) (hq_one rfl))),
        wp rfl (does_cmp (m := (d.term_ x).op) (n := 18) _ _ _ _ _ rfl rfl rfl rfl rfl rfl .i64 (ar_tmp (av_rs 1 1 rfl rfl)) (ar_const (fun _ _ => rfl))),
        wp rfl (does_move _ (.inl rfl) rfl rfl rfl rfl (ar_tmp (av_rs 2 2 rfl rfl))),
        .inl ⟨wants_guard false rfl rfl rfl (av_bool hb2 (av_rs 3 3 rfl rfl)), does_field _ _ _ 2 DagE_f_api_Term_2 rfl rfl rfl rfl rfl rfl (pt_ptr (ar_tmp (av_fs 1 rfl)))⟩,
        .inl ⟨wants_guard false rfl rfl rfl (av_bool hb2 (av_rs 3 3 rfl rfl)), does_loadOne _ DagE_one___int rfl rfl rfl rfl rfl (pt_pt (av_rs 4 4 rfl rfl)) (rds_box (off := 2) (av_fs 0 rfl) (hq_one rfl))⟩,
        .inl ⟨wants_guard false rfl rfl rfl (av_bool hb2 (av_rs 3 3 rfl rfl)), does_len _ _ (by kernel_rfl) rfl rfl rfl rfl rfl (sl_ro (av_rs 5 5 rfl rfl) (flat_nil_iff cInt_len (by decide) _))⟩,
        .inl ⟨wants_guard false rfl rfl rfl (av_bool hb2 (av_rs 3 3 rfl rfl)), does_cmp (m := ((((d.term_ x).kids).length : Nat) : Int)) (n := 1) _ _ _ _ _ rfl rfl rfl rfl rfl rfl .i64 (ar_tmp (av_rs 6 6 rfl rfl)) (ar_const (fun _ _ => rfl))⟩,
        wp rfl (does_pick false _ _ _ rfl rfl rfl rfl rfl (ar_tmp (av_bool hb2 (av_rs 3 3 rfl rfl))) (ar_tmp (av_rs 7 7 rfl rfl))),
        trivial⟩ ?_
      refine nx_then ?_
      refine t_split 30 rfl (fun hb3 => ?_) (fun hb3 => ?_)
      · have hc3 := (bne_iff_ne.1 hb3)
        refine t_seq ?_
        refine t_rg [.own 101 (.val c5) (B_term (d.term_ x)), .is (.tmp 5) (VP.ptr c5), .is (.tmp 0) (VP.ptr v), .is (.tmp 1) (VP.int .i64 x), .bor (.val v) (ArO us uf ut uo uh ub d.most), .bor (.val us) (R_sort d.sorts), .bor (.val uf) (R_fun d.funs), .bor (.val ut) (R_term d.terms), .bor (.val uo) (R_int d.of_), .bor (.val uh) (R_u64 d.hashes), .bor (.val ub) (rowsInt d.table), .bor (.val v) (Arn d), .is (.tmp 6) (VP.ptr v), .is (.tmp 7) (VP.int .i64 x), .is (.tmp 8) (VP.bool (d.there x)), .is (.tmp 9) (VP.ptr v), .is (.tmp 10) (VP.ptr v), .pt 11 (.blk (.val v) 2), .is (.tmp 12) (VP.eq ut true true), .is (.tmp 13) (VP.int .i64 x), .pt 14 (.row (.val ut) (x.toNat * 4)), .is (.tmp 15) (VP.agg [VP.int .i64 ((d.term_ x).op), VP.int .i64 ((d.term_ x).fn), O_int ((d.term_ x).kids), VP.str ((d.term_ x).num)]), .pt 16 (.blk (.val c5) 0), .is (.tmp 17) (VP.int .i64 ((d.term_ x).op)), .is (.tmp 18) (VP.bool (((d.term_ x).op) != 18)), .is (.tmp 19) (VP.bool (((d.term_ x).op) != 18)), .pt 20 (.blk (.val c5) 2), .is (.tmp 21) (O_int ((d.term_ x).kids)), .is (.tmp 22) (VP.int .i64 ((((d.term_ x).kids).length : Nat) : Int)), .is (.tmp 23) (VP.bool (((((d.term_ x).kids).length : Nat) : Int) != 1)), .is (.tmp 24) (VP.bool (((((d.term_ x).kids).length : Nat) : Int) != 1))] [] [(0, .pt 25 (.blk (.val c5) 0)), (1, .is (.tmp 26) (VP.int .i64 ((d.term_ x).op))), (2, .is (.tmp 27) (VP.bool (((d.term_ x).op) == 4))), (3, .is (.tmp 4) (VP.bool (((d.term_ x).op) == 4)))] [] [0, 1, 2, 3, 4, 5, 6, 7, 8, 9, 10, 11, 12, 13, 14, 15, 16, 17, 18, 19, 20, 21, 22, 23, 24, 25, 26, 27, 28, 29, 30] [] [[], [0], [0, 1], [0, 1, 2]] [[1, 2, 3], [2, 3], [3], []] rfl rfl follow rfl ⟨
          wp rfl (does_field _ _ _ 0 DagE_f_api_Term_0 rfl rfl rfl rfl rfl rfl (pt_ptr (ar_tmp (av_fs 1 rfl)))),
          wp rfl (does_loadOne _ DagE_one_int rfl rfl rfl rfl rfl (pt_pt (av_rs 0 0 rfl rfl)) (rds_box (off := 0) (av_fs 0 rfl) (hq_one rfl))),
          wp rfl (does_cmp (m := (d.term_ x).op) (n := 4) _ _ _ _ _ rfl rfl rfl rfl rfl rfl .i64 (ar_tmp (av_rs 1 1 rfl rfl)) (ar_const (fun _ _ => rfl))),
          wp rfl (does_move _ (.inr rfl) rfl rfl rfl rfl (ar_tmp (av_rs 2 2 rfl rfl))),
          trivial⟩ ?_
        refine nx_then ?_
        refine t_ret ?_
        refine rt_then ?_
        refine rt_block ?_
        refine rt_then ?_
        refine rt_block ?_
        refine rt_then ?_
        exact rt_post [HA.of (VP.bool (d.con x0))] [[]] [] [] rfl ⟨(rv_eq (congrArg HA.of (congrArg VP.bool (show (((d.term_ x).op) == 4) = d.con x0 from (hx.trans (cst_end hf hb1 (by (try rw [hb2]); (try rw [hb3]); (try rfl)))).symm))) (rv_vp 34 rfl)), trivial⟩ (by decide) rfl rfl
      · have hc3 := (bne_eq_false_iff_eq.1 hb3)
        have hkl := kid_lt hd hth (by omega)
        refine t_skip ?_
        refine nx_then ?_
        refine t_rg [.own 101 (.val c5) (B_term (d.term_ x)), .is (.tmp 5) (VP.ptr c5), .is (.tmp 0) (VP.ptr v), .bor (.val v) (ArO us uf ut uo uh ub d.most), .bor (.val us) (R_sort d.sorts), .bor (.val uf) (R_fun d.funs), .bor (.val ut) (R_term d.terms), .bor (.val uo) (R_int d.of_), .bor (.val uh) (R_u64 d.hashes), .bor (.val ub) (rowsInt d.table), .bor (.val v) (Arn d), .is (.tmp 6) (VP.ptr v), .is (.tmp 7) (VP.int .i64 x), .is (.tmp 8) (VP.bool (d.there x)), .is (.tmp 9) (VP.ptr v), .is (.tmp 10) (VP.ptr v), .pt 11 (.blk (.val v) 2), .is (.tmp 12) (VP.eq ut true true), .is (.tmp 13) (VP.int .i64 x), .pt 14 (.row (.val ut) (x.toNat * 4)), .is (.tmp 15) (VP.agg [VP.int .i64 ((d.term_ x).op), VP.int .i64 ((d.term_ x).fn), O_int ((d.term_ x).kids), VP.str ((d.term_ x).num)]), .pt 16 (.blk (.val c5) 0), .is (.tmp 17) (VP.int .i64 ((d.term_ x).op)), .is (.tmp 18) (VP.bool (((d.term_ x).op) != 18)), .is (.tmp 19) (VP.bool (((d.term_ x).op) != 18)), .pt 20 (.blk (.val c5) 2), .is (.tmp 21) (O_int ((d.term_ x).kids)), .is (.tmp 22) (VP.int .i64 ((((d.term_ x).kids).length : Nat) : Int)), .is (.tmp 23) (VP.bool (((((d.term_ x).kids).length : Nat) : Int) != 1)), .is (.tmp 24) (VP.bool (((((d.term_ x).kids).length : Nat) : Int) != 1))] [(4, .is (.tmp 1) (VP.int .i64 x))] [(0, .pt 28 (.blk (.val c5) 2)), (1, .is (.tmp 29) (O_int ((d.term_ x).kids))), (2, .pt 30 (.row (.tmp 29) (0 * 1))), (3, .is (.tmp 31) (VP.int .i64 (kid (d.term_ x) 0))), (4, .is (.tmp 1) (VP.int .i64 (kid (d.term_ x) 0)))] [] [0, 1, 2, 4, 5, 6, 7, 8, 9, 10, 11, 12, 13, 14, 15, 16, 17, 18, 19, 20, 21, 22, 23, 24, 25, 26, 27, 28, 29, 30] [3] DagE_p49_5 DagE_s49_5 rfl rfl follow rfl ⟨
          wp rfl (does_field _ _ _ 2 DagE_f_api_Term_2 rfl rfl rfl rfl rfl rfl (pt_ptr (ar_tmp (av_fs 1 rfl)))),
          wp rfl (does_loadOne _ DagE_one___int rfl rfl rfl rfl rfl (pt_pt (av_rs 0 0 rfl rfl)) (rds_box (off := 2) (av_fs 0 rfl) (hq_one rfl))),
          wp rfl (does_index (m := 0) _ _ Try.underlying28 DagE_size_int rfl rfl rfl rfl rfl _ (by omega) rfl (by omega) (sl_ro (av_rs 1 1 rfl rfl) (flat_nil_iff cInt_len (by decide) _)) (ar_int_eq (by omega) (ar_const (fun _ _ => rfl)))),
          wp rfl (does_loadOne _ DagE_one_int rfl rfl rfl rfl rfl (pt_pt (av_rs 2 2 rfl rfl)) (rds_ro (av_rs 1 1 rfl rfl) (hq_flatV1 cInt_len (at_getD (by omega)) 0 (by omega) rfl))),
          wp rfl (does_move _ (.inr rfl) rfl rfl rfl rfl (ar_tmp (av_rs 3 3 rfl rfl))),
          trivial⟩ ?_
        refine nx_block ?_
        refine nx_round (τ := {p : Int × Nat // d.con x0 = d.cst p.2 p.1 ∧ p.1 < (p.2 : Int)}) (I := fun ⟨(x, f), _⟩ => [.is (.tmp 0) (VP.ptr v), .is (.tmp 1) (VP.int .i64 x), .bor (.val v) (ArO us uf ut uo uh ub d.most), .bor (.val us) (R_sort d.sorts), .bor (.val uf) (R_fun d.funs), .bor (.val ut) (R_term d.terms), .bor (.val uo) (R_int d.of_), .bor (.val uh) (R_u64 d.hashes), .bor (.val ub) (rowsInt d.table), .bor (.val v) (Arn d)]) (μ := fun ⟨(x, f), _⟩ => f) (s := ⟨(x, f), hx, hf⟩) (⟨(kid (d.term_ x) 0, f - 1), hx.trans (cst_on hf hth (by (try rw [hb2]); (try rw [hb3]); (try rfl))), (show kid (d.term_ x) 0 < ((f - 1 : Nat) : Int) by omega)⟩) ?_ [2, 34, 3, 4, 5, 6, 7, 8, 9, 10] ?_
        · exact (show f - 1 < f by omega)
        · exact rfl
  · refine t_exit ?_
    refine ex_then ?_
    refine ex_then ?_
    refine ex_block ?_
    refine nx_then ?_
    refine t_pick [2, 3, 4, 5, 6, 7, 8, 9] rfl ?_
    refine t_seq ?_
    refine t_rg [.bor (.val v) (ArO us uf ut uo uh ub d.most), .bor (.val us) (R_sort d.sorts), .bor (.val uf) (R_fun d.funs), .bor (.val ut) (R_term d.terms), .bor (.val uo) (R_int d.of_), .bor (.val uh) (R_u64 d.hashes), .bor (.val ub) (rowsInt d.table), .bor (.val v) (Arn d)] [] [(0, .is (.tmp 4) (VP.bool false))] [] [0, 1, 2, 3, 4, 5, 6, 7] [] [[]] [[]] rfl rfl follow rfl ⟨
      wp rfl (does_move _ (.inr rfl) rfl rfl rfl rfl (ar_const (fun _ _ => rfl))),
      trivial⟩ ?_
    refine nx_then ?_
    refine t_ret ?_
    exact rt_post [HA.of (VP.bool (d.con x0))] [[]] [] [] rfl ⟨(rv_eq (congrArg HA.of (congrArg VP.bool (show false = d.con x0 from (hx.trans (cst_no hb1)).symm))) (rv_vp 8 rfl)), trivial⟩ (by decide) rfl rfl

set_option maxRecDepth 100000 in
set_option maxHeartbeats 4000000 in
theorem da_decimal (s : ByteArray) : SpecO Try.prog 52 [.vp (VP.str s)] [] [] [] (HA.of (VP.bool (decB s))) := by
  refine spec_of 38 Try.func52 rfl Try.ntmps52 rfl fun w0 S0 Z0 Bf => ?_
  refine t_seq ?_
  refine t_rg [.is (.tmp 0) (VP.str s)] [] [(0, .is (.tmp 2) (VP.bool false))] [] [0] [] [[]] [[]] rfl rfl follow rfl ⟨
    wp rfl (does_move _ (.inr rfl) rfl rfl rfl rfl (ar_const (fun _ _ => rfl))),
    trivial⟩ ?_
  refine nx_then ?_
  refine t_seq ?_
  refine t_cut (τ := Unit) (fun _ => [.is (.tmp 0) (VP.str s), .is (.tmp 21) (VP.bool (odd_ s))]) ?_ ?_
  · rcases Bool.eq_false_or_eq_true (((s.size : Nat) : Int) == 0) with hb1 | hb1
    · have hc1 := eq_of_beq hb1
      refine t_rg [.is (.tmp 0) (VP.str s), .is (.tmp 2) (VP.bool false)] [] [(0, .is (.tmp 4) (VP.str s)), (1, .is (.tmp 5) (VP.int .i64 ((s.size : Nat) : Int))), (2, .is (.tmp 6) (VP.bool (((s.size : Nat) : Int) == 0))), (3, .is (.tmp 7) (VP.bool (((s.size : Nat) : Int) == 0))), (4, .is (.tmp 8) (VP.undef)), (5, .is (.tmp 9) (VP.undef)), (6, .is (.tmp 10) (VP.undef)), (7, .is (.tmp 11) (VP.bool true)), (8, .is (.tmp 12) (VP.bool true)), (9, .is (.tmp 13) (VP.undef)), (10, .is (.tmp 14) (VP.undef)), (11, .is (.tmp 15) (VP.undef)), (12, .is (.tmp 16) (VP.undef)), (13, .is (.tmp 17) (VP.undef)), (14, .is (.tmp 18) (VP.undef)), (15, .is (.tmp 19) (VP.undef)), (16, .is (.tmp 20) (VP.undef)), (17, .is (.tmp 21) (VP.bool true))] [] [0, 1] [] DagE_p52_1 DagE_s52_1 rfl rfl follow rfl ⟨
        wp rfl (does_move _ (.inl rfl) rfl rfl rfl rfl (ar_tmp (av_fs 0 rfl))),
        wp rfl (does_lenStr _ _ Try.underlying9 rfl rfl rfl rfl rfl (ar_tmp (av_rs 0 0 rfl rfl))),
        wp rfl (does_cmp (m := ((s.size : Nat) : Int)) (n := 0) _ _ _ _ _ rfl rfl rfl rfl rfl rfl .i64 (ar_tmp (av_rs 1 1 rfl rfl)) (ar_const (fun _ _ => rfl))),
        wp rfl (does_move _ (.inl rfl) rfl rfl rfl rfl (ar_tmp (av_rs 2 2 rfl rfl))),
        .inr (skips_guardU true rfl rfl rfl (av_bool hb1 (av_rs 3 3 rfl rfl)) rfl rfl rfl rfl),
        .inr (skips_guardU true rfl rfl rfl (av_bool hb1 (av_rs 3 3 rfl rfl)) rfl rfl rfl rfl),
        .inr (skips_guardU true rfl rfl rfl (av_bool hb1 (av_rs 3 3 rfl rfl)) rfl rfl rfl rfl),
        wp rfl (does_pick true _ _ _ rfl rfl rfl rfl rfl (ar_tmp (av_bool hb1 (av_rs 3 3 rfl rfl))) (ar_const (fun _ _ => rfl))),
        wp rfl (does_move _ (.inl rfl) rfl rfl rfl rfl (ar_tmp (av_rs 7 7 rfl rfl))),
        .inr (skips_guardU true rfl rfl rfl (av_rs 8 8 rfl rfl) rfl rfl rfl rfl),
        .inr (skips_guardU true rfl rfl rfl (av_rs 8 8 rfl rfl) rfl rfl rfl rfl),
        .inr (skips_guardU true rfl rfl rfl (av_rs 8 8 rfl rfl) rfl rfl rfl rfl),
        .inr (skips_guardU true rfl rfl rfl (av_rs 8 8 rfl rfl) rfl rfl rfl rfl),
        .inr (skips_undefU true rfl rfl rfl (av_rs 12 12 rfl rfl) rfl rfl rfl rfl),
        .inr (skips_undefU true rfl rfl rfl (av_rs 12 12 rfl rfl) rfl rfl rfl rfl),
        .inr (skips_undefU true rfl rfl rfl (av_rs 12 12 rfl rfl) rfl rfl rfl rfl),
        .inr (skips_guardU true rfl rfl rfl (av_rs 8 8 rfl rfl) rfl rfl rfl rfl),
        wp rfl (does_pick true _ _ _ rfl rfl rfl rfl rfl (ar_tmp (av_rs 8 8 rfl rfl)) (ar_const (fun _ _ => rfl))),
        trivial⟩ ?_
      refine t_pick [0, 1, 19] rfl ?_
      refine t_pick [2, 0, 1] rfl ?_
      refine t_slot (y := VP.bool (odd_ s)) (fun _ _ _ h => by rw [show (odd_ s) = true from by unfold odd_; (try rw [hb1]); (try rfl)]; exact h) ?_
      refine nx_cut (τ := Unit) (J := fun _ => [.is (.tmp 0) (VP.str s), .is (.tmp 21) (VP.bool (odd_ s))]) () [1, 0] ?_
      exact rfl
    · have hc1 := ne_of_beq_false hb1
      rcases Bool.eq_false_or_eq_true (decide (((s.size : Nat) : Int) > 10000)) with hb2 | hb2
      · have hc2 := of_decide_eq_true hb2
        refine t_rg [.is (.tmp 0) (VP.str s), .is (.tmp 2) (VP.bool false)] [] [(0, .is (.tmp 4) (VP.str s)), (1, .is (.tmp 5) (VP.int .i64 ((s.size : Nat) : Int))), (2, .is (.tmp 6) (VP.bool (((s.size : Nat) : Int) == 0))), (3, .is (.tmp 7) (VP.bool (((s.size : Nat) : Int) == 0))), (4, .is (.tmp 8) (VP.str s)), (5, .is (.tmp 9) (VP.int .i64 ((s.size : Nat) : Int))), (6, .is (.tmp 10) (VP.bool (decide (((s.size : Nat) : Int) > 10000)))), (7, .is (.tmp 11) (VP.bool (decide (((s.size : Nat) : Int) > 10000)))), (8, .is (.tmp 12) (VP.bool (decide (((s.size : Nat) : Int) > 10000)))), (9, .is (.tmp 13) (VP.undef)), (10, .is (.tmp 14) (VP.undef)), (11, .is (.tmp 15) (VP.undef)), (12, .is (.tmp 16) (VP.undef)), (13, .is (.tmp 17) (VP.undef)), (14, .is (.tmp 18) (VP.undef)), (15, .is (.tmp 19) (VP.undef)), (16, .is (.tmp 20) (VP.undef)), (17, .is (.tmp 21) (VP.bool true))] [] [0, 1] [] DagE_p52_1 DagE_s52_1 rfl rfl follow rfl ⟨
          wp rfl (does_move _ (.inl rfl) rfl rfl rfl rfl (ar_tmp (av_fs 0 rfl))),
          wp rfl (does_lenStr _ _ Try.underlying9 rfl rfl rfl rfl rfl (ar_tmp (av_rs 0 0 rfl rfl))),
          wp rfl (does_cmp (m := ((s.size : Nat) : Int)) (n := 0) _ _ _ _ _ rfl rfl rfl rfl rfl rfl .i64 (ar_tmp (av_rs 1 1 rfl rfl)) (ar_const (fun _ _ => rfl))),
          wp rfl (does_move _ (.inl rfl) rfl rfl rfl rfl (ar_tmp (av_rs 2 2 rfl rfl))),
          .inl ⟨wants_guard false rfl rfl rfl (av_bool hb1 (av_rs 3 3 rfl rfl)), does_move _ (.inl rfl) rfl rfl rfl rfl (ar_tmp (av_fs 0 rfl))⟩,
          .inl ⟨wants_guard false rfl rfl rfl (av_bool hb1 (av_rs 3 3 rfl rfl)), does_lenStr _ _ Try.underlying9 rfl rfl rfl rfl rfl (ar_tmp (av_rs 4 4 rfl rfl))⟩,
          .inl ⟨wants_guard false rfl rfl rfl (av_bool hb1 (av_rs 3 3 rfl rfl)), does_cmp (m := ((s.size : Nat) : Int)) (n := 10000) _ _ _ _ _ rfl rfl rfl rfl rfl rfl .i64 (ar_tmp (av_rs 5 5 rfl rfl)) (ar_const (fun _ _ => rfl))⟩,
          wp rfl (does_pick false _ _ _ rfl rfl rfl rfl rfl (ar_tmp (av_bool hb1 (av_rs 3 3 rfl rfl))) (ar_tmp (av_rs 6 6 rfl rfl))),
          wp rfl (does_move _ (.inl rfl) rfl rfl rfl rfl (ar_tmp (av_rs 7 7 rfl rfl))),
          .inr (skips_guardU true rfl rfl rfl (av_bool hb2 (av_rs 8 8 rfl rfl)) rfl rfl rfl rfl),
          .inr (skips_guardU true rfl rfl rfl (av_bool hb2 (av_rs 8 8 rfl rfl)) rfl rfl rfl rfl),
          .inr (skips_guardU true rfl rfl rfl (av_bool hb2 (av_rs 8 8 rfl rfl)) rfl rfl rfl rfl),
          .inr (skips_guardU true rfl rfl rfl (av_bool hb2 (av_rs 8 8 rfl rfl)) rfl rfl rfl rfl),
          .inr (skips_undefU true rfl rfl rfl (av_rs 12 12 rfl rfl) rfl rfl rfl rfl),
          .inr (skips_undefU true rfl rfl rfl (av_rs 12 12 rfl rfl) rfl rfl rfl rfl),
          .inr (skips_undefU true rfl rfl rfl (av_rs 12 12 rfl rfl) rfl rfl rfl rfl),
          .inr (skips_guardU true rfl rfl rfl (av_bool hb2 (av_rs 8 8 rfl rfl)) rfl rfl rfl rfl),
          wp rfl (does_pick true _ _ _ rfl rfl rfl rfl rfl (ar_tmp (av_bool hb2 (av_rs 8 8 rfl rfl))) (ar_const (fun _ _ => rfl))),
          trivial⟩ ?_
        refine t_pick [0, 1, 19] rfl ?_
        refine t_pick [2, 0, 1] rfl ?_
        refine t_slot (y := VP.bool (odd_ s)) (fun _ _ _ h => by rw [show (odd_ s) = true from by unfold odd_; (try rw [hb1]); (try rw [hb2]); (try rfl)]; exact h) ?_
        refine nx_cut (τ := Unit) (J := fun _ => [.is (.tmp 0) (VP.str s), .is (.tmp 21) (VP.bool (odd_ s))]) () [1, 0] ?_
        exact rfl
      · have hc2 := of_decide_eq_false hb2
        rcases Bool.eq_false_or_eq_true (decide (((s.size : Nat) : Int) > 1)) with hb3 | hb3
        · have hc3 := of_decide_eq_true hb3
          refine t_rg [.is (.tmp 0) (VP.str s), .is (.tmp 2) (VP.bool false)] [] [(0, .is (.tmp 4) (VP.str s)), (1, .is (.tmp 5) (VP.int .i64 ((s.size : Nat) : Int))), (2, .is (.tmp 6) (VP.bool (((s.size : Nat) : Int) == 0))), (3, .is (.tmp 7) (VP.bool (((s.size : Nat) : Int) == 0))), (4, .is (.tmp 8) (VP.str s)), (5, .is (.tmp 9) (VP.int .i64 ((s.size : Nat) : Int))), (6, .is (.tmp 10) (VP.bool (decide (((s.size : Nat) : Int) > 10000)))), (7, .is (.tmp 11) (VP.bool (decide (((s.size : Nat) : Int) > 10000)))), (8, .is (.tmp 12) (VP.bool (decide (((s.size : Nat) : Int) > 10000)))), (9, .is (.tmp 13) (VP.str s)), (10, .is (.tmp 14) (VP.int .i64 ((s.size : Nat) : Int))), (11, .is (.tmp 15) (VP.bool (decide (((s.size : Nat) : Int) > 1)))), (12, .is (.tmp 16) (VP.bool (decide (((s.size : Nat) : Int) > 1)))), (13, .is (.tmp 17) (VP.str s)), (14, .is (.tmp 18) (VP.int .u8 ((chr s 0 : Nat) : Int))), (15, .is (.tmp 19) (VP.bool (((chr s 0 : Nat) : Int) == 48))), (16, .is (.tmp 20) (VP.bool (((chr s 0 : Nat) : Int) == 48))), (17, .is (.tmp 21) (VP.bool (((chr s 0 : Nat) : Int) == 48)))] [] [0, 1] [] DagE_p52_1 DagE_s52_1 rfl rfl follow rfl ⟨
            wp rfl (does_move _ (.inl rfl) rfl rfl rfl rfl (ar_tmp (av_fs 0 rfl))),
            wp rfl (does_lenStr _ _ Try.underlying9 rfl rfl rfl rfl rfl (ar_tmp (av_rs 0 0 rfl rfl))),
            wp rfl (does_cmp (m := ((s.size : Nat) : Int)) (n := 0) _ _ _ _ _ rfl rfl rfl rfl rfl rfl .i64 (ar_tmp (av_rs 1 1 rfl rfl)) (ar_const (fun _ _ => rfl))),
            wp rfl (does_move _ (.inl rfl) rfl rfl rfl rfl (ar_tmp (av_rs 2 2 rfl rfl))),
            .inl ⟨wants_guard false rfl rfl rfl (av_bool hb1 (av_rs 3 3 rfl rfl)), does_move _ (.inl rfl) rfl rfl rfl rfl (ar_tmp (av_fs 0 rfl))⟩,
            .inl ⟨wants_guard false rfl rfl rfl (av_bool hb1 (av_rs 3 3 rfl rfl)), does_lenStr _ _ Try.underlying9 rfl rfl rfl rfl rfl (ar_tmp (av_rs 4 4 rfl rfl))⟩,
            .inl ⟨wants_guard false rfl rfl rfl (av_bool hb1 (av_rs 3 3 rfl rfl)), does_cmp (m := ((s.size : Nat) : Int)) (n := 10000) _ _ _ _ _ rfl rfl rfl rfl rfl rfl .i64 (ar_tmp (av_rs 5 5 rfl rfl)) (ar_const (fun _ _ => rfl))⟩,
            wp rfl (does_pick false _ _ _ rfl rfl rfl rfl rfl (ar_tmp (av_bool hb1 (av_rs 3 3 rfl rfl))) (ar_tmp (av_rs 6 6 rfl rfl))),
            wp rfl (does_move _ (.inl rfl) rfl rfl rfl rfl (ar_tmp (av_rs 7 7 rfl rfl))),
            .inl ⟨wants_guard false rfl rfl rfl (av_bool hb2 (av_rs 8 8 rfl rfl)), does_move _ (.inl rfl) rfl rfl rfl rfl (ar_tmp (av_fs 0 rfl))⟩,
            .inl ⟨wants_guard false rfl rfl rfl (av_bool hb2 (av_rs 8 8 rfl rfl)), does_lenStr _ _ Try.underlying9 rfl rfl rfl rfl rfl (ar_tmp (av_rs 9 9 rfl rfl))⟩,
            .inl ⟨wants_guard false rfl rfl rfl (av_bool hb2 (av_rs 8 8 rfl rfl)), does_cmp (m := ((s.size : Nat) : Int)) (n := 1) _ _ _ _ _ rfl rfl rfl rfl rfl rfl .i64 (ar_tmp (av_rs 10 10 rfl rfl)) (ar_const (fun _ _ => rfl))⟩,
            .inl ⟨wants_guard false rfl rfl rfl (av_bool hb2 (av_rs 8 8 rfl rfl)), does_move _ (.inl rfl) rfl rfl rfl rfl (ar_tmp (av_rs 11 11 rfl rfl))⟩,
            .inl ⟨wants_guard true rfl rfl rfl (av_bool hb3 (av_rs 12 12 rfl rfl)), does_move _ (.inl rfl) rfl rfl rfl rfl (ar_tmp (av_fs 0 rfl))⟩,
            .inl ⟨wants_guard true rfl rfl rfl (av_bool hb3 (av_rs 12 12 rfl rfl)), does_indexStr (m := 0) (n := chr s 0) _ _ Try.underlying9 rfl rfl rfl rfl rfl (chr_at (by omega)) (ar_tmp (av_rs 13 13 rfl rfl)) (ar_int_eq (by omega) (ar_const (fun _ _ => rfl)))⟩,
            .inl ⟨wants_guard true rfl rfl rfl (av_bool hb3 (av_rs 12 12 rfl rfl)), does_cmp (m := ((chr s 0 : Nat) : Int)) (n := 48) _ _ _ _ _ rfl rfl rfl rfl rfl rfl .u8 (ar_tmp (av_rs 14 14 rfl rfl)) (ar_const (fun _ _ => rfl))⟩,
            .inl ⟨wants_guard false rfl rfl rfl (av_bool hb2 (av_rs 8 8 rfl rfl)), does_pick true _ _ _ rfl rfl rfl rfl rfl (ar_tmp (av_bool hb3 (av_rs 12 12 rfl rfl))) (ar_tmp (av_rs 15 15 rfl rfl))⟩,
            wp rfl (does_pick false _ _ _ rfl rfl rfl rfl rfl (ar_tmp (av_bool hb2 (av_rs 8 8 rfl rfl))) (ar_tmp (av_rs 16 16 rfl rfl))),
            trivial⟩ ?_
          refine t_pick [0, 1, 19] rfl ?_
          refine t_pick [2, 0, 1] rfl ?_
          refine t_slot (y := VP.bool (odd_ s)) (fun _ _ _ h => by rw [show (odd_ s) = (((chr s 0 : Nat) : Int) == 48) from by unfold odd_; (try rw [hb1]); (try rw [hb2]); (try rw [hb3]); (try rfl)]; exact h) ?_
          refine nx_cut (τ := Unit) (J := fun _ => [.is (.tmp 0) (VP.str s), .is (.tmp 21) (VP.bool (odd_ s))]) () [1, 0] ?_
          exact rfl
        · have hc3 := of_decide_eq_false hb3
          refine t_rg [.is (.tmp 0) (VP.str s), .is (.tmp 2) (VP.bool false)] [] [(0, .is (.tmp 4) (VP.str s)), (1, .is (.tmp 5) (VP.int .i64 ((s.size : Nat) : Int))), (2, .is (.tmp 6) (VP.bool (((s.size : Nat) : Int) == 0))), (3, .is (.tmp 7) (VP.bool (((s.size : Nat) : Int) == 0))), (4, .is (.tmp 8) (VP.str s)), (5, .is (.tmp 9) (VP.int .i64 ((s.size : Nat) : Int))), (6, .is (.tmp 10) (VP.bool (decide (((s.size : Nat) : Int) > 10000)))), (7, .is (.tmp 11) (VP.bool (decide (((s.size : Nat) : Int) > 10000)))), (8, .is (.tmp 12) (VP.bool (decide (((s.size : Nat) : Int) > 10000)))), (9, .is (.tmp 13) (VP.str s)), (10, .is (.tmp 14) (VP.int .i64 ((s.size : Nat) : Int))), (11, .is (.tmp 15) (VP.bool (decide (((s.size : Nat) : Int) > 1)))), (12, .is (.tmp 16) (VP.bool (decide (((s.size : Nat) : Int) > 1)))), (13, .is (.tmp 17) (VP.undef)), (14, .is (.tmp 18) (VP.undef)), (15, .is (.tmp 19) (VP.undef)), (16, .is (.tmp 20) (VP.bool false)), (17, .is (.tmp 21) (VP.bool false))] [] [0, 1] [] DagE_p52_1 DagE_s52_1 rfl rfl follow rfl ⟨
            wp rfl (does_move _ (.inl rfl) rfl rfl rfl rfl (ar_tmp (av_fs 0 rfl))),
            wp rfl (does_lenStr _ _ Try.underlying9 rfl rfl rfl rfl rfl (ar_tmp (av_rs 0 0 rfl rfl))),
            wp rfl (does_cmp (m := ((s.size : Nat) : Int)) (n := 0) _ _ _ _ _ rfl rfl rfl rfl rfl rfl .i64 (ar_tmp (av_rs 1 1 rfl rfl)) (ar_const (fun _ _ => rfl))),
            wp rfl (does_move _ (.inl rfl) rfl rfl rfl rfl (ar_tmp (av_rs 2 2 rfl rfl))),
            .inl ⟨wants_guard false rfl rfl rfl (av_bool hb1 (av_rs 3 3 rfl rfl)), does_move _ (.inl rfl) rfl rfl rfl rfl (ar_tmp (av_fs 0 rfl))⟩,
            .inl ⟨wants_guard false rfl rfl rfl (av_bool hb1 (av_rs 3 3 rfl rfl)), does_lenStr _ _ Try.underlying9 rfl rfl rfl rfl rfl (ar_tmp (av_rs 4 4 rfl rfl))⟩,
            .inl ⟨wants_guard false rfl rfl rfl (av_bool hb1 (av_rs 3 3 rfl rfl)), does_cmp (m := ((s.size : Nat) : Int)) (n := 10000) _ _ _ _ _ rfl rfl rfl rfl rfl rfl .i64 (ar_tmp (av_rs 5 5 rfl rfl)) (ar_const (fun _ _ => rfl))⟩,
            wp rfl (does_pick false _ _ _ rfl rfl rfl rfl rfl (ar_tmp (av_bool hb1 (av_rs 3 3 rfl rfl))) (ar_tmp (av_rs 6 6 rfl rfl))),
            wp rfl (does_move _ (.inl rfl) rfl rfl rfl rfl (ar_tmp (av_rs 7 7 rfl rfl))),
            .inl ⟨wants_guard false rfl rfl rfl (av_bool hb2 (av_rs 8 8 rfl rfl)), does_move _ (.inl rfl) rfl rfl rfl rfl (ar_tmp (av_fs 0 rfl))⟩,
            .inl ⟨wants_guard false rfl rfl rfl (av_bool hb2 (av_rs 8 8 rfl rfl)), does_lenStr _ _ Try.underlying9 rfl rfl rfl rfl rfl (ar_tmp (av_rs 9 9 rfl rfl))⟩,
            .inl ⟨wants_guard false rfl rfl rfl (av_bool hb2 (av_rs 8 8 rfl rfl)), does_cmp (m := ((s.size : Nat) : Int)) (n := 1) _ _ _ _ _ rfl rfl rfl rfl rfl rfl .i64 (ar_tmp (av_rs 10 10 rfl rfl)) (ar_const (fun _ _ => rfl))⟩,
            .inl ⟨wants_guard false rfl rfl rfl (av_bool hb2 (av_rs 8 8 rfl rfl)), does_move _ (.inl rfl) rfl rfl rfl rfl (ar_tmp (av_rs 11 11 rfl rfl))⟩,
            .inr (skips_guardU false rfl rfl rfl (av_bool hb3 (av_rs 12 12 rfl rfl)) rfl rfl rfl rfl),
            .inr (skips_guardU false rfl rfl rfl (av_bool hb3 (av_rs 12 12 rfl rfl)) rfl rfl rfl rfl),
            .inr (skips_guardU false rfl rfl rfl (av_bool hb3 (av_rs 12 12 rfl rfl)) rfl rfl rfl rfl),
            .inl ⟨wants_guard false rfl rfl rfl (av_bool hb2 (av_rs 8 8 rfl rfl)), does_pick false _ _ _ rfl rfl rfl rfl rfl (ar_tmp (av_bool hb3 (av_rs 12 12 rfl rfl))) (ar_const (fun _ _ => rfl))⟩,
            wp rfl (does_pick false _ _ _ rfl rfl rfl rfl rfl (ar_tmp (av_bool hb2 (av_rs 8 8 rfl rfl))) (ar_tmp (av_rs 16 16 rfl rfl))),
            trivial⟩ ?_
          refine t_pick [0, 1, 19] rfl ?_
          refine t_pick [2, 0, 1] rfl ?_
          refine t_slot (y := VP.bool (odd_ s)) (fun _ _ _ h => by rw [show (odd_ s) = false from by unfold odd_; (try rw [hb1]); (try rw [hb2]); (try rw [hb3]); (try rfl)]; exact h) ?_
          refine nx_cut (τ := Unit) (J := fun _ => [.is (.tmp 0) (VP.str s), .is (.tmp 21) (VP.bool (odd_ s))]) () [1, 0] ?_
          exact rfl
  · rintro _
    refine t_split 1 rfl (fun hb4 => ?_) (fun hb4 => ?_)
    · refine t_seq ?_
      refine t_rg [.is (.tmp 0) (VP.str s), .is (.tmp 21) (VP.bool (odd_ s))] [] [(0, .is (.tmp 2) (VP.bool false))] [] [0, 1] [] [[]] [[]] rfl rfl follow rfl ⟨
        wp rfl (does_move _ (.inr rfl) rfl rfl rfl rfl (ar_const (fun _ _ => rfl))),
        trivial⟩ ?_
      refine t_pick [0, 2] rfl ?_
      refine nx_then ?_
      refine t_ret ?_
      refine rt_then ?_
      exact rt_post [HA.of (VP.bool (decB s))] [[]] [] [] rfl ⟨(rv_eq (congrArg HA.of (congrArg VP.bool (show false = decB s from Eq.symm (by unfold decB; rw [hb4]; rfl)))) (rv_vp 1 rfl)), trivial⟩ (by decide) rfl rfl
    · refine t_skip ?_
      refine nx_then ?_
      refine t_seq ?_
      refine t_seq ?_
      refine t_rg [.is (.tmp 0) (VP.str s), .is (.tmp 21) (VP.bool (odd_ s))] [] [(0, .is (.tmp 22) (VP.str s)), (1, .is (.tmp 23) (VP.int .i64 ((s.size : Nat) : Int))), (2, .is (.tmp 24) (VP.int .i64 0))] [] [0, 1] [] [[], [0], []] [[1], [], []] rfl rfl follow rfl ⟨
        wp rfl (does_move _ (.inl rfl) rfl rfl rfl rfl (ar_tmp (av_fs 0 rfl))),
        wp rfl (does_lenStr _ _ Try.underlying9 rfl rfl rfl rfl rfl (ar_tmp (av_rs 0 0 rfl rfl))),
        wp rfl (does_move _ (.inl rfl) rfl rfl rfl rfl (ar_const (fun _ _ => rfl))),
        trivial⟩ ?_
      refine t_pick [0, 3, 4] rfl ?_
      refine nx_then ?_
      refine t_block ?_
      refine t_pick [2, 0, 1] rfl ?_
      refine t_slot (y := VP.int .i64 ((0 : Nat) : Int)) (fun _ _ _ h => h) ?_
      refine t_loop (τ := {i : Nat // odd_ s = false ∧ i ≤ s.size ∧ s.size ≤ 10000 ∧ digs s i = true}) (fun ⟨i, _⟩ => [.is (.tmp 0) (VP.str s), .is (.tmp 23) (VP.int .i64 ((s.size : Nat) : Int)), .is (.tmp 24) (VP.int .i64 ((i : Nat) : Int))]) (fun ⟨i, _⟩ => s.size - i) (⟨0, hb4, Nat.zero_le _, odd_small hb4, rfl⟩) [1, 2, 0] rfl ?_
      rintro ⟨i, ho, hi, hz, hdg⟩
      refine t_seq ?_
      refine t_rg [.is (.tmp 0) (VP.str s), .is (.tmp 23) (VP.int .i64 ((s.size : Nat) : Int)), .is (.tmp 24) (VP.int .i64 ((i : Nat) : Int))] [] [(0, .is (.tmp 25) (VP.bool (decide (((i : Nat) : Int) < ((s.size : Nat) : Int)))))] [] [0, 1, 2] [] [[]] [[]] rfl rfl follow rfl ⟨
        wp rfl (does_cmp (m := ((i : Nat) : Int)) (n := ((s.size : Nat) : Int)) _ _ _ _ _ rfl rfl rfl rfl rfl rfl .i64 (ar_tmp (av_fs 2 rfl)) (ar_tmp (av_fs 1 rfl))),
        trivial⟩ ?_
      refine nx_then ?_
      refine t_seq ?_
      refine t_split 3 rfl (fun hb5 => ?_) (fun hb5 => ?_)
      · have hc5 := of_decide_eq_true hb5
        have hi2 : i < s.size := by omega
        refine t_skip ?_
        refine nx_then ?_
        refine t_seq ?_
        refine t_block ?_
        refine t_seq ?_
        refine t_rg [.is (.tmp 0) (VP.str s), .is (.tmp 23) (VP.int .i64 ((s.size : Nat) : Int)), .is (.tmp 24) (VP.int .i64 ((i : Nat) : Int)), .is (.tmp 25) (VP.bool (decide (((i : Nat) : Int) < ((s.size : Nat) : Int))))] [] [(0, .is (.tmp 26) (VP.int .i64 ((i : Nat) : Int))), (1, .is (.tmp 3) (VP.int .i64 ((i : Nat) : Int)))] [] [0, 1, 2, 3] [] [[], [0]] [[1], []] rfl rfl follow rfl ⟨
          wp rfl (does_move _ (.inl rfl) rfl rfl rfl rfl (ar_tmp (av_fs 2 rfl))),
          wp rfl (does_move _ (.inr rfl) rfl rfl rfl rfl (ar_tmp (av_rs 0 0 rfl rfl))),
          trivial⟩ ?_
        refine nx_then ?_
        refine t_seq ?_
        rcases Bool.eq_false_or_eq_true (decide (((chr s i : Nat) : Int) < 48)) with hb6 | hb6
        · have hc6 := of_decide_eq_true hb6
          refine t_rg [.is (.tmp 0) (VP.str s), .is (.tmp 23) (VP.int .i64 ((s.size : Nat) : Int)), .is (.tmp 24) (VP.int .i64 ((i : Nat) : Int)), .is (.tmp 25) (VP.bool (decide (((i : Nat) : Int) < ((s.size : Nat) : Int)))), .is (.tmp 26) (VP.int .i64 ((i : Nat) : Int)), .is (.tmp 3) (VP.int .i64 ((i : Nat) : Int))] [] [(0, .is (.tmp 27) (VP.str s)), (1, .is (.tmp 28) (VP.int .i64 ((i : Nat) : Int))), (2, .is (.tmp 29) (VP.int .u8 ((chr s i : Nat) : Int))), (3, .is (.tmp 30) (VP.bool (decide (((chr s i : Nat) : Int) < 48)))), (4, .is (.tmp 31) (VP.bool (decide (((chr s i : Nat) : Int) < 48)))), (5, .is (.tmp 32) (VP.undef)), (6, .is (.tmp 33) (VP.undef)), (7, .is (.tmp 34) (VP.undef)), (8, .is (.tmp 35) (VP.undef)), (9, .is (.tmp 36) (VP.bool true))] [] [0, 1, 2, 3, 4, 5] [] DagE_p52_6 DagE_s52_6 rfl rfl follow rfl ⟨
            wp rfl (does_move _ (.inl rfl) rfl rfl rfl rfl (ar_tmp (av_fs 0 rfl))),
            wp rfl (does_move _ (.inl rfl) rfl rfl rfl rfl (ar_tmp (av_fs 5 rfl))),
            wp rfl (does_indexStr (m := i) (n := chr s i) _ _ Try.underlying9 rfl rfl rfl rfl rfl (chr_at (by omega)) (ar_tmp (av_rs 0 0 rfl rfl)) (ar_tmp (av_rs 1 1 rfl rfl))),
            wp rfl (does_cmp (m := ((chr s i : Nat) : Int)) (n := 48) _ _ _ _ _ rfl rfl rfl rfl rfl rfl .u8 (ar_tmp (av_rs 2 2 rfl rfl)) (ar_const (fun _ _ => rfl))),
            wp rfl (does_move _ (.inl rfl) rfl rfl rfl rfl (ar_tmp (av_rs 3 3 rfl rfl))),
            .inr (skips_guardU true rfl rfl rfl (av_bool hb6 (av_rs 4 4 rfl rfl)) rfl rfl rfl rfl),
            .inr (skips_guardU true rfl rfl rfl (av_bool hb6 (av_rs 4 4 rfl rfl)) rfl rfl rfl rfl),
            .inr (skips_guardU true rfl rfl rfl (av_bool hb6 (av_rs 4 4 rfl rfl)) rfl rfl rfl rfl),
            .inr (skips_guardU true rfl rfl rfl (av_bool hb6 (av_rs 4 4 rfl rfl)) rfl rfl rfl rfl),
            wp rfl (does_pick true _ _ _ rfl rfl rfl rfl rfl (ar_tmp (av_bool hb6 (av_rs 4 4 rfl rfl))) (ar_const (fun _ _ => rfl))),
            trivial⟩ ?_
          refine nx_then ?_
          refine t_cond_t 15 rfl ?_
          refine t_seq ?_
          refine t_rg [.is (.tmp 0) (VP.str s), .is (.tmp 23) (VP.int .i64 ((s.size : Nat) : Int)), .is (.tmp 24) (VP.int .i64 ((i : Nat) : Int)), .is (.tmp 25) (VP.bool (decide (((i : Nat) : Int) < ((s.size : Nat) : Int)))), .is (.tmp 26) (VP.int .i64 ((i : Nat) : Int)), .is (.tmp 3) (VP.int .i64 ((i : Nat) : Int)), .is (.tmp 27) (VP.str s), .is (.tmp 28) (VP.int .i64 ((i : Nat) : Int)), .is (.tmp 29) (VP.int .u8 ((chr s i : Nat) : Int)), .is (.tmp 30) (VP.bool (decide (((chr s i : Nat) : Int) < 48))), .is (.tmp 31) (VP.bool (decide (((chr s i : Nat) : Int) < 48))), .is (.tmp 32) (VP.undef), .is (.tmp 33) (VP.undef), .is (.tmp 34) (VP.undef), .is (.tmp 35) (VP.undef), .is (.tmp 36) (VP.bool true)] [] [(0, .is (.tmp 2) (VP.bool false))] [] [0, 1, 2, 3, 4, 5, 6, 7, 8, 9, 10, 11, 12, 13, 14, 15] [] [[]] [[]] rfl rfl follow rfl ⟨
            wp rfl (does_move _ (.inr rfl) rfl rfl rfl rfl (ar_const (fun _ _ => rfl))),
            trivial⟩ ?_
          refine nx_then ?_
          refine t_ret ?_
          refine rt_block ?_
          refine rt_then ?_
          refine rt_then ?_
          refine rt_block ?_
          refine rt_then ?_
          exact rt_post [HA.of (VP.bool (decB s))] [[]] [] [] rfl ⟨(rv_eq (congrArg HA.of (congrArg VP.bool (show false = decB s from Eq.symm (by unfold decB; rw [show odd_ s = false from ho, digs_no hi2 (by unfold dig; (try rw [hb6]); (try rfl))]; rfl)))) (rv_vp 16 rfl)), trivial⟩ (by decide) rfl rfl
        · have hc6 := of_decide_eq_false hb6
          refine t_rg [.is (.tmp 0) (VP.str s), .is (.tmp 23) (VP.int .i64 ((s.size : Nat) : Int)), .is (.tmp 24) (VP.int .i64 ((i : Nat) : Int)), .is (.tmp 25) (VP.bool (decide (((i : Nat) : Int) < ((s.size : Nat) : Int)))), .is (.tmp 26) (VP.int .i64 ((i : Nat) : Int)), .is (.tmp 3) (VP.int .i64 ((i : Nat) : Int))] [] [(0, .is (.tmp 27) (VP.str s)), (1, .is (.tmp 28) (VP.int .i64 ((i : Nat) : Int))), (2, .is (.tmp 29) (VP.int .u8 ((chr s i : Nat) : Int))), (3, .is (.tmp 30) (VP.bool (decide (((chr s i : Nat) : Int) < 48)))), (4, .is (.tmp 31) (VP.bool (decide (((chr s i : Nat) : Int) < 48)))), (5, .is (.tmp 32) (VP.str s)), (6, .is (.tmp 33) (VP.int .i64 ((i : Nat) : Int))), (7, .is (.tmp 34) (VP.int .u8 ((chr s i : Nat) : Int))), (8, .is (.tmp 35) (VP.bool (decide (((chr s i : Nat) : Int) > 57)))), (9, .is (.tmp 36) (VP.bool (decide (((chr s i : Nat) : Int) > 57))))] [] [0, 1, 2, 3, 4, 5] [] DagE_p52_6 DagE_s52_6 rfl rfl follow rfl ⟨
            wp rfl (does_move _ (.inl rfl) rfl rfl rfl rfl (ar_tmp (av_fs 0 rfl))),
            wp rfl (does_move _ (.inl rfl) rfl rfl rfl rfl (ar_tmp (av_fs 5 rfl))),
            wp rfl (does_indexStr (m := i) (n := chr s i) _ _ Try.underlying9 rfl rfl rfl rfl rfl (chr_at (by omega)) (ar_tmp (av_rs 0 0 rfl rfl)) (ar_tmp (av_rs 1 1 rfl rfl))),
            wp rfl (does_cmp (m := ((chr s i : Nat) : Int)) (n := 48) _ _ _ _ _ rfl rfl rfl rfl rfl rfl .u8 (ar_tmp (av_rs 2 2 rfl rfl)) (ar_const (fun _ _ => rfl))),
            wp rfl (does_move _ (.inl rfl) rfl rfl rfl rfl (ar_tmp (av_rs 3 3 rfl rfl))),
            .inl ⟨wants_guard false rfl rfl rfl (av_bool hb6 (av_rs 4 4 rfl rfl)), does_move _ (.inl rfl) rfl rfl rfl rfl (ar_tmp (av_fs 0 rfl))⟩,
            .inl ⟨wants_guard false rfl rfl rfl (av_bool hb6 (av_rs 4 4 rfl rfl)), does_move _ (.inl rfl) rfl rfl rfl rfl (ar_tmp (av_fs 5 rfl))⟩,
            .inl ⟨wants_guard false rfl rfl rfl (av_bool hb6 (av_rs 4 4 rfl rfl)), does_indexStr (m := i) (n := chr s i) _ _ Try.underlying9 rfl rfl rfl rfl rfl (chr_at (by omega)) (ar_tmp (av_rs 5 5 rfl rfl)) (ar_tmp (av_rs 6 6 rfl rfl))⟩,
            .inl ⟨wants_guard false rfl rfl rfl (av_bool hb6 (av_rs 4 4 rfl rfl)), does_cmp (m := ((chr s i : Nat) : Int)) (n := 57) _ _ _ _ _ rfl rfl rfl rfl rfl rfl .u8 (ar_tmp (av_rs 7 7 rfl rfl)) (ar_const (fun _ _ => rfl))⟩,
            wp rfl (does_pick false _ _ _ rfl rfl rfl rfl rfl (ar_tmp (av_bool hb6 (av_rs 4 4 rfl rfl))) (ar_tmp (av_rs 8 8 rfl rfl))),
            trivial⟩ ?_
          refine nx_then ?_
          refine t_split 15 rfl (fun hb7 => ?_) (fun hb7 => ?_)
          · have hc7 := of_decide_eq_true hb7
            refine t_seq ?_
            refine t_rg [.is (.tmp 0) (VP.str s), .is (.tmp 23) (VP.int .i64 ((s.size : Nat) : Int)), .is (.tmp 24) (VP.int .i64 ((i : Nat) : Int)), .is (.tmp 25) (VP.bool (decide (((i : Nat) : Int) < ((s.size : Nat) : Int)))), .is (.tmp 26) (VP.int .i64 ((i : Nat) : Int)), .is (.tmp 3) (VP.int .i64 ((i : Nat) : Int)), .is (.tmp 27) (VP.str s), .is (.tmp 28) (VP.int .i64 ((i : Nat) : Int)), .is (.tmp 29) (VP.int .u8 ((chr s i : Nat) : Int)), .is (.tmp 30) (VP.bool (decide (((chr s i : Nat) : Int) < 48))), .is (.tmp 31) (VP.bool (decide (((chr s i : Nat) : Int) < 48))), .is (.tmp 32) (VP.str s), .is (.tmp 33) (VP.int .i64 ((i : Nat) : Int)), .is (.tmp 34) (VP.int .u8 ((chr s i : Nat) : Int)), .is (.tmp 35) (VP.bool (decide (((chr s i : Nat) : Int) > 57))), .is (.tmp 36) (VP.bool (decide (((chr s i : Nat) : Int) > 57)))] [] [(0, .is (.tmp 2) (VP.bool false))] [] [0, 1, 2, 3, 4, 5, 6, 7, 8, 9, 10, 11, 12, 13, 14, 15] [] [[]] [[]] rfl rfl follow rfl ⟨
              wp rfl (does_move _ (.inr rfl) rfl rfl rfl rfl (ar_const (fun _ _ => rfl))),
              trivial⟩ ?_
            refine nx_then ?_
            refine t_ret ?_
            refine rt_block ?_
            refine rt_then ?_
            refine rt_then ?_
            refine rt_block ?_
            refine rt_then ?_
            exact rt_post [HA.of (VP.bool (decB s))] [[]] [] [] rfl ⟨(rv_eq (congrArg HA.of (congrArg VP.bool (show false = decB s from Eq.symm (by unfold decB; rw [show odd_ s = false from ho, digs_no hi2 (by unfold dig; (try rw [hb6]); (try rw [hb7]); (try rfl))]; rfl)))) (rv_vp 16 rfl)), trivial⟩ (by decide) rfl rfl
          · have hc7 := of_decide_eq_false hb7
            refine t_skip ?_
            refine nx_block ?_
            refine nx_then ?_
            refine t_rg [.is (.tmp 0) (VP.str s), .is (.tmp 23) (VP.int .i64 ((s.size : Nat) : Int)), .is (.tmp 25) (VP.bool (decide (((i : Nat) : Int) < ((s.size : Nat) : Int)))), .is (.tmp 26) (VP.int .i64 ((i : Nat) : Int)), .is (.tmp 3) (VP.int .i64 ((i : Nat) : Int)), .is (.tmp 27) (VP.str s), .is (.tmp 28) (VP.int .i64 ((i : Nat) : Int)), .is (.tmp 29) (VP.int .u8 ((chr s i : Nat) : Int)), .is (.tmp 30) (VP.bool (decide (((chr s i : Nat) : Int) < 48))), .is (.tmp 31) (VP.bool (decide (((chr s i : Nat) : Int) < 48))), .is (.tmp 32) (VP.str s), .is (.tmp 33) (VP.int .i64 ((i : Nat) : Int)), .is (.tmp 34) (VP.int .u8 ((chr s i : Nat) : Int)), .is (.tmp 35) (VP.bool (decide (((chr s i : Nat) : Int) > 57))), .is (.tmp 36) (VP.bool (decide (((chr s i : Nat) : Int) > 57)))] [(1, .is (.tmp 24) (VP.int .i64 ((i : Nat) : Int)))] [(0, .is (.tmp 37) (VP.int .i64 (((i + 1) : Nat) : Int))), (1, .is (.tmp 24) (VP.int .i64 (((i + 1) : Nat) : Int)))] [] [0, 1, 3, 4, 5, 6, 7, 8, 9, 10, 11, 12, 13, 14, 15] [2] [[], [0]] [[1], []] rfl rfl follow rfl ⟨
              wp rfl (does_addE (m := ((i : Nat) : Int)) (n := 1) (x := (((i + 1) : Nat) : Int)) (by omega) _ _ _ _ rfl rfl rfl rfl rfl (by omega) (ar_tmp (av_os 0 1 rfl rfl)) (ar_const (fun _ _ => rfl))),
              wp rfl (does_move _ (.inl rfl) rfl rfl rfl rfl (ar_tmp (av_rs 0 0 rfl rfl))),
              trivial⟩ ?_
            refine nx_round (τ := {i : Nat // odd_ s = false ∧ i ≤ s.size ∧ s.size ≤ 10000 ∧ digs s i = true}) (I := fun ⟨i, _⟩ => [.is (.tmp 0) (VP.str s), .is (.tmp 23) (VP.int .i64 ((s.size : Nat) : Int)), .is (.tmp 24) (VP.int .i64 ((i : Nat) : Int))]) (μ := fun ⟨i, _⟩ => s.size - i) (s := ⟨i, ho, hi, hz, hdg⟩) (⟨i + 1, ho, by omega, hz, by rw [digs_succ, hdg]; unfold dig; (try rw [hb6]); (try rw [hb7]); (try rfl)⟩) ?_ [0, 1, 16] ?_
            · exact (show s.size - (i + 1) < s.size - i by omega)
            · exact rfl
      · have hc5 := of_decide_eq_false hb5
        refine t_exit ?_
        refine ex_then ?_
        refine ex_then ?_
        refine ex_block ?_
        refine nx_then ?_
        refine t_pick [] rfl ?_
        refine t_seq ?_
        refine t_rg [] [] [(0, .is (.tmp 2) (VP.bool true))] [] [] [] [[]] [[]] rfl rfl follow rfl ⟨
          wp rfl (does_move _ (.inr rfl) rfl rfl rfl rfl (ar_const (fun _ _ => rfl))),
          trivial⟩ ?_
        refine nx_then ?_
        refine t_ret ?_
        exact rt_post [HA.of (VP.bool (decB s))] [[]] [] [] rfl ⟨(rv_eq (congrArg HA.of (congrArg VP.bool (show true = decB s from Eq.symm (by unfold decB; rw [show odd_ s = false from ho, show s.size = i by omega, hdg]; rfl)))) (rv_vp 0 rfl)), trivial⟩ (by decide) rfl rfl

set_option maxRecDepth 100000 in
set_option maxHeartbeats 4000000 in
theorem da_bare {v : Value} {d : ArD} (t : TermD) : SpecO Try.prog 44 [.vp (VP.ptr v), .vp (VP.agg [VP.int .i64 t.op, VP.int .i64 t.fn, O_int t.kids, VP.str t.num])] [(v, Arn d)] [] [] (HA.of (VP.int .i64 (d.bareE t))) := by
  refine spec_of 63 Try.func44 rfl Try.ntmps44 rfl fun w0 S0 Z0 Bf => ?_
  refine t_pick [2, 0, 1] rfl ?_
  refine b_part (part_cells (T' := 64) (Rs := [R_sort d.sorts, R_fun d.funs, R_term d.terms, R_int d.of_, R_u64 d.hashes, rowsInt d.table, HA.of (VP.int .i64 d.most)]) 0 rfl) fun us => ?_
  refine b_part (part_cells (T' := 64) (Rs := [HA.of (VP.eq us true true), R_fun d.funs, R_term d.terms, R_int d.of_, R_u64 d.hashes, rowsInt d.table, HA.of (VP.int .i64 d.most)]) 1 rfl) fun uf => ?_
  refine b_part (part_cells (T' := 64) (Rs := [HA.of (VP.eq us true true), HA.of (VP.eq uf true true), R_term d.terms, R_int d.of_, R_u64 d.hashes, rowsInt d.table, HA.of (VP.int .i64 d.most)]) 2 rfl) fun ut => ?_
  refine b_part (part_cells (T' := 64) (Rs := [HA.of (VP.eq us true true), HA.of (VP.eq uf true true), HA.of (VP.eq ut true true), R_int d.of_, R_u64 d.hashes, rowsInt d.table, HA.of (VP.int .i64 d.most)]) 3 rfl) fun uo => ?_
  refine b_part (part_cells (T' := 64) (Rs := [HA.of (VP.eq us true true), HA.of (VP.eq uf true true), HA.of (VP.eq ut true true), HA.of (VP.eq uo true true), R_u64 d.hashes, rowsInt d.table, HA.of (VP.int .i64 d.most)]) 4 rfl) fun uh => ?_
  refine b_part (part_cells (T' := 64) (Rs := [HA.of (VP.eq us true true), HA.of (VP.eq uf true true), HA.of (VP.eq ut true true), HA.of (VP.eq uo true true), HA.of (VP.eq uh true true), rowsInt d.table, HA.of (VP.int .i64 d.most)]) 5 rfl) fun ub => ?_
  refine t_seq ?_
  refine t_rg [.bor (.val v) (ArO us uf ut uo uh ub d.most), .bor (.val ub) (rowsInt d.table), .bor (.val uh) (R_u64 d.hashes), .bor (.val uo) (R_int d.of_), .bor (.val ut) (R_term d.terms), .bor (.val uf) (R_fun d.funs), .bor (.val us) (R_sort d.sorts), .is (.tmp 0) (VP.ptr v), .is (.tmp 1) (VP.agg [VP.int .i64 t.op, VP.int .i64 t.fn, O_int t.kids, VP.str t.num])] [] [(0, .own 101 (.tmp 3) (B_term t)), (1, .is (.tmp 4) (VP.int .i64 0))] [] [0, 1, 2, 3, 4, 5, 6, 7, 8] [] [[], []] [[], []] rfl rfl follow rfl ⟨
    wp rfl (does_box (Rs := [HA.of (VP.int .i64 t.op), HA.of (VP.int .i64 t.fn), HA.of (O_int t.kids), HA.of (VP.str t.num)]) _ rfl rfl rfl rfl rfl rfl (cv_agg (ps := [VP.int .i64 t.op, VP.int .i64 t.fn, O_int t.kids, VP.str t.num]) (ar_tmp (av_fs 8 rfl)))),
    wp rfl (does_move _ (.inr rfl) rfl rfl rfl rfl (ar_const (fun _ _ => rfl))),
    trivial⟩ ?_
  refine t_pick [0, 1, 2, 3, 4, 5, 6, 7, 9, 10] rfl ?_
  refine nx_then ?_
  refine t_pick [8, 0, 1, 2, 3, 4, 5, 6, 7, 9] rfl ?_
  refine t_nameP rfl fun c3 => ?_
  refine t_seq ?_
  refine t_block ?_
  refine t_cut (τ := Unit) (fun _ => [.is (.tmp 0) (VP.ptr v), .is (.tmp 3) (VP.ptr c3), .is (.tmp 5) (VP.bool (decide (t.op < 1) || decide (t.op > 19) || ((t.op != 3) && (t.fn != 0)))), .own 101 (.val c3) (B_term t), .bor (.val v) (ArO us uf ut uo uh ub d.most), .bor (.val us) (R_sort d.sorts), .bor (.val uf) (R_fun d.funs), .bor (.val ut) (R_term d.terms), .bor (.val uo) (R_int d.of_), .bor (.val uh) (R_u64 d.hashes), .bor (.val ub) (rowsInt d.table)]) ?_ ?_
  · rcases Bool.eq_false_or_eq_true (decide (t.op < 1)) with hb1 | hb1
    · have hc1 := of_decide_eq_true hb1
      refine t_rg [.own 101 (.val c3) (B_term t), .is (.tmp 3) (VP.ptr c3), .bor (.val v) (ArO us uf ut uo uh ub d.most), .bor (.val ub) (rowsInt d.table), .bor (.val uh) (R_u64 d.hashes), .bor (.val uo) (R_int d.of_), .bor (.val ut) (R_term d.terms), .bor (.val uf) (R_fun d.funs), .bor (.val us) (R_sort d.sorts), .is (.tmp 0) (VP.ptr v), .is (.tmp 4) (VP.int .i64 0)] [] [(0, .pt 6 (.blk (.val c3) 0)), (1, .is (.tmp 7) (VP.int .i64 t.op)), (2, .is (.tmp 8) (VP.bool (decide (t.op < 1)))), (3, .is (.tmp 9) (VP.bool (decide (t.op < 1)))), (4, .is (.tmp 10) (VP.undef)), (5, .is (.tmp 11) (VP.undef)), (6, .is (.tmp 12) (VP.undef)), (7, .is (.tmp 13) (VP.bool true)), (8, .is (.tmp 14) (VP.bool true)), (9, .is (.tmp 15) (VP.undef)), (10, .is (.tmp 16) (VP.undef)), (11, .is (.tmp 17) (VP.undef)), (12, .is (.tmp 18) (VP.undef)), (13, .is (.tmp 19) (VP.undef)), (14, .is (.tmp 20) (VP.undef)), (15, .is (.tmp 21) (VP.undef)), (16, .is (.tmp 22) (VP.undef)), (17, .is (.tmp 23) (VP.bool true)), (18, .is (.tmp 5) (VP.bool true))] [] [0, 1, 2, 3, 4, 5, 6, 7, 8, 9, 10] [] DagE_p44_1 DagE_s44_1 rfl rfl follow rfl ⟨
        wp rfl (does_field _ _ _ 0 DagE_f_api_Term_0 rfl rfl rfl rfl rfl rfl (pt_ptr (ar_tmp (av_fs 1 rfl)))),
        wp rfl (does_loadOne _ DagE_one_int rfl rfl rfl rfl rfl (pt_pt (av_rs 0 0 rfl rfl)) (rds_box (off := 0) (av_fs 0 rfl) (hq_one rfl))),
        wp rfl (does_cmp (m := t.op) (n := 1) _ _ _ _ _ rfl rfl rfl rfl rfl rfl .i64 (ar_tmp (av_rs 1 1 rfl rfl)) (ar_const (fun _ _ => rfl))),
        wp rfl (does_move _ (.inl rfl) rfl rfl rfl rfl (ar_tmp (av_rs 2 2 rfl rfl))),
        .inr (skips_guardU true rfl rfl rfl (av_bool hb1 (av_rs 3 3 rfl rfl)) rfl rfl rfl rfl),
        .inr (skips_guardU true rfl rfl rfl (av_bool hb1 (av_rs 3 3 rfl rfl)) rfl rfl rfl rfl),
        .inr (skips_guardU true rfl rfl rfl (av_bool hb1 (av_rs 3 3 rfl rfl)) rfl rfl rfl rfl),
        wp rfl (does_pick true _ _ _ rfl rfl rfl rfl rfl (ar_tmp (av_bool hb1 (av_rs 3 3 rfl rfl))) (ar_const (fun _ _ => rfl))),
        wp rfl (does_move _ (.inl rfl) rfl rfl rfl rfl (ar_tmp (av_rs 7 7 rfl rfl))),
        .inr (skips_guardU true rfl rfl rfl (av_rs 8 8 rfl rfl) rfl rfl rfl rfl),
        .inr (skips_guardU true rfl rfl rfl (av_rs 8 8 rfl rfl) rfl rfl rfl rfl),
        .inr (skips_guardU true rfl rfl rfl (av_rs 8 8 rfl rfl) rfl rfl rfl rfl),
        .inr (skips_guardU true rfl rfl rfl (av_rs 8 8 rfl rfl) rfl rfl rfl rfl),
        .inr (skips_undefU true rfl rfl rfl (av_rs 12 12 rfl rfl) rfl rfl rfl rfl),
        .inr (skips_undefU true rfl rfl rfl (av_rs 12 12 rfl rfl) rfl rfl rfl rfl),
        .inr (skips_undefU true rfl rfl rfl (av_rs 12 12 rfl rfl) rfl rfl rfl rfl),
        .inr (skips_guardU true rfl rfl rfl (av_rs 8 8 rfl rfl) rfl rfl rfl rfl),
        wp rfl (does_pick true _ _ _ rfl rfl rfl rfl rfl (ar_tmp (av_rs 8 8 rfl rfl)) (ar_const (fun _ _ => rfl))),
        wp rfl (does_move _ (.inr rfl) rfl rfl rfl rfl (ar_tmp (av_rs 17 17 rfl rfl))),
        trivial⟩ ?_
      refine t_pick [0, 1, 2, 3, 4, 5, 6, 7, 8, 9, 10, 29] rfl ?_
      refine t_pick [11, 0, 1, 2, 3, 4, 5, 6, 7, 8, 9, 10] rfl ?_
      refine t_slot (y := VP.bool (decide (t.op < 1) || decide (t.op > 19) || ((t.op != 3) && (t.fn != 0)))) (fun _ _ _ h => by rw [show (decide (t.op < 1) || decide (t.op > 19) || ((t.op != 3) && (t.fn != 0))) = true from by (try rw [hb1]); (try rfl)]; exact h) ?_
      refine nx_cut (τ := Unit) (J := fun _ => [.is (.tmp 0) (VP.ptr v), .is (.tmp 3) (VP.ptr c3), .is (.tmp 5) (VP.bool (decide (t.op < 1) || decide (t.op > 19) || ((t.op != 3) && (t.fn != 0)))), .own 101 (.val c3) (B_term t), .bor (.val v) (ArO us uf ut uo uh ub d.most), .bor (.val us) (R_sort d.sorts), .bor (.val uf) (R_fun d.funs), .bor (.val ut) (R_term d.terms), .bor (.val uo) (R_int d.of_), .bor (.val uh) (R_u64 d.hashes), .bor (.val ub) (rowsInt d.table)]) () [10, 2, 0, 1, 3, 9, 8, 7, 6, 5, 4] ?_
      exact rfl
    · have hc1 := of_decide_eq_false hb1
      rcases Bool.eq_false_or_eq_true (decide (t.op > 19)) with hb2 | hb2
      · have hc2 := of_decide_eq_true hb2
        refine t_rg [.own 101 (.val c3) (B_term t), .is (.tmp 3) (VP.ptr c3), .bor (.val v) (ArO us uf ut uo uh ub d.most), .bor (.val ub) (rowsInt d.table), .bor (.val uh) (R_u64 d.hashes), .bor (.val uo) (R_int d.of_), .bor (.val ut) (R_term d.terms), .bor (.val uf) (R_fun d.funs), .bor (.val us) (R_sort d.sorts), .is (.tmp 0) (VP.ptr v), .is (.tmp 4) (VP.int .i64 0)] [] [(0, .pt 6 (.blk (.val c3) 0)), (1, .is (.tmp 7) (VP.int .i64 t.op)), (2, .is (.tmp 8) (VP.bool (decide (t.op < 1)))), (3, .is (.tmp 9) (VP.bool (decide (t.op < 1)))), (4, .pt 10 (.blk (.val c3) 0)), (5, .is (.tmp 11) (VP.int .i64 t.op)), (6, .is (.tmp 12) (VP.bool (decide (t.op > 19)))), (7, .is (.tmp 13) (VP.bool (decide (t.op > 19)))), (8, .is (.tmp 14) (VP.bool (decide (t.op > 19)))), (9, .is (.tmp 15) (VP.undef)), (10, .is (.tmp 16) (VP.undef)), (11, .is (.tmp 17) (VP.undef)), (12, .is (.tmp 18) (VP.undef)), (13, .is (.tmp 19) (VP.undef)), (14, .is (.tmp 20) (VP.undef)), (15, .is (.tmp 21) (VP.undef)), (16, .is (.tmp 22) (VP.undef)), (17, .is (.tmp 23) (VP.bool true)), (18, .is (.tmp 5) (VP.bool true))] [] [0, 1, 2, 3, 4, 5, 6, 7, 8, 9, 10] [] DagE_p44_1 DagE_s44_1 rfl rfl follow rfl ⟨
          wp rfl (does_field _ _ _ 0 DagE_f_api_Term_0 rfl rfl rfl rfl rfl rfl (pt_ptr (ar_tmp (av_fs 1 rfl)))),
          wp rfl (does_loadOne _ DagE_one_int rfl rfl rfl rfl rfl (pt_pt (av_rs 0 0 rfl rfl)) (rds_box (off := 0) (av_fs 0 rfl) (hq_one rfl))),
          wp rfl (does_cmp (m := t.op) (n := 1) _ _ _ _ _ rfl rfl rfl rfl rfl rfl .i64 (ar_tmp (av_rs 1 1 rfl rfl)) (ar_const (fun _ _ => rfl))),
          wp rfl (does_move _ (.inl rfl) rfl rfl rfl rfl (ar_tmp (av_rs 2 2 rfl rfl))),
          .inl ⟨wants_guard false rfl rfl rfl (av_bool hb1 (av_rs 3 3 rfl rfl)), does_field _ _ _ 0 DagE_f_api_Term_0 rfl rfl rfl rfl rfl rfl (pt_ptr (ar_tmp (av_fs 1 rfl)))⟩,
          .inl ⟨wants_guard false rfl rfl rfl (av_bool hb1 (av_rs 3 3 rfl rfl)), does_loadOne _ DagE_one_int rfl rfl rfl rfl rfl (pt_pt (av_rs 4 4 rfl rfl)) (rds_box (off := 0) (av_fs 0 rfl) (hq_one rfl))⟩,
          .inl ⟨wants_guard false rfl rfl rfl (av_bool hb1 (av_rs 3 3 rfl rfl)), does_cmp (m := t.op) (n := 19) _ _ _ _ _ rfl rfl rfl rfl rfl rfl .i64 (ar_tmp (av_rs 5 5 rfl rfl)) (ar_const (fun _ _ => rfl))⟩,
          wp rfl (does_pick false _ _ _ rfl rfl rfl rfl rfl (ar_tmp (av_bool hb1 (av_rs 3 3 rfl rfl))) (ar_tmp (av_rs 6 6 rfl rfl))),
          wp rfl (does_move _ (.inl rfl) rfl rfl rfl rfl (ar_tmp (av_rs 7 7 rfl rfl))),
          .inr (skips_guardU true rfl rfl rfl (av_bool hb2 (av_rs 8 8 rfl rfl)) rfl rfl rfl rfl),
          .inr (skips_guardU true rfl rfl rfl (av_bool hb2 (av_rs 8 8 rfl rfl)) rfl rfl rfl rfl),
          .inr (skips_guardU true rfl rfl rfl (av_bool hb2 (av_rs 8 8 rfl rfl)) rfl rfl rfl rfl),
          .inr (skips_guardU true rfl rfl rfl (av_bool hb2 (av_rs 8 8 rfl rfl)) rfl rfl rfl rfl),
          .inr (skips_undefU true rfl rfl rfl (av_rs 12 12 rfl rfl) rfl rfl rfl rfl),
          .inr (skips_undefU true rfl rfl rfl (av_rs 12 12 rfl rfl) rfl rfl rfl rfl),
          .inr (skips_undefU true rfl rfl rfl (av_rs 12 12 rfl rfl) rfl rfl rfl rfl),
          .inr (skips_guardU true rfl rfl rfl (av_bool hb2 (av_rs 8 8 rfl rfl)) rfl rfl rfl rfl),
          wp rfl (does_pick true _ _ _ rfl rfl rfl rfl rfl (ar_tmp (av_bool hb2 (av_rs 8 8 rfl rfl))) (ar_const (fun _ _ => rfl))),
          wp rfl (does_move _ (.inr rfl) rfl rfl rfl rfl (ar_tmp (av_rs 17 17 rfl rfl))),
          trivial⟩ ?_
        refine t_pick [0, 1, 2, 3, 4, 5, 6, 7, 8, 9, 10, 29] rfl ?_
        refine t_pick [11, 0, 1, 2, 3, 4, 5, 6, 7, 8, 9, 10] rfl ?_
        refine t_slot (y := VP.bool (decide (t.op < 1) || decide (t.op > 19) || ((t.op != 3) && (t.fn != 0)))) (fun _ _ _ h => by rw [show (decide (t.op < 1) || decide (t.op > 19) || ((t.op != 3) && (t.fn != 0))) = true from by (try rw [hb1]); (try rw [hb2]); (try rfl)]; exact h) ?_
        refine nx_cut (τ := Unit) (J := fun _ => [.is (.tmp 0) (VP.ptr v), .is (.tmp 3) (VP.ptr c3), .is (.tmp 5) (VP.bool (decide (t.op < 1) || decide (t.op > 19) || ((t.op != 3) && (t.fn != 0)))), .own 101 (.val c3) (B_term t), .bor (.val v) (ArO us uf ut uo uh ub d.most), .bor (.val us) (R_sort d.sorts), .bor (.val uf) (R_fun d.funs), .bor (.val ut) (R_term d.terms), .bor (.val uo) (R_int d.of_), .bor (.val uh) (R_u64 d.hashes), .bor (.val ub) (rowsInt d.table)]) () [10, 2, 0, 1, 3, 9, 8, 7, 6, 5, 4] ?_
        exact rfl
      · have hc2 := of_decide_eq_false hb2
        rcases Bool.eq_false_or_eq_true (t.op != 3) with hb3 | hb3
        · have hc3 := (bne_iff_ne.1 hb3)
          refine t_rg [.own 101 (.val c3) (B_term t), .is (.tmp 3) (VP.ptr c3), .bor (.val v) (ArO us uf ut uo uh ub d.most), .bor (.val ub) (rowsInt d.table), .bor (.val uh) (R_u64 d.hashes), .bor (.val uo) (R_int d.of_), .bor (.val ut) (R_term d.terms), .bor (.val uf) (R_fun d.funs), .bor (.val us) (R_sort d.sorts), .is (.tmp 0) (VP.ptr v), .is (.tmp 4) (VP.int .i64 0)] [] [(0, .pt 6 (.blk (.val c3) 0)), (1, .is (.tmp 7) (VP.int .i64 t.op)), (2, .is (.tmp 8) (VP.bool (decide (t.op < 1)))), (3, .is (.tmp 9) (VP.bool (decide (t.op < 1)))), (4, .pt 10 (.blk (.val c3) 0)), (5, .is (.tmp 11) (VP.int .i64 t.op)), (6, .is (.tmp 12) (VP.bool (decide (t.op > 19)))), (7, .is (.tmp 13) (VP.bool (decide (t.op > 19)))), (8, .is (.tmp 14) (VP.bool (decide (t.op > 19)))), (9, .pt 15 (.blk (.val c3) 0)), (10, .is (.tmp 16) (VP.int .i64 t.op)), (11, .is (.tmp 17) (VP.bool (t.op != 3))), (12, .is (.tmp 18) (VP.bool (t.op != 3))), (13, .pt 19 (.blk (.val c3) 1)), (14, .is (.tmp 20) (VP.int .i64 t.fn)), (15, .is (.tmp 21) (VP.bool (t.fn != 0))), (16, .is (.tmp 22) (VP.bool (t.fn != 0))), (17, .is (.tmp 23) (VP.bool (t.fn != 0))), (18, .is (.tmp 5) (VP.bool (t.fn != 0)))] [] [0, 1, 2, 3, 4, 5, 6, 7, 8, 9, 10] [] DagE_p44_1 DagE_s44_1 rfl rfl follow rfl ⟨
            wp rfl (does_field _ _ _ 0 DagE_f_api_Term_0 rfl rfl rfl rfl rfl rfl (pt_ptr (ar_tmp (av_fs 1 rfl)))),
            wp rfl (does_loadOne _ DagE_one_int rfl rfl rfl rfl rfl (pt_pt (av_rs 0 0 rfl rfl)) (rds_box (off := 0) (av_fs 0 rfl) (hq_one rfl))),
            wp rfl (does_cmp (m := t.op) (n := 1) _ _ _ _ _ rfl rfl rfl rfl rfl rfl .i64 (ar_tmp (av_rs 1 1 rfl rfl)) (ar_const (fun _ _ => rfl))),
            wp rfl (does_move _ (.inl rfl) rfl rfl rfl rfl (ar_tmp (av_rs 2 2 rfl rfl))),
            .inl ⟨wants_guard false rfl rfl rfl (av_bool hb1 (av_rs 3 3 rfl rfl)), does_field _ _ _ 0 DagE_f_api_Term_0 rfl rfl rfl rfl rfl rfl (pt_ptr (ar_tmp (av_fs 1 rfl)))⟩,
            .inl ⟨wants_guard false rfl rfl rfl (av_bool hb1 (av_rs 3 3 rfl rfl)), does_loadOne _ DagE_one_int rfl rfl rfl rfl rfl (pt_pt (av_rs 4 4 rfl rfl)) (rds_box (off := 0) (av_fs 0 rfl) (hq_one rfl))⟩,
            .inl ⟨wants_guard false rfl rfl rfl (av_bool hb1 (av_rs 3 3 rfl rfl)), does_cmp (m := t.op) (n := 19) _ _ _ _ _ rfl rfl rfl rfl rfl rfl .i64 (ar_tmp (av_rs 5 5 rfl rfl)) (ar_const (fun _ _ => rfl))⟩,
            wp rfl (does_pick false _ _ _ rfl rfl rfl rfl rfl (ar_tmp (av_bool hb1 (av_rs 3 3 rfl rfl))) (ar_tmp (av_rs 6 6 rfl rfl))),
            wp rfl (does_move _ (.inl rfl) rfl rfl rfl rfl (ar_tmp (av_rs 7 7 rfl rfl))),
            .inl ⟨wants_guard false rfl rfl rfl (av_bool hb2 (av_rs 8 8 rfl rfl)), does_field _ _ _ 0 DagE_f_api_Term_0 rfl rfl rfl rfl rfl rfl (pt_ptr (ar_tmp (av_fs 1 rfl)))⟩,
            .inl ⟨wants_guard false rfl rfl rfl (av_bool hb2 (av_rs 8 8 rfl rfl)), does_loadOne _ DagE_one_int rfl rfl rfl rfl rfl (pt_pt (av_rs 9 9 rfl rfl)) (rds_box (off := 0) (av_fs 0 rfl) (hq_one rfl))⟩,
            .inl ⟨wants_guard false rfl rfl rfl (av_bool hb2 (av_rs 8 8 rfl rfl)), does_cmp (m := t.op) (n := 3) _ _ _ _ _ rfl rfl rfl rfl rfl rfl .i64 (ar_tmp (av_rs 10 10 rfl rfl)) (ar_const (fun _ _ => rfl))⟩,
            .inl ⟨wants_guard false rfl rfl rfl (av_bool hb2 (av_rs 8 8 rfl rfl)), does_move _ (.inl rfl) rfl rfl rfl rfl (ar_tmp (av_rs 11 11 rfl rfl))⟩,
            .inl ⟨wants_guard true rfl rfl rfl (av_bool hb3 (av_rs 12 12 rfl rfl)), does_field _ _ _ 1 DagE_f_api_Term_1 rfl rfl rfl rfl rfl rfl (pt_ptr (ar_tmp (av_fs 1 rfl)))⟩,
            .inl ⟨wants_guard true rfl rfl rfl (av_bool hb3 (av_rs 12 12 rfl rfl)), does_loadOne _ DagE_one_int rfl rfl rfl rfl rfl (pt_pt (av_rs 13 13 rfl rfl)) (rds_box (off := 1) (av_fs 0 rfl) (hq_one rfl))⟩,
            .inl ⟨wants_guard true rfl rfl rfl (av_bool hb3 (av_rs 12 12 rfl rfl)), does_cmp (m := t.fn) (n := 0) _ _ _ _ _ rfl rfl rfl rfl rfl rfl .i64 (ar_tmp (av_rs 14 14 rfl rfl)) (ar_const (fun _ _ => rfl))⟩,
            .inl ⟨wants_guard false rfl rfl rfl (av_bool hb2 (av_rs 8 8 rfl rfl)), does_pick true _ _ _ rfl rfl rfl rfl rfl (ar_tmp (av_bool hb3 (av_rs 12 12 rfl rfl))) (ar_tmp (av_rs 15 15 rfl rfl))⟩,
            wp rfl (does_pick false _ _ _ rfl rfl rfl rfl rfl (ar_tmp (av_bool hb2 (av_rs 8 8 rfl rfl))) (ar_tmp (av_rs 16 16 rfl rfl))),
            wp rfl (does_move _ (.inr rfl) rfl rfl rfl rfl (ar_tmp (av_rs 17 17 rfl rfl))),
            trivial⟩ ?_
          refine t_pick [0, 1, 2, 3, 4, 5, 6, 7, 8, 9, 10, 29] rfl ?_
          refine t_pick [11, 0, 1, 2, 3, 4, 5, 6, 7, 8, 9, 10] rfl ?_
          refine t_slot (y := VP.bool (decide (t.op < 1) || decide (t.op > 19) || ((t.op != 3) && (t.fn != 0)))) (fun _ _ _ h => by rw [show (decide (t.op < 1) || decide (t.op > 19) || ((t.op != 3) && (t.fn != 0))) = (t.fn != 0) from by (try rw [hb1]); (try rw [hb2]); (try rw [hb3]); (try rfl)]; exact h) ?_
          refine nx_cut (τ := Unit) (J := fun _ => [.is (.tmp 0) (VP.ptr v), .is (.tmp 3) (VP.ptr c3), .is (.tmp 5) (VP.bool (decide (t.op < 1) || decide (t.op > 19) || ((t.op != 3) && (t.fn != 0)))), .own 101 (.val c3) (B_term t), .bor (.val v) (ArO us uf ut uo uh ub d.most), .bor (.val us) (R_sort d.sorts), .bor (.val uf) (R_fun d.funs), .bor (.val ut) (R_term d.terms), .bor (.val uo) (R_int d.of_), .bor (.val uh) (R_u64 d.hashes), .bor (.val ub) (rowsInt d.table)]) () [10, 2, 0, 1, 3, 9, 8, 7, 6, 5, 4] ?_
          exact rfl
        · have hc3 := (bne_eq_false_iff_eq.1 hb3)
          refine t_rg [.own 101 (.val c3) (B_term t), .is (.tmp 3) (VP.ptr c3), .bor (.val v) (ArO us uf ut uo uh ub d.most), .bor (.val ub) (rowsInt d.table), .bor (.val uh) (R_u64 d.hashes), .bor (.val uo) (R_int d.of_), .bor (.val ut) (R_term d.terms), .bor (.val uf) (R_fun d.funs), .bor (.val us) (R_sort d.sorts), .is (.tmp 0) (VP.ptr v), .is (.tmp 4) (VP.int .i64 0)] [] [(0, .pt 6 (.blk (.val c3) 0)), (1, .is (.tmp 7) (VP.int .i64 t.op)), (2, .is (.tmp 8) (VP.bool (decide (t.op < 1)))), (3, .is (.tmp 9) (VP.bool (decide (t.op < 1)))), (4, .pt 10 (.blk (.val c3) 0)), (5, .is (.tmp 11) (VP.int .i64 t.op)), (6, .is (.tmp 12) (VP.bool (decide (t.op > 19)))), (7, .is (.tmp 13) (VP.bool (decide (t.op > 19)))), (8, .is (.tmp 14) (VP.bool (decide (t.op > 19)))), (9, .pt 15 (.blk (.val c3) 0)), (10, .is (.tmp 16) (VP.int .i64 t.op)), (11, .is (.tmp 17) (VP.bool (t.op != 3))), (12, .is (.tmp 18) (VP.bool (t.op != 3))), (13, .is (.tmp 19) (VP.undef)), (14, .is (.tmp 20) (VP.undef)), (15, .is (.tmp 21) (VP.undef)), (16, .is (.tmp 22) (VP.bool false)), (17, .is (.tmp 23) (VP.bool false)), (18, .is (.tmp 5) (VP.bool false))] [] [0, 1, 2, 3, 4, 5, 6, 7, 8, 9, 10] [] DagE_p44_1 DagE_s44_1 rfl rfl follow rfl ⟨
            wp rfl (does_field _ _ _ 0 DagE_f_api_Term_0 rfl rfl rfl rfl rfl rfl (pt_ptr (ar_tmp (av_fs 1 rfl)))),
            wp rfl (does_loadOne _ DagE_one_int rfl rfl rfl rfl rfl (pt_pt (av_rs 0 0 rfl rfl)) (rds_box (off := 0) (av_fs 0 rfl) (hq_one rfl))),
            wp rfl (does_cmp (m := t.op) (n := 1) _ _ _ _ _ rfl rfl rfl rfl rfl rfl .i64 (ar_tmp (av_rs 1 1 rfl rfl)) (ar_const (fun _ _ => rfl))),
            wp rfl (does_move _ (.inl rfl) rfl rfl rfl rfl (ar_tmp (av_rs 2 2 rfl rfl))),
            .inl ⟨wants_guard false rfl rfl rfl (av_bool hb1 (av_rs 3 3 rfl rfl)), does_field _ _ _ 0 DagE_f_api_Term_0 rfl rfl rfl rfl rfl rfl (pt_ptr (ar_tmp (av_fs 1 rfl)))⟩,
            .inl ⟨wants_guard false rfl rfl rfl (av_bool hb1 (av_rs 3 3 rfl rfl)), does_loadOne _ DagE_one_int rfl rfl rfl rfl rfl (pt_pt (av_rs 4 4 rfl rfl)) (rds_box (off := 0) (av_fs 0 rfl) (hq_one rfl))⟩,
            .inl ⟨wants_guard false rfl rfl rfl (av_bool hb1 (av_rs 3 3 rfl rfl)), does_cmp (m := t.op) (n := 19) _ _ _ _ _ rfl rfl rfl rfl rfl rfl .i64 (ar_tmp (av_rs 5 5 rfl rfl)) (ar_const (fun _ _ => rfl))⟩,
            wp rfl (does_pick false _ _ _ rfl rfl rfl rfl rfl (ar_tmp (av_bool hb1 (av_rs 3 3 rfl rfl))) (ar_tmp (av_rs 6 6 rfl rfl))),
            wp rfl (does_move _ (.inl rfl) rfl rfl rfl rfl (ar_tmp (av_rs 7 7 rfl rfl))),
            .inl ⟨wants_guard false rfl rfl rfl (av_bool hb2 (av_rs 8 8 rfl rfl)), does_field _ _ _ 0 DagE_f_api_Term_0 rfl rfl rfl rfl rfl rfl (pt_ptr (ar_tmp (av_fs 1 rfl)))⟩,
            .inl ⟨wants_guard false rfl rfl rfl (av_bool hb2 (av_rs 8 8 rfl rfl)), does_loadOne _ DagE_one_int rfl rfl rfl rfl rfl (pt_pt (av_rs 9 9 rfl rfl)) (rds_box (off := 0) (av_fs 0 rfl) (hq_one rfl))⟩,
            .inl ⟨wants_guard false rfl rfl rfl (av_bool hb2 (av_rs 8 8 rfl rfl)), does_cmp (m := t.op) (n := 3) _ _ _ _ _ rfl rfl rfl rfl rfl rfl .i64 (ar_tmp (av_rs 10 10 rfl rfl)) (ar_const (fun _ _ => rfl))⟩,
            .inl ⟨wants_guard false rfl rfl rfl (av_bool hb2 (av_rs 8 8 rfl rfl)), does_move _ (.inl rfl) rfl rfl rfl rfl (ar_tmp (av_rs 11 11 rfl rfl))⟩,
            .inr (skips_guardU false rfl rfl rfl (av_bool hb3 (av_rs 12 12 rfl rfl)) rfl rfl rfl rfl),
            .inr (skips_guardU false rfl rfl rfl (av_bool hb3 (av_rs 12 12 rfl rfl)) rfl rfl rfl rfl),
            .inr (skips_guardU false rfl rfl rfl (av_bool hb3 (av_rs 12 12 rfl rfl)) rfl rfl rfl rfl),
            .inl ⟨wants_guard false rfl rfl rfl (av_bool hb2 (av_rs 8 8 rfl rfl)), does_pick false _ _ _ rfl rfl rfl rfl rfl (ar_tmp (av_bool hb3 (av_rs 12 12 rfl rfl))) (ar_const (fun _ _ => rfl))⟩,
            wp rfl (does_pick false _ _ _ rfl rfl rfl rfl rfl (ar_tmp (av_bool hb2 (av_rs 8 8 rfl rfl))) (ar_tmp (av_rs 16 16 rfl rfl))),
            wp rfl (does_move _ (.inr rfl) rfl rfl rfl rfl (ar_tmp (av_rs 17 17 rfl rfl))),
            trivial⟩ ?_
          refine t_pick [0, 1, 2, 3, 4, 5, 6, 7, 8, 9, 10, 29] rfl ?_
          refine t_pick [11, 0, 1, 2, 3, 4, 5, 6, 7, 8, 9, 10] rfl ?_
          refine t_slot (y := VP.bool (decide (t.op < 1) || decide (t.op > 19) || ((t.op != 3) && (t.fn != 0)))) (fun _ _ _ h => by rw [show (decide (t.op < 1) || decide (t.op > 19) || ((t.op != 3) && (t.fn != 0))) = false from by (try rw [hb1]); (try rw [hb2]); (try rw [hb3]); (try rfl)]; exact h) ?_
          refine nx_cut (τ := Unit) (J := fun _ => [.is (.tmp 0) (VP.ptr v), .is (.tmp 3) (VP.ptr c3), .is (.tmp 5) (VP.bool (decide (t.op < 1) || decide (t.op > 19) || ((t.op != 3) && (t.fn != 0)))), .own 101 (.val c3) (B_term t), .bor (.val v) (ArO us uf ut uo uh ub d.most), .bor (.val us) (R_sort d.sorts), .bor (.val uf) (R_fun d.funs), .bor (.val ut) (R_term d.terms), .bor (.val uo) (R_int d.of_), .bor (.val uh) (R_u64 d.hashes), .bor (.val ub) (rowsInt d.table)]) () [10, 2, 0, 1, 3, 9, 8, 7, 6, 5, 4] ?_
          exact rfl
  · rintro _
    refine t_split 2 rfl (fun hb4 => ?_) (fun hb4 => ?_)
    · refine t_seq ?_
      refine t_rg [.is (.tmp 0) (VP.ptr v), .is (.tmp 3) (VP.ptr c3), .is (.tmp 5) (VP.bool (decide (t.op < 1) || decide (t.op > 19) || ((t.op != 3) && (t.fn != 0)))), .own 101 (.val c3) (B_term t), .bor (.val v) (ArO us uf ut uo uh ub d.most), .bor (.val us) (R_sort d.sorts), .bor (.val uf) (R_fun d.funs), .bor (.val ut) (R_term d.terms), .bor (.val uo) (R_int d.of_), .bor (.val uh) (R_u64 d.hashes), .bor (.val ub) (rowsInt d.table)] [] [(0, .is (.tmp 4) (VP.int .i64 1))] [] [0, 1, 2, 3, 4, 5, 6, 7, 8, 9, 10] [] [[]] [[]] rfl rfl follow rfl ⟨
        wp rfl (does_move _ (.inr rfl) rfl rfl rfl rfl (ar_const (fun _ _ => rfl))),
        trivial⟩ ?_
      refine t_pick [3, 4, 5, 6, 7, 8, 9, 10, 11] rfl ?_
      refine nx_then ?_
      refine t_ret ?_
      refine rt_block ?_
      refine rt_then ?_
      exact rt_post [HA.of (VP.int .i64 (d.bareE t))] [[]] [] [] rfl ⟨(rv_eq (congrArg HA.of (congrArg (VP.int .i64) (show 1 = (d.bareE t) from Eq.symm (by unfold ArD.bareE; (try rw [hb4]); (try rfl))))) (rv_vp 8 rfl)), trivial⟩ (by decide) rfl rfl
    · refine t_cut (τ := Unit) (fun _ => [.is (.tmp 0) (VP.ptr v), .is (.tmp 3) (VP.ptr c3), .is (.tmp 24) (VP.bool (((t.op == 4) && !(decB t.num)) || ((t.op != 4) && !(t.num.toList == (ByteArray.mk #[]).toList)))), .own 101 (.val c3) (B_term t), .bor (.val v) (ArO us uf ut uo uh ub d.most), .bor (.val us) (R_sort d.sorts), .bor (.val uf) (R_fun d.funs), .bor (.val ut) (R_term d.terms), .bor (.val uo) (R_int d.of_), .bor (.val uh) (R_u64 d.hashes), .bor (.val ub) (rowsInt d.table)]) ?_ ?_
      · rcases Bool.eq_false_or_eq_true (t.op == 4) with hb5 | hb5
        · have hc5 := eq_of_beq hb5
          rcases Bool.eq_false_or_eq_true (!(decB t.num)) with hb6 | hb6
          · refine t_rg [.is (.tmp 0) (VP.ptr v), .is (.tmp 3) (VP.ptr c3), .is (.tmp 5) (VP.bool (decide (t.op < 1) || decide (t.op > 19) || ((t.op != 3) && (t.fn != 0)))), .own 101 (.val c3) (B_term t), .bor (.val v) (ArO us uf ut uo uh ub d.most), .bor (.val us) (R_sort d.sorts), .bor (.val uf) (R_fun d.funs), .bor (.val ut) (R_term d.terms), .bor (.val uo) (R_int d.of_), .bor (.val uh) (R_u64 d.hashes), .bor (.val ub) (rowsInt d.table)] [] [(0, .pt 25 (.blk (.val c3) 0)), (1, .is (.tmp 26) (VP.int .i64 t.op)), (2, .is (.tmp 27) (VP.bool (t.op == 4))), (3, .is (.tmp 28) (VP.bool (t.op == 4))), (4, .pt 29 (.blk (.val c3) 3)), (5, .is (.tmp 30) (VP.str t.num)), (6, .is (.tmp 31) (VP.bool (decB t.num))), (7, .is (.tmp 32) (VP.bool (!(decB t.num)))), (8, .is (.tmp 33) (VP.bool (!(decB t.num)))), (9, .is (.tmp 34) (VP.bool (!(decB t.num)))), (10, .is (.tmp 35) (VP.undef)), (11, .is (.tmp 36) (VP.undef)), (12, .is (.tmp 37) (VP.undef)), (13, .is (.tmp 38) (VP.undef)), (14, .is (.tmp 39) (VP.undef)), (15, .is (.tmp 40) (VP.undef)), (16, .is (.tmp 41) (VP.undef)), (17, .is (.tmp 42) (VP.undef)), (18, .is (.tmp 43) (VP.bool true)), (19, .is (.tmp 24) (VP.bool true))] [] [0, 1, 2, 3, 4, 5, 6, 7, 8, 9, 10] [] DagE_p44_3 DagE_s44_3 rfl rfl follow rfl ⟨
              wp rfl (does_field _ _ _ 0 DagE_f_api_Term_0 rfl rfl rfl rfl rfl rfl (pt_ptr (ar_tmp (av_fs 1 rfl)))),
              wp rfl (does_loadOne _ DagE_one_int rfl rfl rfl rfl rfl (pt_pt (av_rs 0 0 rfl rfl)) (rds_box (off := 0) (av_fs 3 rfl) (hq_one rfl))),
              wp rfl (does_cmp (m := t.op) (n := 4) _ _ _ _ _ rfl rfl rfl rfl rfl rfl .i64 (ar_tmp (av_rs 1 1 rfl rfl)) (ar_const (fun _ _ => rfl))),
              wp rfl (does_move _ (.inl rfl) rfl rfl rfl rfl (ar_tmp (av_rs 2 2 rfl rfl))),
              .inl ⟨wants_guard true rfl rfl rfl (av_bool hb5 (av_rs 3 3 rfl rfl)), does_field _ _ _ 3 DagE_f_api_Term_3 rfl rfl rfl rfl rfl rfl (pt_ptr (ar_tmp (av_fs 1 rfl)))⟩,
              .inl ⟨wants_guard true rfl rfl rfl (av_bool hb5 (av_rs 3 3 rfl rfl)), does_loadOne _ DagE_one_string rfl rfl rfl rfl rfl (pt_pt (av_rs 4 4 rfl rfl)) (rds_box (off := 3) (av_fs 3 rfl) (hq_one rfl))⟩,
              .inl ⟨wants_guard true rfl rfl rfl (av_bool hb5 (av_rs 3 3 rfl rfl)), does_call (da_decimal t.num) (fun _ _ _ _ h => h) rfl DagE_hb_collator_dag_decimal rfl rfl rfl rfl ar_clo (ars_cons (pa_vp (ar_tmp (av_rs 5 5 rfl rfl))) ars_nil) trivial⟩,
              .inl ⟨wants_guard true rfl rfl rfl (av_bool hb5 (av_rs 3 3 rfl rfl)), does_not (decB t.num) _ _ rfl rfl rfl rfl rfl (ar_tmp (av_rs 6 6 rfl rfl))⟩,
              wp rfl (does_pick true _ _ _ rfl rfl rfl rfl rfl (ar_tmp (av_bool hb5 (av_rs 3 3 rfl rfl))) (ar_tmp (av_rs 7 7 rfl rfl))),
              wp rfl (does_move _ (.inl rfl) rfl rfl rfl rfl (ar_tmp (av_rs 8 8 rfl rfl))),
              .inr (skips_guardU true rfl rfl rfl (av_bool hb6 (av_rs 9 9 rfl rfl)) rfl rfl rfl rfl),
              .inr (skips_guardU true rfl rfl rfl (av_bool hb6 (av_rs 9 9 rfl rfl)) rfl rfl rfl rfl),
              .inr (skips_guardU true rfl rfl rfl (av_bool hb6 (av_rs 9 9 rfl rfl)) rfl rfl rfl rfl),
              .inr (skips_guardU true rfl rfl rfl (av_bool hb6 (av_rs 9 9 rfl rfl)) rfl rfl rfl rfl),
              .inr (skips_undefU true rfl rfl rfl (av_rs 13 13 rfl rfl) rfl rfl rfl rfl),
              .inr (skips_undefU true rfl rfl rfl (av_rs 13 13 rfl rfl) rfl rfl rfl rfl),
              .inr (skips_undefU true rfl rfl rfl (av_rs 13 13 rfl rfl) rfl rfl rfl rfl),
              .inr (skips_guardU true rfl rfl rfl (av_bool hb6 (av_rs 9 9 rfl rfl)) rfl rfl rfl rfl),
              wp rfl (does_pick true _ _ _ rfl rfl rfl rfl rfl (ar_tmp (av_bool hb6 (av_rs 9 9 rfl rfl))) (ar_const (fun _ _ => rfl))),
              wp rfl (does_move _ (.inr rfl) rfl rfl rfl rfl (ar_tmp (av_rs 18 18 rfl rfl))),
              trivial⟩ ?_
            refine t_pick [0, 1, 3, 4, 5, 6, 7, 8, 9, 10, 30] rfl ?_
            refine t_pick [10, 0, 1, 2, 3, 4, 5, 6, 7, 8, 9] rfl ?_
            refine t_slot (y := VP.bool (((t.op == 4) && !(decB t.num)) || ((t.op != 4) && !(t.num.toList == (ByteArray.mk #[]).toList)))) (fun _ _ _ h => by rw [show (((t.op == 4) && !(decB t.num)) || ((t.op != 4) && !(t.num.toList == (ByteArray.mk #[]).toList))) = true from by (try rw [hb4]); (try rw [hb5]); (try rw [hb6]); (try rfl)]; exact h) ?_
            refine nx_cut (τ := Unit) (J := fun _ => [.is (.tmp 0) (VP.ptr v), .is (.tmp 3) (VP.ptr c3), .is (.tmp 24) (VP.bool (((t.op == 4) && !(decB t.num)) || ((t.op != 4) && !(t.num.toList == (ByteArray.mk #[]).toList)))), .own 101 (.val c3) (B_term t), .bor (.val v) (ArO us uf ut uo uh ub d.most), .bor (.val us) (R_sort d.sorts), .bor (.val uf) (R_fun d.funs), .bor (.val ut) (R_term d.terms), .bor (.val uo) (R_int d.of_), .bor (.val uh) (R_u64 d.hashes), .bor (.val ub) (rowsInt d.table)]) () [1, 2, 0, 3, 4, 5, 6, 7, 8, 9, 10] ?_
            exact rfl
          · rcases Bool.eq_false_or_eq_true (t.op != 4) with hb7 | hb7
            · have hc7 := (bne_iff_ne.1 hb7)
              refine t_rg [.is (.tmp 0) (VP.ptr v), .is (.tmp 3) (VP.ptr c3), .is (.tmp 5) (VP.bool (decide (t.op < 1) || decide (t.op > 19) || ((t.op != 3) && (t.fn != 0)))), .own 101 (.val c3) (B_term t), .bor (.val v) (ArO us uf ut uo uh ub d.most), .bor (.val us) (R_sort d.sorts), .bor (.val uf) (R_fun d.funs), .bor (.val ut) (R_term d.terms), .bor (.val uo) (R_int d.of_), .bor (.val uh) (R_u64 d.hashes), .bor (.val ub) (rowsInt d.table)] [] [(0, .pt 25 (.blk (.val c3) 0)), (1, .is (.tmp 26) (VP.int .i64 t.op)), (2, .is (.tmp 27) (VP.bool (t.op == 4))), (3, .is (.tmp 28) (VP.bool (t.op == 4))), (4, .pt 29 (.blk (.val c3) 3)), (5, .is (.tmp 30) (VP.str t.num)), (6, .is (.tmp 31) (VP.bool (decB t.num))), (7, .is (.tmp 32) (VP.bool (!(decB t.num)))), (8, .is (.tmp 33) (VP.bool (!(decB t.num)))), (9, .is (.tmp 34) (VP.bool (!(decB t.num)))), (10, .pt 35 (.blk (.val c3) 0)), (11, .is (.tmp 36) (VP.int .i64 t.op)), (12, .is (.tmp 37) (VP.bool (t.op != 4))), (13, .is (.tmp 38) (VP.bool (t.op != 4))), (14, .pt 39 (.blk (.val c3) 3)), (15, .is (.tmp 40) (VP.str t.num)), (16, .is (.tmp 41) (VP.bool (!(t.num.toList == (ByteArray.mk #[]).toList)))), (17, .is (.tmp 42) (VP.bool (!(t.num.toList == (ByteArray.mk #[]).toList)))), (18, .is (.tmp 43) (VP.bool (!(t.num.toList == (ByteArray.mk #[]).toList)))), (19, .is (.tmp 24) (VP.bool (!(t.num.toList == (ByteArray.mk #[]).toList))))] [] [0, 1, 2, 3, 4, 5, 6, 7, 8, 9, 10] [] DagE_p44_3 DagE_s44_3 rfl rfl follow rfl ⟨
                wp rfl (does_field _ _ _ 0 DagE_f_api_Term_0 rfl rfl rfl rfl rfl rfl (pt_ptr (ar_tmp (av_fs 1 rfl)))),
                wp rfl (does_loadOne _ DagE_one_int rfl rfl rfl rfl rfl (pt_pt (av_rs 0 0 rfl rfl)) (rds_box (off := 0) (av_fs 3 rfl) (hq_one rfl))),
                wp rfl (does_cmp (m := t.op) (n := 4) _ _ _ _ _ rfl rfl rfl rfl rfl rfl .i64 (ar_tmp (av_rs 1 1 rfl rfl)) (ar_const (fun _ _ => rfl))),
                wp rfl (does_move _ (.inl rfl) rfl rfl rfl rfl (ar_tmp (av_rs 2 2 rfl rfl))),
                .inl ⟨wants_guard true rfl rfl rfl (av_bool hb5 (av_rs 3 3 rfl rfl)), does_field _ _ _ 3 DagE_f_api_Term_3 rfl rfl rfl rfl rfl rfl (pt_ptr (ar_tmp (av_fs 1 rfl)))⟩,
                .inl ⟨wants_guard true rfl rfl rfl (av_bool hb5 (av_rs 3 3 rfl rfl)), does_loadOne _ DagE_one_string rfl rfl rfl rfl rfl (pt_pt (av_rs 4 4 rfl rfl)) (rds_box (off := 3) (av_fs 3 rfl) (hq_one rfl))⟩,
                .inl ⟨wants_guard true rfl rfl rfl (av_bool hb5 (av_rs 3 3 rfl rfl)), does_call (da_decimal t.num) (fun _ _ _ _ h => h) rfl DagE_hb_collator_dag_decimal rfl rfl rfl rfl ar_clo (ars_cons (pa_vp (ar_tmp (av_rs 5 5 rfl rfl))) ars_nil) trivial⟩,
                .inl ⟨wants_guard true rfl rfl rfl (av_bool hb5 (av_rs 3 3 rfl rfl)), does_not (decB t.num) _ _ rfl rfl rfl rfl rfl (ar_tmp (av_rs 6 6 rfl rfl))⟩,
                wp rfl (does_pick true _ _ _ rfl rfl rfl rfl rfl (ar_tmp (av_bool hb5 (av_rs 3 3 rfl rfl))) (ar_tmp (av_rs 7 7 rfl rfl))),
                wp rfl (does_move _ (.inl rfl) rfl rfl rfl rfl (ar_tmp (av_rs 8 8 rfl rfl))),
                .inl ⟨wants_guard false rfl rfl rfl (av_bool hb6 (av_rs 9 9 rfl rfl)), does_field _ _ _ 0 DagE_f_api_Term_0 rfl rfl rfl rfl rfl rfl (pt_ptr (ar_tmp (av_fs 1 rfl)))⟩,
                .inl ⟨wants_guard false rfl rfl rfl (av_bool hb6 (av_rs 9 9 rfl rfl)), does_loadOne _ DagE_one_int rfl rfl rfl rfl rfl (pt_pt (av_rs 10 10 rfl rfl)) (rds_box (off := 0) (av_fs 3 rfl) (hq_one rfl))⟩,
                .inl ⟨wants_guard false rfl rfl rfl (av_bool hb6 (av_rs 9 9 rfl rfl)), does_cmp (m := t.op) (n := 4) _ _ _ _ _ rfl rfl rfl rfl rfl rfl .i64 (ar_tmp (av_rs 11 11 rfl rfl)) (ar_const (fun _ _ => rfl))⟩,
                .inl ⟨wants_guard false rfl rfl rfl (av_bool hb6 (av_rs 9 9 rfl rfl)), does_move _ (.inl rfl) rfl rfl rfl rfl (ar_tmp (av_rs 12 12 rfl rfl))⟩,
                .inl ⟨wants_guard true rfl rfl rfl (av_bool hb7 (av_rs 13 13 rfl rfl)), does_field _ _ _ 3 DagE_f_api_Term_3 rfl rfl rfl rfl rfl rfl (pt_ptr (ar_tmp (av_fs 1 rfl)))⟩,
                .inl ⟨wants_guard true rfl rfl rfl (av_bool hb7 (av_rs 13 13 rfl rfl)), does_loadOne _ DagE_one_string rfl rfl rfl rfl rfl (pt_pt (av_rs 14 14 rfl rfl)) (rds_box (off := 3) (av_fs 3 rfl) (hq_one rfl))⟩,
                .inl ⟨wants_guard true rfl rfl rfl (av_bool hb7 (av_rs 13 13 rfl rfl)), does_eqStr (u := t.num) (v := (ByteArray.mk #[])) _ _ _ _ _ rfl rfl rfl rfl rfl rfl (ar_tmp (av_rs 15 15 rfl rfl)) (ar_const (fun _ _ => rfl))⟩,
                .inl ⟨wants_guard false rfl rfl rfl (av_bool hb6 (av_rs 9 9 rfl rfl)), does_pick true _ _ _ rfl rfl rfl rfl rfl (ar_tmp (av_bool hb7 (av_rs 13 13 rfl rfl))) (ar_tmp (av_rs 16 16 rfl rfl))⟩,
                wp rfl (does_pick false _ _ _ rfl rfl rfl rfl rfl (ar_tmp (av_bool hb6 (av_rs 9 9 rfl rfl))) (ar_tmp (av_rs 17 17 rfl rfl))),
                wp rfl (does_move _ (.inr rfl) rfl rfl rfl rfl (ar_tmp (av_rs 18 18 rfl rfl))),
                trivial⟩ ?_
              refine t_pick [0, 1, 3, 4, 5, 6, 7, 8, 9, 10, 30] rfl ?_
              refine t_pick [10, 0, 1, 2, 3, 4, 5, 6, 7, 8, 9] rfl ?_
              refine t_slot (y := VP.bool (((t.op == 4) && !(decB t.num)) || ((t.op != 4) && !(t.num.toList == (ByteArray.mk #[]).toList)))) (fun _ _ _ h => by rw [show (((t.op == 4) && !(decB t.num)) || ((t.op != 4) && !(t.num.toList == (ByteArray.mk #[]).toList))) = (!(t.num.toList == (ByteArray.mk #[]).toList)) from by (try rw [hb4]); (try rw [hb5]); (try rw [hb6]); (try rw [hb7]); (try rfl)]; exact h) ?_
              refine nx_cut (τ := Unit) (J := fun _ => [.is (.tmp 0) (VP.ptr v), .is (.tmp 3) (VP.ptr c3), .is (.tmp 24) (VP.bool (((t.op == 4) && !(decB t.num)) || ((t.op != 4) && !(t.num.toList == (ByteArray.mk #[]).toList)))), .own 101 (.val c3) (B_term t), .bor (.val v) (ArO us uf ut uo uh ub d.most), .bor (.val us) (R_sort d.sorts), .bor (.val uf) (R_fun d.funs), .bor (.val ut) (R_term d.terms), .bor (.val uo) (R_int d.of_), .bor (.val uh) (R_u64 d.hashes), .bor (.val ub) (rowsInt d.table)]) () [1, 2, 0, 3, 4, 5, 6, 7, 8, 9, 10] ?_
              exact rfl
            · have hc7 := (bne_eq_false_iff_eq.1 hb7)
              refine t_rg [.is (.tmp 0) (VP.ptr v), .is (.tmp 3) (VP.ptr c3), .is (.tmp 5) (VP.bool (decide (t.op < 1) || decide (t.op > 19) || ((t.op != 3) && (t.fn != 0)))), .own 101 (.val c3) (B_term t), .bor (.val v) (ArO us uf ut uo uh ub d.most), .bor (.val us) (R_sort d.sorts), .bor (.val uf) (R_fun d.funs), .bor (.val ut) (R_term d.terms), .bor (.val uo) (R_int d.of_), .bor (.val uh) (R_u64 d.hashes), .bor (.val ub) (rowsInt d.table)] [] [(0, .pt 25 (.blk (.val c3) 0)), (1, .is (.tmp 26) (VP.int .i64 t.op)), (2, .is (.tmp 27) (VP.bool (t.op == 4))), (3, .is (.tmp 28) (VP.bool (t.op == 4))), (4, .pt 29 (.blk (.val c3) 3)), (5, .is (.tmp 30) (VP.str t.num)), (6, .is (.tmp 31) (VP.bool (decB t.num))), (7, .is (.tmp 32) (VP.bool (!(decB t.num)))), (8, .is (.tmp 33) (VP.bool (!(decB t.num)))), (9, .is (.tmp 34) (VP.bool (!(decB t.num)))), (10, .pt 35 (.blk (.val c3) 0)), (11, .is (.tmp 36) (VP.int .i64 t.op)), (12, .is (.tmp 37) (VP.bool (t.op != 4))), (13, .is (.tmp 38) (VP.bool (t.op != 4))), (14, .is (.tmp 39) (VP.undef)), (15, .is (.tmp 40) (VP.undef)), (16, .is (.tmp 41) (VP.undef)), (17, .is (.tmp 42) (VP.bool false)), (18, .is (.tmp 43) (VP.bool false)), (19, .is (.tmp 24) (VP.bool false))] [] [0, 1, 2, 3, 4, 5, 6, 7, 8, 9, 10] [] DagE_p44_3 DagE_s44_3 rfl rfl follow rfl ⟨
                wp rfl (does_field _ _ _ 0 DagE_f_api_Term_0 rfl rfl rfl rfl rfl rfl (pt_ptr (ar_tmp (av_fs 1 rfl)))),
                wp rfl (does_loadOne _ DagE_one_int rfl rfl rfl rfl rfl (pt_pt (av_rs 0 0 rfl rfl)) (rds_box (off := 0) (av_fs 3 rfl) (hq_one rfl))),
                wp rfl (does_cmp (m := t.op) (n := 4) _ _ _ _ _ rfl rfl rfl rfl rfl rfl .i64 (ar_tmp (av_rs 1 1 rfl rfl)) (ar_const (fun _ _ => rfl))),
                wp rfl (does_move _ (.inl rfl) rfl rfl rfl rfl (ar_tmp (av_rs 2 2 rfl rfl))),
                .inl ⟨wants_guard true rfl rfl rfl (av_bool hb5 (av_rs 3 3 rfl rfl)), does_field _ _ _ 3 DagE_f_api_Term_3 rfl rfl rfl rfl rfl rfl (pt_ptr (ar_tmp (av_fs 1 rfl)))⟩,
                .inl ⟨wants_guard true rfl rfl rfl (av_bool hb5 (av_rs 3 3 rfl rfl)), does_loadOne _ DagE_one_string rfl rfl rfl rfl rfl (pt_pt (av_rs 4 4 rfl rfl)) (rds_box (off := 3) (av_fs 3 rfl) (hq_one rfl))⟩,
                .inl ⟨wants_guard true rfl rfl rfl (av_bool hb5 (av_rs 3 3 rfl rfl)), does_call (da_decimal t.num) (fun _ _ _ _ h => h) rfl DagE_hb_collator_dag_decimal rfl rfl rfl rfl ar_clo (ars_cons (pa_vp (ar_tmp (av_rs 5 5 rfl rfl))) ars_nil) trivial⟩,
                .inl ⟨wants_guard true rfl rfl rfl (av_bool hb5 (av_rs 3 3 rfl rfl)), does_not (decB t.num) _ _ rfl rfl rfl rfl rfl (ar_tmp (av_rs 6 6 rfl rfl))⟩,
                wp rfl (does_pick true _ _ _ rfl rfl rfl rfl rfl (ar_tmp (av_bool hb5 (av_rs 3 3 rfl rfl))) (ar_tmp (av_rs 7 7 rfl rfl))),
                wp rfl (does_move _ (.inl rfl) rfl rfl rfl rfl (ar_tmp (av_rs 8 8 rfl rfl))),
                .inl ⟨wants_guard false rfl rfl rfl (av_bool hb6 (av_rs 9 9 rfl rfl)), does_field _ _ _ 0 DagE_f_api_Term_0 rfl rfl rfl rfl rfl rfl (pt_ptr (ar_tmp (av_fs 1 rfl)))⟩,
                .inl ⟨wants_guard false rfl rfl rfl (av_bool hb6 (av_rs 9 9 rfl rfl)), does_loadOne _ DagE_one_int rfl rfl rfl rfl rfl (pt_pt (av_rs 10 10 rfl rfl)) (rds_box (off := 0) (av_fs 3 rfl) (hq_one rfl))⟩,
                .inl ⟨wants_guard false rfl rfl rfl (av_bool hb6 (av_rs 9 9 rfl rfl)), does_cmp (m := t.op) (n := 4) _ _ _ _ _ rfl rfl rfl rfl rfl rfl .i64 (ar_tmp (av_rs 11 11 rfl rfl)) (ar_const (fun _ _ => rfl))⟩,
                .inl ⟨wants_guard false rfl rfl rfl (av_bool hb6 (av_rs 9 9 rfl rfl)), does_move _ (.inl rfl) rfl rfl rfl rfl (ar_tmp (av_rs 12 12 rfl rfl))⟩,
                .inr (skips_guardU false rfl rfl rfl (av_bool hb7 (av_rs 13 13 rfl rfl)) rfl rfl rfl rfl),
                .inr (skips_guardU false rfl rfl rfl (av_bool hb7 (av_rs 13 13 rfl rfl)) rfl rfl rfl rfl),
                .inr (skips_guardU false rfl rfl rfl (av_bool hb7 (av_rs 13 13 rfl rfl)) rfl rfl rfl rfl),
                .inl ⟨wants_guard false rfl rfl rfl (av_bool hb6 (av_rs 9 9 rfl rfl)), does_pick false _ _ _ rfl rfl rfl rfl rfl (ar_tmp (av_bool hb7 (av_rs 13 13 rfl rfl))) (ar_const (fun _ _ => rfl))⟩,
                wp rfl (does_pick false _ _ _ rfl rfl rfl rfl rfl (ar_tmp (av_bool hb6 (av_rs 9 9 rfl rfl))) (ar_tmp (av_rs 17 17 rfl rfl))),
                wp rfl (does_move _ (.inr rfl) rfl rfl rfl rfl (ar_tmp (av_rs 18 18 rfl rfl))),
                trivial⟩ ?_
              refine t_pick [0, 1, 3, 4, 5, 6, 7, 8, 9, 10, 30] rfl ?_
              refine t_pick [10, 0, 1, 2, 3, 4, 5, 6, 7, 8, 9] rfl ?_
              refine t_slot (y := VP.bool (((t.op == 4) && !(decB t.num)) || ((t.op != 4) && !(t.num.toList == (ByteArray.mk #[]).toList)))) (fun _ _ _ h => by rw [show (((t.op == 4) && !(decB t.num)) || ((t.op != 4) && !(t.num.toList == (ByteArray.mk #[]).toList))) = false from by (try rw [hb4]); (try rw [hb5]); (try rw [hb6]); (try rw [hb7]); (try rfl)]; exact h) ?_
              refine nx_cut (τ := Unit) (J := fun _ => [.is (.tmp 0) (VP.ptr v), .is (.tmp 3) (VP.ptr c3), .is (.tmp 24) (VP.bool (((t.op == 4) && !(decB t.num)) || ((t.op != 4) && !(t.num.toList == (ByteArray.mk #[]).toList)))), .own 101 (.val c3) (B_term t), .bor (.val v) (ArO us uf ut uo uh ub d.most), .bor (.val us) (R_sort d.sorts), .bor (.val uf) (R_fun d.funs), .bor (.val ut) (R_term d.terms), .bor (.val uo) (R_int d.of_), .bor (.val uh) (R_u64 d.hashes), .bor (.val ub) (rowsInt d.table)]) () [1, 2, 0, 3, 4, 5, 6, 7, 8, 9, 10] ?_
              exact rfl
        · have hc5 := ne_of_beq_false hb5
          rcases Bool.eq_false_or_eq_true (t.op != 4) with hb8 | hb8
          · have hc8 := (bne_iff_ne.1 hb8)
            refine t_rg [.is (.tmp 0) (VP.ptr v), .is (.tmp 3) (VP.ptr c3), .is (.tmp 5) (VP.bool (decide (t.op < 1) || decide (t.op > 19) || ((t.op != 3) && (t.fn != 0)))), .own 101 (.val c3) (B_term t), .bor (.val v) (ArO us uf ut uo uh ub d.most), .bor (.val us) (R_sort d.sorts), .bor (.val uf) (R_fun d.funs), .bor (.val ut) (R_term d.terms), .bor (.val uo) (R_int d.of_), .bor (.val uh) (R_u64 d.hashes), .bor (.val ub) (rowsInt d.table)] [] [(0, .pt 25 (.blk (.val c3) 0)), (1, .is (.tmp 26) (VP.int .i64 t.op)), (2, .is (.tmp 27) (VP.bool (t.op == 4))), (3, .is (.tmp 28) (VP.bool (t.op == 4))), (4, .is (.tmp 29) (VP.undef)), (5, .is (.tmp 30) (VP.undef)), (6, .is (.tmp 31) (VP.undef)), (7, .is (.tmp 32) (VP.undef)), (8, .is (.tmp 33) (VP.bool false)), (9, .is (.tmp 34) (VP.bool false)), (10, .pt 35 (.blk (.val c3) 0)), (11, .is (.tmp 36) (VP.int .i64 t.op)), (12, .is (.tmp 37) (VP.bool (t.op != 4))), (13, .is (.tmp 38) (VP.bool (t.op != 4))), (14, .pt 39 (.blk (.val c3) 3)), (15, .is (.tmp 40) (VP.str t.num)), (16, .is (.tmp 41) (VP.bool (!(t.num.toList == (ByteArray.mk #[]).toList)))), (17, .is (.tmp 42) (VP.bool (!(t.num.toList == (ByteArray.mk #[]).toList)))), (18, .is (.tmp 43) (VP.bool (!(t.num.toList == (ByteArray.mk #[]).toList)))), (19, .is (.tmp 24) (VP.bool (!(t.num.toList == (ByteArray.mk #[]).toList))))] [] [0, 1, 2, 3, 4, 5, 6, 7, 8, 9, 10] [] DagE_p44_3 DagE_s44_3 rfl rfl follow rfl ⟨
              wp rfl (does_field _ _ _ 0 DagE_f_api_Term_0 rfl rfl rfl rfl rfl rfl (pt_ptr (ar_tmp (av_fs 1 rfl)))),
              wp rfl (does_loadOne _ DagE_one_int rfl rfl rfl rfl rfl (pt_pt (av_rs 0 0 rfl rfl)) (rds_box (off := 0) (av_fs 3 rfl) (hq_one rfl))),
              wp rfl (does_cmp (m := t.op) (n := 4) _ _ _ _ _ rfl rfl rfl rfl rfl rfl .i64 (ar_tmp (av_rs 1 1 rfl rfl)) (ar_const (fun _ _ => rfl))),
              wp rfl (does_move _ (.inl rfl) rfl rfl rfl rfl (ar_tmp (av_rs 2 2 rfl rfl))),
              .inr (skips_guardU false rfl rfl rfl (av_bool hb5 (av_rs 3 3 rfl rfl)) rfl rfl rfl rfl),
              .inr (skips_guardU false rfl rfl rfl (av_bool hb5 (av_rs 3 3 rfl rfl)) rfl rfl rfl rfl),
              .inr (skips_guardU false rfl rfl rfl (av_bool hb5 (av_rs 3 3 rfl rfl)) rfl rfl rfl rfl),
              .inr (skips_guardU false rfl rfl rfl (av_bool hb5 (av_rs 3 3 rfl rfl)) rfl rfl rfl rfl),
              wp rfl (does_pick false _ _ _ rfl rfl rfl rfl rfl (ar_tmp (av_bool hb5 (av_rs 3 3 rfl rfl))) (ar_const (fun _ _ => rfl))),
              wp rfl (does_move _ (.inl rfl) rfl rfl rfl rfl (ar_tmp (av_rs 8 8 rfl rfl))),
              .inl ⟨wants_guard false rfl rfl rfl (av_rs 9 9 rfl rfl), does_field _ _ _ 0 DagE_f_api_Term_0 rfl rfl rfl rfl rfl rfl (pt_ptr (ar_tmp (av_fs 1 rfl)))⟩,
              .inl ⟨wants_guard false rfl rfl rfl (av_rs 9 9 rfl rfl), does_loadOne _ DagE_one_int rfl rfl rfl rfl rfl (pt_pt (av_rs 10 10 rfl rfl)) (rds_box (off := 0) (av_fs 3 rfl) (hq_one rfl))⟩,
              .inl ⟨wants_guard false rfl rfl rfl (av_rs 9 9 rfl rfl), does_cmp (m := t.op) (n := 4) _ _ _ _ _ rfl rfl rfl rfl rfl rfl .i64 (ar_tmp (av_rs 11 11 rfl rfl)) (ar_const (fun _ _ => rfl))⟩,
              .inl ⟨wants_guard false rfl rfl rfl (av_rs 9 9 rfl rfl), does_move _ (.inl rfl) rfl rfl rfl rfl (ar_tmp (av_rs 12 12 rfl rfl))⟩,
              .inl ⟨wants_guard true rfl rfl rfl (av_bool hb8 (av_rs 13 13 rfl rfl)), does_field _ _ _ 3 DagE_f_api_Term_3 rfl rfl rfl rfl rfl rfl (pt_ptr (ar_tmp (av_fs 1 rfl)))⟩,
              .inl ⟨wants_guard true rfl rfl rfl (av_bool hb8 (av_rs 13 13 rfl rfl)), does_loadOne _ DagE_one_string rfl rfl rfl rfl rfl (pt_pt (av_rs 14 14 rfl rfl)) (rds_box (off := 3) (av_fs 3 rfl) (hq_one rfl))⟩,
              .inl ⟨wants_guard true rfl rfl rfl (av_bool hb8 (av_rs 13 13 rfl rfl)), does_eqStr (u := t.num) (v := (ByteArray.mk #[])) _ _ _ _ _ rfl rfl rfl rfl rfl rfl (ar_tmp (av_rs 15 15 rfl rfl)) (ar_const (fun _ _ => rfl))⟩,
              .inl ⟨wants_guard false rfl rfl rfl (av_rs 9 9 rfl rfl), does_pick true _ _ _ rfl rfl rfl rfl rfl (ar_tmp (av_bool hb8 (av_rs 13 13 rfl rfl))) (ar_tmp (av_rs 16 16 rfl rfl))⟩,
              wp rfl (does_pick false _ _ _ rfl rfl rfl rfl rfl (ar_tmp (av_rs 9 9 rfl rfl)) (ar_tmp (av_rs 17 17 rfl rfl))),
              wp rfl (does_move _ (.inr rfl) rfl rfl rfl rfl (ar_tmp (av_rs 18 18 rfl rfl))),
              trivial⟩ ?_
            refine t_pick [0, 1, 3, 4, 5, 6, 7, 8, 9, 10, 30] rfl ?_
            refine t_pick [10, 0, 1, 2, 3, 4, 5, 6, 7, 8, 9] rfl ?_
            refine t_slot (y := VP.bool (((t.op == 4) && !(decB t.num)) || ((t.op != 4) && !(t.num.toList == (ByteArray.mk #[]).toList)))) (fun _ _ _ h => by rw [show (((t.op == 4) && !(decB t.num)) || ((t.op != 4) && !(t.num.toList == (ByteArray.mk #[]).toList))) = (!(t.num.toList == (ByteArray.mk #[]).toList)) from by (try rw [hb4]); (try rw [hb5]); (try rw [hb8]); (try rfl)]; exact h) ?_
            refine nx_cut (τ := Unit) (J := fun _ => [.is (.tmp 0) (VP.ptr v), .is (.tmp 3) (VP.ptr c3), .is (.tmp 24) (VP.bool (((t.op == 4) && !(decB t.num)) || ((t.op != 4) && !(t.num.toList == (ByteArray.mk #[]).toList)))), .own 101 (.val c3) (B_term t), .bor (.val v) (ArO us uf ut uo uh ub d.most), .bor (.val us) (R_sort d.sorts), .bor (.val uf) (R_fun d.funs), .bor (.val ut) (R_term d.terms), .bor (.val uo) (R_int d.of_), .bor (.val uh) (R_u64 d.hashes), .bor (.val ub) (rowsInt d.table)]) () [1, 2, 0, 3, 4, 5, 6, 7, 8, 9, 10] ?_
            exact rfl
          · have hc8 := (bne_eq_false_iff_eq.1 hb8)
            refine t_rg [.is (.tmp 0) (VP.ptr v), .is (.tmp 3) (VP.ptr c3), .is (.tmp 5) (VP.bool (decide (t.op < 1) || decide (t.op > 19) || ((t.op != 3) && (t.fn != 0)))), .own 101 (.val c3) (B_term t), .bor (.val v) (ArO us uf ut uo uh ub d.most), .bor (.val us) (R_sort d.sorts), .bor (.val uf) (R_fun d.funs), .bor (.val ut) (R_term d.terms), .bor (.val uo) (R_int d.of_), .bor (.val uh) (R_u64 d.hashes), .bor (.val ub) (rowsInt d.table)] [] [(0, .pt 25 (.blk (.val c3) 0)), (1, .is (.tmp 26) (VP.int .i64 t.op)), (2, .is (.tmp 27) (VP.bool (t.op == 4))), (3, .is (.tmp 28) (VP.bool (t.op == 4))), (4, .is (.tmp 29) (VP.undef)), (5, .is (.tmp 30) (VP.undef)), (6, .is (.tmp 31) (VP.undef)), (7, .is (.tmp 32) (VP.undef)), (8, .is (.tmp 33) (VP.bool false)), (9, .is (.tmp 34) (VP.bool false)), (10, .pt 35 (.blk (.val c3) 0)), (11, .is (.tmp 36) (VP.int .i64 t.op)), (12, .is (.tmp 37) (VP.bool (t.op != 4))), (13, .is (.tmp 38) (VP.bool (t.op != 4))), (14, .is (.tmp 39) (VP.undef)), (15, .is (.tmp 40) (VP.undef)), (16, .is (.tmp 41) (VP.undef)), (17, .is (.tmp 42) (VP.bool false)), (18, .is (.tmp 43) (VP.bool false)), (19, .is (.tmp 24) (VP.bool false))] [] [0, 1, 2, 3, 4, 5, 6, 7, 8, 9, 10] [] DagE_p44_3 DagE_s44_3 rfl rfl follow rfl ⟨
              wp rfl (does_field _ _ _ 0 DagE_f_api_Term_0 rfl rfl rfl rfl rfl rfl (pt_ptr (ar_tmp (av_fs 1 rfl)))),
              wp rfl (does_loadOne _ DagE_one_int rfl rfl rfl rfl rfl (pt_pt (av_rs 0 0 rfl rfl)) (rds_box (off := 0) (av_fs 3 rfl) (hq_one rfl))),
              wp rfl (does_cmp (m := t.op) (n := 4) _ _ _ _ _ rfl rfl rfl rfl rfl rfl .i64 (ar_tmp (av_rs 1 1 rfl rfl)) (ar_const (fun _ _ => rfl))),
              wp rfl (does_move _ (.inl rfl) rfl rfl rfl rfl (ar_tmp (av_rs 2 2 rfl rfl))),
              .inr (skips_guardU false rfl rfl rfl (av_bool hb5 (av_rs 3 3 rfl rfl)) rfl rfl rfl rfl),
              .inr (skips_guardU false rfl rfl rfl (av_bool hb5 (av_rs 3 3 rfl rfl)) rfl rfl rfl rfl),
              .inr (skips_guardU false rfl rfl rfl (av_bool hb5 (av_rs 3 3 rfl rfl)) rfl rfl rfl rfl),
              .inr (skips_guardU false rfl rfl rfl (av_bool hb5 (av_rs 3 3 rfl rfl)) rfl rfl rfl rfl),
              wp rfl (does_pick false _ _ _ rfl rfl rfl rfl rfl (ar_tmp (av_bool hb5 (av_rs 3 3 rfl rfl))) (ar_const (fun _ _ => rfl))),
              wp rfl (does_move _ (.inl rfl) rfl rfl rfl rfl (ar_tmp (av_rs 8 8 rfl rfl))),
              .inl ⟨wants_guard false rfl rfl rfl (av_rs 9 9 rfl rfl), does_field _ _ _ 0 DagE_f_api_Term_0 rfl rfl rfl rfl rfl rfl (pt_ptr (ar_tmp (av_fs 1 rfl)))⟩,
              .inl ⟨wants_guard false rfl rfl rfl (av_rs 9 9 rfl rfl), does_loadOne _ DagE_one_int rfl rfl rfl rfl rfl (pt_pt (av_rs 10 10 rfl rfl)) (rds_box (off := 0) (av_fs 3 rfl) (hq_one rfl))⟩,
              .inl ⟨wants_guard false rfl rfl rfl (av_rs 9 9 rfl rfl), does_cmp (m := t.op) (n := 4) _ _ _ _ _ rfl rfl rfl rfl rfl rfl .i64 (ar_tmp (av_rs 11 11 rfl rfl)) (ar_const (fun _ _ => rfl))⟩,
              .inl ⟨wants_guard false rfl rfl rfl (av_rs 9 9 rfl rfl), does_move _ (.inl rfl) rfl rfl rfl rfl (ar_tmp (av_rs 12 12 rfl rfl))⟩,
              .inr (skips_guardU false rfl rfl rfl (av_bool hb8 (av_rs 13 13 rfl rfl)) rfl rfl rfl rfl),
              .inr (skips_guardU false rfl rfl rfl (av_bool hb8 (av_rs 13 13 rfl rfl)) rfl rfl rfl rfl),
              .inr (skips_guardU false rfl rfl rfl (av_bool hb8 (av_rs 13 13 rfl rfl)) rfl rfl rfl rfl),
              .inl ⟨wants_guard false rfl rfl rfl (av_rs 9 9 rfl rfl), does_pick false _ _ _ rfl rfl rfl rfl rfl (ar_tmp (av_bool hb8 (av_rs 13 13 rfl rfl))) (ar_const (fun _ _ => rfl))⟩,
              wp rfl (does_pick false _ _ _ rfl rfl rfl rfl rfl (ar_tmp (av_rs 9 9 rfl rfl)) (ar_tmp (av_rs 17 17 rfl rfl))),
              wp rfl (does_move _ (.inr rfl) rfl rfl rfl rfl (ar_tmp (av_rs 18 18 rfl rfl))),
              trivial⟩ ?_
            refine t_pick [0, 1, 3, 4, 5, 6, 7, 8, 9, 10, 30] rfl ?_
            refine t_pick [10, 0, 1, 2, 3, 4, 5, 6, 7, 8, 9] rfl ?_
            refine t_slot (y := VP.bool (((t.op == 4) && !(decB t.num)) || ((t.op != 4) && !(t.num.toList == (ByteArray.mk #[]).toList)))) (fun _ _ _ h => by rw [show (((t.op == 4) && !(decB t.num)) || ((t.op != 4) && !(t.num.toList == (ByteArray.mk #[]).toList))) = false from by (try rw [hb4]); (try rw [hb5]); (try rw [hb8]); (try rfl)]; exact h) ?_
            refine nx_cut (τ := Unit) (J := fun _ => [.is (.tmp 0) (VP.ptr v), .is (.tmp 3) (VP.ptr c3), .is (.tmp 24) (VP.bool (((t.op == 4) && !(decB t.num)) || ((t.op != 4) && !(t.num.toList == (ByteArray.mk #[]).toList)))), .own 101 (.val c3) (B_term t), .bor (.val v) (ArO us uf ut uo uh ub d.most), .bor (.val us) (R_sort d.sorts), .bor (.val uf) (R_fun d.funs), .bor (.val ut) (R_term d.terms), .bor (.val uo) (R_int d.of_), .bor (.val uh) (R_u64 d.hashes), .bor (.val ub) (rowsInt d.table)]) () [1, 2, 0, 3, 4, 5, 6, 7, 8, 9, 10] ?_
            exact rfl
      · rintro _
        refine t_split 2 rfl (fun hb9 => ?_) (fun hb9 => ?_)
        · refine t_seq ?_
          refine t_rg [.is (.tmp 0) (VP.ptr v), .is (.tmp 3) (VP.ptr c3), .is (.tmp 24) (VP.bool (((t.op == 4) && !(decB t.num)) || ((t.op != 4) && !(t.num.toList == (ByteArray.mk #[]).toList)))), .own 101 (.val c3) (B_term t), .bor (.val v) (ArO us uf ut uo uh ub d.most), .bor (.val us) (R_sort d.sorts), .bor (.val uf) (R_fun d.funs), .bor (.val ut) (R_term d.terms), .bor (.val uo) (R_int d.of_), .bor (.val uh) (R_u64 d.hashes), .bor (.val ub) (rowsInt d.table)] [] [(0, .is (.tmp 4) (VP.int .i64 1))] [] [0, 1, 2, 3, 4, 5, 6, 7, 8, 9, 10] [] [[]] [[]] rfl rfl follow rfl ⟨
            wp rfl (does_move _ (.inr rfl) rfl rfl rfl rfl (ar_const (fun _ _ => rfl))),
            trivial⟩ ?_
          refine t_pick [3, 4, 5, 6, 7, 8, 9, 10, 11] rfl ?_
          refine nx_then ?_
          refine t_ret ?_
          refine rt_block ?_
          refine rt_then ?_
          exact rt_post [HA.of (VP.int .i64 (d.bareE t))] [[]] [] [] rfl ⟨(rv_eq (congrArg HA.of (congrArg (VP.int .i64) (show 1 = (d.bareE t) from Eq.symm (by unfold ArD.bareE; (try rw [hb4]); (try rw [hb9]); (try rfl))))) (rv_vp 8 rfl)), trivial⟩ (by decide) rfl rfl
        · refine t_cut (τ := Unit) (fun _ => [.is (.tmp 44) (VP.bool ((t.op == 3) && (decide (t.fn < 0) || decide (t.fn ≥ ((d.funs.length : Nat) : Int))))), .own 101 (.val c3) (B_term t), .bor (.val v) (ArO us uf ut uo uh ub d.most), .bor (.val us) (R_sort d.sorts), .bor (.val uf) (R_fun d.funs), .bor (.val ut) (R_term d.terms), .bor (.val uo) (R_int d.of_), .bor (.val uh) (R_u64 d.hashes), .bor (.val ub) (rowsInt d.table)]) ?_ ?_
          · rcases Bool.eq_false_or_eq_true (t.op == 3) with hb10 | hb10
            · have hc10 := eq_of_beq hb10
              rcases Bool.eq_false_or_eq_true (decide (t.fn < 0)) with hb11 | hb11
              · have hc11 := of_decide_eq_true hb11
                refine t_rg [.is (.tmp 0) (VP.ptr v), .is (.tmp 3) (VP.ptr c3), .is (.tmp 24) (VP.bool (((t.op == 4) && !(decB t.num)) || ((t.op != 4) && !(t.num.toList == (ByteArray.mk #[]).toList)))), .own 101 (.val c3) (B_term t), .bor (.val v) (ArO us uf ut uo uh ub d.most), .bor (.val us) (R_sort d.sorts), .bor (.val uf) (R_fun d.funs), .bor (.val ut) (R_term d.terms), .bor (.val uo) (R_int d.of_), .bor (.val uh) (R_u64 d.hashes), .bor (.val ub) (rowsInt d.table)] [] [(0, .pt 45 (.blk (.val c3) 0)), (1, .is (.tmp 46) (VP.int .i64 t.op)), (2, .is (.tmp 47) (VP.bool (t.op == 3))), (3, .is (.tmp 48) (VP.bool (t.op == 3))), (4, .pt 49 (.blk (.val c3) 1)), (5, .is (.tmp 50) (VP.int .i64 t.fn)), (6, .is (.tmp 51) (VP.bool (decide (t.fn < 0)))), (7, .is (.tmp 52) (VP.bool (decide (t.fn < 0)))), (8, .is (.tmp 53) (VP.undef)), (9, .is (.tmp 54) (VP.undef)), (10, .is (.tmp 55) (VP.undef)), (11, .is (.tmp 56) (VP.undef)), (12, .is (.tmp 57) (VP.undef)), (13, .is (.tmp 58) (VP.undef)), (14, .is (.tmp 59) (VP.undef)), (15, .is (.tmp 60) (VP.undef)), (16, .is (.tmp 61) (VP.bool true)), (17, .is (.tmp 62) (VP.bool true)), (18, .is (.tmp 44) (VP.bool true))] [] [0, 1, 2, 3, 4, 5, 6, 7, 8, 9, 10] [] DagE_p44_5 DagE_s44_5 rfl rfl follow rfl ⟨
                  wp rfl (does_field _ _ _ 0 DagE_f_api_Term_0 rfl rfl rfl rfl rfl rfl (pt_ptr (ar_tmp (av_fs 1 rfl)))),
                  wp rfl (does_loadOne _ DagE_one_int rfl rfl rfl rfl rfl (pt_pt (av_rs 0 0 rfl rfl)) (rds_box (off := 0) (av_fs 3 rfl) (hq_one rfl))),
                  wp rfl (does_cmp (m := t.op) (n := 3) _ _ _ _ _ rfl rfl rfl rfl rfl rfl .i64 (ar_tmp (av_rs 1 1 rfl rfl)) (ar_const (fun _ _ => rfl))),
                  wp rfl (does_move _ (.inl rfl) rfl rfl rfl rfl (ar_tmp (av_rs 2 2 rfl rfl))),
                  .inl ⟨wants_guard true rfl rfl rfl (av_bool hb10 (av_rs 3 3 rfl rfl)), does_field _ _ _ 1 DagE_f_api_Term_1 rfl rfl rfl rfl rfl rfl (pt_ptr (ar_tmp (av_fs 1 rfl)))⟩,
                  .inl ⟨wants_guard true rfl rfl rfl (av_bool hb10 (av_rs 3 3 rfl rfl)), does_loadOne _ DagE_one_int rfl rfl rfl rfl rfl (pt_pt (av_rs 4 4 rfl rfl)) (rds_box (off := 1) (av_fs 3 rfl) (hq_one rfl))⟩,
                  .inl ⟨wants_guard true rfl rfl rfl (av_bool hb10 (av_rs 3 3 rfl rfl)), does_cmp (m := t.fn) (n := 0) _ _ _ _ _ rfl rfl rfl rfl rfl rfl .i64 (ar_tmp (av_rs 5 5 rfl rfl)) (ar_const (fun _ _ => rfl))⟩,
                  .inl ⟨wants_guard true rfl rfl rfl (av_bool hb10 (av_rs 3 3 rfl rfl)), does_move _ (.inl rfl) rfl rfl rfl rfl (ar_tmp (av_rs 6 6 rfl rfl))⟩,
                  .inr (skips_guardU true rfl rfl rfl (av_bool hb11 (av_rs 7 7 rfl rfl)) rfl rfl rfl rfl),
                  .inr (skips_guardU true rfl rfl rfl (av_bool hb11 (av_rs 7 7 rfl rfl)) rfl rfl rfl rfl),
                  .inr (skips_guardU true rfl rfl rfl (av_bool hb11 (av_rs 7 7 rfl rfl)) rfl rfl rfl rfl),
                  .inr (skips_guardU true rfl rfl rfl (av_bool hb11 (av_rs 7 7 rfl rfl)) rfl rfl rfl rfl),
                  .inr (skips_guardU true rfl rfl rfl (av_bool hb11 (av_rs 7 7 rfl rfl)) rfl rfl rfl rfl),
                  .inr (skips_guardU true rfl rfl rfl (av_bool hb11 (av_rs 7 7 rfl rfl)) rfl rfl rfl rfl),
                  .inr (skips_guardU true rfl rfl rfl (av_bool hb11 (av_rs 7 7 rfl rfl)) rfl rfl rfl rfl),
                  .inr (skips_guardU true rfl rfl rfl (av_bool hb11 (av_rs 7 7 rfl rfl)) rfl rfl rfl rfl),
                  .inl ⟨wants_guard true rfl rfl rfl (av_bool hb10 (av_rs 3 3 rfl rfl)), does_pick true _ _ _ rfl rfl rfl rfl rfl (ar_tmp (av_bool hb11 (av_rs 7 7 rfl rfl))) (ar_const (fun _ _ => rfl))⟩,
                  wp rfl (does_pick true _ _ _ rfl rfl rfl rfl rfl (ar_tmp (av_bool hb10 (av_rs 3 3 rfl rfl))) (ar_tmp (av_rs 16 16 rfl rfl))),
                  wp rfl (does_move _ (.inr rfl) rfl rfl rfl rfl (ar_tmp (av_rs 17 17 rfl rfl))),
                  trivial⟩ ?_
                refine t_pick [3, 4, 5, 6, 7, 8, 9, 10, 29] rfl ?_
                refine t_pick [8, 0, 1, 2, 3, 4, 5, 6, 7] rfl ?_
                refine t_slot (y := VP.bool ((t.op == 3) && (decide (t.fn < 0) || decide (t.fn ≥ ((d.funs.length : Nat) : Int))))) (fun _ _ _ h => by rw [show ((t.op == 3) && (decide (t.fn < 0) || decide (t.fn ≥ ((d.funs.length : Nat) : Int)))) = true from by (try rw [hb4]); (try rw [hb9]); (try rw [hb10]); (try rw [hb11]); (try rfl)]; exact h) ?_
                refine nx_cut (τ := Unit) (J := fun _ => [.is (.tmp 44) (VP.bool ((t.op == 3) && (decide (t.fn < 0) || decide (t.fn ≥ ((d.funs.length : Nat) : Int))))), .own 101 (.val c3) (B_term t), .bor (.val v) (ArO us uf ut uo uh ub d.most), .bor (.val us) (R_sort d.sorts), .bor (.val uf) (R_fun d.funs), .bor (.val ut) (R_term d.terms), .bor (.val uo) (R_int d.of_), .bor (.val uh) (R_u64 d.hashes), .bor (.val ub) (rowsInt d.table)]) () [0, 1, 2, 3, 4, 5, 6, 7, 8] ?_
                exact rfl
              · have hc11 := of_decide_eq_false hb11
                refine t_rg [.is (.tmp 0) (VP.ptr v), .is (.tmp 3) (VP.ptr c3), .is (.tmp 24) (VP.bool (((t.op == 4) && !(decB t.num)) || ((t.op != 4) && !(t.num.toList == (ByteArray.mk #[]).toList)))), .own 101 (.val c3) (B_term t), .bor (.val v) (ArO us uf ut uo uh ub d.most), .bor (.val us) (R_sort d.sorts), .bor (.val uf) (R_fun d.funs), .bor (.val ut) (R_term d.terms), .bor (.val uo) (R_int d.of_), .bor (.val uh) (R_u64 d.hashes), .bor (.val ub) (rowsInt d.table)] [] [(0, .pt 45 (.blk (.val c3) 0)), (1, .is (.tmp 46) (VP.int .i64 t.op)), (2, .is (.tmp 47) (VP.bool (t.op == 3))), (3, .is (.tmp 48) (VP.bool (t.op == 3))), (4, .pt 49 (.blk (.val c3) 1)), (5, .is (.tmp 50) (VP.int .i64 t.fn)), (6, .is (.tmp 51) (VP.bool (decide (t.fn < 0)))), (7, .is (.tmp 52) (VP.bool (decide (t.fn < 0)))), (8, .pt 53 (.blk (.val c3) 1)), (9, .is (.tmp 54) (VP.int .i64 t.fn)), (10, .is (.tmp 55) (VP.ptr v)), (11, .is (.tmp 56) (VP.ptr v)), (12, .pt 57 (.blk (.val v) 1)), (13, .is (.tmp 58) (VP.eq uf true true)), (14, .is (.tmp 59) (VP.int .i64 ((d.funs.length : Nat) : Int))), (15, .is (.tmp 60) (VP.bool (decide (t.fn ≥ ((d.funs.length : Nat) : Int))))), (16, .is (.tmp 61) (VP.bool (decide (t.fn ≥ ((d.funs.length : Nat) : Int))))), (17, .is (.tmp 62) (VP.bool (decide (t.fn ≥ ((d.funs.length : Nat) : Int))))), (18, .is (.tmp 44) (VP.bool (decide (t.fn ≥ ((d.funs.length : Nat) : Int)))))] [] [0, 1, 2, 3, 4, 5, 6, 7, 8, 9, 10] [] DagE_p44_5 DagE_s44_5 rfl rfl follow rfl ⟨
                  wp rfl (does_field _ _ _ 0 DagE_f_api_Term_0 rfl rfl rfl rfl rfl rfl (pt_ptr (ar_tmp (av_fs 1 rfl)))),
                  wp rfl (does_loadOne _ DagE_one_int rfl rfl rfl rfl rfl (pt_pt (av_rs 0 0 rfl rfl)) (rds_box (off := 0) (av_fs 3 rfl) (hq_one rfl))),
                  wp rfl (does_cmp (m := t.op) (n := 3) _ _ _ _ _ rfl rfl rfl rfl rfl rfl .i64 (ar_tmp (av_rs 1 1 rfl rfl)) (ar_const (fun _ _ => rfl))),
                  wp rfl (does_move _ (.inl rfl) rfl rfl rfl rfl (ar_tmp (av_rs 2 2 rfl rfl))),
                  .inl ⟨wants_guard true rfl rfl rfl (av_bool hb10 (av_rs 3 3 rfl rfl)), does_field _ _ _ 1 DagE_f_api_Term_1 rfl rfl rfl rfl rfl rfl (pt_ptr (ar_tmp (av_fs 1 rfl)))⟩,
                  .inl ⟨wants_guard true rfl rfl rfl (av_bool hb10 (av_rs 3 3 rfl rfl)), does_loadOne _ DagE_one_int rfl rfl rfl rfl rfl (pt_pt (av_rs 4 4 rfl rfl)) (rds_box (off := 1) (av_fs 3 rfl) (hq_one rfl))⟩,
                  .inl ⟨wants_guard true rfl rfl rfl (av_bool hb10 (av_rs 3 3 rfl rfl)), does_cmp (m := t.fn) (n := 0) _ _ _ _ _ rfl rfl rfl rfl rfl rfl .i64 (ar_tmp (av_rs 5 5 rfl rfl)) (ar_const (fun _ _ => rfl))⟩,
                  .inl ⟨wants_guard true rfl rfl rfl (av_bool hb10 (av_rs 3 3 rfl rfl)), does_move _ (.inl rfl) rfl rfl rfl rfl (ar_tmp (av_rs 6 6 rfl rfl))⟩,
                  .inl ⟨wants_guard false rfl rfl rfl (av_bool hb11 (av_rs 7 7 rfl rfl)), does_field _ _ _ 1 DagE_f_api_Term_1 rfl rfl rfl rfl rfl rfl (pt_ptr (ar_tmp (av_fs 1 rfl)))⟩,
                  .inl ⟨wants_guard false rfl rfl rfl (av_bool hb11 (av_rs 7 7 rfl rfl)), does_loadOne _ DagE_one_int rfl rfl rfl rfl rfl (pt_pt (av_rs 8 8 rfl rfl)) (rds_box (off := 1) (av_fs 3 rfl) (hq_one rfl))⟩,
                  .inl ⟨wants_guard false rfl rfl rfl (av_bool hb11 (av_rs 7 7 rfl rfl)), does_move _ (.inl rfl) rfl rfl rfl rfl (ar_tmp (av_fs 0 rfl))⟩,
                  .inl ⟨wants_guard false rfl rfl rfl (av_bool hb11 (av_rs 7 7 rfl rfl)), does_nil _ rfl rfl rfl rfl rfl (ar_tmp (av_rs 10 10 rfl rfl))⟩,
                  .inl ⟨wants_guard false rfl rfl rfl (av_bool hb11 (av_rs 7 7 rfl rfl)), does_field _ _ _ 1 DagE_f_dag_Arena_1 rfl rfl rfl rfl rfl rfl (pt_ptr (ar_tmp (av_rs 11 11 rfl rfl)))⟩,
                  .inl ⟨wants_guard false rfl rfl rfl (av_bool hb11 (av_rs 7 7 rfl rfl)), does_loadOne _ DagE_one___api_Fun rfl rfl rfl rfl rfl (pt_pt (av_rs 12 12 rfl rfl)) (rds_bbox (off := 1) (av_fs 4 rfl) (hq_one rfl))⟩,
                  .inl ⟨wants_guard false rfl rfl rfl (av_bool hb11 (av_rs 7 7 rfl rfl)), does_len _ _ (by kernel_rfl) rfl rfl rfl rfl rfl (sl_bor (av_fs 6 rfl) (ar_tmp (av_rs 13 13 rfl rfl)))⟩,
                  .inl ⟨wants_guard false rfl rfl rfl (av_bool hb11 (av_rs 7 7 rfl rfl)), does_cmp (m := t.fn) (n := ((d.funs.length : Nat) : Int)) _ _ _ _ _ rfl rfl rfl rfl rfl rfl .i64 (ar_tmp (av_rs 9 9 rfl rfl)) (ar_tmp (av_rs 14 14 rfl rfl))⟩,
                  .inl ⟨wants_guard true rfl rfl rfl (av_bool hb10 (av_rs 3 3 rfl rfl)), does_pick false _ _ _ rfl rfl rfl rfl rfl (ar_tmp (av_bool hb11 (av_rs 7 7 rfl rfl))) (ar_tmp (av_rs 15 15 rfl rfl))⟩,
                  wp rfl (does_pick true _ _ _ rfl rfl rfl rfl rfl (ar_tmp (av_bool hb10 (av_rs 3 3 rfl rfl))) (ar_tmp (av_rs 16 16 rfl rfl))),
                  wp rfl (does_move _ (.inr rfl) rfl rfl rfl rfl (ar_tmp (av_rs 17 17 rfl rfl))),
                  trivial⟩ ?_
                refine t_pick [3, 4, 5, 6, 7, 8, 9, 10, 29] rfl ?_
                refine t_pick [8, 0, 1, 2, 3, 4, 5, 6, 7] rfl ?_
                refine t_slot (y := VP.bool ((t.op == 3) && (decide (t.fn < 0) || decide (t.fn ≥ ((d.funs.length : Nat) : Int))))) (fun _ _ _ h => by rw [show ((t.op == 3) && (decide (t.fn < 0) || decide (t.fn ≥ ((d.funs.length : Nat) : Int)))) = (decide (t.fn ≥ ((d.funs.length : Nat) : Int))) from by (try rw [hb4]); (try rw [hb9]); (try rw [hb10]); (try rw [hb11]); (try rfl)]; exact h) ?_
                refine nx_cut (τ := Unit) (J := fun _ => [.is (.tmp 44) (VP.bool ((t.op == 3) && (decide (t.fn < 0) || decide (t.fn ≥ ((d.funs.length : Nat) : Int))))), .own 101 (.val c3) (B_term t), .bor (.val v) (ArO us uf ut uo uh ub d.most), .bor (.val us) (R_sort d.sorts), .bor (.val uf) (R_fun d.funs), .bor (.val ut) (R_term d.terms), .bor (.val uo) (R_int d.of_), .bor (.val uh) (R_u64 d.hashes), .bor (.val ub) (rowsInt d.table)]) () [0, 1, 2, 3, 4, 5, 6, 7, 8] ?_
                exact rfl
            · have hc10 := ne_of_beq_false hb10
              refine t_rg [.is (.tmp 0) (VP.ptr v), .is (.tmp 3) (VP.ptr c3), .is (.tmp 24) (VP.bool (((t.op == 4) && !(decB t.num)) || ((t.op != 4) && !(t.num.toList == (ByteArray.mk #[]).toList)))), .own 101 (.val c3) (B_term t), .bor (.val v) (ArO us uf ut uo uh ub d.most), .bor (.val us) (R_sort d.sorts), .bor (.val uf) (R_fun d.funs), .bor (.val ut) (R_term d.terms), .bor (.val uo) (R_int d.of_), .bor (.val uh) (R_u64 d.hashes), .bor (.val ub) (rowsInt d.table)] [] [(0, .pt 45 (.blk (.val c3) 0)), (1, .is (.tmp 46) (VP.int .i64 t.op)), (2, .is (.tmp 47) (VP.bool (t.op == 3))), (3, .is (.tmp 48) (VP.bool (t.op == 3))), (4, .is (.tmp 49) (VP.undef)), (5, .is (.tmp 50) (VP.undef)), (6, .is (.tmp 51) (VP.undef)), (7, .is (.tmp 52) (VP.undef)), (8, .is (.tmp 53) (VP.undef)), (9, .is (.tmp 54) (VP.undef)), (10, .is (.tmp 55) (VP.undef)), (11, .is (.tmp 56) (VP.undef)), (12, .is (.tmp 57) (VP.undef)), (13, .is (.tmp 58) (VP.undef)), (14, .is (.tmp 59) (VP.undef)), (15, .is (.tmp 60) (VP.undef)), (16, .is (.tmp 61) (VP.undef)), (17, .is (.tmp 62) (VP.bool false)), (18, .is (.tmp 44) (VP.bool false))] [] [0, 1, 2, 3, 4, 5, 6, 7, 8, 9, 10] [] DagE_p44_5 DagE_s44_5 rfl rfl follow rfl ⟨
                wp rfl (does_field _ _ _ 0 DagE_f_api_Term_0 rfl rfl rfl rfl rfl rfl (pt_ptr (ar_tmp (av_fs 1 rfl)))),
                wp rfl (does_loadOne _ DagE_one_int rfl rfl rfl rfl rfl (pt_pt (av_rs 0 0 rfl rfl)) (rds_box (off := 0) (av_fs 3 rfl) (hq_one rfl))),
                wp rfl (does_cmp (m := t.op) (n := 3) _ _ _ _ _ rfl rfl rfl rfl rfl rfl .i64 (ar_tmp (av_rs 1 1 rfl rfl)) (ar_const (fun _ _ => rfl))),
                wp rfl (does_move _ (.inl rfl) rfl rfl rfl rfl (ar_tmp (av_rs 2 2 rfl rfl))),
                .inr (skips_guardU false rfl rfl rfl (av_bool hb10 (av_rs 3 3 rfl rfl)) rfl rfl rfl rfl),
                .inr (skips_guardU false rfl rfl rfl (av_bool hb10 (av_rs 3 3 rfl rfl)) rfl rfl rfl rfl),
                .inr (skips_guardU false rfl rfl rfl (av_bool hb10 (av_rs 3 3 rfl rfl)) rfl rfl rfl rfl),
                .inr (skips_guardU false rfl rfl rfl (av_bool hb10 (av_rs 3 3 rfl rfl)) rfl rfl rfl rfl),
                .inr (skips_undefU false rfl rfl rfl (av_rs 7 7 rfl rfl) rfl rfl rfl rfl),
                .inr (skips_undefU false rfl rfl rfl (av_rs 7 7 rfl rfl) rfl rfl rfl rfl),
                .inr (skips_undefU false rfl rfl rfl (av_rs 7 7 rfl rfl) rfl rfl rfl rfl),
                .inr (skips_undefU false rfl rfl rfl (av_rs 7 7 rfl rfl) rfl rfl rfl rfl),
                .inr (skips_undefU false rfl rfl rfl (av_rs 7 7 rfl rfl) rfl rfl rfl rfl),
                .inr (skips_undefU false rfl rfl rfl (av_rs 7 7 rfl rfl) rfl rfl rfl rfl),
                .inr (skips_undefU false rfl rfl rfl (av_rs 7 7 rfl rfl) rfl rfl rfl rfl),
                .inr (skips_undefU false rfl rfl rfl (av_rs 7 7 rfl rfl) rfl rfl rfl rfl),
                .inr (skips_guardU false rfl rfl rfl (av_bool hb10 (av_rs 3 3 rfl rfl)) rfl rfl rfl rfl),
                wp rfl (does_pick false _ _ _ rfl rfl rfl rfl rfl (ar_tmp (av_bool hb10 (av_rs 3 3 rfl rfl))) (ar_const (fun _ _ => rfl))),
                wp rfl (does_move _ (.inr rfl) rfl rfl rfl rfl (ar_tmp (av_rs 17 17 rfl rfl))),
                trivial⟩ ?_
              refine t_pick [3, 4, 5, 6, 7, 8, 9, 10, 29] rfl ?_
              refine t_pick [8, 0, 1, 2, 3, 4, 5, 6, 7] rfl ?_
              refine t_slot (y := VP.bool ((t.op == 3) && (decide (t.fn < 0) || decide (t.fn ≥ ((d.funs.length : Nat) : Int))))) (fun _ _ _ h => by rw [show ((t.op == 3) && (decide (t.fn < 0) || decide (t.fn ≥ ((d.funs.length : Nat) : Int)))) = false from by (try rw [hb4]); (try rw [hb9]); (try rw [hb10]); (try rfl)]; exact h) ?_
              refine nx_cut (τ := Unit) (J := fun _ => [.is (.tmp 44) (VP.bool ((t.op == 3) && (decide (t.fn < 0) || decide (t.fn ≥ ((d.funs.length : Nat) : Int))))), .own 101 (.val c3) (B_term t), .bor (.val v) (ArO us uf ut uo uh ub d.most), .bor (.val us) (R_sort d.sorts), .bor (.val uf) (R_fun d.funs), .bor (.val ut) (R_term d.terms), .bor (.val uo) (R_int d.of_), .bor (.val uh) (R_u64 d.hashes), .bor (.val ub) (rowsInt d.table)]) () [0, 1, 2, 3, 4, 5, 6, 7, 8] ?_
              exact rfl
          · rintro _
            refine t_split 0 rfl (fun hb12 => ?_) (fun hb12 => ?_)
            · refine t_seq ?_
              refine t_rg [.is (.tmp 44) (VP.bool ((t.op == 3) && (decide (t.fn < 0) || decide (t.fn ≥ ((d.funs.length : Nat) : Int))))), .own 101 (.val c3) (B_term t), .bor (.val v) (ArO us uf ut uo uh ub d.most), .bor (.val us) (R_sort d.sorts), .bor (.val uf) (R_fun d.funs), .bor (.val ut) (R_term d.terms), .bor (.val uo) (R_int d.of_), .bor (.val uh) (R_u64 d.hashes), .bor (.val ub) (rowsInt d.table)] [] [(0, .is (.tmp 4) (VP.int .i64 2))] [] [0, 1, 2, 3, 4, 5, 6, 7, 8] [] [[]] [[]] rfl rfl follow rfl ⟨
                wp rfl (does_move _ (.inr rfl) rfl rfl rfl rfl (ar_const (fun _ _ => rfl))),
                trivial⟩ ?_
              refine t_pick [1, 2, 3, 4, 5, 6, 7, 8, 9] rfl ?_
              refine nx_then ?_
              refine t_ret ?_
              refine rt_block ?_
              refine rt_then ?_
              exact rt_post [HA.of (VP.int .i64 (d.bareE t))] [[]] [] [] rfl ⟨(rv_eq (congrArg HA.of (congrArg (VP.int .i64) (show 2 = (d.bareE t) from Eq.symm (by unfold ArD.bareE; (try rw [hb4]); (try rw [hb9]); (try rw [hb12]); (try rfl))))) (rv_vp 8 rfl)), trivial⟩ (by decide) rfl rfl
            · refine t_skip ?_
              refine nx_block ?_
              refine nx_then ?_
              refine t_seq ?_
              refine t_rg [.is (.tmp 44) (VP.bool ((t.op == 3) && (decide (t.fn < 0) || decide (t.fn ≥ ((d.funs.length : Nat) : Int))))), .own 101 (.val c3) (B_term t), .bor (.val v) (ArO us uf ut uo uh ub d.most), .bor (.val us) (R_sort d.sorts), .bor (.val uf) (R_fun d.funs), .bor (.val ut) (R_term d.terms), .bor (.val uo) (R_int d.of_), .bor (.val uh) (R_u64 d.hashes), .bor (.val ub) (rowsInt d.table)] [] [(0, .is (.tmp 4) (VP.int .i64 0))] [] [0, 1, 2, 3, 4, 5, 6, 7, 8] [] [[]] [[]] rfl rfl follow rfl ⟨
                wp rfl (does_move _ (.inr rfl) rfl rfl rfl rfl (ar_const (fun _ _ => rfl))),
                trivial⟩ ?_
              refine t_pick [1, 2, 3, 4, 5, 6, 7, 8, 9] rfl ?_
              refine nx_then ?_
              refine t_ret ?_
              exact rt_post [HA.of (VP.int .i64 (d.bareE t))] [[]] [] [] rfl ⟨(rv_eq (congrArg HA.of (congrArg (VP.int .i64) (show 0 = (d.bareE t) from Eq.symm (by unfold ArD.bareE; (try rw [hb4]); (try rw [hb9]); (try rw [hb12]); (try rfl))))) (rv_vp 8 rfl)), trivial⟩ (by decide) rfl rfl

set_option maxRecDepth 100000 in
set_option maxHeartbeats 4000000 in
theorem da_counts {v : Value} {d : ArD} (t : TermD) (hfn : t.op = 3 → 0 ≤ t.fn ∧ t.fn < d.funs.length) : SpecO Try.prog 47 [.vp (VP.ptr v), .vp (VP.agg [VP.int .i64 t.op, VP.int .i64 t.fn, O_int t.kids, VP.str t.num])] [(v, Arn d)] [] [] (HA.of (VP.tup [VP.int .i64 (d.least t), VP.int .i64 (d.great t)])) := by
  refine spec_tup (ps := [VP.int .i64 (d.least t), VP.int .i64 (d.great t)]) ?_
  refine spec_of 33 Try.func47 rfl Try.ntmps47 rfl fun w0 S0 Z0 Bf => ?_
  refine t_pick [2, 0, 1] rfl ?_
  refine b_part (part_cells (T' := 64) (Rs := [R_sort d.sorts, R_fun d.funs, R_term d.terms, R_int d.of_, R_u64 d.hashes, rowsInt d.table, HA.of (VP.int .i64 d.most)]) 0 rfl) fun us => ?_
  refine b_part (part_cells (T' := 64) (Rs := [HA.of (VP.eq us true true), R_fun d.funs, R_term d.terms, R_int d.of_, R_u64 d.hashes, rowsInt d.table, HA.of (VP.int .i64 d.most)]) 1 rfl) fun uf => ?_
  refine b_part (part_cells (T' := 64) (Rs := [HA.of (VP.eq us true true), HA.of (VP.eq uf true true), R_term d.terms, R_int d.of_, R_u64 d.hashes, rowsInt d.table, HA.of (VP.int .i64 d.most)]) 2 rfl) fun ut => ?_
  refine b_part (part_cells (T' := 64) (Rs := [HA.of (VP.eq us true true), HA.of (VP.eq uf true true), HA.of (VP.eq ut true true), R_int d.of_, R_u64 d.hashes, rowsInt d.table, HA.of (VP.int .i64 d.most)]) 3 rfl) fun uo => ?_
  refine b_part (part_cells (T' := 64) (Rs := [HA.of (VP.eq us true true), HA.of (VP.eq uf true true), HA.of (VP.eq ut true true), HA.of (VP.eq uo true true), R_u64 d.hashes, rowsInt d.table, HA.of (VP.int .i64 d.most)]) 4 rfl) fun uh => ?_
  refine b_part (part_cells (T' := 64) (Rs := [HA.of (VP.eq us true true), HA.of (VP.eq uf true true), HA.of (VP.eq ut true true), HA.of (VP.eq uo true true), HA.of (VP.eq uh true true), rowsInt d.table, HA.of (VP.int .i64 d.most)]) 5 rfl) fun ub => ?_
  refine t_seq ?_
  refine t_rg [.bor (.val v) (ArO us uf ut uo uh ub d.most), .bor (.val ub) (rowsInt d.table), .bor (.val uh) (R_u64 d.hashes), .bor (.val uo) (R_int d.of_), .bor (.val ut) (R_term d.terms), .bor (.val uf) (R_fun d.funs), .bor (.val us) (R_sort d.sorts), .is (.tmp 0) (VP.ptr v), .is (.tmp 1) (VP.agg [VP.int .i64 t.op, VP.int .i64 t.fn, O_int t.kids, VP.str t.num])] [] [(0, .own 101 (.tmp 3) (B_term t)), (1, .is (.tmp 4) (VP.int .i64 0)), (2, .is (.tmp 5) (VP.int .i64 0))] [] [0, 1, 2, 3, 4, 5, 6, 7, 8] [] [[], [], [1]] [[], [2], []] rfl rfl follow rfl ⟨
    wp rfl (does_box (Rs := [HA.of (VP.int .i64 t.op), HA.of (VP.int .i64 t.fn), HA.of (O_int t.kids), HA.of (VP.str t.num)]) _ rfl rfl rfl rfl rfl rfl (cv_agg (ps := [VP.int .i64 t.op, VP.int .i64 t.fn, O_int t.kids, VP.str t.num]) (ar_tmp (av_fs 8 rfl)))),
    wp rfl (does_move _ (.inr rfl) rfl rfl rfl rfl (ar_const (fun _ _ => rfl))),
    wp rfl (does_move _ (.inr rfl) rfl rfl rfl rfl (ar_const (fun _ _ => rfl))),
    trivial⟩ ?_
  refine t_pick [0, 1, 2, 3, 4, 5, 6, 7, 9, 10, 11] rfl ?_
  refine nx_then ?_
  refine t_pick [8, 0, 1, 2, 3, 4, 5, 6, 7, 9, 10] rfl ?_
  refine t_nameP rfl fun c3 => ?_
  refine t_seq ?_
  refine t_seq ?_
  refine t_rg [.own 101 (.val c3) (B_term t), .is (.tmp 3) (VP.ptr c3), .bor (.val v) (ArO us uf ut uo uh ub d.most), .bor (.val ub) (rowsInt d.table), .bor (.val uh) (R_u64 d.hashes), .bor (.val uo) (R_int d.of_), .bor (.val ut) (R_term d.terms), .bor (.val uf) (R_fun d.funs), .bor (.val us) (R_sort d.sorts), .is (.tmp 0) (VP.ptr v), .is (.tmp 4) (VP.int .i64 0), .is (.tmp 5) (VP.int .i64 0)] [] [(0, .pt 7 (.blk (.val c3) 0)), (1, .is (.tmp 8) (VP.int .i64 t.op))] [] [0, 1, 2, 3, 4, 5, 6, 7, 8, 9, 10, 11] [] [[], [0]] [[1], []] rfl rfl follow rfl ⟨
    wp rfl (does_field _ _ _ 0 DagE_f_api_Term_0 rfl rfl rfl rfl rfl rfl (pt_ptr (ar_tmp (av_fs 1 rfl)))),
    wp rfl (does_loadOne _ DagE_one_int rfl rfl rfl rfl rfl (pt_pt (av_rs 0 0 rfl rfl)) (rds_box (off := 0) (av_fs 0 rfl) (hq_one rfl))),
    trivial⟩ ?_
  refine t_pick [0, 1, 2, 3, 4, 5, 6, 7, 8, 9, 10, 11, 13] rfl ?_
  refine nx_then ?_
  refine t_block ?_
  refine t_seq ?_
  refine t_seq ?_
  refine t_rg [.own 101 (.val c3) (B_term t), .is (.tmp 3) (VP.ptr c3), .bor (.val v) (ArO us uf ut uo uh ub d.most), .bor (.val ub) (rowsInt d.table), .bor (.val uh) (R_u64 d.hashes), .bor (.val uo) (R_int d.of_), .bor (.val ut) (R_term d.terms), .bor (.val uf) (R_fun d.funs), .bor (.val us) (R_sort d.sorts), .is (.tmp 0) (VP.ptr v), .is (.tmp 4) (VP.int .i64 0), .is (.tmp 5) (VP.int .i64 0), .is (.tmp 8) (VP.int .i64 t.op)] [] [(0, .is (.tmp 10) (VP.bool (t.op == 1))), (1, .is (.tmp 9) (VP.bool (t.op == 1)))] [] [0, 1, 2, 3, 4, 5, 6, 7, 8, 9, 10, 11, 12] [] [[], [0]] [[1], []] rfl rfl follow rfl ⟨
    wp rfl (does_cmp (m := t.op) (n := 1) _ _ _ _ _ rfl rfl rfl rfl rfl rfl .i64 (ar_tmp (av_fs 12 rfl)) (ar_const (fun _ _ => rfl))),
    wp rfl (does_move _ (.inr rfl) rfl rfl rfl rfl (ar_tmp (av_rs 0 0 rfl rfl))),
    trivial⟩ ?_
  refine t_pick [0, 1, 2, 3, 4, 5, 6, 7, 8, 9, 10, 11, 12, 14] rfl ?_
  refine nx_then ?_
  refine t_split 13 rfl (fun hb1 => ?_) (fun hb1 => ?_)
  · have hc1 := eq_of_beq hb1
    refine t_skip ?_
    refine nx_then ?_
    refine t_cond_te 13 rfl hb1 ?_
    refine t_seq ?_
    refine t_rg [.own 101 (.val c3) (B_term t), .is (.tmp 3) (VP.ptr c3), .bor (.val v) (ArO us uf ut uo uh ub d.most), .bor (.val ub) (rowsInt d.table), .bor (.val uh) (R_u64 d.hashes), .bor (.val uo) (R_int d.of_), .bor (.val ut) (R_term d.terms), .bor (.val uf) (R_fun d.funs), .bor (.val us) (R_sort d.sorts), .is (.tmp 0) (VP.ptr v), .is (.tmp 8) (VP.int .i64 t.op), .is (.tmp 9) (VP.bool (t.op == 1))] [(0, .is (.tmp 4) (VP.int .i64 0)), (1, .is (.tmp 5) (VP.int .i64 0))] [(0, .is (.tmp 4) (VP.int .i64 0)), (1, .is (.tmp 5) (VP.int .i64 0))] [] [0, 1, 2, 3, 4, 5, 6, 7, 8, 9, 12, 13] [10, 11] [[], [0]] [[1], []] rfl rfl follow rfl ⟨
      wp rfl (does_move _ (.inr rfl) rfl rfl rfl rfl (ar_const (fun _ _ => rfl))),
      wp rfl (does_move _ (.inr rfl) rfl rfl rfl rfl (ar_const (fun _ _ => rfl))),
      trivial⟩ ?_
    refine t_pick [0, 2, 3, 4, 5, 6, 7, 8, 12, 13] rfl ?_
    refine nx_then ?_
    refine t_ret ?_
    refine rt_block ?_
    refine rt_then ?_
    exact rt_post [HA.of (VP.int .i64 (d.least t)), HA.of (VP.int .i64 (d.great t))] [[], []] [] [] rfl ⟨(rv_eq (congrArg HA.of (congrArg (VP.int .i64) (show 0 = (d.least t) from Eq.symm (by unfold ArD.least; (try rw [hb1]); (try rfl))))) (rv_vp 8 rfl)), (rv_eq (congrArg HA.of (congrArg (VP.int .i64) (show 0 = (d.great t) from Eq.symm (by unfold ArD.great; (try rw [hb1]); (try rfl))))) (rv_vp 9 rfl)), trivial⟩ (by decide) rfl rfl
  · have hc1 := ne_of_beq_false hb1
    refine t_seq ?_
    refine t_rg [.own 101 (.val c3) (B_term t), .is (.tmp 3) (VP.ptr c3), .bor (.val v) (ArO us uf ut uo uh ub d.most), .bor (.val ub) (rowsInt d.table), .bor (.val uh) (R_u64 d.hashes), .bor (.val uo) (R_int d.of_), .bor (.val ut) (R_term d.terms), .bor (.val uf) (R_fun d.funs), .bor (.val us) (R_sort d.sorts), .is (.tmp 0) (VP.ptr v), .is (.tmp 4) (VP.int .i64 0), .is (.tmp 5) (VP.int .i64 0), .is (.tmp 8) (VP.int .i64 t.op)] [(1, .is (.tmp 9) (VP.bool (t.op == 1)))] [(0, .is (.tmp 11) (VP.bool (t.op == 2))), (1, .is (.tmp 9) (VP.bool (t.op == 2)))] [] [0, 1, 2, 3, 4, 5, 6, 7, 8, 9, 10, 11, 12] [13] [[], [0]] [[1], []] rfl rfl follow rfl ⟨
      wp rfl (does_cmp (m := t.op) (n := 2) _ _ _ _ _ rfl rfl rfl rfl rfl rfl .i64 (ar_tmp (av_fs 12 rfl)) (ar_const (fun _ _ => rfl))),
      wp rfl (does_move _ (.inr rfl) rfl rfl rfl rfl (ar_tmp (av_rs 0 0 rfl rfl))),
      trivial⟩ ?_
    refine t_pick [0, 1, 2, 3, 4, 5, 6, 7, 8, 9, 10, 11, 12, 14] rfl ?_
    refine nx_then ?_
    refine t_split 13 rfl (fun hb2 => ?_) (fun hb2 => ?_)
    · have hc2 := eq_of_beq hb2
      refine t_skip ?_
      refine nx_then ?_
      refine t_cond_te 13 rfl hb2 ?_
      refine t_seq ?_
      refine t_rg [.own 101 (.val c3) (B_term t), .is (.tmp 3) (VP.ptr c3), .bor (.val v) (ArO us uf ut uo uh ub d.most), .bor (.val ub) (rowsInt d.table), .bor (.val uh) (R_u64 d.hashes), .bor (.val uo) (R_int d.of_), .bor (.val ut) (R_term d.terms), .bor (.val uf) (R_fun d.funs), .bor (.val us) (R_sort d.sorts), .is (.tmp 0) (VP.ptr v), .is (.tmp 8) (VP.int .i64 t.op), .is (.tmp 9) (VP.bool (t.op == 2))] [(0, .is (.tmp 4) (VP.int .i64 0)), (1, .is (.tmp 5) (VP.int .i64 0))] [(0, .is (.tmp 4) (VP.int .i64 0)), (1, .is (.tmp 5) (VP.int .i64 0))] [] [0, 1, 2, 3, 4, 5, 6, 7, 8, 9, 12, 13] [10, 11] [[], [0]] [[1], []] rfl rfl follow rfl ⟨
        wp rfl (does_move _ (.inr rfl) rfl rfl rfl rfl (ar_const (fun _ _ => rfl))),
        wp rfl (does_move _ (.inr rfl) rfl rfl rfl rfl (ar_const (fun _ _ => rfl))),
        trivial⟩ ?_
      refine t_pick [0, 2, 3, 4, 5, 6, 7, 8, 12, 13] rfl ?_
      refine nx_then ?_
      refine t_ret ?_
      refine rt_block ?_
      refine rt_then ?_
      exact rt_post [HA.of (VP.int .i64 (d.least t)), HA.of (VP.int .i64 (d.great t))] [[], []] [] [] rfl ⟨(rv_eq (congrArg HA.of (congrArg (VP.int .i64) (show 0 = (d.least t) from Eq.symm (by unfold ArD.least; (try rw [hb1]); (try rw [hb2]); (try rfl))))) (rv_vp 8 rfl)), (rv_eq (congrArg HA.of (congrArg (VP.int .i64) (show 0 = (d.great t) from Eq.symm (by unfold ArD.great; (try rw [hb1]); (try rw [hb2]); (try rfl))))) (rv_vp 9 rfl)), trivial⟩ (by decide) rfl rfl
    · have hc2 := ne_of_beq_false hb2
      refine t_rg [.own 101 (.val c3) (B_term t), .is (.tmp 3) (VP.ptr c3), .bor (.val v) (ArO us uf ut uo uh ub d.most), .bor (.val ub) (rowsInt d.table), .bor (.val uh) (R_u64 d.hashes), .bor (.val uo) (R_int d.of_), .bor (.val ut) (R_term d.terms), .bor (.val uf) (R_fun d.funs), .bor (.val us) (R_sort d.sorts), .is (.tmp 0) (VP.ptr v), .is (.tmp 4) (VP.int .i64 0), .is (.tmp 5) (VP.int .i64 0), .is (.tmp 8) (VP.int .i64 t.op)] [(1, .is (.tmp 9) (VP.bool (t.op == 2)))] [(0, .is (.tmp 12) (VP.bool (t.op == 4))), (1, .is (.tmp 9) (VP.bool (t.op == 4)))] [] [0, 1, 2, 3, 4, 5, 6, 7, 8, 9, 10, 11, 12] [13] [[], [0]] [[1], []] rfl rfl follow rfl ⟨
        wp rfl (does_cmp (m := t.op) (n := 4) _ _ _ _ _ rfl rfl rfl rfl rfl rfl .i64 (ar_tmp (av_fs 12 rfl)) (ar_const (fun _ _ => rfl))),
        wp rfl (does_move _ (.inr rfl) rfl rfl rfl rfl (ar_tmp (av_rs 0 0 rfl rfl))),
        trivial⟩ ?_
      refine t_pick [0, 1, 2, 3, 4, 5, 6, 7, 8, 9, 10, 11, 12, 14] rfl ?_
      refine nx_then ?_
      refine t_split 13 rfl (fun hb3 => ?_) (fun hb3 => ?_)
      · have hc3 := eq_of_beq hb3
        refine t_seq ?_
        refine t_rg [.own 101 (.val c3) (B_term t), .is (.tmp 3) (VP.ptr c3), .bor (.val v) (ArO us uf ut uo uh ub d.most), .bor (.val ub) (rowsInt d.table), .bor (.val uh) (R_u64 d.hashes), .bor (.val uo) (R_int d.of_), .bor (.val ut) (R_term d.terms), .bor (.val uf) (R_fun d.funs), .bor (.val us) (R_sort d.sorts), .is (.tmp 0) (VP.ptr v), .is (.tmp 8) (VP.int .i64 t.op), .is (.tmp 9) (VP.bool (t.op == 4))] [(0, .is (.tmp 4) (VP.int .i64 0)), (1, .is (.tmp 5) (VP.int .i64 0))] [(0, .is (.tmp 4) (VP.int .i64 0)), (1, .is (.tmp 5) (VP.int .i64 0))] [] [0, 1, 2, 3, 4, 5, 6, 7, 8, 9, 12, 13] [10, 11] [[], [0]] [[1], []] rfl rfl follow rfl ⟨
          wp rfl (does_move _ (.inr rfl) rfl rfl rfl rfl (ar_const (fun _ _ => rfl))),
          wp rfl (does_move _ (.inr rfl) rfl rfl rfl rfl (ar_const (fun _ _ => rfl))),
          trivial⟩ ?_
        refine t_pick [0, 2, 3, 4, 5, 6, 7, 8, 12, 13] rfl ?_
        refine nx_then ?_
        refine t_ret ?_
        refine rt_block ?_
        refine rt_then ?_
        exact rt_post [HA.of (VP.int .i64 (d.least t)), HA.of (VP.int .i64 (d.great t))] [[], []] [] [] rfl ⟨(rv_eq (congrArg HA.of (congrArg (VP.int .i64) (show 0 = (d.least t) from Eq.symm (by unfold ArD.least; (try rw [hb1]); (try rw [hb2]); (try rw [hb3]); (try rfl))))) (rv_vp 8 rfl)), (rv_eq (congrArg HA.of (congrArg (VP.int .i64) (show 0 = (d.great t) from Eq.symm (by unfold ArD.great; (try rw [hb1]); (try rw [hb2]); (try rw [hb3]); (try rfl))))) (rv_vp 9 rfl)), trivial⟩ (by decide) rfl rfl
      · have hc3 := ne_of_beq_false hb3
        refine t_seq ?_
        refine t_rg [.own 101 (.val c3) (B_term t), .is (.tmp 3) (VP.ptr c3), .bor (.val v) (ArO us uf ut uo uh ub d.most), .bor (.val ub) (rowsInt d.table), .bor (.val uh) (R_u64 d.hashes), .bor (.val uo) (R_int d.of_), .bor (.val ut) (R_term d.terms), .bor (.val uf) (R_fun d.funs), .bor (.val us) (R_sort d.sorts), .is (.tmp 0) (VP.ptr v), .is (.tmp 4) (VP.int .i64 0), .is (.tmp 5) (VP.int .i64 0), .is (.tmp 8) (VP.int .i64 t.op), .is (.tmp 9) (VP.bool (t.op == 4))] [] [(0, .is (.tmp 14) (VP.bool (t.op == 3))), (1, .is (.tmp 13) (VP.bool (t.op == 3)))] [] [0, 1, 2, 3, 4, 5, 6, 7, 8, 9, 10, 11, 12, 13] [] [[], [0]] [[1], []] rfl rfl follow rfl ⟨
          wp rfl (does_cmp (m := t.op) (n := 3) _ _ _ _ _ rfl rfl rfl rfl rfl rfl .i64 (ar_tmp (av_fs 12 rfl)) (ar_const (fun _ _ => rfl))),
          wp rfl (does_move _ (.inr rfl) rfl rfl rfl rfl (ar_tmp (av_rs 0 0 rfl rfl))),
          trivial⟩ ?_
        refine t_pick [0, 1, 2, 3, 4, 5, 6, 7, 8, 9, 10, 11, 12, 15] rfl ?_
        refine nx_then ?_
        refine t_split 13 rfl (fun hb4 => ?_) (fun hb4 => ?_)
        · have hc4 := eq_of_beq hb4
          have hf3 := hfn (eq_of_beq hb4)
          refine t_seq ?_
          refine t_rg [.own 101 (.val c3) (B_term t), .is (.tmp 3) (VP.ptr c3), .bor (.val v) (ArO us uf ut uo uh ub d.most), .bor (.val ub) (rowsInt d.table), .bor (.val uh) (R_u64 d.hashes), .bor (.val uo) (R_int d.of_), .bor (.val ut) (R_term d.terms), .bor (.val uf) (R_fun d.funs), .bor (.val us) (R_sort d.sorts), .is (.tmp 0) (VP.ptr v), .is (.tmp 4) (VP.int .i64 0), .is (.tmp 5) (VP.int .i64 0), .is (.tmp 8) (VP.int .i64 t.op), .is (.tmp 13) (VP.bool (t.op == 3))] [] [(0, .is (.tmp 15) (VP.ptr v)), (1, .is (.tmp 16) (VP.ptr v)), (2, .pt 17 (.blk (.val v) 1)), (3, .is (.tmp 18) (VP.eq uf true true)), (4, .pt 19 (.blk (.val c3) 1)), (5, .is (.tmp 20) (VP.int .i64 t.fn)), (6, .pt 21 (.row (.val uf) (t.fn.toNat * 3))), (7, .pt 22 (.row (.val uf) ((t.fn.toNat * 3) + 1))), (8, .is (.tmp 23) (O_int ((d.fn_ t.fn).args))), (9, .is (.tmp 24) (VP.int .i64 ((((d.fn_ t.fn).args).length : Nat) : Int))), (10, .is (.tmp 6) (VP.int .i64 ((((d.fn_ t.fn).args).length : Nat) : Int)))] [] [0, 1, 2, 3, 4, 5, 6, 7, 8, 9, 10, 11, 12, 13] [] DagE_p47_7 DagE_s47_7 rfl rfl follow rfl ⟨
            wp rfl (does_move _ (.inl rfl) rfl rfl rfl rfl (ar_tmp (av_fs 9 rfl))),
            wp rfl (does_nil _ rfl rfl rfl rfl rfl (ar_tmp (av_rs 0 0 rfl rfl))),
            wp rfl (does_field _ _ _ 1 DagE_f_dag_Arena_1 rfl rfl rfl rfl rfl rfl (pt_ptr (ar_tmp (av_rs 1 1 rfl rfl)))),
            wp rfl (does_loadOne _ DagE_one___api_Fun rfl rfl rfl rfl rfl (pt_pt (av_rs 2 2 rfl rfl)) (rds_bbox (off := 1) (av_fs 2 rfl) (hq_one rfl))),
            wp rfl (does_field _ _ _ 1 DagE_f_api_Term_1 rfl rfl rfl rfl rfl rfl (pt_ptr (ar_tmp (av_fs 1 rfl)))),
            wp rfl (does_loadOne _ DagE_one_int rfl rfl rfl rfl rfl (pt_pt (av_rs 4 4 rfl rfl)) (rds_box (off := 1) (av_fs 0 rfl) (hq_one rfl))),
            wp rfl (does_index (m := t.fn.toNat) _ _ Try.underlying55 DagE_size_api_Fun rfl rfl rfl rfl rfl _ (by omega) rfl (by omega) (sl_bor (av_fs 7 rfl) (ar_tmp (av_rs 3 3 rfl rfl))) (ar_int_eq (by omega) (ar_tmp (av_rs 5 5 rfl rfl)))),
            wp rfl (does_field _ _ _ 1 DagE_f_api_Fun_1 rfl rfl rfl rfl rfl rfl (pt_pt (av_rs 6 6 rfl rfl))),
            wp rfl (does_loadOne _ DagE_one___int rfl rfl rfl rfl rfl (pt_pt (av_rs 7 7 rfl rfl)) (rds_brow (av_fs 7 rfl) (hq_flat1 cFun_len (at_getD (by omega)) 1 (by omega) rfl))),
            wp rfl (does_len _ _ (by kernel_rfl) rfl rfl rfl rfl rfl (sl_ro (av_rs 8 8 rfl rfl) (flat_nil_iff cInt_len (by decide) _))),
            wp rfl (does_move _ (.inr rfl) rfl rfl rfl rfl (ar_tmp (av_rs 9 9 rfl rfl))),
            trivial⟩ ?_
          refine t_pick [0, 2, 3, 4, 5, 6, 7, 8, 10, 11, 24] rfl ?_
          refine nx_then ?_
          refine t_seq ?_
          refine t_rg [.own 101 (.val c3) (B_term t), .bor (.val v) (ArO us uf ut uo uh ub d.most), .bor (.val ub) (rowsInt d.table), .bor (.val uh) (R_u64 d.hashes), .bor (.val uo) (R_int d.of_), .bor (.val ut) (R_term d.terms), .bor (.val uf) (R_fun d.funs), .bor (.val us) (R_sort d.sorts), .is (.tmp 6) (VP.int .i64 ((((d.fn_ t.fn).args).length : Nat) : Int))] [(2, .is (.tmp 4) (VP.int .i64 0)), (3, .is (.tmp 5) (VP.int .i64 0))] [(0, .is (.tmp 25) (VP.int .i64 ((((d.fn_ t.fn).args).length : Nat) : Int))), (1, .is (.tmp 26) (VP.int .i64 ((((d.fn_ t.fn).args).length : Nat) : Int))), (2, .is (.tmp 4) (VP.int .i64 ((((d.fn_ t.fn).args).length : Nat) : Int))), (3, .is (.tmp 5) (VP.int .i64 ((((d.fn_ t.fn).args).length : Nat) : Int)))] [] [0, 1, 2, 3, 4, 5, 6, 7, 10] [8, 9] [[], [], [0], [0, 1, 2]] [[2, 3], [3], [3], []] rfl rfl follow rfl ⟨
            wp rfl (does_move _ (.inl rfl) rfl rfl rfl rfl (ar_tmp (av_fs 8 rfl))),
            wp rfl (does_move _ (.inl rfl) rfl rfl rfl rfl (ar_tmp (av_fs 8 rfl))),
            wp rfl (does_move _ (.inr rfl) rfl rfl rfl rfl (ar_tmp (av_rs 0 0 rfl rfl))),
            wp rfl (does_move _ (.inr rfl) rfl rfl rfl rfl (ar_tmp (av_rs 1 1 rfl rfl))),
            trivial⟩ ?_
          refine t_pick [0, 1, 2, 3, 4, 5, 6, 7, 11, 12] rfl ?_
          refine nx_then ?_
          refine t_ret ?_
          refine rt_block ?_
          refine rt_then ?_
          exact rt_post [HA.of (VP.int .i64 (d.least t)), HA.of (VP.int .i64 (d.great t))] [[], []] [] [] rfl ⟨(rv_eq (congrArg HA.of (congrArg (VP.int .i64) (show ((((d.fn_ t.fn).args).length : Nat) : Int) = (d.least t) from Eq.symm (by unfold ArD.least; (try rw [hb1]); (try rw [hb2]); (try rw [hb3]); (try rw [hb4]); (try rfl))))) (rv_vp 8 rfl)), (rv_eq (congrArg HA.of (congrArg (VP.int .i64) (show ((((d.fn_ t.fn).args).length : Nat) : Int) = (d.great t) from Eq.symm (by unfold ArD.great; (try rw [hb1]); (try rw [hb2]); (try rw [hb3]); (try rw [hb4]); (try rfl))))) (rv_vp 9 rfl)), trivial⟩ (by decide) rfl rfl
        · have hc4 := ne_of_beq_false hb4
          refine t_seq ?_
          refine t_rg [.own 101 (.val c3) (B_term t), .is (.tmp 3) (VP.ptr c3), .bor (.val v) (ArO us uf ut uo uh ub d.most), .bor (.val ub) (rowsInt d.table), .bor (.val uh) (R_u64 d.hashes), .bor (.val uo) (R_int d.of_), .bor (.val ut) (R_term d.terms), .bor (.val uf) (R_fun d.funs), .bor (.val us) (R_sort d.sorts), .is (.tmp 0) (VP.ptr v), .is (.tmp 4) (VP.int .i64 0), .is (.tmp 5) (VP.int .i64 0), .is (.tmp 8) (VP.int .i64 t.op), .is (.tmp 13) (VP.bool (t.op == 3))] [] [(0, .is (.tmp 28) (VP.bool (t.op == 5))), (1, .is (.tmp 27) (VP.bool (t.op == 5)))] [] [0, 1, 2, 3, 4, 5, 6, 7, 8, 9, 10, 11, 12, 13] [] [[], [0]] [[1], []] rfl rfl follow rfl ⟨
            wp rfl (does_cmp (m := t.op) (n := 5) _ _ _ _ _ rfl rfl rfl rfl rfl rfl .i64 (ar_tmp (av_fs 12 rfl)) (ar_const (fun _ _ => rfl))),
            wp rfl (does_move _ (.inr rfl) rfl rfl rfl rfl (ar_tmp (av_rs 0 0 rfl rfl))),
            trivial⟩ ?_
          refine t_pick [0, 2, 3, 4, 5, 6, 7, 8, 10, 11, 12, 15] rfl ?_
          refine nx_then ?_
          refine t_split 11 rfl (fun hb5 => ?_) (fun hb5 => ?_)
          · have hc5 := eq_of_beq hb5
            refine t_seq ?_
            refine t_rg [.own 101 (.val c3) (B_term t), .bor (.val v) (ArO us uf ut uo uh ub d.most), .bor (.val ub) (rowsInt d.table), .bor (.val uh) (R_u64 d.hashes), .bor (.val uo) (R_int d.of_), .bor (.val ut) (R_term d.terms), .bor (.val uf) (R_fun d.funs), .bor (.val us) (R_sort d.sorts), .is (.tmp 8) (VP.int .i64 t.op), .is (.tmp 27) (VP.bool (t.op == 5))] [(0, .is (.tmp 4) (VP.int .i64 0)), (1, .is (.tmp 5) (VP.int .i64 0))] [(0, .is (.tmp 4) (VP.int .i64 1)), (1, .is (.tmp 5) (VP.int .i64 1))] [] [0, 1, 2, 3, 4, 5, 6, 7, 10, 11] [8, 9] [[], [0]] [[1], []] rfl rfl follow rfl ⟨
              wp rfl (does_move _ (.inr rfl) rfl rfl rfl rfl (ar_const (fun _ _ => rfl))),
              wp rfl (does_move _ (.inr rfl) rfl rfl rfl rfl (ar_const (fun _ _ => rfl))),
              trivial⟩ ?_
            refine t_pick [0, 1, 2, 3, 4, 5, 6, 7, 10, 11] rfl ?_
            refine nx_then ?_
            refine t_ret ?_
            refine rt_block ?_
            refine rt_then ?_
            exact rt_post [HA.of (VP.int .i64 (d.least t)), HA.of (VP.int .i64 (d.great t))] [[], []] [] [] rfl ⟨(rv_eq (congrArg HA.of (congrArg (VP.int .i64) (show 1 = (d.least t) from Eq.symm (by unfold ArD.least; (try rw [hb1]); (try rw [hb2]); (try rw [hb3]); (try rw [hb4]); (try rw [hb5]); (try rfl))))) (rv_vp 8 rfl)), (rv_eq (congrArg HA.of (congrArg (VP.int .i64) (show 1 = (d.great t) from Eq.symm (by unfold ArD.great; (try rw [hb1]); (try rw [hb2]); (try rw [hb3]); (try rw [hb4]); (try rw [hb5]); (try rfl))))) (rv_vp 9 rfl)), trivial⟩ (by decide) rfl rfl
          · have hc5 := ne_of_beq_false hb5
            refine t_seq ?_
            refine t_rg [.own 101 (.val c3) (B_term t), .bor (.val v) (ArO us uf ut uo uh ub d.most), .bor (.val ub) (rowsInt d.table), .bor (.val uh) (R_u64 d.hashes), .bor (.val uo) (R_int d.of_), .bor (.val ut) (R_term d.terms), .bor (.val uf) (R_fun d.funs), .bor (.val us) (R_sort d.sorts), .is (.tmp 4) (VP.int .i64 0), .is (.tmp 5) (VP.int .i64 0), .is (.tmp 8) (VP.int .i64 t.op), .is (.tmp 27) (VP.bool (t.op == 5))] [] [(0, .is (.tmp 30) (VP.bool (t.op == 10))), (1, .is (.tmp 29) (VP.bool (t.op == 10)))] [] [0, 1, 2, 3, 4, 5, 6, 7, 8, 9, 10, 11] [] [[], [0]] [[1], []] rfl rfl follow rfl ⟨
              wp rfl (does_cmp (m := t.op) (n := 10) _ _ _ _ _ rfl rfl rfl rfl rfl rfl .i64 (ar_tmp (av_fs 10 rfl)) (ar_const (fun _ _ => rfl))),
              wp rfl (does_move _ (.inr rfl) rfl rfl rfl rfl (ar_tmp (av_rs 0 0 rfl rfl))),
              trivial⟩ ?_
            refine t_pick [0, 1, 2, 3, 4, 5, 6, 7, 8, 9, 10, 13] rfl ?_
            refine nx_then ?_
            refine t_split 11 rfl (fun hb6 => ?_) (fun hb6 => ?_)
            · have hc6 := eq_of_beq hb6
              refine t_seq ?_
              refine t_rg [.own 101 (.val c3) (B_term t), .bor (.val v) (ArO us uf ut uo uh ub d.most), .bor (.val ub) (rowsInt d.table), .bor (.val uh) (R_u64 d.hashes), .bor (.val uo) (R_int d.of_), .bor (.val ut) (R_term d.terms), .bor (.val uf) (R_fun d.funs), .bor (.val us) (R_sort d.sorts), .is (.tmp 8) (VP.int .i64 t.op), .is (.tmp 29) (VP.bool (t.op == 10))] [(0, .is (.tmp 4) (VP.int .i64 0)), (1, .is (.tmp 5) (VP.int .i64 0))] [(0, .is (.tmp 4) (VP.int .i64 3)), (1, .is (.tmp 5) (VP.int .i64 3))] [] [0, 1, 2, 3, 4, 5, 6, 7, 10, 11] [8, 9] [[], [0]] [[1], []] rfl rfl follow rfl ⟨
                wp rfl (does_move _ (.inr rfl) rfl rfl rfl rfl (ar_const (fun _ _ => rfl))),
                wp rfl (does_move _ (.inr rfl) rfl rfl rfl rfl (ar_const (fun _ _ => rfl))),
                trivial⟩ ?_
              refine t_pick [0, 1, 2, 3, 4, 5, 6, 7, 10, 11] rfl ?_
              refine nx_then ?_
              refine t_ret ?_
              refine rt_block ?_
              refine rt_then ?_
              exact rt_post [HA.of (VP.int .i64 (d.least t)), HA.of (VP.int .i64 (d.great t))] [[], []] [] [] rfl ⟨(rv_eq (congrArg HA.of (congrArg (VP.int .i64) (show 3 = (d.least t) from Eq.symm (by unfold ArD.least; (try rw [hb1]); (try rw [hb2]); (try rw [hb3]); (try rw [hb4]); (try rw [hb5]); (try rw [hb6]); (try rfl))))) (rv_vp 8 rfl)), (rv_eq (congrArg HA.of (congrArg (VP.int .i64) (show 3 = (d.great t) from Eq.symm (by unfold ArD.great; (try rw [hb1]); (try rw [hb2]); (try rw [hb3]); (try rw [hb4]); (try rw [hb5]); (try rw [hb6]); (try rfl))))) (rv_vp 9 rfl)), trivial⟩ (by decide) rfl rfl
            · have hc6 := ne_of_beq_false hb6
              refine t_seq ?_
              refine t_rg [.own 101 (.val c3) (B_term t), .bor (.val v) (ArO us uf ut uo uh ub d.most), .bor (.val ub) (rowsInt d.table), .bor (.val uh) (R_u64 d.hashes), .bor (.val uo) (R_int d.of_), .bor (.val ut) (R_term d.terms), .bor (.val uf) (R_fun d.funs), .bor (.val us) (R_sort d.sorts), .is (.tmp 4) (VP.int .i64 0), .is (.tmp 5) (VP.int .i64 0), .is (.tmp 8) (VP.int .i64 t.op), .is (.tmp 29) (VP.bool (t.op == 10))] [] [(0, .is (.tmp 32) (VP.bool (t.op == 18))), (1, .is (.tmp 31) (VP.bool (t.op == 18)))] [] [0, 1, 2, 3, 4, 5, 6, 7, 8, 9, 10, 11] [] [[], [0]] [[1], []] rfl rfl follow rfl ⟨
                wp rfl (does_cmp (m := t.op) (n := 18) _ _ _ _ _ rfl rfl rfl rfl rfl rfl .i64 (ar_tmp (av_fs 10 rfl)) (ar_const (fun _ _ => rfl))),
                wp rfl (does_move _ (.inr rfl) rfl rfl rfl rfl (ar_tmp (av_rs 0 0 rfl rfl))),
                trivial⟩ ?_
              refine t_pick [0, 1, 2, 3, 4, 5, 6, 7, 8, 9, 13] rfl ?_
              refine nx_then ?_
              refine t_split 10 rfl (fun hb7 => ?_) (fun hb7 => ?_)
              · have hc7 := eq_of_beq hb7
                refine t_seq ?_
                refine t_rg [.own 101 (.val c3) (B_term t), .bor (.val v) (ArO us uf ut uo uh ub d.most), .bor (.val ub) (rowsInt d.table), .bor (.val uh) (R_u64 d.hashes), .bor (.val uo) (R_int d.of_), .bor (.val ut) (R_term d.terms), .bor (.val uf) (R_fun d.funs), .bor (.val us) (R_sort d.sorts), .is (.tmp 31) (VP.bool (t.op == 18))] [(0, .is (.tmp 4) (VP.int .i64 0)), (1, .is (.tmp 5) (VP.int .i64 0))] [(0, .is (.tmp 4) (VP.int .i64 1)), (1, .is (.tmp 5) (VP.int .i64 1073741824))] [] [0, 1, 2, 3, 4, 5, 6, 7, 10] [8, 9] [[], [0]] [[1], []] rfl rfl follow rfl ⟨
                  wp rfl (does_move _ (.inr rfl) rfl rfl rfl rfl (ar_const (fun _ _ => rfl))),
                  wp rfl (does_move _ (.inr rfl) rfl rfl rfl rfl (ar_const (fun _ _ => rfl))),
                  trivial⟩ ?_
                refine t_pick [0, 1, 2, 3, 4, 5, 6, 7, 9, 10] rfl ?_
                refine nx_then ?_
                refine t_ret ?_
                refine rt_block ?_
                refine rt_then ?_
                exact rt_post [HA.of (VP.int .i64 (d.least t)), HA.of (VP.int .i64 (d.great t))] [[], []] [] [] rfl ⟨(rv_eq (congrArg HA.of (congrArg (VP.int .i64) (show 1 = (d.least t) from Eq.symm (by unfold ArD.least; (try rw [hb1]); (try rw [hb2]); (try rw [hb3]); (try rw [hb4]); (try rw [hb5]); (try rw [hb6]); (try rw [hb7]); (try rfl))))) (rv_vp 8 rfl)), (rv_eq (congrArg HA.of (congrArg (VP.int .i64) (show 1073741824 = (d.great t) from Eq.symm (by unfold ArD.great; (try rw [hb1]); (try rw [hb2]); (try rw [hb3]); (try rw [hb4]); (try rw [hb5]); (try rw [hb6]); (try rw [hb7]); (try rfl))))) (rv_vp 9 rfl)), trivial⟩ (by decide) rfl rfl
              · have hc7 := ne_of_beq_false hb7
                refine t_skip ?_
                refine nx_block ?_
                refine nx_then ?_
                refine t_seq ?_
                refine t_rg [.own 101 (.val c3) (B_term t), .bor (.val v) (ArO us uf ut uo uh ub d.most), .bor (.val ub) (rowsInt d.table), .bor (.val uh) (R_u64 d.hashes), .bor (.val uo) (R_int d.of_), .bor (.val ut) (R_term d.terms), .bor (.val uf) (R_fun d.funs), .bor (.val us) (R_sort d.sorts), .is (.tmp 31) (VP.bool (t.op == 18))] [(0, .is (.tmp 4) (VP.int .i64 0)), (1, .is (.tmp 5) (VP.int .i64 0))] [(0, .is (.tmp 4) (VP.int .i64 2)), (1, .is (.tmp 5) (VP.int .i64 1073741824))] [] [0, 1, 2, 3, 4, 5, 6, 7, 10] [8, 9] [[], [0]] [[1], []] rfl rfl follow rfl ⟨
                  wp rfl (does_move _ (.inr rfl) rfl rfl rfl rfl (ar_const (fun _ _ => rfl))),
                  wp rfl (does_move _ (.inr rfl) rfl rfl rfl rfl (ar_const (fun _ _ => rfl))),
                  trivial⟩ ?_
                refine t_pick [0, 1, 2, 3, 4, 5, 6, 7, 9, 10] rfl ?_
                refine nx_then ?_
                refine t_ret ?_
                exact rt_post [HA.of (VP.int .i64 (d.least t)), HA.of (VP.int .i64 (d.great t))] [[], []] [] [] rfl ⟨(rv_eq (congrArg HA.of (congrArg (VP.int .i64) (show 2 = (d.least t) from Eq.symm (by unfold ArD.least; (try rw [hb1]); (try rw [hb2]); (try rw [hb3]); (try rw [hb4]); (try rw [hb5]); (try rw [hb6]); (try rw [hb7]); (try rfl))))) (rv_vp 8 rfl)), (rv_eq (congrArg HA.of (congrArg (VP.int .i64) (show 1073741824 = (d.great t) from Eq.symm (by unfold ArD.great; (try rw [hb1]); (try rw [hb2]); (try rw [hb3]); (try rw [hb4]); (try rw [hb5]); (try rw [hb6]); (try rw [hb7]); (try rfl))))) (rv_vp 9 rfl)), trivial⟩ (by decide) rfl rfl

set_option maxRecDepth 100000 in
set_option maxHeartbeats 4000000 in
theorem da_gives {v us uf ut uo uh ub : Value} {d : ArD} (t : TermD) (hfn : t.op = 3 → 0 ≤ t.fn ∧ t.fn < d.funs.length) (hk : ∀ k ∈ t.kids, 0 ≤ k ∧ k < d.of_.length) (h10 : t.op = 10 → 2 ≤ t.kids.length) : SpecO Try.prog 33 [.vp (VP.ptr v), .vp (VP.agg [VP.int .i64 t.op, VP.int .i64 t.fn, O_int t.kids, VP.str t.num])] [(v, ArO us uf ut uo uh ub d.most), (uf, R_fun d.funs), (uo, R_int d.of_)] [] [] (HA.of (VP.int .i64 (d.give t))) := by
  refine spec_of 41 Try.func33 rfl Try.ntmps33 rfl fun w0 S0 Z0 Bf => ?_
  refine t_seq ?_
  refine t_rg [.is (.tmp 0) (VP.ptr v), .is (.tmp 1) (VP.agg [VP.int .i64 t.op, VP.int .i64 t.fn, O_int t.kids, VP.str t.num]), .bor (.val v) (ArO us uf ut uo uh ub d.most), .bor (.val uf) (R_fun d.funs), .bor (.val uo) (R_int d.of_)] [] [(0, .own 101 (.tmp 3) (B_term t)), (1, .is (.tmp 4) (VP.int .i64 0))] [] [0, 1, 2, 3, 4] [] [[], []] [[], []] rfl rfl follow rfl ⟨
    wp rfl (does_box (Rs := [HA.of (VP.int .i64 t.op), HA.of (VP.int .i64 t.fn), HA.of (O_int t.kids), HA.of (VP.str t.num)]) _ rfl rfl rfl rfl rfl rfl (cv_agg (ps := [VP.int .i64 t.op, VP.int .i64 t.fn, O_int t.kids, VP.str t.num]) (ar_tmp (av_fs 1 rfl)))),
    wp rfl (does_move _ (.inr rfl) rfl rfl rfl rfl (ar_const (fun _ _ => rfl))),
    trivial⟩ ?_
  refine t_pick [0, 2, 3, 4, 5, 6] rfl ?_
  refine nx_then ?_
  refine t_pick [4, 0, 1, 2, 3, 5] rfl ?_
  refine t_nameP rfl fun c3 => ?_
  refine t_seq ?_
  refine t_block ?_
  refine t_seq ?_
  refine t_rg [.own 101 (.val c3) (B_term t), .is (.tmp 3) (VP.ptr c3), .is (.tmp 0) (VP.ptr v), .bor (.val v) (ArO us uf ut uo uh ub d.most), .bor (.val uf) (R_fun d.funs), .bor (.val uo) (R_int d.of_), .is (.tmp 4) (VP.int .i64 0)] [] [(0, .pt 6 (.blk (.val c3) 0)), (1, .is (.tmp 7) (VP.int .i64 t.op)), (2, .is (.tmp 8) (VP.bool (t.op == 3))), (3, .is (.tmp 5) (VP.bool (t.op == 3)))] [] [0, 1, 2, 3, 4, 5, 6] [] [[], [0], [0, 1], [0, 1, 2]] [[1, 2, 3], [2, 3], [3], []] rfl rfl follow rfl ⟨
    wp rfl (does_field _ _ _ 0 DagE_f_api_Term_0 rfl rfl rfl rfl rfl rfl (pt_ptr (ar_tmp (av_fs 1 rfl)))),
    wp rfl (does_loadOne _ DagE_one_int rfl rfl rfl rfl rfl (pt_pt (av_rs 0 0 rfl rfl)) (rds_box (off := 0) (av_fs 0 rfl) (hq_one rfl))),
    wp rfl (does_cmp (m := t.op) (n := 3) _ _ _ _ _ rfl rfl rfl rfl rfl rfl .i64 (ar_tmp (av_rs 1 1 rfl rfl)) (ar_const (fun _ _ => rfl))),
    wp rfl (does_move _ (.inr rfl) rfl rfl rfl rfl (ar_tmp (av_rs 2 2 rfl rfl))),
    trivial⟩ ?_
  refine t_pick [0, 1, 2, 3, 4, 5, 6, 10] rfl ?_
  refine nx_then ?_
  refine t_split 7 rfl (fun hb1 => ?_) (fun hb1 => ?_)
  · have hc1 := eq_of_beq hb1
    have hf3 := hfn (eq_of_beq hb1)
    refine t_seq ?_
    refine t_rg [.own 101 (.val c3) (B_term t), .is (.tmp 3) (VP.ptr c3), .is (.tmp 0) (VP.ptr v), .bor (.val v) (ArO us uf ut uo uh ub d.most), .bor (.val uf) (R_fun d.funs), .bor (.val uo) (R_int d.of_), .is (.tmp 5) (VP.bool (t.op == 3))] [(9, .is (.tmp 4) (VP.int .i64 0))] [(0, .is (.tmp 9) (VP.ptr v)), (1, .is (.tmp 10) (VP.ptr v)), (2, .pt 11 (.blk (.val v) 1)), (3, .is (.tmp 12) (VP.eq uf true true)), (4, .pt 13 (.blk (.val c3) 1)), (5, .is (.tmp 14) (VP.int .i64 t.fn)), (6, .pt 15 (.row (.val uf) (t.fn.toNat * 3))), (7, .pt 16 (.row (.val uf) ((t.fn.toNat * 3) + 2))), (8, .is (.tmp 17) (VP.int .i64 ((d.fn_ t.fn).res))), (9, .is (.tmp 4) (VP.int .i64 ((d.fn_ t.fn).res)))] [] [0, 1, 2, 3, 4, 5, 7] [6] DagE_p33_2 DagE_s33_2 rfl rfl follow rfl ⟨
      wp rfl (does_move _ (.inl rfl) rfl rfl rfl rfl (ar_tmp (av_fs 2 rfl))),
      wp rfl (does_nil _ rfl rfl rfl rfl rfl (ar_tmp (av_rs 0 0 rfl rfl))),
      wp rfl (does_field _ _ _ 1 DagE_f_dag_Arena_1 rfl rfl rfl rfl rfl rfl (pt_ptr (ar_tmp (av_rs 1 1 rfl rfl)))),
      wp rfl (does_loadOne _ DagE_one___api_Fun rfl rfl rfl rfl rfl (pt_pt (av_rs 2 2 rfl rfl)) (rds_bbox (off := 1) (av_fs 3 rfl) (hq_one rfl))),
      wp rfl (does_field _ _ _ 1 DagE_f_api_Term_1 rfl rfl rfl rfl rfl rfl (pt_ptr (ar_tmp (av_fs 1 rfl)))),
      wp rfl (does_loadOne _ DagE_one_int rfl rfl rfl rfl rfl (pt_pt (av_rs 4 4 rfl rfl)) (rds_box (off := 1) (av_fs 0 rfl) (hq_one rfl))),
      wp rfl (does_index (m := t.fn.toNat) _ _ Try.underlying55 DagE_size_api_Fun rfl rfl rfl rfl rfl _ (by omega) rfl (by omega) (sl_bor (av_fs 4 rfl) (ar_tmp (av_rs 3 3 rfl rfl))) (ar_int_eq (by omega) (ar_tmp (av_rs 5 5 rfl rfl)))),
      wp rfl (does_field _ _ _ 2 DagE_f_api_Fun_2 rfl rfl rfl rfl rfl rfl (pt_pt (av_rs 6 6 rfl rfl))),
      wp rfl (does_loadOne _ DagE_one_int rfl rfl rfl rfl rfl (pt_pt (av_rs 7 7 rfl rfl)) (rds_brow (av_fs 4 rfl) (hq_flat1 cFun_len (at_getD (by omega)) 2 (by omega) rfl))),
      wp rfl (does_move _ (.inr rfl) rfl rfl rfl rfl (ar_tmp (av_rs 8 8 rfl rfl))),
      trivial⟩ ?_
    refine t_pick [0, 3, 4, 5, 16] rfl ?_
    refine nx_then ?_
    refine t_ret ?_
    refine rt_block ?_
    refine rt_then ?_
    exact rt_post [HA.of (VP.int .i64 (d.give t))] [[]] [] [] rfl ⟨(rv_eq (congrArg HA.of (congrArg (VP.int .i64) (show (d.fn_ t.fn).res = (d.give t) from Eq.symm (by unfold ArD.give; (try rw [hb1]); (try rfl))))) (rv_vp 4 rfl)), trivial⟩ (by decide) rfl rfl
  · have hc1 := ne_of_beq_false hb1
    refine t_seq ?_
    refine t_rg [.own 101 (.val c3) (B_term t), .is (.tmp 3) (VP.ptr c3), .is (.tmp 0) (VP.ptr v), .bor (.val v) (ArO us uf ut uo uh ub d.most), .bor (.val uf) (R_fun d.funs), .bor (.val uo) (R_int d.of_), .is (.tmp 4) (VP.int .i64 0), .is (.tmp 5) (VP.bool (t.op == 3))] [] [(0, .pt 19 (.blk (.val c3) 0)), (1, .is (.tmp 20) (VP.int .i64 t.op)), (2, .is (.tmp 21) (VP.bool (t.op == 10))), (3, .is (.tmp 18) (VP.bool (t.op == 10)))] [] [0, 1, 2, 3, 4, 5, 6, 7] [] [[], [0], [0, 1], [0, 1, 2]] [[1, 2, 3], [2, 3], [3], []] rfl rfl follow rfl ⟨
      wp rfl (does_field _ _ _ 0 DagE_f_api_Term_0 rfl rfl rfl rfl rfl rfl (pt_ptr (ar_tmp (av_fs 1 rfl)))),
      wp rfl (does_loadOne _ DagE_one_int rfl rfl rfl rfl rfl (pt_pt (av_rs 0 0 rfl rfl)) (rds_box (off := 0) (av_fs 0 rfl) (hq_one rfl))),
      wp rfl (does_cmp (m := t.op) (n := 10) _ _ _ _ _ rfl rfl rfl rfl rfl rfl .i64 (ar_tmp (av_rs 1 1 rfl rfl)) (ar_const (fun _ _ => rfl))),
      wp rfl (does_move _ (.inr rfl) rfl rfl rfl rfl (ar_tmp (av_rs 2 2 rfl rfl))),
      trivial⟩ ?_
    refine t_pick [0, 1, 2, 3, 4, 5, 6, 11] rfl ?_
    refine nx_then ?_
    refine t_split 7 rfl (fun hb2 => ?_) (fun hb2 => ?_)
    · have hc2 := eq_of_beq hb2
      have h2 := h10 (eq_of_beq hb2)
      have hk1 := hk _ (kid_mem (t := t) (i := 1) (by omega))
      refine t_seq ?_
      refine t_rg [.own 101 (.val c3) (B_term t), .is (.tmp 3) (VP.ptr c3), .is (.tmp 0) (VP.ptr v), .bor (.val v) (ArO us uf ut uo uh ub d.most), .bor (.val uf) (R_fun d.funs), .bor (.val uo) (R_int d.of_), .is (.tmp 18) (VP.bool (t.op == 10))] [(10, .is (.tmp 4) (VP.int .i64 0))] [(0, .is (.tmp 22) (VP.ptr v)), (1, .is (.tmp 23) (VP.ptr v)), (2, .pt 24 (.blk (.val v) 3)), (3, .is (.tmp 25) (VP.eq uo true true)), (4, .pt 26 (.blk (.val c3) 2)), (5, .is (.tmp 27) (O_int t.kids)), (6, .pt 28 (.row (.tmp 27) (1 * 1))), (7, .is (.tmp 29) (VP.int .i64 (kid t 1))), (8, .pt 30 (.row (.val uo) (((kid t 1).toNat) * 1))), (9, .is (.tmp 31) (VP.int .i64 (d.ofk (kid t 1)))), (10, .is (.tmp 4) (VP.int .i64 (d.ofk (kid t 1))))] [] [0, 1, 2, 3, 4, 5, 7] [6] DagE_p33_4 DagE_s33_4 rfl rfl follow rfl ⟨
        wp rfl (does_move _ (.inl rfl) rfl rfl rfl rfl (ar_tmp (av_fs 2 rfl))),
        wp rfl (does_nil _ rfl rfl rfl rfl rfl (ar_tmp (av_rs 0 0 rfl rfl))),
        wp rfl (does_field _ _ _ 3 DagE_f_dag_Arena_3 rfl rfl rfl rfl rfl rfl (pt_ptr (ar_tmp (av_rs 1 1 rfl rfl)))),
        wp rfl (does_loadOne _ DagE_one___int rfl rfl rfl rfl rfl (pt_pt (av_rs 2 2 rfl rfl)) (rds_bbox (off := 3) (av_fs 3 rfl) (hq_one rfl))),
        wp rfl (does_field _ _ _ 2 DagE_f_api_Term_2 rfl rfl rfl rfl rfl rfl (pt_ptr (ar_tmp (av_fs 1 rfl)))),
        wp rfl (does_loadOne _ DagE_one___int rfl rfl rfl rfl rfl (pt_pt (av_rs 4 4 rfl rfl)) (rds_box (off := 2) (av_fs 0 rfl) (hq_one rfl))),
        wp rfl (does_index (m := 1) _ _ Try.underlying28 DagE_size_int rfl rfl rfl rfl rfl _ (by omega) rfl (by omega) (sl_ro (av_rs 5 5 rfl rfl) (flat_nil_iff cInt_len (by decide) _)) (ar_int_eq (by omega) (ar_const (fun _ _ => rfl)))),
        wp rfl (does_loadOne _ DagE_one_int rfl rfl rfl rfl rfl (pt_pt (av_rs 6 6 rfl rfl)) (rds_ro (av_rs 5 5 rfl rfl) (hq_flatV1 cInt_len (at_getD (by omega)) 0 (by omega) rfl))),
        wp rfl (does_index (m := (kid t 1).toNat) _ _ Try.underlying28 DagE_size_int rfl rfl rfl rfl rfl _ (by omega) rfl (by omega) (sl_bor (av_fs 5 rfl) (ar_tmp (av_rs 3 3 rfl rfl))) (ar_int_eq (by omega) (ar_tmp (av_rs 7 7 rfl rfl)))),
        wp rfl (does_loadOne _ DagE_one_int rfl rfl rfl rfl rfl (pt_pt (av_rs 8 8 rfl rfl)) (rds_brow (av_fs 5 rfl) (hq_flat1 cInt_len (at_getD (by omega)) 0 (by omega) rfl))),
        wp rfl (does_move _ (.inr rfl) rfl rfl rfl rfl (ar_tmp (av_rs 9 9 rfl rfl))),
        trivial⟩ ?_
      refine t_pick [0, 3, 4, 5, 17] rfl ?_
      refine nx_then ?_
      refine t_ret ?_
      refine rt_block ?_
      refine rt_then ?_
      exact rt_post [HA.of (VP.int .i64 (d.give t))] [[]] [] [] rfl ⟨(rv_eq (congrArg HA.of (congrArg (VP.int .i64) (show (d.ofk (kid t 1)) = (d.give t) from Eq.symm (by unfold ArD.give; (try rw [hb1]); (try rw [hb2]); (try rfl))))) (rv_vp 4 rfl)), trivial⟩ (by decide) rfl rfl
    · have hc2 := ne_of_beq_false hb2
      refine t_seq ?_
      rcases Bool.eq_false_or_eq_true (t.op == 4) with hb3 | hb3
      · have hc3 := eq_of_beq hb3
        refine t_rg [.own 101 (.val c3) (B_term t), .is (.tmp 3) (VP.ptr c3), .is (.tmp 0) (VP.ptr v), .bor (.val v) (ArO us uf ut uo uh ub d.most), .bor (.val uf) (R_fun d.funs), .bor (.val uo) (R_int d.of_), .is (.tmp 4) (VP.int .i64 0), .is (.tmp 18) (VP.bool (t.op == 10))] [] [(0, .pt 33 (.blk (.val c3) 0)), (1, .is (.tmp 34) (VP.int .i64 t.op)), (2, .is (.tmp 35) (VP.bool (t.op == 4))), (3, .is (.tmp 36) (VP.bool (t.op == 4))), (4, .is (.tmp 37) (VP.undef)), (5, .is (.tmp 38) (VP.undef)), (6, .is (.tmp 39) (VP.undef)), (7, .is (.tmp 40) (VP.bool true)), (8, .is (.tmp 32) (VP.bool true))] [] [0, 1, 2, 3, 4, 5, 6, 7] [] DagE_p33_5 DagE_s33_5 rfl rfl follow rfl ⟨
          wp rfl (does_field _ _ _ 0 DagE_f_api_Term_0 rfl rfl rfl rfl rfl rfl (pt_ptr (ar_tmp (av_fs 1 rfl)))),
          wp rfl (does_loadOne _ DagE_one_int rfl rfl rfl rfl rfl (pt_pt (av_rs 0 0 rfl rfl)) (rds_box (off := 0) (av_fs 0 rfl) (hq_one rfl))),
          wp rfl (does_cmp (m := t.op) (n := 4) _ _ _ _ _ rfl rfl rfl rfl rfl rfl .i64 (ar_tmp (av_rs 1 1 rfl rfl)) (ar_const (fun _ _ => rfl))),
          wp rfl (does_move _ (.inl rfl) rfl rfl rfl rfl (ar_tmp (av_rs 2 2 rfl rfl))),
          .inr (skips_guardU true rfl rfl rfl (av_bool hb3 (av_rs 3 3 rfl rfl)) rfl rfl rfl rfl),
          .inr (skips_guardU true rfl rfl rfl (av_bool hb3 (av_rs 3 3 rfl rfl)) rfl rfl rfl rfl),
          .inr (skips_guardU true rfl rfl rfl (av_bool hb3 (av_rs 3 3 rfl rfl)) rfl rfl rfl rfl),
          wp rfl (does_pick true _ _ _ rfl rfl rfl rfl rfl (ar_tmp (av_bool hb3 (av_rs 3 3 rfl rfl))) (ar_const (fun _ _ => rfl))),
          wp rfl (does_move _ (.inr rfl) rfl rfl rfl rfl (ar_tmp (av_rs 7 7 rfl rfl))),
          trivial⟩ ?_
        refine t_pick [0, 3, 4, 5, 6, 16] rfl ?_
        refine nx_then ?_
        refine t_cond_t 5 rfl ?_
        refine t_seq ?_
        refine t_rg [.own 101 (.val c3) (B_term t), .bor (.val v) (ArO us uf ut uo uh ub d.most), .bor (.val uf) (R_fun d.funs), .bor (.val uo) (R_int d.of_), .is (.tmp 32) (VP.bool true)] [(0, .is (.tmp 4) (VP.int .i64 0))] [(0, .is (.tmp 4) (VP.int .i64 1))] [] [0, 1, 2, 3, 5] [4] [[]] [[]] rfl rfl follow rfl ⟨
          wp rfl (does_move _ (.inr rfl) rfl rfl rfl rfl (ar_const (fun _ _ => rfl))),
          trivial⟩ ?_
        refine t_pick [0, 1, 2, 3, 5] rfl ?_
        refine nx_then ?_
        refine t_ret ?_
        refine rt_block ?_
        refine rt_then ?_
        exact rt_post [HA.of (VP.int .i64 (d.give t))] [[]] [] [] rfl ⟨(rv_eq (congrArg HA.of (congrArg (VP.int .i64) (show 1 = (d.give t) from Eq.symm (by unfold ArD.give; (try rw [hb1]); (try rw [hb2]); (try rw [hb3]); (try rfl))))) (rv_vp 4 rfl)), trivial⟩ (by decide) rfl rfl
      · have hc3 := ne_of_beq_false hb3
        refine t_rg [.own 101 (.val c3) (B_term t), .is (.tmp 3) (VP.ptr c3), .is (.tmp 0) (VP.ptr v), .bor (.val v) (ArO us uf ut uo uh ub d.most), .bor (.val uf) (R_fun d.funs), .bor (.val uo) (R_int d.of_), .is (.tmp 4) (VP.int .i64 0), .is (.tmp 18) (VP.bool (t.op == 10))] [] [(0, .pt 33 (.blk (.val c3) 0)), (1, .is (.tmp 34) (VP.int .i64 t.op)), (2, .is (.tmp 35) (VP.bool (t.op == 4))), (3, .is (.tmp 36) (VP.bool (t.op == 4))), (4, .pt 37 (.blk (.val c3) 0)), (5, .is (.tmp 38) (VP.int .i64 t.op)), (6, .is (.tmp 39) (VP.bool (decide (t.op ≥ 17)))), (7, .is (.tmp 40) (VP.bool (decide (t.op ≥ 17)))), (8, .is (.tmp 32) (VP.bool (decide (t.op ≥ 17))))] [] [0, 1, 2, 3, 4, 5, 6, 7] [] DagE_p33_5 DagE_s33_5 rfl rfl follow rfl ⟨
          wp rfl (does_field _ _ _ 0 DagE_f_api_Term_0 rfl rfl rfl rfl rfl rfl (pt_ptr (ar_tmp (av_fs 1 rfl)))),
          wp rfl (does_loadOne _ DagE_one_int rfl rfl rfl rfl rfl (pt_pt (av_rs 0 0 rfl rfl)) (rds_box (off := 0) (av_fs 0 rfl) (hq_one rfl))),
          wp rfl (does_cmp (m := t.op) (n := 4) _ _ _ _ _ rfl rfl rfl rfl rfl rfl .i64 (ar_tmp (av_rs 1 1 rfl rfl)) (ar_const (fun _ _ => rfl))),
          wp rfl (does_move _ (.inl rfl) rfl rfl rfl rfl (ar_tmp (av_rs 2 2 rfl rfl))),
          .inl ⟨wants_guard false rfl rfl rfl (av_bool hb3 (av_rs 3 3 rfl rfl)), does_field _ _ _ 0 DagE_f_api_Term_0 rfl rfl rfl rfl rfl rfl (pt_ptr (ar_tmp (av_fs 1 rfl)))⟩,
          .inl ⟨wants_guard false rfl rfl rfl (av_bool hb3 (av_rs 3 3 rfl rfl)), does_loadOne _ DagE_one_int rfl rfl rfl rfl rfl (pt_pt (av_rs 4 4 rfl rfl)) (rds_box (off := 0) (av_fs 0 rfl) (hq_one rfl))⟩,
          .inl ⟨wants_guard false rfl rfl rfl (av_bool hb3 (av_rs 3 3 rfl rfl)), does_cmp (m := t.op) (n := 17) _ _ _ _ _ rfl rfl rfl rfl rfl rfl .i64 (ar_tmp (av_rs 5 5 rfl rfl)) (ar_const (fun _ _ => rfl))⟩,
          wp rfl (does_pick false _ _ _ rfl rfl rfl rfl rfl (ar_tmp (av_bool hb3 (av_rs 3 3 rfl rfl))) (ar_tmp (av_rs 6 6 rfl rfl))),
          wp rfl (does_move _ (.inr rfl) rfl rfl rfl rfl (ar_tmp (av_rs 7 7 rfl rfl))),
          trivial⟩ ?_
        refine t_pick [0, 3, 4, 5, 6, 16] rfl ?_
        refine nx_then ?_
        refine t_split 5 rfl (fun hb4 => ?_) (fun hb4 => ?_)
        · have hc4 := of_decide_eq_true hb4
          refine t_seq ?_
          refine t_rg [.own 101 (.val c3) (B_term t), .bor (.val v) (ArO us uf ut uo uh ub d.most), .bor (.val uf) (R_fun d.funs), .bor (.val uo) (R_int d.of_), .is (.tmp 32) (VP.bool (decide (t.op ≥ 17)))] [(0, .is (.tmp 4) (VP.int .i64 0))] [(0, .is (.tmp 4) (VP.int .i64 1))] [] [0, 1, 2, 3, 5] [4] [[]] [[]] rfl rfl follow rfl ⟨
            wp rfl (does_move _ (.inr rfl) rfl rfl rfl rfl (ar_const (fun _ _ => rfl))),
            trivial⟩ ?_
          refine t_pick [0, 1, 2, 3, 5] rfl ?_
          refine nx_then ?_
          refine t_ret ?_
          refine rt_block ?_
          refine rt_then ?_
          exact rt_post [HA.of (VP.int .i64 (d.give t))] [[]] [] [] rfl ⟨(rv_eq (congrArg HA.of (congrArg (VP.int .i64) (show 1 = (d.give t) from Eq.symm (by unfold ArD.give; (try rw [hb1]); (try rw [hb2]); (try rw [hb3]); (try rw [hb4]); (try rfl))))) (rv_vp 4 rfl)), trivial⟩ (by decide) rfl rfl
        · have hc4 := of_decide_eq_false hb4
          refine t_skip ?_
          refine nx_block ?_
          refine nx_then ?_
          refine t_seq ?_
          refine t_rg [.own 101 (.val c3) (B_term t), .bor (.val v) (ArO us uf ut uo uh ub d.most), .bor (.val uf) (R_fun d.funs), .bor (.val uo) (R_int d.of_), .is (.tmp 32) (VP.bool (decide (t.op ≥ 17)))] [(0, .is (.tmp 4) (VP.int .i64 0))] [(0, .is (.tmp 4) (VP.int .i64 0))] [] [0, 1, 2, 3, 5] [4] [[]] [[]] rfl rfl follow rfl ⟨
            wp rfl (does_move _ (.inr rfl) rfl rfl rfl rfl (ar_const (fun _ _ => rfl))),
            trivial⟩ ?_
          refine t_pick [0, 1, 2, 3, 5] rfl ?_
          refine nx_then ?_
          refine t_ret ?_
          exact rt_post [HA.of (VP.int .i64 (d.give t))] [[]] [] [] rfl ⟨(rv_eq (congrArg HA.of (congrArg (VP.int .i64) (show 0 = (d.give t) from Eq.symm (by unfold ArD.give; (try rw [hb1]); (try rw [hb2]); (try rw [hb3]); (try rw [hb4]); (try rfl))))) (rv_vp 4 rfl)), trivial⟩ (by decide) rfl rfl

end O
end Go.Proofs.Ytapmngmpomhjmaa
