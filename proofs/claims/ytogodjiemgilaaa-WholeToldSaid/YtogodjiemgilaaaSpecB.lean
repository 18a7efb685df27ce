/- What the functions of law 1 do, in the words of the logic over slots and boxes. -/
import Derived.Test.YtogodjiemgilaaaRef1K
import Derived.Test.YtogodjiemgilaaaArgI
namespace Go.Proofs.Ytogodjiemgilaaa
open Go.RowKit

theorem r_same1 (x : Int) (h1 : L x ≤ 100000) : Spec Try.prog 51 [(INT x).p, (INT x).p] (VP.bool true) := by
  have := r_same x x h1 h1
  rwa [decide_eq_true rfl] at this
theorem sp1_spec : Spec Try.prog 46 [] (VP.bool true) :=
  spec0 fun w => (speaks1_walk w).mono fun e w' h => ⟨_, h.1, rfl, h.2⟩

/-- an integer as it came in: a sign, and digits -/
abbrev Raw := Bool × List Nat
abbrev RAW (x : Raw) : VP := VP.agg [VP.bool x.1, VP.nums .u32 x.2]
def rawcells : List Raw → List VP
  | [] => []
  | x :: r => VP.bool x.1 :: VP.nums .u32 x.2 :: rawcells r
/-- its digits are digits of 32 bits -/
def Raw.ok (x : Raw) : Prop := ∀ d ∈ x.2, d < 4294967296
def oddP (x : Raw) : Bool := decide (10 < x.2.length) || !rightB x.1 x.2
theorem raw_flat : ∀ (ps : List Raw) (cs : List Value) (w : World), All2 (rawcells ps) cs w → (∀ x ∈ ps, x.ok) → ∃ xs : List AInt, flatA xs = cs ∧ xs.map (fun x => (x.s, x.l)) = ps ∧ ∀ x ∈ xs, x.ok w
  | [], [], _, _, _ => ⟨[], rfl, rfl, fun _ h => by cases h⟩
  | x :: r, u :: v :: cs, w, h, hx => by
    obtain ⟨h1, ⟨a, c, h2, h3, h4, h5⟩, h6⟩ := h
    have h1 : u = .bool x.1 := h1
    subst h1 h2
    obtain ⟨xs, e1, e2, e3⟩ := raw_flat r cs w h6 (fun y hy => hx y (List.mem_cons_of_mem _ hy))
    refine ⟨⟨x.1, a, x.2, c⟩ :: xs, by simp only [flatA, e1], by simp only [List.map_cons, e2], fun y hy => ?_⟩
    rcases List.mem_cons.1 hy with rfl | hy
    · exact ⟨h3, h4, hx x (List.mem_cons_self ..), h5⟩
    · exact e3 y hy
theorem s_odd (ps : List Raw) (hn : ps.length ≤ 1000) (hx : ∀ x ∈ ps, x.ok) : Spec Try.prog 47 [isArr 69 ps.length (rawcells ps)] (VP.bool (ps.any oddP)) :=
  spec1 fun v1 w p1 => by
    obtain ⟨g, cs, rfl, h1, h2⟩ := p1
    obtain ⟨xs, e1, e2, e3⟩ := raw_flat ps cs w h2 hx
    have hl : xs.length = ps.length := by rw [← e2]; simp
    have := odd1_walk xs g 0 ps.length w (by omega) (fun j u hu => by rw [Nat.zero_add]; exact h1.cell (by rw [← e1]; exact hu)) e3
    rw [hl] at this
    refine this.mono fun e w' h => ⟨_, h.1, ?_, h.2⟩
    show Value.bool _ = Value.bool _
    rw [← e2, List.any_map]
    rfl
/-- an integer -/
abbrev raw (z : Int) : Raw := (decide (z < 0), dg BB z.natAbs)
theorem raw_ok (z : Int) : (raw z).ok := fun d hd => Nat.lt_trans (dg_lt BB_gt hd) (by decide)
theorem raw_even {z : Int} (h : L z ≤ 10) : oddP (raw z) = false := by
  unfold oddP raw
  rw [int_right, decide_eq_false (by unfold L at h; simp only; omega)]; rfl
theorem s_even2 (x y : Int) (h1 : L x ≤ 10) (h2 : L y ≤ 10) : Spec Try.prog 47 [isArr 69 2 [Bz x, Dz x, Bz y, Dz y]] (VP.bool false) := by
  have := s_odd [raw x, raw y] (by simp) (fun z hz => by
    simp only [List.mem_cons, List.not_mem_nil, or_false] at hz
    rcases hz with rfl | rfl <;> exact raw_ok _)
  simp only [List.any_cons, raw_even h1, raw_even h2, List.any_nil, Bool.or_self] at this
  exact this
theorem s_odd2 (x y : Raw) (h1 : x.ok) (h2 : y.ok) (h : [x, y].any oddP = true) : Spec Try.prog 47 [isArr 69 2 [VP.bool x.1, VP.nums .u32 x.2, VP.bool y.1, VP.nums .u32 y.2]] (VP.bool true) := by
  have := s_odd [x, y] (by simp) (fun z hz => by
    simp only [List.mem_cons, List.not_mem_nil, or_false] at hz
    rcases hz with rfl | rfl
    · exact h1
    · exact h2)
  rw [h] at this
  exact this
/-- an argument of type api.Int is a sign and digits -/
theorem arg_raw {w : World} {v : Value} (h : Arg Try.prog w 69 v) : ∃ x : Raw, x.ok ∧ (RAW x).p v w := by
  obtain ⟨x, rfl, h1, h2, h3, h4⟩ := arg_aint h
  exact ⟨(x.s, x.l), h3, [.bool x.s, .slice x.a x.l.length x.c], rfl, rfl, ⟨x.a, x.c, rfl, h1, h2, h4⟩, trivial⟩
/-- one that is right -/
theorem raw_right {x : Raw} (h : oddP x = false) : ∃ z : Int, L z ≤ 10 ∧ x = raw z := by
  unfold oddP at h
  rw [Bool.or_eq_false_iff] at h
  obtain ⟨z, h1, h2⟩ := right_int (s := x.1) (l := x.2) (by simpa using h.2)
  have := of_decide_eq_false h.1
  refine ⟨z, by unfold L; rw [← h2]; omega, ?_⟩
  obtain ⟨s, l⟩ := x
  simp only at h1 h2
  rw [h1, h2]
/-- a spec, called -/
theorem Spec.call1 {P : Program} {f : FuncId} {q : Value → World → Prop} {x : VP} (h : Spec P f [q] x) {v : Value} {w : World} (h1 : q v w) : Calls P f #[v] w fun e w' => ∃ v, e = .returned v ∧ x.p v w' ∧ Ext w w' :=
  h #[v] w rfl fun j q' hq => by
    match j, hq with
    | 0, hq => cases hq; exact ⟨v, rfl, h1⟩
theorem Spec.call2 {P : Program} {f : FuncId} {q r : Value → World → Prop} {x : VP} (h : Spec P f [q, r] x) {u v : Value} {w : World} (h1 : q u w) (h2 : r v w) : Calls P f #[u, v] w fun e w' => ∃ v, e = .returned v ∧ x.p v w' ∧ Ext w w' :=
  h #[u, v] w rfl fun j q' hq => by
    match j, hq with
    | 0, hq => cases hq; exact ⟨u, rfl, h1⟩
    | 1, hq => cases hq; exact ⟨v, rfl, h2⟩
theorem Spec.call3 {P : Program} {f : FuncId} {q r s : Value → World → Prop} {x : VP} (h : Spec P f [q, r, s] x) {u v t : Value} {w : World} (h1 : q u w) (h2 : r v w) (h3 : s t w) : Calls P f #[u, v, t] w fun e w' => ∃ v, e = .returned v ∧ x.p v w' ∧ Ext w w' :=
  h #[u, v, t] w rfl fun j q' hq => by
    match j, hq with
    | 0, hq => cases hq; exact ⟨u, rfl, h1⟩
    | 1, hq => cases hq; exact ⟨v, rfl, h2⟩
    | 2, hq => cases hq; exact ⟨t, rfl, h3⟩
theorem true_of {w : World} {e : Ending} {w' : World} (h : ∃ v, e = .returned v ∧ (VP.bool true).p v w' ∧ Ext w w') : e = .returned (.bool true) ∧ Ext w w' := by
  obtain ⟨v, h1, h2, h3⟩ := h
  have h2 : v = .bool true := h2
  subst h2
  exact ⟨h1, h3⟩
theorem z_int_2 : ∀ w, All2 [Bz 0, Dz 0, Bz 0, Dz 0] [.bool false, .slice none 0 0, .bool false, .slice none 0 0] w := z_frac
theorem z_int_3 (w : World) : All2 [Bz 0, Dz 0, Bz 0, Dz 0, Bz 0, Dz 0] [.bool false, .slice none 0 0, .bool false, .slice none 0 0, .bool false, .slice none 0 0] w := ⟨rfl, nums_nil _ _, rfl, nums_nil _ _, rfl, nums_nil _ _, trivial⟩
end Go.Proofs.Ytogodjiemgilaaa
