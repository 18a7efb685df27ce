/- The logic over slots and boxes: code, functions. -/
import Derived.Test.YtogodjiemgilaaaHLC
import Derived.Deep.LoopGhost
namespace Go.Proofs.Ytogodjiemgilaaa
open Go.RowKit

structure Fr where
  P : Program
  w0 : World
  N : Nat
  B : List Nat
/-- these facts stand -/
def Fs (F : Fr) (fs : List Fact) (a : Act) (w : World) : Prop := Base F.w0 F.N F.B a w ∧ ∀ f ∈ fs, f.holds a w
def T (F : Fr) (fs : List Fact) (c : Code) (Q : Exit → Act → World → Prop) : Prop := ∀ a w, Fs F fs a w → c.wp F.P Q a w
def Nx (F : Fr) (fs : List Fact) (Q : Exit → Act → World → Prop) : Prop := ∀ a w, Fs F fs a w → Q .normal a w
def Rt (F : Fr) (fs : List Fact) (Q : Exit → Act → World → Prop) : Prop := ∀ a w, Fs F fs a w → Q .ret a w
def Ex (F : Fr) (fs : List Fact) (id : Nat) (Q : Exit → Act → World → Prop) : Prop := ∀ a w, Fs F fs a w → Q (.exit id) a w

section
variable {F : Fr} {fs : List Fact} {Q : Exit → Act → World → Prop}
theorem fs_sub {fs' : List Fact} {a : Act} {w : World} (idx : List Nat) (h : idx.map (fun n => fs[n]?) = fs'.map some) (hf : Fs F fs a w) : Fs F fs' a w := by
  refine ⟨hf.1, fun f hm => ?_⟩
  have : some f ∈ idx.map (fun n => fs[n]?) := by rw [h]; exact List.mem_map.2 ⟨f, hm, rfl⟩
  obtain ⟨n, _, hn⟩ := List.mem_map.1 this
  exact hf.2 f (List.mem_of_getElem? hn)
theorem t_sub {fs' : List Fact} {c : Code} (idx : List Nat) (h : idx.map (fun n => fs[n]?) = fs'.map some) (ht : T F fs' c Q) : T F fs c Q := fun a w hf => ht a w (fs_sub idx h hf)
theorem nx_sub {fs' : List Fact} (idx : List Nat) (h : idx.map (fun n => fs[n]?) = fs'.map some) (ht : Nx F fs' Q) : Nx F fs Q := fun a w hf => ht a w (fs_sub idx h hf)

theorem t_seq {x y : Code} (h : T F fs x (Exit.then (fun a w => y.wp F.P Q a w) Q)) : T F fs (.seq x y) Q := fun a w hf => wp_seq (h a w hf)
theorem nx_then {y : Code} (h : T F fs y Q) : Nx F fs (Exit.then (fun a w => y.wp F.P Q a w) Q) := h
theorem rt_then {K : Act → World → Prop} (h : Rt F fs Q) : Rt F fs (Exit.then K Q) := h
theorem ex_then {K : Act → World → Prop} {id : Nat} (h : Ex F fs id Q) : Ex F fs id (Exit.then K Q) := h
theorem t_skip (h : Nx F fs Q) : T F fs .skip Q := fun a w hf => wp_skip (h a w hf)
theorem t_ret (h : Rt F fs Q) : T F fs .ret Q := fun a w hf => wp_ret (h a w hf)
theorem t_exit {id : Nat} (h : Ex F fs id Q) : T F fs (.exit id) Q := fun a w hf => wp_exit (h a w hf)
theorem t_block {id : Nat} {c : Code} (h : T F fs c (Exit.inBlock id Q)) : T F fs (.block id c) Q := fun a w hf => wp_block (h a w hf)
theorem nx_block {id : Nat} (h : Nx F fs Q) : Nx F fs (Exit.inBlock id Q) := h
theorem rt_block {id : Nat} (h : Rt F fs Q) : Rt F fs (Exit.inBlock id Q) := h
theorem ex_block {id : Nat} (h : Nx F fs Q) : Ex F fs id (Exit.inBlock id Q) := fun a w hf => by
  show (if id = id then Q .normal a w else Q (.exit id) a w)
  rw [if_pos rfl]; exact h a w hf
theorem ex_other {id id' : Nat} (hne : (id == id') = false) (h : Ex F fs id Q) : Ex F fs id (Exit.inBlock id' Q) := fun a w hf => by
  show (if id = id' then Q .normal a w else Q (.exit id) a w)
  rw [if_neg (by simpa using hne)]; exact h a w hf
theorem t_cond (n : Nat) {k : Nat} (b : Bool) {x y : Code} (hs : fs[n]? = some (.slot k (VP.bool b))) (h : T F fs (if b then x else y) Q) : T F fs (.cond (.tmp k) x y) Q := fun a w hf => by
  obtain ⟨v, h1, h2⟩ := hf.2 _ (List.mem_of_getElem? hs)
  have h2 : v = .bool b := h2
  subst h2
  exact wp_cond (eval_tmp h1) (h a w hf)
theorem t_cond_t (n : Nat) {k : Nat} {x y : Code} (hs : fs[n]? = some (.slot k (VP.bool true))) (h : T F fs x Q) : T F fs (.cond (.tmp k) x y) Q := t_cond n true hs h
theorem t_cond_f (n : Nat) {k : Nat} {x y : Code} (hs : fs[n]? = some (.slot k (VP.bool false))) (h : T F fs y Q) : T F fs (.cond (.tmp k) x y) Q := t_cond n false hs h

theorem t_cond_te (n : Nat) {k : Nat} {b : Bool} {x y : Code} (hs : fs[n]? = some (.slot k (VP.bool b))) (e : b = true) (h : T F fs x Q) : T F fs (.cond (.tmp k) x y) Q := by subst e; exact t_cond n true hs h
theorem t_cond_fe (n : Nat) {k : Nat} {b : Bool} {x y : Code} (hs : fs[n]? = some (.slot k (VP.bool b))) (e : b = false) (h : T F fs y Q) : T F fs (.cond (.tmp k) x y) Q := by subst e; exact t_cond n false hs h

/-- a region: fs: what stands all through; os: what stands until operation i; rs: what operation i lays -/
theorem t_region {id : Nat} {draw : Bool} {ops : List Oper} (fs1 : List Fact) (os rs : List (Nat × Fact)) (i1 i2 : List Nat) (h1 : i1.map (fun n => fs[n]?) = fs1.map some) (h2 : i2.map (fun n => fs[n]?) = os.map (fun x => some x.2))
    (hm : F.P.follows .mixedOrders = true) (hq : (seqB ops && rs.all (fun x => decide (x.1 < ops.length))) = true)
    (hr : Rules ⟨F.P, F.w0, F.N, F.B, fs1, os, rs⟩ ops ops 0) (hn : Nx F (fs1 ++ rs.map (·.2)) Q) : T F fs (.region id ops.toArray draw) Q := fun a w hf => by
  have hx := (fs_sub i1 h1 hf).2
  have ho : ∀ x ∈ os, x.2.holds a w := by
    intro x hxm
    have : some x.2 ∈ i2.map (fun n => fs[n]?) := by rw [h2]; exact List.mem_map.2 ⟨x, hxm, rfl⟩
    obtain ⟨n, _, hn⟩ := List.mem_map.1 this
    exact hf.2 _ (List.mem_of_getElem? hn)
  refine region_ok (X := ⟨F.P, F.w0, F.N, F.B, fs1, os, rs⟩) hm hq hr hf.1 hx ho fun a' w' ha => hn a' w' ⟨ha.1, fun f hfm => ?_⟩
  rw [List.mem_append] at hfm
  rcases hfm with hfm | hfm
  · exact ha.2.1 f hfm
  · obtain ⟨x, hxm, rfl⟩ := List.mem_map.1 hfm
    exact ha.2.2 x hxm

/-- a loop: what stands at a round's head, with a number that each round lowers -/
theorem t_loop {σ : Type} (I : σ → List Fact) (μ : σ → Nat) (s0 : σ) {body : Code} (idx : List Nat) (h0 : idx.map (fun n => fs[n]?) = (I s0).map some)
    (h : ∀ s, T F (I s) body (Exit.then (fun a w => ∃ s', μ s' < μ s ∧ Fs F (I s') a w) Q)) : T F fs (.loop body) Q := fun a w hf => by
  refine wp_loop_ghost (fun n a w => ∃ s, μ s = n ∧ Fs F (I s) a w) (μ s0) ⟨s0, rfl, fs_sub idx h0 hf⟩ fun n a w ⟨s, hs, hfs⟩ => ?_
  refine Code.wp_mono (fun e a' w' hq => ?_) (h s a w hfs)
  cases e with
  | normal => obtain ⟨s', h1, h2⟩ := hq; exact ⟨μ s', by omega, s', rfl, h2⟩
  | exit id => exact hq
  | goto l => exact hq
  | ret => exact hq
  | panic ch => exact hq
  | outgrown => exact hq
theorem nx_round {σ : Type} {I : σ → List Fact} {μ : σ → Nat} {s : σ} (s' : σ) (hm : μ s' < μ s) (idx : List Nat) (h : idx.map (fun n => fs[n]?) = (I s').map some) : Nx F fs (Exit.then (fun a w => ∃ s', μ s' < μ s ∧ Fs F (I s') a w) Q) :=
  fun _ _ hf => ⟨s', hm, fs_sub idx h hf⟩

/-- from within another walk -/
theorem tail_in {x y : Code} {K : Act → World → Prop} {a : Act} {w : World} (h : T F fs x (Exit.then (fun a w => y.wp F.P Q a w) Q)) (hk : ∀ a w, y.wp F.P Q a w → K a w) (hf : Fs F fs a w) : x.wp F.P (Exit.then K Q) a w :=
  Code.wp_mono (fun e a w q => by cases e <;> first | exact hk _ _ q | exact q) (h a w hf)

/-! ### the end of a function -/
def resSem (tmps : Array Value) : ResultVar → Sem Value
  | .tmp t => pure (tmps.getD t undef)
  | .cell a t => do loadVar t (← asAddr (tmps.getD a undef))
def Res (F : Fr) (fs : List Fact) (r : ResultVar) (x : VP) : Prop := ∀ a w, Fs F fs a w → ∃ v, (resSem a.tmps r).run F.P w = .ok v w ∧ x.p v w
theorem res_tmp (n : Nat) {t : Nat} {x : VP} (h : fs[n]? = some (.slot t x)) : Res F fs (.tmp t) x := fun a w hf => by
  obtain ⟨v, h1, h2⟩ := hf.2 _ (List.mem_of_getElem? h)
  exact ⟨v, by simp [resSem, h1], h2⟩
theorem res_tmpb (n : Nat) {t : Nat} {b b' : Bool} (h : fs[n]? = some (.slot t (VP.bool b))) (e : b = b') : Res F fs (.tmp t) (VP.bool b') := e ▸ res_tmp n h
theorem res_agg (n : Nat) {k : Nat} {T T' : TypeId} {ps : List VP} (ht : aggTy F.P T ps.length = true) (h : fs[n]? = some (.box k T' ps)) : Res F fs (.cell k T) (VP.agg ps) := fun a w hf => by
  obtain ⟨g, cs, h1, h2, h3⟩ := hf.2 _ (List.mem_of_getElem? h)
  have hl := h3.len
  have := run_loadRow (off := 0) ht h2 (by omega)
  rw [List.drop_zero, List.take_of_length_le (by omega)] at this
  exact ⟨_, by simp [resSem, h1, ptr, asAddr, this], cs, rfl, h3⟩
theorem res_one' (n : Nat) {k : Nat} {T T' : TypeId} {x : VP} (ht : oneTy F.P T = true) (h : fs[n]? = some (.box k T' [x])) : Res F fs (.cell k T) x := fun a w hf => by
  obtain ⟨g, cs, h1, h2, h3⟩ := hf.2 _ (List.mem_of_getElem? h)
  obtain ⟨v, hv, hp⟩ := h3.get (i := 0) (x := x) rfl
  have := run_loadCell ht h2 hv
  exact ⟨v, by simp [resSem, h1, ptr, asAddr, this], hp⟩

def post (w0 : World) (x : VP) (e : Ending) (w' : World) : Prop := ∃ v, e = .returned v ∧ x.p v w' ∧ Ext w0 w'
theorem rt_one {fn : Func} {r : ResultVar} {x : VP} (hfn : fn.results = #[r]) (h : Res F fs r x) : Rt F fs (bodyPost F.P fn (post F.w0 x)) := fun a w hf => by
  obtain ⟨v, h1, h2⟩ := h a w hf
  refine ⟨hf.1.2.1, v, ?_, v, rfl, h2, hf.1.2.2.1⟩
  cases r with
  | tmp t => simp only [resSem] at h1; simpa [results, hfn] using h1
  | cell k T => simp only [resSem] at h1; simp only [results, hfn]; simpa using h1
theorem rt_two {fn : Func} {r1 r2 : ResultVar} {x1 x2 : VP} (hfn : fn.results = #[r1, r2]) (h1 : Res F fs r1 x1) (h2 : Res F fs r2 x2) : Rt F fs (bodyPost F.P fn (post F.w0 (VP.tup [x1, x2]))) := fun a w hf => by
  obtain ⟨v1, e1, p1⟩ := h1 a w hf
  obtain ⟨v2, e2, p2⟩ := h2 a w hf
  refine ⟨hf.1.2.1, .tuple #[v1, v2], ?_, _, rfl, ⟨[v1, v2], rfl, p1, p2, trivial⟩, hf.1.2.2.1⟩
  have hm : (#[r1, r2].mapM (resSem a.tmps)).run F.P w = .ok #[v1, v2] w := by simp [e1, e2]
  have : (results fn a.tmps) = (do let vs ← fn.results.mapM (resSem a.tmps); pure (if h : vs.size = 1 then vs[0] else .tuple vs)) := by
    unfold results resSem; rfl
  rw [this, hfn]
  simp only [Sem.run_bind, hm, Result.andThen_ok]
  rfl
theorem rt_three {fn : Func} {r1 r2 r3 : ResultVar} {x1 x2 x3 : VP} (hfn : fn.results = #[r1, r2, r3]) (h1 : Res F fs r1 x1) (h2 : Res F fs r2 x2) (h3 : Res F fs r3 x3) : Rt F fs (bodyPost F.P fn (post F.w0 (VP.tup [x1, x2, x3]))) := fun a w hf => by
  obtain ⟨v1, e1, p1⟩ := h1 a w hf
  obtain ⟨v2, e2, p2⟩ := h2 a w hf
  obtain ⟨v3, e3, p3⟩ := h3 a w hf
  refine ⟨hf.1.2.1, .tuple #[v1, v2, v3], ?_, _, rfl, ⟨[v1, v2, v3], rfl, p1, p2, p3, trivial⟩, hf.1.2.2.1⟩
  have hm : (#[r1, r2, r3].mapM (resSem a.tmps)).run F.P w = .ok #[v1, v2, v3] w := by simp [e1, e2, e3]
  have : (results fn a.tmps) = (do let vs ← fn.results.mapM (resSem a.tmps); pure (if h : vs.size = 1 then vs[0] else .tuple vs)) := by
    unfold results resSem; rfl
  rw [this, hfn]
  simp only [Sem.run_bind, hm, Result.andThen_ok]
  rfl
end

/-! ### a function -/
def paramFacts : List VP → Nat → List Fact
  | [], _ => []
  | x :: xs, k => .slot k x :: paramFacts xs (k + 1)
theorem paramFacts_mem : ∀ {xs : List VP} {k : Nat} {f : Fact}, f ∈ paramFacts xs k → ∃ j x, xs[j]? = some x ∧ f = .slot (k + j) x
  | x :: xs, k, f, h => by
    simp only [paramFacts, List.mem_cons] at h
    rcases h with rfl | h
    · exact ⟨0, x, rfl, rfl⟩
    · obtain ⟨j, y, h1, h2⟩ := paramFacts_mem h
      exact ⟨j + 1, y, by simpa using h1, by rw [h2]; congr 1; omega⟩
theorem spec_of {P : Program} {f : FuncId} {fn : Func} {c : Code} {xs : List VP} {x : VP} (N : Nat) (B : List Nat) (hf : P.funcs[f]? = some fn) (hc : fn.body = some c) (hN : fn.ntmps = N) (hB : (B.all (fun k => decide (xs.length ≤ k)) && decide (xs.length ≤ N)) = true)
    (h : ∀ w0, T ⟨P, w0, N, B⟩ (paramFacts xs 0) c (bodyPost P fn (post w0 x))) : Spec P f (xs.map (·.p)) x := by
  intro vs w hs hv
  rw [List.length_map] at hs
  simp only [Bool.and_eq_true, decide_eq_true_eq, List.all_eq_true] at hB
  refine calls_of_wp hf hc (h w _ w ⟨⟨?_, rfl, Ext.refl w, ?_, ?_⟩, ?_⟩)
  · simp; omega
  · intro k hk g hg
    have := hB.1 k hk
    rw [Array.getElem?_append_right (by omega)] at hg
    have hu := Array.mem_of_getElem? hg
    rw [Array.mem_replicate] at hu
    have := hu.2
    unfold ptr undef at this
    cases this
  · intro k hk k' hk' _ g hg
    have := hB.1 k hk
    rw [Array.getElem?_append_right (by omega)] at hg
    have hu := Array.mem_of_getElem? hg
    rw [Array.mem_replicate] at hu
    have := hu.2
    unfold ptr undef at this
    cases this
  · intro fa hfa
    obtain ⟨j, y, h1, rfl⟩ := paramFacts_mem hfa
    obtain ⟨v, h2, h3⟩ := hv j y.p (by rw [List.getElem?_map, h1]; rfl)
    rw [Nat.zero_add]
    refine ⟨v, ?_, h3⟩
    have hj := (Array.getElem?_eq_some_iff.1 h2).1
    show (vs ++ _)[j]? = some v
    rw [Array.getElem?_append_left hj]; exact h2
end Go.Proofs.Ytogodjiemgilaaa
