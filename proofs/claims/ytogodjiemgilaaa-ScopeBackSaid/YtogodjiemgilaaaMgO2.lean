/- Part of the proof that a law returns true for all that comes in, and that what came in reads as it did. No condition. -/
import Derived.Laws.Bits64
import Derived.Test.YtogodjiemgilaaaProg
import Derived.Test.YtogodjiemgilaaaMgO1
/- The logic over objects: results of several parts, joins of ways, rows of things, copies. -/
namespace Go.Proofs.Ytogodjiemgilaaa
open Go.RowKit
namespace O
section
variable {X : Cx} {i : Nat} {pre suc : List Nat}
/-- one slot gets what another one has -/
theorem does_eqTmp {o : Oper} {d k : Nat} (y : Operand) (hy : y = .tmp k) (hop : o.op = .move y ∨ o.op = .assign y) (hd : o.dst = some d) (hlt : (decide (d < X.N) && decide (k < X.N)) = true) (hk : (k == d) = false) (hc : chk X i pre suc d = true) (hr : resOf X i = [.eq d (.tmp k)]) : Does X i pre suc o := by
  simp only [Bool.and_eq_true, decide_eq_true_eq] at hlt
  refine does_val hd (decide_eq_true hlt.1) hc hr rfl fun c γ a w s Q K hK => ?_
  have hl : k < a.tmps.size := by rw [s.g.sz]; exact hlt.2
  have hg : a.tmps[k]? = some (a.eval y) := by subst hy; rw [eval_tmp (Array.getElem?_eq_getElem hl)]; exact Array.getElem?_eq_getElem hl
  have hrun : (execOp a.eval o).run X.P w = .ok (.value (a.eval y)) w := by
    unfold execOp
    rcases hop with e | e <;> rw [e] <;> rfl
  unfold Oper.wp
  rw [hrun]
  show K (a.put o.dst _) w
  rw [hd]
  refine hK _ w (Ext.refl w) ⟨a.eval y, ?_, put_eq _ (by rw [s.g.sz]; exact hlt.1)⟩
  show (a.put (some d) _).tmps[k]? = _
  rw [put_ne _ (fun e => by subst e; simp at hk)]; exact hg
/-- a result that has no blocks -/
theorem ar_of {k id : Nat} {x : VP} (h : Av X i pre suc (.own id (.tmp k) (HA.of x))) : Ar X i pre suc (.tmp k) x.p := fun c γ a w s => by
  obtain ⟨v, h1, h2, _⟩ := h.h s
  rw [eval_tmp h1]; exact h2
theorem ar_ptrOf {y : Operand} {v : Value} (h : Ar X i pre suc y (VP.ptr v).p) : Ar X i pre suc y (VP.eq v true true).p := fun c γ a w s => by
  obtain ⟨h1, g, o, h2⟩ := h c γ a w s
  exact ⟨h1, fun _ n e => (by rw [h2] at e; cases e), fun _ => (by rw [h2]; rfl)⟩
/-- what is free of the blocks that never turn -/
def ZF (x : VP) : Prop := ∀ (Z Z' : Foot) (v : Value) (w : World), x.p Z v w → x.p Z' v w
def ZFs (ps : List VP) : Prop := ∀ (Z Z' : Foot) (vs : List Value) (w : World), All2 Z ps vs w → All2 Z' ps vs w
theorem zfs_nil : ZFs [] := fun _ _ vs _ h => by cases vs with
  | nil => trivial
  | cons v vs => exact h.elim
theorem zfs_cons {x : VP} {ps : List VP} (h : ZF x) (k : ZFs ps) : ZFs (x :: ps) := fun Z Z' vs w h' => by
  cases vs with
  | nil => exact h'.elim
  | cons v vs => exact ⟨h _ _ _ _ h'.1, k _ _ _ _ h'.2⟩
theorem zf_tup {ps : List VP} (h : ZFs ps) : ZF (VP.tup ps) := fun _ _ _ _ ⟨cs, h1, h2⟩ => ⟨cs, h1, h _ _ _ _ h2⟩
theorem zf_agg {ps : List VP} (h : ZFs ps) : ZF (VP.agg ps) := fun _ _ _ _ ⟨cs, h1, h2⟩ => ⟨cs, h1, h _ _ _ _ h2⟩
theorem does_extractV {o : Oper} {d k id : Nat} {Rs : List HA} {x : VP} (n : Nat) (hop : o.op = .extract (.tmp k) n) (hd : o.dst = some d) (hlt : decide (d < X.N) = true) (hc : chk X i pre suc d = true)
    (hr : resOf X i = [.slot d x]) (hb : Av X i pre suc (.own id (.tmp k) (HA.tup Rs))) (hn : Rs[n]? = some (HA.of x)) : Does X i pre suc o :=
  does_run hd hlt hc hr fun c γ a w s => by
    obtain ⟨v, h1, cs, rfl, h2⟩ := hb.h s
    obtain ⟨v, hv, hp⟩ := h2.vp hn
    exact ⟨v, by unfold execOp; rw [hop]; simp [eval_tmp h1, Instr.extract, hv], hp⟩
theorem does_extractO {o : Oper} {d k id id2 : Nat} {Rs Rs' : List HA} {R : HA} (n : Nat) (ri : List Nat) (hop : o.op = .extract (.tmp k) n) (hd : o.dst = some d) (hlt : (decide (d < X.N) && !(k == d) && !(id == id2)) = true) (hc : chkM X i pre suc (some d) [id, id2] = true)
    (hr : ri.map (fun n => [Fact.own id (.tmp k) (HA.tup Rs'), .own id2 (.tmp d) R][n]?) = (resOf X i).map some) (hrs : Rs' = Rs.set n (HA.of VP.any)) (hb : Av X i pre suc (.own id (.tmp k) (HA.tup Rs))) (hn : Rs[n]? = some R) : Does X i pre suc o := by
  subst hrs
  intro c γ a w s Q K hK
  simp only [Bool.and_eq_true, decide_eq_true_eq, Bool.not_eq_true', beq_eq_false_iff_ne, ne_eq] at hlt
  obtain ⟨⟨l1, l2⟩, l3⟩ := hlt
  have hHas := hb c γ a w s
  obtain ⟨v, h1, cs, rfl, h2⟩ := hb.h s
  obtain ⟨u, S1, S2, hv, e, dj, hp, hset⟩ := h2.pick hn
  have hset := hset (HA.of VP.any) (fun _ => False) u ⟨trivial, fun _ h => h⟩ (fun _ h => h.elim)
  rw [set_same hv] at hset
  have hset := hset.subS (S' := S2) fun b => by simp
  unfold Oper.wp
  have hrun : (execOp a.eval o).run X.P w = .ok (.value u) w := by unfold execOp; rw [hop]; simp [eval_tmp h1, Instr.extract, hv]
  rw [hrun]
  show K (a.put o.dst u) w
  rw [hd]
  have hres : ∀ f ∈ resOf X i, f = .own id (.tmp k) (HA.tup (Rs.set n (HA.of VP.any))) ∨ f = .own id2 (.tmp d) R := fun f hf => by
    have : some f ∈ ri.map (fun q => [Fact.own id (.tmp k) (HA.tup (Rs.set n (HA.of VP.any))), .own id2 (.tmp d) R][q]?) := by rw [hr]; exact List.mem_map.2 ⟨f, hf, rfl⟩
    obtain ⟨m, _, hm⟩ := List.mem_map.1 this
    have := List.mem_of_getElem? hm
    simpa using this
  have hb := s.g.bnd id _ _ hHas
  have s1 : (if id = id2 then S1 else if id = id then S2 else γ.σ id) = S2 := by rw [if_neg l3, if_pos rfl]
  have s2 : (if id2 = id2 then S1 else if id2 = id then S2 else γ.σ id2) = S1 := if_pos rfl
  refine hK ⟨fun j => if j = id2 then S1 else if j = id then S2 else γ.σ j, γ.Z⟩ _ _ (good_step s hc (γ.σ id) (fun b hb => ⟨id, by simp, hb, _, _, hHas⟩) (by rw [put_size]; exact s.g.sz) (by rw [put_defers']; exact s.g.df) (.refl _ _) (ha_put d a u _ γ) (fun _ h => h) (fun _ h => .inl h) (fun j hj => ?_) (fun f hf => ?_) (fun j r R' hf b hb' => ?_) (fun j r R' j' r' R'' hf hf' hne b h1 h2 => ?_))
  · simp only [List.mem_cons, List.not_mem_nil, or_false, not_or] at hj
    show (if j = id2 then S1 else if j = id then S2 else γ.σ j) = γ.σ j
    rw [if_neg hj.2, if_neg hj.1]
  · rcases hres f hf with rfl | rfl
    · refine ⟨.tuple cs.toArray, ?_, cs, rfl, ?_⟩
      · show (a.put (some d) u).tmps[k]? = _
        rw [put_ne _ (Ne.symm l2)]; exact h1
      · show AllS γ.Z _ cs w (if id = id2 then S1 else if id = id then S2 else γ.σ id)
        rw [s1]; exact hset
    · refine ⟨u, put_eq u (by rw [s.g.sz]; exact l1), ?_⟩
      show R.p γ.Z u w (if id2 = id2 then S1 else if id2 = id then S2 else γ.σ id2)
      rw [s2]; exact hp
  · have : γ.σ id b := by
      rcases hres _ hf with e1 | e1 <;> injection e1 with e1 <;> subst e1
      · have hb' : (if j = id2 then S1 else if j = j then S2 else γ.σ j) b := hb'
        rw [s1] at hb'; exact (e b).2 (.inr hb')
      · have hb' : (if j = j then S1 else if j = id then S2 else γ.σ j) b := hb'
        rw [if_pos rfl] at hb'; exact (e b).2 (.inl hb')
    exact ⟨.inl this, (hb b this).1, (hb b this).2.2⟩
  · have h1 : (if j = id2 then S1 else if j = id then S2 else γ.σ j) b := h1
    have h2 : (if j' = id2 then S1 else if j' = id then S2 else γ.σ j') b := h2
    rcases hres _ hf with e1 | e1 <;> rcases hres _ hf' with e2 | e2 <;> injection e1 with e1 <;> injection e2 with e2
    · exact hne (e1.trans e2.symm)
    · rw [e1, s1] at h1; rw [e2, if_pos rfl] at h2; exact dj b h2 h1
    · rw [e1, if_pos rfl] at h1; rw [e2, s1] at h2; exact dj b h1 h2
    · exact hne (e1.trans e2.symm)
end
section
variable {F : Fr} {fs : List Fact} {Q : Exit → Act → World → Prop}
/-- ways meet again -/
theorem t_cut {τ : Type} (J : τ → List Fact) {x y : Code} (h1 : T F fs x (Exit.then (fun a w => ∃ s, Fs F (J s) a w) Q)) (h2 : ∀ s, T F (J s) y Q) : T F fs (.seq x y) Q := fun a w hf => by
  refine wp_seq (Code.wp_mono (fun e a' w' hq => ?_) (h1 a w hf))
  cases e with
  | normal => obtain ⟨s, hs⟩ := hq; exact h2 s a' w' hs
  | exit id => exact hq
  | goto l => exact hq
  | ret => exact hq
  | panic ch => exact hq
  | outgrown => exact hq
theorem nx_cut {τ : Type} {J : τ → List Fact} (s : τ) (idx : List Nat) (h : idx.map (fun n => fs[n]?) = (J s).map some) : Nx F fs (Exit.then (fun a w => ∃ s, Fs F (J s) a w) Q) := fun _ _ hf => ⟨s, fs_sub idx h hf⟩
theorem fs_nil {a : Act} {w : World} : True := trivial
end
section
variable {F : Fr} {fs : List Fact}
theorem rv_nil {E : TypeId} {sz : Nat} (n : Nat) {t : Nat} (h : fs[n]? = some (.slot t VP.nilS)) : Rv F fs (.tmp t) (HA.row E sz 0 []) [] := rv_weak (R := HA.of VP.nilS) (fun Z v w S h => ⟨by simp, .inl ⟨h.1, rfl, h.2⟩⟩) (rv_vp n h)
theorem rv_pbox1 (n m : Nat) {k id : Nat} {v : Value} {T T' : TypeId} {R : HA} (ht : oneTy F.P T = true) (h : fs[n]? = some (.own id (.val v) (HA.cells T' [R]))) (hm : fs[m]? = some (.slot k (VP.ptr v))) : Rv F fs (.cell k T) R [id] := fun γ a w g => by
  obtain ⟨u, h1, b, cs, S', e, h2, h3, h4, _⟩ := g.hold _ (List.mem_of_getElem? h)
  obtain ⟨u', h5, h6, _⟩ := g.hold _ (List.mem_of_getElem? hm)
  have h1 : u = v := h1
  subst h1 h6 e
  obtain ⟨v, S1, S2, hv, e1, e2, hp, _⟩ := h3.pick (i := 0) (R := R) rfl
  have := run_loadCell ht h2 hv
  have h5 : a.tmps[k]? = some (ptr b) := h5
  exact ⟨v, S1, by simp [resSem, h5, ptr, asAddr, this], hp, fun x hx => ⟨id, by simp, (h4 x).2 (.inr ((e1 x).2 (.inl hx))), _, _, List.mem_of_getElem? h⟩⟩
theorem rv_pboxn (n m : Nat) {k id : Nat} {v : Value} {T T' : TypeId} {Rs : List HA} (ht : aggTy F.P T Rs.length = true) (h : fs[n]? = some (.own id (.val v) (HA.cells T' Rs))) (hm : fs[m]? = some (.slot k (VP.ptr v))) : Rv F fs (.cell k T) (HA.agg Rs) [id] := fun γ a w g => by
  obtain ⟨u, h1, b, cs, S', e, h2, h3, h4, _⟩ := g.hold _ (List.mem_of_getElem? h)
  obtain ⟨u', h5, h6, _⟩ := g.hold _ (List.mem_of_getElem? hm)
  have h1 : u = v := h1
  subst h1 h6 e
  have hl := h3.len
  have := run_loadRow (off := 0) ht h2 (by omega)
  rw [List.drop_zero, List.take_of_length_le (by omega)] at this
  have h5 : a.tmps[k]? = some (ptr b) := h5
  exact ⟨_, S', by simp [resSem, h5, ptr, asAddr, this], ⟨cs, rfl, h3⟩, fun x hx => ⟨id, by simp, (h4 x).2 (.inr hx), _, _, List.mem_of_getElem? h⟩⟩
/-- an assertion that says that the value is a pointer -/
def IsPtr (R : HA) : Prop := ∀ Z v w S, R.p Z v w S → ∃ g o, v = .pointer (some ⟨g, o, none⟩)
end
section
variable {F : Fr} {rest : List Fact} {K : Act → World → Prop}
theorem t_nameA {id k : Nat} {R : HA} (hp : IsPtr R) (ho : rest.all (fun f => f.off [id]) = true) (h : ∀ v, Sat F (.own id (.val v) R :: .slot k (VP.ptr v) :: rest) K) : Sat F (.own id (.tmp k) R :: rest) K :=
  t_same (α := Value) (fun v => [.own id (.val v) R, .slot k (VP.ptr v)]) ho (fun γ a w v h1 h2 => ⟨v, fun f hf => by
    rcases List.mem_cons.1 hf with rfl | hf
    · exact ⟨v, rfl, h2⟩
    · rw [List.mem_singleton] at hf; subst hf
      obtain ⟨g, o, rfl⟩ := hp _ _ _ _ h2
      exact ⟨_, h1, rfl, g, o, rfl⟩⟩) (fun v k' r' R' hf => by
    rcases List.mem_cons.1 hf with e | hf
    · injection e
    · rw [List.mem_singleton] at hf; cases hf) h
theorem isPtr_cells {T : TypeId} {Rs : List HA} : IsPtr (HA.cells T Rs) := fun Z v w S ⟨g, _, _, h, _⟩ => ⟨g, 0, h⟩
theorem isPtr_ex {α : Type} {nu one : Bool} {G : α → HA} (h : ∀ a, IsPtr (G a)) : IsPtr (HA.ex nu one G) := fun Z v w S ⟨a, h1, _⟩ => h a Z v w S h1
theorem isPtr_pure {φ : Prop} {R : HA} (h : IsPtr R) : IsPtr (HA.pure φ R) := fun Z v w S h1 => h Z v w S h1.2
theorem isPtr_star {R : HA} {L : List (Value × HA)} (h : IsPtr R) : IsPtr (HA.star R L) := fun Z v w _ ⟨S1, _, _, _, h1, _⟩ => h Z v w S1 h1
end
theorem alls_weak {Z : Foot} {w : World} : ∀ {Rs Rs' : List HA} {vs : List Value} {S : Foot}, (Rs.length = Rs'.length) → (∀ (j : Nat) (R R' : HA), Rs[j]? = some R → Rs'[j]? = some R' → ∀ (v : Value) (S : Foot), R.p Z v w S → R'.p Z v w S) → AllS Z Rs vs w S → AllS Z Rs' vs w S
  | [], [], [], _, _, _, h => h
  | R :: Rs, R' :: Rs', v :: vs, S, hl, hp, ⟨S1, S2, e, d, h1, h2⟩ => ⟨S1, S2, e, d, hp 0 R R' rfl rfl v S1 h1, alls_weak (by simpa using hl) (fun j X X' hX hX' => hp (j + 1) X X' (by simpa using hX) (by simpa using hX')) h2⟩
  | [], [], _ :: _, _, _, _, h => h.elim
  | _ :: _, _, [], _, _, _, h => h.elim
  | [], _ :: _, _, _, hl, _, _ => by simp at hl
  | _ :: _, [], _, _, hl, _, _ => by simp at hl
/-- one cell is told otherwise -/
theorem cells_weak {T : TypeId} {Rs : List HA} (j : Nat) {R' : HA} {R : HA} (hj : Rs[j]? = some R) (hw : ∀ Z v w S, R.p Z v w S → R'.p Z v w S) : ∀ Z v w S, (HA.cells T Rs).p Z v w S → (HA.cells T (Rs.set j R')).p Z v w S := fun Z v w S ⟨g, cs, S', h1, h2, h3, h4⟩ => ⟨g, cs, S', h1, h2, alls_weak (by simp) (fun k X X' hX hX' u S hp => by
  rw [List.getElem?_set] at hX'
  by_cases e : j = k
  · subst e
    rw [hj] at hX
    injection hX with hX
    have hlt := (List.getElem?_eq_some_iff.1 hj).1
    rw [if_pos rfl, if_pos hlt] at hX'
    injection hX' with hX'
    subst hX hX'
    exact hw _ _ _ _ hp
  · rw [if_neg e, hX] at hX'
    injection hX' with hX'
    subst hX'; exact hp) h3, h4⟩
theorem nil_row {E : TypeId} {sz : Nat} : ∀ Z v w S, (HA.of VP.nilS).p Z v w S → (HA.row E sz 0 []).p Z v w S := fun _ _ _ _ h => ⟨by simp, .inl ⟨h.1, rfl, h.2⟩⟩
/-! ### rows of things -/
section
variable {α β : Type}
theorem flat_len {f : α → List β} {sz : Nat} (hl : ∀ a, (f a).length = sz) (l : List α) : (l.flatMap f).length = l.length * sz := by
  induction l with
  | nil => simp
  | cons a l ih => rw [List.flatMap_cons, List.length_append, ih, hl, List.length_cons, Nat.succ_mul, Nat.add_comm]
theorem flat_get {f : α → List β} {sz : Nat} (hl : ∀ a, (f a).length = sz) : ∀ {l : List α} {m : Nat} {a : α}, l[m]? = some a → ∀ (j : Nat) (x : β), (f a)[j]? = some x → (l.flatMap f)[m * sz + j]? = some x
  | b :: l, 0, a, h, j, x, hx => by
    simp at h; subst h
    rw [List.flatMap_cons, Nat.zero_mul, Nat.zero_add, List.getElem?_append_left (List.getElem?_eq_some_iff.1 hx).1]; exact hx
  | b :: l, m + 1, a, h, j, x, hx => by
    rw [List.flatMap_cons, List.getElem?_append_right (by rw [hl, Nat.succ_mul]; omega), hl, show (m + 1) * sz + j - sz = m * sz + j by rw [Nat.succ_mul]; omega]
    exact flat_get hl (by simpa using h) j x hx
  | [], _, _, h, _, _, _ => by simp at h
theorem flat_take {f : α → List β} {sz : Nat} (hl : ∀ a, (f a).length = sz) : ∀ (l : List α) (h : Nat), (l.flatMap f).take (h * sz) = (l.take h).flatMap f
  | [], h => by simp
  | a :: l, 0 => by simp
  | a :: l, h + 1 => by
    rw [List.flatMap_cons, List.take_succ_cons, List.flatMap_cons, List.take_append, hl, List.take_of_length_le (by rw [hl, Nat.succ_mul]; omega), show (h + 1) * sz - sz = h * sz by rw [Nat.succ_mul]; omega, flat_take hl l h]
theorem flat_snoc {f : α → List VP} (l : List α) (a : α) {qs : List HA} (hq : qs = (f a).map HA.of) : (l.flatMap f).map HA.of ++ qs = ((l ++ [a]).flatMap f).map HA.of := by
  subst hq
  rw [List.flatMap_append, List.map_append]
  simp
theorem flat_cat {f : α → List VP} (l l' : List α) : (l.flatMap f).map HA.of ++ (l'.flatMap f).map HA.of = ((l ++ l').flatMap f).map HA.of := by
  rw [List.flatMap_append, List.map_append]
theorem flat_takeH {f : α → List VP} {sz : Nat} (hl : ∀ a, (f a).length = sz) (l : List α) (h : Nat) : ((l.take h).flatMap f).map HA.of = ((l.flatMap f).map HA.of).take (h * sz) := by
  rw [← List.map_take, flat_take hl]
theorem flat_set {f : α → List VP} (hl : ∀ a, (f a).length = 1) : ∀ (l : List α) (m : Nat) (a : α), m < l.length → ((l.set m a).flatMap f).map HA.of = ((l.flatMap f).map HA.of).take m ++ (f a).map HA.of ++ ((l.flatMap f).map HA.of).drop (m + 1) := by
  intro l m a hm
  have h1 := flat_take hl l m
  rw [Nat.mul_one] at h1
  have h2 : (l.flatMap f).drop (m + 1) = (l.drop (m + 1)).flatMap f := by
    have h3 := flat_take hl l (m + 1)
    rw [Nat.mul_one] at h3
    have : l.flatMap f = (l.take (m + 1)).flatMap f ++ (l.drop (m + 1)).flatMap f := by rw [← List.flatMap_append, List.take_append_drop]
    have h4 := List.take_append_drop (m + 1) (l.flatMap f)
    rw [h3] at h4
    rw [← List.append_cancel_left (h4.trans this)]
  rw [List.set_eq_take_append_cons_drop, if_pos hm, List.flatMap_append, List.flatMap_cons, List.map_append, List.map_append, ← List.map_take, ← List.map_drop, h1, h2, List.append_assoc]
theorem hq_flat {f : α → List VP} {sz : Nat} (hl : ∀ a, (f a).length = sz) {l : List α} {m : Nat} {a : α} (h : l[m]? = some a) {off : Nat} (ho : off = m * sz) {ps : List VP} (hp : f a = ps) : ∀ j x, ps[j]? = some x → ((l.flatMap f).map HA.of)[off + j]? = some (HA.of x) := fun j x hx => by
  subst ho hp
  rw [List.getElem?_map, flat_get hl h j x hx]; rfl
theorem hq_flatV {f : α → List VP} {sz : Nat} (hl : ∀ a, (f a).length = sz) {l : List α} {m : Nat} {a : α} (h : l[m]? = some a) {off : Nat} (ho : off = m * sz) {ps : List VP} (hp : f a = ps) : ∀ j x, ps[j]? = some x → (l.flatMap f)[off + j]? = some x := fun j x hx => by
  subst ho hp
  exact flat_get hl h j x hx
/-- one cell of a thing in a row -/
theorem hq_flat1 {f : α → List VP} {sz : Nat} (hl : ∀ a, (f a).length = sz) {l : List α} {m : Nat} {a : α} (h : l[m]? = some a) (c : Nat) {off : Nat} (ho : off = m * sz + c) {x : VP} (hp : (f a)[c]? = some x) : ∀ j y, [x][j]? = some y → ((l.flatMap f).map HA.of)[off + j]? = some (HA.of y) := fun j y hy => by
  subst ho
  cases j with
  | zero => simp at hy; subst hy; rw [Nat.add_zero, List.getElem?_map, flat_get hl h c x hp]; rfl
  | succ j => simp at hy
theorem hq_flatV1 {f : α → List VP} {sz : Nat} (hl : ∀ a, (f a).length = sz) {l : List α} {m : Nat} {a : α} (h : l[m]? = some a) (c : Nat) {off : Nat} (ho : off = m * sz + c) {x : VP} (hp : (f a)[c]? = some x) : ∀ j y, [x][j]? = some y → (l.flatMap f)[off + j]? = some y := fun j y hy => by
  subst ho
  cases j with
  | zero => simp at hy; subst hy; rw [Nat.add_zero]; exact flat_get hl h c x hp
  | succ j => simp at hy
theorem flat_dropV {f : α → List β} {sz : Nat} (hl : ∀ a, (f a).length = sz) (l : List α) (h : Nat) : ∀ (j : Nat) (x : β), ((l.drop h).flatMap f)[j]? = some x → (l.flatMap f)[h * sz + j]? = some x := fun j x hx => by
  have : l.flatMap f = (l.take h).flatMap f ++ (l.drop h).flatMap f := by rw [← List.flatMap_append, List.take_append_drop]
  by_cases hh : h ≤ l.length
  · rw [this, List.getElem?_append_right (by rw [flat_len hl, List.length_take]; rw [Nat.min_eq_left hh]; omega), flat_len hl, List.length_take, Nat.min_eq_left hh, Nat.add_sub_cancel_left]; exact hx
  · rw [List.drop_eq_nil_of_le (by omega)] at hx; simp at hx
theorem flat_nil_iff {f : α → List β} {sz : Nat} (hl : ∀ a, (f a).length = sz) (hs : 0 < sz) (l : List α) : l.length = 0 ∨ 0 < (l.flatMap f).length := by
  rw [flat_len hl]
  rcases Nat.eq_zero_or_pos l.length with h | h
  · exact .inl h
  · exact .inr (Nat.mul_pos h hs)
theorem flat_all {f : α → List VP} {g : VP → Bool} (h : ∀ a, (f a).all g = true) (l : List α) : (l.flatMap f).all g = true := by
  rw [List.all_flatMap]
  exact List.all_eq_true.2 fun a _ => h a
theorem flat_allH {f : α → List VP} {g : VP → Bool} {g' : HA → Bool} (e : ∀ x, g' (HA.of x) = g x) (h : ∀ a, (f a).all g = true) (l : List α) : ((l.flatMap f).map HA.of).all g' = true := by
  rw [List.all_map]
  refine List.all_eq_true.2 fun x hx => ?_
  show g' (HA.of x) = true
  rw [e]
  exact List.all_eq_true.1 (flat_all h l) x hx
theorem flat_lenH {f : α → List VP} {sz : Nat} (hl : ∀ a, (f a).length = sz) (l : List α) : ((l.flatMap f).map HA.of).length = l.length * sz := by rw [List.length_map, flat_len hl]
end
def cStr (s : ByteArray) : List VP := [VP.str s]
def cInt (n : Int) : List VP := [VP.int .i64 n]
theorem cStr_len (s : ByteArray) : (cStr s).length = 1 := rfl
theorem cInt_len (n : Int) : (cInt n).length = 1 := rfl
theorem cStr_one (s : ByteArray) : (cStr s).all (·.one) = true := rfl
theorem cInt_one (n : Int) : (cInt n).all (·.one) = true := rfl
theorem cStr_nu (s : ByteArray) : (cStr s).all (·.nu) = true := rfl
theorem cInt_nu (n : Int) : (cInt n).all (·.nu) = true := rfl
theorem z1_of {x : VP} {z : Value} (h : ∀ Z w, x.p Z z w) (hz : z.cells = #[z]) (n : Nat) : ∀ Z w, All2 Z (List.replicate n x) (zerosOf z (n * 1)) w := fun Z w => by
  unfold zerosOf
  rw [Nat.mul_one, hz, toList_madeCells_one]
  induction n with
  | zero => trivial
  | succ n ih => exact ⟨h Z w, ih⟩
/-- maps of values that have no blocks -/
def mEnt {κ β : Type} (g : β → VP) (l : List (κ × β)) : List (κ × HA) := l.map fun p => (p.1, HA.of (g p.2))
theorem mfind_ent {κ β : Type} (K : MKey κ) (g : β → VP) (k : κ) (l : List (κ × β)) : mfind K k (mEnt g l) = (mfind K k l).map fun b => HA.of (g b) := by
  induction l with
  | nil => rfl
  | cons e l ih =>
    unfold mEnt at ih ⊢
    rw [List.map_cons]
    unfold mfind
    cases K.eqv k e.1 with
    | true => rfl
    | false => simpa using ih
theorem mput_ent {κ β : Type} (K : MKey κ) (g : β → VP) (k : κ) (b : β) (l : List (κ × β)) : mEnt g (mput K k b l) = mput K k (HA.of (g b)) (mEnt g l) := by
  induction l with
  | nil => rfl
  | cons e l ih =>
    unfold mEnt at ih ⊢
    rw [List.map_cons]
    unfold mput
    cases h : K.eqv k e.1 with
    | true => simp
    | false => simpa using ih
theorem mdel_ent {κ β : Type} (K : MKey κ) (g : β → VP) (k : κ) (l : List (κ × β)) : mEnt g (mdel K k l) = mdel K k (mEnt g l) := by
  induction l with
  | nil => rfl
  | cons e l ih =>
    unfold mEnt at ih ⊢
    rw [List.map_cons]
    unfold mdel
    cases h : K.eqv k e.1 with
    | true => simp
    | false => simpa using ih
theorem mlk_some {κ β : Type} {K : MKey κ} {g : β → VP} {k : κ} {l : List (κ × β)} (z : β) {x : VP} (hx : x = g ((mfind K k l).getD z)) : ∀ R, mfind K k (mEnt g l) = some R → R = HA.of x := fun R h => by
  subst hx
  rw [mfind_ent] at h
  cases hm : mfind K k l with
  | none => rw [hm] at h; cases h
  | some b => rw [hm] at h; injection h with h; exact h.symm
theorem mlk_none {κ β : Type} {K : MKey κ} {g : β → VP} {k : κ} {l : List (κ × β)} (z : β) {x : VP} {zv : Value} (hx : x = g ((mfind K k l).getD z)) (h0 : ∀ Z w, (g z).p Z zv w) : mfind K k (mEnt g l) = none → ∀ Z w, x.p Z zv w := fun h => by
  subst hx
  rw [mfind_ent] at h
  cases hm : mfind K k l with
  | none => exact h0
  | some b => rw [hm] at h; cases h
theorem mlk_is {κ β : Type} {K : MKey κ} {g : β → VP} {k : κ} {l : List (κ × β)} : (mfind K k (mEnt g l)).isSome = (mfind K k l).isSome := by
  rw [mfind_ent]; cases mfind K k l <;> rfl
theorem mEnt_len {κ β : Type} (g : β → VP) (l : List (κ × β)) : (mEnt g l).length = l.length := by simp [mEnt]
theorem zv_of {P : Program} {E : TypeId} {z : Value} (h : (P.info? E).bind (·.zero) = some z) : ∀ w, (zeroValue E).run P w = .ok z w := fun w => by
  obtain ⟨i, h1, h2⟩ := Option.bind_eq_some_iff.1 h
  simp [zeroValue, typeInfo, h1, h2]
def VP.nilM : VP := .free (fun v => v = .map none) true (fun _ v h n e => (by rw [h] at e; cases e)) true (fun _ v h => (by rw [h]; rfl))
section
variable {F : Fr} {rest : List Fact} {K : Act → World → Prop}
theorem b_name {k : Nat} {R : HA} (h : ∀ v, Sat F (.bor (.val v) R :: .slot k (VP.eq v R.nu R.one) :: rest) K) : Sat F (.bor (.tmp k) R :: rest) K :=
  t_bor (α := Value) (fun v => [.bor (.val v) R, .slot k (VP.eq v R.nu R.one)]) (fun _ => rfl) (fun γ a w v S h1 h2 h3 => ⟨v, fun f hf => by
    simp only [List.mem_cons, List.not_mem_nil, or_false] at hf
    rcases hf with rfl | rfl
    · exact ⟨v, S, rfl, h2, h3⟩
    · exact ⟨v, h1, rfl, fun hn => R.hnu hn _ _ _ _ h3, fun hn => R.hone hn _ _ _ _ h3⟩⟩) h
end
/-- length of a row is known to be small -/
theorem row_len {E : TypeId} {sz n : Nat} {Rs : List HA} : ∀ Z v w S, (HA.row E sz n Rs).p Z v w S → n ≤ maxLen := fun Z v w S ⟨_, h⟩ => by
  rcases h with ⟨_, h, _⟩ | ⟨_, _, _, _, _, _, h1, h2, _⟩
  · rw [h]; exact Nat.zero_le _
  · omega
end O
end Go.Proofs.Ytogodjiemgilaaa

/- The logic over objects: what is written into rows. -/
namespace Go.Proofs.Ytogodjiemgilaaa
open Go.RowKit
namespace O
theorem take_splice {α : Type} (l us : List α) (off m : Nat) (h : off + us.length ≤ m) (hm : m ≤ l.length) : (l.take off ++ us ++ l.drop (off + us.length)).take m = (l.take m).take off ++ us ++ (l.take m).drop (off + us.length) := by
  have h1 : (l.take off).length = off := by rw [List.length_take]; omega
  rw [List.append_assoc, List.take_append, h1, List.take_take, List.take_take, Nat.min_eq_left (by omega : off ≤ m), Nat.min_eq_right (by omega : off ≤ m), List.take_append, List.append_assoc, List.take_of_length_le (by omega : us.length ≤ m - off), List.drop_take]
  congr 3
  omega
theorem row_splice {Z : Foot} {w : World} {E : TypeId} {sz n : Nat} {Rs Qs : List HA} {v : Value} {S T : Foot} (h : (HA.row E sz n Rs).p Z v w S) {g b n' c' : Nat} (hv : v = .slice (some ⟨g, b, none⟩) n' c') (off : Nat) {us : List Value} (hq : AllS Z Qs us w T) (hl : off + Qs.length ≤ Rs.length) (hnu : Qs.all (·.nu) = true) (hd : ∀ b, S b → ¬ T b)
    (hZ : ∀ b, Z b → b < w.heap.size ∧ ¬ S b) (hS : ∀ b, S b ∨ T b → b < w.heap.size) :
    ∃ cur : Array Value, w.heap[g]? = some (.cells cur E (0, 0)) ∧ b = 0 ∧ off + us.length ≤ cur.size ∧ ∃ S' : Foot, (HA.row E sz n (Rs.take off ++ Qs ++ Rs.drop (off + Qs.length))).p Z v (w.setRow g (cur.toList.take off ++ us ++ cur.toList.drop (off + us.length)).toArray) S' ∧
      (∀ b, S' b → S b ∨ T b) ∧ Turn S w (w.setRow g (cur.toList.take off ++ us ++ cur.toList.drop (off + us.length)).toArray) := by
  obtain ⟨h0, ⟨h1, _⟩ | ⟨g', cap, cur, S1, h1, h2, h3, h4, h5, h6, h7, h8, h9⟩⟩ := h
  · rw [h1] at hv; cases hv
  rw [h1] at hv
  injection hv with hv _ _
  injection hv with hv
  injection hv with e1 e2
  subst e1 e2
  have hul := hq.len
  have hle : n * sz ≤ cur.size := by rw [h5]; exact Nat.mul_le_mul_right _ h3
  have hrow : Row w g' E cur.toList := by unfold Row; simpa using h2
  have hSg : S g' := (h7 g').2 (.inl rfl)
  have t := setRow_turn (E := fun b => b = g') hrow h9 (cur.toList.take off ++ us ++ cur.toList.drop (off + us.length)) rfl
  obtain ⟨S2, m1, m2⟩ := h6.splice off Qs.length hl hq fun b hb => hd b ((h7 b).2 (.inr hb))
  have nog : ∀ b, S2 b ∨ T b → b ≠ g' := fun b hb e => by
    subst e
    rcases hb with hb | hb
    · exact h8 (m1 _ hb)
    · exact hd _ hSg hb
  have hdl : (cur.toList.take off ++ us ++ cur.toList.drop (off + us.length)).length = cur.size := by
    simp only [List.length_append, List.length_take, List.length_drop, Array.length_toList]; omega
  refine ⟨cur, h2, rfl, by omega, fun b => b = g' ∨ (S2 b ∨ T b), ⟨?_, .inr ⟨g', cap, _, fun b => S2 b ∨ T b, h1, setRow_heap w g' cur _ E _ h2, h3, h4, by rw [List.size_toArray, hdl, h5], ?_, fun b => Iff.rfl, fun hb => nog _ hb rfl, fun u hu => ?_⟩⟩, fun b hb => ?_, t.mono fun b _ e => by rw [e]; exact hSg⟩
  · simp only [List.length_append, List.length_take, List.length_drop]; omega
  · show AllS Z _ ((cur.toList.take off ++ us ++ cur.toList.drop (off + us.length)).take (n * sz)) _ _
    rw [take_splice _ _ _ _ (by omega) (by simpa using hle)]
    rw [show (cur.toList.take (n * sz)).drop (off + us.length) = (cur.toList.take (n * sz)).drop (off + Qs.length) by rw [hul]]
    refine m2.st (fun _ h => h) (fun b hb => t.block b (hZ b hb).1 fun e => (hZ b hb).2 (e ▸ hSg)) t.toCalm fun b hb => t.block b (hS b ?_) (nog b hb)
    rcases hb with hb | hb
    · exact .inl ((h7 b).2 (.inr (m1 b hb)))
    · exact .inr hb
  · have hu : u ∈ cur.toList.take off ++ us ++ cur.toList.drop (off + us.length) := by simpa using hu
    rw [List.mem_append, List.mem_append] at hu
    rcases hu with (hu | hu) | hu
    · exact h9 u (List.mem_of_mem_take hu)
    · exact hq.nus hnu u hu
    · exact h9 u (List.mem_of_mem_drop hu)
  · rcases hb with rfl | hb | hb
    · exact .inl hSg
    · exact .inl ((h7 b).2 (.inr (m1 b hb)))
    · exact .inr hb
section
variable {X : Cx} {i : Nat} {pre suc : List Nat}
theorem does_storeRow {o : Oper} {id off : Nat} {v : Value} {T E : TypeId} {sz n n' : Nat} {Rs Qs Rs' : List HA} {ido : Option Nat} (y z : Operand) (hsz : ∀ w, (sizeOf T).run X.P w = .ok Qs.length w) (hop : o.op = .store T y z) (hd : o.dst = none) (hc : chkM X i pre suc none (id :: ido.toList) = true)
    (hr : resOf X i = [.own id (.val v) (HA.row E sz n' Rs')]) (hN : n = n') (hrs : Rs' = Rs.take off ++ Qs ++ Rs.drop (off + Qs.length)) (hl : off + Qs.length ≤ Rs.length) (hq : (Qs.all (·.one) && Qs.all (·.nu) && !(ido == some id)) = true) (hp : Pt X i pre suc y (.row (.val v) off))
    (h : Av X i pre suc (.own id (.val v) (HA.row E sz n Rs))) (hz : Cv X i pre suc z Qs ido) : Does X i pre suc o := by
  subst hN
  subst hrs
  intro c γ a w s Q K hK
  obtain ⟨g, o', ⟨b0, n', c', h1, h1'⟩, h2⟩ := hp c γ a w s
  have hHas := h c γ a w s
  obtain ⟨v0, h3, h4⟩ := h.h s
  have h3 : v0 = v := h3
  subst h3
  have h1 : Value.slice (some ⟨g, b0, none⟩) n' c' = v0 := h1
  simp only [Bool.and_eq_true] at hq
  obtain ⟨⟨l2, l3⟩, l4⟩ := hq
  obtain ⟨S, k1, k2⟩ := hz c γ a w s
  have hdis : ∀ b, γ.σ id b → ¬ S b := fun b hb hb' => by
    obtain ⟨k, hk, e1, r', R', e2⟩ := k2 b hb'
    refine s.g.sep id _ _ k r' R' hHas e2 (fun e => ?_) b hb e1
    have hk : ido = some k := by simpa using hk
    rw [hk, ← e] at l4; simp at l4
  have hE : ∀ b, (γ.σ id b ∨ S b) → ∃ k ∈ id :: ido.toList, γ.σ k b ∧ ∃ r R, Has X c (.own k r R) := fun b hb => by
    rcases hb with hb | hb
    · exact ⟨id, List.mem_cons_self .., hb, _, _, hHas⟩
    · obtain ⟨k, hk, e⟩ := k2 b hb
      exact ⟨k, List.mem_cons_of_mem _ (by simpa [Option.mem_toList] using hk), e⟩
  have hEb : ∀ b, (γ.σ id b ∨ S b) → b < w.heap.size ∧ ¬ γ.Z b := fun b hb => by
    obtain ⟨k, _, e1, r', R', e2⟩ := hE b hb
    have := s.g.bnd k r' R' e2 b e1
    exact ⟨this.1, this.2.2⟩
  obtain ⟨cur, g1, g2, g3, S', g4, g5, g6⟩ := row_splice h4 h1.symm off k1 hl l3 hdis (fun b hb => ⟨(s.g.zof b hb).1, fun h => (hEb b (.inl h)).2 hb⟩) (fun b hb => (hEb b hb).1)
  subst g2
  have hvn := k1.len
  have hrow : Row w g E cur.toList := by unfold Row; simpa using g1
  have hrun := run_storeCell (P := X.P) (T := T) (off := off) Qs.length hrow (hsz w) (by simpa using hvn) (by simp only [Array.length_toList]; omega) (k1.ones l2)
  unfold Oper.wp execOp
  rw [hop]
  rw [Nat.zero_add] at h1'
  subst h1'
  rw [hvn] at g4 g6
  simp only [h2, Instr.storeAt, Instr.sureAddr, Sem.run_bind, Sem.run_pure, Result.andThen_ok, hrun]
  show K (a.put o.dst undef) _
  rw [hd]
  show K a _
  refine hK _ _ _ (step_own s hc hr (fun b => γ.σ id b ∨ S b) S' hE s.g.sz s.g.df (g6.mono fun b _ e => .inl e) (fun f _ w h => h) rfl g4 fun b hb => ⟨.inl (g5 b hb), ?_⟩)
  rw [setRow_size]; exact (hEb b (g5 b hb)).1
theorem does_copy {o : Oper} {d id off nd ns m : Nat} {v : Value} {T E t2 : TypeId} {sz n n' : Nat} {Rs Qs Rs' : List HA} (ri : List Nat) (y z : Operand) (hu : X.P.underlying T = some (.slice E)) (hsz : ∀ w, (sizeOf E).run X.P w = .ok sz w) (hop : o.op = .call { callee := .builtin .copy, args := #[y, z], argTypes := #[T, t2] }) (hd : o.dst = some d) (hlt : decide (d < X.N) = true) (hc : chkM X i pre suc (some d) [id] = true)
    (hr : ri.map (fun q => [Fact.slot d (VP.int .i64 (m : Nat)), .own id (.val v) (HA.row E sz n' Rs')][q]?) = (resOf X i).map some) (hN : n = n') (hm : m = min ns nd) (hrs : Rs' = Rs.take off ++ Qs.take (m * sz) ++ Rs.drop (off + m * sz)) (hl : off + m * sz ≤ Rs.length) (hql : Qs.length = ns * sz) (hq1 : Qs.all (·.one) = true) (hq2 : Qs.all (·.nu) = true)
    (hs : Sl X i pre suc y (.val v) off nd) (h : Av X i pre suc (.own id (.val v) (HA.row E sz n Rs))) (hz : Src X i pre suc z ns Qs none) : Does X i pre suc o := by
  subst hN
  subst hrs
  intro c γ a w s Q K hK
  have hlt' := of_decide_eq_true hlt
  have hHas := h c γ a w s
  obtain ⟨v0, h3, h4⟩ := h.h s
  have h3 : v0 = v := h3
  subst h3
  obtain ⟨A, cp, e1, _, e2⟩ := hs c γ a w s
  obtain ⟨A2, cp2, cs, S2, k1, k2, k3, k4, k5⟩ := hz c γ a w s
  have hno : ∀ b, ¬ S2 b := fun b hb => by obtain ⟨k, hk, _⟩ := k5 b hb; cases hk
  have hb := s.g.bnd id _ _ hHas
  have hcl := k4.len
  have hres : ∀ f ∈ resOf X i, f = Fact.slot d (VP.int .i64 (m : Nat)) ∨ f = .own id (.val v0) (HA.row E sz n (Rs.take off ++ Qs.take (m * sz) ++ Rs.drop (off + m * sz))) := fun f hf => by
    have : some f ∈ ri.map (fun q => [Fact.slot d (VP.int .i64 (m : Nat)), .own id (.val v0) (HA.row E sz n (Rs.take off ++ Qs.take (m * sz) ++ Rs.drop (off + m * sz)))][q]?) := by rw [hr]; exact List.mem_map.2 ⟨f, hf, rfl⟩
    obtain ⟨q, _, hq⟩ := List.mem_map.1 this
    have := List.mem_of_getElem? hq
    simpa using this
  have hmin : Nat.min ns nd = m := hm.symm
  have hms : m * sz ≤ ns * sz := Nat.mul_le_mul_right _ (by omega)
  -- what is loaded
  have hload : (Builtin.firstCells sz m (.slice A2 ns cp2)).run X.P w = .ok (cs.take (m * sz)).toArray w := by
    rcases A2 with _ | ad
    · have h0 := k2 rfl
      have : cs.take (m * sz) = [] := by rw [show m = 0 by omega]; simp
      rw [this]
      exact run_firstCells_none w sz m ns cp2
    · refine run_firstCells_some w sz m ad ns cp2 _ (by rw [List.length_take, hcl, hql]; omega) fun j u hu => ?_
      rw [List.getElem?_take] at hu
      split at hu
      · rcases k3 with rfl | ⟨g, o, e, hc⟩
        · simp at hu
        · injection e with e; subst e; rw [add_plain]; exact hc j u hu
      · cases hu
  have fin : ∀ (w' : World) (S' : Foot), (HA.row E sz n (Rs.take off ++ Qs.take (m * sz) ++ Rs.drop (off + m * sz))).p γ.Z v0 w' S' → (∀ b, S' b → γ.σ id b) → Turn (γ.σ id) w w' → K (a.put (some d) (.int .i64 (m : Nat))) w' := fun w' S' hp hsub t =>
    hK _ _ _ (step_ownV s hc (γ.σ id) S' (fun f hf => by
      rcases hres f hf with rfl | rfl
      · exact .inr ⟨rfl, _, put_eq _ (by rw [s.g.sz]; exact hlt'), rfl⟩
      · exact .inl rfl) (fun b hb => ⟨id, List.mem_cons_self .., hb, _, _, hHas⟩) (by rw [put_size]; exact s.g.sz) (by rw [put_defers']; exact s.g.df) t (ha_put d a _ _ γ) (r := .val v0) rfl hp fun b hb' => ⟨.inl (hsub b hb'), Nat.lt_of_lt_of_le (hb b (hsub b hb')).1 t.size⟩)
  unfold Oper.wp execOp
  simp only [hop, resolve, invoke, builtin, Sem.run_bind, Sem.run_pure, Result.andThen_ok, List.map_toArray, List.map_cons, List.map_nil, e1, k1]
  by_cases h0 : m * sz = 0
  · have hrun : (Builtin.copy_ #[T, t2] o.type #[.slice A nd cp, .slice A2 ns cp2]).run X.P w = .ok (.int .i64 (m : Nat)) w := by
      rw [h0] at hload
      simp only [List.take_zero] at hload
      unfold Builtin.copy_
      cases A <;> simp [run_underlying hu, Builtin.lenOf, hmin, hsz w, hload, storeCells, goInt]
    rw [hrun]
    show K (a.put o.dst _) w
    rw [hd]
    refine fin w (γ.σ id) ?_ (fun _ h => h) (.refl _ _)
    rw [h0]; simpa using h4
  · have hm0 : 0 < m := Nat.pos_of_ne_zero fun e => h0 (by rw [e, Nat.zero_mul])
    obtain ⟨g, b, n0, c0, e3, rfl⟩ := e2 (by omega)
    have e3 : Value.slice (some ⟨g, b, none⟩) n0 c0 = v0 := e3
    have htk : (Qs.take (m * sz)).length = m * sz := by rw [List.length_take, hql]; omega
    have hcs : (cs.take (m * sz)).length = m * sz := by rw [List.length_take, hcl, hql]; omega
    have k4' : AllS γ.Z (Qs.take (m * sz)) (cs.take (m * sz)) w (fun _ => False) := by
      have e : Qs = Qs.take (m * sz) ++ Qs.drop (m * sz) := (List.take_append_drop _ _).symm
      rw [e] at k4
      obtain ⟨T1, T2, g1, _, g3, _⟩ := AllS.unapp k4
      rw [htk] at g3
      exact g3.subS fun b => ⟨fun h => (hno b ((g1 b).2 (.inl h))).elim, fun h => h.elim⟩
    have hq2' : (Qs.take (m * sz)).all (·.nu) = true := List.all_eq_true.2 fun x hx => List.all_eq_true.1 hq2 x (List.mem_of_mem_take hx)
    have hq1' : (Qs.take (m * sz)).all (·.one) = true := List.all_eq_true.2 fun x hx => List.all_eq_true.1 hq1 x (List.mem_of_mem_take hx)
    obtain ⟨cur, g1, g2, g3, S', g4, g5, g6⟩ := row_splice h4 e3.symm off k4' (by rw [htk]; exact hl) hq2' (fun _ _ h => h) (fun b hb' => ⟨(s.g.zof b hb').1, fun h => (hb b h).2.2 hb'⟩) (fun b hb' => hb'.elim (fun h => (hb b h).1) fun h => h.elim)
    subst g2
    rw [hcs] at g3 g4 g6
    rw [htk] at g4
    have hst := run_storeCells_at X.P g off E (cs.take (m * sz)) 0 cur w g1 (by rw [hcs]; simpa using g3) (k4'.ones hq1')
    simp only [Nat.add_zero] at hst
    have hrun : (Builtin.copy_ #[T, t2] o.type #[.slice (some ⟨g, 0 + off, none⟩) nd cp, .slice A2 ns cp2]).run X.P w = .ok (.int .i64 (m : Nat)) (w.setRow g (cur.toList.take off ++ cs.take (m * sz) ++ cur.toList.drop (off + m * sz)).toArray) := by
      unfold Builtin.copy_
      rw [hcs] at hst
      simp [run_underlying hu, Builtin.lenOf, hmin, hsz w, hload, goInt, hst]
    rw [hrun]
    show K (a.put o.dst _) _
    rw [hd]
    exact fin _ S' g4 (fun b hb => (g5 b hb).elim (fun h => h) fun h => h.elim) g6
/-- elements of a part of a row -/
theorem src_sub {k id b off m : Nat} {v : Value} {E : TypeId} {sz n : Nat} {Rs : List HA} {qs : List VP} (h : Av X i pre suc (.sub k (.val v) off m)) (hr : Av X i pre suc (.own id (.val v) (HA.row E sz n Rs))) (hq : ∀ j x, qs[j]? = some x → Rs[off + j]? = some (HA.of x)) (hl : m = 0 → qs = []) (_hb : b = 0) : Src X i pre suc (.tmp k) m (qs.map HA.of) none := fun c γ a w s => by
  obtain ⟨A, cp, e1, _, e2⟩ := h.h s
  obtain ⟨v0, h3, h4⟩ := hr.h s
  have h3 : v0 = v := h3
  subst h3
  rcases Nat.eq_zero_or_pos m with h0 | h0
  · obtain rfl := hl h0
    exact ⟨A, cp, [], fun _ => False, eval_tmp e1, fun _ => h0, .inl rfl, fun _ h => h, fun _ h => h.elim⟩
  · obtain ⟨g, b1, n0, c0, e3, rfl⟩ := e2 h0
    have e3 : Value.slice (some ⟨g, b1, none⟩) n0 c0 = v0 := e3
    obtain ⟨cs, h6, h7⟩ := cells_all2' (row_cells h4 e3.symm hq)
    exact ⟨_, cp, cs, fun _ => False, eval_tmp e1, fun h => (by cases h), .inr ⟨g, b1 + off, rfl, h7⟩, AllS.of_all2 (fun _ h => h) h6, fun _ h => h.elim⟩
end
end O
end Go.Proofs.Ytogodjiemgilaaa

/- The logic over objects: what operations on two integers give. -/
namespace Go.Proofs.Ytogodjiemgilaaa
open Go.RowKit
namespace O
section
variable {P : Program} {T : TypeId} {k k' : IntKind} {m n r : Int}
theorem br_add (h : k.wrap (m + n) = r) : ∀ w, (binOp .add T (.int k m) (.int k n)).run P w = .ok (.int k r) w := fun w => by simp [binOp, Op.intArith, h]
theorem br_sub (h : k.wrap (m - n) = r) : ∀ w, (binOp .sub T (.int k m) (.int k n)).run P w = .ok (.int k r) w := fun w => by simp [binOp, Op.intArith, h]
theorem br_mul (h : k.wrap (m * n) = r) : ∀ w, (binOp .mul T (.int k m) (.int k n)).run P w = .ok (.int k r) w := fun w => by simp [binOp, Op.intArith, h]
theorem br_rem (hn : n ≠ 0) (h : m.tmod n = r) : ∀ w, (binOp .rem T (.int k m) (.int k n)).run P w = .ok (.int k r) w := fun w => by simp [binOp, Op.intDiv, h, hn]
theorem br_quo (hn : n ≠ 0) (h : k.wrap (m.tdiv n) = r) : ∀ w, (binOp .quo T (.int k m) (.int k n)).run P w = .ok (.int k r) w := fun w => by simp [binOp, Op.intDiv, h, hn]
theorem br_shr {c : Nat} (hc : c ≤ 64) (hk : k.bits = 64) (h : m.fdiv (2 ^ c) = r) : ∀ w, (binOp .shr T (.int k m) (.int k' (c : Int))).run P w = .ok (.int k r) w := fun w => by
  have : min c 64 = c := Nat.min_eq_left hc
  have h0 : ¬ ((c : Int) < 0) := by omega
  unfold binOp Op.shift
  simp [h0, hk, this, h]
/-- a mask of j ones -/
theorem br_and {j : Nat} (hj : j ≤ 32) (hk : k = .i64 ∨ k = .u64) (hn : n = 2 ^ j - 1) (h : m % 2 ^ j = r) : ∀ w, (binOp .and T (.int k m) (.int k n)).run P w = .ok (.int k r) w := fun w => by
  subst hn h
  have hp : (2 : Int) ^ j ≤ 2 ^ 32 := by
    have : (2 : Nat) ^ j ≤ 2 ^ 32 := Nat.pow_le_pow_right (by decide) hj
    exact_mod_cast this
  have h1 : (1 : Int) ≤ 2 ^ j := by
    have : 1 ≤ (2 : Nat) ^ j := Nat.one_le_two_pow
    exact_mod_cast this
  have h1n : 1 ≤ (2 : Nat) ^ j := Nat.one_le_two_pow
  have hpn : (2 : Nat) ^ j ≤ 2 ^ 32 := Nat.pow_le_pow_right (by decide) hj
  have e2 : ((2 : Int) ^ j - 1) = (((2 ^ j - 1 : Nat)) : Int) := by
    rw [Int.natCast_sub h1n]; simp
  have hb : ∀ B : Nat, B = 64 → (BitVec.ofInt B m &&& BitVec.ofInt B ((2 : Int) ^ j - 1)).toNat = (m % 2 ^ j).toNat := fun B hB => by
    subst hB
    rw [e2, BitVec.ofInt_natCast, BitVec.toNat_and, BitVec.toNat_ofInt, BitVec.toNat_ofNat, Nat.mod_eq_of_lt (by omega : 2 ^ j - 1 < 2 ^ 64), Nat.and_two_pow_sub_one_eq_mod]
    have hd : ((2 : Int) ^ j) ∣ 2 ^ 64 := by
      refine ⟨2 ^ (64 - j), ?_⟩
      rw [← Int.pow_add]; congr 1; omega
    have hm : ((2 ^ 64 : Nat) : Int) = (2 : Int) ^ 64 := by simp
    rw [hm]
    have : ((((m % 2 ^ 64).toNat % 2 ^ j : Nat)) : Int) = (m % 2 ^ j) := by
      rw [Int.natCast_emod, Int.toNat_of_nonneg (Int.emod_nonneg _ (by decide))]
      have : (((2 ^ j : Nat)) : Int) = (2 : Int) ^ j := by simp
      rw [this, Int.emod_emod_of_dvd _ hd]
    omega
  have hlt := Int.emod_lt_of_pos m (show (0 : Int) < 2 ^ j by omega)
  have hge := Int.emod_nonneg m (show (2 : Int) ^ j ≠ 0 by omega)
  have hc : (((m % 2 ^ j).toNat : Nat) : Int) = m % 2 ^ j := Int.toNat_of_nonneg hge
  rcases hk with rfl | rfl
  · have h3 := hb (IntKind.bits .i64) rfl
    simp only [binOp, Op.intBits, ne_eq, not_true_eq_false, if_false]
    rw [h3, hc, IntKind.wrap_i64]
    have : (m % 2 ^ j + 9223372036854775808) % 18446744073709551616 - 9223372036854775808 = m % 2 ^ j := by omega
    rw [this]; rfl
  · have h3 := hb (IntKind.bits .u64) rfl
    simp only [binOp, Op.intBits, ne_eq, not_true_eq_false, if_false]
    rw [h3, hc, IntKind.wrap_u64]
    have : m % 2 ^ j % 18446744073709551616 = m % 2 ^ j := by omega
    rw [this]; rfl
end
section
variable {α : Type}
theorem hq_part {f : α → List VP} {sz : Nat} (hl : ∀ a, (f a).length = sz) (l : List α) (lo c : Nat) {off : Nat} (ho : off = lo * sz) : ∀ j x, (((l.drop lo).take c).flatMap f)[j]? = some x → ((l.flatMap f).map HA.of)[off + j]? = some (HA.of x) := fun j x hx => by
  subst ho
  rw [← flat_take hl, List.getElem?_take] at hx
  split at hx
  · rw [List.getElem?_map, flat_dropV hl l lo j x hx]; rfl
  · cases hx
theorem mk_zeros {f : α → List VP} {x : VP} {z : Value} {a : α} (h : ∀ Z w, x.p Z z w) (hz : z.cells = #[z]) (hf : f a = [x]) (n : Nat) : ∀ Z w, All2 Z ((List.replicate n a).flatMap f) (zerosOf z (n * 1)) w := fun Z w => by
  have := z1_of h hz n Z w
  have e : (List.replicate n a).flatMap f = List.replicate n x := by
    induction n with
    | zero => rfl
    | succ n ih => rw [List.replicate_succ, List.flatMap_cons, ih (z1_of h hz n Z w), hf, List.replicate_succ]; rfl
  rw [e]; exact this
/-- elements of one cell: copied -/
theorem flat_copy {f : α → List VP} (hl : ∀ a, (f a).length = 1) {l q l' : List α} {off m : Nat} (h : l' = l.take off ++ q.take m ++ l.drop (off + m)) : (l'.flatMap f).map HA.of = ((l.flatMap f).map HA.of).take off ++ ((q.flatMap f).map HA.of).take (m * 1) ++ ((l.flatMap f).map HA.of).drop (off + m * 1) := by
  subst h
  have h1 := flat_take hl l off
  have h2 := flat_take hl q m
  have h3 : (l.flatMap f).drop (off + m) = (l.drop (off + m)).flatMap f := by
    have h3 := flat_take hl l (off + m)
    have : l.flatMap f = (l.take (off + m)).flatMap f ++ (l.drop (off + m)).flatMap f := by rw [← List.flatMap_append, List.take_append_drop]
    have h4 := List.take_append_drop (off + m) (l.flatMap f)
    rw [Nat.mul_one] at h3
    rw [h3] at h4
    exact List.append_cancel_left (h4.trans this)
  rw [Nat.mul_one] at h1 h2 ⊢
  rw [List.flatMap_append, List.flatMap_append, List.map_append, List.map_append, ← List.map_take, ← List.map_take, ← List.map_drop, h1, h2, h3]
theorem t_cond_c {F : Fr} {fs : List Fact} {Q : Exit → Act → World → Prop} {b : Bool} {x y : Code} (h : T F fs (if b then x else y) Q) : T F fs (.cond (.const (.bool b)) x y) Q := fun a w hf => wp_cond rfl (h a w hf)
end
end O
end Go.Proofs.Ytogodjiemgilaaa

/- The logic over objects, for this program. -/
namespace Go.Proofs.Ytogodjiemgilaaa
open Go.RowKit
namespace O
theorem follow : Try.prog.follows .mixedOrders = true := by kernel_rfl
theorem spec_res {P : Program} {f : FuncId} {qs : List Par} {B O O' : List (Value × HA)} {R R' : HA} (hw : ∀ (Z : Foot) (v : Value) (w : World) (S : Foot), R.p Z v w S → R'.p Z v w S) (h : SpecO P f qs B O O' R) : SpecO P f qs B O O' R' :=
  fun vs w Z Bf S h1 h2 h3 h4 h5 h6 h7 => (h vs w Z Bf S h1 h2 h3 h4 h5 h6 h7).mono fun _ _ ⟨v, Z', S', T, e, z1, z2, p1, p2, p3⟩ => ⟨v, Z', S', T, e, z1, z2, p1, hw _ _ _ _ p2, p3⟩
theorem spec_tup {P : Program} {f : FuncId} {qs : List Par} {B O O' : List (Value × HA)} {ps : List VP} (h : SpecO P f qs B O O' (HA.tup (ps.map HA.of))) : SpecO P f qs B O O' (HA.of (VP.tup ps)) :=
  spec_res (R := HA.tup (ps.map HA.of)) (R' := HA.of (VP.tup ps)) (fun _ _ _ _ ⟨cs, h1, h2⟩ => ⟨⟨cs, h1, h2.all2.1⟩, h2.all2.2⟩) h
theorem rv_nilE {F : Fr} {fs : List Fact} {α : Type} {E : TypeId} {sz : Nat} {f : α → List VP} {l : List α} (n : Nat) {t : Nat} (h : fs[n]? = some (.slot t VP.nilS)) (hl : l.length = 0) : Rv F fs (.tmp t) (HA.row E sz l.length ((l.flatMap f).map HA.of)) [] := by
  obtain rfl := List.eq_nil_of_length_eq_zero hl
  exact rv_nil n h
end O
end Go.Proofs.Ytogodjiemgilaaa
