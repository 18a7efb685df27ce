/- Part of the proof that a law returns true for all that comes in, and that what came in reads as it did. No condition. -/
import Derived.Deep.LoopGhost
import Derived.Test.YtogodjiemgilaaaMgO0
/- The logic over objects: places in memory, what is read there, boxes, what is written. -/
namespace Go.Proofs.Ytogodjiemgilaaa
open Go.RowKit
namespace O
theorem AllS.subS {Z : Foot} {ps : List HA} {vs : List Value} {w : World} {S S' : Foot} (h : AllS Z ps vs w S) (e : ∀ b, S b ↔ S' b) : AllS Z ps vs w S' := by
  have : S = S' := funext fun b => propext (e b)
  exact this ▸ h
/-- some are taken out, others laid in their place -/
theorem AllS.splice {Z : Foot} {ps qs : List HA} {vs us : List Value} {w : World} {S T : Foot} (h : AllS Z ps vs w S) (off n : Nat) (hl : off + n ≤ ps.length) (k : AllS Z qs us w T) (hd : ∀ b, S b → ¬ T b) :
    ∃ S' : Foot, (∀ b, S' b → S b) ∧ AllS Z (ps.take off ++ qs ++ ps.drop (off + n)) (vs.take off ++ us ++ vs.drop (off + n)) w (fun b => S' b ∨ T b) := by
  have hlen := h.len
  have e1 : ps = ps.take off ++ ((ps.drop off).take n ++ ps.drop (off + n)) := by
    rw [← List.drop_drop, List.take_append_drop, List.take_append_drop]
  rw [e1] at h
  obtain ⟨S1, S2, g1, g2, g3, g4⟩ := AllS.unapp h
  obtain ⟨S3, S4, g5, g6, _, g8⟩ := AllS.unapp g4
  rw [show (ps.take off).length = off from by rw [List.length_take]; omega] at g3 g8
  rw [show ((ps.drop off).take n).length = n from by rw [List.length_take, List.length_drop]; omega, List.drop_drop] at g8
  refine ⟨fun b => S1 b ∨ S4 b, fun b hb => ?_, ?_⟩
  · rcases hb with hb | hb
    · exact (g1 b).2 (.inl hb)
    · exact (g1 b).2 (.inr ((g5 b).2 (.inr hb)))
  · have h1 := AllS.app g3 k fun b hb => hd b ((g1 b).2 (.inl hb))
    have h2 := AllS.app h1 g8 fun b hb hb' => by
      rcases hb with hb | hb
      · exact g2 b hb ((g5 b).2 (.inr hb'))
      · exact hd b ((g1 b).2 (.inr ((g5 b).2 (.inr hb')))) hb
    refine h2.subS fun b => ?_
    constructor
    · rintro ((h | h) | h)
      · exact .inl (.inl h)
      · exact .inr h
      · exact .inl (.inr h)
    · rintro ((h | h) | h)
      · exact .inl (.inl h)
      · exact .inr h
      · exact .inl (.inr h)
section
variable {X : Cx} {i : Nat} {pre suc : List Nat}
/-! ### places -/
def Pt (X : Cx) (i : Nat) (pre suc : List Nat) (x : Operand) (l : Loc) : Prop := ∀ c γ a w, Sit X i pre suc c γ a w → ∃ g o, l.at a g o ∧ a.eval x = .pointer (some ⟨g, o, none⟩)
theorem pt_pt {d : Nat} {l : Loc} (h : Av X i pre suc (.pt d l)) : Pt X i pre suc (.tmp d) l := fun c γ a w s => by
  obtain ⟨g, o, h1, h2⟩ := h.h s
  exact ⟨g, o, h1, eval_tmp h2⟩
theorem pt_ptr {y : Operand} {v : Value} (h : Ar X i pre suc y (VP.ptr v).p) : Pt X i pre suc y (.blk (.val v) 0) := fun c γ a w s => by
  obtain ⟨h1, g, o, h2⟩ := h c γ a w s
  exact ⟨g, o, ⟨o, Eq.symm h2, rfl⟩, h1.trans h2⟩
theorem pt_box {k id : Nat} {T : TypeId} {Rs : List HA} (h : Av X i pre suc (.own id (.tmp k) (HA.cells T Rs))) : Pt X i pre suc (.tmp k) (.blk (.tmp k) 0) := fun c γ a w s => by
  obtain ⟨v, h1, g, cs, S', rfl, _⟩ := h.h s
  exact ⟨g, 0, ⟨0, h1, rfl⟩, eval_tmp h1⟩
theorem does_field {o : Oper} {d : Nat} {l : Loc} (T : TypeId) (y : Operand) (f fo : Nat) (hf : fieldAt X.P T f fo = true) (hop : o.op = .fieldAddr T y f) (hd : o.dst = some d) (hlt : decide (d < X.N) = true) (hk : l.ref.uses d = false) (hc : chk X i pre suc d = true)
    (hr : resOf X i = [.pt d (l.add fo)]) (h : Pt X i pre suc y l) : Does X i pre suc o :=
  does_val hd hlt hc hr rfl fun c γ a w s Q K hK => by
    obtain ⟨g, o', h1, h2⟩ := h c γ a w s
    unfold Oper.wp execOp
    rw [hop]
    simp only [h2, Sem.run_bind, run_fieldAt hf, Result.andThen_ok, Sem.run_pure]
    show K (a.put o.dst _) w
    rw [hd]
    refine hK _ w (Ext.refl w) ⟨g, o' + fo, Loc.add_at (Loc.at_put h1 hk), put_eq _ ?_⟩
    simp only [decide_eq_true_eq] at hlt; rw [s.g.sz]; exact hlt
theorem does_movePt {o : Oper} {d : Nat} {l : Loc} (y : Operand) (hop : o.op = .move y ∨ o.op = .assign y ∨ o.op = .nilCheck y) (hd : o.dst = some d) (hlt : decide (d < X.N) = true) (hk : l.ref.uses d = false) (hc : chk X i pre suc d = true)
    (hr : resOf X i = [.pt d l]) (h : Pt X i pre suc y l) : Does X i pre suc o :=
  does_val hd hlt hc hr rfl fun c γ a w s Q K hK => by
    obtain ⟨g, o', h1, h2⟩ := h c γ a w s
    have hrun : (execOp a.eval o).run X.P w = .ok (.value (a.eval y)) w := by
      unfold execOp
      rcases hop with e | e | e <;> rw [e] <;> simp [h2]
    unfold Oper.wp
    rw [hrun]
    show K (a.put o.dst _) w
    rw [hd]
    refine hK _ w (Ext.refl w) ⟨g, o', Loc.at_put h1 hk, by rw [h2]; exact put_eq _ (by simp only [decide_eq_true_eq] at hlt; rw [s.g.sz]; exact hlt)⟩
/-! ### what is read -/
def Rds (X : Cx) (i : Nat) (pre suc : List Nat) (l : Loc) (ps : List VP) : Prop := ∀ c γ a w, Sit X i pre suc c γ a w → ∀ g o, l.at a g o → Cells γ.Z w g o ps
theorem cells_of_alls {Z : Foot} {w : World} {g off : Nat} {T : TypeId} {cs : List Value} {Rs : List HA} {S : Foot} (hr : Row w g T cs) (h : AllS Z Rs cs w S) {ps : List VP} (hq : ∀ j x, ps[j]? = some x → Rs[off + j]? = some (HA.of x)) : Cells Z w g off ps := fun j x hx => by
  obtain ⟨u, h1, h2⟩ := h.vp (hq j x hx)
  exact ⟨u, hr.cell h1, h2⟩
theorem hq_one {Rs : List HA} {off : Nat} {x : VP} (h : Rs[off]? = some (HA.of x)) : ∀ j y, [x][j]? = some y → Rs[off + j]? = some (HA.of y) := fun j y hy => by
  cases j with
  | zero => simp at hy; subst hy; exact h
  | succ j => simp at hy
theorem hq_many {Rs : List HA} {off n : Nat} {ps : List VP} (h : (Rs.drop off).take n = ps.map HA.of) : ∀ j y, ps[j]? = some y → Rs[off + j]? = some (HA.of y) := fun j y hy => by
  have h1 : ((Rs.drop off).take n)[j]? = some (HA.of y) := by rw [h, List.getElem?_map, hy]; rfl
  rw [List.getElem?_take] at h1
  split at h1
  · rwa [List.getElem?_drop] at h1
  · cases h1
theorem rds_box {id off : Nat} {r : Ref} {T : TypeId} {Rs : List HA} {ps : List VP} (h : Av X i pre suc (.own id r (HA.cells T Rs))) (hq : ∀ j x, ps[j]? = some x → Rs[off + j]? = some (HA.of x)) : Rds X i pre suc (.blk r off) ps := fun c γ a w s g o ha => by
  obtain ⟨v, h1, g', cs, S', rfl, h2, h3, _⟩ := h.h s
  obtain ⟨b, h4, h5⟩ := ha
  have := Ref.den_fun h1 h4
  injection this with this; injection this with this; injection this with e1 e2
  subst e1 e2 h5
  rw [Nat.zero_add]
  exact cells_of_alls h2 h3 hq
theorem rds_bbox {off : Nat} {r : Ref} {T : TypeId} {Rs : List HA} {ps : List VP} (h : Av X i pre suc (.bor r (HA.cells T Rs))) (hq : ∀ j x, ps[j]? = some x → Rs[off + j]? = some (HA.of x)) : Rds X i pre suc (.blk r off) ps := fun c γ a w s g o ha => by
  obtain ⟨v, S, h1, _, g', cs, S', rfl, h2, h3, _⟩ := h.h s
  obtain ⟨b, h4, h5⟩ := ha
  have := Ref.den_fun h1 h4
  injection this with this; injection this with this; injection this with e1 e2
  subst e1 e2 h5
  rw [Nat.zero_add]
  exact cells_of_alls h2 h3 hq
theorem row_cells {Z : Foot} {w : World} {E : TypeId} {sz n : Nat} {Rs : List HA} {v : Value} {S : Foot} (h : (HA.row E sz n Rs).p Z v w S) {g b n' c' : Nat} (hv : v = .slice (some ⟨g, b, none⟩) n' c') {off : Nat} {ps : List VP} (hq : ∀ j x, ps[j]? = some x → Rs[off + j]? = some (HA.of x)) : Cells Z w g (b + off) ps := by
  obtain ⟨h0, ⟨h1, _⟩ | ⟨g', cap, cur, S', h1, h2, _, _, h5, h6, _⟩⟩ := h
  · rw [h1] at hv; cases hv
  · rw [h1] at hv
    injection hv with hv _ _
    injection hv with hv
    injection hv with e1 e2
    subst e1 e2
    intro j x hx
    obtain ⟨u, h7, h8⟩ := h6.vp (hq j x hx)
    refine ⟨u, ?_, h8⟩
    rw [List.getElem?_take] at h7
    split at h7
    · rw [cell_of_row w g' _ cur E (0, 0) h2, Nat.zero_add]
      simpa using h7
    · cases h7
theorem rds_row {id off : Nat} {r : Ref} {E : TypeId} {sz n : Nat} {Rs : List HA} {ps : List VP} (h : Av X i pre suc (.own id r (HA.row E sz n Rs))) (hq : ∀ j x, ps[j]? = some x → Rs[off + j]? = some (HA.of x)) : Rds X i pre suc (.row r off) ps := fun c γ a w s g o ha => by
  obtain ⟨v, h1, h2⟩ := h.h s
  obtain ⟨b, n', c', h4, rfl⟩ := ha
  exact row_cells h2 (Ref.den_fun h1 h4) hq
theorem rds_brow {off : Nat} {r : Ref} {E : TypeId} {sz n : Nat} {Rs : List HA} {ps : List VP} (h : Av X i pre suc (.bor r (HA.row E sz n Rs))) (hq : ∀ j x, ps[j]? = some x → Rs[off + j]? = some (HA.of x)) : Rds X i pre suc (.row r off) ps := fun c γ a w s g o ha => by
  obtain ⟨v, S, h1, _, h2⟩ := h.h s
  obtain ⟨b, n', c', h4, rfl⟩ := ha
  exact row_cells h2 (Ref.den_fun h1 h4) hq
theorem rds_ro {off n : Nat} {r : Ref} {qs ps : List VP} (h : Av X i pre suc (.is r (VP.ro n qs))) (hq : ∀ j x, ps[j]? = some x → qs[off + j]? = some x) : Rds X i pre suc (.row r off) ps := fun c γ a w s g o ha => by
  obtain ⟨v, h1, ad, cp, h2, _, _, h3⟩ := h.h s
  obtain ⟨b, n', c', h4, rfl⟩ := ha
  have := Ref.den_fun h1 h4
  rw [h2] at this
  injection this with e1 _ _
  subst e1
  intro j x hx
  rcases h3 with h3 | ⟨g', o', h5, _, h6⟩
  · have := hq j x hx
    rw [h3] at this; simp at this
  · injection h5 with h5
    injection h5 with e1 e2
    subst e1 e2
    rw [Nat.add_assoc]
    exact h6 _ _ (hq j x hx)
theorem cells_one {Z : Foot} {w : World} {g off : Nat} {x : VP} (h : Cells Z w g off [x]) : ∃ u, w.cell? ⟨g, off, none⟩ = some u ∧ x.p Z u w := h 0 x rfl
theorem cells_all2' {Z : Foot} {w : World} {g off : Nat} {ps : List VP} (h : Cells Z w g off ps) : ∃ cs : List Value, All2 Z ps cs w ∧ ∀ j u, cs[j]? = some u → w.cell? ⟨g, off + j, none⟩ = some u := by
  refine ⟨(List.range ps.length).map fun j => (w.cell? ⟨g, off + j, none⟩).getD undef, All2.of_get (by simp) fun i x v hx hv => ?_, fun j u hu => ?_⟩
  · obtain ⟨u, h1, h2⟩ := h i x hx
    rw [List.getElem?_map, Option.map_eq_some_iff] at hv
    obtain ⟨k, hk, rfl⟩ := hv
    have hk := List.getElem?_range (List.getElem?_eq_some_iff.1 hx).1 ▸ hk
    injection hk with hk
    subst hk
    rw [h1]; exact h2
  · rw [List.getElem?_map, Option.map_eq_some_iff] at hu
    obtain ⟨k, hk, rfl⟩ := hu
    have hj : j < ps.length := by simpa using (List.getElem?_eq_some_iff.1 hk).1
    rw [List.getElem?_range hj] at hk
    injection hk with hk
    subst hk
    obtain ⟨u, h1, _⟩ := h j _ (List.getElem?_eq_getElem hj)
    rw [h1]; rfl
theorem does_loadOne {o : Oper} {d : Nat} {l : Loc} {T : TypeId} {x : VP} (y : Operand) (ht : oneTy X.P T = true) (hop : o.op = .load T y) (hd : o.dst = some d) (hlt : decide (d < X.N) = true) (hc : chk X i pre suc d = true)
    (hr : resOf X i = [.slot d x]) (hp : Pt X i pre suc y l) (h : Rds X i pre suc l [x]) : Does X i pre suc o :=
  does_run hd hlt hc hr fun c γ a w s => by
    obtain ⟨g, o', h1, h2⟩ := hp c γ a w s
    obtain ⟨u, h3, h4⟩ := cells_one (h c γ a w s g o' h1)
    refine ⟨u, ?_, h4⟩
    unfold execOp; rw [hop]
    simp [h2, Instr.loadAt, Instr.sureAddr, loadVar, run_isOne ht, h3]
theorem does_loadAgg {o : Oper} {d : Nat} {l : Loc} {T : TypeId} {ps : List VP} (y : Operand) (ht : aggTy X.P T ps.length = true) (hop : o.op = .load T y) (hd : o.dst = some d) (hlt : decide (d < X.N) = true) (hc : chk X i pre suc d = true)
    (hr : resOf X i = [.slot d (VP.agg ps)]) (hp : Pt X i pre suc y l) (h : Rds X i pre suc l ps) : Does X i pre suc o :=
  does_run hd hlt hc hr fun c γ a w s => by
    obtain ⟨g, o', h1, h2⟩ := hp c γ a w s
    obtain ⟨cs, h3, h4⟩ := cells_all2' (h c γ a w s g o' h1)
    have hcl := h3.len
    have := run_loadCells_list (P := X.P) w ⟨g, o', none⟩ cs (fun j v hv => by rw [add_plain]; exact h4 j v hv)
    rw [hcl] at this
    refine ⟨.agg cs.toArray, ?_, cs, rfl, h3⟩
    unfold execOp; rw [hop]
    simp [h2, Instr.loadAt, Instr.sureAddr, loadVar, run_isAgg ht, run_sizeAgg ht, this]
/-! ### operands whose blocks move -/
/-- the operand is a value of these cells; what is theirs is of fact id's blocks -/
def Cv (X : Cx) (i : Nat) (pre suc : List Nat) (y : Operand) (Rs : List HA) (id : Option Nat) : Prop := ∀ c γ a w, Sit X i pre suc c γ a w → ∃ S, AllS γ.Z Rs (a.eval y).cells.toList w S ∧ ∀ b, S b → ∃ k ∈ id, γ.σ k b ∧ ∃ r R, Has X c (.own k r R)
/-- the operand has this value -/
def Mv (X : Cx) (i : Nat) (pre suc : List Nat) (y : Operand) (R : HA) (id : Option Nat) : Prop := ∀ c γ a w, Sit X i pre suc c γ a w → ∃ S, R.p γ.Z (a.eval y) w S ∧ ∀ b, S b → ∃ k ∈ id, γ.σ k b ∧ ∃ r R, Has X c (.own k r R)
theorem cells_of_one {v : Value} (h : v.oneCell' = true) : v.cells.toList = [v] := by cases v <;> first | rfl | (simp [Value.oneCell'] at h)
theorem mv_vp {y : Operand} {x : VP} (h : Ar X i pre suc y x.p) : Mv X i pre suc y (HA.of x) none := fun c γ a w s => ⟨fun _ => False, ⟨h c γ a w s, fun _ h => h⟩, fun _ h => h.elim⟩
theorem mv_own {k id : Nat} {R : HA} (h : Av X i pre suc (.own id (.tmp k) R)) : Mv X i pre suc (.tmp k) R (some id) := fun c γ a w s => by
  obtain ⟨v, h1, h2⟩ := h.h s
  rw [eval_tmp h1]
  exact ⟨γ.σ id, h2, fun b hb => ⟨id, rfl, hb, _, _, h c γ a w s⟩⟩
theorem mv_ownv {y : Operand} {id : Nat} {v : Value} {nu one : Bool} {R : HA} (h : Av X i pre suc (.own id (.val v) R)) (hy : Ar X i pre suc y (VP.eq v nu one).p) : Mv X i pre suc y R (some id) := fun c γ a w s => by
  obtain ⟨u, h1, h2⟩ := h.h s
  have h1 : u = v := h1
  subst h1
  have h3 : a.eval y = u := (hy c γ a w s).1
  rw [h3]
  exact ⟨γ.σ id, h2, fun b hb => ⟨id, rfl, hb, _, _, h c γ a w s⟩⟩
theorem cv_one {y : Operand} {R : HA} {id : Option Nat} (h1 : R.one = true) (h : Mv X i pre suc y R id) : Cv X i pre suc y [R] id := fun c γ a w s => by
  obtain ⟨S, h2, h3⟩ := h c γ a w s
  rw [cells_of_one (R.hone h1 _ _ _ _ h2)]
  exact ⟨S, ⟨S, fun _ => False, fun b => by simp, fun _ _ h => h, h2, fun _ h => h⟩, h3⟩
theorem cv_oagg {y : Operand} {Rs : List HA} {id : Option Nat} (h : Mv X i pre suc y (HA.agg Rs) id) : Cv X i pre suc y Rs id := fun c γ a w s => by
  obtain ⟨S, ⟨cs, h2, h4⟩, h3⟩ := h c γ a w s
  rw [h2]
  exact ⟨S, by simpa [Value.cells] using h4, h3⟩
theorem cv_agg {y : Operand} {ps : List VP} (h : Ar X i pre suc y (VP.agg ps).p) : Cv X i pre suc y (ps.map HA.of) none := fun c γ a w s => by
  obtain ⟨cs, h2, h4⟩ := h c γ a w s
  rw [h2]
  exact ⟨fun _ => False, AllS.of_all2 (fun _ h => h) (by simpa [Value.cells] using h4), fun _ h => h.elim⟩
theorem cv_vp {y : Operand} {x : VP} (h1 : x.one = true) (h : Ar X i pre suc y x.p) : Cv X i pre suc y [HA.of x] none := cv_one h1 (mv_vp h)
/-- the ghost of a frame when fact id has new blocks -/
def Gho.set (γ : Gho) (id : Nat) (S : Foot) : Gho := ⟨fun k => if k = id then S else γ.σ k, γ.Z⟩
theorem Gho.set_eq (γ : Gho) (id : Nat) (S : Foot) : (γ.set id S).σ id = S := if_pos rfl
theorem Gho.set_ne (γ : Gho) {id k : Nat} (S : Foot) (h : k ≠ id) : (γ.set id S).σ k = γ.σ k := if_neg h
/-- an operation that turns what is fact id's, or is new, and what it takes up (ido), and leaves one fact that has blocks -/
theorem step_own {c : Nat → Bool} {γ : Gho} {a a' : Act} {w w' : World} (s : Sit X i pre suc c γ a w) {d : Option Nat} {id : Nat} {ids : List Nat} {r : Ref} {R : HA} (hc : chkM X i pre suc d (id :: ids) = true)
    (hr : resOf X i = [.own id r R]) (E S : Foot) (hE : ∀ b, E b → ∃ k ∈ id :: ids, γ.σ k b ∧ ∃ r R, Has X c (.own k r R))
    (sz : a'.tmps.size = X.N) (df : a'.defers = []) (t : Turn E w w') (ha : ∀ f : Fact, d.all (fun d => !f.uses d) = true → ∀ w, f.holds X.toFr γ a w → f.holds X.toFr γ a' w)
    {v : Value} (hv : r.den a' v) (hR : R.p γ.Z v w' S) (hS : ∀ b, S b → (E b ∨ w.heap.size ≤ b) ∧ b < w'.heap.size) : Good X.toFr (Has X (upd c i)) (γ.set id S) a' w' := by
  have hEz : ∀ b, E b → ¬ γ.Z b := fun b hb => by
    obtain ⟨k, _, h1, r', R', h2⟩ := hE b hb
    exact (s.g.bnd k r' R' h2 b h1).2.2
  have hnone : ∀ {f : Fact}, f ∈ resOf X i → f = .own id r R := fun hf => by rw [hr, List.mem_singleton] at hf; exact hf
  have ha' : ∀ f : Fact, d.all (fun d => !f.uses d) = true → ∀ w, f.holds X.toFr γ a w → f.holds X.toFr γ a' w := ha
  refine good_step (γ := γ) (γ' := γ.set id S) s hc E hE sz df t ha (fun _ h => h) (fun _ h => .inl h) (fun k hk => Gho.set_ne γ S fun e => hk (by rw [e]; exact List.mem_cons_self ..)) (fun f hf => ?_) (fun k r' R' hf b hb => ?_) (fun k r' R' k' r'' R'' h1 h2 hne => ?_)
  · rw [hnone hf]
    exact ⟨v, hv, by rw [Gho.set_eq]; exact hR⟩
  · have e := hnone hf
    injection e with e1 e2 e3
    subst e1
    rw [Gho.set_eq] at hb
    refine ⟨(hS b hb).1, (hS b hb).2, fun hz => ?_⟩
    rcases (hS b hb).1 with h | h
    · exact hEz b h hz
    · have := (s.g.zof b hz).1; omega
  · have e1 := hnone h1
    have e2 := hnone h2
    injection e1 with e1
    injection e2 with e2
    exact absurd (e1.trans e2.symm) hne
theorem ha_put (d : Nat) (a : Act) (v : Value) (F : Fr) (γ : Gho) : ∀ f : Fact, (some d).all (fun d => !f.uses d) = true → ∀ w, f.holds F γ a w → f.holds F γ (a.put (some d) v) w :=
  fun f hf _ h => fact_put h (by simpa using hf)
theorem turn_new {E : Foot} (w : World) (ob : Obj) : Turn E w (w.alloc ob) := .of_ext (Ext.new w ob)
theorem does_made {o : Oper} {d id : Nat} {R : HA} {ido : Option Nat} (hd : o.dst = some d) (hlt : decide (d < X.N) = true) (hc : chkM X i pre suc (some d) (id :: ido.toList) = true) (hr : resOf X i = [.own id (.tmp d) R])
    (h : ∀ c γ a w, Sit X i pre suc c γ a w → ∃ (v : Value) (ob : Obj) (S : Foot), (execOp a.eval o).run X.P w = .ok (.value v) (w.alloc ob) ∧ R.p γ.Z v (w.alloc ob) (fun b => b = w.heap.size ∨ S b) ∧ ∀ b, S b → ∃ k ∈ ido, γ.σ k b ∧ ∃ r R, Has X c (.own k r R)) : Does X i pre suc o := by
  intro c γ a w s Q K hK
  obtain ⟨v, ob, S, h1, h2, h3⟩ := h c γ a w s
  have hlt' := of_decide_eq_true hlt
  unfold Oper.wp
  rw [h1]
  show K (a.put o.dst v) _
  rw [hd]
  have e : Ext w (w.alloc ob) := Ext.new w ob
  have h3' : ∀ b, S b → ∃ k ∈ id :: ido.toList, γ.σ k b ∧ ∃ r R, Has X c (.own k r R) := fun b hb => by
    obtain ⟨k, hk, h4⟩ := h3 b hb
    exact ⟨k, List.mem_cons_of_mem _ (by simpa [Option.mem_toList] using hk), h4⟩
  refine hK _ _ _ (step_own s hc hr S _ h3' (by rw [put_size]; exact s.g.sz) (by rw [put_defers']; exact s.g.df) (turn_new w ob) (ha_put d a v _ γ) (put_eq v (by rw [s.g.sz]; exact hlt')) h2 fun b hb => ?_)
  rcases hb with rfl | hb
  · exact ⟨.inr (Nat.le_refl _), by simp⟩
  · obtain ⟨k, _, h4, r, R', h5⟩ := h3 b hb
    exact ⟨.inl hb, Nat.lt_of_lt_of_le (s.g.bnd k r R' h5 b h4).1 e.size⟩
theorem box_mk {Z : Foot} {w : World} {T : TypeId} {Rs : List HA} {cs : List Value} {S : Foot} (h : AllS Z Rs cs w S) (hn : Rs.all (·.nu) = true) (hz : ∀ b, Z b → b < w.heap.size) (hS : ∀ b, S b → b < w.heap.size) : (HA.cells T Rs).p Z (ptr w.heap.size) (w.alloc (.cells cs.toArray T)) (fun b => b = w.heap.size ∨ S b) := by
  have e := Ext.new w (.cells cs.toArray T)
  refine ⟨w.heap.size, cs, S, rfl, Row.new w T cs, h.st (fun _ h => h) (fun b hb => e.block b (hz b hb)) (.of_ext e) (fun b hb => e.block b (hS b hb)), fun b => Iff.rfl, fun hb => Nat.lt_irrefl _ (hS _ hb), h.nus hn⟩
theorem does_box {o : Oper} {d id : Nat} {T : TypeId} {Rs : List HA} {ido : Option Nat} (y : Operand) (hop : o.op = .box T y) (hd : o.dst = some d) (hlt : decide (d < X.N) = true) (hc : chkM X i pre suc (some d) (id :: ido.toList) = true) (hr : resOf X i = [.own id (.tmp d) (HA.cells T Rs)])
    (hn : Rs.all (·.nu) = true) (h : Cv X i pre suc y Rs ido) : Does X i pre suc o :=
  does_made hd hlt hc hr fun c γ a w s => by
    obtain ⟨S, h1, h2⟩ := h c γ a w s
    refine ⟨ptr w.heap.size, .cells (a.eval y).cells T, S, ?_, ?_, h2⟩
    · unfold execOp; rw [hop]
      simp [Instr.box, newVar, newRow, ptr]
    · have := box_mk (T := T) h1 hn (fun b hb => (s.g.zof b hb).1) fun b hb => by
        obtain ⟨k, _, h4, r, R', h5⟩ := h2 b hb
        exact (s.g.bnd k r R' h5 b h4).1
      simpa using this
theorem does_alloc {o : Oper} {d id : Nat} {T : TypeId} {zs : List Value} {ps : List VP} (hz : zeroOf X.P T zs) (hop : o.op = .alloc T) (hd : o.dst = some d) (hlt : decide (d < X.N) = true) (hc : chkM X i pre suc (some d) [id] = true) (hr : resOf X i = [.own id (.tmp d) (HA.cells T (ps.map HA.of))])
    (hn : ps.all (·.nu) = true) (h : ∀ Z w, All2 Z ps zs w) : Does X i pre suc o :=
  does_made (ido := none) hd hlt hc hr fun c γ a w s => by
    unfold zeroOf at hz
    obtain ⟨ti, h1, h2⟩ := Option.bind_eq_some_iff.1 hz
    obtain ⟨v, h3, h4⟩ := Option.map_eq_some_iff.1 h2
    refine ⟨ptr w.heap.size, .cells zs.toArray T, fun _ => False, ?_, ?_, fun _ h => h.elim⟩
    · unfold execOp; rw [hop]
      simp [Instr.alloc, zeroValue, typeInfo, h1, h3, newVar, newRow, ptr, ← h4]
    · exact box_mk (AllS.of_all2 (fun _ h => h) (h γ.Z w)) (by rw [List.all_map]; exact hn) (fun b hb => (s.g.zof b hb).1) fun _ h => h.elim
/-! ### stores -/
theorem setRow_turn {w : World} {g : Nat} {T : TypeId} {cs : List Value} (hr : Row w g T cs) (hn : ∀ u ∈ cs, NoU u) (ds : List Value) {E : Foot} (hE : E g) : Turn E w (w.setRow g ds.toArray) :=
  ⟨rfl, rfl, rfl, by rw [setRow_size]; exact Nat.le_refl _, fun b _ hb => setRow_far _ fun e => hb (e ▸ hE), fun b _ => by
    by_cases e : b = g
    · subst e
      refine .inr fun cs' T'' fz he u hu => ?_
      unfold Row at hr
      rw [hr] at he
      injection he with he
      injection he with he
      subst he
      exact hn u (by simpa using hu)
    · exact .inl (setRow_far _ e)⟩
theorem does_store {o : Oper} {id off : Nat} {r : Ref} {T T' : TypeId} {Rs Qs Rs' : List HA} {ido : Option Nat} (y z : Operand) (hsz : ∀ w, (sizeOf T).run X.P w = .ok Qs.length w) (hop : o.op = .store T y z) (hd : o.dst = none) (hc : chkM X i pre suc none (id :: ido.toList) = true)
    (hr : resOf X i = [.own id r (HA.cells T' Rs')]) (hrs : Rs' = Rs.take off ++ Qs ++ Rs.drop (off + Qs.length)) (hl : (decide (off + Qs.length ≤ Rs.length) && Qs.all (·.one) && Qs.all (·.nu) && !(ido == some id)) = true) (hp : Pt X i pre suc y (.blk r off))
    (h : Av X i pre suc (.own id r (HA.cells T' Rs))) (hz : Cv X i pre suc z Qs ido) : Does X i pre suc o := by
  subst hrs
  intro c γ a w s Q K hK
  obtain ⟨g, o', ⟨b0, h1, h1'⟩, h2⟩ := hp c γ a w s
  have hHas := h c γ a w s
  obtain ⟨v0, h3, g', cs, S', rfl, h4, h5, h6, h7, h8⟩ := h.h s
  have := Ref.den_fun h3 h1
  injection this with this; injection this with this; injection this with e1 e2
  subst e1 e2 h1'
  rw [Nat.zero_add] at h2
  simp only [Bool.and_eq_true, decide_eq_true_eq] at hl
  obtain ⟨⟨⟨l1, l2⟩, l3⟩, l4⟩ := hl
  obtain ⟨S, k1, k2⟩ := hz c γ a w s
  have hlen := h5.len
  have hvn := k1.len
  have hrun := run_storeCell (P := X.P) (T := T) (off := off) Qs.length h4 (hsz w) (by simpa using hvn) (by omega) (k1.ones l2)
  unfold Oper.wp execOp
  rw [hop]
  simp only [h2, Instr.storeAt, Instr.sureAddr, Sem.run_bind, Sem.run_pure, Result.andThen_ok, hrun]
  show K (a.put o.dst undef) _
  rw [hd]
  show K a _
  have hdis : ∀ b, γ.σ id b → ¬ S b := fun b hb hb' => by
    obtain ⟨k, hk, e1, r', R', e2⟩ := k2 b hb'
    refine s.g.sep id r _ k r' R' hHas e2 (fun e => ?_) b hb e1
    have hk : ido = some k := by simpa using hk
    rw [hk, ← e] at l4; simp at l4
  obtain ⟨S2, m1, m2⟩ := h5.splice off Qs.length l1 k1 fun b hb => hdis b ((h6 b).2 (.inr hb))
  have hE : ∀ b, (γ.σ id b ∨ S b) → ∃ k ∈ id :: ido.toList, γ.σ k b ∧ ∃ r R, Has X c (.own k r R) := fun b hb => by
    rcases hb with hb | hb
    · exact ⟨id, List.mem_cons_self .., hb, _, _, hHas⟩
    · obtain ⟨k, hk, e⟩ := k2 b hb
      exact ⟨k, List.mem_cons_of_mem _ (by simpa [Option.mem_toList] using hk), e⟩
  have hEb : ∀ b, (γ.σ id b ∨ S b) → b < w.heap.size ∧ ¬ γ.Z b := fun b hb => by
    obtain ⟨k, _, e1, r', R', e2⟩ := hE b hb
    have := s.g.bnd k r' R' e2 b e1
    exact ⟨this.1, this.2.2⟩
  have hg : γ.σ id g' := (h6 g').2 (.inl rfl)
  have t := setRow_turn (E := fun b => b = g') h4 h8 (cs.take off ++ (a.eval z).cells.toList ++ cs.drop (off + Qs.length)) rfl
  have nog : ∀ b, S2 b ∨ S b → b ≠ g' := fun b hb e => by
    subst e
    rcases hb with hb | hb
    · exact h7 (m1 _ hb)
    · exact hdis _ hg hb
  refine hK _ _ _ (step_own s hc hr (fun b => γ.σ id b ∨ S b) (fun b => b = g' ∨ (S2 b ∨ S b)) hE s.g.sz s.g.df (t.mono fun b _ e => .inl (by rw [e]; exact hg)) (fun f _ w h => h) h3 ⟨g', _, fun b => S2 b ∨ S b, rfl, setRow_row h4 _, m2.st (fun _ h => h) (fun b hb => t.block b (s.g.zof b hb).1 fun e => (hEb _ (.inl hg)).2 (e ▸ hb)) t.toCalm (fun b hb => ?_), fun b => Iff.rfl, fun e => nog _ e rfl, fun u hu => ?_⟩ fun b hb => ?_)
  · refine t.block b (hEb b ?_).1 (nog b hb)
    rcases hb with hb | hb
    · exact .inl ((h6 b).2 (.inr (m1 b hb)))
    · exact .inr hb
  · rw [List.mem_append, List.mem_append] at hu
    rcases hu with (hu | hu) | hu
    · exact h8 u (List.mem_of_mem_take hu)
    · exact k1.nus l3 u hu
    · exact h8 u (List.mem_of_mem_drop hu)
  · have : γ.σ id b ∨ S b := by
      rcases hb with rfl | hb | hb
      · exact .inl hg
      · exact .inl ((h6 b).2 (.inr (m1 b hb)))
      · exact .inr hb
    exact ⟨.inl this, by rw [setRow_size]; exact (hEb b this).1⟩
end
end O
end Go.Proofs.Ytogodjiemgilaaa

/- Regions in whatever order, whatever is said of frame and world. -/
namespace Go.Proofs.Ytogodjiemgilaaa
open Go.RowKit
/-- tables of what comes ahead and of what comes behind -/
abbrev Tab2 := List (List Nat)
def Tab2.at (t : Tab2) (i : Nat) : List Nat := (t[i]?).getD []
/-- the tables are true: each that comes ahead does so at once or ahead of one that does -/
def tabB (ops : List Oper) (tp ts : Tab2) : Bool :=
  ((List.range ops.length).all fun i => match ops[i]? with
    | some o => (tp.at i).all fun j => (preOf o).contains j || (preOf o).any fun k => (tp.at k).contains j
    | none => true) &&
  (List.range ops.length).all fun i => (ts.at i).all fun j => decide (j < ops.length) && (tp.at j).contains i
structure TabOk (ops : List Oper) (tp ts : Tab2) : Prop where
  p : ∀ i o, ops[i]? = some o → ∀ j ∈ tp.at i, j ∈ preOf o ∨ ∃ k ∈ preOf o, j ∈ tp.at k
  s : ∀ i, i < ops.length → ∀ j ∈ ts.at i, j < ops.length ∧ i ∈ tp.at j
theorem tabB_ok {ops : List Oper} {tp ts : Tab2} (h : tabB ops tp ts = true) : TabOk ops tp ts := by
  unfold tabB at h
  rw [Bool.and_eq_true, List.all_eq_true, List.all_eq_true] at h
  refine ⟨fun i o ho j hj => ?_, fun i hi j hj => ?_⟩
  · have := h.1 i (List.mem_range.2 (List.getElem?_eq_some_iff.1 ho).1)
    rw [ho] at this
    have := List.all_eq_true.1 this j hj
    rw [Bool.or_eq_true] at this
    rcases this with h1 | h1
    · exact .inl (by simpa using h1)
    · rw [List.any_eq_true] at h1
      obtain ⟨k, h2, h3⟩ := h1
      exact .inr ⟨k, h2, by simpa using h3⟩
  · have := List.all_eq_true.1 (h.2 i (List.mem_range.2 hi)) j hj
    rw [Bool.and_eq_true] at this
    exact ⟨of_decide_eq_true this.1, by simpa using this.2⟩
theorem TabOk.lt {ops : List Oper} {tp ts : Tab2} (t : TabOk ops tp ts) (hq : seqB ops = true) : ∀ (i : Nat) (o : Oper), ops[i]? = some o → ∀ j ∈ tp.at i, j < i := by
  intro i
  induction i using Nat.strongRecOn with
  | ind i ih =>
    intro o ho j hj
    rcases t.p i o ho j hj with h | ⟨k, h1, h2⟩
    · exact pre_lt hq ho j h
    · have hk := pre_lt hq ho k h1
      have hl := (List.getElem?_eq_some_iff.1 ho).1
      have := ih k hk ops[k] (List.getElem?_eq_getElem (by omega)) j h2
      omega
theorem TabOk.up {ops : List Oper} {tp ts : Tab2} (t : TabOk ops tp ts) (hq : seqB ops = true) {c : Nat → Bool} (hcl : ∀ i o, ops[i]? = some o → c i = true → ∀ j ∈ preOf o, c j = true) : ∀ (i : Nat) (o : Oper), ops[i]? = some o → (∀ j ∈ preOf o, c j = true) → ∀ j ∈ tp.at i, c j = true := by
  intro i
  induction i using Nat.strongRecOn with
  | ind i ih =>
    intro o ho hc j hj
    rcases t.p i o ho j hj with h | ⟨k, h1, h2⟩
    · exact hc j h
    · have hk := pre_lt hq ho k h1
      have hl := (List.getElem?_eq_some_iff.1 ho).1
      have e : ops[k]? = some ops[k] := List.getElem?_eq_getElem (by omega)
      exact ih k hk ops[k] e (hcl k _ e (hc k h1)) j h2
structure GSit (I : (Nat → Bool) → Act → World → Prop) (i : Nat) (pre suc : List Nat) (c : Nat → Bool) (a : Act) (w : World) : Prop where
  me : c i = false
  hpre : ∀ j ∈ pre, c j = true
  hsuc : ∀ j ∈ suc, c j = false
  inv : I c a w
def GRule (P : Program) (I : (Nat → Bool) → Act → World → Prop) (ops : List Oper) (tp ts : Tab2) (i : Nat) (o : Oper) : Prop :=
  (∀ c a w, GSit I i (tp.at i) (ts.at i) c a w → Region.wanted o (yielded ops.toArray a.tmps) = true ∧ ∀ Q (K : Act → World → Prop), (∀ a' w', I (upd c i) a' w' → K a' w') → o.wp P a w K Q) ∨
  (∀ c a w, GSit I i (tp.at i) (ts.at i) c a w → Region.wanted o (yielded ops.toArray a.tmps) = false ∧ I (upd c i) (a.put o.dst undef) w)
def GRules (P : Program) (I : (Nat → Bool) → Act → World → Prop) (ops : List Oper) (tp ts : Tab2) : List Oper → Nat → Prop
  | [], _ => True
  | o :: os, i => GRule P I ops tp ts i o ∧ GRules P I ops tp ts os (i + 1)
theorem GRules.get {P : Program} {I : (Nat → Bool) → Act → World → Prop} {ops : List Oper} {tp ts : Tab2} : ∀ {os : List Oper} {k : Nat}, GRules P I ops tp ts os k → ∀ {j : Nat} {o : Oper}, os[j]? = some o → GRule P I ops tp ts (k + j) o
  | [], _, _, j, _, h => by simp at h
  | o :: _, k, h, 0, x, hx => by simp at hx; subst hx; exact h.1
  | _ :: _, k, h, j + 1, x, hx => by
    have := GRules.get h.2 (j := j) (o := x) (by simpa using hx)
    rwa [show k + 1 + j = k + (j + 1) by omega] at this
section
variable {P : Program} {I : (Nat → Bool) → Act → World → Prop} {ops : List Oper} {tp ts : Tab2}
theorem g_rule_op {Q : Exit → Act → World → Prop} {i : Nat} {o : Oper} (ho : ops[i]? = some o) (hr : GRule P I ops tp ts i o) {c : Nat → Bool} {a : Act} {w : World} (s : GSit I i (tp.at i) (ts.at i) c a w) {K : Act → World → Prop} (hK : ∀ a' w', I (upd c i) a' w' → K a' w') :
    wpOp P ops.toArray Q i K a w := by
  unfold wpOp
  have : (ops.toArray)[i]? = some o := by simpa using ho
  rw [this]
  simp only
  rcases hr with h | h
  · obtain ⟨h1, h2⟩ := h c a w s
    rw [if_pos h1]
    exact .inl (h2 Q K hK)
  · obtain ⟨h1, h2⟩ := h c a w s
    rw [if_neg (by rw [h1]; exact Bool.false_ne_true)]
    exact hK _ _ h2
/-- in the order of the text -/
theorem g_seq_ok {Q : Exit → Act → World → Prop} (hq : seqB ops = true) (ht : TabOk ops tp ts) (hr : GRules P I ops tp ts ops 0) (fin : ∀ a w, I (fun j => decide (j < ops.length)) a w → Q .normal a w) :
    ∀ (m k : Nat), k + m = ops.length → ∀ a w, I (fun j => decide (j < k)) a w → wpOps P ops.toArray Q (List.range' k m) a w := by
  intro m
  induction m with
  | zero =>
    intro k hk a w hi
    obtain rfl : k = ops.length := by omega
    exact fin a w hi
  | succ m ih =>
    intro k hk a w hi
    have hlt : k < ops.length := by omega
    rw [List.range'_succ, wpOps_cons]
    have ho : ops[k]? = some ops[k] := List.getElem?_eq_getElem hlt
    have hrk := hr.get ho
    rw [Nat.zero_add] at hrk
    refine g_rule_op ho hrk ⟨by simp, fun j hj => by simpa using ht.lt hq k _ ho j hj, fun j hj => ?_, hi⟩ fun a' w' hi' => ih (k + 1) (by omega) a' w' ?_
    · obtain ⟨h1, h2⟩ := ht.s k hlt j hj
      have := ht.lt hq j _ (List.getElem?_eq_getElem h1) k h2
      simp; omega
    · have : upd (fun j => decide (j < k)) k = fun j => decide (j < k + 1) := by
        funext j
        unfold upd
        by_cases e : j = k
        · subst e; simp
        · rw [if_neg e]
          show decide (j < k) = decide (j < k + 1)
          by_cases h : j < k
          · rw [decide_eq_true h, decide_eq_true (by omega)]
          · rw [decide_eq_false h, decide_eq_false (by omega)]
      rwa [this] at hi'

theorem g_any_ok {Q : Exit → Act → World → Prop} (hq : seqB ops = true) (ht : TabOk ops tp ts) (hr : GRules P I ops tp ts ops 0) (fin : ∀ a w c, (∀ i, i < ops.length → c i = true) → I c a w → Q .normal a w) :
    ∀ (fuel : Nat) (listed : Array Bool), listed.size = ops.length → (∀ i o, ops[i]? = some o → cOf listed i = true → ∀ j ∈ preOf o, cOf listed j = true) → left listed ≤ fuel → ∀ a w, I (cOf listed) a w → wpAny P .any ops.toArray Q fuel listed a w := by
  intro fuel
  induction fuel with
  | zero =>
    intro listed hs hcl hle a w hi
    have hall : ∀ i, i < ops.length → cOf listed i = true := by
      intro i hlt
      cases hc : cOf listed i with
      | true => rfl
      | false =>
        exfalso
        have h2 : i < listed.size := by omega
        have : 0 < left listed := by
          unfold left
          rw [List.countP_pos_iff]
          exact ⟨false, by unfold cOf at hc; rw [← hc]; simp [h2], rfl⟩
        omega
    refine ⟨?_, fin a w _ hall hi⟩
    apply List.eq_nil_iff_forall_not_mem.2
    intro i hm
    rw [mem_ready] at hm
    have h2 := ready_lt (ops := ops) hs hm.1
    have := hall i (by omega)
    unfold cOf at this
    have h1 := hm.1
    simp [h2] at h1 this
    rw [h1] at this; cases this
  | succ fuel ih =>
    intro listed hs hcl hle a w hi
    refine ⟨fun hn => fin a w _ (all_up hq hs hn) hi, fun i hm => ?_⟩
    rw [mem_ready] at hm
    obtain ⟨h1, o, h2, h3⟩ := hm
    have ho : ops[i]? = some o := by simpa using h2
    have hlt := ready_lt (ops := ops) hs h1
    have hrk := hr.get ho
    rw [Nat.zero_add] at hrk
    have hme : cOf listed i = false := by unfold cOf; simpa [hlt] using h1
    have hpre : ∀ j ∈ preOf o, cOf listed j = true := by
      intro j hj
      unfold preOf at hj
      rw [List.mem_map] at hj
      obtain ⟨e, he, rfl⟩ := hj
      rw [List.mem_filter] at he
      exact h3 e (by simpa using he.1) he.2
    refine g_rule_op ho hrk ⟨hme, ht.up hq hcl i o ho hpre, fun j hj => ?_, hi⟩ fun a' w' hi' => ih _ (by simp [hs]) ?_ ?_ a' w' (by rw [cOf_set hlt]; exact hi')
    · obtain ⟨h4, h5⟩ := ht.s i (by omega) j hj
      cases hc : cOf listed j with
      | false => rfl
      | true =>
        have e := List.getElem?_eq_getElem (l := ops) h4
        have := ht.up hq hcl j _ e (hcl j _ e hc) i h5
        rw [hme] at this; cases this
    · intro k ok hk hck j hj
      rw [cOf_set hlt] at hck ⊢
      unfold upd at hck ⊢
      by_cases e : j = i
      · rw [if_pos e]
      · rw [if_neg e]
        by_cases ek : k = i
        · subst ek
          rw [ho] at hk
          injection hk with hk
          subst hk
          exact hpre j hj
        · rw [if_neg ek] at hck
          exact hcl k ok hk hck j hj
    · have := left_set hlt h1
      omega


theorem g_region_ok {Q : Exit → Act → World → Prop} {id : Nat} {draw : Bool} (hm : P.follows .mixedOrders = true) (hq : seqB ops = true) (ht : TabOk ops tp ts) (hr : GRules P I ops tp ts ops 0) {a : Act} {w : World}
    (h0 : I (fun _ => false) a w) (hd : I (fun _ => false) a w → I (fun _ => false) a { w with drawn := w.drawn + 1 }) (fin : ∀ a w c, (∀ i, i < ops.length → c i = true) → I c a w → Q .normal a w) : (Code.region id ops.toArray draw).wp P Q a w := by
  cases draw with
  | false =>
    refine wp_region ?_
    have := g_seq_ok (Q := Q) hq ht hr (fun a w hi => fin a w _ (fun i h => by simpa using h) hi) ops.length 0 (by omega) a w (by
      rw [show (fun j => decide (j < 0)) = fun _ : Nat => false from funext fun j => by simp]; exact h0)
    rw [List.range_eq_range']
    simpa using this
  | true =>
    refine wp_region_any hm ?_
    have h1 : cOf (Array.replicate ops.toArray.size false) = fun _ => false := by
      funext i
      unfold cOf
      by_cases h : i < ops.length <;> simp [h]
    refine g_any_ok (Q := Q) hq ht hr fin ops.toArray.size _ (by simp) (fun i o _ hc => by rw [h1] at hc; cases hc) (by
      unfold left
      exact Nat.le_trans List.countP_le_length (by simp)) a _ ?_
    rw [h1]
    exact hd h0
end
end Go.Proofs.Ytogodjiemgilaaa

/- The logic over objects: regions, code. -/
namespace Go.Proofs.Ytogodjiemgilaaa
open Go.RowKit
namespace O
def Wants (X : Cx) (ops : List Oper) (i : Nat) (pre suc : List Nat) (o : Oper) : Prop := ∀ c γ a w, Sit X i pre suc c γ a w → Region.wanted o (yielded ops.toArray a.tmps) = true
def Skips (X : Cx) (ops : List Oper) (i : Nat) (pre suc : List Nat) (o : Oper) : Prop := ∀ c γ a w, Sit X i pre suc c γ a w → Region.wanted o (yielded ops.toArray a.tmps) = false ∧ Good X.toFr (Has X (upd c i)) γ (a.put o.dst undef) w
def Rule (X : Cx) (ops : List Oper) (tp ts : Tab2) (i : Nat) (o : Oper) : Prop :=
  (Wants X ops i (tp.at i) (ts.at i) o ∧ Does X i (tp.at i) (ts.at i) o) ∨ Skips X ops i (tp.at i) (ts.at i) o
def Rules (X : Cx) (ops : List Oper) (tp ts : Tab2) : List Oper → Nat → Prop
  | [], _ => True
  | o :: os, i => Rule X ops tp ts i o ∧ Rules X ops tp ts os (i + 1)
theorem Rule.g {X : Cx} {ops : List Oper} {tp ts : Tab2} {i : Nat} {o : Oper} (h : Rule X ops tp ts i o) : GRule X.P (Inv X) ops tp ts i o := by
  rcases h with ⟨h1, h2⟩ | h
  · refine .inl fun c a w s => ?_
    obtain ⟨γ, hg⟩ := s.inv
    exact ⟨h1 c γ a w ⟨s.me, s.hpre, s.hsuc, hg⟩, fun Q K hK => h2 c γ a w ⟨s.me, s.hpre, s.hsuc, hg⟩ Q K fun γ' a' w' g' => hK a' w' ⟨γ', g'⟩⟩
  · refine .inr fun c a w s => ?_
    obtain ⟨γ, hg⟩ := s.inv
    obtain ⟨e1, e2⟩ := h c γ a w ⟨s.me, s.hpre, s.hsuc, hg⟩
    exact ⟨e1, γ, e2⟩
theorem Rules.g {X : Cx} {ops : List Oper} {tp ts : Tab2} : ∀ {os : List Oper} {k : Nat}, Rules X ops tp ts os k → GRules X.P (Inv X) ops tp ts os k
  | [], _, _ => trivial
  | _ :: _, _, h => ⟨h.1.g, h.2.g⟩
section
variable {X : Cx} {ops : List Oper}
theorem wants_plain {i : Nat} {pre suc : List Nat} {o : Oper} (h : o.guard = none) : Wants X ops i pre suc o := fun c γ a w _ => by simp [Region.wanted, h]
theorem skip_good {i d : Nat} {pre suc : List Nat} {c : Nat → Bool} {γ : Gho} {a : Act} {w : World} (s : Sit X i pre suc c γ a w) (hlt : decide (d < X.N) = true) (hc : chk X i pre suc d = true) (hr : resOf X i = [.slot d VP.undef]) : Good X.toFr (Has X (upd c i)) γ (a.put (some d) undef) w := by
  refine good_step (γ' := γ) (d := some d) (ids := []) s ?_ (fun _ => False) (fun _ h => h.elim) (by rw [put_size]; exact s.g.sz) (by rw [put_defers']; exact s.g.df) (.refl _ _) (ha_put d a _ _ γ) (fun _ h => h) (fun _ h => .inl h) (fun _ _ => rfl) (fun f hf => ?_) (fun k r R hf => ?_) (fun k r R k' r' R' hf => ?_)
  · have : okM (some d) [] = fun f : Fact => !f.uses d := funext fun f => by cases f <;> simp [okM, Fact.off]
    unfold chkM; rw [this]; exact hc
  · rw [hr, List.mem_singleton] at hf; subst hf; exact slot_put (x := VP.undef) s.g.sz hlt rfl
  · rw [hr, List.mem_singleton] at hf; cases hf
  · rw [hr, List.mem_singleton] at hf; cases hf
theorem wants_guard {i : Nat} {pre suc : List Nat} {o og : Oper} {g t : Nat} (b : Bool) (h : o.guard = some (g, b)) (ho : ops[g]? = some og) (hd : og.dst = some t) (hv : Av X i pre suc (.slot t (VP.bool b))) : Wants X ops i pre suc o := fun c γ a w s => by
  obtain ⟨v, h1, h2⟩ := hv.h s
  have h2 : v = .bool b := h2
  subst h2
  simp [Region.wanted, h, yielded_of ho hd h1]
theorem skips_guardU {i d : Nat} {pre suc : List Nat} {o og : Oper} {g t : Nat} (b : Bool) (h : o.guard = some (g, !b)) (ho : ops[g]? = some og) (hd : og.dst = some t) (hv : Av X i pre suc (.slot t (VP.bool b))) (hod : o.dst = some d)
    (hlt : decide (d < X.N) = true) (hc : chk X i pre suc d = true) (hr : resOf X i = [.slot d VP.undef]) : Skips X ops i pre suc o := fun c γ a w s => by
  obtain ⟨v, h1, h2⟩ := hv.h s
  have h2 : v = .bool b := h2
  subst h2
  refine ⟨by cases b <;> simp [Region.wanted, h, yielded_of ho hd h1], ?_⟩
  rw [hod]
  exact skip_good s hlt hc hr
theorem skips_undefU {i d : Nat} {pre suc : List Nat} {o og : Oper} {g t : Nat} (b : Bool) (h : o.guard = some (g, b)) (ho : ops[g]? = some og) (hd : og.dst = some t) (hv : Av X i pre suc (.slot t VP.undef)) (hod : o.dst = some d)
    (hlt : decide (d < X.N) = true) (hc : chk X i pre suc d = true) (hr : resOf X i = [.slot d VP.undef]) : Skips X ops i pre suc o := fun c γ a w s => by
  obtain ⟨v, h1, h2⟩ := hv.h s
  have h2 : v = Go.undef := h2
  subst h2
  have hy : yielded ops.toArray a.tmps g = none := by
    unfold yielded
    have : (ops.toArray)[g]? = some og := by simpa using ho
    have h1 : a.tmps[t]? = some (.tuple #[]) := h1
    simp [this, hd, h1]
  refine ⟨by simp [Region.wanted, h, hy], ?_⟩
  rw [hod]
  exact skip_good s hlt hc hr
end

/-- these facts stand -/
def Fs (F : Fr) (fs : List Fact) (a : Act) (w : World) : Prop := ∃ γ, Good F (· ∈ fs) γ a w
theorem Good.sub {F : Fr} {V V' : Fact → Prop} {γ : Gho} {a : Act} {w : World} (g : Good F V γ a w) (h : ∀ f, V' f → V f) : Good F V' γ a w :=
  ⟨g.ok, g.sz, g.df, g.turn, g.zmono, g.zof, fun f hf => g.hold f (h f hf), fun k r R k' r' R' h1 h2 => g.sep k r R k' r' R' (h _ h1) (h _ h2), fun k r R h1 => g.bnd k r R (h _ h1)⟩
theorem Good.ext {F : Fr} {V : Fact → Prop} {γ : Gho} {a : Act} {w w' : World} (g : Good F V γ a w) (e : Ext w w') : Good F V γ a w' :=
  ⟨g.ok, g.sz, g.df, g.turn.trans (S' := fun _ => False) (.of_ext e) (fun _ _ h => h.elim), g.zmono, fun b hb => ⟨Nat.lt_of_lt_of_le (g.zof b hb).1 e.size, (g.zof b hb).2⟩,
   fun f hf => fact_turn (g.hold f hf) (fun _ h => h) (fun b hb => e.block b (g.zof b hb).1) (.of_ext e) (fun b hb => e.block b (Nat.lt_of_lt_of_le (g.ok.b b hb) g.turn.size)) fun k r R he => ⟨rfl, fun b hb => e.block b (g.bnd k r R (he ▸ hf) b hb).1⟩,
   g.sep, fun k r R h b hb => ⟨Nat.lt_of_lt_of_le (g.bnd k r R h b hb).1 e.size, (g.bnd k r R h b hb).2⟩⟩
/-- where these facts stand, this holds -/
def Sat (F : Fr) (fs : List Fact) (K : Act → World → Prop) : Prop := ∀ a w, Fs F fs a w → K a w
abbrev T (F : Fr) (fs : List Fact) (c : Code) (Q : Exit → Act → World → Prop) : Prop := Sat F fs (fun a w => c.wp F.P Q a w)
abbrev Nx (F : Fr) (fs : List Fact) (Q : Exit → Act → World → Prop) : Prop := Sat F fs (Q .normal)
abbrev Rt (F : Fr) (fs : List Fact) (Q : Exit → Act → World → Prop) : Prop := Sat F fs (Q .ret)
abbrev Ex (F : Fr) (fs : List Fact) (id : Nat) (Q : Exit → Act → World → Prop) : Prop := Sat F fs (Q (.exit id))
section
variable {F : Fr} {fs : List Fact} {Q : Exit → Act → World → Prop}
theorem fs_sub {fs' : List Fact} {a : Act} {w : World} (idx : List Nat) (h : idx.map (fun n => fs[n]?) = fs'.map some) (hf : Fs F fs a w) : Fs F fs' a w := by
  obtain ⟨γ, g⟩ := hf
  refine ⟨γ, g.sub fun f hm => ?_⟩
  have : some f ∈ idx.map (fun n => fs[n]?) := by rw [h]; exact List.mem_map.2 ⟨f, hm, rfl⟩
  obtain ⟨n, _, hn⟩ := List.mem_map.1 this
  exact List.mem_of_getElem? hn
theorem t_sub {fs' : List Fact} {K : Act → World → Prop} (idx : List Nat) (h : idx.map (fun n => fs[n]?) = fs'.map some) (ht : Sat F fs' K) : Sat F fs K := fun a w hf => ht a w (fs_sub idx h hf)
theorem nx_sub {fs' : List Fact} (idx : List Nat) (h : idx.map (fun n => fs[n]?) = fs'.map some) (ht : Nx F fs' Q) : Nx F fs Q := fun a w hf => ht a w (fs_sub idx h hf)

theorem t_seq {x y : Code} (h : T F fs x (Exit.then (fun a w => y.wp F.P Q a w) Q)) : T F fs (.seq x y) Q := fun a w hf => wp_seq (h a w hf)
theorem nx_then {y : Code} (h : T F fs y Q) : Nx F fs (Exit.then (fun a w => y.wp F.P Q a w) Q) := h
theorem rt_then {K : Act → World → Prop} (h : Rt F fs Q) : Rt F fs (Exit.then K Q) := h
theorem ex_then {K : Act → World → Prop} {id : Nat} (h : Ex F fs id Q) : Ex F fs id (Exit.then K Q) := h
theorem t_skip (h : Nx F fs Q) : T F fs .skip Q := fun a w hf => wp_skip (h a w hf)
theorem t_ret (h : Rt F fs Q) : T F fs .ret Q := fun a w hf => wp_ret (h a w hf)
theorem t_exit {id : Nat} (h : Ex F fs id Q) : T F fs (.exit id) Q := fun a w hf => wp_exit (h a w hf)
theorem t_block {id : Nat} {c : Code} (h : T F fs c (Exit.inBlock id Q)) : T F fs (.block id c) Q := fun a w hf => wp_block (h a w hf)
theorem nx_block {id : Nat} (h : Nx F fs Q) : Nx F fs (Exit.inBlock id Q) := h
theorem rt_block {id : Nat} (h : Rt F fs Q) : Rt F fs (Exit.inBlock id Q) := h
theorem ex_block {id : Nat} (h : Nx F fs Q) : Ex F fs id (Exit.inBlock id Q) := fun a w hf => by
  show (if id = id then Q .normal a w else Q (.exit id) a w)
  rw [if_pos rfl]; exact h a w hf
theorem ex_other {id id' : Nat} (hne : (id == id') = false) (h : Ex F fs id Q) : Ex F fs id (Exit.inBlock id' Q) := fun a w hf => by
  show (if id = id' then Q .normal a w else Q (.exit id) a w)
  rw [if_neg (by simpa using hne)]; exact h a w hf
theorem t_cond (n : Nat) {k : Nat} (b : Bool) {x y : Code} (hs : fs[n]? = some (.slot k (VP.bool b))) (h : T F fs (if b then x else y) Q) : T F fs (.cond (.tmp k) x y) Q := fun a w hf => by
  obtain ⟨γ, g⟩ := hf
  obtain ⟨v, h1, h2⟩ := g.hold _ (List.mem_of_getElem? hs)
  have h2 : v = .bool b := h2
  subst h2
  exact wp_cond (eval_tmp h1) (h a w ⟨γ, g⟩)
theorem t_cond_t (n : Nat) {k : Nat} {x y : Code} (hs : fs[n]? = some (.slot k (VP.bool true))) (h : T F fs x Q) : T F fs (.cond (.tmp k) x y) Q := t_cond n true hs h
theorem t_cond_f (n : Nat) {k : Nat} {x y : Code} (hs : fs[n]? = some (.slot k (VP.bool false))) (h : T F fs y Q) : T F fs (.cond (.tmp k) x y) Q := t_cond n false hs h
theorem t_cond_te (n : Nat) {k : Nat} {b : Bool} {x y : Code} (hs : fs[n]? = some (.slot k (VP.bool b))) (e : b = true) (h : T F fs x Q) : T F fs (.cond (.tmp k) x y) Q := by subst e; exact t_cond n true hs h
theorem t_cond_fe (n : Nat) {k : Nat} {b : Bool} {x y : Code} (hs : fs[n]? = some (.slot k (VP.bool b))) (e : b = false) (h : T F fs y Q) : T F fs (.cond (.tmp k) x y) Q := by subst e; exact t_cond n false hs h
theorem t_region {id : Nat} {draw : Bool} {ops : List Oper} (fs1 : List Fact) (os rs : List (Nat × Fact)) (ms : List (Nat × Nat × Fact)) (i1 i2 : List Nat) (tp ts : Tab2) (h1 : i1.map (fun n => fs[n]?) = fs1.map some) (h2 : i2.map (fun n => fs[n]?) = os.map (fun x => some x.2))
    (hm : F.P.follows .mixedOrders = true) (hq : ((seqB ops && tabB ops tp ts) && rs.all (fun x => decide (x.1 < ops.length))) = true)
    (hr : Rules ⟨F, fs1, os, rs, ms⟩ ops tp ts ops 0) (hn : Nx F (fs1 ++ rs.map (·.2)) Q) : T F fs (.region id ops.toArray draw) Q := fun a w hf => by
  obtain ⟨γ, g⟩ := hf
  rw [Bool.and_eq_true, Bool.and_eq_true] at hq
  obtain ⟨⟨hq1, hq2⟩, hq⟩ := hq
  simp only [List.all_eq_true, decide_eq_true_eq] at hq
  refine g_region_ok (I := Inv ⟨F, fs1, os, rs, ms⟩) hm hq1 (tabB_ok hq2) hr.g ⟨γ, g.sub fun f hh => ?_⟩ (fun ⟨γ, g⟩ => ⟨γ, g.ext (Ext.refl w).drew⟩) fun a w c hc ⟨γ, g⟩ => hn a w ⟨γ, g.sub fun f hm => ?_⟩
  · rcases hh with h | ⟨j, h, _⟩ | ⟨j, h, hj⟩ | ⟨j, e, h, hj, _⟩
    · have : some f ∈ i1.map (fun n => fs[n]?) := by rw [h1]; exact List.mem_map.2 ⟨f, h, rfl⟩
      obtain ⟨n, _, hn⟩ := List.mem_map.1 this
      exact List.mem_of_getElem? hn
    · have : some f ∈ i2.map (fun n => fs[n]?) := by rw [h2]; exact List.mem_map.2 ⟨_, h, rfl⟩
      obtain ⟨n, _, hn⟩ := List.mem_map.1 this
      exact List.mem_of_getElem? hn
    · cases hj
    · cases hj
  · rw [List.mem_append] at hm
    rcases hm with hm | hm
    · exact .inl hm
    · obtain ⟨x, hx, rfl⟩ := List.mem_map.1 hm
      exact .inr (.inr (.inl ⟨x.1, hx, hc _ (hq x hx)⟩))
theorem t_loop {τ : Type} (I : τ → List Fact) (μ : τ → Nat) (s0 : τ) {body : Code} (idx : List Nat) (h0 : idx.map (fun n => fs[n]?) = (I s0).map some)
    (h : ∀ s, T F (I s) body (Exit.then (fun a w => ∃ s', μ s' < μ s ∧ Fs F (I s') a w) Q)) : T F fs (.loop body) Q := fun a w hf => by
  refine wp_loop_ghost (fun n a w => ∃ s, μ s = n ∧ Fs F (I s) a w) (μ s0) ⟨s0, rfl, fs_sub idx h0 hf⟩ fun n a w ⟨s, hs, hfs⟩ => ?_
  refine Code.wp_mono (fun e a' w' hq => ?_) (h s a w hfs)
  cases e with
  | normal => obtain ⟨s', h1, h2⟩ := hq; exact ⟨μ s', by omega, s', rfl, h2⟩
  | exit id => exact hq
  | goto l => exact hq
  | ret => exact hq
  | panic ch => exact hq
  | outgrown => exact hq
theorem nx_round {τ : Type} {I : τ → List Fact} {μ : τ → Nat} {s : τ} (s' : τ) (hm : μ s' < μ s) (idx : List Nat) (h : idx.map (fun n => fs[n]?) = (I s').map some) : Nx F fs (Exit.then (fun a w => ∃ s', μ s' < μ s ∧ Fs F (I s') a w) Q) :=
  fun _ _ hf => ⟨s', hm, fs_sub idx h hf⟩
end
end O
end Go.Proofs.Ytogodjiemgilaaa

/- The logic over objects: functions and calls. -/
namespace Go.Proofs.Ytogodjiemgilaaa
open Go.RowKit
namespace O
/-- what several have, each apart -/
theorem AllS.split {Z : Foot} {w : World} : ∀ {Rs : List HA} {vs : List Value} {S : Foot}, AllS Z Rs vs w S →
    ∃ F : Nat → Foot, (∀ (j : Nat) (R : HA) (v : Value), Rs[j]? = some R → vs[j]? = some v → R.p Z v w (F j)) ∧ (∀ j k b, j ≠ k → F j b → ¬ F k b) ∧ (∀ j b, F j b → S b)
  | [], [], S, _ => ⟨fun _ _ => False, fun j _ _ h => by simp at h, fun _ _ _ _ h => h.elim, fun _ _ h => h.elim⟩
  | R :: Rs, v :: vs, S, ⟨S1, S2, e, d, h1, h2⟩ => by
    obtain ⟨F, f1, f2, f3⟩ := AllS.split h2
    refine ⟨fun j => match j with | 0 => S1 | j + 1 => F j, fun j R' v' hR hv => ?_, fun j k b hne hj hk => ?_, fun j b hj => ?_⟩
    · cases j with
      | zero => simp at hR hv; subst hR hv; exact h1
      | succ j => exact f1 j R' v' (by simpa using hR) (by simpa using hv)
    · cases j with
      | zero => cases k with
        | zero => exact hne rfl
        | succ k => exact d b hj (f3 k b hk)
      | succ j => cases k with
        | zero => exact d b hk (f3 j b hj)
        | succ k => exact f2 j k b (fun e => hne (by rw [e])) hj hk
    · cases j with
      | zero => exact (e b).2 (.inl hj)
      | succ j => exact (e b).2 (.inr (f3 j b hj))
  | [], _ :: _, _, h => h.elim
  | _ :: _, [], _, h => h.elim
theorem AllS.join {Z : Foot} {w : World} : ∀ {Rs : List HA} {vs : List Value} (F : Nat → Foot), vs.length = Rs.length → (∀ (j : Nat) (R : HA) (v : Value), Rs[j]? = some R → vs[j]? = some v → R.p Z v w (F j)) → (∀ j k b, j ≠ k → F j b → ¬ F k b) → AllS Z Rs vs w (fun b => ∃ j, j < Rs.length ∧ F j b)
  | [], [], F, _, _, _ => fun b ⟨j, hj, _⟩ => by simp at hj
  | R :: Rs, v :: vs, F, hl, h1, h2 => by
    refine ⟨F 0, fun b => ∃ j, j < Rs.length ∧ F (j + 1) b, fun b => ⟨fun ⟨j, hj, hb⟩ => ?_, fun hb => ?_⟩, fun b hb ⟨j, _, hj⟩ => h2 0 (j + 1) b (by omega) hb hj, h1 0 R v rfl rfl, AllS.join (fun j => F (j + 1)) (by simpa using hl) (fun j R' v' hR hv => h1 (j + 1) R' v' (by simpa using hR) (by simpa using hv)) fun j k b hne => h2 (j + 1) (k + 1) b (by omega)⟩
    · cases j with
      | zero => exact .inl hb
      | succ j => exact .inr ⟨j, by simpa using hj, hb⟩
    · rcases hb with hb | ⟨j, hj, hb⟩
      · exact ⟨0, by simp, hb⟩
      · exact ⟨j + 1, by simpa using hj, hb⟩
  | [], _ :: _, _, hl, _, _ => by simp at hl
  | _ :: _, [], _, hl, _, _ => by simp at hl

/-- how a call ends: with a value of its own, what it was handed as it is now; what it says is for good is new, or was handed to it -/
def postO (w : World) (Z S : Foot) (O' : List (Value × HA)) (R : HA) (e : Ending) (w' : World) : Prop :=
  ∃ (v : Value) (Z' S' T : Foot), e = .returned v ∧ (∀ b, Z b → Z' b) ∧ (∀ b, Z' b → Z b ∨ ((S b ∨ w.heap.size ≤ b) ∧ b < w'.heap.size)) ∧ AllS Z' (O'.map (·.2)) (O'.map (·.1)) w' S' ∧ R.p Z' v w' T ∧ (∀ b, S' b → ¬ T b) ∧
    (∀ b, S' b ∨ T b → (S b ∨ w.heap.size ≤ b) ∧ b < w'.heap.size ∧ ¬ Z' b) ∧ Turn S w w'
/-- a parameter: a value, something that is looked at, something that is handed over -/
inductive Par where
  | vp (x : VP)
  | bo (R : HA)
  | mv (R : HA)
def Par.mvR : Par → HA
  | .mv R => R
  | _ => HA.of VP.any
def Par.ok (Z Bf : Foot) (w : World) (v : Value) : Par → Prop
  | .vp x => x.p Z v w
  | .bo R => ∃ T : Foot, (∀ b, T b → Bf b) ∧ R.p Z v w T
  | .mv _ => True
/-- parameters qs; B is looked at; O is turned to O'; R is the result -/
def SpecO (P : Program) (f : FuncId) (qs : List Par) (B O O' : List (Value × HA)) (R : HA) : Prop :=
  ∀ (vs : Array Value) (w : World) (Z Bf S : Foot), vs.size = qs.length → (∀ (j : Nat) (q : Par), qs[j]? = some q → ∃ v, vs[j]? = some v ∧ q.ok Z Bf w v) → (∀ y ∈ B, ∃ T : Foot, (∀ b, T b → Bf b) ∧ y.2.p Z y.1 w T) →
    AllS Z (qs.map Par.mvR ++ O.map (·.2)) (vs.toList ++ O.map (·.1)) w S → (∀ b, Z b → b < w.heap.size) → (∀ b, Bf b → b < w.heap.size) → (∀ b, S b → b < w.heap.size ∧ ¬ Z b ∧ ¬ Bf b) → Calls P f vs w (postO w Z S O' R)

/-! ### a call -/
section
variable {X : Cx} {i : Nat} {pre suc : List Nat}
def Vr (X : Cx) (i : Nat) (pre suc : List Nat) (v : Value) (x : VP) : Prop := ∀ c γ a w, Sit X i pre suc c γ a w → x.p γ.Z v w
/-- what a call looks at, when il is used up -/
def BrwV (X : Cx) (il : List Nat) (c : Nat → Bool) (γ : Gho) (w : World) (v : Value) (R : HA) : Prop := ∃ S : Foot, R.p γ.Z v w S ∧ ∀ b, S b → X.Bf b ∨ ∃ k, k ∉ il ∧ γ.σ k b ∧ ∃ r R, Has X c (.own k r R)
/-- an argument; id: the blocks that it hands over -/
def Pa (X : Cx) (i : Nat) (pre suc : List Nat) (il : List Nat) (y : Operand) (q : Par) (id : Option Nat) : Prop := match q with
  | .vp x => Ar X i pre suc y x.p ∧ id = none
  | .bo R => (∀ c γ a w, Sit X i pre suc c γ a w → BrwV X il c γ w (a.eval y) R) ∧ id = none
  | .mv R => Mv X i pre suc y R id
theorem pa_vp {il : List Nat} {y : Operand} {x : VP} (h : Ar X i pre suc y x.p) : Pa X i pre suc il y (.vp x) none := ⟨h, rfl⟩
theorem pa_mv {il : List Nat} {y : Operand} {R : HA} {id : Option Nat} (h : Mv X i pre suc y R id) : Pa X i pre suc il y (.mv R) id := h
theorem pa_tmp {il : List Nat} {k id : Nat} {R : HA} (h : Av X i pre suc (.own id (.tmp k) R)) (hk : il.contains id = false) : Pa X i pre suc il (.tmp k) (.bo R) none := ⟨fun c γ a w s => by
  obtain ⟨v, h1, h2⟩ := h.h s
  rw [eval_tmp h1]
  exact ⟨γ.σ id, h2, fun b hb => .inr ⟨id, by simpa using hk, hb, _, _, h c γ a w s⟩⟩, rfl⟩
theorem pa_own {il : List Nat} {y : Operand} {id : Nat} {v : Value} {nu one : Bool} {R : HA} (h : Av X i pre suc (.own id (.val v) R)) (hk : il.contains id = false) (hy : Ar X i pre suc y (VP.eq v nu one).p) : Pa X i pre suc il y (.bo R) none := ⟨fun c γ a w s => by
  obtain ⟨u, h1, h2⟩ := h.h s
  have h1 : u = v := h1
  subst h1
  rw [(hy c γ a w s).1]
  exact ⟨γ.σ id, h2, fun b hb => .inr ⟨id, by simpa using hk, hb, _, _, h c γ a w s⟩⟩, rfl⟩
theorem pa_bor {il : List Nat} {y : Operand} {v : Value} {nu one : Bool} {R : HA} (h : Av X i pre suc (.bor (.val v) R)) (hy : Ar X i pre suc y (VP.eq v nu one).p) : Pa X i pre suc il y (.bo R) none := ⟨fun c γ a w s => by
  obtain ⟨u, S, h1, h2, h3⟩ := h.h s
  have h1 : u = v := h1
  subst h1
  rw [(hy c γ a w s).1]
  exact ⟨S, h3, fun b hb => .inl (h2 b hb)⟩, rfl⟩
theorem pa_bort {il : List Nat} {k : Nat} {R : HA} (h : Av X i pre suc (.bor (.tmp k) R)) : Pa X i pre suc il (.tmp k) (.bo R) none := ⟨fun c γ a w s => by
  obtain ⟨v, S, h1, h2, h3⟩ := h.h s
  rw [eval_tmp h1]
  exact ⟨S, h3, fun b hb => .inl (h2 b hb)⟩, rfl⟩
/-- a value that has no blocks, looked at -/
theorem pa_look {il : List Nat} {y : Operand} {R : HA} (h : ∀ c γ a w, Sit X i pre suc c γ a w → ∃ S : Foot, R.p γ.Z (a.eval y) w S ∧ ∀ b, ¬ S b) : Pa X i pre suc il y (.bo R) none := ⟨fun c γ a w s => by
  obtain ⟨S, h1, h2⟩ := h c γ a w s
  exact ⟨S, h1, fun b hb => (h2 b hb).elim⟩, rfl⟩
def Ars (X : Cx) (i : Nat) (pre suc : List Nat) (il : List Nat) : List Operand → List Value → List Par → List Nat → Prop
  | [], [], [], al => al = []
  | [], c :: cs, q :: qs, al => (∃ x, q = .vp x ∧ Vr X i pre suc c x) ∧ Ars X i pre suc il [] cs qs al
  | o :: os, cs, q :: qs, al => ∃ id al', al = id.toList ++ al' ∧ Pa X i pre suc il o q id ∧ Ars X i pre suc il os cs qs al'
  | _, _, _, _ => False
theorem ars_nil {il : List Nat} : Ars X i pre suc il [] [] [] [] := rfl
theorem ars_cap {il : List Nat} {c : Value} {cs : List Value} {x : VP} {qs : List Par} (h : Vr X i pre suc c x) (k : Ars X i pre suc il [] cs qs []) : Ars X i pre suc il [] (c :: cs) (.vp x :: qs) [] := ⟨⟨x, rfl, h⟩, k⟩
theorem ars_cons {il : List Nat} {o : Operand} {os : List Operand} {cs : List Value} {q : Par} {qs : List Par} {al : List Nat} (h : Pa X i pre suc il o q none) (k : Ars X i pre suc il os cs qs al) : Ars X i pre suc il (o :: os) cs (q :: qs) al := ⟨none, al, rfl, h, k⟩
theorem ars_mv {il : List Nat} {o : Operand} {os : List Operand} {cs : List Value} {q : Par} {qs : List Par} {al : List Nat} {id : Nat} (h : Pa X i pre suc il o q (some id)) (k : Ars X i pre suc il os cs qs al) : Ars X i pre suc il (o :: os) cs (q :: qs) (id :: al) := ⟨some id, al, rfl, h, k⟩
theorem Ars.len {il : List Nat} : ∀ {os : List Operand} {cs : List Value} {qs : List Par} {al : List Nat}, Ars X i pre suc il os cs qs al → os.length + cs.length = qs.length
  | [], [], [], _, _ => rfl
  | [], _ :: _, _ :: _, _, h => by have := Ars.len h.2; simp at this ⊢; omega
  | _ :: _, _, _ :: _, _, ⟨_, _, _, _, h⟩ => by have := Ars.len h; simp at this ⊢; omega
  | [], [], _ :: _, _, h => h.elim
  | [], _ :: _, [], _, h => h.elim
  | _ :: _, _, [], _, h => h.elim
theorem Ars.ok {il : List Nat} {c : Nat → Bool} {γ : Gho} {a : Act} {w : World} (s : Sit X i pre suc c γ a w) : ∀ {os : List Operand} {cs : List Value} {qs : List Par} {al : List Nat}, Ars X i pre suc il os cs qs al → ∀ (j : Nat) (q : Par), qs[j]? = some q → ∃ v, (os.map a.eval ++ cs)[j]? = some v ∧ q.ok γ.Z (fun b => X.Bf b ∨ ∃ k, k ∉ il ∧ γ.σ k b ∧ ∃ r R, Has X c (.own k r R)) w v
  | [], [], [], _, _, j, q, hq => by simp at hq
  | [], cv :: cs, p :: qs, _, ⟨⟨x, e, h1⟩, h⟩, j, q, hq => by
    cases j with
    | zero => simp at hq; subst hq e; exact ⟨cv, rfl, h1 c γ a w s⟩
    | succ j => simpa using Ars.ok s h j q (by simpa using hq)
  | o :: os, cs, p :: qs, _, ⟨id, al', _, h1, h⟩, j, q, hq => by
    cases j with
    | zero =>
      simp at hq; subst hq
      refine ⟨a.eval o, rfl, ?_⟩
      cases p with
      | vp x => exact h1.1 c γ a w s
      | bo R => obtain ⟨S, h2, h3⟩ := h1.1 c γ a w s; exact ⟨S, h3, h2⟩
      | mv R => trivial
    | succ j => simpa using Ars.ok s h j q (by simpa using hq)
  | [], [], _ :: _, _, h, _, _, _ => h.elim
  | [], _ :: _, [], _, h, _, _, _ => h.elim
  | _ :: _, _, [], _, h, _, _, _ => h.elim
theorem Ars.mvs {il : List Nat} {c : Nat → Bool} {γ : Gho} {a : Act} {w : World} (s : Sit X i pre suc c γ a w) : ∀ {os : List Operand} {cs : List Value} {qs : List Par} {al : List Nat}, Ars X i pre suc il os cs qs al → al.Nodup → ∃ S, AllS γ.Z (qs.map Par.mvR) (os.map a.eval ++ cs) w S ∧ ∀ b, S b → ∃ k ∈ al, γ.σ k b ∧ ∃ r R, Has X c (.own k r R)
  | [], [], [], _, _, _ => ⟨fun _ => False, fun _ h => h, fun _ h => h.elim⟩
  | [], cv :: cs, p :: qs, _, ⟨⟨x, e, _⟩, h⟩, hn => by
    obtain ⟨S, h1, h2⟩ := Ars.mvs s h hn
    subst e
    exact ⟨S, ⟨fun _ => False, S, fun b => by simp, fun _ h => h.elim, ⟨trivial, fun _ h => h⟩, h1⟩, h2⟩
  | o :: os, cs, p :: qs, al, ⟨id, al', e, h1, h⟩, hn => by
    subst e
    rw [List.nodup_append] at hn
    obtain ⟨S, h2, h3⟩ := Ars.mvs s h hn.2.1
    have noth : p.mvR = HA.of VP.any → ∃ S', AllS γ.Z (p.mvR :: qs.map Par.mvR) (a.eval o :: (os.map a.eval ++ cs)) w S' ∧ ∀ b, S' b → ∃ k ∈ id.toList ++ al', γ.σ k b ∧ ∃ r R, Has X c (.own k r R) := fun e => by
      rw [e]
      exact ⟨S, ⟨fun _ => False, S, fun b => by simp, fun _ h => h.elim, ⟨trivial, fun _ h => h⟩, h2⟩, fun b hb => by
        obtain ⟨k, hk, h⟩ := h3 b hb
        exact ⟨k, List.mem_append_right _ hk, h⟩⟩
    cases p with
    | vp x => exact noth rfl
    | bo R => exact noth rfl
    | mv R =>
      obtain ⟨S1, k1, k2⟩ := h1 c γ a w s
      refine ⟨fun b => S1 b ∨ S b, ⟨S1, S, fun b => Iff.rfl, fun b hb hb' => ?_, k1, h2⟩, fun b hb => ?_⟩
      · obtain ⟨k, hk, m1, r1, R1, m2⟩ := k2 b hb
        obtain ⟨k', hk', m3, r2, R2, m4⟩ := h3 b hb'
        exact s.g.sep k r1 R1 k' r2 R2 m2 m4 (hn.2.2 k (by simpa [Option.mem_toList] using hk) k' hk') b m1 m3
      · rcases hb with hb | hb
        · obtain ⟨k, hk, h⟩ := k2 b hb
          exact ⟨k, List.mem_append_left _ (by simpa [Option.mem_toList] using hk), h⟩
        · obtain ⟨k, hk, h⟩ := h3 b hb
          exact ⟨k, List.mem_append_right _ hk, h⟩
  | [], [], _ :: _, _, h, _ => h.elim
  | [], _ :: _, [], _, h, _ => h.elim
  | _ :: _, _, [], _, h, _ => h.elim
def Owns (X : Cx) (i : Nat) (pre suc : List Nat) : List Nat → List (Value × HA) → Prop
  | [], [] => True
  | k :: ks, y :: ys => Av X i pre suc (.own k (.val y.1) y.2) ∧ Owns X i pre suc ks ys
  | _, _ => False
theorem Owns.len : ∀ {il : List Nat} {O : List (Value × HA)}, Owns X i pre suc il O → il.length = O.length
  | [], [], _ => rfl
  | _ :: _, _ :: _, h => by simp [Owns.len h.2]
  | [], _ :: _, h => h.elim
  | _ :: _, [], h => h.elim
theorem Owns.get : ∀ {il : List Nat} {O : List (Value × HA)}, Owns X i pre suc il O → ∀ {j k : Nat} {y : Value × HA}, il[j]? = some k → O[j]? = some y → Av X i pre suc (.own k (.val y.1) y.2)
  | _ :: _, _ :: _, h, 0, k, y, h1, h2 => by simp at h1 h2; subst h1 h2; exact h.1
  | _ :: _, _ :: _, h, j + 1, k, y, h1, h2 => Owns.get h.2 (j := j) (by simpa using h1) (by simpa using h2)
  | [], [], _, _, _, _, h1, _ => by simp at h1
  | [], _ :: _, h, _, _, _, _, _ => h.elim
  | _ :: _, [], h, _, _, _, _, _ => h.elim
/-- what a call looks at -/
def Brw (X : Cx) (i : Nat) (pre suc : List Nat) (il : List Nat) (y : Value × HA) : Prop := ∀ c γ a w, Sit X i pre suc c γ a w → ∃ S : Foot, y.2.p γ.Z y.1 w S ∧ ∀ b, S b → X.Bf b ∨ ∃ k, k ∉ il ∧ γ.σ k b ∧ ∃ r R, Has X c (.own k r R)
theorem brw_own {il : List Nat} {k : Nat} {v : Value} {R : HA} (h : Av X i pre suc (.own k (.val v) R)) (hk : il.contains k = false) : Brw X i pre suc il (v, R) := fun c γ a w s => by
  obtain ⟨u, h1, h2⟩ := h.h s
  have h1 : u = v := h1
  subst h1
  exact ⟨γ.σ k, h2, fun b hb => .inr ⟨k, by simpa using hk, hb, _, _, h c γ a w s⟩⟩
theorem brw_bor {il : List Nat} {v : Value} {R : HA} (h : Av X i pre suc (.bor (.val v) R)) : Brw X i pre suc il (v, R) := fun c γ a w s => by
  obtain ⟨u, S, h1, h2, h3⟩ := h.h s
  have h1 : u = v := h1
  subst h1
  exact ⟨S, h3, fun b hb => .inl (h2 b hb)⟩
def Brws (X : Cx) (i : Nat) (pre suc : List Nat) (il : List Nat) : List (Value × HA) → Prop
  | [] => True
  | y :: ys => Brw X i pre suc il y ∧ Brws X i pre suc il ys
theorem Brws.get {il : List Nat} : ∀ {B : List (Value × HA)}, Brws X i pre suc il B → ∀ y ∈ B, Brw X i pre suc il y
  | _ :: _, h, y, hy => by
    rcases List.mem_cons.1 hy with rfl | hy
    · exact h.1
    · exact Brws.get h.2 y hy
  | [], _, y, hy => by cases hy
def zipOwn : List Nat → List (Value × HA) → List Fact
  | k :: ks, y :: ys => .own k (.val y.1) y.2 :: zipOwn ks ys
  | _, _ => []
theorem zipOwn_mem : ∀ {il : List Nat} {O : List (Value × HA)} {f : Fact}, f ∈ zipOwn il O → ∃ (j k : Nat) (y : Value × HA), il[j]? = some k ∧ O[j]? = some y ∧ f = .own k (.val y.1) y.2
  | k :: ks, y :: ys, f, h => by
    unfold zipOwn at h
    rcases List.mem_cons.1 h with rfl | h
    · exact ⟨0, k, y, rfl, rfl, rfl⟩
    · obtain ⟨j, k', y', h1, h2, h3⟩ := zipOwn_mem h
      exact ⟨j + 1, k', y', by simpa using h1, by simpa using h2, h3⟩
  | [], _, _, h => by simp [zipOwn] at h
  | _ :: _, [], _, h => by simp [zipOwn] at h
theorem run_clo {P : Program} {f : FuncId} {cs : List Value} {o : Oper} {y : Operand} {ags : Array Operand} {ts : Array TypeId} {a : Act} {w : World} (hop : o.op = .call { callee := .value y, args := ags, argTypes := ts }) (hb : hasBody P f = true) (ey : a.eval y = .func (.func f) #[] cs.toArray) :
    (execOp a.eval o).run P w = .ok (.enter f (ags.map a.eval ++ cs.toArray)) w := by
  unfold hasBody at hb
  unfold execOp; rw [hop]
  cases hf : P.funcs[f]? with
  | none => rw [hf] at hb; cases hb
  | some fn =>
    rw [hf] at hb
    simp only [Bool.and_eq_true, Bool.not_eq_true', beq_eq_false_iff_ne, ne_eq, Option.isSome_iff_ne_none] at hb
    simp [resolve, ey, Deferred.ofValue, invoke, callFunc, hf, hb.1, hb.2]
theorem ar_clo {f : FuncId} : Ar X i pre suc (.func f) (VP.clo f []).p := fun _ _ _ _ _ => rfl
/-- what a call lays: in d its result (if it has one), and what it turned -/
def callRes (d : Option Nat) (id : Nat) (R : HA) (il : List Nat) (O' : List (Value × HA)) : List Fact := (match d with | some d => [Fact.own id (.tmp d) R] | none => []) ++ zipOwn il O'
theorem does_callG {o : Oper} {d : Option Nat} {f : FuncId} {cs : List Value} {y : Operand} {ags : Array Operand} {ts : Array TypeId} {qs : List Par} {B O O' : List (Value × HA)} {R : HA} (al il il' : List Nat) (id : Nat) (ri : List Nat) (hs : SpecO X.P f qs B O O' R)
    (hop : o.op = .call { callee := .value y, args := ags, argTypes := ts }) (hbd : hasBody X.P f = true) (hd : o.dst = d) (hlt : d.all (fun d => decide (d < X.N)) = true) (hc : chkM X i pre suc d (id :: ((al ++ il) ++ il')) = true) (hnd : (decide ((al ++ il).Nodup) && decide ((id :: il').Nodup) && (il'.length == O'.length)) = true)
    (hr : ri.map (fun n => (callRes d id R il' O')[n]?) = (resOf X i).map some)
    (hy : Ar X i pre suc y (VP.clo f cs).p) (h : Ars X i pre suc (al ++ il) ags.toList cs qs al) (hB : Brws X i pre suc (al ++ il) B) (hO : Owns X i pre suc il O) : Does X i pre suc o := by
  intro c γ a w s Q K hK
  simp only [Bool.and_eq_true, decide_eq_true_eq, beq_iff_eq] at hnd
  obtain ⟨⟨n1, n2⟩, n3⟩ := hnd
  have n1' := List.nodup_append.1 n1
  have ey : a.eval y = .func (.func f) #[] cs.toArray := hy c γ a w s
  unfold Oper.wp
  rw [run_clo hop hbd ey]
  show Calls X.P f (ags.map a.eval ++ cs.toArray) w _
  -- what is handed over
  have hOl := hO.len
  have hS : AllS γ.Z (O.map (·.2)) (O.map (·.1)) w (fun b => ∃ j, j < (O.map (·.2)).length ∧ γ.σ (il.getD j 0) b) := by
    have : ∃ G : Nat → Foot, (∀ j, j < O.length → G j = γ.σ (il.getD j 0)) ∧ (∀ j k b, j ≠ k → G j b → ¬ G k b) := by
      refine ⟨fun j b => j < O.length ∧ γ.σ (il.getD j 0) b, fun j hj => funext fun b => propext ⟨fun h => h.2, fun h => ⟨hj, h⟩⟩, fun j k b hne hj hk => ?_⟩
      have e1 : il[j]? = some (il.getD j 0) := by rw [List.getD_eq_getElem?_getD, List.getElem?_eq_getElem (by omega)]; rfl
      have e2 : il[k]? = some (il.getD k 0) := by rw [List.getD_eq_getElem?_getD, List.getElem?_eq_getElem (by omega)]; rfl
      refine s.g.sep _ _ _ _ _ _ (hO.get e1 (List.getElem?_eq_getElem hj.1) c γ a w s) (hO.get e2 (List.getElem?_eq_getElem hk.1) c γ a w s) (fun e => hne ?_) b hj.2 hk.2
      have h3 : j < il.length := by omega
      rw [e, ← e2] at e1
      exact (List.getElem?_inj h3 n1'.2.1).1 e1
    obtain ⟨G, g1, g2⟩ := this
    have := AllS.join (Z := γ.Z) (w := w) (Rs := O.map (·.2)) (vs := O.map (·.1)) G (by simp) (fun j R' v hR hv => ?_) g2
    · refine this.subS fun b => ⟨fun ⟨j, hj, hb⟩ => ⟨j, hj, ?_⟩, fun ⟨j, hj, hb⟩ => ⟨j, hj, ?_⟩⟩
      · rw [← g1 j (by simpa using hj)]; exact hb
      · rw [g1 j (by simpa using hj)]; exact hb
    · rw [List.getElem?_map, Option.map_eq_some_iff] at hR hv
      obtain ⟨y1, hy1, rfl⟩ := hR
      obtain ⟨y2, hy2, rfl⟩ := hv
      rw [hy1] at hy2
      injection hy2 with hy2
      subst hy2
      have hj := (List.getElem?_eq_some_iff.1 hy1).1
      have e1 : il[j]? = some (il.getD j 0) := by rw [List.getD_eq_getElem?_getD, List.getElem?_eq_getElem (by omega)]; rfl
      obtain ⟨u, h1, h2⟩ := (hO.get e1 hy1).h s
      have h1 : u = y1.1 := h1
      subst h1
      rw [g1 j hj]; exact h2
  have hSk : ∀ b, (∃ j, j < (O.map (·.2)).length ∧ γ.σ (il.getD j 0) b) → ∃ k ∈ il, γ.σ k b ∧ ∃ r R, Has X c (.own k r R) := fun b ⟨j, hj, hb⟩ => by
    have hj : j < O.length := by simpa using hj
    have e1 : il[j]? = some (il.getD j 0) := by rw [List.getD_eq_getElem?_getD, List.getElem?_eq_getElem (by omega)]; rfl
    exact ⟨_, List.mem_of_getElem? e1, hb, _, _, hO.get e1 (List.getElem?_eq_getElem hj) c γ a w s⟩
  obtain ⟨SA, a1, a2⟩ := h.mvs s n1'.1
  have hall := AllS.app a1 hS fun b hb hb' => by
    obtain ⟨k, hk, m1, r1, R1, m2⟩ := a2 b hb
    obtain ⟨k', hk', m3, r2, R2, m4⟩ := hSk b hb'
    exact s.g.sep k r1 R1 k' r2 R2 m2 m4 (n1'.2.2 k hk k' hk') b m1 m3
  have hSk2 : ∀ b, (SA b ∨ ∃ j, j < (O.map (·.2)).length ∧ γ.σ (il.getD j 0) b) → ∃ k ∈ al ++ il, γ.σ k b ∧ ∃ r R, Has X c (.own k r R) := fun b hb => by
    rcases hb with hb | hb
    · obtain ⟨k, hk, h⟩ := a2 b hb; exact ⟨k, List.mem_append_left _ hk, h⟩
    · obtain ⟨k, hk, h⟩ := hSk b hb; exact ⟨k, List.mem_append_right _ hk, h⟩
  generalize hSd : (fun b => SA b ∨ ∃ j, j < (O.map (·.2)).length ∧ γ.σ (il.getD j 0) b) = S at hall
  have hSk' : ∀ b, S b → ∃ k ∈ al ++ il, γ.σ k b ∧ ∃ r R, Has X c (.own k r R) := fun b hb => hSk2 b (by rw [← hSd] at hb; exact hb)
  have eargs : (ags.map a.eval ++ cs.toArray).toList = ags.toList.map a.eval ++ cs := by simp
  refine (hs _ w γ.Z (fun b => X.Bf b ∨ ∃ k, k ∉ al ++ il ∧ γ.σ k b ∧ ∃ r R, Has X c (.own k r R)) S ?_ (fun j q hj => ?_) (fun y hy => ?_) (by rw [eargs]; exact hall) (fun b hb => (s.g.zof b hb).1) (fun b hb => ?_) (fun b hb => ?_)).mono ?_
  · have := h.len
    simpa using this
  · obtain ⟨v, h1, h2⟩ := h.ok s j q hj
    refine ⟨v, ?_, h2⟩
    rw [← Array.getElem?_toList, eargs]; exact h1
  · obtain ⟨T, h1, h2⟩ := hB.get y hy c γ a w s
    exact ⟨T, h2, h1⟩
  · rcases hb with hb | ⟨k, _, hb, r, R', h1⟩
    · exact Nat.lt_of_lt_of_le (s.g.ok.b b hb) s.g.turn.size
    · exact (s.g.bnd k r R' h1 b hb).1
  · obtain ⟨k, hk, h1, r, R', h2⟩ := hSk' b hb
    have h3 := s.g.bnd k r R' h2 b h1
    refine ⟨h3.1, h3.2.2, fun h4 => ?_⟩
    rcases h4 with h4 | ⟨k', hk', h4, r'', R'', h5⟩
    · rcases h3.2.1 with h | h
      · have := s.g.ok.b b h4
        have this : b < X.w0.heap.size := this
        have h : X.w0.heap.size ≤ b := h
        omega
      · exact (s.g.ok.s b h).2.2 h4
    · exact s.g.sep k r R' k' r'' R'' h2 h5 (fun e => hk' (e ▸ hk)) b h1 h4
  · rintro e w' ⟨v, Z', S', T, rfl, z1, z2, p1, p2, p3, p4, t⟩
    show K (a.put o.dst v) w'
    rw [hd]
    obtain ⟨G, g1, g2, g3⟩ := p1.split
    have hres : ∀ f ∈ resOf X i, f ∈ callRes d id R il' O' := fun f hf => by
      have : some f ∈ ri.map (fun n => (callRes d id R il' O')[n]?) := by rw [hr]; exact List.mem_map.2 ⟨f, hf, rfl⟩
      obtain ⟨n, _, hn⟩ := List.mem_map.1 this
      exact List.mem_of_getElem? hn
    have hnd2 := List.nodup_cons.1 n2
    let σ' : Nat → Foot := fun k => if k = id then T else if k ∈ il' then G (il'.idxOf k) else γ.σ k
    have s1 : σ' id = T := if_pos rfl
    have s2 : ∀ {j k : Nat}, il'[j]? = some k → σ' k = G j := fun {j k} hk => by
      have hm := List.mem_of_getElem? hk
      have hne : k ≠ id := fun e => hnd2.1 (e ▸ hm)
      show (if k = id then T else if k ∈ il' then G (il'.idxOf k) else γ.σ k) = G j
      rw [if_neg hne, if_pos hm]
      obtain ⟨hj, rfl⟩ := List.getElem?_eq_some_iff.1 hk
      rw [hnd2.2.idxOf_getElem]
    have hpos : ∀ {f : Fact}, f ∈ callRes d id R il' O' → (∃ d', d = some d' ∧ f = .own id (.tmp d') R) ∨ ∃ (j k : Nat) (y : Value × HA), il'[j]? = some k ∧ O'[j]? = some y ∧ f = .own k (.val y.1) y.2 := fun {f} hf => by
      unfold callRes at hf
      rw [List.mem_append] at hf
      rcases hf with hf | hf
      · cases d with
        | none => cases hf
        | some d => rw [List.mem_singleton] at hf; exact .inl ⟨d, rfl, hf⟩
      · exact .inr (zipOwn_mem hf)
    have hfoot : ∀ {k : Nat} {r : Ref} {R' : HA}, Fact.own k r R' ∈ resOf X i → (k = id ∧ ∀ b, σ' k b → T b) ∨ ∃ j, il'[j]? = some k ∧ ∀ b, σ' k b → G j b := fun {k r R'} hf => by
      rcases hpos (hres _ hf) with ⟨d', _, e⟩ | ⟨j, k', y', h1, h2, e⟩
      · injection e with e; subst e; exact .inl ⟨rfl, fun b hb => by rw [s1] at hb; exact hb⟩
      · injection e with e; subst e; exact .inr ⟨j, h1, fun b hb => by rw [s2 h1] at hb; exact hb⟩
    refine hK ⟨σ', Z'⟩ _ _ (good_step (γ := γ) (γ' := ⟨σ', Z'⟩) s hc S (fun b hb => ?_) (by rw [put_size]; exact s.g.sz) (by rw [put_defers']; exact s.g.df) t (fun f hf w h => ?_) z1 z2 (fun k hk => ?_) (fun f hf => ?_) (fun k r R' hf b hb => ?_) (fun k r R' k' r' R'' hf hf' hne b hb hb' => ?_))
    · obtain ⟨k, hk, h1, h2⟩ := hSk' b hb
      exact ⟨k, List.mem_cons_of_mem _ (List.mem_append_left _ hk), h1, h2⟩
    · cases d with
      | none => exact h
      | some d => exact fact_put h (by simpa using hf)
    · simp only [List.mem_cons, List.mem_append, not_or] at hk
      show (if k = id then T else if k ∈ il' then G (il'.idxOf k) else γ.σ k) = γ.σ k
      rw [if_neg hk.1, if_neg hk.2.2]
    · rcases hpos (hres f hf) with ⟨d', rfl, rfl⟩ | ⟨j, k, y', h1, h2, rfl⟩
      · refine ⟨v, put_eq v ?_, by show R.p Z' v w' (σ' id); rw [s1]; exact p2⟩
        rw [s.g.sz]
        simpa using hlt
      · refine ⟨y'.1, rfl, ?_⟩
        show y'.2.p Z' y'.1 w' (σ' k)
        rw [s2 h1]
        exact g1 j y'.2 y'.1 (by rw [List.getElem?_map, h2]; rfl) (by rw [List.getElem?_map, h2]; rfl)
    · rcases hfoot hf with ⟨_, h1⟩ | ⟨j, _, h1⟩
      · exact p4 b (.inr (h1 b hb))
      · exact p4 b (.inl (g3 j b (h1 b hb)))
    · rcases hfoot hf with ⟨e1, h1⟩ | ⟨j, e1, h1⟩ <;> rcases hfoot hf' with ⟨e2, h2⟩ | ⟨j', e2, h2⟩
      · exact hne (e1.trans e2.symm)
      · exact p3 b (g3 j' b (h2 b hb')) (h1 b hb)
      · exact p3 b (g3 j b (h1 b hb)) (h2 b hb')
      · refine g2 j j' b (fun e => hne ?_) (h1 b hb) (h2 b hb')
        subst e
        rw [e1] at e2; injection e2
/-- a call that turns nothing -/
theorem does_call {o : Oper} {d : Nat} {f : FuncId} {cs : List Value} {y : Operand} {ags : Array Operand} {ts : Array TypeId} {qs : List Par} {B : List (Value × HA)} {x : VP} (hs : SpecO X.P f qs B [] [] (HA.of x))
    (hz : ∀ (Z Z' : Foot) (v : Value) (w : World), x.p Z v w → x.p Z' v w)
    (hop : o.op = .call { callee := .value y, args := ags, argTypes := ts }) (hbd : hasBody X.P f = true) (hd : o.dst = some d) (hlt : decide (d < X.N) = true) (hc : chk X i pre suc d = true)
    (hr : resOf X i = [.slot d x])
    (hy : Ar X i pre suc y (VP.clo f cs).p) (h : Ars X i pre suc [] ags.toList cs qs []) (hB : Brws X i pre suc [] B) : Does X i pre suc o :=
  does_val hd hlt hc hr rfl fun c γ a w s Q K hK => by
    have ey : a.eval y = .func (.func f) #[] cs.toArray := hy c γ a w s
    unfold Oper.wp
    rw [run_clo hop hbd ey]
    show Calls X.P f (ags.map a.eval ++ cs.toArray) w _
    have eargs : (ags.map a.eval ++ cs.toArray).toList = ags.toList.map a.eval ++ cs := by simp
    obtain ⟨SA, a1, a2⟩ := h.mvs s List.nodup_nil
    have hno : ∀ b, ¬ SA b := fun b hb => by obtain ⟨k, hk, _⟩ := a2 b hb; cases hk
    refine (hs _ w γ.Z (fun b => X.Bf b ∨ ∃ k, k ∉ [] ∧ γ.σ k b ∧ ∃ r R, Has X c (.own k r R)) SA ?_ (fun j q hj => ?_) (fun y hy => ?_) (by rw [eargs]; simpa using a1) (fun b hb => (s.g.zof b hb).1) (fun b hb => ?_) (fun b hb => (hno b hb).elim)).mono ?_
    · have := h.len
      simpa using this
    · obtain ⟨v, h1, h2⟩ := h.ok s j q hj
      refine ⟨v, ?_, h2⟩
      rw [← Array.getElem?_toList, eargs]; exact h1
    · obtain ⟨T, h1, h2⟩ := hB.get y hy c γ a w s
      exact ⟨T, h2, h1⟩
    · rcases hb with hb | ⟨k, _, hb, r, R', h1⟩
      · exact Nat.lt_of_lt_of_le (s.g.ok.b b hb) s.g.turn.size
      · exact (s.g.bnd k r R' h1 b hb).1
    · rintro e w' ⟨v, Z', S', T, rfl, z1, z2, p1, p2, p3, p4, t⟩
      show K (a.put o.dst v) w'
      rw [hd]
      exact hK v w' (t.to_ext hno) (slot_put s.g.sz hlt (hz Z' γ.Z v w' p2.1))
end

/-! ### a function -/
def Par.fact (k : Nat) : Par → Fact
  | .vp x => .slot k x
  | .bo R => .bor (.tmp k) R
  | .mv R => .own (1000 + k) (.tmp k) R
def paramFacts : List Par → Nat → List Fact
  | [], _ => []
  | x :: xs, k => x.fact k :: paramFacts xs (k + 1)
theorem paramFacts_mem : ∀ {xs : List Par} {k : Nat} {f : Fact}, f ∈ paramFacts xs k → ∃ (j : Nat) (x : Par), xs[j]? = some x ∧ f = x.fact (k + j)
  | x :: xs, k, f, h => by
    simp only [paramFacts, List.mem_cons] at h
    rcases h with rfl | h
    · exact ⟨0, x, rfl, rfl⟩
    · obtain ⟨j, y, h1, h2⟩ := paramFacts_mem h
      exact ⟨j + 1, y, by simpa using h1, by rw [h2, show k + 1 + j = k + (j + 1) by omega]⟩
def ownFacts : List (Value × HA) → Nat → List Fact
  | [], _ => []
  | y :: ys, k => .own k (.val y.1) y.2 :: ownFacts ys (k + 1)
theorem ownFacts_mem : ∀ {O : List (Value × HA)} {k : Nat} {f : Fact}, f ∈ ownFacts O k → ∃ (j : Nat) (y : Value × HA), O[j]? = some y ∧ f = .own (k + j) (.val y.1) y.2
  | x :: xs, k, f, h => by
    simp only [ownFacts, List.mem_cons] at h
    rcases h with rfl | h
    · exact ⟨0, x, rfl, rfl⟩
    · obtain ⟨j, y, h1, h2⟩ := ownFacts_mem h
      exact ⟨j + 1, y, by simpa using h1, by rw [h2]; congr 1; omega⟩
def borFacts (B : List (Value × HA)) : List Fact := B.map fun y => .bor (.val y.1) y.2
def initFacts (qs : List Par) (B O : List (Value × HA)) : List Fact := paramFacts qs 0 ++ (ownFacts O 0 ++ borFacts B)
theorem spec_of {P : Program} {f : FuncId} {fn : Func} {c : Code} {qs : List Par} {B O O' : List (Value × HA)} {R : HA} (N : Nat) (hf : P.funcs[f]? = some fn) (hc : fn.body = some c) (hN : fn.ntmps = N) (hx : (decide (qs.length ≤ N) && decide (O.length < 1000)) = true)
    (h : ∀ w0 S0 Z0 Bf, T ⟨P, w0, S0, Z0, Bf, N⟩ (initFacts qs B O) c (bodyPost P fn (postO w0 Z0 S0 O' R))) : SpecO P f qs B O O' R := by
  intro vs w Z Bf S hs hv hB hO hz hb hS
  simp only [Bool.and_eq_true, decide_eq_true_eq] at hx
  obtain ⟨G, g1, g2, g3⟩ := hO.split
  have hvl : vs.toList.length = qs.length := by simpa using hs
  let pos : Nat → Nat := fun k => if k < 1000 then qs.length + k else k - 1000
  have own : ∀ {k : Nat} {r : Ref} {R : HA}, Fact.own k r R ∈ initFacts qs B O → (k < O.length ∧ k < 1000) ∨ (1000 ≤ k ∧ k - 1000 < qs.length) := fun {k r R} hm => by
    unfold initFacts at hm
    rw [List.mem_append, List.mem_append] at hm
    rcases hm with hm | hm | hm
    · obtain ⟨j, x, h1, e⟩ := paramFacts_mem hm
      cases x with
      | vp x => cases e
      | bo R => cases e
      | mv R =>
        injection e with e1
        have := (List.getElem?_eq_some_iff.1 h1).1
        exact .inr (by omega)
    · obtain ⟨j, y, h1, e⟩ := ownFacts_mem hm
      injection e with e1
      have := (List.getElem?_eq_some_iff.1 h1).1
      exact .inl (by omega)
    · unfold borFacts at hm
      obtain ⟨y, _, e⟩ := List.mem_map.1 hm; cases e
  refine calls_of_wp hf hc (h w S Z Bf _ w ⟨⟨fun k => G (pos k), Z⟩, ⟨hS, hz, hb⟩, ?_, rfl, .refl _ _, fun _ h => h, fun b hb => ⟨hz b hb, .inl hb⟩, ?_, fun k r R k' r' R' h1 h2 hne b hb => ?_, fun k r R h1 b hb => ?_⟩)
  · simp; omega
  · intro fa hfa
    unfold initFacts at hfa
    rw [List.mem_append, List.mem_append] at hfa
    rcases hfa with hfa | hfa | hfa
    · obtain ⟨j, x, h1, rfl⟩ := paramFacts_mem hfa
      obtain ⟨v, h2, h3⟩ := hv j x h1
      rw [Nat.zero_add]
      have hj := (Array.getElem?_eq_some_iff.1 h2).1
      have hden : Ref.den (Act.mk (vs ++ Array.replicate (fn.ntmps - vs.size) undef) []) (.tmp j) v := by
        show (vs ++ _)[j]? = some v
        rw [Array.getElem?_append_left hj]; exact h2
      cases x with
      | vp x => exact ⟨v, hden, h3⟩
      | bo R => obtain ⟨T, h4, h5⟩ := h3; exact ⟨v, T, hden, h4, h5⟩
      | mv R =>
        refine ⟨v, hden, ?_⟩
        show R.p Z v w (G (pos (1000 + j)))
        have : pos (1000 + j) = j := by show (if 1000 + j < 1000 then _ else 1000 + j - 1000) = j; rw [if_neg (by omega)]; omega
        rw [this]
        have hjq := (List.getElem?_eq_some_iff.1 h1).1
        exact g1 j R v (by rw [List.getElem?_append_left (by simpa using hjq), List.getElem?_map, h1]; rfl) (by rw [List.getElem?_append_left (by omega), Array.getElem?_toList]; exact h2)
    · obtain ⟨j, y, h1, rfl⟩ := ownFacts_mem hfa
      refine ⟨y.1, rfl, ?_⟩
      rw [Nat.zero_add]
      show y.2.p Z y.1 w (G (pos j))
      have hj := (List.getElem?_eq_some_iff.1 h1).1
      have : pos j = qs.length + j := if_pos (by omega)
      rw [this]
      exact g1 _ y.2 y.1 (by rw [List.getElem?_append_right (by simp), List.length_map, Nat.add_sub_cancel_left, List.getElem?_map, h1]; rfl) (by rw [List.getElem?_append_right (by omega), hvl, Nat.add_sub_cancel_left, List.getElem?_map, h1]; rfl)
    · unfold borFacts at hfa
      obtain ⟨y, hy, rfl⟩ := List.mem_map.1 hfa
      obtain ⟨T, h1, h2⟩ := hB y hy
      exact ⟨y.1, T, rfl, h1, h2⟩
  · refine g2 (pos k) (pos k') b (fun e => hne ?_) hb
    have e : (if k < 1000 then qs.length + k else k - 1000) = (if k' < 1000 then qs.length + k' else k' - 1000) := e
    rcases own h1 with h1 | h1 <;> rcases own h2 with h2 | h2
    · rw [if_pos h1.2, if_pos h2.2] at e; omega
    · rw [if_pos h1.2, if_neg (by omega)] at e; omega
    · rw [if_neg (by omega), if_pos h2.2] at e; omega
    · rw [if_neg (by omega), if_neg (by omega)] at e; omega
  · have hb : G (pos k) b := hb
    have := hS b (g3 _ b hb)
    exact ⟨this.1, .inr (g3 _ b hb), this.2.1⟩

/-! ### how it ends -/
section
variable {F : Fr} {fs : List Fact}
def GF (F : Fr) (fs : List Fact) (γ : Gho) (a : Act) (w : World) : Prop := Good F (· ∈ fs) γ a w
/-- what a result is -/
def Rv (F : Fr) (fs : List Fact) (r : ResultVar) (R : HA) (ids : List Nat) : Prop := ∀ γ a w, GF F fs γ a w → ∃ (v : Value) (S : Foot), (resSem a.tmps r).run F.P w = .ok v w ∧ R.p γ.Z v w S ∧ ∀ b, S b → ∃ k ∈ ids, γ.σ k b ∧ ∃ r R, Fact.own k r R ∈ fs
theorem rv_vp (n : Nat) {t : Nat} {x : VP} (h : fs[n]? = some (.slot t x)) : Rv F fs (.tmp t) (HA.of x) [] := fun γ a w g => by
  obtain ⟨v, h1, h2⟩ := g.hold _ (List.mem_of_getElem? h)
  have h1 : a.tmps[t]? = some v := h1
  exact ⟨v, fun _ => False, by simp [resSem, h1], ⟨h2, fun _ h => h⟩, fun _ h => h.elim⟩
theorem rv_eq {r : ResultVar} {R R' : HA} {ids : List Nat} (e : R = R') (h : Rv F fs r R ids) : Rv F fs r R' ids := e ▸ h
theorem rv_weak {r : ResultVar} {R R' : HA} {ids : List Nat} (e : ∀ (Z : Foot) (v : Value) (w : World) (S : Foot), R.p Z v w S → R'.p Z v w S) (h : Rv F fs r R ids) : Rv F fs r R' ids := fun γ a w g => by
  obtain ⟨v, S, h1, h2, h3⟩ := h γ a w g
  exact ⟨v, S, h1, e _ _ _ _ h2, h3⟩
theorem rv_own (n : Nat) {t id : Nat} {R : HA} (h : fs[n]? = some (.own id (.tmp t) R)) : Rv F fs (.tmp t) R [id] := fun γ a w g => by
  obtain ⟨v, h1, h2⟩ := g.hold _ (List.mem_of_getElem? h)
  have h1 : a.tmps[t]? = some v := h1
  exact ⟨v, γ.σ id, by simp [resSem, h1], h2, fun b hb => ⟨id, by simp, hb, _, _, List.mem_of_getElem? h⟩⟩
theorem rv_ownv (n m : Nat) {t id : Nat} {v : Value} {nu one : Bool} {R : HA} (h : fs[n]? = some (.own id (.val v) R)) (hm : fs[m]? = some (.slot t (VP.eq v nu one))) : Rv F fs (.tmp t) R [id] := fun γ a w g => by
  obtain ⟨u, h1, h2⟩ := g.hold _ (List.mem_of_getElem? h)
  obtain ⟨u', h3, h4, _⟩ := g.hold _ (List.mem_of_getElem? hm)
  have h1 : u = v := h1
  subst h1 h4
  have h3 : a.tmps[t]? = some u' := h3
  exact ⟨u', γ.σ id, by simp [resSem, h3], h2, fun b hb => ⟨id, by simp, hb, _, _, List.mem_of_getElem? h⟩⟩
theorem rv_ptr (n m : Nat) {t id : Nat} {v : Value} {R : HA} (h : fs[n]? = some (.own id (.val v) R)) (hm : fs[m]? = some (.slot t (VP.ptr v))) : Rv F fs (.tmp t) R [id] := fun γ a w g => by
  obtain ⟨u, h1, h2⟩ := g.hold _ (List.mem_of_getElem? h)
  obtain ⟨u', h3, h4, _⟩ := g.hold _ (List.mem_of_getElem? hm)
  have h1 : u = v := h1
  subst h1 h4
  have h3 : a.tmps[t]? = some u' := h3
  exact ⟨u', γ.σ id, by simp [resSem, h3], h2, fun b hb => ⟨id, by simp, hb, _, _, List.mem_of_getElem? h⟩⟩
/-- a result that stands in a box of its own -/
theorem rv_box1 (n : Nat) {k id : Nat} {T T' : TypeId} {R : HA} (ht : oneTy F.P T = true) (h : fs[n]? = some (.own id (.tmp k) (HA.cells T' [R]))) : Rv F fs (.cell k T) R [id] := fun γ a w g => by
  obtain ⟨v, h1, b, cs, S', rfl, h2, h3, h4, _⟩ := g.hold _ (List.mem_of_getElem? h)
  obtain ⟨v, S1, S2, hv, e1, e2, hp, _⟩ := h3.pick (i := 0) (R := R) rfl
  have := run_loadCell ht h2 hv
  have h1 : a.tmps[k]? = some (ptr b) := h1
  exact ⟨v, S1, by simp [resSem, h1, ptr, asAddr, this], hp, fun x hx => ⟨id, by simp, (h4 x).2 (.inr ((e1 x).2 (.inl hx))), _, _, List.mem_of_getElem? h⟩⟩
theorem rv_boxn (n : Nat) {k id : Nat} {T T' : TypeId} {Rs : List HA} (ht : aggTy F.P T Rs.length = true) (h : fs[n]? = some (.own id (.tmp k) (HA.cells T' Rs))) : Rv F fs (.cell k T) (HA.agg Rs) [id] := fun γ a w g => by
  obtain ⟨v, h1, b, cs, S', rfl, h2, h3, h4, _⟩ := g.hold _ (List.mem_of_getElem? h)
  have hl := h3.len
  have := run_loadRow (off := 0) ht h2 (by omega)
  rw [List.drop_zero, List.take_of_length_le (by omega)] at this
  have h1 : a.tmps[k]? = some (ptr b) := h1
  exact ⟨_, S', by simp [resSem, h1, ptr, asAddr, this], ⟨cs, rfl, h3⟩, fun x hx => ⟨id, by simp, (h4 x).2 (.inr hx), _, _, List.mem_of_getElem? h⟩⟩
def Rvs (F : Fr) (fs : List Fact) : List ResultVar → List HA → List (List Nat) → Prop
  | [], [], [] => True
  | r :: rs, R :: Rs, l :: ls => Rv F fs r R l ∧ Rvs F fs rs Rs ls
  | _, _, _ => False
theorem rvs_run {γ : Gho} {a : Act} {w : World} (g : GF F fs γ a w) : ∀ {rs : List ResultVar} {Rs : List HA} {ls : List (List Nat)}, Rvs F fs rs Rs ls → ls.flatten.Nodup →
    ∃ (vs : List Value) (S : Foot), (rs.mapM (resSem a.tmps)).run F.P w = .ok vs w ∧ AllS γ.Z Rs vs w S ∧ ∀ b, S b → ∃ k ∈ ls.flatten, γ.σ k b ∧ ∃ r R, Fact.own k r R ∈ fs
  | [], [], [], _, _ => ⟨[], fun _ => False, by simp, fun _ h => h, fun _ h => h.elim⟩
  | r :: rs, R :: Rs, l :: ls, h, hn => by
    rw [List.flatten_cons, List.nodup_append] at hn
    obtain ⟨v, S, h1, h2, h3⟩ := h.1 γ a w g
    obtain ⟨vs, S', k1, k2, k3⟩ := rvs_run g h.2 hn.2.1
    refine ⟨v :: vs, fun b => S b ∨ S' b, ?_, ⟨S, S', fun b => Iff.rfl, fun b hb hb' => ?_, h2, k2⟩, fun b hb => ?_⟩
    · rw [List.mapM_cons]; simp [h1, k1]
    · obtain ⟨k, m1, m2, r1, R1, m3⟩ := h3 b hb
      obtain ⟨k', m4, m5, r2, R2, m6⟩ := k3 b hb'
      exact g.sep k r1 R1 k' r2 R2 m3 m6 (hn.2.2 k m1 k' m4) b m2 m5
    · rw [List.flatten_cons]
      rcases hb with hb | hb
      · obtain ⟨k, m1, m2⟩ := h3 b hb
        exact ⟨k, List.mem_append_left _ m1, m2⟩
      · obtain ⟨k, m1, m2⟩ := k3 b hb
        exact ⟨k, List.mem_append_right _ m1, m2⟩
  | [], _ :: _, _, h, _ => h.elim
  | [], [], _ :: _, h, _ => h.elim
  | _ :: _, [], _, h, _ => h.elim
  | _ :: _, _ :: _, [], h, _ => h.elim
def resHA : List HA → HA
  | [R] => R
  | Rs => HA.tup Rs
theorem run_results {fn : Func} {rs : List ResultVar} {vs : List Value} {a : Act} {w : World} {P : Program} (hfn : fn.results = rs.toArray) (hm : (rs.mapM (resSem a.tmps)).run P w = .ok vs w) : (results fn a.tmps).run P w = .ok (match vs with | [v] => v | vs => .tuple vs.toArray) w := by
  have : (results fn a.tmps) = (do let vs ← fn.results.mapM (resSem a.tmps); pure (if h : vs.size = 1 then vs[0] else .tuple vs)) := by
    unfold results resSem; rfl
  rw [this, hfn]
  have h2 : (rs.toArray.mapM (resSem a.tmps)).run P w = .ok vs.toArray w := by
    rw [List.mapM_toArray]
    simp [hm]
  simp only [Sem.run_bind, h2, Result.andThen_ok]
  match vs with
  | [] => rfl
  | [v] => rfl
  | _ :: _ :: _ => rfl
theorem rt_post {fn : Func} {rs : List ResultVar} {O' : List (Value × HA)} (Rs : List HA) (ls : List (List Nat)) (il : List Nat) (oi : List Nat) (hfn : fn.results = rs.toArray) (hr : Rvs F fs rs Rs ls) (hn : (ls.flatten ++ il).Nodup) (ho : oi.map (fun n => fs[n]?) = (zipOwn il O').map some) (hl : il.length = O'.length) :
    Rt F fs (bodyPost F.P fn (postO F.w0 F.Z0 F.S0 O' (resHA Rs))) := fun a w ⟨γ, g⟩ => by
  rw [List.nodup_append] at hn
  obtain ⟨vs, S, h1, h2, h3⟩ := rvs_run g hr hn.1
  have hmem : ∀ {f : Fact}, f ∈ zipOwn il O' → f ∈ fs := fun {f} hf => by
    have : some f ∈ oi.map (fun n => fs[n]?) := by rw [ho]; exact List.mem_map.2 ⟨f, hf, rfl⟩
    obtain ⟨n, _, hn⟩ := List.mem_map.1 this
    exact List.mem_of_getElem? hn
  have hzip : ∀ {il : List Nat} {O' : List (Value × HA)} {j k : Nat} {y : Value × HA}, il[j]? = some k → O'[j]? = some y → Fact.own k (.val y.1) y.2 ∈ zipOwn il O' := by
    intro il
    induction il with
    | nil => intro O' j k y h; simp at h
    | cons x xs ih =>
      intro O' j k y h1 h2
      cases O' with
      | nil => simp at h2
      | cons z zs =>
        unfold zipOwn
        cases j with
        | zero => simp at h1 h2; subst h1 h2; exact List.mem_cons_self ..
        | succ j => exact List.mem_cons_of_mem _ (ih (j := j) (by simpa using h1) (by simpa using h2))
  have hget : ∀ {j : Nat} {y : Value × HA}, O'[j]? = some y → ∃ k, il[j]? = some k ∧ Fact.own k (.val y.1) y.2 ∈ fs := fun {j y} hy => by
    have hj := (List.getElem?_eq_some_iff.1 hy).1
    exact ⟨il[j]'(by omega), List.getElem?_eq_getElem (by omega), hmem (hzip (List.getElem?_eq_getElem (by omega)) hy)⟩
  refine ⟨g.df, _, run_results hfn h1, _, γ.Z, fun b => ∃ j, j < (O'.map (·.2)).length ∧ (j < O'.length ∧ γ.σ (il.getD j 0) b), S, rfl, g.zmono, fun b hb => ?_, AllS.join (fun j b => j < O'.length ∧ γ.σ (il.getD j 0) b) (by simp) (fun j R v hR hv => ?_) (fun j k b hne hj hk => ?_), ?_, fun b ⟨j, _, hj, hb⟩ hb' => ?_, fun b hb => ?_, g.turn⟩
  · rcases g.zof b hb with ⟨h, h' | h' | h'⟩
    · exact .inl h'
    · exact .inr ⟨.inl h', h⟩
    · exact .inr ⟨.inr h', h⟩
  · rw [List.getElem?_map, Option.map_eq_some_iff] at hR hv
    obtain ⟨y1, hy1, rfl⟩ := hR
    obtain ⟨y2, hy2, rfl⟩ := hv
    rw [hy1] at hy2
    injection hy2 with hy2
    subst hy2
    obtain ⟨k, hk, hf⟩ := hget hy1
    obtain ⟨u, e1, e2⟩ := g.hold _ hf
    have e1 : u = y1.1 := e1
    subst e1
    have hj := (List.getElem?_eq_some_iff.1 hy1).1
    have : (fun b => j < O'.length ∧ γ.σ (il.getD j 0) b) = γ.σ k := funext fun b => by
      rw [List.getD_eq_getElem?_getD, hk]
      exact propext ⟨fun h => h.2, fun h => ⟨hj, h⟩⟩
    rw [this]; exact e2
  · obtain ⟨k1, e1, m1⟩ := hget (List.getElem?_eq_getElem hj.1)
    obtain ⟨k2, e2, m2⟩ := hget (List.getElem?_eq_getElem hk.1)
    have hj2 := hj.2
    have hk2 := hk.2
    rw [List.getD_eq_getElem?_getD, e1] at hj2
    rw [List.getD_eq_getElem?_getD, e2] at hk2
    refine g.sep k1 _ _ k2 _ _ m1 m2 (fun e => hne ?_) b hj2 hk2
    have h3 := (List.getElem?_eq_some_iff.1 e1).1
    rw [e, ← e2] at e1
    exact (List.getElem?_inj h3 hn.2.1).1 e1
  · match vs, Rs, h2 with
    | [v], [R], h2 =>
      obtain ⟨S1, S2, e, _, h5, h6⟩ := h2
      have : S = S1 := funext fun b => propext ⟨fun h => ((e b).1 h).elim id fun h => (h6 b h).elim, fun h => (e b).2 (.inl h)⟩
      rw [this]; exact h5
    | [], [], h2 => exact ⟨[], rfl, h2⟩
    | v :: v' :: vs, R :: R' :: Rs, h2 => exact ⟨_, rfl, h2⟩
    | [v], _ :: _ :: _, ⟨_, _, _, _, _, h2⟩ => exact h2.elim
    | _ :: _ :: _, [_], ⟨_, _, _, _, _, h2⟩ => exact h2.elim
    | [], _ :: _, h2 => exact h2.elim
    | _ :: _, [], h2 => exact h2.elim
  · obtain ⟨k, m1, m2, r1, R1, m3⟩ := h3 b hb'
    obtain ⟨k2, e2, mm⟩ := hget (List.getElem?_eq_getElem hj)
    rw [List.getD_eq_getElem?_getD, e2] at hb
    exact g.sep k r1 R1 k2 _ _ m3 mm (hn.2.2 k m1 k2 (List.mem_of_getElem? e2)) b m2 hb
  · have hb : ∃ k, γ.σ k b ∧ ∃ r R, Fact.own k r R ∈ fs := by
      rcases hb with ⟨j, _, hj, hb⟩ | hb
      · obtain ⟨k, e, m⟩ := hget (List.getElem?_eq_getElem hj)
        rw [List.getD_eq_getElem?_getD, e] at hb
        exact ⟨k, hb, _, _, m⟩
      · obtain ⟨k, _, h⟩ := h3 b hb
        exact ⟨k, h⟩
    obtain ⟨k, hb, r, R, hm⟩ := hb
    have := g.bnd k r R hm b hb
    refine ⟨?_, this.1, this.2.2⟩
    rcases this.2.1 with h | h
    · exact .inr h
    · exact .inl h
end
end O
end Go.Proofs.Ytogodjiemgilaaa

/- The logic over objects: what is known is told otherwise, between statements. -/
namespace Go.Proofs.Ytogodjiemgilaaa
open Go.RowKit
namespace O
section
variable {F : Fr} {fs rest : List Fact} {K : Act → World → Prop}
/-- fact id's blocks are told anew -/
theorem good_open {id : Nat} {r : Ref} {R : HA} {γ : Gho} {a : Act} {w : World} (g : Good F (· ∈ Fact.own id r R :: rest) γ a w) {nids : List Nat} (ho : rest.all (fun f => f.off (id :: nids)) = true) (news : List Fact) (σ' : Nat → Foot)
    (hσ : ∀ k, k ∉ id :: nids → σ' k = γ.σ k) (hh : ∀ f ∈ news, f.holds F ⟨σ', γ.Z⟩ a w) (hs : ∀ k r R, Fact.own k r R ∈ news → k ∈ id :: nids ∧ ∀ b, σ' k b → γ.σ id b) (hd : ∀ k ∈ id :: nids, ∀ k' ∈ id :: nids, k ≠ k' → ∀ b, σ' k b → ¬ σ' k' b) :
    Good F (· ∈ news ++ rest) ⟨σ', γ.Z⟩ a w := by
  have off : ∀ {k r R}, Fact.own k r R ∈ rest → k ∉ id :: nids := fun {k r R} h => by
    have := List.all_eq_true.1 ho _ h
    simp only [Fact.off, Bool.not_eq_true'] at this
    simpa using this
  have old : ∀ {k r R}, Fact.own k r R ∈ rest → σ' k = γ.σ k ∧ ∀ b, γ.σ k b → ¬ γ.σ id b := fun {k r R'} h => by
    have hk := off h
    exact ⟨hσ k hk, g.sep _ _ _ _ _ _ (List.mem_cons_of_mem _ h) (List.mem_cons_self ..) fun e => hk (e ▸ List.mem_cons_self ..)⟩
  refine ⟨g.ok, g.sz, g.df, g.turn, g.zmono, g.zof, fun f hf => ?_, fun k r R k' r' R' h h' hne b hb hb' => ?_, fun k r R h b hb => ?_⟩
  · rcases List.mem_append.1 hf with hf | hf
    · exact hh f hf
    · refine fact_turn (g.hold f (List.mem_cons_of_mem _ hf)) (fun _ h => h) (fun _ _ => rfl) (Calm.of_ext (Ext.refl w)) (fun _ _ => rfl) fun k r R e => ?_
      subst e
      exact ⟨(old hf).1, fun _ _ => rfl⟩
  · have hb : σ' k b := hb
    have hb' : σ' k' b := hb'
    rcases List.mem_append.1 h with h | h <;> rcases List.mem_append.1 h' with h' | h'
    · exact hd k (hs _ _ _ h).1 k' (hs _ _ _ h').1 hne b hb hb'
    · rw [(old h').1] at hb'
      exact (old h').2 b hb' ((hs _ _ _ h).2 b hb)
    · rw [(old h).1] at hb
      exact (old h).2 b hb ((hs _ _ _ h').2 b hb')
    · rw [(old h).1] at hb
      rw [(old h').1] at hb'
      exact g.sep _ _ _ _ _ _ (List.mem_cons_of_mem _ h) (List.mem_cons_of_mem _ h') hne b hb hb'
  · have hb : σ' k b := hb
    rcases List.mem_append.1 h with h | h
    · exact g.bnd id _ _ (List.mem_cons_self ..) b ((hs _ _ _ h).2 b hb)
    · rw [(old h).1] at hb
      exact g.bnd k r R (List.mem_cons_of_mem _ h) b hb
/-- the same blocks, told otherwise -/
theorem t_same {id : Nat} {r : Ref} {R : HA} {α : Type} (news : α → List Fact) (ho : rest.all (fun f => f.off [id]) = true)
    (hh : ∀ γ a w v, r.den a v → R.p γ.Z v w (γ.σ id) → ∃ x, ∀ f ∈ news x, f.holds F γ a w) (hs : ∀ x k r R, Fact.own k r R ∈ news x → k = id) (h : ∀ x, Sat F (news x ++ rest) K) : Sat F (.own id r R :: rest) K := fun a w ⟨γ, g⟩ => by
  obtain ⟨v, h1, h2⟩ := g.hold _ (List.mem_cons_self ..)
  obtain ⟨x, hx⟩ := hh γ a w v h1 h2
  exact h x a w ⟨γ, good_open (nids := []) g ho (news x) γ.σ (fun _ _ => rfl) hx (fun k r R hk => by rw [hs x k r R hk]; exact ⟨List.mem_cons_self .., fun b hb => hb⟩) (fun k hk k' hk' hne => by
    simp only [List.mem_singleton] at hk hk'
    exact absurd (hk.trans hk'.symm) hne)⟩
/-- a new value gets a name -/
theorem t_name {id k : Nat} {R : HA} (ho : rest.all (fun f => f.off [id]) = true) (h : ∀ v, Sat F (.own id (.val v) R :: .slot k (VP.eq v R.nu R.one) :: rest) K) : Sat F (.own id (.tmp k) R :: rest) K :=
  t_same (α := Value) (fun v => [.own id (.val v) R, .slot k (VP.eq v R.nu R.one)]) ho (fun γ a w v h1 h2 => ⟨v, fun f hf => by
    rcases List.mem_cons.1 hf with rfl | hf
    · exact ⟨v, rfl, h2⟩
    · rw [List.mem_singleton] at hf; subst hf
      exact ⟨v, h1, rfl, fun hn => R.hnu hn _ _ _ _ h2, fun hn => R.hone hn _ _ _ _ h2⟩⟩) (fun v k' r' R' hf => by
    rcases List.mem_cons.1 hf with e | hf
    · injection e
    · rw [List.mem_singleton] at hf; cases hf) h
theorem t_nameP {id k : Nat} {T' : TypeId} {Rs : List HA} (ho : rest.all (fun f => f.off [id]) = true) (h : ∀ v, Sat F (.own id (.val v) (HA.cells T' Rs) :: .slot k (VP.ptr v) :: rest) K) : Sat F (.own id (.tmp k) (HA.cells T' Rs) :: rest) K :=
  t_same (α := Value) (fun v => [.own id (.val v) (HA.cells T' Rs), .slot k (VP.ptr v)]) ho (fun γ a w v h1 h2 => ⟨v, fun f hf => by
    rcases List.mem_cons.1 hf with rfl | hf
    · exact ⟨v, rfl, h2⟩
    · rw [List.mem_singleton] at hf; subst hf
      obtain ⟨g, cs, S', rfl, _⟩ := h2
      exact ⟨_, h1, rfl, g, 0, rfl⟩⟩) (fun v k' r' R' hf => by
    rcases List.mem_cons.1 hf with e | hf
    · injection e
    · rw [List.mem_singleton] at hf; cases hf) h
theorem t_weak {id : Nat} {r : Ref} {R R' : HA} (hw : ∀ Z v w S, R.p Z v w S → R'.p Z v w S) (ho : rest.all (fun f => f.off [id]) = true) (h : Sat F (.own id r R' :: rest) K) : Sat F (.own id r R :: rest) K :=
  t_same (α := Unit) (fun _ => [.own id r R']) ho (fun γ a w v h1 h2 => ⟨(), fun f hf => by
    rw [List.mem_singleton] at hf; subst hf; exact ⟨v, h1, hw _ _ _ _ h2⟩⟩) (fun _ k' r' R' hf => by rw [List.mem_singleton] at hf; injection hf) (fun _ => h)
theorem t_ex {id : Nat} {r : Ref} {α : Type} {nu one : Bool} {G : α → HA} (ho : rest.all (fun f => f.off [id]) = true) (h : ∀ x, Sat F (.own id r (G x) :: rest) K) : Sat F (.own id r (HA.ex nu one G) :: rest) K :=
  t_same (fun x => [.own id r (G x)]) ho (fun γ a w v h1 ⟨x, h2, _⟩ => ⟨x, fun f hf => by
    rw [List.mem_singleton] at hf; subst hf; exact ⟨v, h1, h2⟩⟩) (fun _ k' r' R' hf => by rw [List.mem_singleton] at hf; injection hf) h
theorem t_pure {id : Nat} {r : Ref} {φ : Prop} {R : HA} (ho : rest.all (fun f => f.off [id]) = true) (h : φ → Sat F (.own id r R :: rest) K) : Sat F (.own id r (HA.pure φ R) :: rest) K :=
  t_same (α := PLift φ) (fun _ => [.own id r R]) ho (fun γ a w v h1 h2 => ⟨⟨h2.1⟩, fun f hf => by
    rw [List.mem_singleton] at hf; subst hf; exact ⟨v, h1, h2.2⟩⟩) (fun _ k' r' R' hf => by rw [List.mem_singleton] at hf; injection hf) (fun x => h x.down)
/-- what follows of a fact -/
theorem t_know {f : Fact} {φ : Prop} (hφ : ∀ γ a w, f.holds F γ a w → φ) (h : φ → Sat F (f :: rest) K) : Sat F (f :: rest) K := fun a w ⟨γ, g⟩ => h (hφ γ a w (g.hold _ (List.mem_cons_self ..))) a w ⟨γ, g⟩
theorem t_knowR {id : Nat} {r : Ref} {R : HA} {φ : Prop} (hφ : ∀ Z v w S, R.p Z v w S → φ) (h : φ → Sat F (.own id r R :: rest) K) : Sat F (.own id r R :: rest) K :=
  t_know (fun γ a w ⟨v, _, h2⟩ => hφ _ v w _ h2) h
theorem t_closeEx {id : Nat} {r : Ref} {α : Type} {nu one : Bool} {G : α → HA} (x : α) (hn : (nu = true → (G x).nu = true) ∧ (one = true → (G x).one = true)) (ho : rest.all (fun f => f.off [id]) = true) (h : Sat F (.own id r (HA.ex nu one G) :: rest) K) : Sat F (.own id r (G x) :: rest) K :=
  t_weak (R' := HA.ex nu one G) (fun _ _ _ _ hp => ⟨x, hp, hn⟩) ho h
theorem t_closePure {id : Nat} {r : Ref} {φ : Prop} {R : HA} (hφ : φ) (ho : rest.all (fun f => f.off [id]) = true) (h : Sat F (.own id r (HA.pure φ R) :: rest) K) : Sat F (.own id r R :: rest) K :=
  t_weak (R' := HA.pure φ R) (fun _ _ _ _ hp => ⟨hφ, hp⟩) ho h
/-- for good: what is in these blocks never turns again -/
theorem t_freeze {id : Nat} {r : Ref} {R : HA} {x : VP} (hf : ∀ Z v w S, R.p Z v w S → x.p (fun b => Z b ∨ S b) v w) (ho : rest.all (fun f => f.off [id]) = true) (h : Sat F (.is r x :: rest) K) : Sat F (.own id r R :: rest) K := fun a w ⟨γ, g⟩ => by
  obtain ⟨v, h1, h2⟩ := g.hold _ (List.mem_cons_self ..)
  have hb := g.bnd id r R (List.mem_cons_self ..)
  have off : ∀ {k r R}, Fact.own k r R ∈ rest → k ≠ id := fun {k r R} h => by
    have := List.all_eq_true.1 ho _ h
    simp only [Fact.off, Bool.not_eq_true'] at this
    simpa using this
  refine h a w ⟨⟨γ.σ, fun b => γ.Z b ∨ γ.σ id b⟩, g.ok, g.sz, g.df, g.turn, fun b hb => .inl (g.zmono b hb), fun b hz => ?_, fun f hf' => ?_, fun k r R k' r' R' h1 h2 hne => ?_, fun k r R h1 b hk => ?_⟩
  · rcases hz with hz | hz
    · exact g.zof b hz
    · have := hb b hz
      refine ⟨this.1, ?_⟩
      rcases this.2.1 with h | h
      · exact .inr (.inr h)
      · exact .inr (.inl h)
  · rcases List.mem_cons.1 hf' with rfl | hf'
    · exact ⟨v, h1, hf _ _ _ _ h2⟩
    · exact fact_turn (g.hold f (List.mem_cons_of_mem _ hf')) (fun _ h => .inl h) (fun _ _ => rfl) (Calm.of_ext (Ext.refl w)) (fun _ _ => rfl) fun k r R e => ⟨rfl, fun _ _ => rfl⟩
  · rcases List.mem_cons.1 h1 with e | h1
    · cases e
    rcases List.mem_cons.1 h2 with e | h2
    · cases e
    exact g.sep _ _ _ _ _ _ (List.mem_cons_of_mem _ h1) (List.mem_cons_of_mem _ h2) hne
  · rcases List.mem_cons.1 h1 with e | h1
    · cases e
    have := g.bnd k r R (List.mem_cons_of_mem _ h1) b hk
    refine ⟨this.1, this.2.1, fun hz => ?_⟩
    rcases hz with hz | hz
    · exact this.2.2 hz
    · exact g.sep _ _ _ _ _ _ (List.mem_cons_of_mem _ h1) (List.mem_cons_self ..) (off h1) b hk hz
/-- a fact more, or another one, that has no blocks -/
theorem t_more {news : List Fact} (hn : news.all (fun f => !f.isOwn) = true) (hh : ∀ γ a w, GF F fs γ a w → ∀ f ∈ news, f.holds F γ a w) (h : Sat F (news ++ fs) K) : Sat F fs K := fun a w ⟨γ, g⟩ => by
  have no : ∀ {k r R}, ¬ Fact.own k r R ∈ news := fun {k r R} hm => by have := List.all_eq_true.1 hn _ hm; cases this
  refine h a w ⟨γ, g.ok, g.sz, g.df, g.turn, g.zmono, g.zof, fun f hf => ?_, fun k r R k' r' R' h1 h2 hne => ?_, fun k r R h1 => ?_⟩
  · rcases List.mem_append.1 hf with hf | hf
    · exact hh γ a w g f hf
    · exact g.hold f hf
  · rcases List.mem_append.1 h1 with h1 | h1
    · exact (no h1).elim
    rcases List.mem_append.1 h2 with h2 | h2
    · exact (no h2).elim
    exact g.sep _ _ _ _ _ _ h1 h2 hne
  · rcases List.mem_append.1 h1 with h1 | h1
    · exact (no h1).elim
    exact g.bnd _ _ _ h1
/-- what is said of a slot, said otherwise -/
theorem t_slot {r : Ref} {x y : VP} (hw : ∀ Z v w, x.p Z v w → y.p Z v w) (h : Sat F (.is r y :: rest) K) : Sat F (.is r x :: rest) K :=
  t_more (fs := .is r x :: rest) (news := [.is r y]) rfl (fun γ a w g f hf => by
    rw [List.mem_singleton] at hf; subst hf
    obtain ⟨v, h1, h2⟩ := g.hold _ (List.mem_cons_self ..)
    exact ⟨v, h1, hw _ _ _ h2⟩) (fun a w hf => h a w (by
    obtain ⟨γ, g⟩ := hf
    exact ⟨γ, g.sub fun f hf => by
      rcases List.mem_cons.1 hf with rfl | hf
      · exact List.mem_cons_self ..
      · exact List.mem_cons_of_mem _ (List.mem_cons_of_mem _ hf)⟩))
/-- one slot has what another one has -/
theorem t_eq {d k : Nat} {x : VP} (h : Sat F (.slot d x :: .slot k x :: rest) K) : Sat F (.eq d (.tmp k) :: .slot k x :: rest) K :=
  t_more (fs := .eq d (.tmp k) :: .slot k x :: rest) (news := [.slot d x]) rfl (fun γ a w g f hf => by
    rw [List.mem_singleton] at hf; subst hf
    obtain ⟨v, h1, h2⟩ := g.hold _ (List.mem_cons_self ..)
    obtain ⟨u, h3, h4⟩ := g.hold _ (List.mem_cons_of_mem _ (List.mem_cons_self ..))
    have := Ref.den_fun h1 h3
    subst this
    exact ⟨v, h2, h4⟩) (fun a w hf => h a w (by
    obtain ⟨γ, g⟩ := hf
    exact ⟨γ, g.sub fun f hf => by
      rcases List.mem_cons.1 hf with rfl | hf
      · exact List.mem_cons_self ..
      · exact List.mem_cons_of_mem _ (List.mem_cons_of_mem _ hf)⟩))
/-- a slot has this very value, of which more is known -/
theorem t_is {k : Nat} {v : Value} {nu one : Bool} {x : VP} (h : Sat F (.slot k x :: .slot k (VP.eq v nu one) :: .is (.val v) x :: rest) K) : Sat F (.slot k (VP.eq v nu one) :: .is (.val v) x :: rest) K :=
  t_more (fs := .slot k (VP.eq v nu one) :: .is (.val v) x :: rest) (news := [.slot k x]) rfl (fun γ a w g f hf => by
    rw [List.mem_singleton] at hf; subst hf
    obtain ⟨u, h1, h2, _⟩ := g.hold _ (List.mem_cons_self ..)
    obtain ⟨u', h3, h4⟩ := g.hold _ (List.mem_cons_of_mem _ (List.mem_cons_self ..))
    have h3 : u' = v := h3
    subst h3 h2
    exact ⟨_, h1, h4⟩) h
/-- values that have blocks of their own -/
theorem t_star {id : Nat} {r : Ref} {R : HA} {L : List (Value × HA)} (nl : List Nat) (ho : rest.all (fun f => f.off (id :: nl)) = true) (hl : (decide (id :: nl).Nodup && (nl.length == L.length)) = true) (h : Sat F (.own id r R :: (zipOwn nl L ++ rest)) K) : Sat F (.own id r (HA.star R L) :: rest) K := fun a w ⟨γ, g⟩ => by
  simp only [Bool.and_eq_true, decide_eq_true_eq, beq_iff_eq] at hl
  obtain ⟨v, h1, S1, S2, e, d, h2, h3⟩ := g.hold _ (List.mem_cons_self ..)
  obtain ⟨G, g1, g2, g3⟩ := h3.split
  have hnd := List.nodup_cons.1 hl.1
  let σ' : Nat → Foot := fun k => if k = id then S1 else if k ∈ nl then G (nl.idxOf k) else γ.σ k
  have s1 : σ' id = S1 := if_pos rfl
  have s2 : ∀ {j k : Nat}, nl[j]? = some k → σ' k = G j := fun {j k} hk => by
    have hm := List.mem_of_getElem? hk
    have hne : k ≠ id := fun e => hnd.1 (e ▸ hm)
    show (if k = id then S1 else if k ∈ nl then G (nl.idxOf k) else γ.σ k) = G j
    rw [if_neg hne, if_pos hm]
    obtain ⟨hj, rfl⟩ := List.getElem?_eq_some_iff.1 hk
    rw [hnd.2.idxOf_getElem]
  have s3 : ∀ {k : Nat}, k ∈ nl → ∃ j, nl[j]? = some k ∧ σ' k = G j := fun {k} hk => by
    obtain ⟨j, hj, rfl⟩ := List.mem_iff_getElem.1 hk
    exact ⟨j, List.getElem?_eq_getElem hj, s2 (List.getElem?_eq_getElem hj)⟩
  refine h a w ⟨⟨σ', γ.Z⟩, good_open g ho (.own id r R :: zipOwn nl L) σ' (fun k hk => ?_) (fun f hf => ?_) (fun k r' R' hf => ?_) (fun k hk k' hk' hne b hb hb' => ?_)⟩
  · simp only [List.mem_cons, not_or] at hk
    show (if k = id then S1 else if k ∈ nl then G (nl.idxOf k) else γ.σ k) = γ.σ k
    rw [if_neg hk.1, if_neg hk.2]
  · rcases List.mem_cons.1 hf with rfl | hf
    · exact ⟨v, h1, by show R.p γ.Z v w (σ' id); rw [s1]; exact h2⟩
    · obtain ⟨j, k, y, e1, e2, rfl⟩ := zipOwn_mem hf
      refine ⟨y.1, rfl, ?_⟩
      show y.2.p γ.Z y.1 w (σ' k)
      rw [s2 e1]
      exact g1 j _ _ (by rw [List.getElem?_map, e2]; rfl) (by rw [List.getElem?_map, e2]; rfl)
  · rcases List.mem_cons.1 hf with e1 | hf
    · injection e1 with e1; subst e1
      exact ⟨List.mem_cons_self .., fun b hb => by rw [s1] at hb; exact (e b).2 (.inl hb)⟩
    · obtain ⟨j, k', y, e1, e2, e3⟩ := zipOwn_mem hf
      injection e3 with e3; subst e3
      exact ⟨List.mem_cons_of_mem _ (List.mem_of_getElem? e1), fun b hb => by rw [s2 e1] at hb; exact (e b).2 (.inr (g3 j b hb))⟩
  · rcases List.mem_cons.1 hk with e1 | m1 <;> rcases List.mem_cons.1 hk' with e2 | m2
    · exact hne (e1.trans e2.symm)
    · obtain ⟨j, _, e3⟩ := s3 m2
      rw [e1, s1] at hb; rw [e3] at hb'
      exact d b hb (g3 j b hb')
    · obtain ⟨j, _, e3⟩ := s3 m1
      rw [e2, s1] at hb'; rw [e3] at hb
      exact d b hb' (g3 j b hb)
    · obtain ⟨j, m1, e1⟩ := s3 m1
      obtain ⟨j', m2, e2⟩ := s3 m2
      rw [e1] at hb; rw [e2] at hb'
      refine g2 j j' b (fun e => hne ?_) hb hb'
      subst e
      rw [m1] at m2; injection m2
/-- facts with blocks become one -/
theorem good_close {id : Nat} {r : Ref} {R' : HA} {γ : Gho} {a : Act} {w : World} {olds : List Fact} (g : Good F (· ∈ olds ++ rest) γ a w) (ho : rest.all (fun f => f.off [id]) = true) (S : Foot)
    (hS : ∀ b, S b → ∃ k r R, Fact.own k r R ∈ olds ∧ γ.σ k b) (hsep : ∀ k r R k' r' R', Fact.own k r R ∈ olds → Fact.own k' r' R' ∈ rest → k ≠ k') {v : Value} (hv : r.den a v) (hR : R'.p γ.Z v w S) : Good F (· ∈ Fact.own id r R' :: rest) (γ.set id S) a w := by
  have off : ∀ {k r R}, Fact.own k r R ∈ rest → k ≠ id := fun {k r R} h => by
    have := List.all_eq_true.1 ho _ h
    simp only [Fact.off, Bool.not_eq_true'] at this
    simpa using this
  refine ⟨g.ok, g.sz, g.df, g.turn, g.zmono, g.zof, fun f hf => ?_, fun k r1 R1 k' r2 R2 h h' hne b hb hb' => ?_, fun k r1 R1 h b hb => ?_⟩
  · rcases List.mem_cons.1 hf with rfl | hf
    · exact ⟨v, hv, by rw [Gho.set_eq]; exact hR⟩
    · refine fact_turn (g.hold f (List.mem_append_right _ hf)) (fun _ h => h) (fun _ _ => rfl) (Calm.of_ext (Ext.refl w)) (fun _ _ => rfl) fun k r R e => ?_
      subst e
      exact ⟨Gho.set_ne γ S (off hf), fun _ _ => rfl⟩
  · rcases List.mem_cons.1 h with e | n1 <;> rcases List.mem_cons.1 h' with e' | n2
    · injection e with e; injection e' with e'
      exact hne (e.trans e'.symm)
    · injection e with e
      rw [e, Gho.set_eq] at hb
      rw [Gho.set_ne γ S (off n2)] at hb'
      obtain ⟨k2, r3, R3, m1, m2⟩ := hS b hb
      exact g.sep _ _ _ _ _ _ (List.mem_append_left _ m1) (List.mem_append_right _ n2) (hsep _ _ _ _ _ _ m1 n2) b m2 hb'
    · injection e' with e'
      rw [e', Gho.set_eq] at hb'
      rw [Gho.set_ne γ S (off n1)] at hb
      obtain ⟨k2, r3, R3, m1, m2⟩ := hS b hb'
      exact g.sep _ _ _ _ _ _ (List.mem_append_left _ m1) (List.mem_append_right _ n1) (hsep _ _ _ _ _ _ m1 n1) b m2 hb
    · rw [Gho.set_ne γ S (off n1)] at hb
      rw [Gho.set_ne γ S (off n2)] at hb'
      exact g.sep _ _ _ _ _ _ (List.mem_append_right _ n1) (List.mem_append_right _ n2) hne b hb hb'
  · rcases List.mem_cons.1 h with e | n1
    · injection e with e
      rw [e, Gho.set_eq] at hb
      obtain ⟨k2, r3, R3, m1, m2⟩ := hS b hb
      exact g.bnd _ _ _ (List.mem_append_left _ m1) b m2
    · rw [Gho.set_ne γ S (off n1)] at hb
      exact g.bnd _ _ _ (List.mem_append_right _ n1) b hb
theorem off_ne {il : List Nat} (ho : rest.all (fun f => f.off il) = true) {k : Nat} {r : Ref} {R : HA} (h : Fact.own k r R ∈ rest) : k ∉ il := by
  have := List.all_eq_true.1 ho _ h
  simp only [Fact.off, Bool.not_eq_true'] at this
  simpa using this
theorem t_closeStar {id : Nat} {r : Ref} {R : HA} {L : List (Value × HA)} (nl : List Nat) (ho : rest.all (fun f => f.off (id :: nl)) = true) (hl : (decide (id :: nl).Nodup && (nl.length == L.length)) = true) (h : Sat F (.own id r (HA.star R L) :: rest) K) : Sat F (.own id r R :: (zipOwn nl L ++ rest)) K := fun a w ⟨γ, g⟩ => by
  simp only [Bool.and_eq_true, decide_eq_true_eq, beq_iff_eq] at hl
  obtain ⟨v, h1, h2⟩ := g.hold _ (List.mem_cons_self ..)
  have hnd := List.nodup_cons.1 hl.1
  have hzip : ∀ {nl : List Nat} {L : List (Value × HA)} {j k : Nat} {y : Value × HA}, nl[j]? = some k → L[j]? = some y → Fact.own k (.val y.1) y.2 ∈ zipOwn nl L := by
    intro nl
    induction nl with
    | nil => intro O' j k y h; simp at h
    | cons x xs ih =>
      intro O' j k y h1 h2
      cases O' with
      | nil => simp at h2
      | cons z zs =>
        unfold zipOwn
        cases j with
        | zero => simp at h1 h2; subst h1 h2; exact List.mem_cons_self ..
        | succ j => exact List.mem_cons_of_mem _ (ih (j := j) (by simpa using h1) (by simpa using h2))
  have hmem : ∀ {j : Nat} {y : Value × HA}, L[j]? = some y → ∃ k, nl[j]? = some k ∧ Fact.own k (.val y.1) y.2 ∈ Fact.own id r R :: (zipOwn nl L ++ rest) := fun {j y} hy => by
    have hj := (List.getElem?_eq_some_iff.1 hy).1
    have e : nl[j]? = some (nl[j]'(by omega)) := List.getElem?_eq_getElem (by omega)
    exact ⟨_, e, List.mem_cons_of_mem _ (List.mem_append_left _ (hzip e hy))⟩
  have hall : AllS γ.Z (L.map (·.2)) (L.map (·.1)) w (fun b => ∃ j, j < (L.map (·.2)).length ∧ (j < L.length ∧ γ.σ (nl.getD j 0) b)) := AllS.join (fun j b => j < L.length ∧ γ.σ (nl.getD j 0) b) (by simp) (fun j R v hR hv => by
      rw [List.getElem?_map, Option.map_eq_some_iff] at hR hv
      obtain ⟨y1, hy1, rfl⟩ := hR
      obtain ⟨y2, hy2, rfl⟩ := hv
      rw [hy1] at hy2
      injection hy2 with hy2
      subst hy2
      obtain ⟨k, hk, hf⟩ := hmem hy1
      obtain ⟨u, e1, e2⟩ := g.hold _ hf
      have e1 : u = y1.1 := e1
      subst e1
      have hj := (List.getElem?_eq_some_iff.1 hy1).1
      have : (fun b => j < L.length ∧ γ.σ (nl.getD j 0) b) = γ.σ k := funext fun b => by
        rw [List.getD_eq_getElem?_getD, hk]
        exact propext ⟨fun h => h.2, fun h => ⟨hj, h⟩⟩
      rw [this]; exact e2) (fun j k b hne hj hk => by
      obtain ⟨k1, e1, m1⟩ := hmem (List.getElem?_eq_getElem hj.1)
      obtain ⟨k2, e2, m2⟩ := hmem (List.getElem?_eq_getElem hk.1)
      have hj2 := hj.2
      have hk2 := hk.2
      rw [List.getD_eq_getElem?_getD, e1] at hj2
      rw [List.getD_eq_getElem?_getD, e2] at hk2
      refine g.sep k1 _ _ k2 _ _ m1 m2 (fun e => hne ?_) b hj2 hk2
      have h3 := (List.getElem?_eq_some_iff.1 e1).1
      rw [e, ← e2] at e1
      exact (List.getElem?_inj h3 hnd.2).1 e1)
  have hg : Good F (· ∈ (Fact.own id r R :: zipOwn nl L) ++ rest) γ a w := g
  have ho1 : rest.all (fun f => f.off [id]) = true := List.all_eq_true.2 fun f hf => by
    cases f with
    | own k r' R' =>
      have := off_ne ho hf
      simp only [List.mem_cons, not_or] at this
      simp [Fact.off, this.1]
    | _ => rfl
  refine h a w ⟨_, good_close hg ho1 (fun b => γ.σ id b ∨ ∃ j, j < (L.map (·.2)).length ∧ (j < L.length ∧ γ.σ (nl.getD j 0) b)) (fun b hb => ?_) (fun k r1 R1 k' r2 R2 m1 m2 e => ?_) h1 ⟨γ.σ id, _, fun b => Iff.rfl, fun b hb ⟨j, _, hj, hb'⟩ => ?_, h2, hall⟩⟩
  · rcases hb with hb | ⟨j, _, hj, hb⟩
    · exact ⟨id, r, R, List.mem_cons_self .., hb⟩
    · have hjn : j < nl.length := by omega
      have e : nl[j]? = some (nl[j]) := List.getElem?_eq_getElem hjn
      rw [List.getD_eq_getElem?_getD, e] at hb
      exact ⟨_, _, _, List.mem_cons_of_mem _ (hzip e (List.getElem?_eq_getElem hj)), hb⟩
  · have := off_ne ho m2
    rcases List.mem_cons.1 m1 with e1 | m1
    · injection e1 with e1; subst e1; exact this (e ▸ List.mem_cons_self ..)
    · obtain ⟨j, k3, y, n1, _, e3⟩ := zipOwn_mem m1
      injection e3 with e3; subst e3
      exact this (e ▸ List.mem_cons_of_mem _ (List.mem_of_getElem? n1))
  · obtain ⟨k2, e2, m2⟩ := hmem (List.getElem?_eq_getElem hj)
    rw [List.getD_eq_getElem?_getD, e2] at hb'
    refine g.sep id _ _ k2 _ _ (List.mem_cons_self ..) m2 (fun e => hnd.1 (e ▸ List.mem_of_getElem? e2)) b hb hb'
/-- an assertion of which one part can be taken out and laid back -/
def Part (R : HA) (P : HA) (H : HA → HA) : Prop :=
  (∀ Z v w S, R.p Z v w S → ∃ (u : Value) (S1 S2 : Foot), (∀ b, S b ↔ S1 b ∨ S2 b) ∧ (∀ b, S1 b → ¬ S2 b) ∧ P.p Z u w S1 ∧ (H (HA.of (VP.eq u P.nu P.one))).p Z v w S2)
/-- and laid back -/
def Whole (H : HA → HA) (u : Value) (nu one : Bool) (P : HA) : Prop :=
  (∀ Z v w S1 S2, P.p Z u w S1 → (∀ b, S1 b → ¬ S2 b) → (H (HA.of (VP.eq u nu one))).p Z v w S2 → (H P).p Z v w (fun b => S1 b ∨ S2 b))
theorem t_part {id : Nat} {r : Ref} {R P : HA} {H : HA → HA} (nid : Nat) (hp : Part R P H) (ho : rest.all (fun f => f.off [id, nid]) = true) (hne : (id == nid) = false) (h : ∀ u, Sat F (.own id r (H (HA.of (VP.eq u P.nu P.one))) :: .own nid (.val u) P :: rest) K) : Sat F (.own id r R :: rest) K := fun a w ⟨γ, g⟩ => by
  obtain ⟨v, h1, h2⟩ := g.hold _ (List.mem_cons_self ..)
  obtain ⟨u, S1, S2, e, d, h3, h4⟩ := hp _ _ _ _ h2
  have hne' : nid ≠ id := fun e => by simp [e] at hne
  have s1 : (if id = nid then S1 else if id = id then S2 else γ.σ id) = S2 := by rw [if_neg (Ne.symm hne'), if_pos rfl]
  refine h u a w ⟨⟨fun k => if k = nid then S1 else if k = id then S2 else γ.σ k, γ.Z⟩, good_open (nids := [nid]) g ho [.own id r (H (HA.of (VP.eq u P.nu P.one))), .own nid (.val u) P] _ (fun k hk => ?_) (fun f hf => ?_) (fun k r' R' hf => ?_) (fun k hk k' hk' hne2 b hb hb' => ?_)⟩
  · simp only [List.mem_cons, List.not_mem_nil, or_false, not_or] at hk
    show (if k = nid then S1 else if k = id then S2 else γ.σ k) = γ.σ k
    rw [if_neg hk.2, if_neg hk.1]
  · simp only [List.mem_cons, List.not_mem_nil, or_false] at hf
    rcases hf with rfl | rfl
    · exact ⟨v, h1, by show (H _).p γ.Z v w (if id = nid then S1 else if id = id then S2 else γ.σ id); rw [s1]; exact h4⟩
    · exact ⟨u, rfl, by show P.p γ.Z u w (if nid = nid then S1 else _); rw [if_pos rfl]; exact h3⟩
  · simp only [List.mem_cons, List.not_mem_nil, or_false] at hf
    rcases hf with e1 | e1
    · injection e1 with e1; subst e1
      refine ⟨List.mem_cons_self .., fun b hb => (e b).2 (.inr ?_)⟩
      rw [s1] at hb; exact hb
    · injection e1 with e1; subst e1
      refine ⟨by simp, fun b hb => (e b).2 (.inl ?_)⟩
      rw [if_pos rfl] at hb; exact hb
  · simp only [List.mem_cons, List.not_mem_nil, or_false] at hk hk'
    rcases hk with rfl | rfl <;> rcases hk' with rfl | rfl
    · exact hne2 rfl
    · rw [s1] at hb
      rw [if_pos rfl] at hb'
      exact d b hb' hb
    · rw [s1] at hb'
      rw [if_pos rfl] at hb
      exact d b hb hb'
    · exact hne2 rfl
theorem t_whole {id nid : Nat} {r : Ref} {P : HA} {H : HA → HA} {u : Value} {nu one : Bool} (hp : Whole H u nu one P) (ho : rest.all (fun f => f.off [id, nid]) = true) (hne : (id == nid) = false) (h : Sat F (.own id r (H P) :: rest) K) : Sat F (.own id r (H (HA.of (VP.eq u nu one))) :: .own nid (.val u) P :: rest) K := fun a w ⟨γ, g⟩ => by
  obtain ⟨v, h1, h2⟩ := g.hold _ (List.mem_cons_self ..)
  obtain ⟨u', h3, h4⟩ := g.hold _ (List.mem_cons_of_mem _ (List.mem_cons_self ..))
  have h3 : u' = u := h3
  subst h3
  have hne' : nid ≠ id := fun e => by simp [e] at hne
  have ho1 : rest.all (fun f => f.off [id]) = true := List.all_eq_true.2 fun f hf => by
    cases f with
    | own k r' R' =>
      have := off_ne ho hf
      simp only [List.mem_cons, not_or] at this
      simp [Fact.off, this.1]
    | _ => rfl
  have hs := g.sep nid _ _ id _ _ (List.mem_cons_of_mem _ (List.mem_cons_self ..)) (List.mem_cons_self ..) hne'
  refine h a w ⟨_, good_close (olds := [.own id r (H (HA.of (VP.eq u' nu one))), .own nid (.val u') P]) g ho1 (fun b => γ.σ nid b ∨ γ.σ id b) (fun b hb => ?_) (fun k r1 R1 k' r2 R2 m1 m2 e => ?_) h1 (hp _ _ _ _ _ h4 hs h2)⟩
  · rcases hb with hb | hb
    · exact ⟨nid, _, _, List.mem_cons_of_mem _ (List.mem_cons_self ..), hb⟩
    · exact ⟨id, _, _, List.mem_cons_self .., hb⟩
  · have := off_ne ho m2
    simp only [List.mem_cons, List.not_mem_nil, or_false] at m1 this
    rcases m1 with e1 | e1
    · injection e1 with e1; subst e1; exact this (.inl e.symm)
    · injection e1 with e1; subst e1; exact this (.inr e.symm)
theorem set_same {vs : List Value} {j : Nat} {u : Value} (h : vs[j]? = some u) : vs.set j u = vs := by
  obtain ⟨hj, rfl⟩ := List.getElem?_eq_some_iff.1 h
  exact List.set_getElem_self hj
theorem eq_self {P : HA} {Z : Foot} {u : Value} {w : World} {S : Foot} (h : P.p Z u w S) : (VP.eq u P.nu P.one).p Z u w := ⟨rfl, fun hn => P.hnu hn _ _ _ _ h, fun hn => P.hone hn _ _ _ _ h⟩
theorem part_all {Z : Foot} {w : World} {Rs : List HA} {vs : List Value} {S : Foot} (h : AllS Z Rs vs w S) {j : Nat} {P : HA} (hj : Rs[j]? = some P) : ∃ (u : Value) (S1 S2 : Foot), (∀ b, S b ↔ S1 b ∨ S2 b) ∧ (∀ b, S1 b → ¬ S2 b) ∧ P.p Z u w S1 ∧ AllS Z (Rs.set j (HA.of (VP.eq u P.nu P.one))) vs w S2 := by
  obtain ⟨u, S1, S2, h1, h2, h3, h4, h5⟩ := h.pick hj
  refine ⟨u, S1, S2, h2, h3, h4, ?_⟩
  have := h5 (HA.of (VP.eq u P.nu P.one)) (fun _ => False) u ⟨eq_self h4, fun _ h => h⟩ fun _ h => h.elim
  rw [set_same h1] at this
  exact this.subS fun b => by simp
theorem whole_all {Z : Foot} {w : World} {Rs : List HA} {vs : List Value} {S1 S2 : Foot} {j : Nat} {u : Value} {nu one : Bool} {P : HA} (hj : j < Rs.length) (h : AllS Z (Rs.set j (HA.of (VP.eq u nu one))) vs w S2) (hp : P.p Z u w S1) (hd : ∀ b, S1 b → ¬ S2 b) : AllS Z (Rs.set j P) vs w (fun b => S1 b ∨ S2 b) := by
  obtain ⟨u', T1, T2, h1, h2, h3, h4, h5⟩ := h.pick (i := j) (R := HA.of (VP.eq u nu one)) (by rw [List.getElem?_set]; simp [hj])
  obtain ⟨⟨h6, _⟩, h7⟩ := h4
  subst h6
  have e : ∀ b, S2 b ↔ T2 b := fun b => (h2 b).trans ⟨fun h => h.elim (fun h => (h7 b h).elim) id, .inr⟩
  have := h5 P S1 u' hp fun b hb hb' => hd b hb ((e b).2 hb')
  rw [List.set_set, set_same h1] at this
  exact this.subS fun b => by rw [e b]
theorem part_cells {T' : TypeId} {Rs : List HA} (j : Nat) {P : HA} (hj : Rs[j]? = some P) : Part (HA.cells T' Rs) P (fun X => HA.cells T' (Rs.set j X)) := fun Z v w S ⟨g, cs, S', h1, h2, h3, h4, h5, h6⟩ => by
  obtain ⟨u, S1, S2, e, d, h7, h8⟩ := part_all h3 hj
  refine ⟨u, S1, fun b => b = g ∨ S2 b, fun b => ?_, fun b hb hb' => ?_, h7, g, cs, S2, h1, h2, h8, fun b => Iff.rfl, fun hb => h5 ((e g).2 (.inr hb)), h6⟩
  · rw [h4 b, e b]; constructor <;> (intro h; rcases h with h | h | h <;> simp_all)
  · rcases hb' with rfl | hb'
    · exact h5 ((e _).2 (.inl hb))
    · exact d b hb hb'
theorem whole_cells {T' : TypeId} {Rs : List HA} {j : Nat} {u : Value} {nu one : Bool} {P : HA} (hj : j < Rs.length) : Whole (fun X => HA.cells T' (Rs.set j X)) u nu one P := fun Z v w S1 S2 hp hd ⟨g, cs, S', h1, h2, h3, h4, h5, h6⟩ => by
  have := whole_all hj h3 hp fun b hb hb' => hd b hb ((h4 b).2 (.inr hb'))
  refine ⟨g, cs, _, h1, h2, this, fun b => ?_, fun hb => ?_, h6⟩
  · show (S1 b ∨ S2 b) ↔ _
    rw [h4 b]; constructor <;> (intro h; rcases h with h | h | h <;> simp_all)
  · rcases hb with hb | hb
    · exact hd g hb ((h4 g).2 (.inl rfl))
    · exact h5 hb
theorem part_row {E : TypeId} {n : Nat} {Rs : List HA} {sz : Nat} (j : Nat) {P : HA} (hj : Rs[j]? = some P) : Part (HA.row E sz n Rs) P (fun X => HA.row E sz n (Rs.set j X)) := fun Z v w S ⟨h0, h⟩ => by
  rcases h with ⟨_, h, _⟩ | ⟨g, cap, cur, S', h1, h2, h3, h4, h5, h6, h7, h8, h9⟩
  · rw [h, Nat.zero_mul] at h0
    rw [List.eq_nil_of_length_eq_zero h0] at hj; simp at hj
  · obtain ⟨u, S1, S2, e, d, k1, k2⟩ := part_all h6 hj
    refine ⟨u, S1, fun b => b = g ∨ S2 b, fun b => ?_, fun b hb hb' => ?_, k1, by simpa using h0, .inr ⟨g, cap, cur, S2, h1, h2, h3, h4, h5, k2, fun b => Iff.rfl, fun hb => h8 ((e g).2 (.inr hb)), h9⟩⟩
    · rw [h7 b, e b]; constructor <;> (intro h; rcases h with h | h | h <;> simp_all)
    · rcases hb' with rfl | hb'
      · exact h8 ((e _).2 (.inl hb))
      · exact d b hb hb'
theorem whole_row {E : TypeId} {sz n : Nat} {Rs : List HA} {j : Nat} {u : Value} {nu one : Bool} {P : HA} (hj : j < Rs.length) : Whole (fun X => HA.row E sz n (Rs.set j X)) u nu one P := fun Z v w S1 S2 hp hd ⟨h0, h⟩ => by
  rcases h with ⟨_, h, _⟩ | ⟨g, cap, cur, S', h1, h2, h3, h4, h5, h6, h7, h8, h9⟩
  · rw [h, Nat.zero_mul] at h0
    simp only [List.length_set] at h0
    omega
  · have := whole_all hj h6 hp fun b hb hb' => hd b hb ((h7 b).2 (.inr hb'))
    refine ⟨by simpa using h0, .inr ⟨g, cap, cur, _, h1, h2, h3, h4, h5, this, fun b => ?_, fun hb => ?_, h9⟩⟩
    · show (S1 b ∨ S2 b) ↔ _
      rw [h7 b]; constructor <;> (intro h; rcases h with h | h | h <;> simp_all)
    · rcases hb with hb | hb
      · exact hd g hb ((h7 g).2 (.inl rfl))
      · exact h8 hb
theorem part_tup {Rs : List HA} (j : Nat) {P : HA} (hj : Rs[j]? = some P) : Part (HA.tup Rs) P (fun X => HA.tup (Rs.set j X)) := fun Z v w S ⟨cs, h1, h3⟩ => by
  obtain ⟨u, S1, S2, e, d, h7, h8⟩ := part_all h3 hj
  exact ⟨u, S1, S2, e, d, h7, cs, h1, h8⟩
theorem part_agg {Rs : List HA} (j : Nat) {P : HA} (hj : Rs[j]? = some P) : Part (HA.agg Rs) P (fun X => HA.agg (Rs.set j X)) := fun Z v w S ⟨cs, h1, h3⟩ => by
  obtain ⟨u, S1, S2, e, d, h7, h8⟩ := part_all h3 hj
  exact ⟨u, S1, S2, e, d, h7, cs, h1, h8⟩
theorem whole_agg {Rs : List HA} {j : Nat} {u : Value} {nu one : Bool} {P : HA} (hj : j < Rs.length) : Whole (fun X => HA.agg (Rs.set j X)) u nu one P := fun Z v w S1 S2 hp hd ⟨cs, h1, h3⟩ => ⟨cs, h1, whole_all hj h3 hp hd⟩
/-- nothing in it has blocks -/
theorem fz_tup (ps : List VP) : ∀ Z v w S, (HA.tup (ps.map HA.of)).p Z v w S → (VP.tup ps).p (fun b => Z b ∨ S b) v w := fun Z v w S ⟨cs, h1, h2⟩ => ⟨cs, h1, h2.all2.1.st (fun _ h => .inl h) (fun _ _ => rfl) (Calm.of_ext (Ext.refl w))⟩
theorem fz_agg (ps : List VP) : ∀ Z v w S, (HA.agg (ps.map HA.of)).p Z v w S → (VP.agg ps).p (fun b => Z b ∨ S b) v w := fun Z v w S ⟨cs, h1, h2⟩ => ⟨cs, h1, h2.all2.1.st (fun _ h => .inl h) (fun _ _ => rfl) (Calm.of_ext (Ext.refl w))⟩
theorem fz_of (x : VP) : ∀ Z v w S, (HA.of x).p Z v w S → x.p (fun b => Z b ∨ S b) v w := fun Z v w _ ⟨h1, _⟩ => x.hst _ _ _ _ _ h1 (fun _ h => .inl h) (fun _ _ => rfl) (Calm.of_ext (Ext.refl w))
/-- a row of values that have no blocks never turns again -/
theorem fz_row {E : TypeId} {sz n : Nat} (ps : List VP) : ∀ Z v w S, (HA.row E sz n (ps.map HA.of)).p Z v w S → (VP.ro n ps).p (fun b => Z b ∨ S b) v w := fun Z v w S ⟨h0, h⟩ => by
  rcases h with ⟨rfl, rfl, _⟩ | ⟨g, cap, cur, S', rfl, h2, h3, h4, h5, h6, h7, h8, h9⟩
  · refine ⟨none, 0, rfl, Nat.le_refl _, by simp [maxLen], .inl ?_⟩
    rw [Nat.zero_mul] at h0
    exact List.eq_nil_of_length_eq_zero (by simpa using h0)
  · refine ⟨_, cap, rfl, h3, h4, .inr ⟨g, 0, rfl, .inr ((h7 g).2 (.inl rfl)), fun j x hx => ?_⟩⟩
    obtain ⟨u, k1, k2⟩ := h6.all2.1.get hx
    refine ⟨u, ?_, x.hst _ _ _ _ _ k2 (fun _ h => .inl h) (fun _ _ => rfl) (Calm.of_ext (Ext.refl w))⟩
    rw [List.getElem?_take] at k1
    split at k1
    · rw [cell_of_row w g _ cur E (0, 0) h2, Nat.zero_add]; simpa using k1
    · cases k1
/-- what is looked at, opened -/
theorem t_bor {r : Ref} {R : HA} {α : Type} (news : α → List Fact) (hn : ∀ x, (news x).all (fun f => !f.isOwn) = true)
    (hh : ∀ γ a w v S, r.den a v → (∀ b, S b → F.Bf b) → R.p γ.Z v w S → ∃ x, ∀ f ∈ news x, f.holds F γ a w) (h : ∀ x, Sat F (news x ++ rest) K) : Sat F (.bor r R :: rest) K := fun a w ⟨γ, g⟩ => by
  obtain ⟨v, S, h1, h2, h3⟩ := g.hold _ (List.mem_cons_self ..)
  obtain ⟨x, hx⟩ := hh γ a w v S h1 h2 h3
  have no : ∀ {k r R}, ¬ Fact.own k r R ∈ news x := fun {k r R} hm => by have := List.all_eq_true.1 (hn x) _ hm; cases this
  refine h x a w ⟨γ, g.ok, g.sz, g.df, g.turn, g.zmono, g.zof, fun f hf => ?_, fun k r R k' r' R' h1 h2 hne => ?_, fun k r R h1 => ?_⟩
  · rcases List.mem_append.1 hf with hf | hf
    · exact hx f hf
    · exact g.hold f (List.mem_cons_of_mem _ hf)
  · rcases List.mem_append.1 h1 with h1 | h1
    · exact (no h1).elim
    rcases List.mem_append.1 h2 with h2 | h2
    · exact (no h2).elim
    exact g.sep _ _ _ _ _ _ (List.mem_cons_of_mem _ h1) (List.mem_cons_of_mem _ h2) hne
  · rcases List.mem_append.1 h1 with h1 | h1
    · exact (no h1).elim
    exact g.bnd _ _ _ (List.mem_cons_of_mem _ h1)
theorem b_ex {r : Ref} {α : Type} {nu one : Bool} {G : α → HA} (h : ∀ x, Sat F (.bor r (G x) :: rest) K) : Sat F (.bor r (HA.ex nu one G) :: rest) K :=
  t_bor (fun x => [.bor r (G x)]) (fun _ => rfl) (fun γ a w v S h1 h2 ⟨x, h3, _⟩ => ⟨x, fun f hf => by
    rw [List.mem_singleton] at hf; subst hf; exact ⟨v, S, h1, h2, h3⟩⟩) h
theorem b_pure {r : Ref} {φ : Prop} {R : HA} (h : φ → Sat F (.bor r R :: rest) K) : Sat F (.bor r (HA.pure φ R) :: rest) K :=
  t_bor (α := PLift φ) (fun _ => [.bor r R]) (fun _ => rfl) (fun γ a w v S h1 h2 h3 => ⟨⟨h3.1⟩, fun f hf => by
    rw [List.mem_singleton] at hf; subst hf; exact ⟨v, S, h1, h2, h3.2⟩⟩) (fun x => h x.down)
theorem b_star {r : Ref} {R : HA} {L : List (Value × HA)} (h : Sat F (.bor r R :: (borFacts L ++ rest)) K) : Sat F (.bor r (HA.star R L) :: rest) K :=
  t_bor (α := Unit) (fun _ => .bor r R :: borFacts L) (fun _ => by
    rw [List.all_cons, Bool.and_eq_true]; exact ⟨rfl, List.all_eq_true.2 fun f hf => by obtain ⟨y, _, rfl⟩ := List.mem_map.1 hf; rfl⟩) (fun γ a w v S h1 h2 ⟨S1, S2, e, d, h3, h4⟩ => ⟨(), fun f hf => by
    rcases List.mem_cons.1 hf with rfl | hf
    · exact ⟨v, S1, h1, fun b hb => h2 b ((e b).2 (.inl hb)), h3⟩
    · obtain ⟨y, hy, rfl⟩ := List.mem_map.1 hf
      obtain ⟨j, hj, rfl⟩ := List.mem_iff_getElem.1 hy
      obtain ⟨G, g1, _, g3⟩ := h4.split
      exact ⟨_, G j, rfl, fun b hb => h2 b ((e b).2 (.inr (g3 j b hb))), g1 j _ _ (by rw [List.getElem?_map, List.getElem?_eq_getElem hj]; rfl) (by rw [List.getElem?_map, List.getElem?_eq_getElem hj]; rfl)⟩⟩) (fun _ => h)
theorem b_part {r : Ref} {R P : HA} {H : HA → HA} (hp : Part R P H) (h : ∀ u, Sat F (.bor r (H (HA.of (VP.eq u P.nu P.one))) :: .bor (.val u) P :: rest) K) : Sat F (.bor r R :: rest) K :=
  t_bor (α := Value) (fun u => [.bor r (H (HA.of (VP.eq u P.nu P.one))), .bor (.val u) P]) (fun _ => rfl) (fun γ a w v S h1 h2 h3 => by
    obtain ⟨u, S1, S2, e, d, h4, h5⟩ := hp _ _ _ _ h3
    refine ⟨u, fun f hf => ?_⟩
    simp only [List.mem_cons, List.not_mem_nil, or_false] at hf
    rcases hf with rfl | rfl
    · exact ⟨v, S2, h1, fun b hb => h2 b ((e b).2 (.inr hb)), h5⟩
    · exact ⟨u, S1, rfl, fun b hb => h2 b ((e b).2 (.inl hb)), h4⟩) h
theorem b_weak {r : Ref} {R R' : HA} (hw : ∀ Z v w S, R.p Z v w S → R'.p Z v w S) (h : Sat F (.bor r R' :: rest) K) : Sat F (.bor r R :: rest) K :=
  t_bor (α := Unit) (fun _ => [.bor r R']) (fun _ => rfl) (fun γ a w v S h1 h2 h3 => ⟨(), fun f hf => by
    rw [List.mem_singleton] at hf; subst hf; exact ⟨v, S, h1, h2, hw _ _ _ _ h3⟩⟩) (fun _ => h)
theorem b_know {r : Ref} {R : HA} {φ : Prop} (hφ : ∀ Z v w S, R.p Z v w S → φ) (h : φ → Sat F (.bor r R :: rest) K) : Sat F (.bor r R :: rest) K :=
  t_know (fun γ a w ⟨v, _, _, _, h2⟩ => hφ _ v w _ h2) h
end
end O
end Go.Proofs.Ytogodjiemgilaaa

/- The logic over objects: rows: built, made, appended to, cut, counted, indexed. -/
namespace Go.Proofs.Ytogodjiemgilaaa
open Go.RowKit
namespace O
def noUb : Value → Bool
  | .int k _ => !(k == .u32)
  | _ => true
theorem noUb_spec {v : Value} (h : noUb v = true) : NoU v := fun n e => by rw [e] at h; simp [noUb] at h
theorem noUs_spec {l : List Value} (h : l.all noUb = true) : ∀ u ∈ l, NoU u := fun u hu => noUb_spec (List.all_eq_true.1 h u hu)
theorem zeroCells_mem {z : Array Value} {n : Nat} (hz : 0 < z.size) : ∀ u ∈ (Builtin.zeroCells z n).toList, u ∈ z.toList := fun u hu => by
  unfold Builtin.zeroCells at hu
  simp only [Array.toList_map, List.mem_map] at hu
  obtain ⟨i, _, rfl⟩ := hu
  rw [getElem!_pos z _ (Nat.mod_lt _ hz)]
  simp
theorem madeCells_mem {z : Array Value} {n : Nat} (hz : 0 < z.size) : ∀ u ∈ (madeCells z n).toList, u ∈ z.toList := fun u hu => by
  unfold madeCells at hu
  simp only [Array.toList_map, List.mem_map] at hu
  obtain ⟨i, _, rfl⟩ := hu
  rw [getElem!_pos z _ (Nat.mod_lt _ hz)]
  simp
/-- a row in a new block -/
theorem row_new {Z : Foot} {w : World} {E : TypeId} {size n cap : Nat} {Rs : List HA} {xs rest : List Value} {S : Foot} (w1 : World) (h1 : w1.heap = w.heap) (hl : Rs.length = n * size) (h : AllS Z Rs xs w S) (hn : ∀ u ∈ xs ++ rest, NoU u) (hc : xs.length + rest.length = cap * size) (hnc : n ≤ cap) (hcm : cap ≤ maxLen) (hZ : ∀ b, Z b → b < w.heap.size) (hS : ∀ b, S b → b < w.heap.size) :
    (HA.row E size n Rs).p Z (.slice (some ⟨w.heap.size, 0, none⟩) n cap) (w1.alloc (.cells (xs ++ rest).toArray E)) (fun b => b = w.heap.size ∨ S b) := by
  have old : ∀ b, b < w.heap.size → (w1.alloc (.cells (xs ++ rest).toArray E)).heap[b]? = w.heap[b]? := fun b hb => by
    rw [(Ext.new w1 _).block b (by rw [h1]; exact hb), h1]
  refine ⟨hl, .inr ⟨_, cap, (xs ++ rest).toArray, S, rfl, by rw [← h1]; exact heap_alloc_new w1 _, hnc, hcm, by simpa using hc, ?_, fun b => Iff.rfl, fun hb => Nat.lt_irrefl _ (hS _ hb), by simpa using hn⟩⟩
  have : ((xs ++ rest).toArray.toList).take (n * size) = xs := by
    have hx := h.len
    show (xs ++ rest).take (n * size) = xs
    rw [← hl, ← hx]; exact List.take_left
  rw [this]
  refine h.st (fun _ h => h) (fun b hb => old b (hZ b hb)) ⟨?_, fun b hb => .inl (old b hb)⟩ fun b hb => old b (hS b hb)
  simp [h1]
theorem turn_alloc {S : Foot} {w w1 : World} (ob : Obj) (e : Ext w w1) : Turn S w (w1.alloc ob) := .of_ext (e.alloc ob)
theorem row_append {P : Program} {T E : TypeId} {z : Value} {size bytes : Nat} (he : Elem P T E z size bytes) (hzn : z.cells.toList.all noUb = true) {Z : Foot} {w : World} {v : Value} {n : Nat} {Ps : List HA} {S : Foot} (hv : (HA.row E size n Ps).p Z v w S)
    (hS : ∀ b, S b → b < w.heap.size ∧ ¬ Z b) (hZ : ∀ b, Z b → b < w.heap.size) {A : Option Addr} {m c : Nat} {cs : List Value} {Qs : List HA} {S2 : Foot} (ha : A = none → m = 0) (hcs : cs = [] ∨ ∃ g off, A = some ⟨g, off, none⟩ ∧ ∀ j u, cs[j]? = some u → w.cell? ⟨g, off + j, none⟩ = some u)
    (hq : AllS Z Qs cs w S2) (hql : Qs.length = m * size) (hone : Qs.all (·.one) = true) (hnu : Qs.all (·.nu) = true) (hd : ∀ b, S b → ¬ S2 b) (hS2 : ∀ b, S2 b → b < w.heap.size) (hb : n + m ≤ maxLen) (hbb : (n + m) * bytes ≤ 140737488355328) (ty : TypeId) :
    ∃ (v' : Value) (w' : World) (S' : Foot), (Builtin.append_ #[T, T] ty #[v, .slice A m c]).run P w = .ok v' w' ∧ (HA.row E size (n + m) (Ps ++ Qs)).p Z v' w' S' ∧ Turn S w w' ∧ ∀ b, S' b → (S b ∨ S2 b ∨ w.heap.size ≤ b) ∧ b < w'.heap.size := by
  obtain ⟨ht, i, hi, hz, hsz, hby, hzs, hpos⟩ := he
  subst hsz hby
  have hzm : 0 < z.cells.size := by omega
  have hcl : cs.length = m * i.size := by rw [hq.len, hql]
  have hlen : (Ps ++ Qs).length = (n + m) * i.size := by rw [List.length_append, hv.1, hql, Nat.add_mul]
  have hzero : ∀ k, ∀ u ∈ (Builtin.zeroCells z.cells k).toList, NoU u := fun k u hu => noUs_spec hzn u (zeroCells_mem hzm u hu)
  have hqn := hq.nus hnu
  have hml : maxLen = 9223372036854775807 ∨ maxLen ≤ 9223372036854775807 := .inr (by simp [maxLen])
  rcases A with _ | ad
  · -- nothing is appended
    obtain rfl := ha rfl
    obtain rfl : cs = [] := List.eq_nil_of_length_eq_zero (by simpa using hcl)
    obtain rfl : Qs = [] := List.eq_nil_of_length_eq_zero (by simpa using hql)
    refine ⟨v, w, S, ?_, by simpa using hv, .refl _ _, fun b hb => ⟨.inl hb, (hS b hb).1⟩⟩
    rcases hv.2 with ⟨rfl, rfl, _⟩ | ⟨g, cap, cur, S', rfl, hg, hnc, _⟩
    · simp [Builtin.append_, run_underlying ht, sizeOf, typeInfo, hi, Builtin.lenOf, Builtin.firstCells]
    · simp [Builtin.append_, run_underlying ht, sizeOf, typeInfo, hi, Builtin.lenOf, Builtin.firstCells, hnc, storeCells]
  have hnews : ∀ j u, cs[j]? = some u → w.cell? (ad.add j) = some u := fun j u hu => by
    rcases hcs with rfl | ⟨g, off, e, h⟩
    · simp at hu
    · injection e with e; subst e; rw [add_plain]; exact h j u hu
  rcases hv.2 with ⟨rfl, rfl, hno⟩ | ⟨g, cap, cur, S', rfl, hg, hnc, hcm, hcs', hall, hSe, hgS, hcn⟩
  · have hP : Ps = [] := List.eq_nil_of_length_eq_zero (by have := hv.1; simpa using this)
    subst hP
    by_cases hm : m = 0
    · subst hm
      obtain rfl : cs = [] := List.eq_nil_of_length_eq_zero (by simpa using hcl)
      obtain rfl : Qs = [] := List.eq_nil_of_length_eq_zero (by simpa using hql)
      refine ⟨.slice none 0 0, w, S, ?_, by simpa using hv, .refl _ _, fun b hb => (hno b hb).elim⟩
      simp [Builtin.append_, run_underlying ht, sizeOf, typeInfo, hi, Builtin.lenOf, Builtin.firstCells, loadCells, loadCellsFrom]
    · have hr := run_append_nil (P := P) w T ty E i z ht hi hz ad m c cs hcl hnews (by omega) (by rcases hml with h | h <;> omega) (by have := hbb; simp only [Nat.zero_add] at this; omega)
      have hge := grownCap_ge w m 0 E
      have hcm := grownCap_le_maxLen w m 0 E (by omega)
      refine ⟨_, _, fun b => b = w.heap.size ∨ S2 b, hr, ?_, turn_alloc _ (Ext.refl w).drew, fun b hb => ?_⟩
      · have := row_new (E := E) (n := m) (cap := grownCap w m 0 E) (w := w) (rest := (Builtin.zeroCells z.cells (grownCap w m 0 E - m)).toList) w.drew rfl (by simpa using hql) hq (fun u hu => (List.mem_append.1 hu).elim (hqn u) (hzero _ u)) (by
          rw [hcl, Array.length_toList, size_zeroCells, hzs, ← Nat.add_mul]; congr 1; omega) hge hcm hZ hS2
        have ea : cs.toArray ++ Builtin.zeroCells z.cells (grownCap w m 0 E - m) = (cs ++ (Builtin.zeroCells z.cells (grownCap w m 0 E - m)).toList).toArray := Array.toList_inj.1 (by simp)
        rw [ea, Nat.zero_add, List.nil_append]; exact this
      · rcases hb with rfl | hb
        · exact ⟨.inr (.inr (Nat.le_refl _)), by simp⟩
        · exact ⟨.inr (.inl hb), Nat.lt_of_lt_of_le (hS2 b hb) (by simp)⟩
  · have hcurl : cur.size = cap * i.size := hcs'
    have hxl : (cur.toList.take (n * i.size)).length = n * i.size := by
      rw [List.length_take, Array.length_toList, hcurl]
      exact Nat.min_eq_left (Nat.mul_le_mul_right _ hnc)
    have hS'S : ∀ b, S' b → S b := fun b hb => (hSe b).2 (.inr hb)
    by_cases hroom : n + m ≤ cap
    · have hfit : n * i.size + cs.length ≤ cur.size := by rw [hcl, hcurl, ← Nat.add_mul]; exact Nat.mul_le_mul_right _ hroom
      have hr := run_append_room (P := P) w T ty E i ht hi g n cap cur hg ad m c cs hcl hnews (hq.ones hone) hroom hfit
      generalize hds : cur.toList.take (n * i.size) ++ cs ++ cur.toList.drop (n * i.size + cs.length) = ds at hr
      have hdl : ds.length = cur.size := by
        rw [← hds]
        simp only [List.length_append, List.length_drop, Array.length_toList, hxl]; omega
      have hrow : Row w g E cur.toList := by unfold Row; simpa using hg
      have t : Turn (fun b => b = g) w (w.setRow g ds.toArray) := setRow_turn hrow hcn ds rfl
      have nog : ∀ b, S' b ∨ S2 b → b ≠ g := fun b hb e => by
        subst e
        rcases hb with hb | hb
        · exact hgS hb
        · exact hd _ ((hSe _).2 (.inl rfl)) hb
      refine ⟨_, _, fun b => b = g ∨ (S' b ∨ S2 b), hr, ⟨hlen, .inr ⟨g, cap, ds.toArray, fun b => S' b ∨ S2 b, rfl, setRow_heap w g cur _ E _ hg, hroom, hcm, by simpa [hcurl] using hdl, ?_, fun b => Iff.rfl, fun hb => nog _ hb rfl, fun u hu => ?_⟩⟩, t.mono fun b _ e => (hSe b).2 (.inl e), fun b hb => ?_⟩
      · have : ds.take ((n + m) * i.size) = cur.toList.take (n * i.size) ++ cs := by
          rw [← hds, show (n + m) * i.size = (cur.toList.take (n * i.size) ++ cs).length by rw [List.length_append, hxl, hcl, Nat.add_mul]]
          exact List.take_left
        show AllS Z (Ps ++ Qs) (ds.take ((n + m) * i.size)) _ _
        rw [this]
        refine (AllS.app hall hq fun b hb => hd b (hS'S b hb)).st (fun _ h => h) (fun b hb => t.block b (hZ b hb) fun e => (hS b ((hSe b).2 (.inl e))).2 hb) t.toCalm fun b hb => t.block b ?_ (nog b hb)
        rcases hb with hb | hb
        · exact (hS b (hS'S b hb)).1
        · exact hS2 b hb
      · have hu : u ∈ ds := by simpa using hu
        rw [← hds, List.mem_append, List.mem_append] at hu
        rcases hu with (hu | hu) | hu
        · exact hcn u (List.mem_of_mem_take hu)
        · exact hqn u hu
        · exact hcn u (List.mem_of_mem_drop hu)
      · rw [setRow_size]
        rcases hb with rfl | hb | hb
        · exact ⟨.inl ((hSe _).2 (.inl rfl)), (hS _ ((hSe _).2 (.inl rfl))).1⟩
        · exact ⟨.inl (hS'S b hb), (hS b (hS'S b hb)).1⟩
        · exact ⟨.inr (.inl hb), hS2 b hb⟩
    · have holds : ∀ j u, (cur.toList.take (n * i.size))[j]? = some u → w.cell? ((⟨g, 0, none⟩ : Addr).add j) = some u := fun j u hu => by
        rw [add_plain, Nat.zero_add, cell_of_row w g j cur E (0, 0) hg]
        rw [List.getElem?_take] at hu
        split at hu
        · simpa using hu
        · cases hu
      have hr := run_append_grow (P := P) w T ty E i z ht hi hz ⟨g, 0, none⟩ n cap _ hxl holds ad m c cs hcl hnews (by omega) (by rcases hml with h | h <;> omega) (growslice_fits (by omega) hbb)
      have hge := grownCap_ge w (n + m) cap E
      have hcm2 := grownCap_le_maxLen w (n + m) cap E hb
      have hall2 := AllS.app hall hq fun b hb => hd b (hS'S b hb)
      refine ⟨_, _, fun b => b = w.heap.size ∨ (S' b ∨ S2 b), hr, ?_, turn_alloc _ (Ext.refl w).drew, fun b hb => ?_⟩
      · have := row_new (E := E) (n := n + m) (cap := grownCap w (n + m) cap E) (w := w) (rest := (Builtin.zeroCells z.cells (grownCap w (n + m) cap E - (n + m))).toList) w.drew rfl hlen hall2 (fun u hu => by
          rcases List.mem_append.1 hu with hu | hu
          · rcases List.mem_append.1 hu with hu | hu
            · exact hcn u (List.mem_of_mem_take hu)
            · exact hqn u hu
          · exact hzero _ u hu) (by
          rw [List.length_append, hxl, hcl, Array.length_toList, size_zeroCells, hzs, ← Nat.add_mul, ← Nat.add_mul]; congr 1; omega) hge hcm2 hZ (fun b hb => by
          rcases hb with hb | hb
          · exact (hS b (hS'S b hb)).1
          · exact hS2 b hb)
        have ea : (cur.toList.take (n * i.size)).toArray ++ cs.toArray ++ Builtin.zeroCells z.cells (grownCap w (n + m) cap E - (n + m)) = (cur.toList.take (n * i.size) ++ cs ++ (Builtin.zeroCells z.cells (grownCap w (n + m) cap E - (n + m))).toList).toArray := Array.toList_inj.1 (by simp)
        rw [ea]; exact this
      · rcases hb with rfl | hb | hb
        · exact ⟨.inr (.inr (Nat.le_refl _)), by simp⟩
        · exact ⟨.inl (hS'S b hb), Nat.lt_of_lt_of_le (hS b (hS'S b hb)).1 (by simp)⟩
        · exact ⟨.inr (.inl hb), Nat.lt_of_lt_of_le (hS2 b hb) (by simp)⟩
section
variable {X : Cx} {i : Nat} {pre suc : List Nat}
/-- what is appended to: a row of its own, or nothing yet -/
def Dst (X : Cx) (i : Nat) (pre suc : List Nat) (y : Operand) (R : HA) (id : Option Nat) : Prop := Mv X i pre suc y R id
theorem dst_nil {y : Operand} {E : TypeId} {sz : Nat} (h : Ar X i pre suc y VP.nilS.p) : Mv X i pre suc y (HA.row E sz 0 []) none := fun c γ a w s => ⟨fun _ => False, ⟨by simp, .inl ⟨h c γ a w s, rfl, fun _ h => h⟩⟩, fun _ h => h.elim⟩
/-- what is appended: the elements of this slice -/
def Src (X : Cx) (i : Nat) (pre suc : List Nat) (y : Operand) (m : Nat) (Qs : List HA) (id : Option Nat) : Prop := ∀ c γ a w, Sit X i pre suc c γ a w → ∃ (A : Option Addr) (cp : Nat) (cs : List Value) (S : Foot), a.eval y = .slice A m cp ∧ (A = none → m = 0) ∧ (cs = [] ∨ ∃ g off, A = some ⟨g, off, none⟩ ∧ ∀ j u, cs[j]? = some u → w.cell? ⟨g, off + j, none⟩ = some u) ∧ AllS γ.Z Qs cs w S ∧ ∀ b, S b → ∃ k ∈ id, γ.σ k b ∧ ∃ r R, Has X c (.own k r R)
theorem src_row' {Z : Foot} {w : World} {E : TypeId} {sz m : Nat} {Qs : List HA} {v : Value} {S : Foot} (h : (HA.row E sz m Qs).p Z v w S) : ∃ (A : Option Addr) (cp : Nat) (cs : List Value) (S' : Foot), v = .slice A m cp ∧ (A = none → m = 0) ∧ (cs = [] ∨ ∃ g off, A = some ⟨g, off, none⟩ ∧ ∀ j u, cs[j]? = some u → w.cell? ⟨g, off + j, none⟩ = some u) ∧ AllS Z Qs cs w S' ∧ ∀ b, S' b → S b := by
  obtain ⟨h0, ⟨rfl, rfl, hno⟩ | ⟨g, cap, cur, S', rfl, hg, hnc, hcm, hcs, hall, hSe, _⟩⟩ := h
  · obtain rfl : Qs = [] := List.eq_nil_of_length_eq_zero (by simpa using h0)
    exact ⟨none, 0, [], S, rfl, fun _ => rfl, .inl rfl, hno, fun _ h => h⟩
  · refine ⟨_, cap, _, S', rfl, fun h => (by cases h), .inr ⟨g, 0, rfl, fun j u hu => ?_⟩, hall, fun b hb => (hSe b).2 (.inr hb)⟩
    rw [Nat.zero_add, cell_of_row w g j cur E (0, 0) hg]
    rw [List.getElem?_take] at hu
    split at hu
    · simpa using hu
    · cases hu
/-- a slice built here: what its elements have moves on -/
theorem src_row {k id : Nat} {E : TypeId} {sz m : Nat} {Qs : List HA} (h : Av X i pre suc (.own id (.tmp k) (HA.row E sz m Qs))) : Src X i pre suc (.tmp k) m Qs (some id) := fun c γ a w s => by
  obtain ⟨v, h1, h2⟩ := h.h s
  obtain ⟨A, cp, cs, S', e, h3, h4, h5, h6⟩ := src_row' h2
  exact ⟨A, cp, cs, S', by rw [eval_tmp h1, e], h3, h4, h5, fun b hb => ⟨id, rfl, h6 b hb, _, _, h c γ a w s⟩⟩
/-- a slice of which the elements have nothing of their own: it stays -/
theorem src_look {y : Operand} {v : Value} {nu one : Bool} {E : TypeId} {sz m : Nat} {qs : List VP} (hB : ∀ c γ a w, Sit X i pre suc c γ a w → ∃ S, (HA.row E sz m (qs.map HA.of)).p γ.Z v w S) (hy : Ar X i pre suc y (VP.eq v nu one).p) : Src X i pre suc y m (qs.map HA.of) none := fun c γ a w s => by
  obtain ⟨S, h2⟩ := hB c γ a w s
  obtain ⟨A, cp, cs, S', e, h3, h4, h5, h6⟩ := src_row' h2
  have hn := h5.all2
  exact ⟨A, cp, cs, S', by rw [(hy c γ a w s).1, e], h3, h4, h5, fun b hb => (hn.2 b hb).elim⟩
theorem sit_own {id : Nat} {v : Value} {R : HA} (h : Av X i pre suc (.own id (.val v) R)) : ∀ c γ a w, Sit X i pre suc c γ a w → ∃ S, R.p γ.Z v w S := fun c γ a w s => by
  obtain ⟨u, h1, h2⟩ := h.h s
  have h1 : u = v := h1
  subst h1; exact ⟨_, h2⟩
theorem sit_bor {v : Value} {R : HA} (h : Av X i pre suc (.bor (.val v) R)) : ∀ c γ a w, Sit X i pre suc c γ a w → ∃ S, R.p γ.Z v w S := fun c γ a w s => by
  obtain ⟨u, S, h1, _, h2⟩ := h.h s
  have h1 : u = v := h1
  subst h1; exact ⟨_, h2⟩
theorem src_ro {y : Operand} {m : Nat} {qs : List VP} (h : Ar X i pre suc y (VP.ro m qs).p) (hm : m = 0 ∨ 0 < qs.length) : Src X i pre suc y m (qs.map HA.of) none := fun c γ a w s => by
  obtain ⟨A, cp, h1, h2, h3, h4⟩ := h c γ a w s
  rcases h4 with rfl | ⟨g, off, rfl, hz, h5⟩
  · exact ⟨A, cp, [], fun _ => False, h1, fun _ => hm.elim id (fun h => by simp at h), .inl rfl, fun _ h => h, fun _ h => h.elim⟩
  · obtain ⟨cs, h6, h7⟩ := cells_all2' h5
    exact ⟨_, cp, cs, fun _ => False, h1, fun h => (by cases h), .inr ⟨g, off, rfl, h7⟩, AllS.of_all2 (fun _ h => h) h6, fun _ h => h.elim⟩
theorem does_append {o : Oper} {d id : Nat} {T E : TypeId} {z : Value} {size bytes n m n' : Nat} {Ps Qs Rs : List HA} {idd ids : Option Nat} (he : Elem X.P T E z size bytes) (hzn : z.cells.toList.all noUb = true) (y u : Operand)
    (hop : o.op = .call { callee := .builtin .append, args := #[y, u], argTypes := #[T, T] }) (hd : o.dst = some d) (hlt : decide (d < X.N) = true) (hc : chkM X i pre suc (some d) (id :: (idd.toList ++ ids.toList)) = true)
    (hr : resOf X i = [.own id (.tmp d) (HA.row E size n' Rs)]) (hnm : n + m = n') (hrs : Ps ++ Qs = Rs) (hne : (ids.isNone || !(idd == ids)) = true) (hb : n + m ≤ 100000000000 ∧ bytes ≤ 1000) (hql : Qs.length = m * size) (hqo : Qs.all (·.one) = true) (hqn : Qs.all (·.nu) = true)
    (h1 : Mv X i pre suc y (HA.row E size n Ps) idd) (h2 : Src X i pre suc u m Qs ids) : Does X i pre suc o := by
  subst hrs hnm
  intro c γ a w s Q K hK
  obtain ⟨S1, e1, e2⟩ := h1 c γ a w s
  obtain ⟨A, cp, cs, S2, k1, k2, k3, k4, k5⟩ := h2 c γ a w s
  have own : ∀ {o : Option Nat} {b : Nat}, (∃ k ∈ o, γ.σ k b ∧ ∃ r R, Has X c (.own k r R)) → b < w.heap.size ∧ ¬ γ.Z b := fun {o b} ⟨k, _, hk, r, R, hh⟩ => ⟨(s.g.bnd k r R hh b hk).1, (s.g.bnd k r R hh b hk).2.2⟩
  have hbig : (n + m) * bytes ≤ 140737488355328 := Nat.le_trans (Nat.mul_le_mul hb.1 hb.2) (by omega)
  obtain ⟨v', w', S', r1, r2, r3, r4⟩ := row_append he hzn e1 (fun b hb => own (e2 b hb)) (fun b hb => (s.g.zof b hb).1) k2 k3 k4 hql hqo hqn (fun b hb hb' => by
    obtain ⟨k, hk, m1, r, R, m2⟩ := e2 b hb
    obtain ⟨k', hk', m3, r', R', m4⟩ := k5 b hb'
    refine s.g.sep k r R k' r' R' m2 m4 (fun e => ?_) b m1 m3
    simp only [Option.mem_def] at hk hk'
    subst hk hk' e
    simp at hne) (fun b hb => (own (k5 b hb)).1) (by unfold maxLen; omega) hbig o.type
  unfold Oper.wp execOp
  simp only [hop, resolve, invoke, builtin, Sem.run_bind, Sem.run_pure, Result.andThen_ok, List.map_toArray, List.map_cons, List.map_nil, k1]
  rw [r1]
  show K (a.put o.dst v') w'
  rw [hd]
  have hE : ∀ b, (S1 b ∨ S2 b) → ∃ k ∈ id :: (idd.toList ++ ids.toList), γ.σ k b ∧ ∃ r R, Has X c (.own k r R) := fun b hb => by
    rcases hb with hb | hb
    · obtain ⟨k, hk, h⟩ := e2 b hb
      exact ⟨k, List.mem_cons_of_mem _ (List.mem_append_left _ (by simpa [Option.mem_toList] using hk)), h⟩
    · obtain ⟨k, hk, h⟩ := k5 b hb
      exact ⟨k, List.mem_cons_of_mem _ (List.mem_append_right _ (by simpa [Option.mem_toList] using hk)), h⟩
  refine hK _ _ _ (step_own s hc hr (fun b => S1 b ∨ S2 b) S' hE (by rw [put_size]; exact s.g.sz) (by rw [put_defers']; exact s.g.df) (r3.mono fun b _ h => .inl h) (ha_put d a v' _ γ) (put_eq v' (by rw [s.g.sz]; exact of_decide_eq_true hlt)) r2 fun b hb => ?_)
  obtain ⟨h, h'⟩ := r4 b hb
  refine ⟨?_, h'⟩
  rcases h with h | h | h
  · exact .inl (.inl h)
  · exact .inl (.inr h)
  · exact .inr h
/-- parts of a struct, or of a slice, that is built -/
inductive Parts (X : Cx) (i : Nat) (pre suc : List Nat) (place : Nat → Option (Nat × Nat)) : List (Nat × Operand) → List HA → List HA → List Nat → Prop where
  | nil (ps : List HA) : Parts X i pre suc place [] ps ps []
  | cons {f : Nat} {x : Operand} {rest : List (Nat × Operand)} {ps ps' : List HA} {ids : List Nat} (off : Nat) (qs : List HA) (id : Option Nat) (hp : place f = some (off, qs.length)) (hl : decide (off + qs.length ≤ ps.length) = true) (hx : Cv X i pre suc x qs id)
      (h : Parts X i pre suc place rest (ps.take off ++ qs ++ ps.drop (off + qs.length)) ps' ids) : Parts X i pre suc place ((f, x) :: rest) ps ps' (id.toList ++ ids)
theorem parts_fill {place : Nat → Option (Nat × Nat)} {c : Nat → Bool} {γ : Gho} {a : Act} {w : World} (s : Sit X i pre suc c γ a w) : ∀ {parts : List (Nat × Operand)} {ps ps' : List HA} {ids : List Nat}, Parts X i pre suc place parts ps ps' ids → ids.Nodup → ∀ (cs : List Value) (S : Foot), AllS γ.Z ps cs w S → (∀ b k, k ∈ ids → γ.σ k b → (∃ r R, Has X c (.own k r R)) → ¬ S b) →
    ∃ (ds : List Value) (S' : Foot), Instr.fill place cs.toArray (parts.map fun x => (x.1, a.eval x.2)) = some ds.toArray ∧ AllS γ.Z ps' ds w S' ∧ ∀ b, S' b → S b ∨ ∃ k ∈ ids, γ.σ k b ∧ ∃ r R, Has X c (.own k r R) := by
  intro parts ps ps' ids h
  induction h with
  | nil ps => intro _ cs S hc _; exact ⟨cs, S, rfl, hc, fun b hb => .inl hb⟩
  | @cons f x rest ps ps' ids off qs id hp hl hx h ih =>
    intro hnd cs S hc hS
    obtain ⟨T, h1, h2⟩ := hx c γ a w s
    have hl := of_decide_eq_true hl
    have hlen := hc.len
    have hdis : ∀ b, S b → ¬ T b := fun b hb hb' => by
      obtain ⟨k, hk, m1, m2⟩ := h2 b hb'
      exact hS b k (List.mem_append_left _ (by simpa [Option.mem_toList] using hk)) m1 m2 hb
    obtain ⟨S1, g1, g2⟩ := hc.splice off qs.length hl h1 hdis
    rw [List.nodup_append] at hnd
    obtain ⟨ds, S', e1, e2, e3⟩ := ih hnd.2.1 _ _ g2 (fun b k hk hb hh hb' => by
      rcases hb' with hb' | hb'
      · exact hS b k (List.mem_append_right _ hk) hb hh (g1 b hb')
      · obtain ⟨k', hk', m1, r', R', m2⟩ := h2 b hb'
        obtain ⟨r, R, hh⟩ := hh
        exact s.g.sep k r R k' r' R' hh m2 (fun e => hnd.2.2 k' (by simpa [Option.mem_toList] using hk') k hk e.symm) b hb m1)
    refine ⟨ds, S', ?_, e2, fun b hb => ?_⟩
    · have h1l : (a.eval x).cells.size = qs.length := by simpa using h1.len
      rw [List.map_cons]
      unfold Instr.fill
      simp only [hp]
      rw [if_neg (by simp; omega)]
      have := fold_set' off (a.eval x).cells cs.toArray (by simp; omega)
      rw [h1l] at this
      rw [← e1]
      congr 1
    · rcases e3 b hb with h | ⟨k, hk, h⟩
      · rcases h with h | h
        · exact .inl (g1 b h)
        · obtain ⟨k, hk, h⟩ := h2 b h
          exact .inr ⟨k, List.mem_append_left _ (by simpa [Option.mem_toList] using hk), h⟩
      · exact .inr ⟨k, List.mem_append_right _ hk, h⟩
/-- an operation that leaves a new value with what others had -/
theorem does_taken {o : Oper} {d id : Nat} {R : HA} {ids : List Nat} (hd : o.dst = some d) (hlt : decide (d < X.N) = true) (hc : chkM X i pre suc (some d) (id :: ids) = true) (hr : resOf X i = [.own id (.tmp d) R])
    (h : ∀ c γ a w, Sit X i pre suc c γ a w → ∃ (v : Value) (w' : World) (S : Foot), (execOp a.eval o).run X.P w = .ok (.value v) w' ∧ Ext w w' ∧ R.p γ.Z v w' S ∧ ∀ b, S b → (w.heap.size ≤ b ∧ b < w'.heap.size) ∨ ∃ k ∈ ids, γ.σ k b ∧ ∃ r R, Has X c (.own k r R)) : Does X i pre suc o := by
  intro c γ a w s Q K hK
  obtain ⟨v, w', S, h1, e, h2, h3⟩ := h c γ a w s
  have hlt' := of_decide_eq_true hlt
  unfold Oper.wp
  rw [h1]
  show K (a.put o.dst v) _
  rw [hd]
  refine hK _ _ _ (step_own s hc hr (fun b => ∃ k ∈ ids, γ.σ k b ∧ ∃ r R, Has X c (.own k r R)) S (fun b ⟨k, hk, h⟩ => ⟨k, List.mem_cons_of_mem _ hk, h⟩) (by rw [put_size]; exact s.g.sz) (by rw [put_defers']; exact s.g.df) (.of_ext e) (ha_put d a v _ γ) (put_eq v (by rw [s.g.sz]; exact hlt')) h2 fun b hb => ?_)
  rcases h3 b hb with ⟨h, h'⟩ | hk
  · exact ⟨.inr h, h'⟩
  · have hk' := hk
    obtain ⟨k, _, m1, r, R', m2⟩ := hk'
    exact ⟨.inl hk, Nat.lt_of_lt_of_le (s.g.bnd k r R' m2 b m1).1 e.size⟩
theorem run_build {T : TypeId} {parts : Array (Nat × Operand)} {zs : List Value} {pl : Array (Nat × Nat)} (hz : zeroOf X.P T zs) (hpl : placesOf X.P T pl) {a : Act} {w : World} {ds : List Value} (e1 : Instr.fill (fun f => pl[f]?) zs.toArray (parts.toList.map fun x => (x.1, a.eval x.2)) = some ds.toArray) :
    (Instr.build T (parts.map fun x => (x.1, a.eval x.2))).run X.P w = .ok (.agg ds.toArray) w := by
  obtain ⟨fs, hu, hm⟩ := hpl
  unfold zeroOf at hz
  obtain ⟨ti, h1, h2⟩ := Option.bind_eq_some_iff.1 hz
  obtain ⟨v, h3, h4⟩ := Option.map_eq_some_iff.1 h2
  have hz' : (zeroValue T).run X.P w = .ok v w := by simp [zeroValue, typeInfo, h1, h3]
  have hcs : v.cells = zs.toArray := by rw [← h4]
  have hpt : (Array.map (fun x => (x.1, a.eval x.2)) parts).toList = parts.toList.map (fun x => (x.1, a.eval x.2)) := by simp
  unfold Instr.build
  simp only [Sem.run_bind, hz', Result.andThen_ok, run_underlying hu, hm w, hpt, hcs, e1, Sem.run_pure]
theorem does_buildO {o : Oper} {d id : Nat} {T : TypeId} {parts : Array (Nat × Operand)} {zs : List Value} {pl : Array (Nat × Nat)} {Rs : List HA} {ids : List Nat} (ps0 : List VP) (hz : zeroOf X.P T zs) (hpl : placesOf X.P T pl) (hop : o.op = .build T parts) (hd : o.dst = some d) (hlt : decide (d < X.N) = true) (hc : chkM X i pre suc (some d) (id :: ids) = true)
    (hr : resOf X i = [.own id (.tmp d) (HA.agg Rs)]) (h0 : ∀ Z w, All2 Z ps0 zs w) (hn : decide ids.Nodup = true) (h : Parts X i pre suc (fun f => pl[f]?) parts.toList (ps0.map HA.of) Rs ids) : Does X i pre suc o :=
  does_taken hd hlt hc hr fun c γ a w s => by
    obtain ⟨ds, S', e1, e2, e3⟩ := parts_fill s h (of_decide_eq_true hn) zs (fun _ => False) (AllS.of_all2 (fun _ h => h) (h0 γ.Z w)) (fun _ _ _ _ _ h => h)
    refine ⟨.agg ds.toArray, w, S', ?_, Ext.refl w, ⟨ds, rfl, e2⟩, fun b hb => .inr ((e3 b hb).elim (fun h => h.elim) fun h => h)⟩
    unfold execOp; rw [hop]
    have hb' : (Instr.build T (parts.map fun (i, x) => (i, a.eval x))).run X.P w = .ok (.agg ds.toArray) w := run_build hz hpl e1
    simp only [Sem.run_bind, hb', Result.andThen_ok, Sem.run_pure]
theorem parts_vp {place : Nat → Option (Nat × Nat)} : ∀ {parts : List (Nat × Operand)} {ps ps' : List HA} {ids : List Nat}, Parts X i pre suc place parts ps ps' ids → ids = [] → True := fun _ _ => trivial
theorem does_build {o : Oper} {d : Nat} {T : TypeId} {parts : Array (Nat × Operand)} {zs : List Value} {pl : Array (Nat × Nat)} {ps : List VP} (ps0 : List VP) (hz : zeroOf X.P T zs) (hpl : placesOf X.P T pl) (hop : o.op = .build T parts) (hd : o.dst = some d) (hlt : decide (d < X.N) = true) (hc : chk X i pre suc d = true)
    (hr : resOf X i = [.slot d (VP.agg ps)]) (h0 : ∀ Z w, All2 Z ps0 zs w) (h : Parts X i pre suc (fun f => pl[f]?) parts.toList (ps0.map HA.of) (ps.map HA.of) []) : Does X i pre suc o :=
  does_run hd hlt hc hr fun c γ a w s => by
    obtain ⟨ds, S', e1, e2, e3⟩ := parts_fill s h List.nodup_nil zs (fun _ => False) (AllS.of_all2 (fun _ h => h) (h0 γ.Z w)) (fun _ _ _ _ _ h => h)
    refine ⟨.agg ds.toArray, ?_, ds, rfl, e2.all2.1⟩
    unfold execOp; rw [hop]
    have hb' : (Instr.build T (parts.map fun (i, x) => (i, a.eval x))).run X.P w = .ok (.agg ds.toArray) w := run_build hz hpl e1
    simp only [Sem.run_bind, hb', Result.andThen_ok, Sem.run_pure]
/-- the zeros of n elements -/
def zerosOf (z : Value) (k : Nat) : List Value := (madeCells z.cells k).toList
theorem does_sliceLit {o : Oper} {d id n : Nat} {T E : TypeId} {z : Value} {size bytes : Nat} {parts : Array (Nat × Operand)} {Rs : List HA} {ids : List Nat} (he : Elem X.P T E z size bytes) (hzn : z.cells.toList.all noUb = true) (ps0 : List VP) (h0 : ∀ Z w, All2 Z ps0 (zerosOf z (n * size)) w) (hop : o.op = .buildSlice T n parts) (hd : o.dst = some d) (hlt : decide (d < X.N) = true) (hc : chkM X i pre suc (some d) (id :: ids) = true)
    (hr : resOf X i = [.own id (.tmp d) (HA.row E size n Rs)]) (hl : (decide (Rs.length = n * size) && Rs.all (·.nu) && decide (n * size ≤ 1000000) && decide (n ≤ 1000000)) = true) (hn : decide ids.Nodup = true) (h : Parts X i pre suc (fun i => some (i * size, size)) parts.toList (ps0.map HA.of) Rs ids) : Does X i pre suc o := by
  have _ := hzn
  refine does_taken hd hlt hc hr fun c γ a w s => ?_
  simp only [Bool.and_eq_true, decide_eq_true_eq] at hl
  obtain ⟨⟨⟨l1, l2⟩, l3⟩, l4⟩ := hl
  obtain ⟨ht, ti, hi, hz, hsz, hby, hzs, hpos⟩ := he
  obtain ⟨ds, S', e1, e2, e3⟩ := parts_fill s h (of_decide_eq_true hn) (zerosOf z (n * size)) (fun _ => False) (AllS.of_all2 (fun _ h => h) (h0 γ.Z w)) (fun _ _ _ _ _ h => h)
  have hS : ∀ b, S' b → b < w.heap.size := fun b hb => by
    rcases e3 b hb with h | ⟨k, _, m1, r, R, m2⟩
    · exact h.elim
    · exact (s.g.bnd k r R m2 b m1).1
  refine ⟨.slice (some ⟨w.heap.size, 0, none⟩) n n, w.alloc (.cells ds.toArray E), fun b => b = w.heap.size ∨ S' b, ?_, Ext.new w _, ?_, fun b hb => ?_⟩
  · unfold execOp; rw [hop]
    have hpt : (Array.map (fun x => (x.1, a.eval x.2)) parts).toList = parts.toList.map (fun x => (x.1, a.eval x.2)) := by simp
    have hb' : (Instr.buildSlice T n (parts.map fun x => (x.1, a.eval x.2))).run X.P w = .ok (.slice (some ⟨w.heap.size, 0, none⟩) n n) (w.alloc (.cells ds.toArray E)) := by
      have hzr : (do let s ← sizeOf E; pure s : Sem Nat).run X.P w = .ok size w := by simp [sizeOf, typeInfo, hi, hsz]
      have hz' : (zeroValue E).run X.P w = .ok z w := by simp [zeroValue, typeInfo, hi, hz]
      have hs' : (sizeOf E).run X.P w = .ok size w := by simp [sizeOf, typeInfo, hi, hsz]
      unfold zerosOf madeCells at e1
      simp only [Array.toList_map] at e1
      have e1' : Instr.fill (fun i => some (i * size, size)) ((Array.range (n * size)).map (z.cells[· % z.cells.size]!)) ((Array.map (fun x => (x.1, a.eval x.2)) parts).toList) = some ds.toArray := by
        rw [hpt, ← e1]; congr 1; apply Array.toList_inj.1; simp
      unfold Instr.buildSlice
      simp only [Sem.run_bind, run_underlying ht, Result.andThen_ok, hs']
      rw [if_neg (by omega)]
      by_cases h00 : n * size = 0
      · rw [if_pos h00]
        have er : ∀ f : Nat → Value, (Array.range (n * size)).map f = #[] := fun f => by rw [h00]; exact Array.ext (by simp) (by simp)
        rw [er] at e1'
        simp only [Sem.run_bind, Sem.run_pure, Result.andThen_ok, er, e1']
        simp [newRow]
      · rw [if_neg h00]
        simp only [Sem.run_bind, Sem.run_pure, Result.andThen_ok, hz', e1']
        simp [newRow]
    have hb'' : (Instr.buildSlice T n (parts.map fun (i, x) => (i, a.eval x))).run X.P w = .ok (.slice (some ⟨w.heap.size, 0, none⟩) n n) (w.alloc (.cells ds.toArray E)) := hb'
    simp only [Sem.run_bind, hb'', Result.andThen_ok, Sem.run_pure]
  · have := row_new (E := E) (n := n) (cap := n) (size := size) (rest := []) w rfl l1 e2 (fun u hu => e2.nus l2 u (by simpa using hu)) (by rw [e2.len, l1]; simp) (Nat.le_refl _) (by unfold maxLen; omega) (fun b hb => (s.g.zof b hb).1) hS
    simpa using this
  · rcases hb with rfl | hb
    · exact .inl ⟨Nat.le_refl _, by simp⟩
    · exact .inr ((e3 b hb).elim (fun h => h.elim) fun h => h)
/-- make([]T, n) -/
theorem does_make {o : Oper} {d id : Nat} {T E : TypeId} {z : Value} {size bytes n n' : Nat} {kl kc : IntKind} {ps : List VP} (he : Elem X.P T E z size bytes) (hzn : z.cells.toList.all noUb = true) (y u : Operand) (hop : o.op = .makeSlice T y u) (hd : o.dst = some d) (hlt : decide (d < X.N) = true) (hc : chkM X i pre suc (some d) [id] = true)
    (hr : resOf X i = [.own id (.tmp d) (HA.row E size n' (ps.map HA.of))]) (hn : n = n') (hl : ps.length = n * size) (h0 : ∀ Z w, All2 Z ps (zerosOf z (n * size)) w) (hb : n ≤ 100000000000 ∧ bytes ≤ 1000) (h1 : Ar X i pre suc y (VP.int kl (n : Nat)).p) (h2 : Ar X i pre suc u (VP.int kc (n : Nat)).p) : Does X i pre suc o :=
  does_taken (ids := []) hd hlt hc hr fun c γ a w s => by
    subst hn
    obtain ⟨ht, ti, hi, hz, hsz, hby, hzs, hpos⟩ := he
    have e1 : a.eval y = .int kl (n : Nat) := h1 c γ a w s
    have e2 : a.eval u = .int kc (n : Nat) := h2 c γ a w s
    have hbig : ti.bytes * n ≤ 140737488355328 := by rw [hby, Nat.mul_comm]; exact Nat.le_trans (Nat.mul_le_mul hb.1 hb.2) (by omega)
    have hb' : (ti.bytes : Int) * (n : Int) ≤ 281474976710656 := by
      have h : ((ti.bytes * n : Nat) : Int) ≤ 281474976710656 := by omega
      rwa [Int.natCast_mul] at h
    have hrun := run_make (P := X.P) w T E ti z ht hi hz kl kc (n : Nat) (n : Nat) (by omega) (Int.le_refl _) hb' (by omega)
    simp only [Int.toNat_natCast, hsz] at hrun
    refine ⟨.slice (some ⟨w.heap.size, 0, none⟩) n n, w.alloc (.cells (madeCells z.cells (n * size)) E), fun b => b = w.heap.size ∨ False, by unfold execOp; rw [hop]; simp only [e1, e2, Sem.run_bind, hrun, Result.andThen_ok, Sem.run_pure], Ext.new w _, ?_, fun b hb => ?_⟩
    · have := row_new (E := E) (n := n) (cap := n) (size := size) (Z := γ.Z) (xs := zerosOf z (n * size)) (rest := []) w rfl (by simpa using hl) (AllS.of_all2 (S := fun _ => False) (fun _ h => h) (h0 γ.Z w)) (fun u hu => noUs_spec hzn u (madeCells_mem (by omega) u (by simpa [zerosOf] using hu))) (by simp [zerosOf, size_madeCells]) (Nat.le_refl _) (by unfold maxLen; omega) (fun b hb => (s.g.zof b hb).1) (fun _ h => h.elim)
      simpa [zerosOf] using this
    · rcases hb with rfl | hb
      · exact .inl ⟨Nat.le_refl _, by simp⟩
      · exact hb.elim
/-! ### length, index -/
/-- the operand is a slice of n elements, that of r from off on -/
def Sl (X : Cx) (i : Nat) (pre suc : List Nat) (y : Operand) (r : Ref) (off n : Nat) : Prop := ∀ c γ a w, Sit X i pre suc c γ a w → ∃ A cp, a.eval y = .slice A n cp ∧ n ≤ cp ∧ (0 < n → ∃ g b n0 c0, r.den a (.slice (some ⟨g, b, none⟩) n0 c0) ∧ A = some ⟨g, b + off, none⟩)
theorem row_form {Z : Foot} {w : World} {E : TypeId} {sz n : Nat} {Rs : List HA} {v : Value} {S : Foot} (h : (HA.row E sz n Rs).p Z v w S) : ∃ A cp, v = .slice A n cp ∧ n ≤ cp ∧ (0 < n → ∃ g off, A = some ⟨g, off, none⟩) := by
  obtain ⟨_, ⟨rfl, rfl, _⟩ | ⟨g, cap, cur, S', rfl, _, hc, _⟩⟩ := h
  · exact ⟨none, 0, rfl, Nat.le_refl _, fun h => absurd h (Nat.lt_irrefl _)⟩
  · exact ⟨_, cap, rfl, hc, fun _ => ⟨g, 0, rfl⟩⟩
theorem sl_form {y : Operand} {r : Ref} {n : Nat} (h : ∀ c γ a w, Sit X i pre suc c γ a w → ∃ A cp, a.eval y = .slice A n cp ∧ r.den a (.slice A n cp) ∧ n ≤ cp ∧ (0 < n → ∃ g off, A = some ⟨g, off, none⟩)) : Sl X i pre suc y r 0 n := fun c γ a w s => by
  obtain ⟨A, cp, h1, h2, hc, h3⟩ := h c γ a w s
  refine ⟨A, cp, h1, hc, fun hn => ?_⟩
  obtain ⟨g, off, rfl⟩ := h3 hn
  exact ⟨g, off, n, cp, h2, rfl⟩
theorem sl_own {y : Operand} {id : Nat} {v : Value} {nu one : Bool} {E : TypeId} {sz n : Nat} {Rs : List HA} (h : Av X i pre suc (.own id (.val v) (HA.row E sz n Rs))) (hy : Ar X i pre suc y (VP.eq v nu one).p) : Sl X i pre suc y (.val v) 0 n := sl_form fun c γ a w s => by
  obtain ⟨S, h2⟩ := sit_own h c γ a w s
  obtain ⟨A, cp, e, hc, h3⟩ := row_form h2
  exact ⟨A, cp, by rw [(hy c γ a w s).1, e], e.symm, hc, h3⟩
theorem sl_bor {y : Operand} {v : Value} {nu one : Bool} {E : TypeId} {sz n : Nat} {Rs : List HA} (h : Av X i pre suc (.bor (.val v) (HA.row E sz n Rs))) (hy : Ar X i pre suc y (VP.eq v nu one).p) : Sl X i pre suc y (.val v) 0 n := sl_form fun c γ a w s => by
  obtain ⟨S, h2⟩ := sit_bor h c γ a w s
  obtain ⟨A, cp, e, hc, h3⟩ := row_form h2
  exact ⟨A, cp, by rw [(hy c γ a w s).1, e], e.symm, hc, h3⟩
theorem sl_tmp {k id : Nat} {E : TypeId} {sz n : Nat} {Rs : List HA} (h : Av X i pre suc (.own id (.tmp k) (HA.row E sz n Rs))) : Sl X i pre suc (.tmp k) (.tmp k) 0 n := sl_form fun c γ a w s => by
  obtain ⟨v, h1, h2⟩ := h.h s
  obtain ⟨A, cp, e, hc, h3⟩ := row_form h2
  exact ⟨A, cp, by rw [eval_tmp h1, e], by rw [← e]; exact h1, hc, h3⟩
theorem sl_ro {k n : Nat} {qs : List VP} (h : Av X i pre suc (.slot k (VP.ro n qs))) (hm : n = 0 ∨ 0 < qs.length) : Sl X i pre suc (.tmp k) (.tmp k) 0 n := sl_form fun c γ a w s => by
  obtain ⟨v, h1, A, cp, e, hc, _, h4⟩ := h.h s
  refine ⟨A, cp, by rw [eval_tmp h1, e], by rw [← e]; exact h1, hc, fun hn => ?_⟩
  rcases h4 with rfl | ⟨g, off, rfl, _⟩
  · rcases hm with h | h
    · omega
    · simp at h
  · exact ⟨g, off, rfl⟩
theorem sl_sub {d off n : Nat} {r : Ref} (h : Av X i pre suc (.sub d r off n)) : Sl X i pre suc (.tmp d) r off n := fun c γ a w s => by
  obtain ⟨A, cp, h1, hc, h2⟩ := h.h s
  exact ⟨A, cp, eval_tmp h1, hc, h2⟩
theorem sl_nil {y : Operand} {r : Ref} (h : Ar X i pre suc y VP.nilS.p) : Sl X i pre suc y r 0 0 := fun c γ a w s => ⟨none, 0, h c γ a w s, Nat.le_refl _, fun h => absurd h (Nat.lt_irrefl _)⟩
theorem does_len {o : Oper} {d n off : Nat} {r : Ref} (T : TypeId) (y : Operand) (ht : (match X.P.underlying T with | some (.slice _) => true | _ => false) = true) (hop : o.op = .call { callee := .builtin .len, args := #[y], argTypes := #[T] }) (hd : o.dst = some d) (hlt : decide (d < X.N) = true) (hc : chk X i pre suc d = true)
    (hr : resOf X i = [.slot d (VP.int .i64 (n : Nat))]) (h : Sl X i pre suc y r off n) : Does X i pre suc o :=
  does_run hd hlt hc hr fun c γ a w s => by
    obtain ⟨A, cp, h1, _⟩ := h c γ a w s
    split at ht
    · rename_i e hu
      refine ⟨.int .i64 (n : Nat), ?_, rfl⟩
      unfold execOp; rw [hop]
      simp [resolve, invoke, builtin, Builtin.len_, run_underlying hu, h1, goInt]
    · cases ht
theorem does_index {o : Oper} {d n m sz b0 : Nat} {k : IntKind} {r : Ref} {T E : TypeId} (y z : Operand) (hu : X.P.underlying T = some (.slice E)) (hsz : ∀ w, (sizeOf E).run X.P w = .ok sz w) (hop : o.op = .indexAddr T y z) (hd : o.dst = some d) (hlt : decide (d < X.N) = true) (hk : r.uses d = false) (hc : chk X i pre suc d = true)
    (off : Nat) (ho : off = b0 + m * sz) (hr : resOf X i = [.pt d (.row r off)]) (hm : m < n) (h : Sl X i pre suc y r b0 n) (hz : Ar X i pre suc z (VP.int k (m : Nat)).p) : Does X i pre suc o :=
  does_val hd hlt hc hr rfl fun c γ a w s Q K hK => by
    obtain ⟨A, cp, h1, _, h2⟩ := h c γ a w s
    obtain ⟨g, b, n0, c0, h3, rfl⟩ := h2 (by omega)
    have ez : a.eval z = .int k (m : Nat) := hz c γ a w s
    have hrun : (Instr.indexAt T (.slice (some ⟨g, b + b0, none⟩) n cp) (.int k (m : Nat))).run X.P w = .ok (.pointer (some ⟨g, b + off, none⟩)) w := by
      unfold Instr.indexAt
      have hlt' : (0 : Int) ≤ (m : Nat) ∧ ((m : Nat) : Int) < (n : Nat) := by omega
      simp only [asIntOf, Sem.run_bind, Sem.run_pure, Result.andThen_ok, run_underlying hu, if_pos hlt', hsz w, Int.toNat_natCast, add_plain, Nat.add_assoc, ← ho]
    unfold Oper.wp execOp
    rw [hop]
    simp only [h1, ez, Sem.run_bind, hrun, Result.andThen_ok, Sem.run_pure]
    show K (a.put o.dst _) w
    rw [hd]
    refine hK _ w (Ext.refl w) ⟨g, b + off, ⟨b, n0, c0, Ref.den_put h3 hk, rfl⟩, put_eq _ ?_⟩
    simp only [decide_eq_true_eq] at hlt; rw [s.g.sz]; exact hlt
end
end O
end Go.Proofs.Ytogodjiemgilaaa

/- The logic over objects: parts of slices; maps. -/
namespace Go.Proofs.Ytogodjiemgilaaa
open Go.RowKit
namespace O
section
variable {X : Cx} {i : Nat} {pre suc : List Nat}
/-- a bound of a slice: a number, or what is usual -/
def Bd (X : Cx) (i : Nat) (pre suc : List Nat) (lo : Option Operand) (l usual : Nat) : Prop := match lo with
  | none => l = usual
  | some y => ∃ k, Ar X i pre suc y (VP.int k (l : Nat)).p
theorem run_bound {P : Program} (v : Value) {k : IntKind} {l y : Nat} (code : BoundsCode) (hv : v = .int k (l : Nat)) (h : l ≤ y) (w : World) : (Instr.sliceBound v y code).run P w = .ok l w := by
  subst hv
  unfold Instr.sliceBound
  have : (0 : Int) ≤ (l : Nat) ∧ ((l : Nat) : Int) ≤ (y : Nat) := by omega
  simp [asIntOf, this]
theorem run_cut {P : Program} {T E : TypeId} {sz n cp l h : Nat} {A : Option Addr} {lo hi : Option Value} (hu : P.underlying T = some (.slice E)) (hsz : ∀ w, (sizeOf E).run P w = .ok sz w) (hlo : match lo with | none => l = 0 | some v => ∃ k, v = .int k (l : Nat)) (hhi : match hi with | none => h = n | some v => ∃ k, v = .int k (h : Nat)) (h1 : l ≤ h) (h2 : h ≤ cp) (w : World) :
    (Instr.sliceAt T (.slice A n cp) lo hi none).run P w = .ok (.slice (if cp = l then A else A.map (·.add (l * sz))) (h - l) (cp - l)) w := by
  unfold Instr.sliceAt
  simp only [Sem.run_bind, run_underlying hu, Result.andThen_ok]
  unfold Instr.slice
  simp only [Sem.run_bind, run_underlying hu, Result.andThen_ok]
  unfold Instr.sliceBounds
  cases lo with
  | none =>
    simp only at hlo
    subst hlo
    cases hi with
    | none => simp only at hhi; subst hhi; simp [hsz w]
    | some v => obtain ⟨k, hv⟩ := hhi; simp [run_bound v _ hv h2, hsz w]
  | some u =>
    obtain ⟨k, hu⟩ := hlo
    cases hi with
    | none => simp only at hhi; subst hhi; simp [run_bound u _ hu h1, hsz w]
    | some v => obtain ⟨k, hv⟩ := hhi; simp [run_bound v _ hv h2, run_bound u _ hu h1, hsz w]
theorem bd_lo {lo : Option Operand} {l u : Nat} (h : Bd X i pre suc lo l u) {c : Nat → Bool} {γ : Gho} {a : Act} {w : World} (s : Sit X i pre suc c γ a w) : match lo.map a.eval with | none => l = u | some v => ∃ k, v = .int k (l : Nat) := by
  cases lo with
  | none => exact h
  | some y => obtain ⟨k, h⟩ := h; exact ⟨k, h c γ a w s⟩
theorem does_cutSub {o : Oper} {d n sz b0 l h : Nat} {r : Ref} {T E : TypeId} {lo hi : Option Operand} (y : Operand) (hu : X.P.underlying T = some (.slice E)) (hsz : ∀ w, (sizeOf E).run X.P w = .ok sz w) (hop : o.op = .slice T y lo hi none) (hd : o.dst = some d) (hlt : decide (d < X.N) = true) (hk : r.uses d = false) (hc : chk X i pre suc d = true)
    (off : Nat) (ho : off = b0 + l * sz) (hr : resOf X i = [.sub d r off (h - l)]) (h1 : l ≤ h) (h2 : h ≤ n) (hlo : Bd X i pre suc lo l 0) (hhi : Bd X i pre suc hi h n) (hs : Sl X i pre suc y r b0 n) : Does X i pre suc o :=
  does_val hd hlt hc hr rfl fun c γ a w s Q K hK => by
    obtain ⟨A, cp, e1, e2, e3⟩ := hs c γ a w s
    have hrun := run_cut (P := X.P) (A := A) (n := n) (cp := cp) hu hsz (bd_lo hlo s) (bd_lo hhi s) h1 (by omega) w
    unfold Oper.wp execOp
    rw [hop]
    simp only [e1, Sem.run_bind, Option.map_none, hrun, Result.andThen_ok, Sem.run_pure]
    show K (a.put o.dst _) w
    rw [hd]
    refine hK _ w (Ext.refl w) ⟨_, _, put_eq _ (by simp only [decide_eq_true_eq] at hlt; rw [s.g.sz]; exact hlt), by omega, fun hn => ?_⟩
    obtain ⟨g, b, n0, c0, e4, rfl⟩ := e3 (by omega)
    refine ⟨g, b, n0, c0, Ref.den_put e4 hk, ?_⟩
    rw [if_neg (by omega)]
    simp [add_plain, ho, Nat.add_assoc]
theorem does_cutRo {o : Oper} {d n sz l h : Nat} {T E : TypeId} {lo hi : Option Operand} {qs qs' : List VP} (y : Operand) (hu : X.P.underlying T = some (.slice E)) (hsz : ∀ w, (sizeOf E).run X.P w = .ok sz w) (hop : o.op = .slice T y lo hi none) (hd : o.dst = some d) (hlt : decide (d < X.N) = true) (hc : chk X i pre suc d = true)
    (hr : resOf X i = [.slot d (VP.ro (h - l) qs')]) (h1 : l ≤ h) (h2 : h ≤ n) (hq0 : h = l → qs' = []) (hq : ∀ j x, qs'[j]? = some x → qs[l * sz + j]? = some x) (hlo : Bd X i pre suc lo l 0) (hhi : Bd X i pre suc hi h n) (hs : Ar X i pre suc y (VP.ro n qs).p) : Does X i pre suc o :=
  does_run hd hlt hc hr fun c γ a w s => by
    obtain ⟨A, cp, e1, e2, e0, e3⟩ := hs c γ a w s
    have hrun := run_cut (P := X.P) (A := A) (n := n) (cp := cp) hu hsz (bd_lo hlo s) (bd_lo hhi s) h1 (by omega) w
    refine ⟨.slice (if cp = l then A else A.map (·.add (l * sz))) (h - l) (cp - l), by unfold execOp; rw [hop]; simp only [e1, Sem.run_bind, Option.map_none, hrun, Result.andThen_ok, Sem.run_pure], _, _, rfl, by omega, by omega, ?_⟩
    by_cases hlh : h = l
    · exact .inl (hq0 hlh)
    · rcases e3 with rfl | ⟨g, off, rfl, hz, hcl⟩
      · left
        cases hqs : qs' with
        | nil => rfl
        | cons x xs =>
          have := hq 0 x (by rw [hqs]; rfl)
          simp at this
      · right
        refine ⟨g, off + l * sz, ?_, hz, fun j x hx => ?_⟩
        · rw [if_neg (by omega)]; simp [add_plain]
        · rw [Nat.add_assoc]; exact hcl _ x (hq j x hx)
/-- the first h elements of a row: it is that now -/
theorem does_cutOwn {o : Oper} {d id n sz h h' : Nat} {T E : TypeId} {hi : Option Operand} {Rs Rs' : List HA} (y : Operand) (hu : X.P.underlying T = some (.slice E)) (hsz : ∀ w, (sizeOf E).run X.P w = .ok sz w) (hop : o.op = .slice T y none hi none) (hd : o.dst = some d) (hlt : decide (d < X.N) = true) (hc : chkM X i pre suc (some d) [id] = true)
    (hr : resOf X i = [.own id (.tmp d) (HA.row E sz h' Rs')]) (hh : h = h') (h2 : h ≤ n) (hrs : Rs' = Rs.take (h * sz)) (hhi : Bd X i pre suc hi h n) (hs : Mv X i pre suc y (HA.row E sz n Rs) (some id)) : Does X i pre suc o :=
  does_taken (ids := [id]) hd hlt (by
    have : chkM X i pre suc (some d) [id, id] = chkM X i pre suc (some d) [id] := by
      unfold chkM; congr 1; funext f; cases f <;> simp [okM, Fact.off]
    rw [this]; exact hc) hr fun c γ a w s => by
    subst hh
    subst hrs
    obtain ⟨S, ⟨h0, hp⟩, hS⟩ := hs c γ a w s
    have hk : ∀ b, S b → ∃ k ∈ [id], γ.σ k b ∧ ∃ r R, Has X c (.own k r R) := fun b hb => by
      obtain ⟨k, hk, h⟩ := hS b hb
      exact ⟨k, by simp only [Option.mem_def, Option.some.injEq] at hk; simp [hk], h⟩
    rcases hp with ⟨e, rfl, hno⟩ | ⟨g, cap, cur, S', e, hg, hnc, hcm, hcs, hall, hSe, hgS, hcn⟩
    · obtain rfl : h = 0 := by omega
      have hrun := run_cut (P := X.P) (A := none) (n := 0) (cp := 0) (l := 0) (lo := none) hu hsz rfl (bd_lo hhi s) (Nat.le_refl _) (Nat.le_refl _) w
      refine ⟨.slice none 0 0, w, S, by unfold execOp; rw [hop]; simp only [e, Sem.run_bind, Option.map_none, hrun, Result.andThen_ok, Sem.run_pure]; simp, Ext.refl w, ⟨by simp, .inl ⟨rfl, rfl, hno⟩⟩, fun b hb => .inr (hk b hb)⟩
    · have hrun := run_cut (P := X.P) (A := some ⟨g, 0, none⟩) (n := n) (cp := cap) (l := 0) (lo := none) hu hsz rfl (bd_lo hhi s) (Nat.zero_le _) (by omega) w
      have hval : (Value.slice (if cap = 0 then some ⟨g, 0, none⟩ else (some ⟨g, 0, none⟩ : Option Addr).map (·.add (0 * sz))) (h - 0) (cap - 0)) = .slice (some ⟨g, 0, none⟩) h cap := by
        simp [add_plain]
      rw [hval] at hrun
      have e1 : Rs = Rs.take (h * sz) ++ Rs.drop (h * sz) := (List.take_append_drop _ _).symm
      rw [e1] at hall
      obtain ⟨S1, S2, g1, g2, g3, _⟩ := AllS.unapp hall
      have hle : h * sz ≤ n * sz := Nat.mul_le_mul_right _ h2
      rw [show (Rs.take (h * sz)).length = h * sz by rw [List.length_take, h0]; omega, List.take_take, Nat.min_eq_left hle] at g3
      refine ⟨.slice (some ⟨g, 0, none⟩) h cap, w, fun b => b = g ∨ S1 b, by unfold execOp; rw [hop]; simp only [e, Sem.run_bind, Option.map_none, hrun, Result.andThen_ok, Sem.run_pure], Ext.refl w, ⟨by rw [List.length_take, h0]; omega, .inr ⟨g, cap, cur, S1, rfl, hg, by omega, hcm, hcs, g3, fun b => Iff.rfl, fun hb => hgS ((g1 g).2 (.inl hb)), hcn⟩⟩, fun b hb => .inr (hk b ((hSe b).2 ?_))⟩
      rcases hb with hb | hb
      · exact .inl hb
      · exact .inr ((g1 b).2 (.inl hb))
theorem does_cutStr {o : Oper} {d l h : Nat} {T : TypeId} {lo hi : Option Operand} {str : ByteArray} (y : Operand) (hu : X.P.underlying T = some .string) (hop : o.op = .slice T y lo hi none) (hd : o.dst = some d) (hlt : decide (d < X.N) = true) (hc : chk X i pre suc d = true)
    (hr : resOf X i = [.slot d (VP.str (str.extract l h))]) (h1 : l ≤ h) (h2 : h ≤ str.size) (hlo : Bd X i pre suc lo l 0) (hhi : Bd X i pre suc hi h str.size) (hs : Ar X i pre suc y (VP.str str).p) : Does X i pre suc o :=
  does_run hd hlt hc hr fun c γ a w s => by
    have e1 : a.eval y = .string str := hs c γ a w s
    refine ⟨.string (str.extract l h), ?_, rfl⟩
    have b1 := bd_lo hlo s
    have b2 := bd_lo hhi s
    have hrun : (Instr.sliceAt T (.string str) (lo.map a.eval) (hi.map a.eval) none).run X.P w = .ok (.string (str.extract l h)) w := by
      unfold Instr.sliceAt
      simp only [Sem.run_bind, run_underlying hu, Result.andThen_ok]
      unfold Instr.slice
      simp only [Sem.run_bind, run_underlying hu, Result.andThen_ok]
      unfold Instr.sliceBounds
      generalize lo.map a.eval = lo' at *
      generalize hi.map a.eval = hi' at *
      cases lo' with
      | none =>
        simp only at b1
        subst b1
        cases hi' with
        | none => simp only at b2; subst b2; simp
        | some v => obtain ⟨k, hv⟩ := b2; simp [run_bound v _ hv h2]
      | some u =>
        obtain ⟨k, hu⟩ := b1
        cases hi' with
        | none => simp only at b2; subst b2; simp [run_bound u _ hu h1]
        | some v => obtain ⟨k, hv⟩ := b2; simp [run_bound v _ hv h2, run_bound u _ hu h1]
    unfold execOp; rw [hop]; simp only [e1, Sem.run_bind, Option.map_none, hrun, Result.andThen_ok, Sem.run_pure]
end
/-! ### maps -/
/-- how keys stand in a map -/
structure MKey (κ : Type) where
  enc : κ → Value
  desc : TypeDesc
  eqv : κ → κ → Bool
  eqv_iff : ∀ a b, eqv a b = true ↔ a = b
  same : ∀ a b, Instr.sameNow desc (enc a) (enc b) = some (eqv a b)
  bits : ∀ a, Instr.sameBits 10000 (enc a) (enc a) = true
  chk : ∀ {P : Program} {t : TypeId} (e : Bool) (a : κ) (w : World), P.underlying t = some desc → (Instr.checkKey e 10000 t (enc a)).run P w = .ok () w
def mkInt : MKey Int := ⟨fun n => .int .i64 n, .int .i64, fun a b => a == b, fun a b => by simp, fun a b => by simp [Instr.sameNow], fun a => by simp [Instr.sameBits], fun e a w hu => by
  show (Instr.checkKey e (9999 + 1) _ _).run _ w = _
  unfold Instr.checkKey
  simp [run_underlying hu]⟩
def mkStr : MKey ByteArray := ⟨fun s => .string s, .string, fun a b => a == b, fun a b => MapKept.bytes_beq a b, fun a b => by simp [Instr.sameNow], fun a => by
  show Instr.sameBits 10000 (.string a) (.string a) = true
  have := (MapKept.bytes_beq a a).2 rfl
  simpa [Instr.sameBits] using this, fun e a w hu => by
  show (Instr.checkKey e (9999 + 1) _ _).run _ w = _
  unfold Instr.checkKey
  simp [run_underlying hu]⟩
def mfind {κ α : Type} (K : MKey κ) (k : κ) : List (κ × α) → Option α
  | [] => none
  | e :: es => if K.eqv k e.1 then some e.2 else mfind K k es
def mput {κ α : Type} (K : MKey κ) (k : κ) (x : α) : List (κ × α) → List (κ × α)
  | [] => [(k, x)]
  | e :: es => if K.eqv k e.1 then (e.1, x) :: es else e :: mput K k x es
def mdel {κ α : Type} (K : MKey κ) (k : κ) : List (κ × α) → List (κ × α)
  | [] => []
  | e :: es => if K.eqv k e.1 then es else e :: mdel K k es
/-- a map: its entries, in their order -/
def HA.map {κ : Type} (K : MKey κ) (es : List (κ × HA)) : HA := ⟨fun Z v w S => ∃ m arr clock S', v = .map (some m) ∧ w.heap[m]? = some (.map arr clock) ∧ arr.toList.map (·.key) = es.map (fun e => K.enc e.1) ∧ AllS Z (es.map (·.2)) (arr.toList.map (·.val)) w S' ∧ (∀ b, S b ↔ b = m ∨ S' b) ∧ ¬ S' m ∧
    (arr.toList.map (·.born)).Pairwise (· < ·) ∧ (∀ e ∈ arr.toList, e.born < clock) ∧ (es.map (·.1)).Nodup, true, fun _ _ v _ _ ⟨m, _, _, _, h, _⟩ n e => (by rw [h] at e; cases e), true, fun _ _ v _ _ ⟨m, _, _, _, h, _⟩ => (by rw [h]; rfl),
  fun Z Z' v w w' S ⟨m, arr, clock, S', h1, h2, h3, h4, h5, h6, h7⟩ hz hs hS hc => ⟨m, arr, clock, S', h1, (hS m ((h5 m).2 (.inl rfl))).trans h2, h3, h4.st hz hs hc (fun b hb => hS b ((h5 b).2 (.inr hb))), h5, h6, h7⟩⟩
theorem findNow_spec {κ : Type} (K : MKey κ) (k : κ) : ∀ (l : List MapEntry) (es : List (κ × HA)) (i : Nat), l.map (·.key) = es.map (fun e => K.enc e.1) →
    Instr.findNow K.desc (K.enc k) l i = some (((es.map (·.1)).findIdx? (fun x => K.eqv k x)).bind fun j => (l[j]?).map fun e => (i + j, e.val))
  | [], [], i, _ => rfl
  | e :: l, x :: es, i, h => by
    simp only [List.map_cons, List.cons.injEq] at h
    unfold Instr.findNow
    rw [h.1, K.same]
    rw [List.map_cons, List.findIdx?_cons]
    cases hk : K.eqv k x.1 with
    | true => simp
    | false =>
      simp only [Bool.false_eq_true, if_false]
      rw [findNow_spec K k l es (i + 1) h.2]
      cases (es.map (·.1)).findIdx? (fun x => K.eqv k x) with
      | none => rfl
      | some j => simp [Nat.add_assoc, Nat.add_comm 1 j]
  | [], _ :: _, _, h => by simp at h
  | _ :: _, [], _, h => by simp at h
theorem mfind_idx {κ α : Type} (K : MKey κ) (k : κ) : ∀ es : List (κ × α), mfind K k es = ((es.map (·.1)).findIdx? (fun x => K.eqv k x)).bind fun j => (es[j]?).map (·.2)
  | [] => rfl
  | e :: es => by
    unfold mfind
    rw [List.map_cons, List.findIdx?_cons]
    cases hk : K.eqv k e.1 with
    | true => simp
    | false =>
      simp only [Bool.false_eq_true, if_false]
      rw [mfind_idx K k es]
      cases (es.map (·.1)).findIdx? (fun x => K.eqv k x) with
      | none => rfl
      | some j => simp
theorem run_findKey {κ : Type} (K : MKey κ) {P : Program} {t : TypeId} (hu : P.underlying t = some K.desc) (k : κ) {l : List MapEntry} {es : List (κ × HA)} (h : l.map (·.key) = es.map (fun e => K.enc e.1)) (w : World) :
    (Instr.findKey t (K.enc k) l).run P w = .ok (((es.map (·.1)).findIdx? (fun x => K.eqv k x)).bind fun j => (l[j]?).map fun e => (j, e.val)) w := by
  unfold Instr.findKey
  simp only [Sem.run_bind, run_underlying hu, Result.andThen_ok]
  rw [findNow_spec K k l es 0 h]
  simp
theorem mput_idx {κ α : Type} (K : MKey κ) (k : κ) (x : α) : ∀ es : List (κ × α), mput K k x es = match (es.map (·.1)).findIdx? (fun y => K.eqv k y) with
    | some j => es.modify j fun e => (e.1, x)
    | none => es ++ [(k, x)]
  | [] => rfl
  | e :: es => by
    unfold mput
    rw [List.map_cons, List.findIdx?_cons]
    cases hk : K.eqv k e.1 with
    | true => simp
    | false =>
      simp only [Bool.false_eq_true, if_false]
      rw [mput_idx K k x es]
      cases (es.map (·.1)).findIdx? (fun x => K.eqv k x) with
      | none => rfl
      | some j => simp
theorem mdel_idx {κ α : Type} (K : MKey κ) (k : κ) : ∀ es : List (κ × α), mdel K k es = match (es.map (·.1)).findIdx? (fun y => K.eqv k y) with
    | some j => es.eraseIdx j
    | none => es
  | [] => rfl
  | e :: es => by
    unfold mdel
    rw [List.map_cons, List.findIdx?_cons]
    cases hk : K.eqv k e.1 with
    | true => simp
    | false =>
      simp only [Bool.false_eq_true, if_false]
      rw [mdel_idx K k es]
      cases (es.map (·.1)).findIdx? (fun x => K.eqv k x) with
      | none => rfl
      | some j => simp
theorem mput_keys {κ α : Type} (K : MKey κ) (k : κ) (x : α) (es : List (κ × α)) : (mput K k x es).map (·.1) = if (mfind K k es).isSome then es.map (·.1) else es.map (·.1) ++ [k] := by
  induction es with
  | nil => rfl
  | cons e es ih =>
    unfold mput mfind
    cases hk : K.eqv k e.1 with
    | true => simp
    | false =>
      simp only [Bool.false_eq_true, if_false, List.map_cons, ih]
      split <;> rfl
theorem mfind_none {κ α : Type} (K : MKey κ) {k : κ} {es : List (κ × α)} (h : mfind K k es = none) : k ∉ es.map (·.1) := by
  induction es with
  | nil => simp
  | cons e es ih =>
    unfold mfind at h
    cases hk : K.eqv k e.1 with
    | true => rw [hk] at h; simp at h
    | false =>
      rw [hk] at h
      simp only [Bool.false_eq_true, if_false] at h
      rw [List.map_cons, List.mem_cons, not_or]
      refine ⟨fun e' => ?_, ih h⟩
      have := (K.eqv_iff k e.1).2 e'
      rw [hk] at this; cases this
section
variable {X : Cx} {i : Nat} {pre suc : List Nat}
theorem does_makeMap {κ : Type} (K : MKey κ) {o : Oper} {d id : Nat} {T : TypeId} (hop : o.op = .makeMap T none) (hd : o.dst = some d) (hlt : decide (d < X.N) = true) (hc : chkM X i pre suc (some d) [id] = true) (hr : resOf X i = [.own id (.tmp d) (HA.map K [])]) : Does X i pre suc o :=
  does_made (ido := none) hd hlt hc hr fun c γ a w s => ⟨.map (some w.heap.size), .map #[] 0, fun _ => False, by unfold execOp; rw [hop]; rfl, ⟨w.heap.size, #[], 0, fun _ => False, rfl, heap_alloc_new w _, rfl, fun _ h => h, fun b => Iff.rfl, fun h => h, List.Pairwise.nil, fun _ h => (by cases h), List.nodup_nil⟩, fun _ h => h.elim⟩
/-- the operand is this map -/
def Mp {κ : Type} (K : MKey κ) (X : Cx) (i : Nat) (pre suc : List Nat) (y : Operand) (es : List (κ × HA)) : Prop := ∀ c γ a w, Sit X i pre suc c γ a w → ∃ S, (HA.map K es).p γ.Z (a.eval y) w S
theorem mp_own {κ : Type} {K : MKey κ} {y : Operand} {id : Nat} {v : Value} {nu one : Bool} {es : List (κ × HA)} (h : Av X i pre suc (.own id (.val v) (HA.map K es))) (hy : Ar X i pre suc y (VP.eq v nu one).p) : Mp K X i pre suc y es := fun c γ a w s => by
  rw [(hy c γ a w s).1]; exact sit_own h c γ a w s
theorem mp_bor {κ : Type} {K : MKey κ} {y : Operand} {v : Value} {nu one : Bool} {es : List (κ × HA)} (h : Av X i pre suc (.bor (.val v) (HA.map K es))) (hy : Ar X i pre suc y (VP.eq v nu one).p) : Mp K X i pre suc y es := fun c γ a w s => by
  rw [(hy c γ a w s).1]; exact sit_bor h c γ a w s
theorem run_lookup {κ : Type} {K : MKey κ} {P : Program} {T kt E : TypeId} {z : Value} {es : List (κ × HA)} {Z S : Foot} {v : Value} {w : World} (hu : P.underlying T = some (.map kt E)) (hk : P.underlying kt = some K.desc) (hz : (zeroValue E).run P w = .ok z w) (h : (HA.map K es).p Z v w S) (k : κ) (x : VP) (b ok : Bool) (hb : (mfind K k es).isSome = b) (hx : ∀ R, mfind K k es = some R → R = HA.of x) (hx0 : mfind K k es = none → x.p Z z w) :
    ∃ u, (Instr.lookup T v (K.enc k) ok).run P w = .ok (if ok then .tuple #[u, .bool b] else u) w ∧ x.p Z u w := by
  obtain ⟨m, arr, clock, S', rfl, h2, h3, h4, _⟩ := h
  have hg : (getObj m).run P w = .ok (.map arr clock) w := by simp [getObj, Sem.run, h2]
  have hf := run_findKey K hk k (l := arr.toList) h3 w
  unfold Instr.lookup
  have hck := K.chk arr.isEmpty k w hk
  simp only [Sem.run_bind, run_underlying hu, Result.andThen_ok, hg, Sem.run_pure, hck, hf]
  rw [mfind_idx] at hb hx hx0
  cases hj : (es.map (·.1)).findIdx? (fun y => K.eqv k y) with
  | none =>
    rw [hj] at hb hx hx0
    refine ⟨z, ?_, hx0 rfl⟩
    have hb : b = false := by simpa using hb.symm
    subst hb
    cases ok <;> simp [hz]
  | some j =>
    rw [hj] at hb hx hx0
    have hlt : j < es.length := by
      have := (List.findIdx?_eq_some_iff_getElem.1 hj).1
      simpa using this
    have hlen : arr.toList.length = es.length := by have := congrArg List.length h3; simpa using this
    obtain ⟨u, h5, h6⟩ := h4.vp (i := j) (x := x) (by rw [List.getElem?_map, List.getElem?_eq_getElem hlt, Option.map_some, hx es[j].2 (by simp [hlt])])
    rw [List.getElem?_map, List.getElem?_eq_getElem (by omega), Option.map_some] at h5
    injection h5 with h5
    refine ⟨u, ?_, h6⟩
    have hb : b = true := by simpa [hlt] using hb.symm
    subst hb
    have hlt2 : j < arr.size := by have := hlen; simp only [Array.length_toList] at this; omega
    have h5' : arr[j].val = u := by simpa using h5
    cases ok <;> simp [hlt2, h5']
theorem does_lookup {κ : Type} {K : MKey κ} {o : Oper} {d : Nat} {T kt E : TypeId} {z : Value} {es : List (κ × HA)} (k : κ) {x : VP} (y q : Operand) (hu : X.P.underlying T = some (.map kt E)) (hk : X.P.underlying kt = some K.desc) (hz : ∀ w, (zeroValue E).run X.P w = .ok z w) (hop : o.op = .lookup T y q false) (hd : o.dst = some d) (hlt : decide (d < X.N) = true) (hc : chk X i pre suc d = true)
    (hr : resOf X i = [.slot d x]) (hx : ∀ R, mfind K k es = some R → R = HA.of x) (hx0 : mfind K k es = none → ∀ Z w, x.p Z z w) (hm : Mp K X i pre suc y es) (hq : ∀ c γ a w, Sit X i pre suc c γ a w → a.eval q = K.enc k) : Does X i pre suc o :=
  does_run hd hlt hc hr fun c γ a w s => by
    obtain ⟨S, h1⟩ := hm c γ a w s
    obtain ⟨u, h2, h3⟩ := run_lookup hu hk (hz w) h1 k x _ false rfl hx fun h => hx0 h _ _
    refine ⟨u, ?_, h3⟩
    unfold execOp; rw [hop]
    simp only [hq c γ a w s, Sem.run_bind, h2, Result.andThen_ok, Sem.run_pure]
    rfl
theorem does_lookup2 {κ : Type} {K : MKey κ} {o : Oper} {d : Nat} {T kt E : TypeId} {z : Value} {es : List (κ × HA)} (k : κ) {x : VP} {b : Bool} (y q : Operand) (hu : X.P.underlying T = some (.map kt E)) (hk : X.P.underlying kt = some K.desc) (hz : ∀ w, (zeroValue E).run X.P w = .ok z w) (hop : o.op = .lookup T y q true) (hd : o.dst = some d) (hlt : decide (d < X.N) = true) (hc : chk X i pre suc d = true)
    (hr : resOf X i = [.slot d (VP.tup [x, VP.bool b])]) (hb : (mfind K k es).isSome = b) (hx : ∀ R, mfind K k es = some R → R = HA.of x) (hx0 : mfind K k es = none → ∀ Z w, x.p Z z w) (hm : Mp K X i pre suc y es) (hq : ∀ c γ a w, Sit X i pre suc c γ a w → a.eval q = K.enc k) : Does X i pre suc o :=
  does_run hd hlt hc hr fun c γ a w s => by
    obtain ⟨S, h1⟩ := hm c γ a w s
    obtain ⟨u, h2, h3⟩ := run_lookup hu hk (hz w) h1 k x b true hb hx fun h => hx0 h _ _
    refine ⟨.tuple #[u, .bool b], ?_, [u, .bool b], rfl, h3, rfl, trivial⟩
    unfold execOp; rw [hop]
    simp only [hq c γ a w s, Sem.run_bind, h2, Result.andThen_ok, Sem.run_pure]
    rfl
theorem key_int {q : Operand} {n : Int} (h : Ar X i pre suc q (VP.int .i64 n).p) : ∀ c γ a w, Sit X i pre suc c γ a w → a.eval q = mkInt.enc n := fun c γ a w s => h c γ a w s
theorem key_str {q : Operand} {n : ByteArray} (h : Ar X i pre suc q (VP.str n).p) : ∀ c γ a w, Sit X i pre suc c γ a w → a.eval q = mkStr.enc n := fun c γ a w s => h c γ a w s
theorem turn_setObj {w : World} {m : Nat} {arr : Array MapEntry} {clock : Nat} (hm : w.heap[m]? = some (.map arr clock)) (ob : Obj) {E : Foot} (hE : E m) : Turn E w { w with heap := w.heap.setIfInBounds m ob } :=
  ⟨rfl, rfl, rfl, by simp, fun b _ hb => by
    have : m ≠ b := fun e => hb (e ▸ hE)
    simp [Array.getElem?_setIfInBounds_ne this], fun b _ => by
    by_cases e : m = b
    · subst e
      exact .inr fun cs T fz he => by rw [hm] at he; cases he
    · exact .inl (by simp [Array.getElem?_setIfInBounds_ne e])⟩
theorem setObj_get {w : World} {m : Nat} {ob0 ob : Obj} (hm : w.heap[m]? = some ob0) : ({ w with heap := w.heap.setIfInBounds m ob } : World).heap[m]? = some ob := by
  have := (Array.getElem?_eq_some_iff.1 hm).1
  simp [this]
theorem run_setObj {P : Program} {w : World} {m : Nat} {arr : Array MapEntry} {clock : Nat} (hm : w.heap[m]? = some (.map arr clock)) (ob : Obj) : (setObj m ob).run P w = .ok () { w with heap := w.heap.setIfInBounds m ob } := by
  simp [setObj, Sem.run, hm]
theorem mfind_isSome {κ α : Type} (K : MKey κ) (k : κ) (es : List (κ × α)) {j : Nat} (hj : (es.map (·.1)).findIdx? (fun y => K.eqv k y) = some j) : ∃ hlt : j < es.length, (mfind K k es).isSome = true ∧ k = es[j].1 := by
  have h1 := List.findIdx?_eq_some_iff_getElem.1 hj
  obtain ⟨h2, h3, _⟩ := h1
  have hlt : j < es.length := by simpa using h2
  refine ⟨hlt, ?_, ?_⟩
  · rw [mfind_idx, hj]; simp [hlt]
  · rw [List.getElem_map] at h3
    exact (K.eqv_iff _ _).1 h3
theorem map_put {κ : Type} {K : MKey κ} {P : Program} {T kt E : TypeId} {es : List (κ × HA)} {Z S S2 : Foot} {v u : Value} {w : World} (hu : P.underlying T = some (.map kt E)) (hk : P.underlying kt = some K.desc) (h : (HA.map K es).p Z v w S) (k : κ) (R : HA) (hR : R.p Z u w S2) (hd : ∀ b, S b → ¬ S2 b) (hZ : ∀ b, Z b → b < w.heap.size ∧ ¬ S b) (hSl : ∀ b, S b ∨ S2 b → b < w.heap.size) :
    ∃ (w' : World) (S' : Foot), (Instr.mapUpdate T v (K.enc k) u).run P w = .ok () w' ∧ (HA.map K (mput K k R es)).p Z v w' S' ∧ Turn S w w' ∧ w'.heap.size = w.heap.size ∧ ∀ b, S' b → S b ∨ S2 b := by
  obtain ⟨m, arr, clock, S', rfl, h2, h3, h4, h5, h6, h7, h8, h9⟩ := h
  have hg : (getObj m).run P w = .ok (.map arr clock) w := by simp [getObj, Sem.run, h2]
  have hf := run_findKey K hk k (l := arr.toList) h3 w
  have hlen : arr.toList.length = es.length := by have := congrArg List.length h3; simpa using this
  have hSm : S m := (h5 m).2 (.inl rfl)
  have hS'S : ∀ b, S' b → S b := fun b hb => (h5 b).2 (.inr hb)
  have hrun0 : ∀ (X : Sem Unit) w', ((do
      match ← Instr.findKey kt (K.enc k) arr.toList with
      | some (i, _) => do
        let key ← Instr.keyThatStays (((arr[i]?).map (·.key)).getD (K.enc k)) (K.enc k)
        setObj m (.map (arr.modify i fun e => { e with key, val := u }) clock)
      | none => setObj m (.map (arr.push { key := K.enc k, val := u, born := clock }) (clock + 1)) : Sem Unit)).run P w = .ok () w' → (Instr.mapUpdate T (.map (some m)) (K.enc k) u).run P w = .ok () w' := fun _ w' h => by
    unfold Instr.mapUpdate
    simp only [Sem.run_bind, run_underlying hu, Result.andThen_ok, hg, K.chk _ k w hk]
    rw [Sem.run_bind] at h
    exact h
  cases hj : (es.map (·.1)).findIdx? (fun y => K.eqv k y) with
  | none =>
    have hno : mfind K k es = none := by rw [mfind_idx, hj]; rfl
    have t := turn_setObj h2 (.map (arr.push { key := K.enc k, val := u, born := clock }) (clock + 1)) (E := fun b => b = m) rfl
    refine ⟨_, fun b => b = m ∨ (S' b ∨ S2 b), hrun0 (pure ()) _ ?_, ?_, t.mono fun b _ e => by rw [e]; exact hSm, by simp, fun b hb => ?_⟩
    · rw [hj] at hf
      simp only [Sem.run_bind, hf, Result.andThen_ok]
      exact run_setObj h2 _
    · have hput : mput K k R es = es ++ [(k, R)] := by rw [mput_idx, hj]
      rw [hput]
      refine ⟨m, _, _, fun b => S' b ∨ S2 b, rfl, setObj_get h2, by simp [h3], ?_, fun b => Iff.rfl, ?_, ?_, ?_, ?_⟩
      · have h1 := AllS.app h4 (qs := [R]) (vs := [u]) (T := S2) ⟨S2, fun _ => False, fun b => by simp, fun _ _ h => h, hR, fun _ h => h⟩ fun b hb => hd b (hS'S b hb)
        have h2 := h1.st (fun _ h => h) (fun b hb => t.block b (hZ b hb).1 fun e => (hZ b hb).2 (e ▸ hSm)) t.toCalm (fun b hb => t.block b (hSl b (hb.imp (hS'S b) fun h => h)) fun e => by
          rcases hb with hb | hb
          · exact h6 (e ▸ hb)
          · exact hd m hSm (e ▸ hb))
        simpa using h2
      · rintro (hb | hb)
        · exact h6 hb
        · exact hd m hSm hb
      · simp only [Array.toList_push, List.map_append, List.map_cons, List.map_nil]
        rw [List.pairwise_append]
        refine ⟨h7, List.pairwise_singleton _ _, fun a ha b hb => ?_⟩
        simp only [List.mem_singleton] at hb
        subst hb
        obtain ⟨e, he, rfl⟩ := List.mem_map.1 ha
        exact h8 e he
      · intro e he
        simp only [Array.toList_push, List.mem_append, List.mem_singleton] at he
        rcases he with he | rfl
        · exact Nat.lt_succ_of_lt (h8 e he)
        · exact Nat.lt_succ_self _
      · rw [List.map_append]
        refine List.nodup_append.2 ⟨h9, by simp, fun a ha b hb => ?_⟩
        simp only [List.map_cons, List.map_nil, List.mem_singleton] at hb
        subst hb
        exact fun e => mfind_none K hno (e ▸ ha)
    · rcases hb with rfl | hb | hb
      · exact .inl hSm
      · exact .inl (hS'S b hb)
      · exact .inr hb
  | some j =>
    obtain ⟨hlt, hsome, hkj⟩ := mfind_isSome K k es hj
    have hlt2 : j < arr.size := by have := hlen; simp only [Array.length_toList] at this; omega
    have hkey : arr[j].key = K.enc k := by
      have := congrArg (fun l => l[j]?) h3
      simp only [List.getElem?_map, List.getElem?_eq_getElem (show j < arr.toList.length by simpa using hlt2), List.getElem?_eq_getElem hlt, Option.map_some, Option.some.injEq] at this
      rw [hkj]; simpa using this
    have t := turn_setObj h2 (.map (arr.modify j fun e => { e with key := K.enc k, val := u }) clock) (E := fun b => b = m) rfl
    obtain ⟨v0, S1, S3, g1, g2, g3, _, g5⟩ := h4.pick (i := j) (R := es[j].2) (by simp [hlt])
    refine ⟨_, fun b => b = m ∨ (S2 b ∨ S3 b), hrun0 (pure ()) _ ?_, ?_, t.mono fun b _ e => by rw [e]; exact hSm, by simp, fun b hb => ?_⟩
    · rw [hj] at hf
      simp only [Option.bind_some, List.getElem?_eq_getElem (show j < arr.toList.length by simpa using hlt2), Option.map_some] at hf
      have hst : (Instr.keyThatStays (((arr[j]?).map (·.key)).getD (K.enc k)) (K.enc k)).run P w = .ok (K.enc k) w := by
        simp [hlt2, hkey, Instr.keyThatStays, K.bits k]
      simp only [Sem.run_bind, hf, Result.andThen_ok, hst]
      exact run_setObj h2 _
    · have hput : mput K k R es = es.modify j fun e => (e.1, R) := by rw [mput_idx, hj]
      have hm1 : (es.modify j fun e => (e.1, R)).map (·.1) = es.map (·.1) := by
        apply List.ext_getElem?
        intro q
        simp only [List.getElem?_map, List.getElem?_modify]
        cases es[q]? with
        | none => rfl
        | some x => by_cases hq : j = q <;> simp [hq]
      have hm2 : (es.modify j fun e => (e.1, R)).map (·.2) = (es.map (·.2)).set j R := by
        apply List.ext_getElem?
        intro q
        simp only [List.getElem?_map, List.getElem?_modify, List.getElem?_set, List.length_map]
        by_cases hq : j = q
        · subst hq; simp [hlt]
        · simp [hq]
      have ha1 : ∀ {α : Type} (f : MapEntry → α) (hf : ∀ e : MapEntry, e.key = K.enc k → f { e with key := K.enc k, val := u } = f e), (arr.modify j fun e => { e with key := K.enc k, val := u }).toList.map f = arr.toList.map f := fun f hf => by
        apply List.ext_getElem?
        intro q
        simp only [Array.toList_modify, List.getElem?_map, List.getElem?_modify]
        by_cases hq : j = q
        · subst hq
          simp only [if_true, Array.getElem?_toList, Array.getElem?_eq_getElem hlt2, Option.map_some, Option.map_eq_map]
          rw [hf _ hkey]
        · cases arr.toList[q]? with
          | none => rfl
          | some x => simp [hq]
      have ha2 : (arr.modify j fun e => { e with key := K.enc k, val := u }).toList.map (·.val) = (arr.toList.map (·.val)).set j u := by
        apply List.ext_getElem?
        intro q
        simp only [Array.toList_modify, List.getElem?_map, List.getElem?_modify, List.getElem?_set, List.length_map]
        by_cases hq : j = q
        · subst hq
          simp [hlt2]
        · simp [hq]
      rw [hput]
      refine ⟨m, _, _, fun b => S2 b ∨ S3 b, rfl, setObj_get h2, ?_, ?_, fun b => Iff.rfl, ?_, ?_, ?_, ?_⟩
      · rw [ha1 (·.key) fun e he => he.symm, h3]
        have := congrArg (List.map K.enc) hm1
        simpa [List.map_map, Function.comp_def] using this.symm
      · rw [hm2, ha2]
        have h1 := g5 R S2 u hR fun b hb hb' => hd b (hS'S b ((g2 b).2 (.inr hb'))) hb
        refine h1.st (fun _ h => h) (fun b hb => t.block b (hZ b hb).1 fun e => (hZ b hb).2 (e ▸ hSm)) t.toCalm (fun b hb => t.block b (hSl b ?_) fun e => ?_)
        · rcases hb with hb | hb
          · exact .inr hb
          · exact .inl (hS'S b ((g2 b).2 (.inr hb)))
        · rcases hb with hb | hb
          · exact hd m hSm (e ▸ hb)
          · exact h6 (e ▸ (g2 b).2 (.inr hb))
      · rintro (hb | hb)
        · exact hd m hSm hb
        · exact h6 ((g2 m).2 (.inr hb))
      · rw [ha1 (·.born) fun _ _ => rfl]; exact h7
      · intro e he
        have : e.born ∈ (arr.modify j fun e => { e with key := K.enc k, val := u }).toList.map (·.born) := List.mem_map.2 ⟨e, he, rfl⟩
        rw [ha1 (·.born) fun _ _ => rfl] at this
        obtain ⟨e', he', heq⟩ := List.mem_map.1 this
        rw [← heq]; exact h8 e' he'
      · rw [hm1]; exact h9
    · rcases hb with rfl | hb | hb
      · exact .inl hSm
      · exact .inr hb
      · exact .inl (hS'S b ((g2 b).2 (.inr hb)))
end
end O
end Go.Proofs.Ytogodjiemgilaaa

/- The logic over objects: maps that turn, copies, closures, tests of which the answer is free. -/
namespace Go.Proofs.Ytogodjiemgilaaa
open Go.RowKit
namespace O
section
variable {X : Cx} {i : Nat} {pre suc : List Nat}
/-- as step_own, with results that have no blocks -/
theorem step_ownV {c : Nat → Bool} {γ : Gho} {a a' : Act} {w w' : World} (s : Sit X i pre suc c γ a w) {d : Option Nat} {id : Nat} {ids : List Nat} {r : Ref} {R : HA} (hc : chkM X i pre suc d (id :: ids) = true) (E S : Foot)
    (hr : ∀ f ∈ resOf X i, f = .own id r R ∨ (f.isOwn = false ∧ f.holds X.toFr (γ.set id S) a' w')) (hE : ∀ b, E b → ∃ k ∈ id :: ids, γ.σ k b ∧ ∃ r R, Has X c (.own k r R))
    (sz : a'.tmps.size = X.N) (df : a'.defers = []) (t : Turn E w w') (ha : ∀ f : Fact, d.all (fun d => !f.uses d) = true → ∀ w, f.holds X.toFr γ a w → f.holds X.toFr γ a' w)
    {v : Value} (hv : r.den a' v) (hR : R.p γ.Z v w' S) (hS : ∀ b, S b → (E b ∨ w.heap.size ≤ b) ∧ b < w'.heap.size) : Good X.toFr (Has X (upd c i)) (γ.set id S) a' w' := by
  have hEz : ∀ b, E b → ¬ γ.Z b := fun b hb => by
    obtain ⟨k, _, h1, r', R', h2⟩ := hE b hb
    exact (s.g.bnd k r' R' h2 b h1).2.2
  have hone : ∀ {k r' R'}, Fact.own k r' R' ∈ resOf X i → k = id := fun {k r' R'} hf => by
    rcases hr _ hf with e | ⟨e, _⟩
    · injection e
    · cases e
  refine good_step (γ := γ) (γ' := γ.set id S) s hc E hE sz df t ha (fun _ h => h) (fun _ h => .inl h) (fun k hk => Gho.set_ne γ S fun e => hk (by rw [e]; exact List.mem_cons_self ..)) (fun f hf => ?_) (fun k r' R' hf b hb => ?_) (fun k r' R' k' r'' R'' h1 h2 hne => ?_)
  · rcases hr f hf with e | ⟨_, h⟩
    · rw [e]; exact ⟨v, hv, by rw [Gho.set_eq]; exact hR⟩
    · exact h
  · obtain rfl := hone hf
    rw [Gho.set_eq] at hb
    refine ⟨(hS b hb).1, (hS b hb).2, fun hz => ?_⟩
    rcases (hS b hb).1 with h | h
    · exact hEz b h hz
    · have := (s.g.zof b hz).1; omega
  · exact absurd ((hone h1).trans (hone h2).symm) hne
theorem does_mapPut {κ : Type} {K : MKey κ} {o : Oper} {id : Nat} {v : Value} {nu one : Bool} {T kt E : TypeId} {es es' : List (κ × HA)} {ido : Option Nat} (k : κ) {R : HA} (y q z : Operand) (hu : X.P.underlying T = some (.map kt E)) (hk : X.P.underlying kt = some K.desc) (hop : o.op = .mapUpdate T y q z) (hd : o.dst = none) (hc : chkM X i pre suc none (id :: ido.toList) = true)
    (hr : resOf X i = [.own id (.val v) (HA.map K es')]) (hes : es' = mput K k R es) (hne : (!(ido == some id)) = true) (h : Av X i pre suc (.own id (.val v) (HA.map K es))) (hy : Ar X i pre suc y (VP.eq v nu one).p) (hq : ∀ c γ a w, Sit X i pre suc c γ a w → a.eval q = K.enc k) (hz : Mv X i pre suc z R ido) : Does X i pre suc o := by
  subst hes
  intro c γ a w s Q K' hK
  have hHas := h c γ a w s
  obtain ⟨u, h1, h2⟩ := h.h s
  have h1 : u = v := h1
  subst h1
  obtain ⟨S2, k1, k2⟩ := hz c γ a w s
  have hb := s.g.bnd id _ _ hHas
  have own : ∀ b, S2 b → b < w.heap.size ∧ ¬ γ.Z b := fun b hb => by
    obtain ⟨k, _, m1, r, R', m2⟩ := k2 b hb
    have := s.g.bnd k r R' m2 b m1
    exact ⟨this.1, this.2.2⟩
  obtain ⟨w', S', r1, r2, r3, r4, r5⟩ := map_put hu hk h2 k R k1 (fun b hb hb' => by
    obtain ⟨k', hk', m1, r', R', m2⟩ := k2 b hb'
    refine s.g.sep id _ _ k' r' R' hHas m2 (fun e => ?_) b hb m1
    have hk' : ido = some k' := by simpa using hk'
    rw [hk', ← e] at hne; simp at hne) (fun b hz => ⟨(s.g.zof b hz).1, fun h => (hb b h).2.2 hz⟩) (fun b h => by
    rcases h with h | h
    · exact (hb b h).1
    · exact (own b h).1)
  unfold Oper.wp execOp
  rw [hop]
  have ey : a.eval y = u := (hy c γ a w s).1
  simp only [ey, hq c γ a w s, Sem.run_bind, r1, Result.andThen_ok, Sem.run_pure]
  show K' (a.put o.dst undef) _
  rw [hd]
  show K' a _
  have hE : ∀ b, (γ.σ id b ∨ S2 b) → ∃ k ∈ id :: ido.toList, γ.σ k b ∧ ∃ r R, Has X c (.own k r R) := fun b hb => by
    rcases hb with hb | hb
    · exact ⟨id, List.mem_cons_self .., hb, _, _, hHas⟩
    · obtain ⟨k, hk, e⟩ := k2 b hb
      exact ⟨k, List.mem_cons_of_mem _ (by simpa [Option.mem_toList] using hk), e⟩
  refine hK _ _ _ (step_own s hc hr (fun b => γ.σ id b ∨ S2 b) S' hE s.g.sz s.g.df (r3.mono fun b _ h => .inl h) (fun f _ w h => h) rfl r2 fun b hb' => ⟨.inl (r5 b hb'), ?_⟩)
  rw [r4]
  rcases r5 b hb' with h | h
  · exact (hb b h).1
  · exact (own b h).1
theorem map_del {κ : Type} {K : MKey κ} {P : Program} {T kt E t2 : TypeId} {es : List (κ × HA)} {Z S : Foot} {v : Value} {w : World} (hu : P.underlying T = some (.map kt E)) (hk : P.underlying kt = some K.desc) (h : (HA.map K es).p Z v w S) (k : κ) (hZ : ∀ b, Z b → b < w.heap.size ∧ ¬ S b) (hSl : ∀ b, S b → b < w.heap.size) (ty : TypeId) :
    ∃ (w' : World) (S' : Foot), (Builtin.delete_ #[T, t2] ty #[v, K.enc k]).run P w = .ok (.tuple #[]) w' ∧ (HA.map K (mdel K k es)).p Z v w' S' ∧ Turn S w w' ∧ w'.heap.size = w.heap.size ∧ ∀ b, S' b → S b := by
  obtain ⟨m, arr, clock, S', rfl, h2, h3, h4, h5, h6, h7, h8, h9⟩ := h
  have hg : (getObj m).run P w = .ok (.map arr clock) w := by simp [getObj, Sem.run, h2]
  have hf := run_findKey K hk k (l := arr.toList) h3 w
  have hck := K.chk arr.isEmpty k w hk
  have hlen : arr.toList.length = es.length := by have := congrArg List.length h3; simpa using this
  have hSm : S m := (h5 m).2 (.inl rfl)
  have hS'S : ∀ b, S' b → S b := fun b hb => (h5 b).2 (.inr hb)
  cases hj : (es.map (·.1)).findIdx? (fun y => K.eqv k y) with
  | none =>
    rw [hj] at hf
    have t := turn_setObj h2 (.map arr clock) (E := fun b => b = m) rfl
    refine ⟨_, S, ?_, ?_, t.mono fun b _ e => by rw [e]; exact hSm, by simp, fun b hb => hb⟩
    · unfold Builtin.delete_
      have hs := run_setObj (P := P) h2 (.map arr clock)
      simp [run_underlying hu, hg, hck, hf, hs]
    · have : mdel K k es = es := by rw [mdel_idx, hj]
      rw [this]
      exact ⟨m, arr, clock, S', rfl, setObj_get h2, h3, h4.st (fun _ h => h) (fun b hb => t.block b (hZ b hb).1 fun e => (hZ b hb).2 (e ▸ hSm)) t.toCalm (fun b hb => t.block b (hSl b (hS'S b hb)) fun e => h6 (e ▸ hb)), h5, h6, h7, h8, h9⟩
  | some j =>
    obtain ⟨hlt, _, _⟩ := mfind_isSome K k es hj
    have hlt2 : j < arr.size := by have := hlen; simp only [Array.length_toList] at this; omega
    rw [hj] at hf
    simp only [Option.bind_some, List.getElem?_eq_getElem (show j < arr.toList.length by simpa using hlt2), Option.map_some] at hf
    have t := turn_setObj h2 (.map (arr.eraseIdxIfInBounds j) clock) (E := fun b => b = m) rfl
    have hel : (arr.eraseIdxIfInBounds j).toList = arr.toList.eraseIdx j := by
      unfold Array.eraseIdxIfInBounds
      rw [dif_pos hlt2, Array.toList_eraseIdx]
    have hsplit : es.map (·.2) = (es.map (·.2)).take j ++ ((es.map (·.2)).drop j) := (List.take_append_drop _ _).symm
    obtain ⟨S3, e3, h10⟩ := h4.splice (qs := []) (us := []) (T := fun _ => False) j 1 (by simp; omega) (fun _ h => h) (fun _ _ h => h)
    refine ⟨_, fun b => b = m ∨ S3 b, ?_, ?_, t.mono fun b _ e => by rw [e]; exact hSm, by simp, fun b hb => ?_⟩
    · unfold Builtin.delete_
      have hs := run_setObj (P := P) h2 (.map (arr.eraseIdxIfInBounds j) clock)
      simp [run_underlying hu, hg, hck, hf, hs]
    · have hd : mdel K k es = es.eraseIdx j := by rw [mdel_idx, hj]
      have her : ∀ {α β : Type} (f : α → β) (l : List α), (l.eraseIdx j).map f = (l.map f).take j ++ (l.map f).drop (j + 1) := fun f l => by
        rw [List.eraseIdx_eq_take_drop_succ, List.map_append, List.map_take, List.map_drop]
      rw [hd]
      refine ⟨m, _, clock, S3, rfl, setObj_get h2, ?_, ?_, fun b => Iff.rfl, fun h => h6 (e3 m h), ?_, ?_, ?_⟩
      · rw [hel, her, her, h3]
      · rw [hel, her, her]
        have h11 := h10.subS (S' := S3) fun b => by simp
        simp only [List.append_nil] at h11
        exact h11.st (fun _ h => h) (fun b hb => t.block b (hZ b hb).1 fun e => (hZ b hb).2 (e ▸ hSm)) t.toCalm (fun b hb => t.block b (hSl b (hS'S b (e3 b hb))) fun e => h6 (e ▸ e3 b hb))
      · rw [hel, her, ← List.eraseIdx_eq_take_drop_succ]
        exact h7.sublist (List.eraseIdx_sublist _ _)
      · intro e he
        rw [hel] at he
        exact h8 e (List.mem_of_mem_eraseIdx he)
      · rw [her, ← List.eraseIdx_eq_take_drop_succ]
        exact h9.sublist (List.eraseIdx_sublist _ _)
    · rcases hb with rfl | hb
      · exact hSm
      · exact hS'S b (e3 b hb)
theorem does_mapDel {κ : Type} {K : MKey κ} {o : Oper} {id : Nat} {v : Value} {nu one : Bool} {T kt E t2 : TypeId} {es es' : List (κ × HA)} (k : κ) (y q : Operand) (hu : X.P.underlying T = some (.map kt E)) (hk : X.P.underlying kt = some K.desc) (hop : o.op = .call { callee := .builtin .delete, args := #[y, q], argTypes := #[T, t2] }) (hd : o.dst = none) (hc : chkM X i pre suc none [id] = true)
    (hr : resOf X i = [.own id (.val v) (HA.map K es')]) (hes : es' = mdel K k es) (h : Av X i pre suc (.own id (.val v) (HA.map K es))) (hy : Ar X i pre suc y (VP.eq v nu one).p) (hq : ∀ c γ a w, Sit X i pre suc c γ a w → a.eval q = K.enc k) : Does X i pre suc o := by
  subst hes
  intro c γ a w s Q K' hK
  have hHas := h c γ a w s
  obtain ⟨u, h1, h2⟩ := h.h s
  have h1 : u = v := h1
  subst h1
  have hb := s.g.bnd id _ _ hHas
  obtain ⟨w', S', r1, r2, r3, r4, r5⟩ := map_del (t2 := t2) hu hk h2 k (fun b hz => ⟨(s.g.zof b hz).1, fun h => (hb b h).2.2 hz⟩) (fun b h => (hb b h).1) o.type
  have ey : a.eval y = u := (hy c γ a w s).1
  unfold Oper.wp execOp
  simp only [hop, resolve, invoke, builtin, Sem.run_bind, Sem.run_pure, Result.andThen_ok, List.map_toArray, List.map_cons, List.map_nil, ey, hq c γ a w s]
  rw [r1]
  show K' (a.put o.dst _) _
  rw [hd]
  show K' a _
  exact hK _ _ _ (step_own s hc hr (γ.σ id) S' (fun b hb => ⟨id, List.mem_cons_self .., hb, _, _, hHas⟩) s.g.sz s.g.df r3 (fun f _ w h => h) rfl r2 fun b hb' => ⟨.inl (r5 b hb'), by rw [r4]; exact (hb b (r5 b hb')).1⟩)
theorem does_mapLen {κ : Type} {K : MKey κ} {o : Oper} {d : Nat} {es : List (κ × HA)} {T kt E : TypeId} (y : Operand) (hu : X.P.underlying T = some (.map kt E)) (hop : o.op = .call { callee := .builtin .len, args := #[y], argTypes := #[T] }) (hd : o.dst = some d) (hlt : decide (d < X.N) = true) (hc : chk X i pre suc d = true)
    (hr : resOf X i = [.slot d (VP.int .i64 (es.length : Nat))]) (hm : Mp K X i pre suc y es) : Does X i pre suc o :=
  does_run hd hlt hc hr fun c γ a w s => by
    obtain ⟨S, m, arr, clock, S', e, h2, h3, _⟩ := hm c γ a w s
    have hlen : arr.size = es.length := by have := congrArg List.length h3; simpa using this
    refine ⟨.int .i64 (es.length : Nat), ?_, rfl⟩
    have hg : (getObj m).run X.P w = .ok (.map arr clock) w := by simp [getObj, Sem.run, h2]
    unfold execOp; rw [hop]
    simp [resolve, invoke, builtin, Builtin.len_, run_underlying hu, e, goInt, hg, hlen]
/-- a closure is made -/
def Caps (X : Cx) (i : Nat) (pre suc : List Nat) : List Operand → List Value → Prop
  | [], [] => True
  | y :: ys, v :: vs => (∀ c γ a w, Sit X i pre suc c γ a w → a.eval y = v) ∧ Caps X i pre suc ys vs
  | _, _ => False
theorem Caps.all {c : Nat → Bool} {γ : Gho} {a : Act} {w : World} (s : Sit X i pre suc c γ a w) : ∀ {ys : List Operand} {vs : List Value}, Caps X i pre suc ys vs → ys.map a.eval = vs
  | [], [], _ => rfl
  | _ :: _, _ :: _, h => by rw [List.map_cons, h.1 c γ a w s, Caps.all s h.2]
  | [], _ :: _, h => h.elim
  | _ :: _, [], h => h.elim
theorem cap_ptr {y : Operand} {v : Value} (h : Ar X i pre suc y (VP.ptr v).p) : ∀ c γ a w, Sit X i pre suc c γ a w → a.eval y = v := fun c γ a w s => (h c γ a w s).1
theorem cap_eq {y : Operand} {v : Value} {nu one : Bool} (h : Ar X i pre suc y (VP.eq v nu one).p) : ∀ c γ a w, Sit X i pre suc c γ a w → a.eval y = v := fun c γ a w s => (h c γ a w s).1
theorem does_makeFunc {o : Oper} {d : Nat} {f : FuncId} {cs : Array Operand} {vs : List Value} (hop : o.op = .makeFunc (.func f) #[] cs) (hd : o.dst = some d) (hlt : decide (d < X.N) = true) (hc : chk X i pre suc d = true) (hr : resOf X i = [.slot d (VP.clo f vs)]) (h : Caps X i pre suc cs.toList vs) : Does X i pre suc o :=
  does_run hd hlt hc hr fun c γ a w s => by
    refine ⟨.func (.func f) #[] vs.toArray, ?_, rfl⟩
    have := h.all s
    unfold execOp; rw [hop]
    have e : cs.map a.eval = vs.toArray := Array.toList_inj.1 (by simp [this])
    simp [Instr.makeFunc, e]
/-- a bool: if it is true, this holds -/
def VP.may (φ : Prop) : VP := .free (fun v => ∃ b, v = .bool b ∧ (b = true → φ)) true (fun _ v h n e => (by obtain ⟨b, h, _⟩ := h; rw [h] at e; cases e)) true (fun _ v h => (by obtain ⟨b, h, _⟩ := h; rw [h]; rfl))
theorem does_isNil {o : Oper} {d n off : Nat} {r : Ref} {T T' E : TypeId} (y z : Operand) (hu : X.P.underlying T = some (.slice E)) (hop : o.op = .binOp .eql T y z T') (hd : o.dst = some d) (hlt : decide (d < X.N) = true) (hc : chk X i pre suc d = true)
    (hr : resOf X i = [.slot d (VP.may (n = 0))]) (h : Sl X i pre suc y r off n) (hz : Ar X i pre suc z VP.nilS.p) : Does X i pre suc o :=
  does_run hd hlt hc hr fun c γ a w s => by
    obtain ⟨A, cp, e1, _, e2⟩ := h c γ a w s
    have e3 : a.eval z = .slice none 0 0 := hz c γ a w s
    refine ⟨.bool A.isNone, ?_, A.isNone, rfl, fun hb => ?_⟩
    · unfold execOp; rw [hop]
      have hq := run_equal_slice_nil (P := X.P) w T E A n cp hu
      have hg : (eqGuard .eql T y z (.slice A n cp) (.slice none 0 0)).run X.P w = .ok () w := by simp [eqGuard]
      simp only [e1, e3, Sem.run_bind, hg, Result.andThen_ok, binOp, hq, Sem.run_pure]
    · rcases Nat.eq_zero_or_pos n with h0 | h0
      · exact h0
      · obtain ⟨g, b, n0, c0, _, rfl⟩ := e2 h0
        simp at hb
end
section
variable {F : Fr} {fs : List Fact} {Q : Exit → Act → World → Prop}
theorem t_condM (n : Nat) {k : Nat} {φ : Prop} {x y : Code} (hs : fs[n]? = some (.slot k (VP.may φ))) (h1 : φ → T F fs x Q) (h2 : T F fs y Q) : T F fs (.cond (.tmp k) x y) Q := fun a w hf => by
  obtain ⟨γ, g⟩ := hf
  obtain ⟨v, e1, b, rfl, hφ⟩ := g.hold _ (List.mem_of_getElem? hs)
  cases b with
  | true => exact wp_cond (eval_tmp e1) (h1 (hφ rfl) a w ⟨γ, g⟩)
  | false => exact wp_cond (eval_tmp e1) (h2 a w ⟨γ, g⟩)
theorem t_split (n : Nat) {k : Nat} {b : Bool} {x y : Code} (hs : fs[n]? = some (.slot k (VP.bool b))) (h1 : b = true → T F fs x Q) (h2 : b = false → T F fs y Q) : T F fs (.cond (.tmp k) x y) Q := by
  cases b with
  | true => exact t_cond_t n hs (h1 rfl)
  | false => exact t_cond_f n hs (h2 rfl)
end
end O
end Go.Proofs.Ytogodjiemgilaaa
