/- The logic over slots and boxes: a rule for each operation, whatever order a region takes. -/
import Derived.Test.YtogodjiemgilaaaHLA
namespace Go.Proofs.Ytogodjiemgilaaa
open Go.RowKit

structure Cx where
  P : Program
  w0 : World
  N : Nat
  B : List Nat
  fs : List Fact
  os : List (Nat × Fact)
  rs : List (Nat × Fact)

def Inv (X : Cx) (c : Nat → Bool) (a : Act) (w : World) : Prop :=
  Base X.w0 X.N X.B a w ∧ (∀ f ∈ X.fs, f.holds a w) ∧ (∀ x ∈ X.os, c x.1 = false → x.2.holds a w) ∧ (∀ x ∈ X.rs, c x.1 = true → x.2.holds a w)
def upd (c : Nat → Bool) (i : Nat) : Nat → Bool := fun j => if j = i then true else c j
structure Sit (X : Cx) (i : Nat) (pre suc : List Nat) (c : Nat → Bool) (a : Act) (w : World) : Prop where
  me : c i = false
  hpre : ∀ j ∈ pre, c j = true
  hsuc : ∀ j ∈ suc, c j = false
  inv : Inv X c a w
/-- this is known when operation i comes up -/
def Av (X : Cx) (i : Nat) (pre suc : List Nat) (f : Fact) : Prop := ∀ c a w, Sit X i pre suc c a w → f.holds a w
section
variable {X : Cx} {i : Nat} {pre suc : List Nat}
theorem av_fs (n : Nat) {f : Fact} (h : X.fs[n]? = some f) : Av X i pre suc f := fun _ _ _ s => s.inv.2.1 f (List.mem_of_getElem? h)
theorem av_rs (n : Nat) {j : Nat} {f : Fact} (h : X.rs[n]? = some (j, f)) (hj : pre.contains j = true) : Av X i pre suc f :=
  fun _ _ _ s => s.inv.2.2.2 _ (List.mem_of_getElem? h) (s.hpre j (by simpa using hj))
theorem av_os (n : Nat) {j : Nat} {f : Fact} (h : X.os[n]? = some (j, f)) (hj : (j == i || suc.contains j) = true) : Av X i pre suc f :=
  fun _ _ _ s => s.inv.2.2.1 _ (List.mem_of_getElem? h) (by
    simp only [Bool.or_eq_true, beq_iff_eq] at hj
    rcases hj with rfl | hj
    · exact s.me
    · exact s.hsuc j (by simpa using hj))

theorem av_bool {k : Nat} {b b' : Bool} (e : b = b') (h : Av X i pre suc (.slot k (VP.bool b))) : Av X i pre suc (.slot k (VP.bool b')) := e ▸ h
theorem av_eq {k : Nat} {x y : VP} (e : x = y) (h : Av X i pre suc (.slot k x)) : Av X i pre suc (.slot k y) := e ▸ h

/-- an operand's value -/
def Ar (X : Cx) (i : Nat) (pre suc : List Nat) (x : Operand) (q : Value → World → Prop) : Prop := ∀ c a w, Sit X i pre suc c a w → q (a.eval x) w
theorem eval_tmp {a : Act} {k : Nat} {v : Value} (h : a.tmps[k]? = some v) : a.eval (.tmp k) = v := by simp [Act.eval, h]
theorem ar_tmp {k : Nat} {x : VP} (h : Av X i pre suc (.slot k x)) : Ar X i pre suc (.tmp k) x.p := fun c a w s => by
  obtain ⟨v, h1, h2⟩ := h c a w s
  rw [eval_tmp h1]; exact h2
theorem ar_const {v : Value} {q : Value → World → Prop} (h : ∀ w, q v w) : Ar X i pre suc (.const v) q := fun _ _ w _ => h w
/-- a slice of a block of its own, as an argument -/
def isArr (T : TypeId) (n : Nat) (ps : List VP) (v : Value) (w : World) : Prop := ∃ g cs, v = .slice (some ⟨g, 0, none⟩) n n ∧ Row w g T cs ∧ All2 ps cs w
theorem ar_arr {k : Nat} {T : TypeId} {n : Nat} {ps : List VP} (h : Av X i pre suc (.arr k T n ps)) : Ar X i pre suc (.tmp k) (isArr T n ps) := fun c a w s => by
  obtain ⟨g, cs, h1, h2, h3⟩ := h c a w s
  rw [eval_tmp h1]; exact ⟨g, cs, rfl, h2, h3⟩
def isPtr (g off : Nat) (v : Value) : Prop := v = .pointer (some ⟨g, off, none⟩)

/-- the operation does what the context says of it, when it comes up -/
def Does (X : Cx) (i : Nat) (pre suc : List Nat) (o : Oper) : Prop :=
  ∀ c a w, Sit X i pre suc c a w → ∀ Q (K : Act → World → Prop), (∀ a' w', Inv X (upd c i) a' w' → K a' w') → o.wp X.P a w K Q

def chk (X : Cx) (i : Nat) (suc : List Nat) (d : Nat) : Bool :=
  X.fs.all (fun f => !f.uses d) && X.os.all (fun x => x.1 == i || !x.2.uses d) && X.rs.all (fun x => x.1 == i || !x.2.uses d || suc.contains x.1)
def resOf (X : Cx) (i : Nat) : List (Nat × Fact) := X.rs.filter (fun x => x.1 == i)

theorem inv_put {c : Nat → Bool} {a : Act} {w w' : World} {d : Nat} {v : Value} (s : Sit X i pre suc c a w) (e : Ext w w')
    (hb : Base X.w0 X.N X.B (a.put (some d) v) w') (hc : chk X i suc d = true) (hr : ∀ x ∈ resOf X i, x.2.holds (a.put (some d) v) w') : Inv X (upd c i) (a.put (some d) v) w' := by
  unfold chk at hc
  simp only [Bool.and_eq_true, List.all_eq_true] at hc
  obtain ⟨⟨h1, h2⟩, h3⟩ := hc
  refine ⟨hb, fun f hf => fact_put (s.inv.2.1 f hf) (by simpa using h1 f hf) e, fun x hx hcx => ?_, fun x hx hcx => ?_⟩
  · have hne : x.1 ≠ i := fun he => by simp [upd, he] at hcx
    have hcx' : c x.1 = false := by simpa [upd, hne] using hcx
    have := h2 x hx
    simp only [Bool.or_eq_true, beq_iff_eq, hne, false_or] at this
    exact fact_put (s.inv.2.2.1 x hx hcx') (by simpa using this) e
  · by_cases hne : x.1 = i
    · exact hr x (by unfold resOf; rw [List.mem_filter]; exact ⟨hx, by simp [hne]⟩)
    · have hcx' : c x.1 = true := by simpa [upd, hne] using hcx
      have := h3 x hx
      simp only [Bool.or_eq_true, beq_iff_eq, hne, false_or] at this
      rcases this with hu | hs
      · exact fact_put (s.inv.2.2.2 x hx hcx') (by simpa using hu) e
      · have := s.hsuc x.1 (by simpa using hs)
        rw [this] at hcx'; cases hcx'

/-- an operation that leaves a value in a slot that is no box's -/
theorem does_val {o : Oper} {d : Nat} (hd : o.dst = some d) (hlt : (decide (d < X.N) && !X.B.contains d) = true) (hc : chk X i suc d = true)
    (h : ∀ c a w, Sit X i pre suc c a w → ∀ Q (K : Act → World → Prop), (∀ v w', Ext w w' → (∀ x ∈ resOf X i, x.2.holds (a.put (some d) v) w') → K (a.put (some d) v) w') → o.wp X.P a w K Q) : Does X i pre suc o := by
  intro c a w s Q K hK
  simp only [Bool.and_eq_true, decide_eq_true_eq] at hlt
  exact h c a w s Q K fun v w' e hr => hK _ _ (inv_put s e (s.inv.1.put (by simpa using hlt.2) v e) hc hr)

theorem res_one {f : Fact} (hr : resOf X i = [(i, f)]) {a : Act} {w : World} (h : f.holds a w) : ∀ x ∈ resOf X i, x.2.holds a w := by
  rw [hr]; intro x hx; simp at hx; subst hx; exact h
theorem slot_put {a : Act} {w : World} {d : Nat} {v : Value} {x : VP} (hN : a.tmps.size = X.N) (hlt : (decide (d < X.N) && !X.B.contains d) = true) (h : x.p v w) : (Fact.slot d x).holds (a.put (some d) v) w :=
  ⟨v, put_eq v (by simp only [Bool.and_eq_true, decide_eq_true_eq] at hlt; omega), h⟩

/-- an operation whose run is known: it yields a value, the world stands -/
theorem does_run {o : Oper} {d : Nat} {x : VP} (hd : o.dst = some d) (hlt : (decide (d < X.N) && !X.B.contains d) = true) (hc : chk X i suc d = true) (hr : resOf X i = [(i, .slot d x)])
    (h : ∀ c a w, Sit X i pre suc c a w → ∃ v, (execOp a.eval o).run X.P w = .ok (.value v) w ∧ x.p v w) : Does X i pre suc o :=
  does_val hd hlt hc fun c a w s Q K hK => by
    obtain ⟨v, h1, h2⟩ := h c a w s
    unfold Oper.wp
    rw [h1]
    show K (a.put o.dst v) w
    rw [hd]
    exact hK v w (Ext.refl w) (res_one hr (slot_put s.inv.1.1 hlt h2))

theorem does_move {o : Oper} {d : Nat} {x : VP} (y : Operand) (hop : o.op = .move y ∨ o.op = .assign y) (hd : o.dst = some d) (hlt : (decide (d < X.N) && !X.B.contains d) = true) (hc : chk X i suc d = true)
    (hr : resOf X i = [(i, .slot d x)]) (h : Ar X i pre suc y x.p) : Does X i pre suc o :=
  does_run hd hlt hc hr fun c a w s => ⟨a.eval y, by unfold execOp; rcases hop with e | e <;> rw [e] <;> rfl, h c a w s⟩

theorem does_pick {o : Oper} {d : Nat} {x : VP} (b : Bool) (y u v : Operand) (hop : o.op = .pick y u v) (hd : o.dst = some d) (hlt : (decide (d < X.N) && !X.B.contains d) = true) (hc : chk X i suc d = true)
    (hr : resOf X i = [(i, .slot d x)]) (hb : Ar X i pre suc y (VP.bool b).p) (h : Ar X i pre suc (if b then u else v) x.p) : Does X i pre suc o :=
  does_run hd hlt hc hr fun c a w s => ⟨a.eval (if b then u else v), by
    have := hb c a w s
    unfold execOp; rw [hop]
    have hb' : a.eval y = .bool b := this
    cases b <;> simp [hb', asBool], h c a w s⟩

theorem does_not {o : Oper} {d : Nat} (b : Bool) (T : TypeId) (y : Operand) (hop : o.op = .unOp .not T y) (hd : o.dst = some d) (hlt : (decide (d < X.N) && !X.B.contains d) = true) (hc : chk X i suc d = true)
    (hr : resOf X i = [(i, .slot d (VP.bool (!b)))]) (hb : Ar X i pre suc y (VP.bool b).p) : Does X i pre suc o :=
  does_run hd hlt hc hr fun c a w s => ⟨.bool (!b), by
    have hb' : a.eval y = .bool b := hb c a w s
    unfold execOp; rw [hop]
    simp [hb', Op.unary], rfl⟩

theorem does_extract {o : Oper} {d : Nat} {ps : List VP} {x : VP} (y : Operand) (n : Nat) (hop : o.op = .extract y n) (hd : o.dst = some d) (hlt : (decide (d < X.N) && !X.B.contains d) = true) (hc : chk X i suc d = true)
    (hr : resOf X i = [(i, .slot d x)]) (hb : Ar X i pre suc y (VP.tup ps).p) (hn : ps[n]? = some x) : Does X i pre suc o :=
  does_run hd hlt hc hr fun c a w s => by
    obtain ⟨cs, h1, h2⟩ := hb c a w s
    obtain ⟨v, hv, hp⟩ := h2.get hn
    exact ⟨v, by unfold execOp; rw [hop]; simp [h1, Instr.extract, hv], hp⟩

/-! ### calls -/
/-- WHAT A FUNCTION DOES: arguments of which that is said, a result of which this is said, and nothing that there was has turned -/
def Spec (P : Program) (f : FuncId) (qs : List (Value → World → Prop)) (x : VP) : Prop :=
  ∀ (vs : Array Value) (w : World), vs.size = qs.length → (∀ (j : Nat) (q : Value → World → Prop), qs[j]? = some q → ∃ v, vs[j]? = some v ∧ q v w) → Calls P f vs w fun e w' => ∃ v, e = .returned v ∧ x.p v w' ∧ Ext w w'

def Ars (X : Cx) (i : Nat) (pre suc : List Nat) : List Operand → List (Value → World → Prop) → Prop
  | [], [] => True
  | o :: os, q :: qs => Ar X i pre suc o q ∧ Ars X i pre suc os qs
  | _, _ => False
theorem Ars.len : ∀ {os : List Operand} {qs : List (Value → World → Prop)}, Ars X i pre suc os qs → os.length = qs.length
  | [], [], _ => rfl
  | _ :: _, _ :: _, h => by simp [Ars.len h.2]
  | [], _ :: _, h => h.elim
  | _ :: _, [], h => h.elim
theorem Ars.get : ∀ {os : List Operand} {qs : List (Value → World → Prop)}, Ars X i pre suc os qs → ∀ {j : Nat} {q : Value → World → Prop}, qs[j]? = some q → ∃ o, os[j]? = some o ∧ Ar X i pre suc o q
  | [], [], _, j, _, h => by simp at h
  | o :: _, _ :: _, h, 0, q, hq => by simp at hq; subst hq; exact ⟨o, rfl, h.1⟩
  | _ :: _, _ :: _, h, j + 1, q, hq => by simpa using Ars.get h.2 (by simpa using hq)
  | [], _ :: _, h, _, _, _ => h.elim
  | _ :: _, [], h, _, _, _ => h.elim

/-- function f has a text -/
def hasBody (P : Program) (f : FuncId) : Bool := match P.funcs[f]? with | some fn => fn.body.isSome && !(fn.name == "runtime.NumGoroutine") | none => false

theorem run_callv {P : Program} {f : FuncId} {o : Oper} {as : Array Operand} {ts : Array TypeId} {a : Act} {w : World} (hop : o.op = .call { callee := .value (.func f), args := as, argTypes := ts }) (hb : hasBody P f = true) :
    (execOp a.eval o).run P w = .ok (.enter f (as.map a.eval)) w := by
  unfold hasBody at hb
  unfold execOp; rw [hop]
  cases hf : P.funcs[f]? with
  | none => rw [hf] at hb; cases hb
  | some fn =>
    rw [hf] at hb
    simp only [Bool.and_eq_true, Bool.not_eq_true', beq_eq_false_iff_ne, ne_eq, Option.isSome_iff_ne_none] at hb
    simp [resolve, Act.eval, Deferred.ofValue, invoke, callFunc, hf, hb.1, hb.2]

theorem does_call {o : Oper} {d : Nat} {f : FuncId} {as : Array Operand} {ts : Array TypeId} {qs : List (Value → World → Prop)} {x : VP} (hs : Spec X.P f qs x)
    (hop : o.op = .call { callee := .value (.func f), args := as, argTypes := ts }) (hbd : hasBody X.P f = true) (hd : o.dst = some d) (hlt : (decide (d < X.N) && !X.B.contains d) = true) (hc : chk X i suc d = true)
    (hr : resOf X i = [(i, .slot d x)]) (h : Ars X i pre suc as.toList qs) : Does X i pre suc o :=
  does_val hd hlt hc fun c a w s Q K hK => by
    unfold Oper.wp
    rw [run_callv hop hbd]
    show Calls X.P f (as.map a.eval) w _
    refine (hs (as.map a.eval) w (by rw [Array.size_map, ← h.len]; simp) fun j q hq => ?_).mono ?_
    · obtain ⟨y, hy, har⟩ := h.get hq
      refine ⟨a.eval y, ?_, har c a w s⟩
      rw [Array.getElem?_map]
      have : as[j]? = some y := by simpa using hy
      rw [this]; rfl
    · rintro e w' ⟨v, rfl, hp, he⟩
      show K (a.put o.dst v) w'
      rw [hd]
      exact hK v w' he (res_one hr (slot_put s.inv.1.1 hlt hp))

/-! ### boxes -/
theorem box_put {a : Act} {w : World} {d : Nat} {T : TypeId} {cs : List Value} {ps : List VP} (hlt : d < a.tmps.size) (h : All2 ps cs w) :
    (Fact.box d T ps).holds (a.put (some d) (ptr w.heap.size)) (w.alloc (.cells cs.toArray T)) :=
  ⟨w.heap.size, cs, put_eq _ hlt, Row.new w T cs, h.st (.of_ext (Ext.new w _))⟩

theorem does_new {o : Oper} {d : Nat} {T : TypeId} {ps : List VP} (hd : o.dst = some d) (hlt : decide (d < X.N) = true) (hc : chk X i suc d = true) (hr : resOf X i = [(i, .box d T ps)])
    (h : ∀ c a w, Sit X i pre suc c a w → ∃ cs : List Value, (execOp a.eval o).run X.P w = .ok (.value (ptr w.heap.size)) (w.alloc (.cells cs.toArray T)) ∧ All2 ps cs w) : Does X i pre suc o := by
  intro c a w s Q K hK
  obtain ⟨cs, h1, h2⟩ := h c a w s
  have hlt' := of_decide_eq_true hlt
  unfold Oper.wp
  rw [h1]
  show K (a.put o.dst (ptr w.heap.size)) _
  rw [hd]
  exact hK _ _ (inv_put s (Ext.new w _) (s.inv.1.new hlt' _) hc (res_one hr (box_put (by rw [s.inv.1.1]; exact hlt') h2)))

theorem does_box {o : Oper} {d : Nat} {T : TypeId} {ps : List VP} (y : Operand) (hop : o.op = .box T y) (hd : o.dst = some d) (hlt : decide (d < X.N) = true) (hc : chk X i suc d = true) (hr : resOf X i = [(i, .box d T ps)])
    (h : Ar X i pre suc y (VP.agg ps).p) : Does X i pre suc o :=
  does_new hd hlt hc hr fun c a w s => by
    obtain ⟨cs, h1, h2⟩ := h c a w s
    refine ⟨cs, ?_, h2⟩
    unfold execOp; rw [hop]
    simp [Instr.box, newVar, newRow, h1, Value.cells, ptr]

/-- the cells of a type's zero -/
def zeroOf (P : Program) (T : TypeId) (zs : List Value) : Prop := (P.info? T).bind (fun i => i.zero.map (fun v => v.cells.toList)) = some zs
theorem does_alloc {o : Oper} {d : Nat} {T : TypeId} {zs : List Value} {ps : List VP} (hz : zeroOf X.P T zs) (hop : o.op = .alloc T) (hd : o.dst = some d) (hlt : decide (d < X.N) = true) (hc : chk X i suc d = true) (hr : resOf X i = [(i, .box d T ps)])
    (h : ∀ w, All2 ps zs w) : Does X i pre suc o :=
  does_new hd hlt hc hr fun c a w s => by
    refine ⟨zs, ?_, h w⟩
    unfold zeroOf at hz
    obtain ⟨ti, h1, h2⟩ := Option.bind_eq_some_iff.1 hz
    obtain ⟨v, h3, h4⟩ := Option.map_eq_some_iff.1 h2
    unfold execOp; rw [hop]
    simp [Instr.alloc, zeroValue, typeInfo, h1, h3, newVar, newRow, ptr, ← h4]

/-- field f of a struct type begins at cell off -/
def fieldAt (P : Program) (T : TypeId) (f off : Nat) : Bool :=
  match P.underlying T with
  | some (.struct fs) => match fs[f]? with
    | some fd => fd.offset == off && (match P.info? fd.type with | some i => !(i.size == 0) | none => false)
    | none => false
  | _ => false
theorem run_fieldAt {P : Program} {T : TypeId} {f off o g : Nat} (h : fieldAt P T f off = true) (w : World) : (Instr.fieldAt T (.pointer (some ⟨g, o, none⟩)) f).run P w = .ok (.pointer (some ⟨g, o + off, none⟩)) w := by
  unfold fieldAt at h
  split at h
  · rename_i fs hu
    split at h
    · rename_i fd hf
      simp only [Bool.and_eq_true, beq_iff_eq] at h
      obtain ⟨h1, h2⟩ := h
      split at h2
      · rename_i ti hi
        simp only [Bool.not_eq_true', beq_eq_false_iff_ne, ne_eq] at h2
        simp [Instr.fieldAt, run_underlying hu, hf, Instr.sureAddr, fieldPlace, sizeOf, typeInfo, hi, h2, h1, add_plain]
      · cases h2
    · cases h
  · cases h

/-- pointer operand: into slot k's box, at off -/
def Pt (X : Cx) (i : Nat) (pre suc : List Nat) (x : Operand) (k off : Nat) : Prop := ∀ c a w, Sit X i pre suc c a w → ∃ g, a.tmps[k]? = some (ptr g) ∧ a.eval x = .pointer (some ⟨g, off, none⟩)
theorem pt_fp {d k off : Nat} (h : Av X i pre suc (.fp d k off)) : Pt X i pre suc (.tmp d) k off := fun c a w s => by
  obtain ⟨g, h1, h2⟩ := h c a w s
  exact ⟨g, h1, eval_tmp h2⟩
theorem pt_box {k : Nat} {T : TypeId} {ps : List VP} (h : Av X i pre suc (.box k T ps)) : Pt X i pre suc (.tmp k) k 0 := fun c a w s => by
  obtain ⟨g, cs, h1, _⟩ := h c a w s
  exact ⟨g, h1, eval_tmp h1⟩

theorem does_field {o : Oper} {d k off off' : Nat} (T : TypeId) (y : Operand) (f fo : Nat) (hf : fieldAt X.P T f fo = true) (hop : o.op = .fieldAddr T y f) (hd : o.dst = some d) (hlt : (decide (d < X.N) && !X.B.contains d) = true) (hk : (d == k) = false) (hc : chk X i suc d = true)
    (hr : resOf X i = [(i, .fp d k off')]) (ho : off' = off + fo) (h : Pt X i pre suc y k off) : Does X i pre suc o :=
  does_val hd hlt hc fun c a w s Q K hK => by
    obtain ⟨g, h1, h2⟩ := h c a w s
    unfold Oper.wp execOp
    rw [hop]
    simp only [h2, Sem.run_bind, run_fieldAt hf, Result.andThen_ok, Sem.run_pure]
    show K (a.put o.dst _) w
    rw [hd, ← ho]
    refine hK _ w (Ext.refl w) (res_one hr ⟨g, ?_, put_eq _ ?_⟩)
    · rw [put_ne _ (by simpa using hk)]; exact h1
    · simp only [Bool.and_eq_true, decide_eq_true_eq] at hlt; rw [s.inv.1.1]; exact hlt.1

/-- T is a struct (array) of n cells -/
def aggTy (P : Program) (T : TypeId) (n : Nat) : Bool :=
  (match P.underlying T with | some (.struct _) => true | some (.array _ _) => true | _ => false) && (match P.info? T with | some i => i.size == n | none => false)
/-- T is a type of one cell -/
def oneTy (P : Program) (T : TypeId) : Bool :=
  (match P.underlying T with | some (.struct _) => false | some (.array _ _) => false | some _ => true | _ => false) && (match P.info? T with | some i => i.size == 1 | none => false)
theorem run_isAgg {P : Program} {T : TypeId} {n : Nat} (h : aggTy P T n = true) (w : World) : (isAgg T).run P w = .ok true w := by
  unfold aggTy at h
  simp only [Bool.and_eq_true] at h
  have h := h.1
  split at h
  · rename_i hu; simp [isAgg, run_underlying hu]
  · rename_i hu; simp [isAgg, run_underlying hu]
  · cases h
theorem run_isOne {P : Program} {T : TypeId} (h : oneTy P T = true) (w : World) : (isAgg T).run P w = .ok false w := by
  unfold oneTy at h
  simp only [Bool.and_eq_true] at h
  have h := h.1
  split at h
  · cases h
  · cases h
  · rename_i d hn1 hn2 hu
    simp only [isAgg, Sem.run_bind, run_underlying hu, Result.andThen_ok]
    cases d <;> simp_all
  · cases h
theorem run_sizeAgg {P : Program} {T : TypeId} {n : Nat} (h : aggTy P T n = true) (w : World) : (sizeOf T).run P w = .ok n w := by
  unfold aggTy at h
  simp only [Bool.and_eq_true] at h
  have h := h.2
  split at h
  · rename_i i hi; simp only [beq_iff_eq] at h; simp [sizeOf, typeInfo, hi, h]
  · cases h
theorem run_sizeOne {P : Program} {T : TypeId} (h : oneTy P T = true) (w : World) : (sizeOf T).run P w = .ok 1 w := by
  unfold oneTy at h
  simp only [Bool.and_eq_true] at h
  have h := h.2
  split at h
  · rename_i i hi; simp only [beq_iff_eq] at h; simp [sizeOf, typeInfo, hi, h]
  · cases h
theorem run_loadRow {P : Program} {T T' : TypeId} {n g off : Nat} (h : aggTy P T n = true) {w : World} {cs : List Value} (hr : Row w g T' cs) (hl : off + n ≤ cs.length) :
    (loadVar T ⟨g, off, none⟩).run P w = .ok (.agg ((cs.drop off).take n).toArray) w := by
  have hlen : ((cs.drop off).take n).length = n := by simp; omega
  have := run_loadCells_list (P := P) w ⟨g, off, none⟩ ((cs.drop off).take n) (fun j v hv => by
    rw [add_plain]
    refine hr.cell ?_
    rw [List.getElem?_take] at hv
    split at hv
    · rw [List.getElem?_drop] at hv; exact hv
    · cases hv)
  rw [hlen] at this
  simp [loadVar, run_isAgg h, run_sizeAgg h, this]
theorem run_loadCell {P : Program} {T T' : TypeId} {g off : Nat} (h : oneTy P T = true) {w : World} {cs : List Value} (hr : Row w g T' cs) {v : Value} (hv : cs[off]? = some v) :
    (loadVar T ⟨g, off, none⟩).run P w = .ok v w := by
  simp [loadVar, run_isOne h, hr.cell hv]

theorem does_loadAgg {o : Oper} {d k off : Nat} {T T' : TypeId} {n : Nat} {ps : List VP} (y : Operand) (ht : aggTy X.P T n = true) (hop : o.op = .load T y) (hd : o.dst = some d) (hlt : (decide (d < X.N) && !X.B.contains d) = true) (hc : chk X i suc d = true)
    (hr : resOf X i = [(i, .slot d (VP.agg ((ps.drop off).take n)))]) (hl : decide (off + n ≤ ps.length) = true) (hp : Pt X i pre suc y k off) (h : Av X i pre suc (.box k T' ps)) : Does X i pre suc o :=
  does_run hd hlt hc hr fun c a w s => by
    obtain ⟨g, h1, h2⟩ := hp c a w s
    obtain ⟨g', cs, h3, h4, h5⟩ := h c a w s
    rw [h1] at h3
    have : g = g' := by injection h3 with h3; unfold ptr at h3; injection h3 with h3; injection h3 with h3; injection h3
    subst this
    have hlen := h5.len
    have hl' := of_decide_eq_true hl
    refine ⟨_, ?_, ⟨(cs.drop off).take n, rfl, (h5.drop off).take n⟩⟩
    have hrun := run_loadRow (off := off) ht h4 (by omega)
    unfold execOp; rw [hop]
    simp [h2, Instr.loadAt, Instr.sureAddr, hrun]

theorem does_loadOne {o : Oper} {d k off : Nat} {T T' : TypeId} {ps : List VP} {x : VP} (y : Operand) (ht : oneTy X.P T = true) (hop : o.op = .load T y) (hd : o.dst = some d) (hlt : (decide (d < X.N) && !X.B.contains d) = true) (hc : chk X i suc d = true)
    (hr : resOf X i = [(i, .slot d x)]) (hx : ps[off]? = some x) (hp : Pt X i pre suc y k off) (h : Av X i pre suc (.box k T' ps)) : Does X i pre suc o :=
  does_run hd hlt hc hr fun c a w s => by
    obtain ⟨g, h1, h2⟩ := hp c a w s
    obtain ⟨g', cs, h3, h4, h5⟩ := h c a w s
    rw [h1] at h3
    have : g = g' := by injection h3 with h3; unfold ptr at h3; injection h3 with h3; injection h3 with h3; injection h3
    subst this
    obtain ⟨v, hv, hpv⟩ := h5.get hx
    refine ⟨v, ?_, hpv⟩
    unfold execOp; rw [hop]
    simp [h2, Instr.loadAt, Instr.sureAddr, run_loadCell ht h4 hv]

/-! ### stores -/
theorem run_storeCell {P : Program} {T T' : TypeId} {g off : Nat} (n : Nat) {w : World} {cs : List Value} (hr : Row w g T' cs) {v : Value} (hs : (sizeOf T).run P w = .ok n w) (hn : v.cells.size = n) (hl : off + n ≤ cs.length) (h1 : ∀ u ∈ v.cells.toList, u.oneCell' = true) :
    (storeVar T ⟨g, off, none⟩ v).run P w = .ok () (w.setRow g (cs.take off ++ v.cells.toList ++ cs.drop (off + n)).toArray) := by
  have h2 := run_storeCells_at (P := P) g off T' v.cells.toList 0 cs.toArray w hr (by simp; omega) h1
  simp only [Nat.add_zero, List.toList_toArray, Array.length_toList, hn] at h2
  simp [storeVar, hs, hn, h2]

theorem setRow_row {w : World} {g : Nat} {T : TypeId} {cs : List Value} (hr : Row w g T cs) (ds : List Value) : Row (w.setRow g ds.toArray) g T ds := setRow_heap w g cs.toArray ds.toArray T (0, 0) hr
theorem setRow_far {w : World} {g b : Nat} (ds : Array Value) (h : b ≠ g) : (w.setRow g ds).heap[b]? = w.heap[b]? := by
  unfold World.setRow
  simp [Array.getElem?_modify, Ne.symm h]
theorem setRow_size {w : World} {g : Nat} (ds : Array Value) : (w.setRow g ds).heap.size = w.heap.size := by
  unfold World.setRow; simp
theorem setRow_ext {w0 w : World} {g : Nat} (ds : Array Value) (h : Ext w0 w) (hg : w0.heap.size ≤ g) : Ext w0 (w.setRow g ds) :=
  ⟨h.os, h.tape, h.output, by rw [setRow_size]; exact h.size, fun k hk => by rw [setRow_far ds (by omega)]; exact h.block k hk⟩

def Fact.bx : Fact → Option Nat
  | .box j _ _ => some j
  | .own j _ _ => some j
  | _ => none
/-- a fact stands behind a store into slot k's box -/
theorem fact_store {f : Fact} {a : Act} {w : World} {g : Nat} {T : TypeId} {cs ds : List Value} {B : List Nat} {k : Nat} (h : f.holds a w) (hk : a.tmps[k]? = some (ptr g)) (hr : Row w g T cs) (h1 : ∀ u ∈ cs, NotInt u) (h2 : ∀ u ∈ ds, NotInt u) (hlen : ds.length = cs.length)
    (hoff : f.off k = true) (hB : B.contains k = true) (hbx : ∀ j, f.bx = some j → B.contains j = true) (hsep : ∀ k ∈ B, ∀ k' ∈ B, k ≠ k' → ∀ g, a.tmps[k]? = some (ptr g) → a.tmps[k']? ≠ some (ptr g)) :
    f.holds a (w.setRow g ds.toArray) := by
  have ev : Evol w (w.setRow g ds.toArray) := ⟨by rw [setRow_size]; exact Nat.le_refl _, fun b hb => by
    by_cases e : b = g
    · subst e
      exact .inr ⟨⟨_, T, hr, by simpa using h1⟩, ⟨_, T, setRow_row hr ds, by simpa using h2⟩⟩
    · exact .inl (setRow_far _ e)⟩
  cases f with
  | slot j x => obtain ⟨u, e1, e2⟩ := h; exact ⟨u, e1, x.st _ _ _ e2 ev⟩
  | fp c j off => exact h
  | box j T' ps =>
    obtain ⟨g', cs', e1, e2, e3⟩ := h
    have hne : j ≠ k := by simpa [Fact.off] using hoff
    have hg : g' ≠ g := fun e => hsep j (by simpa using hbx j rfl) k (by simpa using hB) hne g' e1 (by rw [e]; exact hk)
    exact ⟨g', cs', e1, (setRow_far _ hg).trans e2, e3.st ev⟩
  | arr j T' n ps => simp [Fact.off] at hoff
  | own j T' n =>
    obtain ⟨g', cs', e1, e2, e3, e4⟩ := h
    by_cases hne : j = k
    · subst hne
      rw [hk] at e1
      have : g = g' := by injection e1 with e1; unfold ptr at e1; injection e1 with e1; injection e1 with e1; injection e1
      subst this
      have hcc : cs.toArray = cs'.toArray := by
        unfold Row at hr e2
        rw [hr] at e2
        injection e2 with e2
        injection e2
      have : cs = cs' := by simpa using hcc
      subst this
      have hT : T = T' := by
        unfold Row at hr e2
        rw [hr] at e2
        injection e2 with e2
        injection e2
      subst hT
      exact ⟨g, ds, hk, setRow_row hr ds, by rw [hlen]; exact e3, h2⟩
    · have hg : g' ≠ g := fun e => hsep j (by simpa using hbx j rfl) k (by simpa using hB) hne g' e1 (by rw [e]; exact hk)
      exact ⟨g', cs', e1, (setRow_far _ hg).trans e2, e3, e4⟩

def boxIn (B : List Nat) (f : Fact) : Bool := match f.bx with | some j => B.contains j | none => true
theorem boxIn_spec {B : List Nat} {f : Fact} (h : boxIn B f = true) : ∀ j, f.bx = some j → B.contains j = true := by
  intro j e; unfold boxIn at h; rw [e] at h; exact h
def chkS (X : Cx) (i : Nat) (suc : List Nat) (k : Nat) : Bool :=
  X.fs.all (fun f => f.off k && boxIn X.B f) && X.os.all (fun x => x.1 == i || (x.2.off k && boxIn X.B x.2)) && X.rs.all (fun x => x.1 == i || (x.2.off k && boxIn X.B x.2) || suc.contains x.1) && X.B.contains k

theorem does_storeG {o : Oper} {k off : Nat} {T T' : TypeId} {qs rr : List VP} (n m : Nat) (y z : Operand) (hsz : ∀ w, (sizeOf T).run X.P w = .ok n w) (hop : o.op = .store T y z) (hd : o.dst = none) (hc : chkS X i suc k = true)
    (hr : resOf X i = [(i, .box k T' rr)]) (hl : off + n ≤ m) (hp : Pt X i pre suc y k off)
    (h : ∀ c a w, Sit X i pre suc c a w → ∃ g cs, a.tmps[k]? = some (ptr g) ∧ Row w g T' cs ∧ cs.length = m ∧ (∀ u ∈ cs, NotInt u) ∧ ∀ w' vs, Evol w w' → All2 qs vs w' → All2 rr (cs.take off ++ vs ++ cs.drop (off + n)) w')
    (hqn : qs.length = n) (hn2 : qs.all (·.ni) = true) (hn3 : qs.all (·.one) = true)
    (hz : Ar X i pre suc z (fun v w => v.cells.size = n ∧ All2 qs v.cells.toList w)) : Does X i pre suc o := by
  intro c a w s Q K hK
  obtain ⟨g, h1, h2⟩ := hp c a w s
  obtain ⟨g', cs, h3, h4, hlen, hnc, h5⟩ := h c a w s
  rw [h1] at h3
  have : g = g' := by injection h3 with h3; unfold ptr at h3; injection h3 with h3; injection h3 with h3; injection h3
  subst this
  obtain ⟨hvn, hv⟩ := hz c a w s
  have hrun := run_storeCell (P := X.P) (T := T) (off := off) n h4 (hsz w) hvn (by omega) (hv.ones hn3)
  unfold Oper.wp execOp
  rw [hop]
  simp only [h2, Instr.storeAt, Instr.sureAddr, Sem.run_bind, Sem.run_pure, Result.andThen_ok, hrun]
  show K (a.put o.dst undef) _
  rw [hd]
  show K a _
  unfold chkS at hc
  simp only [Bool.and_eq_true, List.all_eq_true] at hc
  obtain ⟨⟨⟨c1, c2⟩, c3⟩, c4⟩ := hc
  obtain ⟨⟨b1, b2, b3, b4, b5⟩, i2, i3, i4⟩ := s.inv
  have hnew : ∀ u ∈ cs.take off ++ (a.eval z).cells.toList ++ cs.drop (off + n), NotInt u := by
    intro u hu
    rw [List.mem_append, List.mem_append] at hu
    rcases hu with (hu | hu) | hu
    · exact hnc u (List.mem_of_mem_take hu)
    · exact hv.noint hn2 u hu
    · exact hnc u (List.mem_of_mem_drop hu)
  have hvl := hv.len
  have hlenn : (cs.take off ++ (a.eval z).cells.toList ++ cs.drop (off + n)).length = cs.length := by
    simp only [List.length_append, List.length_take, List.length_drop, hvl]; omega
  have hg0 := (b4 k (by simpa using c4) g h1)
  have keep : ∀ f : Fact, f.holds a w → (f.off k = true ∧ boxIn X.B f = true) → f.holds a (w.setRow g (cs.take off ++ (a.eval z).cells.toList ++ cs.drop (off + n)).toArray) :=
    fun f hf hfo => fact_store hf h1 h4 hnc hnew hlenn hfo.1 c4 (boxIn_spec hfo.2) b5
  have ev : Evol w (w.setRow g (cs.take off ++ (a.eval z).cells.toList ++ cs.drop (off + n)).toArray) := ⟨by rw [setRow_size]; exact Nat.le_refl _, fun b hb => by
    by_cases e : b = g
    · subst e
      exact .inr ⟨⟨_, T', h4, by simpa using hnc⟩, ⟨_, T', setRow_row h4 _, by simpa using hnew⟩⟩
    · exact .inl (setRow_far _ e)⟩
  refine hK _ _ ⟨⟨b1, b2, setRow_ext _ b3 hg0.1, fun k hk g hg => by rw [setRow_size]; exact b4 k hk g hg, b5⟩, fun f hf => keep f (i2 f hf) (by simpa using c1 f hf), fun x hx hcx => ?_, fun x hx hcx => ?_⟩
  · have hne : x.1 ≠ i := fun he => by simp [upd, he] at hcx
    have := c2 x hx
    simp only [Bool.or_eq_true, beq_iff_eq, hne, false_or] at this
    exact keep _ (i3 x hx (by simpa [upd, hne] using hcx)) (by simpa using this)
  · by_cases hne : x.1 = i
    · have hx' : x ∈ resOf X i := by unfold resOf; rw [List.mem_filter]; exact ⟨hx, by simp [hne]⟩
      rw [hr, List.mem_singleton] at hx'
      subst hx'
      exact ⟨g, _, h1, setRow_row h4 _, h5 _ _ ev (hv.st ev)⟩
    · have hcx' : c x.1 = true := by simpa [upd, hne] using hcx
      have := c3 x hx
      simp only [Bool.or_eq_true, beq_iff_eq, hne, false_or] at this
      rcases this with hu | hs
      · exact keep _ (i4 x hx hcx') (by simpa using hu)
      · have := s.hsuc x.1 (by simpa using hs)
        rw [this] at hcx'; cases hcx'

theorem av_row {k off n : Nat} {T' : TypeId} {ps qs : List VP} (h : Av X i pre suc (.box k T' ps)) (hn1 : ps.all (·.ni) = true) : ∀ c a w, Sit X i pre suc c a w → ∃ g cs, a.tmps[k]? = some (ptr g) ∧ Row w g T' cs ∧ cs.length = ps.length ∧ (∀ u ∈ cs, NotInt u) ∧ ∀ w' vs, Evol w w' → All2 qs vs w' → All2 (ps.take off ++ qs ++ ps.drop (off + n)) (cs.take off ++ vs ++ cs.drop (off + n)) w' := fun c a w s => by
  obtain ⟨g, cs, h1, h2, h3⟩ := h c a w s
  exact ⟨g, cs, h1, h2, h3.len, h3.noint hn1, fun w' vs e hv => (((h3.take off).st e).app hv).app ((h3.drop _).st e)⟩
theorem av_own {k n : Nat} {T' : TypeId} {qs : List VP} (h : Av X i pre suc (.own k T' n)) : ∀ c a w, Sit X i pre suc c a w → ∃ g cs, a.tmps[k]? = some (ptr g) ∧ Row w g T' cs ∧ cs.length = n ∧ (∀ u ∈ cs, NotInt u) ∧ ∀ w' vs, Evol w w' → All2 qs vs w' → All2 qs (cs.take 0 ++ vs ++ cs.drop (0 + n)) w' := fun c a w s => by
  obtain ⟨g, cs, h1, h2, h3, h4⟩ := h c a w s
  refine ⟨g, cs, h1, h2, h3, h4, fun w' vs e hv => ?_⟩
  rw [List.take_zero, List.drop_of_length_le (by omega), List.nil_append, List.append_nil]; exact hv

theorem pt_own {k n : Nat} {T : TypeId} (h : Av X i pre suc (.own k T n)) : Pt X i pre suc (.tmp k) k 0 := fun c a w s => by
  obtain ⟨g, cs, h1, _⟩ := h c a w s
  exact ⟨g, h1, eval_tmp h1⟩
theorem does_allocOwn {o : Oper} {d : Nat} {T : TypeId} {zs : List Value} (ps : List VP) (hz : zeroOf X.P T zs) (hop : o.op = .alloc T) (hd : o.dst = some d) (hlt : decide (d < X.N) = true) (hc : chk X i suc d = true) (hr : resOf X i = [(i, .own d T zs.length)])
    (h : ∀ w, All2 ps zs w) (hn : ps.all (·.ni) = true) : Does X i pre suc o := by
  intro c a w s Q K hK
  have hlt' := of_decide_eq_true hlt
  have hrun : (execOp a.eval o).run X.P w = .ok (.value (ptr w.heap.size)) (w.alloc (.cells zs.toArray T)) := by
    unfold zeroOf at hz
    obtain ⟨ti, h1, h2⟩ := Option.bind_eq_some_iff.1 hz
    obtain ⟨v, h3, h4⟩ := Option.map_eq_some_iff.1 h2
    unfold execOp; rw [hop]
    simp [Instr.alloc, zeroValue, typeInfo, h1, h3, newVar, newRow, ptr, ← h4]
  unfold Oper.wp
  rw [hrun]
  show K (a.put o.dst (ptr w.heap.size)) _
  rw [hd]
  exact hK _ _ (inv_put s (Ext.new w _) (s.inv.1.new hlt' _) hc (res_one hr ⟨w.heap.size, zs, put_eq _ (by rw [s.inv.1.1]; exact hlt'), Row.new w T zs, rfl, (h w).noint hn⟩))
theorem does_storeNew {o : Oper} {k : Nat} {T T' : TypeId} {qs : List VP} (n : Nat) (y z : Operand) (ht : aggTy X.P T n = true) (hop : o.op = .store T y z) (hd : o.dst = none) (hc : chkS X i suc k = true)
    (hr : resOf X i = [(i, .box k T' qs)]) (hl : (decide (qs.length = n) && qs.all (·.ni) && qs.all (·.one)) = true) (hp : Pt X i pre suc y k 0) (h : Av X i pre suc (.own k T' n))
    (hz : Ar X i pre suc z (VP.agg qs).p) : Does X i pre suc o := by
  simp only [Bool.and_eq_true, decide_eq_true_eq] at hl
  obtain ⟨⟨l2, l4⟩, l5⟩ := hl
  refine does_storeG (qs := qs) n n y z (run_sizeAgg ht) hop hd hc hr (by omega) hp (av_own h) l2 l4 l5 fun c a w s => ?_
  obtain ⟨cs, h1, h2⟩ := hz c a w s
  rw [h1]
  exact ⟨by simp [Value.cells, h2.len, l2], by simpa [Value.cells] using h2⟩

theorem does_storeAgg {o : Oper} {k off : Nat} {T T' : TypeId} {ps qs : List VP} (n : Nat) (y z : Operand) (ht : aggTy X.P T n = true) (hop : o.op = .store T y z) (hd : o.dst = none) (hc : chkS X i suc k = true)
    (hr : resOf X i = [(i, .box k T' (ps.take off ++ qs ++ ps.drop (off + n)))]) (hl : (decide (off + n ≤ ps.length) && decide (qs.length = n) && ps.all (·.ni) && qs.all (·.ni) && qs.all (·.one)) = true) (hp : Pt X i pre suc y k off) (h : Av X i pre suc (.box k T' ps))
    (hz : Ar X i pre suc z (VP.agg qs).p) : Does X i pre suc o := by
  simp only [Bool.and_eq_true, decide_eq_true_eq] at hl
  obtain ⟨⟨⟨⟨l1, l2⟩, l3⟩, l4⟩, l5⟩ := hl
  refine does_storeG (qs := qs) n ps.length y z (run_sizeAgg ht) hop hd hc hr l1 hp (av_row h l3) l2 l4 l5 fun c a w s => ?_
  obtain ⟨cs, h1, h2⟩ := hz c a w s
  rw [h1]
  exact ⟨by simp [Value.cells, h2.len, l2], by simpa [Value.cells] using h2⟩
theorem does_storeOne {o : Oper} {k off : Nat} {T T' : TypeId} {ps : List VP} {q : VP} (y z : Operand) (ht : oneTy X.P T = true) (hop : o.op = .store T y z) (hd : o.dst = none) (hc : chkS X i suc k = true)
    (hr : resOf X i = [(i, .box k T' (ps.take off ++ [q] ++ ps.drop (off + 1)))]) (hl : (decide (off + 1 ≤ ps.length) && ps.all (·.ni) && q.ni && q.one) = true) (hp : Pt X i pre suc y k off) (h : Av X i pre suc (.box k T' ps))
    (hz : Ar X i pre suc z q.p) : Does X i pre suc o := by
  simp only [Bool.and_eq_true, decide_eq_true_eq] at hl
  obtain ⟨⟨⟨l1, l3⟩, l4⟩, l5⟩ := hl
  refine does_storeG (qs := [q]) 1 ps.length y z (run_sizeOne ht) hop hd hc hr l1 hp (av_row h l3) rfl (by simp [l4]) (by simp [l5]) fun c a w s => ?_
  have h1 := hz c a w s
  have h2 := q.hone l5 _ _ h1
  have h3 : (a.eval z).cells = #[a.eval z] := by
    generalize a.eval z = v at *
    cases v <;> first | rfl | (simp [Value.oneCell'] at h2)
  show (a.eval z).cells.size = 1 ∧ All2 [q] (a.eval z).cells.toList w
  rw [h3]
  exact ⟨rfl, h1, trivial⟩

/-! ### len; comparisons -/
theorem does_len {o : Oper} {d : Nat} {k : IntKind} {l : List Nat} (T : TypeId) (y : Operand) (ht : (match X.P.underlying T with | some (.slice _) => true | _ => false) = true) (hop : o.op = .call { callee := .builtin .len, args := #[y], argTypes := #[T] }) (hd : o.dst = some d) (hlt : (decide (d < X.N) && !X.B.contains d) = true) (hc : chk X i suc d = true)
    (hr : resOf X i = [(i, .slot d (VP.int .i64 (l.length : Nat)))]) (h : Ar X i pre suc y (VP.nums k l).p) : Does X i pre suc o :=
  does_run hd hlt hc hr fun c a w s => by
    obtain ⟨ad, cp, h1, _⟩ := h c a w s
    split at ht
    · rename_i e hu
      refine ⟨.int .i64 (l.length : Nat), ?_, rfl⟩
      unfold execOp; rw [hop]
      simp [resolve, invoke, builtin, Builtin.len_, run_underlying hu, h1, goInt]
    · cases ht
theorem does_cmp {o : Oper} {d : Nat} {m n : Int} {b : Bool} (op : BinOp) (T T' : TypeId) (y z : Operand) (hop : o.op = .binOp op T y z T') (hd : o.dst = some d) (hlt : (decide (d < X.N) && !X.B.contains d) = true) (hc : chk X i suc d = true)
    (hr : resOf X i = [(i, .slot d (VP.bool b))])
    (hb : (match op with | .eql => some (m == n) | .neq => some (m != n) | .lss => some (decide (m < n)) | .leq => some (decide (m ≤ n)) | .gtr => some (decide (m > n)) | .geq => some (decide (m ≥ n)) | _ => none) = some b)
    (k : IntKind) (h1 : Ar X i pre suc y (VP.int k m).p) (h2 : Ar X i pre suc z (VP.int k n).p) : Does X i pre suc o :=
  does_run hd hlt hc hr fun c a w s => by
    have e1 : a.eval y = .int k m := h1 c a w s
    have e2 : a.eval z = .int k n := h2 c a w s
    refine ⟨.bool b, ?_, rfl⟩
    unfold execOp; rw [hop]
    cases op <;> simp at hb <;> (subst hb; simp [e1, e2, eqGuard, binOp, Op.intCmp])
theorem does_eqStr {o : Oper} {d : Nat} {u v : ByteArray} {b : Bool} (op : BinOp) (T T' : TypeId) (y z : Operand) (hop : o.op = .binOp op T y z T') (hd : o.dst = some d) (hlt : (decide (d < X.N) && !X.B.contains d) = true) (hc : chk X i suc d = true)
    (hr : resOf X i = [(i, .slot d (VP.bool b))])
    (hb : (match op with | .eql => some (u.toList == v.toList) | .neq => some (!(u.toList == v.toList)) | _ => none) = some b)
    (h1 : Ar X i pre suc y (VP.str u).p) (h2 : Ar X i pre suc z (VP.str v).p) : Does X i pre suc o :=
  does_run hd hlt hc hr fun c a w s => by
    have e1 : a.eval y = .string u := h1 c a w s
    have e2 : a.eval z = .string v := h2 c a w s
    refine ⟨.bool b, ?_, rfl⟩
    unfold execOp; rw [hop]
    cases op <;> first
      | (cases hb; done)
      | (have hb' := Option.some.inj hb; subst hb'; simp [e1, e2, eqGuard, binOp, Op.stringOp])
end
end Go.Proofs.Ytogodjiemgilaaa
