/- Part of the proof that a law returns true for all that comes in, and that what came in reads as it did. No condition. -/
import Derived.Test.YtogodjiemgilaaaMgA2
/- The logic over slots and boxes: function values, elements of rows of numbers, differences. -/
namespace Go.Proofs.Ytogodjiemgilaaa
open Go.RowKit

/-- a function without captured values -/
def VP.fn (f : FuncId) : VP := ⟨fun v _ => v = .func (.func f) #[] #[], true, fun _ _ _ h _ => h, fun _ v _ h k n e => (by rw [h] at e; cases e), true, fun _ v _ h => (by rw [h]; rfl), true, fun _ _ _ _ h => h⟩
section
variable {X : Cx} {i : Nat} {pre suc : List Nat}
theorem ar_fn {f : FuncId} : Ar X i pre suc (.func f) (VP.fn f).p := fun _ _ _ _ => rfl
theorem does_callv {o : Oper} {d : Nat} {f : FuncId} {y : Operand} {ags : Array Operand} {ts : Array TypeId} {qs : List (Value → World → Prop)} {x : VP} (hs : Spec X.P f qs x)
    (hop : o.op = .call { callee := .value y, args := ags, argTypes := ts }) (hbd : hasBody X.P f = true) (hd : o.dst = some d) (hlt : (decide (d < X.N) && !X.B.contains d) = true) (hc : chk X i pre suc d = true)
    (hr : resOf X i = [(i, .slot d x)]) (hy : Ar X i pre suc y (VP.fn f).p) (h : Ars X i pre suc ags.toList qs) : Does X i pre suc o :=
  does_val hd hlt hc fun c a w s Q K hK => by
    have ey : a.eval y = .func (.func f) #[] #[] := hy c a w s
    have hrun : (execOp a.eval o).run X.P w = .ok (.enter f (ags.map a.eval)) w := by
      unfold hasBody at hbd
      unfold execOp; rw [hop]
      cases hf : X.P.funcs[f]? with
      | none => rw [hf] at hbd; cases hbd
      | some fn =>
        rw [hf] at hbd
        simp only [Bool.and_eq_true, Bool.not_eq_true', beq_eq_false_iff_ne, ne_eq, Option.isSome_iff_ne_none] at hbd
        simp [resolve, ey, Deferred.ofValue, invoke, callFunc, hf, hbd.1, hbd.2]
    unfold Oper.wp
    rw [hrun]
    show Calls X.P f (ags.map a.eval) w _
    refine (hs (ags.map a.eval) w (by rw [Array.size_map, ← h.len]; simp) fun j q hq => ?_).mono ?_
    · obtain ⟨y, hy, har⟩ := h.get hq
      refine ⟨a.eval y, ?_, har c a w s⟩
      rw [Array.getElem?_map]
      have : ags[j]? = some y := by simpa using hy
      rw [this]; rfl
    · rintro e w' ⟨v, rfl, hp, he⟩
      show K (a.put o.dst v) w'
      rw [hd]
      exact hK v w' he (res_one hr (slot_put s.inv.1.1 hlt hp))
/-- the address of element m of a row of numbers -/
theorem does_indexNums {o : Oper} {d k m : Nat} {kd : IntKind} {l : List Nat} {T E : TypeId} (y z : Operand) (hy : y = .tmp k) (hu : X.P.underlying T = some (.slice E)) (hsz : oneTy X.P E = true) (hop : o.op = .indexAddr T y z) (hd : o.dst = some d) (hlt : (decide (d < X.N) && !X.B.contains d) = true) (hk : (d == k) = false) (hc : chk X i pre suc d = true)
    (hr : resOf X i = [(i, .rp d k m)]) (hm : m < l.length) (h : Av X i pre suc (.slot k (VP.nums kd l))) (hz : Ar X i pre suc z (VP.int .i64 (m : Nat)).p) : Does X i pre suc o :=
  does_val hd hlt hc fun c a w s Q K hK => by
    obtain ⟨v, h1, a0, cp, rfl, h3, h4, h5⟩ := h c a w s
    have ez : a.eval z = .int .i64 (m : Nat) := hz c a w s
    obtain ⟨g, o0, e0, _⟩ := h5.get (j := m) (u := .int kd (l[m] : Nat)) (by simp [ksI, hm])
    subst e0
    have hrun : (Instr.indexAt T (.slice (some ⟨g, o0, none⟩) l.length cp) (.int .i64 (m : Nat))).run X.P w = .ok (.pointer (some ⟨g, o0 + m, none⟩)) w := by
      unfold Instr.indexAt
      have hlt' : (0 : Int) ≤ (m : Nat) ∧ ((m : Nat) : Int) < (l.length : Nat) := by omega
      simp only [asIntOf, Sem.run_bind, Sem.run_pure, Result.andThen_ok, run_underlying hu, if_pos hlt', run_sizeOne hsz w, Int.toNat_natCast, add_plain, Nat.mul_one]
    unfold Oper.wp execOp
    rw [hop]
    subst hy
    simp only [eval_tmp h1, ez, Sem.run_bind, hrun, Result.andThen_ok, Sem.run_pure]
    show K (a.put o.dst _) w
    rw [hd]
    refine hK _ w (Ext.refl w) (res_one hr ⟨g, o0, l.length, cp, ?_, put_eq _ ?_⟩)
    · rw [put_ne _ (by simpa using hk)]; exact h1
    · simp only [Bool.and_eq_true, decide_eq_true_eq] at hlt; rw [s.inv.1.1]; exact hlt.1
theorem does_loadNum {o : Oper} {d e k m : Nat} {kd : IntKind} {l : List Nat} {T : TypeId} {n : Nat} (y : Operand) (hy : y = .tmp e) (ht : oneTy X.P T = true) (hop : o.op = .load T y) (hd : o.dst = some d) (hlt : (decide (d < X.N) && !X.B.contains d) = true) (hc : chk X i pre suc d = true)
    (hr : resOf X i = [(i, .slot d (VP.int kd (n : Nat)))]) (hm : l[m]? = some n) (hp : Av X i pre suc (.rp e k m)) (h : Av X i pre suc (.slot k (VP.nums kd l))) : Does X i pre suc o :=
  does_run hd hlt hc hr fun c a w s => by
    obtain ⟨v, h1, a0, cp, rfl, h3, h4, h5⟩ := h c a w s
    obtain ⟨g, o0, n1, c1, h6, h7⟩ := hp c a w s
    rw [h1] at h6
    injection h6 with h6
    injection h6 with h6 _ _
    obtain ⟨g', o', e0, hcell⟩ := h5.get (j := m) (u := .int kd (n : Nat)) (by simp [ksI, hm])
    rw [e0] at h6
    injection h6 with h6
    injection h6 with h6 h8
    subst h6 h8
    refine ⟨.int kd (n : Nat), ?_, rfl⟩
    unfold execOp; rw [hop]
    subst hy
    simp [eval_tmp h7, Instr.loadAt, Instr.sureAddr, loadVar, run_isOne ht, hcell]
theorem does_subInt {o : Oper} {d : Nat} {m n : Int} (T T' : TypeId) (y z : Operand) (hop : o.op = .binOp .sub T y z T') (hd : o.dst = some d) (hlt : (decide (d < X.N) && !X.B.contains d) = true) (hc : chk X i pre suc d = true)
    (hr : resOf X i = [(i, .slot d (VP.int .i64 (m - n)))]) (hb : -9223372036854775808 ≤ m - n ∧ m - n < 9223372036854775808)
    (h1 : Ar X i pre suc y (VP.int .i64 m).p) (h2 : Ar X i pre suc z (VP.int .i64 n).p) : Does X i pre suc o :=
  does_run hd hlt hc hr fun c a w s => by
    have e1 : a.eval y = .int .i64 m := h1 c a w s
    have e2 : a.eval z = .int .i64 n := h2 c a w s
    refine ⟨.int .i64 (m - n), ?_, rfl⟩
    have hw : IntKind.i64.wrap (m - n) = m - n := IntWalk.i64_in _ (by omega)
    unfold execOp; rw [hop]
    simp [e1, e2, eqGuard, binOp, Op.intArith, hw]
end
end Go.Proofs.Ytogodjiemgilaaa

/- The logic over slots and boxes: rows of the call's own, append. -/
namespace Go.Proofs.Ytogodjiemgilaaa
open Go.RowKit

/-- an append leaves this fact, if the row's elements are of type E -/
def Fact.apo (f : Fact) (E : TypeId) : Bool := match f with
  | .slot _ x => x.ab
  | .fp .. => true
  | .rp .. => true
  | .box _ T ps => !(T == E) && ps.all (·.ab)
  | .own _ T _ => !(T == E)
  | .arr .. => false
  | .rows _ _ ps => ps.all (·.ab)
  | .orow _ E' _ _ ps => !(E' == E) && ps.all (·.ab)
theorem fact_grown {f : Fact} {w0 : World} {a : Act} {w w' : World} {v : Value} {E : TypeId} {sz n : Nat} {xs : List Value} (h : f.holds w0 a w) (ho : w.ownsRow w0.heap.size E sz v n xs) (hg : w.grownBy w' v.ownBlock) (ha : f.apo E = true) : f.holds w0 a w' := by
  have hE : ∀ k, v.ownBlock = some k → ∃ cur, w.heap[k]? = some (.cells cur E (0, 0)) := by
    intro k hk
    rcases ho.2 with ⟨rfl, _⟩ | ⟨g, cap, cur, rfl, _, hgg, _⟩
    · simp [Value.ownBlock] at hk
    · simp [Value.ownBlock] at hk; subst hk; exact ⟨cur, hgg⟩
  have far : ∀ {b : Nat} {o : Obj}, w.heap[b]? = some o → (∀ cur, o ≠ .cells cur E (0, 0)) → w'.heap[b]? = some o := by
    intro b o hb hno
    rw [hg.block b (Array.getElem?_eq_some_iff.1 hb).1 (fun e => by
      obtain ⟨cur, hc⟩ := hE b e.symm
      rw [hb] at hc
      exact hno cur (Option.some.inj hc))]
    exact hb
  cases f with
  | slot k x => obtain ⟨u, h1, h2⟩ := h; exact ⟨u, h1, x.hab ha _ _ _ h2⟩
  | fp c k off => exact h
  | rp c k off => exact h
  | box k T ps =>
    obtain ⟨g, cs, h1, h2, h3⟩ := h
    simp only [Fact.apo, Bool.and_eq_true, Bool.not_eq_true', beq_eq_false_iff_ne, ne_eq] at ha
    exact ⟨g, cs, h1, far h2 (fun cur e => ha.1 (by injection e)), h3.abs ha.2⟩
  | own k T m =>
    obtain ⟨g, cs, h1, h2, h3⟩ := h
    simp only [Fact.apo, Bool.not_eq_true', beq_eq_false_iff_ne, ne_eq] at ha
    exact ⟨g, cs, h1, far h2 (fun cur e => ha (by injection e)), h3⟩
  | arr k T m ps => simp [Fact.apo] at ha
  | rows k m ps =>
    obtain ⟨g, off, c, h1, h2, h3, h4, h5⟩ := h
    have hb : w'.heap[g]? = w.heap[g]? ∨ ps = [] := by
      by_cases hp : ps = []
      · exact .inr hp
      · left
        obtain ⟨x, r, rfl⟩ := List.exists_cons_of_ne_nil hp
        obtain ⟨u, hu, _⟩ := h5 0 x rfl
        refine hg.block g (World.block_lt_of_cell? w _ hu) fun e => ?_
        have := (ho.lt g e.symm).1
        omega
    refine ⟨g, off, c, h1, h2, h3, h4, fun j x hx => ?_⟩
    rcases hb with hb | hb
    · obtain ⟨u, hu, hp⟩ := h5 j x hx
      exact ⟨u, by rw [World.cell?_of_block (w := w) hb]; exact hu, x.hab (List.all_eq_true.1 ha x (List.mem_of_getElem? hx)) _ _ _ hp⟩
    · subst hb; simp at hx
  | orow k E' s m ps =>
    obtain ⟨u, ys, h1, h2, h3⟩ := h
    simp only [Fact.apo, Bool.and_eq_true, Bool.not_eq_true', beq_eq_false_iff_ne, ne_eq] at ha
    refine ⟨u, ys, h1, ⟨h2.1, ?_⟩, h3.abs ha.2⟩
    rcases h2.2 with hn | ⟨g', cap, cur, hu, hb, hgg, rest⟩
    · exact .inl hn
    · exact .inr ⟨g', cap, cur, hu, hb, far hgg (fun cur' e => ha.1 (by injection e)), rest⟩

def okA (d : Nat) (E : TypeId) (f : Fact) : Bool := f.apo E && !f.uses d
def chkA (X : Cx) (i : Nat) (pre suc : List Nat) (d : Nat) (E : TypeId) : Bool :=
  X.fs.all (okA d E) && X.os.all (fun x => x.1 == i || pre.contains x.1 || okA d E x.2) && X.rs.all (fun x => x.1 == i || okA d E x.2 || suc.contains x.1) && X.ms.all (fun x => x.1 == i || x.2.1 == i || pre.contains x.2.1 || okA d E x.2.2 || suc.contains x.1)
/-- numbers as cells of a row -/
def intsV (k : IntKind) (l : List Nat) : List VP := l.map fun d : Nat => VP.int k (d : Int)
theorem intsV_snoc (k : IntKind) (l : List Nat) (d : Nat) : intsV k l ++ [VP.int k (d : Int)] = intsV k (l ++ [d]) := by unfold intsV; rw [List.map_append]; rfl
theorem intsV_len (k : IntKind) (l : List Nat) : (intsV k l).length = l.length := by unfold intsV; rw [List.length_map]
theorem intsV_ones (k : IntKind) (l : List Nat) : (intsV k l).all (·.one) = true := by unfold intsV; rw [List.all_map]; exact List.all_eq_true.2 fun _ _ => rfl
theorem intsV_all2 {k : IntKind} {w : World} : ∀ {l : List Nat} {xs : List Value}, All2 (intsV k l) xs w → xs = ksI k l
  | [], [], _ => rfl
  | d :: l, x :: xs, h => by
    have h1 : x = .int k (d : Int) := h.1
    rw [h1, intsV_all2 (l := l) h.2]; rfl
  | [], _ :: _, h => h.elim
  | _ :: _, [], h => h.elim
/-- nothing: a nil slice -/
def VP.nilS : VP := ⟨fun v _ => v = .slice none 0 0, true, fun _ _ _ h _ => h, fun _ v _ h k n e => (by rw [h] at e; cases e), true, fun _ v _ h => (by rw [h]; rfl), true, fun _ _ _ _ h => h⟩
theorem intsV_ab (k : IntKind) (l : List Nat) : (intsV k l).all (·.ab) = true := by unfold intsV; rw [List.all_map]; exact List.all_eq_true.2 fun _ _ => rfl
section
variable {X : Cx} {i : Nat} {pre suc : List Nat}
/-- append of the elements of a slice built here -/
theorem does_append {o : Oper} {d k e n m : Nat} {T E : TypeId} {z : Value} {size bytes : Nat} {ps qs rr : List VP} (he : Elem X.P T E z size bytes) (y u : Operand) (hy : y = .tmp k) (hu : u = .tmp e)
    (hop : o.op = .call { callee := .builtin .append, args := #[y, u], argTypes := #[T, T] }) (hd : o.dst = some d) (hlt : (decide (d < X.N) && !X.B.contains d) = true) (hc : chkA X i pre suc d E = true)
    (hr : resOf X i = [(i, .orow d E size (n + m) rr)]) (hrr : ps ++ qs = rr) (hq : (decide (qs.length = m * size) && qs.all (·.one) && qs.all (·.ab) && decide (0 < m)) = true) (hps : ps.all (·.ab) = true) (hb : n + m ≤ 100000000000 ∧ bytes ≤ 1000)
    (h1 : Av X i pre suc (.orow k E size n ps)) (h2 : Av X i pre suc (.arr e E m qs)) : Does X i pre suc o := by
  intro c a w s Q K hK
  obtain ⟨v, xs, e1, e2, e3⟩ := h1 c a w s
  obtain ⟨g, cs, e4, e5, e6⟩ := h2 c a w s
  simp only [Bool.and_eq_true, decide_eq_true_eq] at hq hlt
  obtain ⟨⟨⟨q1, q2⟩, q3⟩, q4⟩ := hq
  subst hy hu
  obtain ⟨ht, ti, hi, hz, hsz, hby, hzs, hpos⟩ := he
  have hbig : (n + m) * bytes ≤ 140737488355328 := Nat.le_trans (Nat.mul_le_mul hb.1 hb.2) (by omega)
  refine wp_append_own w (.tmp k) (.tmp e) T hop X.w0.heap.size E ti z size bytes ht hi hz hsz hby hzs hpos v n xs (eval_tmp e1) e2 ⟨g, 0, none⟩ m m cs (eval_tmp e4) (by rw [e6.len, q1]) (fun j x hx => by rw [add_plain, Nat.zero_add]; exact e5.cell hx) (e6.ones q2) (by unfold maxLen; omega) hbig s.inv.1.2.2.1.size ?_
  intro v' w' h3 h4 _
  rw [hd]
  unfold chkA at hc
  simp only [Bool.and_eq_true, List.all_eq_true] at hc
  obtain ⟨⟨⟨c1, c2⟩, c3⟩, c4⟩ := hc
  have hd' : X.B.contains d = false := by simpa using hlt.2
  have hne : ∀ k ∈ X.B, d ≠ k := fun k hk e => by subst e; simp [hk] at hd'
  obtain ⟨b1, b2, b3, b4, b5⟩ := s.inv.1
  have hext : Ext X.w0 w' := b3.grown h4 (fun k hk => (e2.lt k hk).1)
  have hbase : Base X.w0 X.N X.B (a.put (some d) v') w' := by
    refine ⟨by rw [put_size]; exact b1, by rw [put_defers']; exact b2, hext, fun k hk g hg => ?_, fun k hk k' hk' hkk g hg => ?_⟩
    · rw [put_ne _ (hne k hk)] at hg
      have := b4 k hk g hg
      exact ⟨this.1, Nat.lt_of_lt_of_le this.2 h4.size⟩
    · rw [put_ne _ (hne k hk)] at hg
      rw [put_ne _ (hne k' hk')]
      exact b5 k hk k' hk' hkk g hg
  have keep : ∀ f : Fact, f.holds X.w0 a w → okA d E f = true → f.holds X.w0 (a.put (some d) v') w' := by
    intro f hf hk
    unfold okA at hk
    simp only [Bool.and_eq_true] at hk
    exact fact_put (fact_grown hf e2 h4 hk.1) (by simpa using hk.2) (Ext.refl w')
  refine hK _ _ (inv_mk s hbase ?_ (fun f hf h => keep f h (c1 f hf)) (fun x hx hne hp h => ?_) (fun x hx hne hcx h => ?_) (fun x hx hne hne2 hp hcx h => ?_))
  · intro x hx
    rw [hr, List.mem_singleton] at hx
    subst hx
    refine ⟨v', xs ++ cs, put_eq _ (by rw [b1]; exact hlt.1), h3, ?_⟩
    rw [← hrr]
    exact (e3.abs hps).app (e6.abs q3)
  · have := c2 x hx
    simp only [Bool.or_eq_true, beq_iff_eq, hne, hp, Bool.false_eq_true, false_or] at this
    exact keep _ h this
  · have := c3 x hx
    simp only [Bool.or_eq_true, beq_iff_eq, hne, false_or] at this
    rcases this with hu | hs
    · exact keep _ h hu
    · exact (not_suc s hs hcx).elim
  · have := c4 x hx
    simp only [Bool.or_eq_true, beq_iff_eq, hne, hne2, hp, Bool.false_eq_true, false_or] at this
    rcases this with hu | hs
    · exact keep _ h hu
    · exact (not_suc s hs hcx).elim
/-- an own row is handed on -/
theorem does_moveRow {o : Oper} {d k n sz : Nat} {E : TypeId} {ps : List VP} (y : Operand) (hop : o.op = .move y ∨ o.op = .assign y) (hy : y = .tmp k) (hd : o.dst = some d) (hlt : (decide (d < X.N) && !X.B.contains d) = true) (hc : chk X i pre suc d = true)
    (hr : resOf X i = [(i, .orow d E sz n ps)]) (h : Av X i pre suc (.orow k E sz n ps)) : Does X i pre suc o :=
  does_val hd hlt hc fun c a w s Q K hK => by
    obtain ⟨v, xs, h1, h2, h3⟩ := h c a w s
    unfold Oper.wp execOp
    rcases hop with e | e <;> rw [e] <;> (
      show K (a.put o.dst (a.eval y)) w
      rw [hd, hy, eval_tmp h1]
      refine hK _ w (Ext.refl w) (res_one hr ⟨v, xs, put_eq _ ?_, h2, h3⟩)
      simp only [Bool.and_eq_true, decide_eq_true_eq] at hlt; rw [s.inv.1.1]; exact hlt.1)
/-- a row of no element: nil -/
theorem does_nilRow {o : Oper} {d : Nat} {E : TypeId} (sz : Nat) (y : Operand) (hop : o.op = .move y ∨ o.op = .assign y) (hy : y = .const (.slice none 0 0)) (hd : o.dst = some d) (hlt : (decide (d < X.N) && !X.B.contains d) = true) (hc : chk X i pre suc d = true)
    (hr : resOf X i = [(i, .orow d E sz 0 [])]) : Does X i pre suc o :=
  does_val hd hlt hc fun c a w s Q K hK => by
    unfold Oper.wp execOp
    rcases hop with e | e <;> rw [e] <;> (
      show K (a.put o.dst (a.eval y)) w
      rw [hd, hy]
      refine hK _ w (Ext.refl w) (res_one hr ⟨.slice none 0 0, [], put_eq _ ?_, World.ownsRow_nil _ _ _ _, trivial⟩)
      simp only [Bool.and_eq_true, decide_eq_true_eq] at hlt; rw [s.inv.1.1]; exact hlt.1)
/-- a row of no element: []T{} -/
theorem does_emptyRow {o : Oper} {d sz : Nat} {T E : TypeId} (hu : X.P.underlying T = some (.slice E)) (hsz : ∀ w, (sizeOf E).run X.P w = .ok sz w)
    (hop : o.op = .buildSlice T 0 #[]) (hd : o.dst = some d) (hlt : (decide (d < X.N) && !X.B.contains d) = true) (hc : chk X i pre suc d = true)
    (hr : resOf X i = [(i, .orow d E sz 0 [])]) : Does X i pre suc o :=
  does_val hd hlt hc fun c a w s Q K hK => by
    have hb : (Instr.buildSlice T 0 #[]).run X.P w = .ok (.slice (some ⟨w.heap.size, 0, none⟩) 0 0) (w.alloc (.cells #[] E)) := by
      unfold Instr.buildSlice
      simp only [Sem.run_bind, run_underlying hu, Result.andThen_ok, hsz w, Nat.zero_mul]
      rw [if_neg (by decide)]
      have e0 : ∀ f : Nat → Value, (Array.range 0).map f = #[] := fun f => Array.ext (by simp) (by simp)
      simp [Instr.fill, newRow, e0]
    unfold Oper.wp execOp; rw [hop]
    have hb' : (Instr.buildSlice T 0 ((#[] : Array (Nat × Operand)).map fun (i, x) => (i, a.eval x))).run X.P w = .ok (.slice (some ⟨w.heap.size, 0, none⟩) 0 0) (w.alloc (.cells #[] E)) := by simpa using hb
    simp only [Sem.run_bind, hb', Result.andThen_ok, Sem.run_pure]
    show K (a.put o.dst _) _
    rw [hd]
    simp only [Bool.and_eq_true, decide_eq_true_eq] at hlt
    have hw := s.inv.1.2.2.1.size
    exact hK _ _ (Ext.new w _) (res_one hr ⟨_, [], put_eq _ (by rw [s.inv.1.1]; exact hlt.1), World.ownsRow_made w #[] 0 hw (by simp [maxLen]) (by simp), trivial⟩)
/-- an own row of numbers, as an argument -/
theorem ar_nums {k n : Nat} {E : TypeId} {kd : IntKind} {l : List Nat} (h : Av X i pre suc (.orow k E 1 n (intsV kd l))) : Ar X i pre suc (.tmp k) (VP.nums kd l).p := fun c a w s => by
  obtain ⟨v, xs, h1, h2, h3⟩ := h c a w s
  have hx := intsV_all2 h3
  subst hx
  obtain ⟨ad, cp, rfl, h4, h5, h6⟩ := own_form h2
  have hn : n = l.length := by have := h2.1; simp [ksI] at this; omega
  subst hn
  rw [eval_tmp h1]
  exact ⟨ad, cp, rfl, h4, h5, h6⟩
/-- a byte of a text -/
theorem does_indexStr {o : Oper} {d m n : Nat} {s : ByteArray} {T : TypeId} (y z : Operand) (hu : X.P.underlying T = some .string) (hop : o.op = .index T y z) (hd : o.dst = some d) (hlt : (decide (d < X.N) && !X.B.contains d) = true) (hc : chk X i pre suc d = true)
    (hr : resOf X i = [(i, .slot d (VP.int .u8 (n : Nat)))]) (hm : ∃ h : m < s.size, s[m].toNat = n) (h1 : Ar X i pre suc y (VP.str s).p) (h2 : Ar X i pre suc z (VP.int .i64 (m : Nat)).p) : Does X i pre suc o :=
  does_run hd hlt hc hr fun c a w st => by
    have e1 : a.eval y = .string s := h1 c a w st
    have e2 : a.eval z = .int .i64 (m : Nat) := h2 c a w st
    obtain ⟨hlt', hn⟩ := hm
    refine ⟨.int .u8 (n : Nat), ?_, rfl⟩
    unfold execOp; rw [hop]
    have : (Instr.index T (.string s) (.int .i64 (m : Nat))).run X.P w = .ok (.int .u8 (n : Nat)) w := by
      unfold Instr.index
      simp [asIntOf, run_underlying hu, hlt', hn]
    simp only [e1, e2, Sem.run_bind, this, Result.andThen_ok, Sem.run_pure]
/-- a number as one of another kind, where it fits -/
theorem does_conv {o : Oper} {d : Nat} {n : Int} {k k' : IntKind} {T T' : TypeId} (y : Operand) (hu : X.P.underlying T = some (.int k)) (hu' : X.P.underlying T' = some (.int k')) (hop : o.op = .convert T T' y) (hd : o.dst = some d) (hlt : (decide (d < X.N) && !X.B.contains d) = true) (hc : chk X i pre suc d = true)
    (hr : resOf X i = [(i, .slot d (VP.int k' n))]) (hw : k'.wrap n = n) (h1 : Ar X i pre suc y (VP.int k n).p) : Does X i pre suc o :=
  does_run hd hlt hc hr fun c a w s => by
    have e1 : a.eval y = .int k n := h1 c a w s
    refine ⟨.int k' n, ?_, rfl⟩
    unfold execOp; rw [hop]
    simp [e1, convert, run_underlying hu, run_underlying hu', Conv.intToInt, hw]
theorem does_lenStr {o : Oper} {d : Nat} {s : ByteArray} (T : TypeId) (y : Operand) (hu : X.P.underlying T = some .string) (hop : o.op = .call { callee := .builtin .len, args := #[y], argTypes := #[T] }) (hd : o.dst = some d) (hlt : (decide (d < X.N) && !X.B.contains d) = true) (hc : chk X i pre suc d = true)
    (hr : resOf X i = [(i, .slot d (VP.int .i64 (s.size : Nat)))]) (h : Ar X i pre suc y (VP.str s).p) : Does X i pre suc o :=
  does_run hd hlt hc hr fun c a w st => by
    have e1 : a.eval y = .string s := h c a w st
    refine ⟨.int .i64 (s.size : Nat), ?_, rfl⟩
    unfold execOp; rw [hop]
    simp [resolve, invoke, builtin, Builtin.len_, run_underlying hu, e1, goInt]
theorem ar_int_eq {x : Operand} {k : IntKind} {m n : Int} (e : m = n) (h : Ar X i pre suc x (VP.int k m).p) : Ar X i pre suc x (VP.int k n).p := e ▸ h
theorem does_subE {o : Oper} {d : Nat} {m n x : Int} (hx : m - n = x) (T T' : TypeId) (y z : Operand) (hop : o.op = .binOp .sub T y z T') (hd : o.dst = some d) (hlt : (decide (d < X.N) && !X.B.contains d) = true) (hc : chk X i pre suc d = true)
    (hr : resOf X i = [(i, .slot d (VP.int .i64 x))]) (hb : -9223372036854775808 ≤ x ∧ x < 9223372036854775808)
    (h1 : Ar X i pre suc y (VP.int .i64 m).p) (h2 : Ar X i pre suc z (VP.int .i64 n).p) : Does X i pre suc o := by
  subst hx; exact does_subInt T T' y z hop hd hlt hc hr hb h1 h2
theorem does_addE {o : Oper} {d : Nat} {m n x : Int} (hx : m + n = x) (T T' : TypeId) (y z : Operand) (hop : o.op = .binOp .add T y z T') (hd : o.dst = some d) (hlt : (decide (d < X.N) && !X.B.contains d) = true) (hc : chk X i pre suc d = true)
    (hr : resOf X i = [(i, .slot d (VP.int .i64 x))]) (hb : -9223372036854775808 ≤ x ∧ x < 9223372036854775808)
    (h1 : Ar X i pre suc y (VP.int .i64 m).p) (h2 : Ar X i pre suc z (VP.int .i64 n).p) : Does X i pre suc o := by
  subst hx; exact does_addInt T T' y z hop hd hlt hc hr hb h1 h2
end
end Go.Proofs.Ytogodjiemgilaaa

/- The reference's Parse. -/
namespace Go.Proofs.Ytogodjiemgilaaa
open Go.RowKit
theorem z_nil2 (w : World) : All2 [VP.bool false, VP.nilS] [.bool false, .slice none 0 0] w := ⟨rfl, rfl, trivial⟩
theorem z_i64 (w : World) : All2 [VP.int .i64 0] [.int .i64 0] w := ⟨rfl, trivial⟩
theorem ty_one_int : oneTy Try.prog 3 = true := by kernel_rfl
theorem ty_zero_int : zeroOf Try.prog 3 [.int .i64 0] := by unfold zeroOf; kernel_rfl
/-- a byte, told from the end; the digits of the last k -/
def bt (s : ByteArray) (j : Nat) : Nat := (byt s).reverse.getD j 0
theorem bt_lt (s : ByteArray) (j : Nat) : bt s j < 256 := by
  unfold bt
  rw [List.getD_eq_getElem?_getD]
  cases h : (byt s).reverse[j]? with
  | none => decide
  | some c => exact byt_lt s c (List.mem_reverse.1 (List.mem_of_getElem? h))
def pd (s : ByteArray) (k : Nat) : List Nat := ((byt s).reverse.take k).map dgt
theorem bt_at {s : ByteArray} {j : Nat} (h : j < s.size) : ∃ h : s.size - 1 - j < s.size, s[s.size - 1 - j].toNat = bt s j := by
  refine ⟨by omega, ?_⟩
  rw [← byt_get]
  unfold bt
  have hl := byt_len s
  rw [List.getD_eq_getElem?_getD, List.getElem?_reverse (by omega), List.getElem?_eq_getElem (by omega)]
  simp [hl]
theorem pd_snoc {s : ByteArray} {k : Nat} (h : k < s.size) : intsV .i64 (pd s k) ++ [VP.int .i64 ((dgt (bt s k) : Nat) : Int)] = intsV .i64 (pd s (k + 1)) := by
  rw [intsV_snoc]
  congr 1
  have hl := byt_len s
  unfold pd bt
  rw [List.take_add_one, List.map_append, List.getD_eq_getElem?_getD, List.getElem?_eq_getElem (by rw [List.length_reverse]; omega)]
  rfl
theorem pd_lt {s : ByteArray} {k : Nat} : ∀ d ∈ pd s k, d < 10 := by
  intro d hd
  obtain ⟨c, _, rfl⟩ := List.mem_map.1 hd
  exact dgt_lt c
theorem drop_rev {s : ByteArray} {k at' : Nat} (h : k + at' = s.size) : ((byt s).drop at').reverse = (byt s).reverse.take k := by
  have hl := byt_len s
  rw [List.reverse_drop, hl, show s.size - at' = k by omega]
theorem pd_num {s : ByteArray} {k at' : Nat} (h : k + at' = s.size) : val 10 (pd s k) = numU ((byt s).drop at') := by
  unfold pd numU; rw [drop_rev h]
theorem all_drop {s : ByteArray} {k at' : Nat} (h : k + at' = s.size) : ((byt s).drop at').all isD = true ↔ ∀ j, j < k → isD (bt s j) = true := by
  have hl := byt_len s
  rw [← List.all_reverse, drop_rev h, List.all_eq_true]
  constructor
  · intro hh j hj
    refine hh _ (List.mem_iff_getElem.2 ⟨j, by simp; omega, ?_⟩)
    unfold bt
    rw [List.getElem_take, List.getD_eq_getElem?_getD, List.getElem?_eq_getElem (by simp; omega)]; rfl
  · intro hh c hc
    obtain ⟨j, hj, rfl⟩ := List.mem_iff_getElem.1 hc
    have hj' : j < k := by simp at hj; omega
    have := hh j hj'
    unfold bt at this
    rw [List.getD_eq_getElem?_getD, List.getElem?_eq_getElem (by simp; omega)] at this
    rw [List.getElem_take]; exact this
def refW (neg : Bool) (at' : Nat) (s : ByteArray) : VP := if ((byt s).drop at').all isD then VP.tup [NUM (sz neg (numU ((byt s).drop at'))), VP.bool (decide (at' < s.size) && decide (s.size - at' ≤ 10000))] else VP.tup [VP.agg [VP.bool false, VP.nilS], VP.bool false]
theorem refW_done {neg : Bool} {at' k : Nat} {s : ByteArray} (a : Int) (ha : a = (at' : Int)) (h : k + at' = s.size) (h2 : at' < s.size) (hd : ∀ j, j < k → isD (bt s j) = true) :
    refW neg at' s = VP.tup [NUM (sz neg (val 10 (pd s k))), VP.bool (decide ((((s.size : Nat) : Int) - a) ≤ 10000))] := by
  unfold refW
  rw [if_pos ((all_drop h).2 hd), pd_num h, ha]
  rw [decide_eq_true h2, Bool.true_and, show decide (s.size - at' ≤ 10000) = decide (((s.size : Nat) : Int) - (at' : Int) ≤ 10000) from by rw [decide_eq_decide]; omega]
theorem refW_done2 {neg : Bool} {at' k : Nat} {s : ByteArray} (h : k + at' = s.size) (h2 : ¬ at' < s.size) (hd : ∀ j, j < k → isD (bt s j) = true) :
    refW neg at' s = VP.tup [NUM (sz neg (val 10 (pd s k))), VP.bool false] := by
  unfold refW
  rw [if_pos ((all_drop h).2 hd), pd_num h, decide_eq_false h2, Bool.false_and]
theorem refW_bad {neg : Bool} {at' j : Nat} {s : ByteArray} (h : j + at' < s.size) (hb : isD (bt s j) = false) : refW neg at' s = VP.tup [VP.agg [VP.bool false, VP.nilS], VP.bool false] := by
  unfold refW
  rw [if_neg fun hh => by
    have := (all_drop (k := s.size - at') (by omega)).1 hh j (by omega)
    rw [hb] at this; cases this]
theorem isD_lo {c : Nat} (h : c < 48) : isD c = false := by unfold isD; rw [decide_eq_false (by omega), Bool.false_and]
theorem isD_hi {c : Nat} (h : 57 < c) : isD c = false := by unfold isD; rw [decide_eq_false (p := c ≤ 57) (by omega), Bool.and_false]
theorem dig_cases (c : Nat) : c < 48 ∨ (¬ c < 48 ∧ 57 < c) ∨ (isD c = true ∧ ¬ c < 48 ∧ ¬ 57 < c ∧ dgt c = c - 48) := by
  by_cases h : c < 48
  · exact .inl h
  · by_cases h2 : 57 < c
    · exact .inr (.inl ⟨h, h2⟩)
    · have hd : isD c = true := by unfold isD; rw [decide_eq_true (by omega), decide_eq_true (by omega)]; rfl
      exact .inr (.inr ⟨hd, h, h2, (dgt_of hd).1⟩)
theorem pd_len {s : ByteArray} {k : Nat} (hs : s.size ≤ 100000) : (pd s k).length ≤ 100000 := by
  have hl := byt_len s
  unfold pd
  rw [List.length_map, List.length_take, List.length_reverse]
  omega
theorem r_mk1 (b : Bool) (l : List Nat) (hd : ∀ d ∈ l, d < 10) (hl : l.length ≤ 100000) : Spec Try.prog 117 [(VP.bool b).p, (VP.nums .i64 l).p] (NUM (sz b (val 10 l))) := by
  have h := r_makeQ b (val 10 l) 1 l.length (val_lt ten_gt hd) hl
  rw [Nat.div_one, fixd_of_val ten_gt l hd] at h
  exact h
set_option maxRecDepth 100000 in
set_option maxHeartbeats 4000000 in
theorem rparseA (s : ByteArray) (hs : s.size ≤ 100000) (h0 : s.size = 0) : Spec Try.prog 68 [(VP.str s).p] (refW false 0 s) := by
  have hbt : ∀ j, bt s j < 256 := bt_lt s
  refine spec_of (xs := [VP.str s]) 59 [2] Try.func68 rfl Try.ntmps68 rfl fun w0 => ?_
  refine t_seq ?_
  refine t_region (F := ⟨_, _, _, _⟩) [.slot 0 (VP.str s)] [] [(0, .box 2 72 [VP.bool false, VP.nilS]), (1, .slot 3 (VP.bool false))] [] [0] [] rfl rfl follow rfl ⟨
    .inl ⟨wants_plain rfl, does_alloc ty_zero_collatorref01_Num rfl rfl rfl rfl rfl z_nil2⟩,
    .inl ⟨wants_plain rfl, does_move _ (.inr rfl) rfl rfl rfl rfl (ar_const (fun _ => rfl))⟩,
    trivial⟩ ?_
  refine nx_sub (fs' := [.slot 0 (VP.str s), .box 2 72 [VP.bool false, VP.nilS], .slot 3 (VP.bool false)]) [0, 1, 2] rfl ?_
  refine nx_then ?_
  refine t_seq ?_
  refine t_region (F := ⟨_, _, _, _⟩) [.slot 0 (VP.str s), .box 2 72 [VP.bool false, VP.nilS], .slot 3 (VP.bool false)] [] [(0, .slot 8 (VP.str s)), (1, .slot 9 (VP.int .i64 ((s.size : Nat) : Int))), (2, .slot 10 (VP.bool (decide (((s.size : Nat) : Int) > 0)))), (3, .slot 11 (VP.bool (decide (((s.size : Nat) : Int) > 0)))), (4, .slot 12 (VP.undef)), (5, .slot 13 (VP.undef)), (6, .slot 14 (VP.undef)), (7, .slot 15 (VP.bool false)), (8, .slot 4 (VP.bool false))] [] [0, 1, 2] [] rfl rfl follow rfl ⟨
    .inl ⟨wants_plain rfl, does_move _ (.inl rfl) rfl rfl rfl rfl (ar_tmp (av_fs 0 rfl))⟩,
    .inl ⟨wants_plain rfl, does_lenStr _ _ Try.underlying9 rfl rfl rfl rfl rfl (ar_tmp (av_rs 0 rfl rfl))⟩,
    .inl ⟨wants_plain rfl, does_cmp (m := ((s.size : Nat) : Int)) (n := 0) _ _ _ _ _ rfl rfl rfl rfl rfl rfl .i64 (ar_tmp (av_rs 1 rfl rfl)) (ar_const (fun _ => rfl))⟩,
    .inl ⟨wants_plain rfl, does_move _ (.inl rfl) rfl rfl rfl rfl (ar_tmp (av_rs 2 rfl rfl))⟩,
    .inr (skips_guardU false rfl rfl rfl (av_bool (decide_eq_false (by omega)) (av_rs 3 rfl rfl)) rfl rfl rfl rfl),
    .inr (skips_guardU false rfl rfl rfl (av_bool (decide_eq_false (by omega)) (av_rs 3 rfl rfl)) rfl rfl rfl rfl),
    .inr (skips_guardU false rfl rfl rfl (av_bool (decide_eq_false (by omega)) (av_rs 3 rfl rfl)) rfl rfl rfl rfl),
    .inl ⟨wants_plain rfl, does_pick false _ _ _ rfl rfl rfl rfl rfl (ar_tmp (av_bool (decide_eq_false (by omega)) (av_rs 3 rfl rfl))) (ar_const (fun _ => rfl))⟩,
    .inl ⟨wants_plain rfl, does_move _ (.inr rfl) rfl rfl rfl rfl (ar_tmp (av_rs 7 rfl rfl))⟩,
    trivial⟩ ?_
  refine nx_sub (fs' := [.slot 0 (VP.str s), .box 2 72 [VP.bool false, VP.nilS], .slot 3 (VP.bool false), .slot 4 (VP.bool false)]) [0, 1, 2, 11] rfl ?_
  refine nx_then ?_
  refine t_seq ?_
  refine t_region (F := ⟨_, _, _, _⟩) [.slot 0 (VP.str s), .box 2 72 [VP.bool false, VP.nilS], .slot 3 (VP.bool false), .slot 4 (VP.bool false)] [] [(0, .slot 5 (VP.int .i64 0))] [] [0, 1, 2, 3] [] rfl rfl follow rfl ⟨
    .inl ⟨wants_plain rfl, does_move _ (.inr rfl) rfl rfl rfl rfl (ar_const (fun _ => rfl))⟩,
    trivial⟩ ?_
  refine nx_sub (fs' := [.slot 0 (VP.str s), .box 2 72 [VP.bool false, VP.nilS], .slot 3 (VP.bool false), .slot 4 (VP.bool false), .slot 5 (VP.int .i64 0)]) [0, 1, 2, 3, 4] rfl ?_
  refine nx_then ?_
  refine t_seq ?_
  refine t_seq ?_
  refine t_region (F := ⟨_, _, _, _⟩) [.slot 0 (VP.str s), .box 2 72 [VP.bool false, VP.nilS], .slot 3 (VP.bool false), .slot 4 (VP.bool false), .slot 5 (VP.int .i64 0)] [] [(0, .slot 16 (VP.bool false))] [] [0, 1, 2, 3, 4] [] rfl rfl follow rfl ⟨
    .inl ⟨wants_plain rfl, does_move _ (.inl rfl) rfl rfl rfl rfl (ar_tmp (av_fs 3 rfl))⟩,
    trivial⟩ ?_
  refine nx_sub (fs' := [.slot 0 (VP.str s), .box 2 72 [VP.bool false, VP.nilS], .slot 3 (VP.bool false), .slot 4 (VP.bool false), .slot 5 (VP.int .i64 0), .slot 16 (VP.bool false)]) [0, 1, 2, 3, 4, 5] rfl ?_
  refine nx_then ?_
  refine t_cond_f 5 rfl ?_
  refine t_skip ?_
  refine nx_then ?_
  refine t_seq ?_
  refine t_region (F := ⟨_, _, _, _⟩) [.slot 0 (VP.str s), .box 2 72 [VP.bool false, VP.nilS], .slot 3 (VP.bool false), .slot 4 (VP.bool false), .slot 5 (VP.int .i64 0), .slot 16 (VP.bool false)] [] [(0, .orow 17 3 1 0 []), (1, .orow 6 3 1 0 [])] [] [0, 1, 2, 3, 4, 5] [] rfl rfl follow rfl ⟨
    .inl ⟨wants_plain rfl, does_emptyRow Try.underlying35 (fun w => run_sizeOne ty_one_int w) rfl rfl rfl rfl rfl⟩,
    .inl ⟨wants_plain rfl, does_moveRow _ (.inr rfl) rfl rfl rfl rfl rfl (av_rs 0 rfl rfl)⟩,
    trivial⟩ ?_
  refine nx_sub (fs' := [.slot 0 (VP.str s), .box 2 72 [VP.bool false, VP.nilS], .slot 3 (VP.bool false), .slot 4 (VP.bool false), .slot 5 (VP.int .i64 0), .orow 6 3 1 0 []]) [0, 1, 2, 3, 4, 7] rfl ?_
  refine nx_then ?_
  refine t_seq ?_
  refine t_seq ?_
  refine t_region (F := ⟨_, _, _, _⟩) [.slot 0 (VP.str s), .box 2 72 [VP.bool false, VP.nilS], .slot 3 (VP.bool false), .slot 4 (VP.bool false), .slot 5 (VP.int .i64 0), .orow 6 3 1 0 []] [] [(0, .slot 18 (VP.str s)), (1, .slot 19 (VP.int .i64 ((s.size : Nat) : Int))), (2, .slot 20 (VP.int .i64 (((s.size : Nat) : Int) - 1 - ((0 : Nat) : Int)))), (3, .slot 7 (VP.int .i64 (((s.size : Nat) : Int) - 1 - ((0 : Nat) : Int))))] [] [0, 1, 2, 3, 4, 5] [] rfl rfl follow rfl ⟨
    .inl ⟨wants_plain rfl, does_move _ (.inl rfl) rfl rfl rfl rfl (ar_tmp (av_fs 0 rfl))⟩,
    .inl ⟨wants_plain rfl, does_lenStr _ _ Try.underlying9 rfl rfl rfl rfl rfl (ar_tmp (av_rs 0 rfl rfl))⟩,
    .inl ⟨wants_plain rfl, does_subE (m := ((s.size : Nat) : Int)) (n := 1) (x := (((s.size : Nat) : Int) - 1 - ((0 : Nat) : Int))) (by omega) _ _ _ _ rfl rfl rfl rfl rfl (by omega) (ar_tmp (av_rs 1 rfl rfl)) (ar_const (fun _ => rfl))⟩,
    .inl ⟨wants_plain rfl, does_move _ (.inr rfl) rfl rfl rfl rfl (ar_tmp (av_rs 2 rfl rfl))⟩,
    trivial⟩ ?_
  refine nx_sub (fs' := [.slot 0 (VP.str s), .box 2 72 [VP.bool false, VP.nilS], .slot 3 (VP.bool false), .slot 4 (VP.bool false), .slot 5 (VP.int .i64 0), .orow 6 3 1 0 [], .slot 7 (VP.int .i64 (((s.size : Nat) : Int) - 1 - ((0 : Nat) : Int)))]) [0, 1, 2, 3, 4, 5, 9] rfl ?_
  refine nx_then ?_
  refine t_block ?_
  refine t_loop (σ := {k : Nat // k + 0 ≤ s.size ∧ ∀ j, j < k → isD (bt s j) = true}) (fun k => [.slot 0 (VP.str s), .slot 4 (VP.bool false), .slot 5 (VP.int .i64 0), .orow 6 3 1 k.1 (intsV .i64 (pd s k.1)), .slot 7 (VP.int .i64 (((s.size : Nat) : Int) - 1 - ((k.1 : Nat) : Int))), .box 2 72 [VP.bool false, VP.nilS]]) (fun k => s.size - k.1) (⟨0, by omega, fun j h => absurd h (Nat.not_lt_zero j)⟩) [0, 3, 4, 5, 6, 1] rfl ?_
  intro k
  have hk := k.2.1
  have hdc := dig_cases (bt s k.1)
  rcases (show (k.1 + 0 = s.size ∧ 0 < s.size) ∨ (k.1 + 0 = s.size ∧ ¬ 0 < s.size) ∨ k.1 + 0 < s.size by omega) with ⟨h, h2⟩ | ⟨h, h2⟩ | h
  case inl =>
    rw [refW_done 0 rfl h h2 k.2.2]
    refine t_seq ?_
    refine t_seq ?_
    refine t_region (F := ⟨_, _, _, _⟩) [.slot 0 (VP.str s), .slot 4 (VP.bool false), .slot 5 (VP.int .i64 0), .orow 6 3 1 k.1 (intsV .i64 (pd s k.1)), .slot 7 (VP.int .i64 (((s.size : Nat) : Int) - 1 - ((k.1 : Nat) : Int))), .box 2 72 [VP.bool false, VP.nilS]] [] [(0, .slot 21 (VP.int .i64 (((s.size : Nat) : Int) - 1 - ((k.1 : Nat) : Int)))), (1, .slot 22 (VP.int .i64 0)), (2, .slot 23 (VP.bool (decide ((((s.size : Nat) : Int) - 1 - ((k.1 : Nat) : Int)) ≥ 0))))] [] [0, 1, 2, 3, 4, 5] [] rfl rfl follow rfl ⟨
      .inl ⟨wants_plain rfl, does_move _ (.inl rfl) rfl rfl rfl rfl (ar_tmp (av_fs 4 rfl))⟩,
      .inl ⟨wants_plain rfl, does_move _ (.inl rfl) rfl rfl rfl rfl (ar_tmp (av_fs 2 rfl))⟩,
      .inl ⟨wants_plain rfl, does_cmp (m := (((s.size : Nat) : Int) - 1 - ((k.1 : Nat) : Int))) (n := 0) _ _ _ _ _ rfl rfl rfl rfl rfl rfl .i64 (ar_tmp (av_rs 0 rfl rfl)) (ar_tmp (av_rs 1 rfl rfl))⟩,
      trivial⟩ ?_
    refine nx_sub (fs' := [.slot 0 (VP.str s), .slot 4 (VP.bool false), .slot 5 (VP.int .i64 0), .orow 6 3 1 k.1 (intsV .i64 (pd s k.1)), .slot 7 (VP.int .i64 (((s.size : Nat) : Int) - 1 - ((k.1 : Nat) : Int))), .box 2 72 [VP.bool false, VP.nilS], .slot 21 (VP.int .i64 (((s.size : Nat) : Int) - 1 - ((k.1 : Nat) : Int))), .slot 22 (VP.int .i64 0), .slot 23 (VP.bool (decide ((((s.size : Nat) : Int) - 1 - ((k.1 : Nat) : Int)) ≥ 0)))]) [0, 1, 2, 3, 4, 5, 6, 7, 8] rfl ?_
    refine nx_then ?_
    refine t_cond_fe 8 rfl (decide_eq_false (by omega)) ?_
    refine t_exit ?_
    refine ex_then ?_
    refine ex_then ?_
    refine ex_block ?_
    refine nx_then ?_
    refine t_seq ?_
    refine t_region (F := ⟨_, _, _, _⟩) [.slot 0 (VP.str s), .slot 4 (VP.bool false), .slot 5 (VP.int .i64 0), .orow 6 3 1 k.1 (intsV .i64 (pd s k.1)), .slot 7 (VP.int .i64 (((s.size : Nat) : Int) - 1 - ((k.1 : Nat) : Int))), .slot 21 (VP.int .i64 (((s.size : Nat) : Int) - 1 - ((k.1 : Nat) : Int))), .slot 22 (VP.int .i64 0), .slot 23 (VP.bool (decide ((((s.size : Nat) : Int) - 1 - ((k.1 : Nat) : Int)) ≥ 0)))] [(14, .box 2 72 [VP.bool false, VP.nilS])] [(0, .slot 45 (VP.bool false)), (1, .orow 46 3 1 k.1 (intsV .i64 (pd s k.1))), (2, .slot 47 (NUM (sz false (val 10 (pd s k.1))))), (3, .slot 48 (VP.str s)), (4, .slot 49 (VP.int .i64 ((s.size : Nat) : Int))), (5, .slot 50 (VP.int .i64 0)), (6, .slot 51 (VP.bool (decide (((s.size : Nat) : Int) > 0)))), (7, .slot 52 (VP.bool (decide (((s.size : Nat) : Int) > 0)))), (8, .slot 53 (VP.str s)), (9, .slot 54 (VP.int .i64 ((s.size : Nat) : Int))), (10, .slot 55 (VP.int .i64 0)), (11, .slot 56 (VP.int .i64 (((s.size : Nat) : Int) - 0))), (12, .slot 57 (VP.bool (decide ((((s.size : Nat) : Int) - 0) ≤ 10000)))), (13, .slot 58 (VP.bool (decide ((((s.size : Nat) : Int) - 0) ≤ 10000)))), (14, .box 2 72 [Bz (sz false (val 10 (pd s k.1))), Tz (sz false (val 10 (pd s k.1)))]), (15, .slot 3 (VP.bool (decide ((((s.size : Nat) : Int) - 0) ≤ 10000))))] [] [0, 1, 2, 3, 4, 6, 7, 8] [5] rfl rfl follow rfl ⟨
      .inl ⟨wants_plain rfl, does_move _ (.inl rfl) rfl rfl rfl rfl (ar_tmp (av_fs 1 rfl))⟩,
      .inl ⟨wants_plain rfl, does_moveRow _ (.inl rfl) rfl rfl rfl rfl rfl (av_fs 3 rfl)⟩,
      .inl ⟨wants_plain rfl, does_call (r_mk1 false (pd s k.1) pd_lt (pd_len hs)) rfl hb_collator_collatorref01_make1 rfl rfl rfl rfl ⟨(ar_tmp (av_rs 0 rfl rfl)), (ar_nums (av_rs 1 rfl rfl)), trivial⟩⟩,
      .inl ⟨wants_plain rfl, does_move _ (.inl rfl) rfl rfl rfl rfl (ar_tmp (av_fs 0 rfl))⟩,
      .inl ⟨wants_plain rfl, does_lenStr _ _ Try.underlying9 rfl rfl rfl rfl rfl (ar_tmp (av_rs 3 rfl rfl))⟩,
      .inl ⟨wants_plain rfl, does_move _ (.inl rfl) rfl rfl rfl rfl (ar_tmp (av_fs 2 rfl))⟩,
      .inl ⟨wants_plain rfl, does_cmp (m := ((s.size : Nat) : Int)) (n := 0) _ _ _ _ _ rfl rfl rfl rfl rfl rfl .i64 (ar_tmp (av_rs 4 rfl rfl)) (ar_tmp (av_rs 5 rfl rfl))⟩,
      .inl ⟨wants_plain rfl, does_move _ (.inl rfl) rfl rfl rfl rfl (ar_tmp (av_rs 6 rfl rfl))⟩,
      .inl ⟨wants_guard true rfl rfl rfl (av_bool (decide_eq_true (by omega)) (av_rs 7 rfl rfl)), does_move _ (.inl rfl) rfl rfl rfl rfl (ar_tmp (av_fs 0 rfl))⟩,
      .inl ⟨wants_guard true rfl rfl rfl (av_bool (decide_eq_true (by omega)) (av_rs 7 rfl rfl)), does_lenStr _ _ Try.underlying9 rfl rfl rfl rfl rfl (ar_tmp (av_rs 8 rfl rfl))⟩,
      .inl ⟨wants_guard true rfl rfl rfl (av_bool (decide_eq_true (by omega)) (av_rs 7 rfl rfl)), does_move _ (.inl rfl) rfl rfl rfl rfl (ar_tmp (av_fs 2 rfl))⟩,
      .inl ⟨wants_guard true rfl rfl rfl (av_bool (decide_eq_true (by omega)) (av_rs 7 rfl rfl)), does_subInt (m := ((s.size : Nat) : Int)) (n := 0) _ _ _ _ rfl rfl rfl rfl rfl (by omega) (ar_tmp (av_rs 9 rfl rfl)) (ar_tmp (av_rs 10 rfl rfl))⟩,
      .inl ⟨wants_guard true rfl rfl rfl (av_bool (decide_eq_true (by omega)) (av_rs 7 rfl rfl)), does_cmp (m := (((s.size : Nat) : Int) - 0)) (n := 10000) _ _ _ _ _ rfl rfl rfl rfl rfl rfl .i64 (ar_tmp (av_rs 11 rfl rfl)) (ar_const (fun _ => rfl))⟩,
      .inl ⟨wants_plain rfl, does_pick true _ _ _ rfl rfl rfl rfl rfl (ar_tmp (av_bool (decide_eq_true (by omega)) (av_rs 7 rfl rfl))) (ar_tmp (av_rs 12 rfl rfl))⟩,
      .inl ⟨wants_plain rfl, does_storeAgg 2 _ _ ty_agg_collatorref01_Num rfl rfl rfl rfl rfl (pt_box (av_os 0 rfl rfl)) (av_os 0 rfl rfl) (ar_tmp (av_rs 2 rfl rfl))⟩,
      .inl ⟨wants_plain rfl, does_move _ (.inr rfl) rfl rfl rfl rfl (ar_tmp (av_rs 13 rfl rfl))⟩,
      trivial⟩ ?_
    refine nx_sub (fs' := [.box 2 72 [Bz (sz false (val 10 (pd s k.1))), Tz (sz false (val 10 (pd s k.1)))], .slot 3 (VP.bool (decide ((((s.size : Nat) : Int) - 0) ≤ 10000)))]) [22, 23] rfl ?_
    refine nx_then ?_
    refine t_ret ?_
    exact rt_two rfl (res_agg 0 ty_agg_collatorref01_Num rfl) (res_tmp 1 rfl)
  case inr.inl =>
    rw [refW_done2 h h2 k.2.2]
    refine t_seq ?_
    refine t_seq ?_
    refine t_region (F := ⟨_, _, _, _⟩) [.slot 0 (VP.str s), .slot 4 (VP.bool false), .slot 5 (VP.int .i64 0), .orow 6 3 1 k.1 (intsV .i64 (pd s k.1)), .slot 7 (VP.int .i64 (((s.size : Nat) : Int) - 1 - ((k.1 : Nat) : Int))), .box 2 72 [VP.bool false, VP.nilS]] [] [(0, .slot 21 (VP.int .i64 (((s.size : Nat) : Int) - 1 - ((k.1 : Nat) : Int)))), (1, .slot 22 (VP.int .i64 0)), (2, .slot 23 (VP.bool (decide ((((s.size : Nat) : Int) - 1 - ((k.1 : Nat) : Int)) ≥ 0))))] [] [0, 1, 2, 3, 4, 5] [] rfl rfl follow rfl ⟨
      .inl ⟨wants_plain rfl, does_move _ (.inl rfl) rfl rfl rfl rfl (ar_tmp (av_fs 4 rfl))⟩,
      .inl ⟨wants_plain rfl, does_move _ (.inl rfl) rfl rfl rfl rfl (ar_tmp (av_fs 2 rfl))⟩,
      .inl ⟨wants_plain rfl, does_cmp (m := (((s.size : Nat) : Int) - 1 - ((k.1 : Nat) : Int))) (n := 0) _ _ _ _ _ rfl rfl rfl rfl rfl rfl .i64 (ar_tmp (av_rs 0 rfl rfl)) (ar_tmp (av_rs 1 rfl rfl))⟩,
      trivial⟩ ?_
    refine nx_sub (fs' := [.slot 0 (VP.str s), .slot 4 (VP.bool false), .slot 5 (VP.int .i64 0), .orow 6 3 1 k.1 (intsV .i64 (pd s k.1)), .slot 7 (VP.int .i64 (((s.size : Nat) : Int) - 1 - ((k.1 : Nat) : Int))), .box 2 72 [VP.bool false, VP.nilS], .slot 21 (VP.int .i64 (((s.size : Nat) : Int) - 1 - ((k.1 : Nat) : Int))), .slot 22 (VP.int .i64 0), .slot 23 (VP.bool (decide ((((s.size : Nat) : Int) - 1 - ((k.1 : Nat) : Int)) ≥ 0)))]) [0, 1, 2, 3, 4, 5, 6, 7, 8] rfl ?_
    refine nx_then ?_
    refine t_cond_fe 8 rfl (decide_eq_false (by omega)) ?_
    refine t_exit ?_
    refine ex_then ?_
    refine ex_then ?_
    refine ex_block ?_
    refine nx_then ?_
    refine t_seq ?_
    refine t_region (F := ⟨_, _, _, _⟩) [.slot 0 (VP.str s), .slot 4 (VP.bool false), .slot 5 (VP.int .i64 0), .orow 6 3 1 k.1 (intsV .i64 (pd s k.1)), .slot 7 (VP.int .i64 (((s.size : Nat) : Int) - 1 - ((k.1 : Nat) : Int))), .slot 21 (VP.int .i64 (((s.size : Nat) : Int) - 1 - ((k.1 : Nat) : Int))), .slot 22 (VP.int .i64 0), .slot 23 (VP.bool (decide ((((s.size : Nat) : Int) - 1 - ((k.1 : Nat) : Int)) ≥ 0)))] [(14, .box 2 72 [VP.bool false, VP.nilS])] [(0, .slot 45 (VP.bool false)), (1, .orow 46 3 1 k.1 (intsV .i64 (pd s k.1))), (2, .slot 47 (NUM (sz false (val 10 (pd s k.1))))), (3, .slot 48 (VP.str s)), (4, .slot 49 (VP.int .i64 ((s.size : Nat) : Int))), (5, .slot 50 (VP.int .i64 0)), (6, .slot 51 (VP.bool (decide (((s.size : Nat) : Int) > 0)))), (7, .slot 52 (VP.bool (decide (((s.size : Nat) : Int) > 0)))), (8, .slot 53 (VP.undef)), (9, .slot 54 (VP.undef)), (10, .slot 55 (VP.undef)), (11, .slot 56 (VP.undef)), (12, .slot 57 (VP.undef)), (13, .slot 58 (VP.bool false)), (14, .box 2 72 [Bz (sz false (val 10 (pd s k.1))), Tz (sz false (val 10 (pd s k.1)))]), (15, .slot 3 (VP.bool false))] [] [0, 1, 2, 3, 4, 6, 7, 8] [5] rfl rfl follow rfl ⟨
      .inl ⟨wants_plain rfl, does_move _ (.inl rfl) rfl rfl rfl rfl (ar_tmp (av_fs 1 rfl))⟩,
      .inl ⟨wants_plain rfl, does_moveRow _ (.inl rfl) rfl rfl rfl rfl rfl (av_fs 3 rfl)⟩,
      .inl ⟨wants_plain rfl, does_call (r_mk1 false (pd s k.1) pd_lt (pd_len hs)) rfl hb_collator_collatorref01_make1 rfl rfl rfl rfl ⟨(ar_tmp (av_rs 0 rfl rfl)), (ar_nums (av_rs 1 rfl rfl)), trivial⟩⟩,
      .inl ⟨wants_plain rfl, does_move _ (.inl rfl) rfl rfl rfl rfl (ar_tmp (av_fs 0 rfl))⟩,
      .inl ⟨wants_plain rfl, does_lenStr _ _ Try.underlying9 rfl rfl rfl rfl rfl (ar_tmp (av_rs 3 rfl rfl))⟩,
      .inl ⟨wants_plain rfl, does_move _ (.inl rfl) rfl rfl rfl rfl (ar_tmp (av_fs 2 rfl))⟩,
      .inl ⟨wants_plain rfl, does_cmp (m := ((s.size : Nat) : Int)) (n := 0) _ _ _ _ _ rfl rfl rfl rfl rfl rfl .i64 (ar_tmp (av_rs 4 rfl rfl)) (ar_tmp (av_rs 5 rfl rfl))⟩,
      .inl ⟨wants_plain rfl, does_move _ (.inl rfl) rfl rfl rfl rfl (ar_tmp (av_rs 6 rfl rfl))⟩,
      .inr (skips_guardU false rfl rfl rfl (av_bool (decide_eq_false (by omega)) (av_rs 7 rfl rfl)) rfl rfl rfl rfl),
      .inr (skips_guardU false rfl rfl rfl (av_bool (decide_eq_false (by omega)) (av_rs 7 rfl rfl)) rfl rfl rfl rfl),
      .inr (skips_guardU false rfl rfl rfl (av_bool (decide_eq_false (by omega)) (av_rs 7 rfl rfl)) rfl rfl rfl rfl),
      .inr (skips_guardU false rfl rfl rfl (av_bool (decide_eq_false (by omega)) (av_rs 7 rfl rfl)) rfl rfl rfl rfl),
      .inr (skips_guardU false rfl rfl rfl (av_bool (decide_eq_false (by omega)) (av_rs 7 rfl rfl)) rfl rfl rfl rfl),
      .inl ⟨wants_plain rfl, does_pick false _ _ _ rfl rfl rfl rfl rfl (ar_tmp (av_bool (decide_eq_false (by omega)) (av_rs 7 rfl rfl))) (ar_const (fun _ => rfl))⟩,
      .inl ⟨wants_plain rfl, does_storeAgg 2 _ _ ty_agg_collatorref01_Num rfl rfl rfl rfl rfl (pt_box (av_os 0 rfl rfl)) (av_os 0 rfl rfl) (ar_tmp (av_rs 2 rfl rfl))⟩,
      .inl ⟨wants_plain rfl, does_move _ (.inr rfl) rfl rfl rfl rfl (ar_tmp (av_rs 13 rfl rfl))⟩,
      trivial⟩ ?_
    refine nx_sub (fs' := [.box 2 72 [Bz (sz false (val 10 (pd s k.1))), Tz (sz false (val 10 (pd s k.1)))], .slot 3 (VP.bool false)]) [22, 23] rfl ?_
    refine nx_then ?_
    refine t_ret ?_
    exact rt_two rfl (res_agg 0 ty_agg_collatorref01_Num rfl) (res_tmp 1 rfl)
  case inr.inr =>
    rcases hdc with hd | hd | hd
    case inl =>
      rw [refW_bad h (isD_lo hd)]
      refine t_seq ?_
      refine t_seq ?_
      refine t_region (F := ⟨_, _, _, _⟩) [.slot 0 (VP.str s), .slot 4 (VP.bool false), .slot 5 (VP.int .i64 0), .orow 6 3 1 k.1 (intsV .i64 (pd s k.1)), .slot 7 (VP.int .i64 (((s.size : Nat) : Int) - 1 - ((k.1 : Nat) : Int))), .box 2 72 [VP.bool false, VP.nilS]] [] [(0, .slot 21 (VP.int .i64 (((s.size : Nat) : Int) - 1 - ((k.1 : Nat) : Int)))), (1, .slot 22 (VP.int .i64 0)), (2, .slot 23 (VP.bool (decide ((((s.size : Nat) : Int) - 1 - ((k.1 : Nat) : Int)) ≥ 0))))] [] [0, 1, 2, 3, 4, 5] [] rfl rfl follow rfl ⟨
        .inl ⟨wants_plain rfl, does_move _ (.inl rfl) rfl rfl rfl rfl (ar_tmp (av_fs 4 rfl))⟩,
        .inl ⟨wants_plain rfl, does_move _ (.inl rfl) rfl rfl rfl rfl (ar_tmp (av_fs 2 rfl))⟩,
        .inl ⟨wants_plain rfl, does_cmp (m := (((s.size : Nat) : Int) - 1 - ((k.1 : Nat) : Int))) (n := 0) _ _ _ _ _ rfl rfl rfl rfl rfl rfl .i64 (ar_tmp (av_rs 0 rfl rfl)) (ar_tmp (av_rs 1 rfl rfl))⟩,
        trivial⟩ ?_
      refine nx_sub (fs' := [.slot 0 (VP.str s), .slot 4 (VP.bool false), .slot 5 (VP.int .i64 0), .orow 6 3 1 k.1 (intsV .i64 (pd s k.1)), .slot 7 (VP.int .i64 (((s.size : Nat) : Int) - 1 - ((k.1 : Nat) : Int))), .box 2 72 [VP.bool false, VP.nilS], .slot 21 (VP.int .i64 (((s.size : Nat) : Int) - 1 - ((k.1 : Nat) : Int))), .slot 22 (VP.int .i64 0), .slot 23 (VP.bool (decide ((((s.size : Nat) : Int) - 1 - ((k.1 : Nat) : Int)) ≥ 0)))]) [0, 1, 2, 3, 4, 5, 6, 7, 8] rfl ?_
      refine nx_then ?_
      refine t_cond_te 8 rfl (decide_eq_true (by omega)) ?_
      refine t_skip ?_
      refine nx_then ?_
      refine t_seq ?_
      refine t_block ?_
      refine t_seq ?_
      refine t_seq ?_
      refine t_region (F := ⟨_, _, _, _⟩) [.slot 0 (VP.str s), .slot 4 (VP.bool false), .slot 5 (VP.int .i64 0), .orow 6 3 1 k.1 (intsV .i64 (pd s k.1)), .slot 7 (VP.int .i64 (((s.size : Nat) : Int) - 1 - ((k.1 : Nat) : Int))), .box 2 72 [VP.bool false, VP.nilS], .slot 21 (VP.int .i64 (((s.size : Nat) : Int) - 1 - ((k.1 : Nat) : Int))), .slot 22 (VP.int .i64 0), .slot 23 (VP.bool (decide ((((s.size : Nat) : Int) - 1 - ((k.1 : Nat) : Int)) ≥ 0)))] [] [(0, .slot 26 (VP.str s)), (1, .slot 27 (VP.int .i64 (((s.size : Nat) : Int) - 1 - ((k.1 : Nat) : Int)))), (2, .slot 28 (VP.int .u8 ((bt s k.1 : Nat) : Int))), (3, .slot 29 (VP.bool (decide (((bt s k.1 : Nat) : Int) < 48)))), (4, .slot 30 (VP.bool (decide (((bt s k.1 : Nat) : Int) < 48)))), (5, .slot 31 (VP.undef)), (6, .slot 32 (VP.undef)), (7, .slot 33 (VP.undef)), (8, .slot 34 (VP.undef)), (9, .slot 35 (VP.bool true))] [] [0, 1, 2, 3, 4, 5, 6, 7, 8] [] rfl rfl follow rfl ⟨
        .inl ⟨wants_plain rfl, does_move _ (.inl rfl) rfl rfl rfl rfl (ar_tmp (av_fs 0 rfl))⟩,
        .inl ⟨wants_plain rfl, does_move _ (.inl rfl) rfl rfl rfl rfl (ar_tmp (av_fs 4 rfl))⟩,
        .inl ⟨wants_plain rfl, does_indexStr (m := (s.size - 1 - k.1)) (n := bt s k.1) _ _ Try.underlying9 rfl rfl rfl rfl rfl (bt_at (by omega)) (ar_tmp (av_rs 0 rfl rfl)) (ar_int_eq (by omega) (ar_tmp (av_rs 1 rfl rfl)))⟩,
        .inl ⟨wants_plain rfl, does_cmp (m := ((bt s k.1 : Nat) : Int)) (n := 48) _ _ _ _ _ rfl rfl rfl rfl rfl rfl .u8 (ar_tmp (av_rs 2 rfl rfl)) (ar_const (fun _ => rfl))⟩,
        .inl ⟨wants_plain rfl, does_move _ (.inl rfl) rfl rfl rfl rfl (ar_tmp (av_rs 3 rfl rfl))⟩,
        .inr (skips_guardU true rfl rfl rfl (av_bool (decide_eq_true (by omega)) (av_rs 4 rfl rfl)) rfl rfl rfl rfl),
        .inr (skips_guardU true rfl rfl rfl (av_bool (decide_eq_true (by omega)) (av_rs 4 rfl rfl)) rfl rfl rfl rfl),
        .inr (skips_guardU true rfl rfl rfl (av_bool (decide_eq_true (by omega)) (av_rs 4 rfl rfl)) rfl rfl rfl rfl),
        .inr (skips_guardU true rfl rfl rfl (av_bool (decide_eq_true (by omega)) (av_rs 4 rfl rfl)) rfl rfl rfl rfl),
        .inl ⟨wants_plain rfl, does_pick true _ _ _ rfl rfl rfl rfl rfl (ar_tmp (av_bool (decide_eq_true (by omega)) (av_rs 4 rfl rfl))) (ar_const (fun _ => rfl))⟩,
        trivial⟩ ?_
      refine nx_sub (fs' := [.slot 0 (VP.str s), .slot 4 (VP.bool false), .slot 5 (VP.int .i64 0), .orow 6 3 1 k.1 (intsV .i64 (pd s k.1)), .slot 7 (VP.int .i64 (((s.size : Nat) : Int) - 1 - ((k.1 : Nat) : Int))), .box 2 72 [VP.bool false, VP.nilS], .slot 21 (VP.int .i64 (((s.size : Nat) : Int) - 1 - ((k.1 : Nat) : Int))), .slot 22 (VP.int .i64 0), .slot 23 (VP.bool (decide ((((s.size : Nat) : Int) - 1 - ((k.1 : Nat) : Int)) ≥ 0))), .slot 26 (VP.str s), .slot 27 (VP.int .i64 (((s.size : Nat) : Int) - 1 - ((k.1 : Nat) : Int))), .slot 28 (VP.int .u8 ((bt s k.1 : Nat) : Int)), .slot 29 (VP.bool (decide (((bt s k.1 : Nat) : Int) < 48))), .slot 30 (VP.bool (decide (((bt s k.1 : Nat) : Int) < 48))), .slot 31 (VP.undef), .slot 32 (VP.undef), .slot 33 (VP.undef), .slot 34 (VP.undef), .slot 35 (VP.bool true)]) [0, 1, 2, 3, 4, 5, 6, 7, 8, 9, 10, 11, 12, 13, 14, 15, 16, 17, 18] rfl ?_
      refine nx_then ?_
      refine t_cond_t 18 rfl ?_
      refine t_seq ?_
      refine t_region (F := ⟨_, _, _, _⟩) [.slot 0 (VP.str s), .slot 4 (VP.bool false), .slot 5 (VP.int .i64 0), .orow 6 3 1 k.1 (intsV .i64 (pd s k.1)), .slot 7 (VP.int .i64 (((s.size : Nat) : Int) - 1 - ((k.1 : Nat) : Int))), .slot 21 (VP.int .i64 (((s.size : Nat) : Int) - 1 - ((k.1 : Nat) : Int))), .slot 22 (VP.int .i64 0), .slot 23 (VP.bool (decide ((((s.size : Nat) : Int) - 1 - ((k.1 : Nat) : Int)) ≥ 0))), .slot 26 (VP.str s), .slot 27 (VP.int .i64 (((s.size : Nat) : Int) - 1 - ((k.1 : Nat) : Int))), .slot 28 (VP.int .u8 ((bt s k.1 : Nat) : Int)), .slot 29 (VP.bool (decide (((bt s k.1 : Nat) : Int) < 48))), .slot 30 (VP.bool (decide (((bt s k.1 : Nat) : Int) < 48))), .slot 31 (VP.undef), .slot 32 (VP.undef), .slot 33 (VP.undef), .slot 34 (VP.undef), .slot 35 (VP.bool true)] [(1, .box 2 72 [VP.bool false, VP.nilS])] [(0, .slot 36 (VP.agg [VP.bool false, VP.nilS])), (1, .box 2 72 [VP.bool false, VP.nilS]), (2, .slot 3 (VP.bool false))] [] [0, 1, 2, 3, 4, 6, 7, 8, 9, 10, 11, 12, 13, 14, 15, 16, 17, 18] [5] rfl rfl follow rfl ⟨
        .inl ⟨wants_plain rfl, does_build [VP.bool false, VP.nilS] ty_zero_collatorref01_Num ty_pl_collatorref01_Num rfl rfl rfl rfl rfl z_nil2 (.nil _)⟩,
        .inl ⟨wants_plain rfl, does_storeAgg 2 _ _ ty_agg_collatorref01_Num rfl rfl rfl rfl rfl (pt_box (av_os 0 rfl rfl)) (av_os 0 rfl rfl) (ar_tmp (av_rs 0 rfl rfl))⟩,
        .inl ⟨wants_plain rfl, does_move _ (.inr rfl) rfl rfl rfl rfl (ar_const (fun _ => rfl))⟩,
        trivial⟩ ?_
      refine nx_sub (fs' := [.slot 0 (VP.str s), .slot 4 (VP.bool false), .slot 5 (VP.int .i64 0), .orow 6 3 1 k.1 (intsV .i64 (pd s k.1)), .slot 7 (VP.int .i64 (((s.size : Nat) : Int) - 1 - ((k.1 : Nat) : Int))), .slot 21 (VP.int .i64 (((s.size : Nat) : Int) - 1 - ((k.1 : Nat) : Int))), .slot 22 (VP.int .i64 0), .slot 23 (VP.bool (decide ((((s.size : Nat) : Int) - 1 - ((k.1 : Nat) : Int)) ≥ 0))), .slot 26 (VP.str s), .slot 27 (VP.int .i64 (((s.size : Nat) : Int) - 1 - ((k.1 : Nat) : Int))), .slot 28 (VP.int .u8 ((bt s k.1 : Nat) : Int)), .slot 29 (VP.bool (decide (((bt s k.1 : Nat) : Int) < 48))), .slot 30 (VP.bool (decide (((bt s k.1 : Nat) : Int) < 48))), .slot 31 (VP.undef), .slot 32 (VP.undef), .slot 33 (VP.undef), .slot 34 (VP.undef), .slot 35 (VP.bool true), .slot 36 (VP.agg [VP.bool false, VP.nilS]), .box 2 72 [VP.bool false, VP.nilS], .slot 3 (VP.bool false)]) [0, 1, 2, 3, 4, 5, 6, 7, 8, 9, 10, 11, 12, 13, 14, 15, 16, 17, 18, 19, 20] rfl ?_
      refine nx_then ?_
      refine t_ret ?_
      refine rt_then ?_
      refine rt_block ?_
      refine rt_then ?_
      refine rt_then ?_
      refine rt_block ?_
      refine rt_then ?_
      exact rt_two rfl (res_agg 19 ty_agg_collatorref01_Num rfl) (res_tmp 20 rfl)
    case inr.inl =>
      rw [refW_bad h (isD_hi hd.2)]
      refine t_seq ?_
      refine t_seq ?_
      refine t_region (F := ⟨_, _, _, _⟩) [.slot 0 (VP.str s), .slot 4 (VP.bool false), .slot 5 (VP.int .i64 0), .orow 6 3 1 k.1 (intsV .i64 (pd s k.1)), .slot 7 (VP.int .i64 (((s.size : Nat) : Int) - 1 - ((k.1 : Nat) : Int))), .box 2 72 [VP.bool false, VP.nilS]] [] [(0, .slot 21 (VP.int .i64 (((s.size : Nat) : Int) - 1 - ((k.1 : Nat) : Int)))), (1, .slot 22 (VP.int .i64 0)), (2, .slot 23 (VP.bool (decide ((((s.size : Nat) : Int) - 1 - ((k.1 : Nat) : Int)) ≥ 0))))] [] [0, 1, 2, 3, 4, 5] [] rfl rfl follow rfl ⟨
        .inl ⟨wants_plain rfl, does_move _ (.inl rfl) rfl rfl rfl rfl (ar_tmp (av_fs 4 rfl))⟩,
        .inl ⟨wants_plain rfl, does_move _ (.inl rfl) rfl rfl rfl rfl (ar_tmp (av_fs 2 rfl))⟩,
        .inl ⟨wants_plain rfl, does_cmp (m := (((s.size : Nat) : Int) - 1 - ((k.1 : Nat) : Int))) (n := 0) _ _ _ _ _ rfl rfl rfl rfl rfl rfl .i64 (ar_tmp (av_rs 0 rfl rfl)) (ar_tmp (av_rs 1 rfl rfl))⟩,
        trivial⟩ ?_
      refine nx_sub (fs' := [.slot 0 (VP.str s), .slot 4 (VP.bool false), .slot 5 (VP.int .i64 0), .orow 6 3 1 k.1 (intsV .i64 (pd s k.1)), .slot 7 (VP.int .i64 (((s.size : Nat) : Int) - 1 - ((k.1 : Nat) : Int))), .box 2 72 [VP.bool false, VP.nilS], .slot 21 (VP.int .i64 (((s.size : Nat) : Int) - 1 - ((k.1 : Nat) : Int))), .slot 22 (VP.int .i64 0), .slot 23 (VP.bool (decide ((((s.size : Nat) : Int) - 1 - ((k.1 : Nat) : Int)) ≥ 0)))]) [0, 1, 2, 3, 4, 5, 6, 7, 8] rfl ?_
      refine nx_then ?_
      refine t_cond_te 8 rfl (decide_eq_true (by omega)) ?_
      refine t_skip ?_
      refine nx_then ?_
      refine t_seq ?_
      refine t_block ?_
      refine t_seq ?_
      refine t_seq ?_
      refine t_region (F := ⟨_, _, _, _⟩) [.slot 0 (VP.str s), .slot 4 (VP.bool false), .slot 5 (VP.int .i64 0), .orow 6 3 1 k.1 (intsV .i64 (pd s k.1)), .slot 7 (VP.int .i64 (((s.size : Nat) : Int) - 1 - ((k.1 : Nat) : Int))), .box 2 72 [VP.bool false, VP.nilS], .slot 21 (VP.int .i64 (((s.size : Nat) : Int) - 1 - ((k.1 : Nat) : Int))), .slot 22 (VP.int .i64 0), .slot 23 (VP.bool (decide ((((s.size : Nat) : Int) - 1 - ((k.1 : Nat) : Int)) ≥ 0)))] [] [(0, .slot 26 (VP.str s)), (1, .slot 27 (VP.int .i64 (((s.size : Nat) : Int) - 1 - ((k.1 : Nat) : Int)))), (2, .slot 28 (VP.int .u8 ((bt s k.1 : Nat) : Int))), (3, .slot 29 (VP.bool (decide (((bt s k.1 : Nat) : Int) < 48)))), (4, .slot 30 (VP.bool (decide (((bt s k.1 : Nat) : Int) < 48)))), (5, .slot 31 (VP.str s)), (6, .slot 32 (VP.int .i64 (((s.size : Nat) : Int) - 1 - ((k.1 : Nat) : Int)))), (7, .slot 33 (VP.int .u8 ((bt s k.1 : Nat) : Int))), (8, .slot 34 (VP.bool (decide (((bt s k.1 : Nat) : Int) > 57)))), (9, .slot 35 (VP.bool (decide (((bt s k.1 : Nat) : Int) > 57))))] [] [0, 1, 2, 3, 4, 5, 6, 7, 8] [] rfl rfl follow rfl ⟨
        .inl ⟨wants_plain rfl, does_move _ (.inl rfl) rfl rfl rfl rfl (ar_tmp (av_fs 0 rfl))⟩,
        .inl ⟨wants_plain rfl, does_move _ (.inl rfl) rfl rfl rfl rfl (ar_tmp (av_fs 4 rfl))⟩,
        .inl ⟨wants_plain rfl, does_indexStr (m := (s.size - 1 - k.1)) (n := bt s k.1) _ _ Try.underlying9 rfl rfl rfl rfl rfl (bt_at (by omega)) (ar_tmp (av_rs 0 rfl rfl)) (ar_int_eq (by omega) (ar_tmp (av_rs 1 rfl rfl)))⟩,
        .inl ⟨wants_plain rfl, does_cmp (m := ((bt s k.1 : Nat) : Int)) (n := 48) _ _ _ _ _ rfl rfl rfl rfl rfl rfl .u8 (ar_tmp (av_rs 2 rfl rfl)) (ar_const (fun _ => rfl))⟩,
        .inl ⟨wants_plain rfl, does_move _ (.inl rfl) rfl rfl rfl rfl (ar_tmp (av_rs 3 rfl rfl))⟩,
        .inl ⟨wants_guard false rfl rfl rfl (av_bool (decide_eq_false (by omega)) (av_rs 4 rfl rfl)), does_move _ (.inl rfl) rfl rfl rfl rfl (ar_tmp (av_fs 0 rfl))⟩,
        .inl ⟨wants_guard false rfl rfl rfl (av_bool (decide_eq_false (by omega)) (av_rs 4 rfl rfl)), does_move _ (.inl rfl) rfl rfl rfl rfl (ar_tmp (av_fs 4 rfl))⟩,
        .inl ⟨wants_guard false rfl rfl rfl (av_bool (decide_eq_false (by omega)) (av_rs 4 rfl rfl)), does_indexStr (m := (s.size - 1 - k.1)) (n := bt s k.1) _ _ Try.underlying9 rfl rfl rfl rfl rfl (bt_at (by omega)) (ar_tmp (av_rs 5 rfl rfl)) (ar_int_eq (by omega) (ar_tmp (av_rs 6 rfl rfl)))⟩,
        .inl ⟨wants_guard false rfl rfl rfl (av_bool (decide_eq_false (by omega)) (av_rs 4 rfl rfl)), does_cmp (m := ((bt s k.1 : Nat) : Int)) (n := 57) _ _ _ _ _ rfl rfl rfl rfl rfl rfl .u8 (ar_tmp (av_rs 7 rfl rfl)) (ar_const (fun _ => rfl))⟩,
        .inl ⟨wants_plain rfl, does_pick false _ _ _ rfl rfl rfl rfl rfl (ar_tmp (av_bool (decide_eq_false (by omega)) (av_rs 4 rfl rfl))) (ar_tmp (av_rs 8 rfl rfl))⟩,
        trivial⟩ ?_
      refine nx_sub (fs' := [.slot 0 (VP.str s), .slot 4 (VP.bool false), .slot 5 (VP.int .i64 0), .orow 6 3 1 k.1 (intsV .i64 (pd s k.1)), .slot 7 (VP.int .i64 (((s.size : Nat) : Int) - 1 - ((k.1 : Nat) : Int))), .box 2 72 [VP.bool false, VP.nilS], .slot 21 (VP.int .i64 (((s.size : Nat) : Int) - 1 - ((k.1 : Nat) : Int))), .slot 22 (VP.int .i64 0), .slot 23 (VP.bool (decide ((((s.size : Nat) : Int) - 1 - ((k.1 : Nat) : Int)) ≥ 0))), .slot 26 (VP.str s), .slot 27 (VP.int .i64 (((s.size : Nat) : Int) - 1 - ((k.1 : Nat) : Int))), .slot 28 (VP.int .u8 ((bt s k.1 : Nat) : Int)), .slot 29 (VP.bool (decide (((bt s k.1 : Nat) : Int) < 48))), .slot 30 (VP.bool (decide (((bt s k.1 : Nat) : Int) < 48))), .slot 31 (VP.str s), .slot 32 (VP.int .i64 (((s.size : Nat) : Int) - 1 - ((k.1 : Nat) : Int))), .slot 33 (VP.int .u8 ((bt s k.1 : Nat) : Int)), .slot 34 (VP.bool (decide (((bt s k.1 : Nat) : Int) > 57))), .slot 35 (VP.bool (decide (((bt s k.1 : Nat) : Int) > 57)))]) [0, 1, 2, 3, 4, 5, 6, 7, 8, 9, 10, 11, 12, 13, 14, 15, 16, 17, 18] rfl ?_
      refine nx_then ?_
      refine t_cond_te 18 rfl (decide_eq_true (by omega)) ?_
      refine t_seq ?_
      refine t_region (F := ⟨_, _, _, _⟩) [.slot 0 (VP.str s), .slot 4 (VP.bool false), .slot 5 (VP.int .i64 0), .orow 6 3 1 k.1 (intsV .i64 (pd s k.1)), .slot 7 (VP.int .i64 (((s.size : Nat) : Int) - 1 - ((k.1 : Nat) : Int))), .slot 21 (VP.int .i64 (((s.size : Nat) : Int) - 1 - ((k.1 : Nat) : Int))), .slot 22 (VP.int .i64 0), .slot 23 (VP.bool (decide ((((s.size : Nat) : Int) - 1 - ((k.1 : Nat) : Int)) ≥ 0))), .slot 26 (VP.str s), .slot 27 (VP.int .i64 (((s.size : Nat) : Int) - 1 - ((k.1 : Nat) : Int))), .slot 28 (VP.int .u8 ((bt s k.1 : Nat) : Int)), .slot 29 (VP.bool (decide (((bt s k.1 : Nat) : Int) < 48))), .slot 30 (VP.bool (decide (((bt s k.1 : Nat) : Int) < 48))), .slot 31 (VP.str s), .slot 32 (VP.int .i64 (((s.size : Nat) : Int) - 1 - ((k.1 : Nat) : Int))), .slot 33 (VP.int .u8 ((bt s k.1 : Nat) : Int)), .slot 34 (VP.bool (decide (((bt s k.1 : Nat) : Int) > 57))), .slot 35 (VP.bool (decide (((bt s k.1 : Nat) : Int) > 57)))] [(1, .box 2 72 [VP.bool false, VP.nilS])] [(0, .slot 36 (VP.agg [VP.bool false, VP.nilS])), (1, .box 2 72 [VP.bool false, VP.nilS]), (2, .slot 3 (VP.bool false))] [] [0, 1, 2, 3, 4, 6, 7, 8, 9, 10, 11, 12, 13, 14, 15, 16, 17, 18] [5] rfl rfl follow rfl ⟨
        .inl ⟨wants_plain rfl, does_build [VP.bool false, VP.nilS] ty_zero_collatorref01_Num ty_pl_collatorref01_Num rfl rfl rfl rfl rfl z_nil2 (.nil _)⟩,
        .inl ⟨wants_plain rfl, does_storeAgg 2 _ _ ty_agg_collatorref01_Num rfl rfl rfl rfl rfl (pt_box (av_os 0 rfl rfl)) (av_os 0 rfl rfl) (ar_tmp (av_rs 0 rfl rfl))⟩,
        .inl ⟨wants_plain rfl, does_move _ (.inr rfl) rfl rfl rfl rfl (ar_const (fun _ => rfl))⟩,
        trivial⟩ ?_
      refine nx_sub (fs' := [.slot 0 (VP.str s), .slot 4 (VP.bool false), .slot 5 (VP.int .i64 0), .orow 6 3 1 k.1 (intsV .i64 (pd s k.1)), .slot 7 (VP.int .i64 (((s.size : Nat) : Int) - 1 - ((k.1 : Nat) : Int))), .slot 21 (VP.int .i64 (((s.size : Nat) : Int) - 1 - ((k.1 : Nat) : Int))), .slot 22 (VP.int .i64 0), .slot 23 (VP.bool (decide ((((s.size : Nat) : Int) - 1 - ((k.1 : Nat) : Int)) ≥ 0))), .slot 26 (VP.str s), .slot 27 (VP.int .i64 (((s.size : Nat) : Int) - 1 - ((k.1 : Nat) : Int))), .slot 28 (VP.int .u8 ((bt s k.1 : Nat) : Int)), .slot 29 (VP.bool (decide (((bt s k.1 : Nat) : Int) < 48))), .slot 30 (VP.bool (decide (((bt s k.1 : Nat) : Int) < 48))), .slot 31 (VP.str s), .slot 32 (VP.int .i64 (((s.size : Nat) : Int) - 1 - ((k.1 : Nat) : Int))), .slot 33 (VP.int .u8 ((bt s k.1 : Nat) : Int)), .slot 34 (VP.bool (decide (((bt s k.1 : Nat) : Int) > 57))), .slot 35 (VP.bool (decide (((bt s k.1 : Nat) : Int) > 57))), .slot 36 (VP.agg [VP.bool false, VP.nilS]), .box 2 72 [VP.bool false, VP.nilS], .slot 3 (VP.bool false)]) [0, 1, 2, 3, 4, 5, 6, 7, 8, 9, 10, 11, 12, 13, 14, 15, 16, 17, 18, 19, 20] rfl ?_
      refine nx_then ?_
      refine t_ret ?_
      refine rt_then ?_
      refine rt_block ?_
      refine rt_then ?_
      refine rt_then ?_
      refine rt_block ?_
      refine rt_then ?_
      exact rt_two rfl (res_agg 19 ty_agg_collatorref01_Num rfl) (res_tmp 20 rfl)
    case inr.inr =>
      refine t_seq ?_
      refine t_seq ?_
      refine t_region (F := ⟨_, _, _, _⟩) [.slot 0 (VP.str s), .slot 4 (VP.bool false), .slot 5 (VP.int .i64 0), .orow 6 3 1 k.1 (intsV .i64 (pd s k.1)), .slot 7 (VP.int .i64 (((s.size : Nat) : Int) - 1 - ((k.1 : Nat) : Int))), .box 2 72 [VP.bool false, VP.nilS]] [] [(0, .slot 21 (VP.int .i64 (((s.size : Nat) : Int) - 1 - ((k.1 : Nat) : Int)))), (1, .slot 22 (VP.int .i64 0)), (2, .slot 23 (VP.bool (decide ((((s.size : Nat) : Int) - 1 - ((k.1 : Nat) : Int)) ≥ 0))))] [] [0, 1, 2, 3, 4, 5] [] rfl rfl follow rfl ⟨
        .inl ⟨wants_plain rfl, does_move _ (.inl rfl) rfl rfl rfl rfl (ar_tmp (av_fs 4 rfl))⟩,
        .inl ⟨wants_plain rfl, does_move _ (.inl rfl) rfl rfl rfl rfl (ar_tmp (av_fs 2 rfl))⟩,
        .inl ⟨wants_plain rfl, does_cmp (m := (((s.size : Nat) : Int) - 1 - ((k.1 : Nat) : Int))) (n := 0) _ _ _ _ _ rfl rfl rfl rfl rfl rfl .i64 (ar_tmp (av_rs 0 rfl rfl)) (ar_tmp (av_rs 1 rfl rfl))⟩,
        trivial⟩ ?_
      refine nx_sub (fs' := [.slot 0 (VP.str s), .slot 4 (VP.bool false), .slot 5 (VP.int .i64 0), .orow 6 3 1 k.1 (intsV .i64 (pd s k.1)), .slot 7 (VP.int .i64 (((s.size : Nat) : Int) - 1 - ((k.1 : Nat) : Int))), .box 2 72 [VP.bool false, VP.nilS], .slot 21 (VP.int .i64 (((s.size : Nat) : Int) - 1 - ((k.1 : Nat) : Int))), .slot 22 (VP.int .i64 0), .slot 23 (VP.bool (decide ((((s.size : Nat) : Int) - 1 - ((k.1 : Nat) : Int)) ≥ 0)))]) [0, 1, 2, 3, 4, 5, 6, 7, 8] rfl ?_
      refine nx_then ?_
      refine t_cond_te 8 rfl (decide_eq_true (by omega)) ?_
      refine t_skip ?_
      refine nx_then ?_
      refine t_seq ?_
      refine t_block ?_
      refine t_seq ?_
      refine t_seq ?_
      refine t_region (F := ⟨_, _, _, _⟩) [.slot 0 (VP.str s), .slot 4 (VP.bool false), .slot 5 (VP.int .i64 0), .orow 6 3 1 k.1 (intsV .i64 (pd s k.1)), .slot 7 (VP.int .i64 (((s.size : Nat) : Int) - 1 - ((k.1 : Nat) : Int))), .box 2 72 [VP.bool false, VP.nilS], .slot 21 (VP.int .i64 (((s.size : Nat) : Int) - 1 - ((k.1 : Nat) : Int))), .slot 22 (VP.int .i64 0), .slot 23 (VP.bool (decide ((((s.size : Nat) : Int) - 1 - ((k.1 : Nat) : Int)) ≥ 0)))] [] [(0, .slot 26 (VP.str s)), (1, .slot 27 (VP.int .i64 (((s.size : Nat) : Int) - 1 - ((k.1 : Nat) : Int)))), (2, .slot 28 (VP.int .u8 ((bt s k.1 : Nat) : Int))), (3, .slot 29 (VP.bool (decide (((bt s k.1 : Nat) : Int) < 48)))), (4, .slot 30 (VP.bool (decide (((bt s k.1 : Nat) : Int) < 48)))), (5, .slot 31 (VP.str s)), (6, .slot 32 (VP.int .i64 (((s.size : Nat) : Int) - 1 - ((k.1 : Nat) : Int)))), (7, .slot 33 (VP.int .u8 ((bt s k.1 : Nat) : Int))), (8, .slot 34 (VP.bool (decide (((bt s k.1 : Nat) : Int) > 57)))), (9, .slot 35 (VP.bool (decide (((bt s k.1 : Nat) : Int) > 57))))] [] [0, 1, 2, 3, 4, 5, 6, 7, 8] [] rfl rfl follow rfl ⟨
        .inl ⟨wants_plain rfl, does_move _ (.inl rfl) rfl rfl rfl rfl (ar_tmp (av_fs 0 rfl))⟩,
        .inl ⟨wants_plain rfl, does_move _ (.inl rfl) rfl rfl rfl rfl (ar_tmp (av_fs 4 rfl))⟩,
        .inl ⟨wants_plain rfl, does_indexStr (m := (s.size - 1 - k.1)) (n := bt s k.1) _ _ Try.underlying9 rfl rfl rfl rfl rfl (bt_at (by omega)) (ar_tmp (av_rs 0 rfl rfl)) (ar_int_eq (by omega) (ar_tmp (av_rs 1 rfl rfl)))⟩,
        .inl ⟨wants_plain rfl, does_cmp (m := ((bt s k.1 : Nat) : Int)) (n := 48) _ _ _ _ _ rfl rfl rfl rfl rfl rfl .u8 (ar_tmp (av_rs 2 rfl rfl)) (ar_const (fun _ => rfl))⟩,
        .inl ⟨wants_plain rfl, does_move _ (.inl rfl) rfl rfl rfl rfl (ar_tmp (av_rs 3 rfl rfl))⟩,
        .inl ⟨wants_guard false rfl rfl rfl (av_bool (decide_eq_false (by omega)) (av_rs 4 rfl rfl)), does_move _ (.inl rfl) rfl rfl rfl rfl (ar_tmp (av_fs 0 rfl))⟩,
        .inl ⟨wants_guard false rfl rfl rfl (av_bool (decide_eq_false (by omega)) (av_rs 4 rfl rfl)), does_move _ (.inl rfl) rfl rfl rfl rfl (ar_tmp (av_fs 4 rfl))⟩,
        .inl ⟨wants_guard false rfl rfl rfl (av_bool (decide_eq_false (by omega)) (av_rs 4 rfl rfl)), does_indexStr (m := (s.size - 1 - k.1)) (n := bt s k.1) _ _ Try.underlying9 rfl rfl rfl rfl rfl (bt_at (by omega)) (ar_tmp (av_rs 5 rfl rfl)) (ar_int_eq (by omega) (ar_tmp (av_rs 6 rfl rfl)))⟩,
        .inl ⟨wants_guard false rfl rfl rfl (av_bool (decide_eq_false (by omega)) (av_rs 4 rfl rfl)), does_cmp (m := ((bt s k.1 : Nat) : Int)) (n := 57) _ _ _ _ _ rfl rfl rfl rfl rfl rfl .u8 (ar_tmp (av_rs 7 rfl rfl)) (ar_const (fun _ => rfl))⟩,
        .inl ⟨wants_plain rfl, does_pick false _ _ _ rfl rfl rfl rfl rfl (ar_tmp (av_bool (decide_eq_false (by omega)) (av_rs 4 rfl rfl))) (ar_tmp (av_rs 8 rfl rfl))⟩,
        trivial⟩ ?_
      refine nx_sub (fs' := [.slot 0 (VP.str s), .slot 4 (VP.bool false), .slot 5 (VP.int .i64 0), .orow 6 3 1 k.1 (intsV .i64 (pd s k.1)), .slot 7 (VP.int .i64 (((s.size : Nat) : Int) - 1 - ((k.1 : Nat) : Int))), .box 2 72 [VP.bool false, VP.nilS], .slot 21 (VP.int .i64 (((s.size : Nat) : Int) - 1 - ((k.1 : Nat) : Int))), .slot 22 (VP.int .i64 0), .slot 23 (VP.bool (decide ((((s.size : Nat) : Int) - 1 - ((k.1 : Nat) : Int)) ≥ 0))), .slot 26 (VP.str s), .slot 27 (VP.int .i64 (((s.size : Nat) : Int) - 1 - ((k.1 : Nat) : Int))), .slot 28 (VP.int .u8 ((bt s k.1 : Nat) : Int)), .slot 29 (VP.bool (decide (((bt s k.1 : Nat) : Int) < 48))), .slot 30 (VP.bool (decide (((bt s k.1 : Nat) : Int) < 48))), .slot 31 (VP.str s), .slot 32 (VP.int .i64 (((s.size : Nat) : Int) - 1 - ((k.1 : Nat) : Int))), .slot 33 (VP.int .u8 ((bt s k.1 : Nat) : Int)), .slot 34 (VP.bool (decide (((bt s k.1 : Nat) : Int) > 57))), .slot 35 (VP.bool (decide (((bt s k.1 : Nat) : Int) > 57)))]) [0, 1, 2, 3, 4, 5, 6, 7, 8, 9, 10, 11, 12, 13, 14, 15, 16, 17, 18] rfl ?_
      refine nx_then ?_
      refine t_cond_fe 18 rfl (decide_eq_false (by omega)) ?_
      refine t_skip ?_
      refine nx_then ?_
      refine t_region (F := ⟨_, _, _, _⟩) [.slot 0 (VP.str s), .slot 4 (VP.bool false), .slot 5 (VP.int .i64 0), .slot 7 (VP.int .i64 (((s.size : Nat) : Int) - 1 - ((k.1 : Nat) : Int))), .box 2 72 [VP.bool false, VP.nilS], .slot 21 (VP.int .i64 (((s.size : Nat) : Int) - 1 - ((k.1 : Nat) : Int))), .slot 22 (VP.int .i64 0), .slot 23 (VP.bool (decide ((((s.size : Nat) : Int) - 1 - ((k.1 : Nat) : Int)) ≥ 0))), .slot 26 (VP.str s), .slot 27 (VP.int .i64 (((s.size : Nat) : Int) - 1 - ((k.1 : Nat) : Int))), .slot 28 (VP.int .u8 ((bt s k.1 : Nat) : Int)), .slot 29 (VP.bool (decide (((bt s k.1 : Nat) : Int) < 48))), .slot 30 (VP.bool (decide (((bt s k.1 : Nat) : Int) < 48))), .slot 31 (VP.str s), .slot 32 (VP.int .i64 (((s.size : Nat) : Int) - 1 - ((k.1 : Nat) : Int))), .slot 33 (VP.int .u8 ((bt s k.1 : Nat) : Int)), .slot 34 (VP.bool (decide (((bt s k.1 : Nat) : Int) > 57))), .slot 35 (VP.bool (decide (((bt s k.1 : Nat) : Int) > 57)))] [(7, .orow 6 3 1 k.1 (intsV .i64 (pd s k.1)))] [(1, .slot 38 (VP.str s)), (2, .slot 39 (VP.int .i64 (((s.size : Nat) : Int) - 1 - ((k.1 : Nat) : Int)))), (3, .slot 40 (VP.int .u8 ((bt s k.1 : Nat) : Int))), (4, .slot 41 (VP.int .i64 ((bt s k.1 : Nat) : Int))), (5, .slot 42 (VP.int .i64 ((dgt (bt s k.1) : Nat) : Int))), (7, .orow 44 3 1 (k.1 + 1) (intsV .i64 (pd s (k.1 + 1)))), (8, .orow 6 3 1 (k.1 + 1) (intsV .i64 (pd s (k.1 + 1))))] [(0, 7, .orow 37 3 1 k.1 (intsV .i64 (pd s k.1))), (6, 7, .arr 43 3 1 [VP.int .i64 ((dgt (bt s k.1) : Nat) : Int)])] [0, 1, 2, 4, 5, 6, 7, 8, 9, 10, 11, 12, 13, 14, 15, 16, 17, 18] [3] rfl rfl follow rfl ⟨
        .inl ⟨wants_plain rfl, does_moveRow _ (.inl rfl) rfl rfl rfl rfl rfl (av_os 0 rfl rfl)⟩,
        .inl ⟨wants_plain rfl, does_move _ (.inl rfl) rfl rfl rfl rfl (ar_tmp (av_fs 0 rfl))⟩,
        .inl ⟨wants_plain rfl, does_move _ (.inl rfl) rfl rfl rfl rfl (ar_tmp (av_fs 3 rfl))⟩,
        .inl ⟨wants_plain rfl, does_indexStr (m := (s.size - 1 - k.1)) (n := bt s k.1) _ _ Try.underlying9 rfl rfl rfl rfl rfl (bt_at (by omega)) (ar_tmp (av_rs 0 rfl rfl)) (ar_int_eq (by omega) (ar_tmp (av_rs 1 rfl rfl)))⟩,
        .inl ⟨wants_plain rfl, does_conv (n := ((bt s k.1 : Nat) : Int)) _ Try.underlying5 Try.underlying3 rfl rfl rfl rfl rfl (IntWalk.i64_in _ (by omega)) (ar_tmp (av_rs 2 rfl rfl))⟩,
        .inl ⟨wants_plain rfl, does_subE (m := ((bt s k.1 : Nat) : Int)) (n := 48) (x := ((dgt (bt s k.1) : Nat) : Int)) (by omega) _ _ _ _ rfl rfl rfl rfl rfl (by omega) (ar_tmp (av_rs 3 rfl rfl)) (ar_const (fun _ => rfl))⟩,
        .inl ⟨wants_plain rfl, does_buildSlice (sz := 1) [VP.int .i64 0] ty_zero_int (by kernel_rfl) (fun w => run_sizeOne ty_one_int w) rfl rfl rfl rfl rfl rfl (by kernel_rfl) (fun w => by exact z_i64 w) (.cons 0 [VP.int .i64 ((dgt (bt s k.1) : Nat) : Int)] rfl rfl (ar_cells_one rfl (ar_tmp (av_rs 4 rfl rfl))) (.nil _))⟩,
        .inl ⟨wants_plain rfl, does_append (n := k.1) (m := 1) elemI64 _ _ rfl rfl rfl rfl rfl rfl rfl (pd_snoc (by omega)) rfl (intsV_ab _ _) ⟨by omega, by decide⟩ (av_ms 0 rfl rfl rfl) (av_ms 1 rfl rfl rfl)⟩,
        .inl ⟨wants_plain rfl, does_moveRow _ (.inr rfl) rfl rfl rfl rfl rfl (av_rs 5 rfl rfl)⟩,
        trivial⟩ ?_
      refine nx_sub (fs' := [.slot 0 (VP.str s), .slot 4 (VP.bool false), .slot 5 (VP.int .i64 0), .slot 7 (VP.int .i64 (((s.size : Nat) : Int) - 1 - ((k.1 : Nat) : Int))), .box 2 72 [VP.bool false, VP.nilS], .slot 21 (VP.int .i64 (((s.size : Nat) : Int) - 1 - ((k.1 : Nat) : Int))), .slot 22 (VP.int .i64 0), .slot 23 (VP.bool (decide ((((s.size : Nat) : Int) - 1 - ((k.1 : Nat) : Int)) ≥ 0))), .slot 26 (VP.str s), .slot 27 (VP.int .i64 (((s.size : Nat) : Int) - 1 - ((k.1 : Nat) : Int))), .slot 28 (VP.int .u8 ((bt s k.1 : Nat) : Int)), .slot 29 (VP.bool (decide (((bt s k.1 : Nat) : Int) < 48))), .slot 30 (VP.bool (decide (((bt s k.1 : Nat) : Int) < 48))), .slot 31 (VP.str s), .slot 32 (VP.int .i64 (((s.size : Nat) : Int) - 1 - ((k.1 : Nat) : Int))), .slot 33 (VP.int .u8 ((bt s k.1 : Nat) : Int)), .slot 34 (VP.bool (decide (((bt s k.1 : Nat) : Int) > 57))), .slot 35 (VP.bool (decide (((bt s k.1 : Nat) : Int) > 57))), .slot 38 (VP.str s), .slot 39 (VP.int .i64 (((s.size : Nat) : Int) - 1 - ((k.1 : Nat) : Int))), .slot 40 (VP.int .u8 ((bt s k.1 : Nat) : Int)), .slot 41 (VP.int .i64 ((bt s k.1 : Nat) : Int)), .slot 42 (VP.int .i64 ((dgt (bt s k.1) : Nat) : Int)), .orow 44 3 1 (k.1 + 1) (intsV .i64 (pd s (k.1 + 1))), .orow 6 3 1 (k.1 + 1) (intsV .i64 (pd s (k.1 + 1)))]) [0, 1, 2, 3, 4, 5, 6, 7, 8, 9, 10, 11, 12, 13, 14, 15, 16, 17, 18, 19, 20, 21, 22, 23, 24] rfl ?_
      refine nx_block ?_
      refine nx_then ?_
      refine t_region (F := ⟨_, _, _, _⟩) [.slot 0 (VP.str s), .slot 4 (VP.bool false), .slot 5 (VP.int .i64 0), .box 2 72 [VP.bool false, VP.nilS], .slot 21 (VP.int .i64 (((s.size : Nat) : Int) - 1 - ((k.1 : Nat) : Int))), .slot 22 (VP.int .i64 0), .slot 23 (VP.bool (decide ((((s.size : Nat) : Int) - 1 - ((k.1 : Nat) : Int)) ≥ 0))), .slot 26 (VP.str s), .slot 27 (VP.int .i64 (((s.size : Nat) : Int) - 1 - ((k.1 : Nat) : Int))), .slot 28 (VP.int .u8 ((bt s k.1 : Nat) : Int)), .slot 29 (VP.bool (decide (((bt s k.1 : Nat) : Int) < 48))), .slot 30 (VP.bool (decide (((bt s k.1 : Nat) : Int) < 48))), .slot 31 (VP.str s), .slot 32 (VP.int .i64 (((s.size : Nat) : Int) - 1 - ((k.1 : Nat) : Int))), .slot 33 (VP.int .u8 ((bt s k.1 : Nat) : Int)), .slot 34 (VP.bool (decide (((bt s k.1 : Nat) : Int) > 57))), .slot 35 (VP.bool (decide (((bt s k.1 : Nat) : Int) > 57))), .slot 38 (VP.str s), .slot 39 (VP.int .i64 (((s.size : Nat) : Int) - 1 - ((k.1 : Nat) : Int))), .slot 40 (VP.int .u8 ((bt s k.1 : Nat) : Int)), .slot 41 (VP.int .i64 ((bt s k.1 : Nat) : Int)), .slot 42 (VP.int .i64 ((dgt (bt s k.1) : Nat) : Int)), .orow 44 3 1 (k.1 + 1) (intsV .i64 (pd s (k.1 + 1))), .orow 6 3 1 (k.1 + 1) (intsV .i64 (pd s (k.1 + 1)))] [(2, .slot 7 (VP.int .i64 (((s.size : Nat) : Int) - 1 - ((k.1 : Nat) : Int))))] [(0, .slot 24 (VP.int .i64 (((s.size : Nat) : Int) - 1 - ((k.1 : Nat) : Int)))), (1, .slot 25 (VP.int .i64 (((s.size : Nat) : Int) - 1 - (((k.1 + 1) : Nat) : Int)))), (2, .slot 7 (VP.int .i64 (((s.size : Nat) : Int) - 1 - (((k.1 + 1) : Nat) : Int))))] [] [0, 1, 2, 4, 5, 6, 7, 8, 9, 10, 11, 12, 13, 14, 15, 16, 17, 18, 19, 20, 21, 22, 23, 24] [3] rfl rfl follow rfl ⟨
        .inl ⟨wants_plain rfl, does_move _ (.inl rfl) rfl rfl rfl rfl (ar_tmp (av_os 0 rfl rfl))⟩,
        .inl ⟨wants_plain rfl, does_subE (m := (((s.size : Nat) : Int) - 1 - ((k.1 : Nat) : Int))) (n := 1) (x := (((s.size : Nat) : Int) - 1 - (((k.1 + 1) : Nat) : Int))) (by omega) _ _ _ _ rfl rfl rfl rfl rfl (by omega) (ar_tmp (av_rs 0 rfl rfl)) (ar_const (fun _ => rfl))⟩,
        .inl ⟨wants_plain rfl, does_move _ (.inr rfl) rfl rfl rfl rfl (ar_tmp (av_rs 1 rfl rfl))⟩,
        trivial⟩ ?_
      refine nx_sub (fs' := [.slot 0 (VP.str s), .slot 4 (VP.bool false), .slot 5 (VP.int .i64 0), .box 2 72 [VP.bool false, VP.nilS], .slot 21 (VP.int .i64 (((s.size : Nat) : Int) - 1 - ((k.1 : Nat) : Int))), .slot 22 (VP.int .i64 0), .slot 23 (VP.bool (decide ((((s.size : Nat) : Int) - 1 - ((k.1 : Nat) : Int)) ≥ 0))), .slot 26 (VP.str s), .slot 27 (VP.int .i64 (((s.size : Nat) : Int) - 1 - ((k.1 : Nat) : Int))), .slot 28 (VP.int .u8 ((bt s k.1 : Nat) : Int)), .slot 29 (VP.bool (decide (((bt s k.1 : Nat) : Int) < 48))), .slot 30 (VP.bool (decide (((bt s k.1 : Nat) : Int) < 48))), .slot 31 (VP.str s), .slot 32 (VP.int .i64 (((s.size : Nat) : Int) - 1 - ((k.1 : Nat) : Int))), .slot 33 (VP.int .u8 ((bt s k.1 : Nat) : Int)), .slot 34 (VP.bool (decide (((bt s k.1 : Nat) : Int) > 57))), .slot 35 (VP.bool (decide (((bt s k.1 : Nat) : Int) > 57))), .slot 38 (VP.str s), .slot 39 (VP.int .i64 (((s.size : Nat) : Int) - 1 - ((k.1 : Nat) : Int))), .slot 40 (VP.int .u8 ((bt s k.1 : Nat) : Int)), .slot 41 (VP.int .i64 ((bt s k.1 : Nat) : Int)), .slot 42 (VP.int .i64 ((dgt (bt s k.1) : Nat) : Int)), .orow 44 3 1 (k.1 + 1) (intsV .i64 (pd s (k.1 + 1))), .orow 6 3 1 (k.1 + 1) (intsV .i64 (pd s (k.1 + 1))), .slot 24 (VP.int .i64 (((s.size : Nat) : Int) - 1 - ((k.1 : Nat) : Int))), .slot 25 (VP.int .i64 (((s.size : Nat) : Int) - 1 - (((k.1 + 1) : Nat) : Int))), .slot 7 (VP.int .i64 (((s.size : Nat) : Int) - 1 - (((k.1 + 1) : Nat) : Int)))]) [0, 1, 2, 3, 4, 5, 6, 7, 8, 9, 10, 11, 12, 13, 14, 15, 16, 17, 18, 19, 20, 21, 22, 23, 24, 25, 26] rfl ?_
      exact nx_round ⟨k.1 + 1, by omega, fun j hj => by rcases Nat.lt_succ_iff_lt_or_eq.1 hj with hj | rfl; exact k.2.2 j hj; exact hd.1⟩ (by show s.size - (k.1 + 1) < s.size - k.1; omega) [0, 1, 2, 23, 26, 3] rfl
set_option maxRecDepth 100000 in
set_option maxHeartbeats 4000000 in
theorem rparseB (s : ByteArray) (hs : s.size ≤ 100000) (c : Nat) (hc : ∃ h : 0 < s.size, s[0].toNat = c) (h0 : 0 < s.size) (h45 : c = 45) : Spec Try.prog 68 [(VP.str s).p] (refW (((c : Nat) : Int) == 45) 1 s) := by
  have hbt : ∀ j, bt s j < 256 := bt_lt s
  refine spec_of (xs := [VP.str s]) 59 [2] Try.func68 rfl Try.ntmps68 rfl fun w0 => ?_
  refine t_seq ?_
  refine t_region (F := ⟨_, _, _, _⟩) [.slot 0 (VP.str s)] [] [(0, .box 2 72 [VP.bool false, VP.nilS]), (1, .slot 3 (VP.bool false))] [] [0] [] rfl rfl follow rfl ⟨
    .inl ⟨wants_plain rfl, does_alloc ty_zero_collatorref01_Num rfl rfl rfl rfl rfl z_nil2⟩,
    .inl ⟨wants_plain rfl, does_move _ (.inr rfl) rfl rfl rfl rfl (ar_const (fun _ => rfl))⟩,
    trivial⟩ ?_
  refine nx_sub (fs' := [.slot 0 (VP.str s), .box 2 72 [VP.bool false, VP.nilS], .slot 3 (VP.bool false)]) [0, 1, 2] rfl ?_
  refine nx_then ?_
  refine t_seq ?_
  refine t_region (F := ⟨_, _, _, _⟩) [.slot 0 (VP.str s), .box 2 72 [VP.bool false, VP.nilS], .slot 3 (VP.bool false)] [] [(0, .slot 8 (VP.str s)), (1, .slot 9 (VP.int .i64 ((s.size : Nat) : Int))), (2, .slot 10 (VP.bool (decide (((s.size : Nat) : Int) > 0)))), (3, .slot 11 (VP.bool (decide (((s.size : Nat) : Int) > 0)))), (4, .slot 12 (VP.str s)), (5, .slot 13 (VP.int .u8 ((c : Nat) : Int))), (6, .slot 14 (VP.bool (((c : Nat) : Int) == 45))), (7, .slot 15 (VP.bool (((c : Nat) : Int) == 45))), (8, .slot 4 (VP.bool (((c : Nat) : Int) == 45)))] [] [0, 1, 2] [] rfl rfl follow rfl ⟨
    .inl ⟨wants_plain rfl, does_move _ (.inl rfl) rfl rfl rfl rfl (ar_tmp (av_fs 0 rfl))⟩,
    .inl ⟨wants_plain rfl, does_lenStr _ _ Try.underlying9 rfl rfl rfl rfl rfl (ar_tmp (av_rs 0 rfl rfl))⟩,
    .inl ⟨wants_plain rfl, does_cmp (m := ((s.size : Nat) : Int)) (n := 0) _ _ _ _ _ rfl rfl rfl rfl rfl rfl .i64 (ar_tmp (av_rs 1 rfl rfl)) (ar_const (fun _ => rfl))⟩,
    .inl ⟨wants_plain rfl, does_move _ (.inl rfl) rfl rfl rfl rfl (ar_tmp (av_rs 2 rfl rfl))⟩,
    .inl ⟨wants_guard true rfl rfl rfl (av_bool (decide_eq_true (by omega)) (av_rs 3 rfl rfl)), does_move _ (.inl rfl) rfl rfl rfl rfl (ar_tmp (av_fs 0 rfl))⟩,
    .inl ⟨wants_guard true rfl rfl rfl (av_bool (decide_eq_true (by omega)) (av_rs 3 rfl rfl)), does_indexStr (m := 0) (n := c) _ _ Try.underlying9 rfl rfl rfl rfl rfl hc (ar_tmp (av_rs 4 rfl rfl)) (ar_const (fun _ => rfl))⟩,
    .inl ⟨wants_guard true rfl rfl rfl (av_bool (decide_eq_true (by omega)) (av_rs 3 rfl rfl)), does_cmp (m := ((c : Nat) : Int)) (n := 45) _ _ _ _ _ rfl rfl rfl rfl rfl rfl .u8 (ar_tmp (av_rs 5 rfl rfl)) (ar_const (fun _ => rfl))⟩,
    .inl ⟨wants_plain rfl, does_pick true _ _ _ rfl rfl rfl rfl rfl (ar_tmp (av_bool (decide_eq_true (by omega)) (av_rs 3 rfl rfl))) (ar_tmp (av_rs 6 rfl rfl))⟩,
    .inl ⟨wants_plain rfl, does_move _ (.inr rfl) rfl rfl rfl rfl (ar_tmp (av_rs 7 rfl rfl))⟩,
    trivial⟩ ?_
  refine nx_sub (fs' := [.slot 0 (VP.str s), .box 2 72 [VP.bool false, VP.nilS], .slot 3 (VP.bool false), .slot 4 (VP.bool (((c : Nat) : Int) == 45))]) [0, 1, 2, 11] rfl ?_
  refine nx_then ?_
  refine t_seq ?_
  refine t_region (F := ⟨_, _, _, _⟩) [.slot 0 (VP.str s), .box 2 72 [VP.bool false, VP.nilS], .slot 3 (VP.bool false), .slot 4 (VP.bool (((c : Nat) : Int) == 45))] [] [(0, .slot 5 (VP.int .i64 0))] [] [0, 1, 2, 3] [] rfl rfl follow rfl ⟨
    .inl ⟨wants_plain rfl, does_move _ (.inr rfl) rfl rfl rfl rfl (ar_const (fun _ => rfl))⟩,
    trivial⟩ ?_
  refine nx_sub (fs' := [.slot 0 (VP.str s), .box 2 72 [VP.bool false, VP.nilS], .slot 3 (VP.bool false), .slot 4 (VP.bool (((c : Nat) : Int) == 45)), .slot 5 (VP.int .i64 0)]) [0, 1, 2, 3, 4] rfl ?_
  refine nx_then ?_
  refine t_seq ?_
  refine t_seq ?_
  refine t_region (F := ⟨_, _, _, _⟩) [.slot 0 (VP.str s), .box 2 72 [VP.bool false, VP.nilS], .slot 3 (VP.bool false), .slot 4 (VP.bool (((c : Nat) : Int) == 45)), .slot 5 (VP.int .i64 0)] [] [(0, .slot 16 (VP.bool (((c : Nat) : Int) == 45)))] [] [0, 1, 2, 3, 4] [] rfl rfl follow rfl ⟨
    .inl ⟨wants_plain rfl, does_move _ (.inl rfl) rfl rfl rfl rfl (ar_tmp (av_fs 3 rfl))⟩,
    trivial⟩ ?_
  refine nx_sub (fs' := [.slot 0 (VP.str s), .box 2 72 [VP.bool false, VP.nilS], .slot 3 (VP.bool false), .slot 4 (VP.bool (((c : Nat) : Int) == 45)), .slot 5 (VP.int .i64 0), .slot 16 (VP.bool (((c : Nat) : Int) == 45))]) [0, 1, 2, 3, 4, 5] rfl ?_
  refine nx_then ?_
  refine t_cond_te 5 rfl (beq_iff_eq.2 (by omega)) ?_
  refine t_region (F := ⟨_, _, _, _⟩) [.slot 0 (VP.str s), .box 2 72 [VP.bool false, VP.nilS], .slot 3 (VP.bool false), .slot 4 (VP.bool (((c : Nat) : Int) == 45)), .slot 16 (VP.bool (((c : Nat) : Int) == 45))] [(0, .slot 5 (VP.int .i64 0))] [(0, .slot 5 (VP.int .i64 1))] [] [0, 1, 2, 3, 5] [4] rfl rfl follow rfl ⟨
    .inl ⟨wants_plain rfl, does_move _ (.inr rfl) rfl rfl rfl rfl (ar_const (fun _ => rfl))⟩,
    trivial⟩ ?_
  refine nx_sub (fs' := [.slot 0 (VP.str s), .box 2 72 [VP.bool false, VP.nilS], .slot 3 (VP.bool false), .slot 4 (VP.bool (((c : Nat) : Int) == 45)), .slot 5 (VP.int .i64 1)]) [0, 1, 2, 3, 5] rfl ?_
  refine nx_then ?_
  refine t_seq ?_
  refine t_region (F := ⟨_, _, _, _⟩) [.slot 0 (VP.str s), .box 2 72 [VP.bool false, VP.nilS], .slot 3 (VP.bool false), .slot 4 (VP.bool (((c : Nat) : Int) == 45)), .slot 5 (VP.int .i64 1)] [] [(0, .orow 17 3 1 0 []), (1, .orow 6 3 1 0 [])] [] [0, 1, 2, 3, 4] [] rfl rfl follow rfl ⟨
    .inl ⟨wants_plain rfl, does_emptyRow Try.underlying35 (fun w => run_sizeOne ty_one_int w) rfl rfl rfl rfl rfl⟩,
    .inl ⟨wants_plain rfl, does_moveRow _ (.inr rfl) rfl rfl rfl rfl rfl (av_rs 0 rfl rfl)⟩,
    trivial⟩ ?_
  refine nx_sub (fs' := [.slot 0 (VP.str s), .box 2 72 [VP.bool false, VP.nilS], .slot 3 (VP.bool false), .slot 4 (VP.bool (((c : Nat) : Int) == 45)), .slot 5 (VP.int .i64 1), .orow 6 3 1 0 []]) [0, 1, 2, 3, 4, 6] rfl ?_
  refine nx_then ?_
  refine t_seq ?_
  refine t_seq ?_
  refine t_region (F := ⟨_, _, _, _⟩) [.slot 0 (VP.str s), .box 2 72 [VP.bool false, VP.nilS], .slot 3 (VP.bool false), .slot 4 (VP.bool (((c : Nat) : Int) == 45)), .slot 5 (VP.int .i64 1), .orow 6 3 1 0 []] [] [(0, .slot 18 (VP.str s)), (1, .slot 19 (VP.int .i64 ((s.size : Nat) : Int))), (2, .slot 20 (VP.int .i64 (((s.size : Nat) : Int) - 1 - ((0 : Nat) : Int)))), (3, .slot 7 (VP.int .i64 (((s.size : Nat) : Int) - 1 - ((0 : Nat) : Int))))] [] [0, 1, 2, 3, 4, 5] [] rfl rfl follow rfl ⟨
    .inl ⟨wants_plain rfl, does_move _ (.inl rfl) rfl rfl rfl rfl (ar_tmp (av_fs 0 rfl))⟩,
    .inl ⟨wants_plain rfl, does_lenStr _ _ Try.underlying9 rfl rfl rfl rfl rfl (ar_tmp (av_rs 0 rfl rfl))⟩,
    .inl ⟨wants_plain rfl, does_subE (m := ((s.size : Nat) : Int)) (n := 1) (x := (((s.size : Nat) : Int) - 1 - ((0 : Nat) : Int))) (by omega) _ _ _ _ rfl rfl rfl rfl rfl (by omega) (ar_tmp (av_rs 1 rfl rfl)) (ar_const (fun _ => rfl))⟩,
    .inl ⟨wants_plain rfl, does_move _ (.inr rfl) rfl rfl rfl rfl (ar_tmp (av_rs 2 rfl rfl))⟩,
    trivial⟩ ?_
  refine nx_sub (fs' := [.slot 0 (VP.str s), .box 2 72 [VP.bool false, VP.nilS], .slot 3 (VP.bool false), .slot 4 (VP.bool (((c : Nat) : Int) == 45)), .slot 5 (VP.int .i64 1), .orow 6 3 1 0 [], .slot 7 (VP.int .i64 (((s.size : Nat) : Int) - 1 - ((0 : Nat) : Int)))]) [0, 1, 2, 3, 4, 5, 9] rfl ?_
  refine nx_then ?_
  refine t_block ?_
  refine t_loop (σ := {k : Nat // k + 1 ≤ s.size ∧ ∀ j, j < k → isD (bt s j) = true}) (fun k => [.slot 0 (VP.str s), .slot 4 (VP.bool (((c : Nat) : Int) == 45)), .slot 5 (VP.int .i64 1), .orow 6 3 1 k.1 (intsV .i64 (pd s k.1)), .slot 7 (VP.int .i64 (((s.size : Nat) : Int) - 1 - ((k.1 : Nat) : Int))), .box 2 72 [VP.bool false, VP.nilS]]) (fun k => s.size - k.1) (⟨0, by omega, fun j h => absurd h (Nat.not_lt_zero j)⟩) [0, 3, 4, 5, 6, 1] rfl ?_
  intro k
  have hk := k.2.1
  have hdc := dig_cases (bt s k.1)
  rcases (show (k.1 + 1 = s.size ∧ 1 < s.size) ∨ (k.1 + 1 = s.size ∧ ¬ 1 < s.size) ∨ k.1 + 1 < s.size by omega) with ⟨h, h2⟩ | ⟨h, h2⟩ | h
  case inl =>
    rw [refW_done 1 rfl h h2 k.2.2]
    refine t_seq ?_
    refine t_seq ?_
    refine t_region (F := ⟨_, _, _, _⟩) [.slot 0 (VP.str s), .slot 4 (VP.bool (((c : Nat) : Int) == 45)), .slot 5 (VP.int .i64 1), .orow 6 3 1 k.1 (intsV .i64 (pd s k.1)), .slot 7 (VP.int .i64 (((s.size : Nat) : Int) - 1 - ((k.1 : Nat) : Int))), .box 2 72 [VP.bool false, VP.nilS]] [] [(0, .slot 21 (VP.int .i64 (((s.size : Nat) : Int) - 1 - ((k.1 : Nat) : Int)))), (1, .slot 22 (VP.int .i64 1)), (2, .slot 23 (VP.bool (decide ((((s.size : Nat) : Int) - 1 - ((k.1 : Nat) : Int)) ≥ 1))))] [] [0, 1, 2, 3, 4, 5] [] rfl rfl follow rfl ⟨
      .inl ⟨wants_plain rfl, does_move _ (.inl rfl) rfl rfl rfl rfl (ar_tmp (av_fs 4 rfl))⟩,
      .inl ⟨wants_plain rfl, does_move _ (.inl rfl) rfl rfl rfl rfl (ar_tmp (av_fs 2 rfl))⟩,
      .inl ⟨wants_plain rfl, does_cmp (m := (((s.size : Nat) : Int) - 1 - ((k.1 : Nat) : Int))) (n := 1) _ _ _ _ _ rfl rfl rfl rfl rfl rfl .i64 (ar_tmp (av_rs 0 rfl rfl)) (ar_tmp (av_rs 1 rfl rfl))⟩,
      trivial⟩ ?_
    refine nx_sub (fs' := [.slot 0 (VP.str s), .slot 4 (VP.bool (((c : Nat) : Int) == 45)), .slot 5 (VP.int .i64 1), .orow 6 3 1 k.1 (intsV .i64 (pd s k.1)), .slot 7 (VP.int .i64 (((s.size : Nat) : Int) - 1 - ((k.1 : Nat) : Int))), .box 2 72 [VP.bool false, VP.nilS], .slot 21 (VP.int .i64 (((s.size : Nat) : Int) - 1 - ((k.1 : Nat) : Int))), .slot 22 (VP.int .i64 1), .slot 23 (VP.bool (decide ((((s.size : Nat) : Int) - 1 - ((k.1 : Nat) : Int)) ≥ 1)))]) [0, 1, 2, 3, 4, 5, 6, 7, 8] rfl ?_
    refine nx_then ?_
    refine t_cond_fe 8 rfl (decide_eq_false (by omega)) ?_
    refine t_exit ?_
    refine ex_then ?_
    refine ex_then ?_
    refine ex_block ?_
    refine nx_then ?_
    refine t_seq ?_
    refine t_region (F := ⟨_, _, _, _⟩) [.slot 0 (VP.str s), .slot 4 (VP.bool (((c : Nat) : Int) == 45)), .slot 5 (VP.int .i64 1), .orow 6 3 1 k.1 (intsV .i64 (pd s k.1)), .slot 7 (VP.int .i64 (((s.size : Nat) : Int) - 1 - ((k.1 : Nat) : Int))), .slot 21 (VP.int .i64 (((s.size : Nat) : Int) - 1 - ((k.1 : Nat) : Int))), .slot 22 (VP.int .i64 1), .slot 23 (VP.bool (decide ((((s.size : Nat) : Int) - 1 - ((k.1 : Nat) : Int)) ≥ 1)))] [(14, .box 2 72 [VP.bool false, VP.nilS])] [(0, .slot 45 (VP.bool (((c : Nat) : Int) == 45))), (1, .orow 46 3 1 k.1 (intsV .i64 (pd s k.1))), (2, .slot 47 (NUM (sz (((c : Nat) : Int) == 45) (val 10 (pd s k.1))))), (3, .slot 48 (VP.str s)), (4, .slot 49 (VP.int .i64 ((s.size : Nat) : Int))), (5, .slot 50 (VP.int .i64 1)), (6, .slot 51 (VP.bool (decide (((s.size : Nat) : Int) > 1)))), (7, .slot 52 (VP.bool (decide (((s.size : Nat) : Int) > 1)))), (8, .slot 53 (VP.str s)), (9, .slot 54 (VP.int .i64 ((s.size : Nat) : Int))), (10, .slot 55 (VP.int .i64 1)), (11, .slot 56 (VP.int .i64 (((s.size : Nat) : Int) - 1))), (12, .slot 57 (VP.bool (decide ((((s.size : Nat) : Int) - 1) ≤ 10000)))), (13, .slot 58 (VP.bool (decide ((((s.size : Nat) : Int) - 1) ≤ 10000)))), (14, .box 2 72 [Bz (sz (((c : Nat) : Int) == 45) (val 10 (pd s k.1))), Tz (sz (((c : Nat) : Int) == 45) (val 10 (pd s k.1)))]), (15, .slot 3 (VP.bool (decide ((((s.size : Nat) : Int) - 1) ≤ 10000))))] [] [0, 1, 2, 3, 4, 6, 7, 8] [5] rfl rfl follow rfl ⟨
      .inl ⟨wants_plain rfl, does_move _ (.inl rfl) rfl rfl rfl rfl (ar_tmp (av_fs 1 rfl))⟩,
      .inl ⟨wants_plain rfl, does_moveRow _ (.inl rfl) rfl rfl rfl rfl rfl (av_fs 3 rfl)⟩,
      .inl ⟨wants_plain rfl, does_call (r_mk1 (((c : Nat) : Int) == 45) (pd s k.1) pd_lt (pd_len hs)) rfl hb_collator_collatorref01_make1 rfl rfl rfl rfl ⟨(ar_tmp (av_rs 0 rfl rfl)), (ar_nums (av_rs 1 rfl rfl)), trivial⟩⟩,
      .inl ⟨wants_plain rfl, does_move _ (.inl rfl) rfl rfl rfl rfl (ar_tmp (av_fs 0 rfl))⟩,
      .inl ⟨wants_plain rfl, does_lenStr _ _ Try.underlying9 rfl rfl rfl rfl rfl (ar_tmp (av_rs 3 rfl rfl))⟩,
      .inl ⟨wants_plain rfl, does_move _ (.inl rfl) rfl rfl rfl rfl (ar_tmp (av_fs 2 rfl))⟩,
      .inl ⟨wants_plain rfl, does_cmp (m := ((s.size : Nat) : Int)) (n := 1) _ _ _ _ _ rfl rfl rfl rfl rfl rfl .i64 (ar_tmp (av_rs 4 rfl rfl)) (ar_tmp (av_rs 5 rfl rfl))⟩,
      .inl ⟨wants_plain rfl, does_move _ (.inl rfl) rfl rfl rfl rfl (ar_tmp (av_rs 6 rfl rfl))⟩,
      .inl ⟨wants_guard true rfl rfl rfl (av_bool (decide_eq_true (by omega)) (av_rs 7 rfl rfl)), does_move _ (.inl rfl) rfl rfl rfl rfl (ar_tmp (av_fs 0 rfl))⟩,
      .inl ⟨wants_guard true rfl rfl rfl (av_bool (decide_eq_true (by omega)) (av_rs 7 rfl rfl)), does_lenStr _ _ Try.underlying9 rfl rfl rfl rfl rfl (ar_tmp (av_rs 8 rfl rfl))⟩,
      .inl ⟨wants_guard true rfl rfl rfl (av_bool (decide_eq_true (by omega)) (av_rs 7 rfl rfl)), does_move _ (.inl rfl) rfl rfl rfl rfl (ar_tmp (av_fs 2 rfl))⟩,
      .inl ⟨wants_guard true rfl rfl rfl (av_bool (decide_eq_true (by omega)) (av_rs 7 rfl rfl)), does_subInt (m := ((s.size : Nat) : Int)) (n := 1) _ _ _ _ rfl rfl rfl rfl rfl (by omega) (ar_tmp (av_rs 9 rfl rfl)) (ar_tmp (av_rs 10 rfl rfl))⟩,
      .inl ⟨wants_guard true rfl rfl rfl (av_bool (decide_eq_true (by omega)) (av_rs 7 rfl rfl)), does_cmp (m := (((s.size : Nat) : Int) - 1)) (n := 10000) _ _ _ _ _ rfl rfl rfl rfl rfl rfl .i64 (ar_tmp (av_rs 11 rfl rfl)) (ar_const (fun _ => rfl))⟩,
      .inl ⟨wants_plain rfl, does_pick true _ _ _ rfl rfl rfl rfl rfl (ar_tmp (av_bool (decide_eq_true (by omega)) (av_rs 7 rfl rfl))) (ar_tmp (av_rs 12 rfl rfl))⟩,
      .inl ⟨wants_plain rfl, does_storeAgg 2 _ _ ty_agg_collatorref01_Num rfl rfl rfl rfl rfl (pt_box (av_os 0 rfl rfl)) (av_os 0 rfl rfl) (ar_tmp (av_rs 2 rfl rfl))⟩,
      .inl ⟨wants_plain rfl, does_move _ (.inr rfl) rfl rfl rfl rfl (ar_tmp (av_rs 13 rfl rfl))⟩,
      trivial⟩ ?_
    refine nx_sub (fs' := [.box 2 72 [Bz (sz (((c : Nat) : Int) == 45) (val 10 (pd s k.1))), Tz (sz (((c : Nat) : Int) == 45) (val 10 (pd s k.1)))], .slot 3 (VP.bool (decide ((((s.size : Nat) : Int) - 1) ≤ 10000)))]) [22, 23] rfl ?_
    refine nx_then ?_
    refine t_ret ?_
    exact rt_two rfl (res_agg 0 ty_agg_collatorref01_Num rfl) (res_tmp 1 rfl)
  case inr.inl =>
    rw [refW_done2 h h2 k.2.2]
    refine t_seq ?_
    refine t_seq ?_
    refine t_region (F := ⟨_, _, _, _⟩) [.slot 0 (VP.str s), .slot 4 (VP.bool (((c : Nat) : Int) == 45)), .slot 5 (VP.int .i64 1), .orow 6 3 1 k.1 (intsV .i64 (pd s k.1)), .slot 7 (VP.int .i64 (((s.size : Nat) : Int) - 1 - ((k.1 : Nat) : Int))), .box 2 72 [VP.bool false, VP.nilS]] [] [(0, .slot 21 (VP.int .i64 (((s.size : Nat) : Int) - 1 - ((k.1 : Nat) : Int)))), (1, .slot 22 (VP.int .i64 1)), (2, .slot 23 (VP.bool (decide ((((s.size : Nat) : Int) - 1 - ((k.1 : Nat) : Int)) ≥ 1))))] [] [0, 1, 2, 3, 4, 5] [] rfl rfl follow rfl ⟨
      .inl ⟨wants_plain rfl, does_move _ (.inl rfl) rfl rfl rfl rfl (ar_tmp (av_fs 4 rfl))⟩,
      .inl ⟨wants_plain rfl, does_move _ (.inl rfl) rfl rfl rfl rfl (ar_tmp (av_fs 2 rfl))⟩,
      .inl ⟨wants_plain rfl, does_cmp (m := (((s.size : Nat) : Int) - 1 - ((k.1 : Nat) : Int))) (n := 1) _ _ _ _ _ rfl rfl rfl rfl rfl rfl .i64 (ar_tmp (av_rs 0 rfl rfl)) (ar_tmp (av_rs 1 rfl rfl))⟩,
      trivial⟩ ?_
    refine nx_sub (fs' := [.slot 0 (VP.str s), .slot 4 (VP.bool (((c : Nat) : Int) == 45)), .slot 5 (VP.int .i64 1), .orow 6 3 1 k.1 (intsV .i64 (pd s k.1)), .slot 7 (VP.int .i64 (((s.size : Nat) : Int) - 1 - ((k.1 : Nat) : Int))), .box 2 72 [VP.bool false, VP.nilS], .slot 21 (VP.int .i64 (((s.size : Nat) : Int) - 1 - ((k.1 : Nat) : Int))), .slot 22 (VP.int .i64 1), .slot 23 (VP.bool (decide ((((s.size : Nat) : Int) - 1 - ((k.1 : Nat) : Int)) ≥ 1)))]) [0, 1, 2, 3, 4, 5, 6, 7, 8] rfl ?_
    refine nx_then ?_
    refine t_cond_fe 8 rfl (decide_eq_false (by omega)) ?_
    refine t_exit ?_
    refine ex_then ?_
    refine ex_then ?_
    refine ex_block ?_
    refine nx_then ?_
    refine t_seq ?_
    refine t_region (F := ⟨_, _, _, _⟩) [.slot 0 (VP.str s), .slot 4 (VP.bool (((c : Nat) : Int) == 45)), .slot 5 (VP.int .i64 1), .orow 6 3 1 k.1 (intsV .i64 (pd s k.1)), .slot 7 (VP.int .i64 (((s.size : Nat) : Int) - 1 - ((k.1 : Nat) : Int))), .slot 21 (VP.int .i64 (((s.size : Nat) : Int) - 1 - ((k.1 : Nat) : Int))), .slot 22 (VP.int .i64 1), .slot 23 (VP.bool (decide ((((s.size : Nat) : Int) - 1 - ((k.1 : Nat) : Int)) ≥ 1)))] [(14, .box 2 72 [VP.bool false, VP.nilS])] [(0, .slot 45 (VP.bool (((c : Nat) : Int) == 45))), (1, .orow 46 3 1 k.1 (intsV .i64 (pd s k.1))), (2, .slot 47 (NUM (sz (((c : Nat) : Int) == 45) (val 10 (pd s k.1))))), (3, .slot 48 (VP.str s)), (4, .slot 49 (VP.int .i64 ((s.size : Nat) : Int))), (5, .slot 50 (VP.int .i64 1)), (6, .slot 51 (VP.bool (decide (((s.size : Nat) : Int) > 1)))), (7, .slot 52 (VP.bool (decide (((s.size : Nat) : Int) > 1)))), (8, .slot 53 (VP.undef)), (9, .slot 54 (VP.undef)), (10, .slot 55 (VP.undef)), (11, .slot 56 (VP.undef)), (12, .slot 57 (VP.undef)), (13, .slot 58 (VP.bool false)), (14, .box 2 72 [Bz (sz (((c : Nat) : Int) == 45) (val 10 (pd s k.1))), Tz (sz (((c : Nat) : Int) == 45) (val 10 (pd s k.1)))]), (15, .slot 3 (VP.bool false))] [] [0, 1, 2, 3, 4, 6, 7, 8] [5] rfl rfl follow rfl ⟨
      .inl ⟨wants_plain rfl, does_move _ (.inl rfl) rfl rfl rfl rfl (ar_tmp (av_fs 1 rfl))⟩,
      .inl ⟨wants_plain rfl, does_moveRow _ (.inl rfl) rfl rfl rfl rfl rfl (av_fs 3 rfl)⟩,
      .inl ⟨wants_plain rfl, does_call (r_mk1 (((c : Nat) : Int) == 45) (pd s k.1) pd_lt (pd_len hs)) rfl hb_collator_collatorref01_make1 rfl rfl rfl rfl ⟨(ar_tmp (av_rs 0 rfl rfl)), (ar_nums (av_rs 1 rfl rfl)), trivial⟩⟩,
      .inl ⟨wants_plain rfl, does_move _ (.inl rfl) rfl rfl rfl rfl (ar_tmp (av_fs 0 rfl))⟩,
      .inl ⟨wants_plain rfl, does_lenStr _ _ Try.underlying9 rfl rfl rfl rfl rfl (ar_tmp (av_rs 3 rfl rfl))⟩,
      .inl ⟨wants_plain rfl, does_move _ (.inl rfl) rfl rfl rfl rfl (ar_tmp (av_fs 2 rfl))⟩,
      .inl ⟨wants_plain rfl, does_cmp (m := ((s.size : Nat) : Int)) (n := 1) _ _ _ _ _ rfl rfl rfl rfl rfl rfl .i64 (ar_tmp (av_rs 4 rfl rfl)) (ar_tmp (av_rs 5 rfl rfl))⟩,
      .inl ⟨wants_plain rfl, does_move _ (.inl rfl) rfl rfl rfl rfl (ar_tmp (av_rs 6 rfl rfl))⟩,
      .inr (skips_guardU false rfl rfl rfl (av_bool (decide_eq_false (by omega)) (av_rs 7 rfl rfl)) rfl rfl rfl rfl),
      .inr (skips_guardU false rfl rfl rfl (av_bool (decide_eq_false (by omega)) (av_rs 7 rfl rfl)) rfl rfl rfl rfl),
      .inr (skips_guardU false rfl rfl rfl (av_bool (decide_eq_false (by omega)) (av_rs 7 rfl rfl)) rfl rfl rfl rfl),
      .inr (skips_guardU false rfl rfl rfl (av_bool (decide_eq_false (by omega)) (av_rs 7 rfl rfl)) rfl rfl rfl rfl),
      .inr (skips_guardU false rfl rfl rfl (av_bool (decide_eq_false (by omega)) (av_rs 7 rfl rfl)) rfl rfl rfl rfl),
      .inl ⟨wants_plain rfl, does_pick false _ _ _ rfl rfl rfl rfl rfl (ar_tmp (av_bool (decide_eq_false (by omega)) (av_rs 7 rfl rfl))) (ar_const (fun _ => rfl))⟩,
      .inl ⟨wants_plain rfl, does_storeAgg 2 _ _ ty_agg_collatorref01_Num rfl rfl rfl rfl rfl (pt_box (av_os 0 rfl rfl)) (av_os 0 rfl rfl) (ar_tmp (av_rs 2 rfl rfl))⟩,
      .inl ⟨wants_plain rfl, does_move _ (.inr rfl) rfl rfl rfl rfl (ar_tmp (av_rs 13 rfl rfl))⟩,
      trivial⟩ ?_
    refine nx_sub (fs' := [.box 2 72 [Bz (sz (((c : Nat) : Int) == 45) (val 10 (pd s k.1))), Tz (sz (((c : Nat) : Int) == 45) (val 10 (pd s k.1)))], .slot 3 (VP.bool false)]) [22, 23] rfl ?_
    refine nx_then ?_
    refine t_ret ?_
    exact rt_two rfl (res_agg 0 ty_agg_collatorref01_Num rfl) (res_tmp 1 rfl)
  case inr.inr =>
    rcases hdc with hd | hd | hd
    case inl =>
      rw [refW_bad h (isD_lo hd)]
      refine t_seq ?_
      refine t_seq ?_
      refine t_region (F := ⟨_, _, _, _⟩) [.slot 0 (VP.str s), .slot 4 (VP.bool (((c : Nat) : Int) == 45)), .slot 5 (VP.int .i64 1), .orow 6 3 1 k.1 (intsV .i64 (pd s k.1)), .slot 7 (VP.int .i64 (((s.size : Nat) : Int) - 1 - ((k.1 : Nat) : Int))), .box 2 72 [VP.bool false, VP.nilS]] [] [(0, .slot 21 (VP.int .i64 (((s.size : Nat) : Int) - 1 - ((k.1 : Nat) : Int)))), (1, .slot 22 (VP.int .i64 1)), (2, .slot 23 (VP.bool (decide ((((s.size : Nat) : Int) - 1 - ((k.1 : Nat) : Int)) ≥ 1))))] [] [0, 1, 2, 3, 4, 5] [] rfl rfl follow rfl ⟨
        .inl ⟨wants_plain rfl, does_move _ (.inl rfl) rfl rfl rfl rfl (ar_tmp (av_fs 4 rfl))⟩,
        .inl ⟨wants_plain rfl, does_move _ (.inl rfl) rfl rfl rfl rfl (ar_tmp (av_fs 2 rfl))⟩,
        .inl ⟨wants_plain rfl, does_cmp (m := (((s.size : Nat) : Int) - 1 - ((k.1 : Nat) : Int))) (n := 1) _ _ _ _ _ rfl rfl rfl rfl rfl rfl .i64 (ar_tmp (av_rs 0 rfl rfl)) (ar_tmp (av_rs 1 rfl rfl))⟩,
        trivial⟩ ?_
      refine nx_sub (fs' := [.slot 0 (VP.str s), .slot 4 (VP.bool (((c : Nat) : Int) == 45)), .slot 5 (VP.int .i64 1), .orow 6 3 1 k.1 (intsV .i64 (pd s k.1)), .slot 7 (VP.int .i64 (((s.size : Nat) : Int) - 1 - ((k.1 : Nat) : Int))), .box 2 72 [VP.bool false, VP.nilS], .slot 21 (VP.int .i64 (((s.size : Nat) : Int) - 1 - ((k.1 : Nat) : Int))), .slot 22 (VP.int .i64 1), .slot 23 (VP.bool (decide ((((s.size : Nat) : Int) - 1 - ((k.1 : Nat) : Int)) ≥ 1)))]) [0, 1, 2, 3, 4, 5, 6, 7, 8] rfl ?_
      refine nx_then ?_
      refine t_cond_te 8 rfl (decide_eq_true (by omega)) ?_
      refine t_skip ?_
      refine nx_then ?_
      refine t_seq ?_
      refine t_block ?_
      refine t_seq ?_
      refine t_seq ?_
      refine t_region (F := ⟨_, _, _, _⟩) [.slot 0 (VP.str s), .slot 4 (VP.bool (((c : Nat) : Int) == 45)), .slot 5 (VP.int .i64 1), .orow 6 3 1 k.1 (intsV .i64 (pd s k.1)), .slot 7 (VP.int .i64 (((s.size : Nat) : Int) - 1 - ((k.1 : Nat) : Int))), .box 2 72 [VP.bool false, VP.nilS], .slot 21 (VP.int .i64 (((s.size : Nat) : Int) - 1 - ((k.1 : Nat) : Int))), .slot 22 (VP.int .i64 1), .slot 23 (VP.bool (decide ((((s.size : Nat) : Int) - 1 - ((k.1 : Nat) : Int)) ≥ 1)))] [] [(0, .slot 26 (VP.str s)), (1, .slot 27 (VP.int .i64 (((s.size : Nat) : Int) - 1 - ((k.1 : Nat) : Int)))), (2, .slot 28 (VP.int .u8 ((bt s k.1 : Nat) : Int))), (3, .slot 29 (VP.bool (decide (((bt s k.1 : Nat) : Int) < 48)))), (4, .slot 30 (VP.bool (decide (((bt s k.1 : Nat) : Int) < 48)))), (5, .slot 31 (VP.undef)), (6, .slot 32 (VP.undef)), (7, .slot 33 (VP.undef)), (8, .slot 34 (VP.undef)), (9, .slot 35 (VP.bool true))] [] [0, 1, 2, 3, 4, 5, 6, 7, 8] [] rfl rfl follow rfl ⟨
        .inl ⟨wants_plain rfl, does_move _ (.inl rfl) rfl rfl rfl rfl (ar_tmp (av_fs 0 rfl))⟩,
        .inl ⟨wants_plain rfl, does_move _ (.inl rfl) rfl rfl rfl rfl (ar_tmp (av_fs 4 rfl))⟩,
        .inl ⟨wants_plain rfl, does_indexStr (m := (s.size - 1 - k.1)) (n := bt s k.1) _ _ Try.underlying9 rfl rfl rfl rfl rfl (bt_at (by omega)) (ar_tmp (av_rs 0 rfl rfl)) (ar_int_eq (by omega) (ar_tmp (av_rs 1 rfl rfl)))⟩,
        .inl ⟨wants_plain rfl, does_cmp (m := ((bt s k.1 : Nat) : Int)) (n := 48) _ _ _ _ _ rfl rfl rfl rfl rfl rfl .u8 (ar_tmp (av_rs 2 rfl rfl)) (ar_const (fun _ => rfl))⟩,
        .inl ⟨wants_plain rfl, does_move _ (.inl rfl) rfl rfl rfl rfl (ar_tmp (av_rs 3 rfl rfl))⟩,
        .inr (skips_guardU true rfl rfl rfl (av_bool (decide_eq_true (by omega)) (av_rs 4 rfl rfl)) rfl rfl rfl rfl),
        .inr (skips_guardU true rfl rfl rfl (av_bool (decide_eq_true (by omega)) (av_rs 4 rfl rfl)) rfl rfl rfl rfl),
        .inr (skips_guardU true rfl rfl rfl (av_bool (decide_eq_true (by omega)) (av_rs 4 rfl rfl)) rfl rfl rfl rfl),
        .inr (skips_guardU true rfl rfl rfl (av_bool (decide_eq_true (by omega)) (av_rs 4 rfl rfl)) rfl rfl rfl rfl),
        .inl ⟨wants_plain rfl, does_pick true _ _ _ rfl rfl rfl rfl rfl (ar_tmp (av_bool (decide_eq_true (by omega)) (av_rs 4 rfl rfl))) (ar_const (fun _ => rfl))⟩,
        trivial⟩ ?_
      refine nx_sub (fs' := [.slot 0 (VP.str s), .slot 4 (VP.bool (((c : Nat) : Int) == 45)), .slot 5 (VP.int .i64 1), .orow 6 3 1 k.1 (intsV .i64 (pd s k.1)), .slot 7 (VP.int .i64 (((s.size : Nat) : Int) - 1 - ((k.1 : Nat) : Int))), .box 2 72 [VP.bool false, VP.nilS], .slot 21 (VP.int .i64 (((s.size : Nat) : Int) - 1 - ((k.1 : Nat) : Int))), .slot 22 (VP.int .i64 1), .slot 23 (VP.bool (decide ((((s.size : Nat) : Int) - 1 - ((k.1 : Nat) : Int)) ≥ 1))), .slot 26 (VP.str s), .slot 27 (VP.int .i64 (((s.size : Nat) : Int) - 1 - ((k.1 : Nat) : Int))), .slot 28 (VP.int .u8 ((bt s k.1 : Nat) : Int)), .slot 29 (VP.bool (decide (((bt s k.1 : Nat) : Int) < 48))), .slot 30 (VP.bool (decide (((bt s k.1 : Nat) : Int) < 48))), .slot 31 (VP.undef), .slot 32 (VP.undef), .slot 33 (VP.undef), .slot 34 (VP.undef), .slot 35 (VP.bool true)]) [0, 1, 2, 3, 4, 5, 6, 7, 8, 9, 10, 11, 12, 13, 14, 15, 16, 17, 18] rfl ?_
      refine nx_then ?_
      refine t_cond_t 18 rfl ?_
      refine t_seq ?_
      refine t_region (F := ⟨_, _, _, _⟩) [.slot 0 (VP.str s), .slot 4 (VP.bool (((c : Nat) : Int) == 45)), .slot 5 (VP.int .i64 1), .orow 6 3 1 k.1 (intsV .i64 (pd s k.1)), .slot 7 (VP.int .i64 (((s.size : Nat) : Int) - 1 - ((k.1 : Nat) : Int))), .slot 21 (VP.int .i64 (((s.size : Nat) : Int) - 1 - ((k.1 : Nat) : Int))), .slot 22 (VP.int .i64 1), .slot 23 (VP.bool (decide ((((s.size : Nat) : Int) - 1 - ((k.1 : Nat) : Int)) ≥ 1))), .slot 26 (VP.str s), .slot 27 (VP.int .i64 (((s.size : Nat) : Int) - 1 - ((k.1 : Nat) : Int))), .slot 28 (VP.int .u8 ((bt s k.1 : Nat) : Int)), .slot 29 (VP.bool (decide (((bt s k.1 : Nat) : Int) < 48))), .slot 30 (VP.bool (decide (((bt s k.1 : Nat) : Int) < 48))), .slot 31 (VP.undef), .slot 32 (VP.undef), .slot 33 (VP.undef), .slot 34 (VP.undef), .slot 35 (VP.bool true)] [(1, .box 2 72 [VP.bool false, VP.nilS])] [(0, .slot 36 (VP.agg [VP.bool false, VP.nilS])), (1, .box 2 72 [VP.bool false, VP.nilS]), (2, .slot 3 (VP.bool false))] [] [0, 1, 2, 3, 4, 6, 7, 8, 9, 10, 11, 12, 13, 14, 15, 16, 17, 18] [5] rfl rfl follow rfl ⟨
        .inl ⟨wants_plain rfl, does_build [VP.bool false, VP.nilS] ty_zero_collatorref01_Num ty_pl_collatorref01_Num rfl rfl rfl rfl rfl z_nil2 (.nil _)⟩,
        .inl ⟨wants_plain rfl, does_storeAgg 2 _ _ ty_agg_collatorref01_Num rfl rfl rfl rfl rfl (pt_box (av_os 0 rfl rfl)) (av_os 0 rfl rfl) (ar_tmp (av_rs 0 rfl rfl))⟩,
        .inl ⟨wants_plain rfl, does_move _ (.inr rfl) rfl rfl rfl rfl (ar_const (fun _ => rfl))⟩,
        trivial⟩ ?_
      refine nx_sub (fs' := [.slot 0 (VP.str s), .slot 4 (VP.bool (((c : Nat) : Int) == 45)), .slot 5 (VP.int .i64 1), .orow 6 3 1 k.1 (intsV .i64 (pd s k.1)), .slot 7 (VP.int .i64 (((s.size : Nat) : Int) - 1 - ((k.1 : Nat) : Int))), .slot 21 (VP.int .i64 (((s.size : Nat) : Int) - 1 - ((k.1 : Nat) : Int))), .slot 22 (VP.int .i64 1), .slot 23 (VP.bool (decide ((((s.size : Nat) : Int) - 1 - ((k.1 : Nat) : Int)) ≥ 1))), .slot 26 (VP.str s), .slot 27 (VP.int .i64 (((s.size : Nat) : Int) - 1 - ((k.1 : Nat) : Int))), .slot 28 (VP.int .u8 ((bt s k.1 : Nat) : Int)), .slot 29 (VP.bool (decide (((bt s k.1 : Nat) : Int) < 48))), .slot 30 (VP.bool (decide (((bt s k.1 : Nat) : Int) < 48))), .slot 31 (VP.undef), .slot 32 (VP.undef), .slot 33 (VP.undef), .slot 34 (VP.undef), .slot 35 (VP.bool true), .slot 36 (VP.agg [VP.bool false, VP.nilS]), .box 2 72 [VP.bool false, VP.nilS], .slot 3 (VP.bool false)]) [0, 1, 2, 3, 4, 5, 6, 7, 8, 9, 10, 11, 12, 13, 14, 15, 16, 17, 18, 19, 20] rfl ?_
      refine nx_then ?_
      refine t_ret ?_
      refine rt_then ?_
      refine rt_block ?_
      refine rt_then ?_
      refine rt_then ?_
      refine rt_block ?_
      refine rt_then ?_
      exact rt_two rfl (res_agg 19 ty_agg_collatorref01_Num rfl) (res_tmp 20 rfl)
    case inr.inl =>
      rw [refW_bad h (isD_hi hd.2)]
      refine t_seq ?_
      refine t_seq ?_
      refine t_region (F := ⟨_, _, _, _⟩) [.slot 0 (VP.str s), .slot 4 (VP.bool (((c : Nat) : Int) == 45)), .slot 5 (VP.int .i64 1), .orow 6 3 1 k.1 (intsV .i64 (pd s k.1)), .slot 7 (VP.int .i64 (((s.size : Nat) : Int) - 1 - ((k.1 : Nat) : Int))), .box 2 72 [VP.bool false, VP.nilS]] [] [(0, .slot 21 (VP.int .i64 (((s.size : Nat) : Int) - 1 - ((k.1 : Nat) : Int)))), (1, .slot 22 (VP.int .i64 1)), (2, .slot 23 (VP.bool (decide ((((s.size : Nat) : Int) - 1 - ((k.1 : Nat) : Int)) ≥ 1))))] [] [0, 1, 2, 3, 4, 5] [] rfl rfl follow rfl ⟨
        .inl ⟨wants_plain rfl, does_move _ (.inl rfl) rfl rfl rfl rfl (ar_tmp (av_fs 4 rfl))⟩,
        .inl ⟨wants_plain rfl, does_move _ (.inl rfl) rfl rfl rfl rfl (ar_tmp (av_fs 2 rfl))⟩,
        .inl ⟨wants_plain rfl, does_cmp (m := (((s.size : Nat) : Int) - 1 - ((k.1 : Nat) : Int))) (n := 1) _ _ _ _ _ rfl rfl rfl rfl rfl rfl .i64 (ar_tmp (av_rs 0 rfl rfl)) (ar_tmp (av_rs 1 rfl rfl))⟩,
        trivial⟩ ?_
      refine nx_sub (fs' := [.slot 0 (VP.str s), .slot 4 (VP.bool (((c : Nat) : Int) == 45)), .slot 5 (VP.int .i64 1), .orow 6 3 1 k.1 (intsV .i64 (pd s k.1)), .slot 7 (VP.int .i64 (((s.size : Nat) : Int) - 1 - ((k.1 : Nat) : Int))), .box 2 72 [VP.bool false, VP.nilS], .slot 21 (VP.int .i64 (((s.size : Nat) : Int) - 1 - ((k.1 : Nat) : Int))), .slot 22 (VP.int .i64 1), .slot 23 (VP.bool (decide ((((s.size : Nat) : Int) - 1 - ((k.1 : Nat) : Int)) ≥ 1)))]) [0, 1, 2, 3, 4, 5, 6, 7, 8] rfl ?_
      refine nx_then ?_
      refine t_cond_te 8 rfl (decide_eq_true (by omega)) ?_
      refine t_skip ?_
      refine nx_then ?_
      refine t_seq ?_
      refine t_block ?_
      refine t_seq ?_
      refine t_seq ?_
      refine t_region (F := ⟨_, _, _, _⟩) [.slot 0 (VP.str s), .slot 4 (VP.bool (((c : Nat) : Int) == 45)), .slot 5 (VP.int .i64 1), .orow 6 3 1 k.1 (intsV .i64 (pd s k.1)), .slot 7 (VP.int .i64 (((s.size : Nat) : Int) - 1 - ((k.1 : Nat) : Int))), .box 2 72 [VP.bool false, VP.nilS], .slot 21 (VP.int .i64 (((s.size : Nat) : Int) - 1 - ((k.1 : Nat) : Int))), .slot 22 (VP.int .i64 1), .slot 23 (VP.bool (decide ((((s.size : Nat) : Int) - 1 - ((k.1 : Nat) : Int)) ≥ 1)))] [] [(0, .slot 26 (VP.str s)), (1, .slot 27 (VP.int .i64 (((s.size : Nat) : Int) - 1 - ((k.1 : Nat) : Int)))), (2, .slot 28 (VP.int .u8 ((bt s k.1 : Nat) : Int))), (3, .slot 29 (VP.bool (decide (((bt s k.1 : Nat) : Int) < 48)))), (4, .slot 30 (VP.bool (decide (((bt s k.1 : Nat) : Int) < 48)))), (5, .slot 31 (VP.str s)), (6, .slot 32 (VP.int .i64 (((s.size : Nat) : Int) - 1 - ((k.1 : Nat) : Int)))), (7, .slot 33 (VP.int .u8 ((bt s k.1 : Nat) : Int))), (8, .slot 34 (VP.bool (decide (((bt s k.1 : Nat) : Int) > 57)))), (9, .slot 35 (VP.bool (decide (((bt s k.1 : Nat) : Int) > 57))))] [] [0, 1, 2, 3, 4, 5, 6, 7, 8] [] rfl rfl follow rfl ⟨
        .inl ⟨wants_plain rfl, does_move _ (.inl rfl) rfl rfl rfl rfl (ar_tmp (av_fs 0 rfl))⟩,
        .inl ⟨wants_plain rfl, does_move _ (.inl rfl) rfl rfl rfl rfl (ar_tmp (av_fs 4 rfl))⟩,
        .inl ⟨wants_plain rfl, does_indexStr (m := (s.size - 1 - k.1)) (n := bt s k.1) _ _ Try.underlying9 rfl rfl rfl rfl rfl (bt_at (by omega)) (ar_tmp (av_rs 0 rfl rfl)) (ar_int_eq (by omega) (ar_tmp (av_rs 1 rfl rfl)))⟩,
        .inl ⟨wants_plain rfl, does_cmp (m := ((bt s k.1 : Nat) : Int)) (n := 48) _ _ _ _ _ rfl rfl rfl rfl rfl rfl .u8 (ar_tmp (av_rs 2 rfl rfl)) (ar_const (fun _ => rfl))⟩,
        .inl ⟨wants_plain rfl, does_move _ (.inl rfl) rfl rfl rfl rfl (ar_tmp (av_rs 3 rfl rfl))⟩,
        .inl ⟨wants_guard false rfl rfl rfl (av_bool (decide_eq_false (by omega)) (av_rs 4 rfl rfl)), does_move _ (.inl rfl) rfl rfl rfl rfl (ar_tmp (av_fs 0 rfl))⟩,
        .inl ⟨wants_guard false rfl rfl rfl (av_bool (decide_eq_false (by omega)) (av_rs 4 rfl rfl)), does_move _ (.inl rfl) rfl rfl rfl rfl (ar_tmp (av_fs 4 rfl))⟩,
        .inl ⟨wants_guard false rfl rfl rfl (av_bool (decide_eq_false (by omega)) (av_rs 4 rfl rfl)), does_indexStr (m := (s.size - 1 - k.1)) (n := bt s k.1) _ _ Try.underlying9 rfl rfl rfl rfl rfl (bt_at (by omega)) (ar_tmp (av_rs 5 rfl rfl)) (ar_int_eq (by omega) (ar_tmp (av_rs 6 rfl rfl)))⟩,
        .inl ⟨wants_guard false rfl rfl rfl (av_bool (decide_eq_false (by omega)) (av_rs 4 rfl rfl)), does_cmp (m := ((bt s k.1 : Nat) : Int)) (n := 57) _ _ _ _ _ rfl rfl rfl rfl rfl rfl .u8 (ar_tmp (av_rs 7 rfl rfl)) (ar_const (fun _ => rfl))⟩,
        .inl ⟨wants_plain rfl, does_pick false _ _ _ rfl rfl rfl rfl rfl (ar_tmp (av_bool (decide_eq_false (by omega)) (av_rs 4 rfl rfl))) (ar_tmp (av_rs 8 rfl rfl))⟩,
        trivial⟩ ?_
      refine nx_sub (fs' := [.slot 0 (VP.str s), .slot 4 (VP.bool (((c : Nat) : Int) == 45)), .slot 5 (VP.int .i64 1), .orow 6 3 1 k.1 (intsV .i64 (pd s k.1)), .slot 7 (VP.int .i64 (((s.size : Nat) : Int) - 1 - ((k.1 : Nat) : Int))), .box 2 72 [VP.bool false, VP.nilS], .slot 21 (VP.int .i64 (((s.size : Nat) : Int) - 1 - ((k.1 : Nat) : Int))), .slot 22 (VP.int .i64 1), .slot 23 (VP.bool (decide ((((s.size : Nat) : Int) - 1 - ((k.1 : Nat) : Int)) ≥ 1))), .slot 26 (VP.str s), .slot 27 (VP.int .i64 (((s.size : Nat) : Int) - 1 - ((k.1 : Nat) : Int))), .slot 28 (VP.int .u8 ((bt s k.1 : Nat) : Int)), .slot 29 (VP.bool (decide (((bt s k.1 : Nat) : Int) < 48))), .slot 30 (VP.bool (decide (((bt s k.1 : Nat) : Int) < 48))), .slot 31 (VP.str s), .slot 32 (VP.int .i64 (((s.size : Nat) : Int) - 1 - ((k.1 : Nat) : Int))), .slot 33 (VP.int .u8 ((bt s k.1 : Nat) : Int)), .slot 34 (VP.bool (decide (((bt s k.1 : Nat) : Int) > 57))), .slot 35 (VP.bool (decide (((bt s k.1 : Nat) : Int) > 57)))]) [0, 1, 2, 3, 4, 5, 6, 7, 8, 9, 10, 11, 12, 13, 14, 15, 16, 17, 18] rfl ?_
      refine nx_then ?_
      refine t_cond_te 18 rfl (decide_eq_true (by omega)) ?_
      refine t_seq ?_
      refine t_region (F := ⟨_, _, _, _⟩) [.slot 0 (VP.str s), .slot 4 (VP.bool (((c : Nat) : Int) == 45)), .slot 5 (VP.int .i64 1), .orow 6 3 1 k.1 (intsV .i64 (pd s k.1)), .slot 7 (VP.int .i64 (((s.size : Nat) : Int) - 1 - ((k.1 : Nat) : Int))), .slot 21 (VP.int .i64 (((s.size : Nat) : Int) - 1 - ((k.1 : Nat) : Int))), .slot 22 (VP.int .i64 1), .slot 23 (VP.bool (decide ((((s.size : Nat) : Int) - 1 - ((k.1 : Nat) : Int)) ≥ 1))), .slot 26 (VP.str s), .slot 27 (VP.int .i64 (((s.size : Nat) : Int) - 1 - ((k.1 : Nat) : Int))), .slot 28 (VP.int .u8 ((bt s k.1 : Nat) : Int)), .slot 29 (VP.bool (decide (((bt s k.1 : Nat) : Int) < 48))), .slot 30 (VP.bool (decide (((bt s k.1 : Nat) : Int) < 48))), .slot 31 (VP.str s), .slot 32 (VP.int .i64 (((s.size : Nat) : Int) - 1 - ((k.1 : Nat) : Int))), .slot 33 (VP.int .u8 ((bt s k.1 : Nat) : Int)), .slot 34 (VP.bool (decide (((bt s k.1 : Nat) : Int) > 57))), .slot 35 (VP.bool (decide (((bt s k.1 : Nat) : Int) > 57)))] [(1, .box 2 72 [VP.bool false, VP.nilS])] [(0, .slot 36 (VP.agg [VP.bool false, VP.nilS])), (1, .box 2 72 [VP.bool false, VP.nilS]), (2, .slot 3 (VP.bool false))] [] [0, 1, 2, 3, 4, 6, 7, 8, 9, 10, 11, 12, 13, 14, 15, 16, 17, 18] [5] rfl rfl follow rfl ⟨
        .inl ⟨wants_plain rfl, does_build [VP.bool false, VP.nilS] ty_zero_collatorref01_Num ty_pl_collatorref01_Num rfl rfl rfl rfl rfl z_nil2 (.nil _)⟩,
        .inl ⟨wants_plain rfl, does_storeAgg 2 _ _ ty_agg_collatorref01_Num rfl rfl rfl rfl rfl (pt_box (av_os 0 rfl rfl)) (av_os 0 rfl rfl) (ar_tmp (av_rs 0 rfl rfl))⟩,
        .inl ⟨wants_plain rfl, does_move _ (.inr rfl) rfl rfl rfl rfl (ar_const (fun _ => rfl))⟩,
        trivial⟩ ?_
      refine nx_sub (fs' := [.slot 0 (VP.str s), .slot 4 (VP.bool (((c : Nat) : Int) == 45)), .slot 5 (VP.int .i64 1), .orow 6 3 1 k.1 (intsV .i64 (pd s k.1)), .slot 7 (VP.int .i64 (((s.size : Nat) : Int) - 1 - ((k.1 : Nat) : Int))), .slot 21 (VP.int .i64 (((s.size : Nat) : Int) - 1 - ((k.1 : Nat) : Int))), .slot 22 (VP.int .i64 1), .slot 23 (VP.bool (decide ((((s.size : Nat) : Int) - 1 - ((k.1 : Nat) : Int)) ≥ 1))), .slot 26 (VP.str s), .slot 27 (VP.int .i64 (((s.size : Nat) : Int) - 1 - ((k.1 : Nat) : Int))), .slot 28 (VP.int .u8 ((bt s k.1 : Nat) : Int)), .slot 29 (VP.bool (decide (((bt s k.1 : Nat) : Int) < 48))), .slot 30 (VP.bool (decide (((bt s k.1 : Nat) : Int) < 48))), .slot 31 (VP.str s), .slot 32 (VP.int .i64 (((s.size : Nat) : Int) - 1 - ((k.1 : Nat) : Int))), .slot 33 (VP.int .u8 ((bt s k.1 : Nat) : Int)), .slot 34 (VP.bool (decide (((bt s k.1 : Nat) : Int) > 57))), .slot 35 (VP.bool (decide (((bt s k.1 : Nat) : Int) > 57))), .slot 36 (VP.agg [VP.bool false, VP.nilS]), .box 2 72 [VP.bool false, VP.nilS], .slot 3 (VP.bool false)]) [0, 1, 2, 3, 4, 5, 6, 7, 8, 9, 10, 11, 12, 13, 14, 15, 16, 17, 18, 19, 20] rfl ?_
      refine nx_then ?_
      refine t_ret ?_
      refine rt_then ?_
      refine rt_block ?_
      refine rt_then ?_
      refine rt_then ?_
      refine rt_block ?_
      refine rt_then ?_
      exact rt_two rfl (res_agg 19 ty_agg_collatorref01_Num rfl) (res_tmp 20 rfl)
    case inr.inr =>
      refine t_seq ?_
      refine t_seq ?_
      refine t_region (F := ⟨_, _, _, _⟩) [.slot 0 (VP.str s), .slot 4 (VP.bool (((c : Nat) : Int) == 45)), .slot 5 (VP.int .i64 1), .orow 6 3 1 k.1 (intsV .i64 (pd s k.1)), .slot 7 (VP.int .i64 (((s.size : Nat) : Int) - 1 - ((k.1 : Nat) : Int))), .box 2 72 [VP.bool false, VP.nilS]] [] [(0, .slot 21 (VP.int .i64 (((s.size : Nat) : Int) - 1 - ((k.1 : Nat) : Int)))), (1, .slot 22 (VP.int .i64 1)), (2, .slot 23 (VP.bool (decide ((((s.size : Nat) : Int) - 1 - ((k.1 : Nat) : Int)) ≥ 1))))] [] [0, 1, 2, 3, 4, 5] [] rfl rfl follow rfl ⟨
        .inl ⟨wants_plain rfl, does_move _ (.inl rfl) rfl rfl rfl rfl (ar_tmp (av_fs 4 rfl))⟩,
        .inl ⟨wants_plain rfl, does_move _ (.inl rfl) rfl rfl rfl rfl (ar_tmp (av_fs 2 rfl))⟩,
        .inl ⟨wants_plain rfl, does_cmp (m := (((s.size : Nat) : Int) - 1 - ((k.1 : Nat) : Int))) (n := 1) _ _ _ _ _ rfl rfl rfl rfl rfl rfl .i64 (ar_tmp (av_rs 0 rfl rfl)) (ar_tmp (av_rs 1 rfl rfl))⟩,
        trivial⟩ ?_
      refine nx_sub (fs' := [.slot 0 (VP.str s), .slot 4 (VP.bool (((c : Nat) : Int) == 45)), .slot 5 (VP.int .i64 1), .orow 6 3 1 k.1 (intsV .i64 (pd s k.1)), .slot 7 (VP.int .i64 (((s.size : Nat) : Int) - 1 - ((k.1 : Nat) : Int))), .box 2 72 [VP.bool false, VP.nilS], .slot 21 (VP.int .i64 (((s.size : Nat) : Int) - 1 - ((k.1 : Nat) : Int))), .slot 22 (VP.int .i64 1), .slot 23 (VP.bool (decide ((((s.size : Nat) : Int) - 1 - ((k.1 : Nat) : Int)) ≥ 1)))]) [0, 1, 2, 3, 4, 5, 6, 7, 8] rfl ?_
      refine nx_then ?_
      refine t_cond_te 8 rfl (decide_eq_true (by omega)) ?_
      refine t_skip ?_
      refine nx_then ?_
      refine t_seq ?_
      refine t_block ?_
      refine t_seq ?_
      refine t_seq ?_
      refine t_region (F := ⟨_, _, _, _⟩) [.slot 0 (VP.str s), .slot 4 (VP.bool (((c : Nat) : Int) == 45)), .slot 5 (VP.int .i64 1), .orow 6 3 1 k.1 (intsV .i64 (pd s k.1)), .slot 7 (VP.int .i64 (((s.size : Nat) : Int) - 1 - ((k.1 : Nat) : Int))), .box 2 72 [VP.bool false, VP.nilS], .slot 21 (VP.int .i64 (((s.size : Nat) : Int) - 1 - ((k.1 : Nat) : Int))), .slot 22 (VP.int .i64 1), .slot 23 (VP.bool (decide ((((s.size : Nat) : Int) - 1 - ((k.1 : Nat) : Int)) ≥ 1)))] [] [(0, .slot 26 (VP.str s)), (1, .slot 27 (VP.int .i64 (((s.size : Nat) : Int) - 1 - ((k.1 : Nat) : Int)))), (2, .slot 28 (VP.int .u8 ((bt s k.1 : Nat) : Int))), (3, .slot 29 (VP.bool (decide (((bt s k.1 : Nat) : Int) < 48)))), (4, .slot 30 (VP.bool (decide (((bt s k.1 : Nat) : Int) < 48)))), (5, .slot 31 (VP.str s)), (6, .slot 32 (VP.int .i64 (((s.size : Nat) : Int) - 1 - ((k.1 : Nat) : Int)))), (7, .slot 33 (VP.int .u8 ((bt s k.1 : Nat) : Int))), (8, .slot 34 (VP.bool (decide (((bt s k.1 : Nat) : Int) > 57)))), (9, .slot 35 (VP.bool (decide (((bt s k.1 : Nat) : Int) > 57))))] [] [0, 1, 2, 3, 4, 5, 6, 7, 8] [] rfl rfl follow rfl ⟨
        .inl ⟨wants_plain rfl, does_move _ (.inl rfl) rfl rfl rfl rfl (ar_tmp (av_fs 0 rfl))⟩,
        .inl ⟨wants_plain rfl, does_move _ (.inl rfl) rfl rfl rfl rfl (ar_tmp (av_fs 4 rfl))⟩,
        .inl ⟨wants_plain rfl, does_indexStr (m := (s.size - 1 - k.1)) (n := bt s k.1) _ _ Try.underlying9 rfl rfl rfl rfl rfl (bt_at (by omega)) (ar_tmp (av_rs 0 rfl rfl)) (ar_int_eq (by omega) (ar_tmp (av_rs 1 rfl rfl)))⟩,
        .inl ⟨wants_plain rfl, does_cmp (m := ((bt s k.1 : Nat) : Int)) (n := 48) _ _ _ _ _ rfl rfl rfl rfl rfl rfl .u8 (ar_tmp (av_rs 2 rfl rfl)) (ar_const (fun _ => rfl))⟩,
        .inl ⟨wants_plain rfl, does_move _ (.inl rfl) rfl rfl rfl rfl (ar_tmp (av_rs 3 rfl rfl))⟩,
        .inl ⟨wants_guard false rfl rfl rfl (av_bool (decide_eq_false (by omega)) (av_rs 4 rfl rfl)), does_move _ (.inl rfl) rfl rfl rfl rfl (ar_tmp (av_fs 0 rfl))⟩,
        .inl ⟨wants_guard false rfl rfl rfl (av_bool (decide_eq_false (by omega)) (av_rs 4 rfl rfl)), does_move _ (.inl rfl) rfl rfl rfl rfl (ar_tmp (av_fs 4 rfl))⟩,
        .inl ⟨wants_guard false rfl rfl rfl (av_bool (decide_eq_false (by omega)) (av_rs 4 rfl rfl)), does_indexStr (m := (s.size - 1 - k.1)) (n := bt s k.1) _ _ Try.underlying9 rfl rfl rfl rfl rfl (bt_at (by omega)) (ar_tmp (av_rs 5 rfl rfl)) (ar_int_eq (by omega) (ar_tmp (av_rs 6 rfl rfl)))⟩,
        .inl ⟨wants_guard false rfl rfl rfl (av_bool (decide_eq_false (by omega)) (av_rs 4 rfl rfl)), does_cmp (m := ((bt s k.1 : Nat) : Int)) (n := 57) _ _ _ _ _ rfl rfl rfl rfl rfl rfl .u8 (ar_tmp (av_rs 7 rfl rfl)) (ar_const (fun _ => rfl))⟩,
        .inl ⟨wants_plain rfl, does_pick false _ _ _ rfl rfl rfl rfl rfl (ar_tmp (av_bool (decide_eq_false (by omega)) (av_rs 4 rfl rfl))) (ar_tmp (av_rs 8 rfl rfl))⟩,
        trivial⟩ ?_
      refine nx_sub (fs' := [.slot 0 (VP.str s), .slot 4 (VP.bool (((c : Nat) : Int) == 45)), .slot 5 (VP.int .i64 1), .orow 6 3 1 k.1 (intsV .i64 (pd s k.1)), .slot 7 (VP.int .i64 (((s.size : Nat) : Int) - 1 - ((k.1 : Nat) : Int))), .box 2 72 [VP.bool false, VP.nilS], .slot 21 (VP.int .i64 (((s.size : Nat) : Int) - 1 - ((k.1 : Nat) : Int))), .slot 22 (VP.int .i64 1), .slot 23 (VP.bool (decide ((((s.size : Nat) : Int) - 1 - ((k.1 : Nat) : Int)) ≥ 1))), .slot 26 (VP.str s), .slot 27 (VP.int .i64 (((s.size : Nat) : Int) - 1 - ((k.1 : Nat) : Int))), .slot 28 (VP.int .u8 ((bt s k.1 : Nat) : Int)), .slot 29 (VP.bool (decide (((bt s k.1 : Nat) : Int) < 48))), .slot 30 (VP.bool (decide (((bt s k.1 : Nat) : Int) < 48))), .slot 31 (VP.str s), .slot 32 (VP.int .i64 (((s.size : Nat) : Int) - 1 - ((k.1 : Nat) : Int))), .slot 33 (VP.int .u8 ((bt s k.1 : Nat) : Int)), .slot 34 (VP.bool (decide (((bt s k.1 : Nat) : Int) > 57))), .slot 35 (VP.bool (decide (((bt s k.1 : Nat) : Int) > 57)))]) [0, 1, 2, 3, 4, 5, 6, 7, 8, 9, 10, 11, 12, 13, 14, 15, 16, 17, 18] rfl ?_
      refine nx_then ?_
      refine t_cond_fe 18 rfl (decide_eq_false (by omega)) ?_
      refine t_skip ?_
      refine nx_then ?_
      refine t_region (F := ⟨_, _, _, _⟩) [.slot 0 (VP.str s), .slot 4 (VP.bool (((c : Nat) : Int) == 45)), .slot 5 (VP.int .i64 1), .slot 7 (VP.int .i64 (((s.size : Nat) : Int) - 1 - ((k.1 : Nat) : Int))), .box 2 72 [VP.bool false, VP.nilS], .slot 21 (VP.int .i64 (((s.size : Nat) : Int) - 1 - ((k.1 : Nat) : Int))), .slot 22 (VP.int .i64 1), .slot 23 (VP.bool (decide ((((s.size : Nat) : Int) - 1 - ((k.1 : Nat) : Int)) ≥ 1))), .slot 26 (VP.str s), .slot 27 (VP.int .i64 (((s.size : Nat) : Int) - 1 - ((k.1 : Nat) : Int))), .slot 28 (VP.int .u8 ((bt s k.1 : Nat) : Int)), .slot 29 (VP.bool (decide (((bt s k.1 : Nat) : Int) < 48))), .slot 30 (VP.bool (decide (((bt s k.1 : Nat) : Int) < 48))), .slot 31 (VP.str s), .slot 32 (VP.int .i64 (((s.size : Nat) : Int) - 1 - ((k.1 : Nat) : Int))), .slot 33 (VP.int .u8 ((bt s k.1 : Nat) : Int)), .slot 34 (VP.bool (decide (((bt s k.1 : Nat) : Int) > 57))), .slot 35 (VP.bool (decide (((bt s k.1 : Nat) : Int) > 57)))] [(7, .orow 6 3 1 k.1 (intsV .i64 (pd s k.1)))] [(1, .slot 38 (VP.str s)), (2, .slot 39 (VP.int .i64 (((s.size : Nat) : Int) - 1 - ((k.1 : Nat) : Int)))), (3, .slot 40 (VP.int .u8 ((bt s k.1 : Nat) : Int))), (4, .slot 41 (VP.int .i64 ((bt s k.1 : Nat) : Int))), (5, .slot 42 (VP.int .i64 ((dgt (bt s k.1) : Nat) : Int))), (7, .orow 44 3 1 (k.1 + 1) (intsV .i64 (pd s (k.1 + 1)))), (8, .orow 6 3 1 (k.1 + 1) (intsV .i64 (pd s (k.1 + 1))))] [(0, 7, .orow 37 3 1 k.1 (intsV .i64 (pd s k.1))), (6, 7, .arr 43 3 1 [VP.int .i64 ((dgt (bt s k.1) : Nat) : Int)])] [0, 1, 2, 4, 5, 6, 7, 8, 9, 10, 11, 12, 13, 14, 15, 16, 17, 18] [3] rfl rfl follow rfl ⟨
        .inl ⟨wants_plain rfl, does_moveRow _ (.inl rfl) rfl rfl rfl rfl rfl (av_os 0 rfl rfl)⟩,
        .inl ⟨wants_plain rfl, does_move _ (.inl rfl) rfl rfl rfl rfl (ar_tmp (av_fs 0 rfl))⟩,
        .inl ⟨wants_plain rfl, does_move _ (.inl rfl) rfl rfl rfl rfl (ar_tmp (av_fs 3 rfl))⟩,
        .inl ⟨wants_plain rfl, does_indexStr (m := (s.size - 1 - k.1)) (n := bt s k.1) _ _ Try.underlying9 rfl rfl rfl rfl rfl (bt_at (by omega)) (ar_tmp (av_rs 0 rfl rfl)) (ar_int_eq (by omega) (ar_tmp (av_rs 1 rfl rfl)))⟩,
        .inl ⟨wants_plain rfl, does_conv (n := ((bt s k.1 : Nat) : Int)) _ Try.underlying5 Try.underlying3 rfl rfl rfl rfl rfl (IntWalk.i64_in _ (by omega)) (ar_tmp (av_rs 2 rfl rfl))⟩,
        .inl ⟨wants_plain rfl, does_subE (m := ((bt s k.1 : Nat) : Int)) (n := 48) (x := ((dgt (bt s k.1) : Nat) : Int)) (by omega) _ _ _ _ rfl rfl rfl rfl rfl (by omega) (ar_tmp (av_rs 3 rfl rfl)) (ar_const (fun _ => rfl))⟩,
        .inl ⟨wants_plain rfl, does_buildSlice (sz := 1) [VP.int .i64 0] ty_zero_int (by kernel_rfl) (fun w => run_sizeOne ty_one_int w) rfl rfl rfl rfl rfl rfl (by kernel_rfl) (fun w => by exact z_i64 w) (.cons 0 [VP.int .i64 ((dgt (bt s k.1) : Nat) : Int)] rfl rfl (ar_cells_one rfl (ar_tmp (av_rs 4 rfl rfl))) (.nil _))⟩,
        .inl ⟨wants_plain rfl, does_append (n := k.1) (m := 1) elemI64 _ _ rfl rfl rfl rfl rfl rfl rfl (pd_snoc (by omega)) rfl (intsV_ab _ _) ⟨by omega, by decide⟩ (av_ms 0 rfl rfl rfl) (av_ms 1 rfl rfl rfl)⟩,
        .inl ⟨wants_plain rfl, does_moveRow _ (.inr rfl) rfl rfl rfl rfl rfl (av_rs 5 rfl rfl)⟩,
        trivial⟩ ?_
      refine nx_sub (fs' := [.slot 0 (VP.str s), .slot 4 (VP.bool (((c : Nat) : Int) == 45)), .slot 5 (VP.int .i64 1), .slot 7 (VP.int .i64 (((s.size : Nat) : Int) - 1 - ((k.1 : Nat) : Int))), .box 2 72 [VP.bool false, VP.nilS], .slot 21 (VP.int .i64 (((s.size : Nat) : Int) - 1 - ((k.1 : Nat) : Int))), .slot 22 (VP.int .i64 1), .slot 23 (VP.bool (decide ((((s.size : Nat) : Int) - 1 - ((k.1 : Nat) : Int)) ≥ 1))), .slot 26 (VP.str s), .slot 27 (VP.int .i64 (((s.size : Nat) : Int) - 1 - ((k.1 : Nat) : Int))), .slot 28 (VP.int .u8 ((bt s k.1 : Nat) : Int)), .slot 29 (VP.bool (decide (((bt s k.1 : Nat) : Int) < 48))), .slot 30 (VP.bool (decide (((bt s k.1 : Nat) : Int) < 48))), .slot 31 (VP.str s), .slot 32 (VP.int .i64 (((s.size : Nat) : Int) - 1 - ((k.1 : Nat) : Int))), .slot 33 (VP.int .u8 ((bt s k.1 : Nat) : Int)), .slot 34 (VP.bool (decide (((bt s k.1 : Nat) : Int) > 57))), .slot 35 (VP.bool (decide (((bt s k.1 : Nat) : Int) > 57))), .slot 38 (VP.str s), .slot 39 (VP.int .i64 (((s.size : Nat) : Int) - 1 - ((k.1 : Nat) : Int))), .slot 40 (VP.int .u8 ((bt s k.1 : Nat) : Int)), .slot 41 (VP.int .i64 ((bt s k.1 : Nat) : Int)), .slot 42 (VP.int .i64 ((dgt (bt s k.1) : Nat) : Int)), .orow 44 3 1 (k.1 + 1) (intsV .i64 (pd s (k.1 + 1))), .orow 6 3 1 (k.1 + 1) (intsV .i64 (pd s (k.1 + 1)))]) [0, 1, 2, 3, 4, 5, 6, 7, 8, 9, 10, 11, 12, 13, 14, 15, 16, 17, 18, 19, 20, 21, 22, 23, 24] rfl ?_
      refine nx_block ?_
      refine nx_then ?_
      refine t_region (F := ⟨_, _, _, _⟩) [.slot 0 (VP.str s), .slot 4 (VP.bool (((c : Nat) : Int) == 45)), .slot 5 (VP.int .i64 1), .box 2 72 [VP.bool false, VP.nilS], .slot 21 (VP.int .i64 (((s.size : Nat) : Int) - 1 - ((k.1 : Nat) : Int))), .slot 22 (VP.int .i64 1), .slot 23 (VP.bool (decide ((((s.size : Nat) : Int) - 1 - ((k.1 : Nat) : Int)) ≥ 1))), .slot 26 (VP.str s), .slot 27 (VP.int .i64 (((s.size : Nat) : Int) - 1 - ((k.1 : Nat) : Int))), .slot 28 (VP.int .u8 ((bt s k.1 : Nat) : Int)), .slot 29 (VP.bool (decide (((bt s k.1 : Nat) : Int) < 48))), .slot 30 (VP.bool (decide (((bt s k.1 : Nat) : Int) < 48))), .slot 31 (VP.str s), .slot 32 (VP.int .i64 (((s.size : Nat) : Int) - 1 - ((k.1 : Nat) : Int))), .slot 33 (VP.int .u8 ((bt s k.1 : Nat) : Int)), .slot 34 (VP.bool (decide (((bt s k.1 : Nat) : Int) > 57))), .slot 35 (VP.bool (decide (((bt s k.1 : Nat) : Int) > 57))), .slot 38 (VP.str s), .slot 39 (VP.int .i64 (((s.size : Nat) : Int) - 1 - ((k.1 : Nat) : Int))), .slot 40 (VP.int .u8 ((bt s k.1 : Nat) : Int)), .slot 41 (VP.int .i64 ((bt s k.1 : Nat) : Int)), .slot 42 (VP.int .i64 ((dgt (bt s k.1) : Nat) : Int)), .orow 44 3 1 (k.1 + 1) (intsV .i64 (pd s (k.1 + 1))), .orow 6 3 1 (k.1 + 1) (intsV .i64 (pd s (k.1 + 1)))] [(2, .slot 7 (VP.int .i64 (((s.size : Nat) : Int) - 1 - ((k.1 : Nat) : Int))))] [(0, .slot 24 (VP.int .i64 (((s.size : Nat) : Int) - 1 - ((k.1 : Nat) : Int)))), (1, .slot 25 (VP.int .i64 (((s.size : Nat) : Int) - 1 - (((k.1 + 1) : Nat) : Int)))), (2, .slot 7 (VP.int .i64 (((s.size : Nat) : Int) - 1 - (((k.1 + 1) : Nat) : Int))))] [] [0, 1, 2, 4, 5, 6, 7, 8, 9, 10, 11, 12, 13, 14, 15, 16, 17, 18, 19, 20, 21, 22, 23, 24] [3] rfl rfl follow rfl ⟨
        .inl ⟨wants_plain rfl, does_move _ (.inl rfl) rfl rfl rfl rfl (ar_tmp (av_os 0 rfl rfl))⟩,
        .inl ⟨wants_plain rfl, does_subE (m := (((s.size : Nat) : Int) - 1 - ((k.1 : Nat) : Int))) (n := 1) (x := (((s.size : Nat) : Int) - 1 - (((k.1 + 1) : Nat) : Int))) (by omega) _ _ _ _ rfl rfl rfl rfl rfl (by omega) (ar_tmp (av_rs 0 rfl rfl)) (ar_const (fun _ => rfl))⟩,
        .inl ⟨wants_plain rfl, does_move _ (.inr rfl) rfl rfl rfl rfl (ar_tmp (av_rs 1 rfl rfl))⟩,
        trivial⟩ ?_
      refine nx_sub (fs' := [.slot 0 (VP.str s), .slot 4 (VP.bool (((c : Nat) : Int) == 45)), .slot 5 (VP.int .i64 1), .box 2 72 [VP.bool false, VP.nilS], .slot 21 (VP.int .i64 (((s.size : Nat) : Int) - 1 - ((k.1 : Nat) : Int))), .slot 22 (VP.int .i64 1), .slot 23 (VP.bool (decide ((((s.size : Nat) : Int) - 1 - ((k.1 : Nat) : Int)) ≥ 1))), .slot 26 (VP.str s), .slot 27 (VP.int .i64 (((s.size : Nat) : Int) - 1 - ((k.1 : Nat) : Int))), .slot 28 (VP.int .u8 ((bt s k.1 : Nat) : Int)), .slot 29 (VP.bool (decide (((bt s k.1 : Nat) : Int) < 48))), .slot 30 (VP.bool (decide (((bt s k.1 : Nat) : Int) < 48))), .slot 31 (VP.str s), .slot 32 (VP.int .i64 (((s.size : Nat) : Int) - 1 - ((k.1 : Nat) : Int))), .slot 33 (VP.int .u8 ((bt s k.1 : Nat) : Int)), .slot 34 (VP.bool (decide (((bt s k.1 : Nat) : Int) > 57))), .slot 35 (VP.bool (decide (((bt s k.1 : Nat) : Int) > 57))), .slot 38 (VP.str s), .slot 39 (VP.int .i64 (((s.size : Nat) : Int) - 1 - ((k.1 : Nat) : Int))), .slot 40 (VP.int .u8 ((bt s k.1 : Nat) : Int)), .slot 41 (VP.int .i64 ((bt s k.1 : Nat) : Int)), .slot 42 (VP.int .i64 ((dgt (bt s k.1) : Nat) : Int)), .orow 44 3 1 (k.1 + 1) (intsV .i64 (pd s (k.1 + 1))), .orow 6 3 1 (k.1 + 1) (intsV .i64 (pd s (k.1 + 1))), .slot 24 (VP.int .i64 (((s.size : Nat) : Int) - 1 - ((k.1 : Nat) : Int))), .slot 25 (VP.int .i64 (((s.size : Nat) : Int) - 1 - (((k.1 + 1) : Nat) : Int))), .slot 7 (VP.int .i64 (((s.size : Nat) : Int) - 1 - (((k.1 + 1) : Nat) : Int)))]) [0, 1, 2, 3, 4, 5, 6, 7, 8, 9, 10, 11, 12, 13, 14, 15, 16, 17, 18, 19, 20, 21, 22, 23, 24, 25, 26] rfl ?_
      exact nx_round ⟨k.1 + 1, by omega, fun j hj => by rcases Nat.lt_succ_iff_lt_or_eq.1 hj with hj | rfl; exact k.2.2 j hj; exact hd.1⟩ (by show s.size - (k.1 + 1) < s.size - k.1; omega) [0, 1, 2, 23, 26, 3] rfl
set_option maxRecDepth 100000 in
set_option maxHeartbeats 4000000 in
theorem rparseC (s : ByteArray) (hs : s.size ≤ 100000) (c : Nat) (hc : ∃ h : 0 < s.size, s[0].toNat = c) (h0 : 0 < s.size) (h45 : c ≠ 45) : Spec Try.prog 68 [(VP.str s).p] (refW (((c : Nat) : Int) == 45) 0 s) := by
  have hbt : ∀ j, bt s j < 256 := bt_lt s
  refine spec_of (xs := [VP.str s]) 59 [2] Try.func68 rfl Try.ntmps68 rfl fun w0 => ?_
  refine t_seq ?_
  refine t_region (F := ⟨_, _, _, _⟩) [.slot 0 (VP.str s)] [] [(0, .box 2 72 [VP.bool false, VP.nilS]), (1, .slot 3 (VP.bool false))] [] [0] [] rfl rfl follow rfl ⟨
    .inl ⟨wants_plain rfl, does_alloc ty_zero_collatorref01_Num rfl rfl rfl rfl rfl z_nil2⟩,
    .inl ⟨wants_plain rfl, does_move _ (.inr rfl) rfl rfl rfl rfl (ar_const (fun _ => rfl))⟩,
    trivial⟩ ?_
  refine nx_sub (fs' := [.slot 0 (VP.str s), .box 2 72 [VP.bool false, VP.nilS], .slot 3 (VP.bool false)]) [0, 1, 2] rfl ?_
  refine nx_then ?_
  refine t_seq ?_
  refine t_region (F := ⟨_, _, _, _⟩) [.slot 0 (VP.str s), .box 2 72 [VP.bool false, VP.nilS], .slot 3 (VP.bool false)] [] [(0, .slot 8 (VP.str s)), (1, .slot 9 (VP.int .i64 ((s.size : Nat) : Int))), (2, .slot 10 (VP.bool (decide (((s.size : Nat) : Int) > 0)))), (3, .slot 11 (VP.bool (decide (((s.size : Nat) : Int) > 0)))), (4, .slot 12 (VP.str s)), (5, .slot 13 (VP.int .u8 ((c : Nat) : Int))), (6, .slot 14 (VP.bool (((c : Nat) : Int) == 45))), (7, .slot 15 (VP.bool (((c : Nat) : Int) == 45))), (8, .slot 4 (VP.bool (((c : Nat) : Int) == 45)))] [] [0, 1, 2] [] rfl rfl follow rfl ⟨
    .inl ⟨wants_plain rfl, does_move _ (.inl rfl) rfl rfl rfl rfl (ar_tmp (av_fs 0 rfl))⟩,
    .inl ⟨wants_plain rfl, does_lenStr _ _ Try.underlying9 rfl rfl rfl rfl rfl (ar_tmp (av_rs 0 rfl rfl))⟩,
    .inl ⟨wants_plain rfl, does_cmp (m := ((s.size : Nat) : Int)) (n := 0) _ _ _ _ _ rfl rfl rfl rfl rfl rfl .i64 (ar_tmp (av_rs 1 rfl rfl)) (ar_const (fun _ => rfl))⟩,
    .inl ⟨wants_plain rfl, does_move _ (.inl rfl) rfl rfl rfl rfl (ar_tmp (av_rs 2 rfl rfl))⟩,
    .inl ⟨wants_guard true rfl rfl rfl (av_bool (decide_eq_true (by omega)) (av_rs 3 rfl rfl)), does_move _ (.inl rfl) rfl rfl rfl rfl (ar_tmp (av_fs 0 rfl))⟩,
    .inl ⟨wants_guard true rfl rfl rfl (av_bool (decide_eq_true (by omega)) (av_rs 3 rfl rfl)), does_indexStr (m := 0) (n := c) _ _ Try.underlying9 rfl rfl rfl rfl rfl hc (ar_tmp (av_rs 4 rfl rfl)) (ar_const (fun _ => rfl))⟩,
    .inl ⟨wants_guard true rfl rfl rfl (av_bool (decide_eq_true (by omega)) (av_rs 3 rfl rfl)), does_cmp (m := ((c : Nat) : Int)) (n := 45) _ _ _ _ _ rfl rfl rfl rfl rfl rfl .u8 (ar_tmp (av_rs 5 rfl rfl)) (ar_const (fun _ => rfl))⟩,
    .inl ⟨wants_plain rfl, does_pick true _ _ _ rfl rfl rfl rfl rfl (ar_tmp (av_bool (decide_eq_true (by omega)) (av_rs 3 rfl rfl))) (ar_tmp (av_rs 6 rfl rfl))⟩,
    .inl ⟨wants_plain rfl, does_move _ (.inr rfl) rfl rfl rfl rfl (ar_tmp (av_rs 7 rfl rfl))⟩,
    trivial⟩ ?_
  refine nx_sub (fs' := [.slot 0 (VP.str s), .box 2 72 [VP.bool false, VP.nilS], .slot 3 (VP.bool false), .slot 4 (VP.bool (((c : Nat) : Int) == 45))]) [0, 1, 2, 11] rfl ?_
  refine nx_then ?_
  refine t_seq ?_
  refine t_region (F := ⟨_, _, _, _⟩) [.slot 0 (VP.str s), .box 2 72 [VP.bool false, VP.nilS], .slot 3 (VP.bool false), .slot 4 (VP.bool (((c : Nat) : Int) == 45))] [] [(0, .slot 5 (VP.int .i64 0))] [] [0, 1, 2, 3] [] rfl rfl follow rfl ⟨
    .inl ⟨wants_plain rfl, does_move _ (.inr rfl) rfl rfl rfl rfl (ar_const (fun _ => rfl))⟩,
    trivial⟩ ?_
  refine nx_sub (fs' := [.slot 0 (VP.str s), .box 2 72 [VP.bool false, VP.nilS], .slot 3 (VP.bool false), .slot 4 (VP.bool (((c : Nat) : Int) == 45)), .slot 5 (VP.int .i64 0)]) [0, 1, 2, 3, 4] rfl ?_
  refine nx_then ?_
  refine t_seq ?_
  refine t_seq ?_
  refine t_region (F := ⟨_, _, _, _⟩) [.slot 0 (VP.str s), .box 2 72 [VP.bool false, VP.nilS], .slot 3 (VP.bool false), .slot 4 (VP.bool (((c : Nat) : Int) == 45)), .slot 5 (VP.int .i64 0)] [] [(0, .slot 16 (VP.bool (((c : Nat) : Int) == 45)))] [] [0, 1, 2, 3, 4] [] rfl rfl follow rfl ⟨
    .inl ⟨wants_plain rfl, does_move _ (.inl rfl) rfl rfl rfl rfl (ar_tmp (av_fs 3 rfl))⟩,
    trivial⟩ ?_
  refine nx_sub (fs' := [.slot 0 (VP.str s), .box 2 72 [VP.bool false, VP.nilS], .slot 3 (VP.bool false), .slot 4 (VP.bool (((c : Nat) : Int) == 45)), .slot 5 (VP.int .i64 0), .slot 16 (VP.bool (((c : Nat) : Int) == 45))]) [0, 1, 2, 3, 4, 5] rfl ?_
  refine nx_then ?_
  refine t_cond_fe 5 rfl (beq_eq_false_iff_ne.2 (by omega)) ?_
  refine t_skip ?_
  refine nx_then ?_
  refine t_seq ?_
  refine t_region (F := ⟨_, _, _, _⟩) [.slot 0 (VP.str s), .box 2 72 [VP.bool false, VP.nilS], .slot 3 (VP.bool false), .slot 4 (VP.bool (((c : Nat) : Int) == 45)), .slot 5 (VP.int .i64 0), .slot 16 (VP.bool (((c : Nat) : Int) == 45))] [] [(0, .orow 17 3 1 0 []), (1, .orow 6 3 1 0 [])] [] [0, 1, 2, 3, 4, 5] [] rfl rfl follow rfl ⟨
    .inl ⟨wants_plain rfl, does_emptyRow Try.underlying35 (fun w => run_sizeOne ty_one_int w) rfl rfl rfl rfl rfl⟩,
    .inl ⟨wants_plain rfl, does_moveRow _ (.inr rfl) rfl rfl rfl rfl rfl (av_rs 0 rfl rfl)⟩,
    trivial⟩ ?_
  refine nx_sub (fs' := [.slot 0 (VP.str s), .box 2 72 [VP.bool false, VP.nilS], .slot 3 (VP.bool false), .slot 4 (VP.bool (((c : Nat) : Int) == 45)), .slot 5 (VP.int .i64 0), .orow 6 3 1 0 []]) [0, 1, 2, 3, 4, 7] rfl ?_
  refine nx_then ?_
  refine t_seq ?_
  refine t_seq ?_
  refine t_region (F := ⟨_, _, _, _⟩) [.slot 0 (VP.str s), .box 2 72 [VP.bool false, VP.nilS], .slot 3 (VP.bool false), .slot 4 (VP.bool (((c : Nat) : Int) == 45)), .slot 5 (VP.int .i64 0), .orow 6 3 1 0 []] [] [(0, .slot 18 (VP.str s)), (1, .slot 19 (VP.int .i64 ((s.size : Nat) : Int))), (2, .slot 20 (VP.int .i64 (((s.size : Nat) : Int) - 1 - ((0 : Nat) : Int)))), (3, .slot 7 (VP.int .i64 (((s.size : Nat) : Int) - 1 - ((0 : Nat) : Int))))] [] [0, 1, 2, 3, 4, 5] [] rfl rfl follow rfl ⟨
    .inl ⟨wants_plain rfl, does_move _ (.inl rfl) rfl rfl rfl rfl (ar_tmp (av_fs 0 rfl))⟩,
    .inl ⟨wants_plain rfl, does_lenStr _ _ Try.underlying9 rfl rfl rfl rfl rfl (ar_tmp (av_rs 0 rfl rfl))⟩,
    .inl ⟨wants_plain rfl, does_subE (m := ((s.size : Nat) : Int)) (n := 1) (x := (((s.size : Nat) : Int) - 1 - ((0 : Nat) : Int))) (by omega) _ _ _ _ rfl rfl rfl rfl rfl (by omega) (ar_tmp (av_rs 1 rfl rfl)) (ar_const (fun _ => rfl))⟩,
    .inl ⟨wants_plain rfl, does_move _ (.inr rfl) rfl rfl rfl rfl (ar_tmp (av_rs 2 rfl rfl))⟩,
    trivial⟩ ?_
  refine nx_sub (fs' := [.slot 0 (VP.str s), .box 2 72 [VP.bool false, VP.nilS], .slot 3 (VP.bool false), .slot 4 (VP.bool (((c : Nat) : Int) == 45)), .slot 5 (VP.int .i64 0), .orow 6 3 1 0 [], .slot 7 (VP.int .i64 (((s.size : Nat) : Int) - 1 - ((0 : Nat) : Int)))]) [0, 1, 2, 3, 4, 5, 9] rfl ?_
  refine nx_then ?_
  refine t_block ?_
  refine t_loop (σ := {k : Nat // k + 0 ≤ s.size ∧ ∀ j, j < k → isD (bt s j) = true}) (fun k => [.slot 0 (VP.str s), .slot 4 (VP.bool (((c : Nat) : Int) == 45)), .slot 5 (VP.int .i64 0), .orow 6 3 1 k.1 (intsV .i64 (pd s k.1)), .slot 7 (VP.int .i64 (((s.size : Nat) : Int) - 1 - ((k.1 : Nat) : Int))), .box 2 72 [VP.bool false, VP.nilS]]) (fun k => s.size - k.1) (⟨0, by omega, fun j h => absurd h (Nat.not_lt_zero j)⟩) [0, 3, 4, 5, 6, 1] rfl ?_
  intro k
  have hk := k.2.1
  have hdc := dig_cases (bt s k.1)
  rcases (show (k.1 + 0 = s.size ∧ 0 < s.size) ∨ (k.1 + 0 = s.size ∧ ¬ 0 < s.size) ∨ k.1 + 0 < s.size by omega) with ⟨h, h2⟩ | ⟨h, h2⟩ | h
  case inl =>
    rw [refW_done 0 rfl h h2 k.2.2]
    refine t_seq ?_
    refine t_seq ?_
    refine t_region (F := ⟨_, _, _, _⟩) [.slot 0 (VP.str s), .slot 4 (VP.bool (((c : Nat) : Int) == 45)), .slot 5 (VP.int .i64 0), .orow 6 3 1 k.1 (intsV .i64 (pd s k.1)), .slot 7 (VP.int .i64 (((s.size : Nat) : Int) - 1 - ((k.1 : Nat) : Int))), .box 2 72 [VP.bool false, VP.nilS]] [] [(0, .slot 21 (VP.int .i64 (((s.size : Nat) : Int) - 1 - ((k.1 : Nat) : Int)))), (1, .slot 22 (VP.int .i64 0)), (2, .slot 23 (VP.bool (decide ((((s.size : Nat) : Int) - 1 - ((k.1 : Nat) : Int)) ≥ 0))))] [] [0, 1, 2, 3, 4, 5] [] rfl rfl follow rfl ⟨
      .inl ⟨wants_plain rfl, does_move _ (.inl rfl) rfl rfl rfl rfl (ar_tmp (av_fs 4 rfl))⟩,
      .inl ⟨wants_plain rfl, does_move _ (.inl rfl) rfl rfl rfl rfl (ar_tmp (av_fs 2 rfl))⟩,
      .inl ⟨wants_plain rfl, does_cmp (m := (((s.size : Nat) : Int) - 1 - ((k.1 : Nat) : Int))) (n := 0) _ _ _ _ _ rfl rfl rfl rfl rfl rfl .i64 (ar_tmp (av_rs 0 rfl rfl)) (ar_tmp (av_rs 1 rfl rfl))⟩,
      trivial⟩ ?_
    refine nx_sub (fs' := [.slot 0 (VP.str s), .slot 4 (VP.bool (((c : Nat) : Int) == 45)), .slot 5 (VP.int .i64 0), .orow 6 3 1 k.1 (intsV .i64 (pd s k.1)), .slot 7 (VP.int .i64 (((s.size : Nat) : Int) - 1 - ((k.1 : Nat) : Int))), .box 2 72 [VP.bool false, VP.nilS], .slot 21 (VP.int .i64 (((s.size : Nat) : Int) - 1 - ((k.1 : Nat) : Int))), .slot 22 (VP.int .i64 0), .slot 23 (VP.bool (decide ((((s.size : Nat) : Int) - 1 - ((k.1 : Nat) : Int)) ≥ 0)))]) [0, 1, 2, 3, 4, 5, 6, 7, 8] rfl ?_
    refine nx_then ?_
    refine t_cond_fe 8 rfl (decide_eq_false (by omega)) ?_
    refine t_exit ?_
    refine ex_then ?_
    refine ex_then ?_
    refine ex_block ?_
    refine nx_then ?_
    refine t_seq ?_
    refine t_region (F := ⟨_, _, _, _⟩) [.slot 0 (VP.str s), .slot 4 (VP.bool (((c : Nat) : Int) == 45)), .slot 5 (VP.int .i64 0), .orow 6 3 1 k.1 (intsV .i64 (pd s k.1)), .slot 7 (VP.int .i64 (((s.size : Nat) : Int) - 1 - ((k.1 : Nat) : Int))), .slot 21 (VP.int .i64 (((s.size : Nat) : Int) - 1 - ((k.1 : Nat) : Int))), .slot 22 (VP.int .i64 0), .slot 23 (VP.bool (decide ((((s.size : Nat) : Int) - 1 - ((k.1 : Nat) : Int)) ≥ 0)))] [(14, .box 2 72 [VP.bool false, VP.nilS])] [(0, .slot 45 (VP.bool (((c : Nat) : Int) == 45))), (1, .orow 46 3 1 k.1 (intsV .i64 (pd s k.1))), (2, .slot 47 (NUM (sz (((c : Nat) : Int) == 45) (val 10 (pd s k.1))))), (3, .slot 48 (VP.str s)), (4, .slot 49 (VP.int .i64 ((s.size : Nat) : Int))), (5, .slot 50 (VP.int .i64 0)), (6, .slot 51 (VP.bool (decide (((s.size : Nat) : Int) > 0)))), (7, .slot 52 (VP.bool (decide (((s.size : Nat) : Int) > 0)))), (8, .slot 53 (VP.str s)), (9, .slot 54 (VP.int .i64 ((s.size : Nat) : Int))), (10, .slot 55 (VP.int .i64 0)), (11, .slot 56 (VP.int .i64 (((s.size : Nat) : Int) - 0))), (12, .slot 57 (VP.bool (decide ((((s.size : Nat) : Int) - 0) ≤ 10000)))), (13, .slot 58 (VP.bool (decide ((((s.size : Nat) : Int) - 0) ≤ 10000)))), (14, .box 2 72 [Bz (sz (((c : Nat) : Int) == 45) (val 10 (pd s k.1))), Tz (sz (((c : Nat) : Int) == 45) (val 10 (pd s k.1)))]), (15, .slot 3 (VP.bool (decide ((((s.size : Nat) : Int) - 0) ≤ 10000))))] [] [0, 1, 2, 3, 4, 6, 7, 8] [5] rfl rfl follow rfl ⟨
      .inl ⟨wants_plain rfl, does_move _ (.inl rfl) rfl rfl rfl rfl (ar_tmp (av_fs 1 rfl))⟩,
      .inl ⟨wants_plain rfl, does_moveRow _ (.inl rfl) rfl rfl rfl rfl rfl (av_fs 3 rfl)⟩,
      .inl ⟨wants_plain rfl, does_call (r_mk1 (((c : Nat) : Int) == 45) (pd s k.1) pd_lt (pd_len hs)) rfl hb_collator_collatorref01_make1 rfl rfl rfl rfl ⟨(ar_tmp (av_rs 0 rfl rfl)), (ar_nums (av_rs 1 rfl rfl)), trivial⟩⟩,
      .inl ⟨wants_plain rfl, does_move _ (.inl rfl) rfl rfl rfl rfl (ar_tmp (av_fs 0 rfl))⟩,
      .inl ⟨wants_plain rfl, does_lenStr _ _ Try.underlying9 rfl rfl rfl rfl rfl (ar_tmp (av_rs 3 rfl rfl))⟩,
      .inl ⟨wants_plain rfl, does_move _ (.inl rfl) rfl rfl rfl rfl (ar_tmp (av_fs 2 rfl))⟩,
      .inl ⟨wants_plain rfl, does_cmp (m := ((s.size : Nat) : Int)) (n := 0) _ _ _ _ _ rfl rfl rfl rfl rfl rfl .i64 (ar_tmp (av_rs 4 rfl rfl)) (ar_tmp (av_rs 5 rfl rfl))⟩,
      .inl ⟨wants_plain rfl, does_move _ (.inl rfl) rfl rfl rfl rfl (ar_tmp (av_rs 6 rfl rfl))⟩,
      .inl ⟨wants_guard true rfl rfl rfl (av_bool (decide_eq_true (by omega)) (av_rs 7 rfl rfl)), does_move _ (.inl rfl) rfl rfl rfl rfl (ar_tmp (av_fs 0 rfl))⟩,
      .inl ⟨wants_guard true rfl rfl rfl (av_bool (decide_eq_true (by omega)) (av_rs 7 rfl rfl)), does_lenStr _ _ Try.underlying9 rfl rfl rfl rfl rfl (ar_tmp (av_rs 8 rfl rfl))⟩,
      .inl ⟨wants_guard true rfl rfl rfl (av_bool (decide_eq_true (by omega)) (av_rs 7 rfl rfl)), does_move _ (.inl rfl) rfl rfl rfl rfl (ar_tmp (av_fs 2 rfl))⟩,
      .inl ⟨wants_guard true rfl rfl rfl (av_bool (decide_eq_true (by omega)) (av_rs 7 rfl rfl)), does_subInt (m := ((s.size : Nat) : Int)) (n := 0) _ _ _ _ rfl rfl rfl rfl rfl (by omega) (ar_tmp (av_rs 9 rfl rfl)) (ar_tmp (av_rs 10 rfl rfl))⟩,
      .inl ⟨wants_guard true rfl rfl rfl (av_bool (decide_eq_true (by omega)) (av_rs 7 rfl rfl)), does_cmp (m := (((s.size : Nat) : Int) - 0)) (n := 10000) _ _ _ _ _ rfl rfl rfl rfl rfl rfl .i64 (ar_tmp (av_rs 11 rfl rfl)) (ar_const (fun _ => rfl))⟩,
      .inl ⟨wants_plain rfl, does_pick true _ _ _ rfl rfl rfl rfl rfl (ar_tmp (av_bool (decide_eq_true (by omega)) (av_rs 7 rfl rfl))) (ar_tmp (av_rs 12 rfl rfl))⟩,
      .inl ⟨wants_plain rfl, does_storeAgg 2 _ _ ty_agg_collatorref01_Num rfl rfl rfl rfl rfl (pt_box (av_os 0 rfl rfl)) (av_os 0 rfl rfl) (ar_tmp (av_rs 2 rfl rfl))⟩,
      .inl ⟨wants_plain rfl, does_move _ (.inr rfl) rfl rfl rfl rfl (ar_tmp (av_rs 13 rfl rfl))⟩,
      trivial⟩ ?_
    refine nx_sub (fs' := [.box 2 72 [Bz (sz (((c : Nat) : Int) == 45) (val 10 (pd s k.1))), Tz (sz (((c : Nat) : Int) == 45) (val 10 (pd s k.1)))], .slot 3 (VP.bool (decide ((((s.size : Nat) : Int) - 0) ≤ 10000)))]) [22, 23] rfl ?_
    refine nx_then ?_
    refine t_ret ?_
    exact rt_two rfl (res_agg 0 ty_agg_collatorref01_Num rfl) (res_tmp 1 rfl)
  case inr.inl =>
    rw [refW_done2 h h2 k.2.2]
    refine t_seq ?_
    refine t_seq ?_
    refine t_region (F := ⟨_, _, _, _⟩) [.slot 0 (VP.str s), .slot 4 (VP.bool (((c : Nat) : Int) == 45)), .slot 5 (VP.int .i64 0), .orow 6 3 1 k.1 (intsV .i64 (pd s k.1)), .slot 7 (VP.int .i64 (((s.size : Nat) : Int) - 1 - ((k.1 : Nat) : Int))), .box 2 72 [VP.bool false, VP.nilS]] [] [(0, .slot 21 (VP.int .i64 (((s.size : Nat) : Int) - 1 - ((k.1 : Nat) : Int)))), (1, .slot 22 (VP.int .i64 0)), (2, .slot 23 (VP.bool (decide ((((s.size : Nat) : Int) - 1 - ((k.1 : Nat) : Int)) ≥ 0))))] [] [0, 1, 2, 3, 4, 5] [] rfl rfl follow rfl ⟨
      .inl ⟨wants_plain rfl, does_move _ (.inl rfl) rfl rfl rfl rfl (ar_tmp (av_fs 4 rfl))⟩,
      .inl ⟨wants_plain rfl, does_move _ (.inl rfl) rfl rfl rfl rfl (ar_tmp (av_fs 2 rfl))⟩,
      .inl ⟨wants_plain rfl, does_cmp (m := (((s.size : Nat) : Int) - 1 - ((k.1 : Nat) : Int))) (n := 0) _ _ _ _ _ rfl rfl rfl rfl rfl rfl .i64 (ar_tmp (av_rs 0 rfl rfl)) (ar_tmp (av_rs 1 rfl rfl))⟩,
      trivial⟩ ?_
    refine nx_sub (fs' := [.slot 0 (VP.str s), .slot 4 (VP.bool (((c : Nat) : Int) == 45)), .slot 5 (VP.int .i64 0), .orow 6 3 1 k.1 (intsV .i64 (pd s k.1)), .slot 7 (VP.int .i64 (((s.size : Nat) : Int) - 1 - ((k.1 : Nat) : Int))), .box 2 72 [VP.bool false, VP.nilS], .slot 21 (VP.int .i64 (((s.size : Nat) : Int) - 1 - ((k.1 : Nat) : Int))), .slot 22 (VP.int .i64 0), .slot 23 (VP.bool (decide ((((s.size : Nat) : Int) - 1 - ((k.1 : Nat) : Int)) ≥ 0)))]) [0, 1, 2, 3, 4, 5, 6, 7, 8] rfl ?_
    refine nx_then ?_
    refine t_cond_fe 8 rfl (decide_eq_false (by omega)) ?_
    refine t_exit ?_
    refine ex_then ?_
    refine ex_then ?_
    refine ex_block ?_
    refine nx_then ?_
    refine t_seq ?_
    refine t_region (F := ⟨_, _, _, _⟩) [.slot 0 (VP.str s), .slot 4 (VP.bool (((c : Nat) : Int) == 45)), .slot 5 (VP.int .i64 0), .orow 6 3 1 k.1 (intsV .i64 (pd s k.1)), .slot 7 (VP.int .i64 (((s.size : Nat) : Int) - 1 - ((k.1 : Nat) : Int))), .slot 21 (VP.int .i64 (((s.size : Nat) : Int) - 1 - ((k.1 : Nat) : Int))), .slot 22 (VP.int .i64 0), .slot 23 (VP.bool (decide ((((s.size : Nat) : Int) - 1 - ((k.1 : Nat) : Int)) ≥ 0)))] [(14, .box 2 72 [VP.bool false, VP.nilS])] [(0, .slot 45 (VP.bool (((c : Nat) : Int) == 45))), (1, .orow 46 3 1 k.1 (intsV .i64 (pd s k.1))), (2, .slot 47 (NUM (sz (((c : Nat) : Int) == 45) (val 10 (pd s k.1))))), (3, .slot 48 (VP.str s)), (4, .slot 49 (VP.int .i64 ((s.size : Nat) : Int))), (5, .slot 50 (VP.int .i64 0)), (6, .slot 51 (VP.bool (decide (((s.size : Nat) : Int) > 0)))), (7, .slot 52 (VP.bool (decide (((s.size : Nat) : Int) > 0)))), (8, .slot 53 (VP.undef)), (9, .slot 54 (VP.undef)), (10, .slot 55 (VP.undef)), (11, .slot 56 (VP.undef)), (12, .slot 57 (VP.undef)), (13, .slot 58 (VP.bool false)), (14, .box 2 72 [Bz (sz (((c : Nat) : Int) == 45) (val 10 (pd s k.1))), Tz (sz (((c : Nat) : Int) == 45) (val 10 (pd s k.1)))]), (15, .slot 3 (VP.bool false))] [] [0, 1, 2, 3, 4, 6, 7, 8] [5] rfl rfl follow rfl ⟨
      .inl ⟨wants_plain rfl, does_move _ (.inl rfl) rfl rfl rfl rfl (ar_tmp (av_fs 1 rfl))⟩,
      .inl ⟨wants_plain rfl, does_moveRow _ (.inl rfl) rfl rfl rfl rfl rfl (av_fs 3 rfl)⟩,
      .inl ⟨wants_plain rfl, does_call (r_mk1 (((c : Nat) : Int) == 45) (pd s k.1) pd_lt (pd_len hs)) rfl hb_collator_collatorref01_make1 rfl rfl rfl rfl ⟨(ar_tmp (av_rs 0 rfl rfl)), (ar_nums (av_rs 1 rfl rfl)), trivial⟩⟩,
      .inl ⟨wants_plain rfl, does_move _ (.inl rfl) rfl rfl rfl rfl (ar_tmp (av_fs 0 rfl))⟩,
      .inl ⟨wants_plain rfl, does_lenStr _ _ Try.underlying9 rfl rfl rfl rfl rfl (ar_tmp (av_rs 3 rfl rfl))⟩,
      .inl ⟨wants_plain rfl, does_move _ (.inl rfl) rfl rfl rfl rfl (ar_tmp (av_fs 2 rfl))⟩,
      .inl ⟨wants_plain rfl, does_cmp (m := ((s.size : Nat) : Int)) (n := 0) _ _ _ _ _ rfl rfl rfl rfl rfl rfl .i64 (ar_tmp (av_rs 4 rfl rfl)) (ar_tmp (av_rs 5 rfl rfl))⟩,
      .inl ⟨wants_plain rfl, does_move _ (.inl rfl) rfl rfl rfl rfl (ar_tmp (av_rs 6 rfl rfl))⟩,
      .inr (skips_guardU false rfl rfl rfl (av_bool (decide_eq_false (by omega)) (av_rs 7 rfl rfl)) rfl rfl rfl rfl),
      .inr (skips_guardU false rfl rfl rfl (av_bool (decide_eq_false (by omega)) (av_rs 7 rfl rfl)) rfl rfl rfl rfl),
      .inr (skips_guardU false rfl rfl rfl (av_bool (decide_eq_false (by omega)) (av_rs 7 rfl rfl)) rfl rfl rfl rfl),
      .inr (skips_guardU false rfl rfl rfl (av_bool (decide_eq_false (by omega)) (av_rs 7 rfl rfl)) rfl rfl rfl rfl),
      .inr (skips_guardU false rfl rfl rfl (av_bool (decide_eq_false (by omega)) (av_rs 7 rfl rfl)) rfl rfl rfl rfl),
      .inl ⟨wants_plain rfl, does_pick false _ _ _ rfl rfl rfl rfl rfl (ar_tmp (av_bool (decide_eq_false (by omega)) (av_rs 7 rfl rfl))) (ar_const (fun _ => rfl))⟩,
      .inl ⟨wants_plain rfl, does_storeAgg 2 _ _ ty_agg_collatorref01_Num rfl rfl rfl rfl rfl (pt_box (av_os 0 rfl rfl)) (av_os 0 rfl rfl) (ar_tmp (av_rs 2 rfl rfl))⟩,
      .inl ⟨wants_plain rfl, does_move _ (.inr rfl) rfl rfl rfl rfl (ar_tmp (av_rs 13 rfl rfl))⟩,
      trivial⟩ ?_
    refine nx_sub (fs' := [.box 2 72 [Bz (sz (((c : Nat) : Int) == 45) (val 10 (pd s k.1))), Tz (sz (((c : Nat) : Int) == 45) (val 10 (pd s k.1)))], .slot 3 (VP.bool false)]) [22, 23] rfl ?_
    refine nx_then ?_
    refine t_ret ?_
    exact rt_two rfl (res_agg 0 ty_agg_collatorref01_Num rfl) (res_tmp 1 rfl)
  case inr.inr =>
    rcases hdc with hd | hd | hd
    case inl =>
      rw [refW_bad h (isD_lo hd)]
      refine t_seq ?_
      refine t_seq ?_
      refine t_region (F := ⟨_, _, _, _⟩) [.slot 0 (VP.str s), .slot 4 (VP.bool (((c : Nat) : Int) == 45)), .slot 5 (VP.int .i64 0), .orow 6 3 1 k.1 (intsV .i64 (pd s k.1)), .slot 7 (VP.int .i64 (((s.size : Nat) : Int) - 1 - ((k.1 : Nat) : Int))), .box 2 72 [VP.bool false, VP.nilS]] [] [(0, .slot 21 (VP.int .i64 (((s.size : Nat) : Int) - 1 - ((k.1 : Nat) : Int)))), (1, .slot 22 (VP.int .i64 0)), (2, .slot 23 (VP.bool (decide ((((s.size : Nat) : Int) - 1 - ((k.1 : Nat) : Int)) ≥ 0))))] [] [0, 1, 2, 3, 4, 5] [] rfl rfl follow rfl ⟨
        .inl ⟨wants_plain rfl, does_move _ (.inl rfl) rfl rfl rfl rfl (ar_tmp (av_fs 4 rfl))⟩,
        .inl ⟨wants_plain rfl, does_move _ (.inl rfl) rfl rfl rfl rfl (ar_tmp (av_fs 2 rfl))⟩,
        .inl ⟨wants_plain rfl, does_cmp (m := (((s.size : Nat) : Int) - 1 - ((k.1 : Nat) : Int))) (n := 0) _ _ _ _ _ rfl rfl rfl rfl rfl rfl .i64 (ar_tmp (av_rs 0 rfl rfl)) (ar_tmp (av_rs 1 rfl rfl))⟩,
        trivial⟩ ?_
      refine nx_sub (fs' := [.slot 0 (VP.str s), .slot 4 (VP.bool (((c : Nat) : Int) == 45)), .slot 5 (VP.int .i64 0), .orow 6 3 1 k.1 (intsV .i64 (pd s k.1)), .slot 7 (VP.int .i64 (((s.size : Nat) : Int) - 1 - ((k.1 : Nat) : Int))), .box 2 72 [VP.bool false, VP.nilS], .slot 21 (VP.int .i64 (((s.size : Nat) : Int) - 1 - ((k.1 : Nat) : Int))), .slot 22 (VP.int .i64 0), .slot 23 (VP.bool (decide ((((s.size : Nat) : Int) - 1 - ((k.1 : Nat) : Int)) ≥ 0)))]) [0, 1, 2, 3, 4, 5, 6, 7, 8] rfl ?_
      refine nx_then ?_
      refine t_cond_te 8 rfl (decide_eq_true (by omega)) ?_
      refine t_skip ?_
      refine nx_then ?_
      refine t_seq ?_
      refine t_block ?_
      refine t_seq ?_
      refine t_seq ?_
      refine t_region (F := ⟨_, _, _, _⟩) [.slot 0 (VP.str s), .slot 4 (VP.bool (((c : Nat) : Int) == 45)), .slot 5 (VP.int .i64 0), .orow 6 3 1 k.1 (intsV .i64 (pd s k.1)), .slot 7 (VP.int .i64 (((s.size : Nat) : Int) - 1 - ((k.1 : Nat) : Int))), .box 2 72 [VP.bool false, VP.nilS], .slot 21 (VP.int .i64 (((s.size : Nat) : Int) - 1 - ((k.1 : Nat) : Int))), .slot 22 (VP.int .i64 0), .slot 23 (VP.bool (decide ((((s.size : Nat) : Int) - 1 - ((k.1 : Nat) : Int)) ≥ 0)))] [] [(0, .slot 26 (VP.str s)), (1, .slot 27 (VP.int .i64 (((s.size : Nat) : Int) - 1 - ((k.1 : Nat) : Int)))), (2, .slot 28 (VP.int .u8 ((bt s k.1 : Nat) : Int))), (3, .slot 29 (VP.bool (decide (((bt s k.1 : Nat) : Int) < 48)))), (4, .slot 30 (VP.bool (decide (((bt s k.1 : Nat) : Int) < 48)))), (5, .slot 31 (VP.undef)), (6, .slot 32 (VP.undef)), (7, .slot 33 (VP.undef)), (8, .slot 34 (VP.undef)), (9, .slot 35 (VP.bool true))] [] [0, 1, 2, 3, 4, 5, 6, 7, 8] [] rfl rfl follow rfl ⟨
        .inl ⟨wants_plain rfl, does_move _ (.inl rfl) rfl rfl rfl rfl (ar_tmp (av_fs 0 rfl))⟩,
        .inl ⟨wants_plain rfl, does_move _ (.inl rfl) rfl rfl rfl rfl (ar_tmp (av_fs 4 rfl))⟩,
        .inl ⟨wants_plain rfl, does_indexStr (m := (s.size - 1 - k.1)) (n := bt s k.1) _ _ Try.underlying9 rfl rfl rfl rfl rfl (bt_at (by omega)) (ar_tmp (av_rs 0 rfl rfl)) (ar_int_eq (by omega) (ar_tmp (av_rs 1 rfl rfl)))⟩,
        .inl ⟨wants_plain rfl, does_cmp (m := ((bt s k.1 : Nat) : Int)) (n := 48) _ _ _ _ _ rfl rfl rfl rfl rfl rfl .u8 (ar_tmp (av_rs 2 rfl rfl)) (ar_const (fun _ => rfl))⟩,
        .inl ⟨wants_plain rfl, does_move _ (.inl rfl) rfl rfl rfl rfl (ar_tmp (av_rs 3 rfl rfl))⟩,
        .inr (skips_guardU true rfl rfl rfl (av_bool (decide_eq_true (by omega)) (av_rs 4 rfl rfl)) rfl rfl rfl rfl),
        .inr (skips_guardU true rfl rfl rfl (av_bool (decide_eq_true (by omega)) (av_rs 4 rfl rfl)) rfl rfl rfl rfl),
        .inr (skips_guardU true rfl rfl rfl (av_bool (decide_eq_true (by omega)) (av_rs 4 rfl rfl)) rfl rfl rfl rfl),
        .inr (skips_guardU true rfl rfl rfl (av_bool (decide_eq_true (by omega)) (av_rs 4 rfl rfl)) rfl rfl rfl rfl),
        .inl ⟨wants_plain rfl, does_pick true _ _ _ rfl rfl rfl rfl rfl (ar_tmp (av_bool (decide_eq_true (by omega)) (av_rs 4 rfl rfl))) (ar_const (fun _ => rfl))⟩,
        trivial⟩ ?_
      refine nx_sub (fs' := [.slot 0 (VP.str s), .slot 4 (VP.bool (((c : Nat) : Int) == 45)), .slot 5 (VP.int .i64 0), .orow 6 3 1 k.1 (intsV .i64 (pd s k.1)), .slot 7 (VP.int .i64 (((s.size : Nat) : Int) - 1 - ((k.1 : Nat) : Int))), .box 2 72 [VP.bool false, VP.nilS], .slot 21 (VP.int .i64 (((s.size : Nat) : Int) - 1 - ((k.1 : Nat) : Int))), .slot 22 (VP.int .i64 0), .slot 23 (VP.bool (decide ((((s.size : Nat) : Int) - 1 - ((k.1 : Nat) : Int)) ≥ 0))), .slot 26 (VP.str s), .slot 27 (VP.int .i64 (((s.size : Nat) : Int) - 1 - ((k.1 : Nat) : Int))), .slot 28 (VP.int .u8 ((bt s k.1 : Nat) : Int)), .slot 29 (VP.bool (decide (((bt s k.1 : Nat) : Int) < 48))), .slot 30 (VP.bool (decide (((bt s k.1 : Nat) : Int) < 48))), .slot 31 (VP.undef), .slot 32 (VP.undef), .slot 33 (VP.undef), .slot 34 (VP.undef), .slot 35 (VP.bool true)]) [0, 1, 2, 3, 4, 5, 6, 7, 8, 9, 10, 11, 12, 13, 14, 15, 16, 17, 18] rfl ?_
      refine nx_then ?_
      refine t_cond_t 18 rfl ?_
      refine t_seq ?_
      refine t_region (F := ⟨_, _, _, _⟩) [.slot 0 (VP.str s), .slot 4 (VP.bool (((c : Nat) : Int) == 45)), .slot 5 (VP.int .i64 0), .orow 6 3 1 k.1 (intsV .i64 (pd s k.1)), .slot 7 (VP.int .i64 (((s.size : Nat) : Int) - 1 - ((k.1 : Nat) : Int))), .slot 21 (VP.int .i64 (((s.size : Nat) : Int) - 1 - ((k.1 : Nat) : Int))), .slot 22 (VP.int .i64 0), .slot 23 (VP.bool (decide ((((s.size : Nat) : Int) - 1 - ((k.1 : Nat) : Int)) ≥ 0))), .slot 26 (VP.str s), .slot 27 (VP.int .i64 (((s.size : Nat) : Int) - 1 - ((k.1 : Nat) : Int))), .slot 28 (VP.int .u8 ((bt s k.1 : Nat) : Int)), .slot 29 (VP.bool (decide (((bt s k.1 : Nat) : Int) < 48))), .slot 30 (VP.bool (decide (((bt s k.1 : Nat) : Int) < 48))), .slot 31 (VP.undef), .slot 32 (VP.undef), .slot 33 (VP.undef), .slot 34 (VP.undef), .slot 35 (VP.bool true)] [(1, .box 2 72 [VP.bool false, VP.nilS])] [(0, .slot 36 (VP.agg [VP.bool false, VP.nilS])), (1, .box 2 72 [VP.bool false, VP.nilS]), (2, .slot 3 (VP.bool false))] [] [0, 1, 2, 3, 4, 6, 7, 8, 9, 10, 11, 12, 13, 14, 15, 16, 17, 18] [5] rfl rfl follow rfl ⟨
        .inl ⟨wants_plain rfl, does_build [VP.bool false, VP.nilS] ty_zero_collatorref01_Num ty_pl_collatorref01_Num rfl rfl rfl rfl rfl z_nil2 (.nil _)⟩,
        .inl ⟨wants_plain rfl, does_storeAgg 2 _ _ ty_agg_collatorref01_Num rfl rfl rfl rfl rfl (pt_box (av_os 0 rfl rfl)) (av_os 0 rfl rfl) (ar_tmp (av_rs 0 rfl rfl))⟩,
        .inl ⟨wants_plain rfl, does_move _ (.inr rfl) rfl rfl rfl rfl (ar_const (fun _ => rfl))⟩,
        trivial⟩ ?_
      refine nx_sub (fs' := [.slot 0 (VP.str s), .slot 4 (VP.bool (((c : Nat) : Int) == 45)), .slot 5 (VP.int .i64 0), .orow 6 3 1 k.1 (intsV .i64 (pd s k.1)), .slot 7 (VP.int .i64 (((s.size : Nat) : Int) - 1 - ((k.1 : Nat) : Int))), .slot 21 (VP.int .i64 (((s.size : Nat) : Int) - 1 - ((k.1 : Nat) : Int))), .slot 22 (VP.int .i64 0), .slot 23 (VP.bool (decide ((((s.size : Nat) : Int) - 1 - ((k.1 : Nat) : Int)) ≥ 0))), .slot 26 (VP.str s), .slot 27 (VP.int .i64 (((s.size : Nat) : Int) - 1 - ((k.1 : Nat) : Int))), .slot 28 (VP.int .u8 ((bt s k.1 : Nat) : Int)), .slot 29 (VP.bool (decide (((bt s k.1 : Nat) : Int) < 48))), .slot 30 (VP.bool (decide (((bt s k.1 : Nat) : Int) < 48))), .slot 31 (VP.undef), .slot 32 (VP.undef), .slot 33 (VP.undef), .slot 34 (VP.undef), .slot 35 (VP.bool true), .slot 36 (VP.agg [VP.bool false, VP.nilS]), .box 2 72 [VP.bool false, VP.nilS], .slot 3 (VP.bool false)]) [0, 1, 2, 3, 4, 5, 6, 7, 8, 9, 10, 11, 12, 13, 14, 15, 16, 17, 18, 19, 20] rfl ?_
      refine nx_then ?_
      refine t_ret ?_
      refine rt_then ?_
      refine rt_block ?_
      refine rt_then ?_
      refine rt_then ?_
      refine rt_block ?_
      refine rt_then ?_
      exact rt_two rfl (res_agg 19 ty_agg_collatorref01_Num rfl) (res_tmp 20 rfl)
    case inr.inl =>
      rw [refW_bad h (isD_hi hd.2)]
      refine t_seq ?_
      refine t_seq ?_
      refine t_region (F := ⟨_, _, _, _⟩) [.slot 0 (VP.str s), .slot 4 (VP.bool (((c : Nat) : Int) == 45)), .slot 5 (VP.int .i64 0), .orow 6 3 1 k.1 (intsV .i64 (pd s k.1)), .slot 7 (VP.int .i64 (((s.size : Nat) : Int) - 1 - ((k.1 : Nat) : Int))), .box 2 72 [VP.bool false, VP.nilS]] [] [(0, .slot 21 (VP.int .i64 (((s.size : Nat) : Int) - 1 - ((k.1 : Nat) : Int)))), (1, .slot 22 (VP.int .i64 0)), (2, .slot 23 (VP.bool (decide ((((s.size : Nat) : Int) - 1 - ((k.1 : Nat) : Int)) ≥ 0))))] [] [0, 1, 2, 3, 4, 5] [] rfl rfl follow rfl ⟨
        .inl ⟨wants_plain rfl, does_move _ (.inl rfl) rfl rfl rfl rfl (ar_tmp (av_fs 4 rfl))⟩,
        .inl ⟨wants_plain rfl, does_move _ (.inl rfl) rfl rfl rfl rfl (ar_tmp (av_fs 2 rfl))⟩,
        .inl ⟨wants_plain rfl, does_cmp (m := (((s.size : Nat) : Int) - 1 - ((k.1 : Nat) : Int))) (n := 0) _ _ _ _ _ rfl rfl rfl rfl rfl rfl .i64 (ar_tmp (av_rs 0 rfl rfl)) (ar_tmp (av_rs 1 rfl rfl))⟩,
        trivial⟩ ?_
      refine nx_sub (fs' := [.slot 0 (VP.str s), .slot 4 (VP.bool (((c : Nat) : Int) == 45)), .slot 5 (VP.int .i64 0), .orow 6 3 1 k.1 (intsV .i64 (pd s k.1)), .slot 7 (VP.int .i64 (((s.size : Nat) : Int) - 1 - ((k.1 : Nat) : Int))), .box 2 72 [VP.bool false, VP.nilS], .slot 21 (VP.int .i64 (((s.size : Nat) : Int) - 1 - ((k.1 : Nat) : Int))), .slot 22 (VP.int .i64 0), .slot 23 (VP.bool (decide ((((s.size : Nat) : Int) - 1 - ((k.1 : Nat) : Int)) ≥ 0)))]) [0, 1, 2, 3, 4, 5, 6, 7, 8] rfl ?_
      refine nx_then ?_
      refine t_cond_te 8 rfl (decide_eq_true (by omega)) ?_
      refine t_skip ?_
      refine nx_then ?_
      refine t_seq ?_
      refine t_block ?_
      refine t_seq ?_
      refine t_seq ?_
      refine t_region (F := ⟨_, _, _, _⟩) [.slot 0 (VP.str s), .slot 4 (VP.bool (((c : Nat) : Int) == 45)), .slot 5 (VP.int .i64 0), .orow 6 3 1 k.1 (intsV .i64 (pd s k.1)), .slot 7 (VP.int .i64 (((s.size : Nat) : Int) - 1 - ((k.1 : Nat) : Int))), .box 2 72 [VP.bool false, VP.nilS], .slot 21 (VP.int .i64 (((s.size : Nat) : Int) - 1 - ((k.1 : Nat) : Int))), .slot 22 (VP.int .i64 0), .slot 23 (VP.bool (decide ((((s.size : Nat) : Int) - 1 - ((k.1 : Nat) : Int)) ≥ 0)))] [] [(0, .slot 26 (VP.str s)), (1, .slot 27 (VP.int .i64 (((s.size : Nat) : Int) - 1 - ((k.1 : Nat) : Int)))), (2, .slot 28 (VP.int .u8 ((bt s k.1 : Nat) : Int))), (3, .slot 29 (VP.bool (decide (((bt s k.1 : Nat) : Int) < 48)))), (4, .slot 30 (VP.bool (decide (((bt s k.1 : Nat) : Int) < 48)))), (5, .slot 31 (VP.str s)), (6, .slot 32 (VP.int .i64 (((s.size : Nat) : Int) - 1 - ((k.1 : Nat) : Int)))), (7, .slot 33 (VP.int .u8 ((bt s k.1 : Nat) : Int))), (8, .slot 34 (VP.bool (decide (((bt s k.1 : Nat) : Int) > 57)))), (9, .slot 35 (VP.bool (decide (((bt s k.1 : Nat) : Int) > 57))))] [] [0, 1, 2, 3, 4, 5, 6, 7, 8] [] rfl rfl follow rfl ⟨
        .inl ⟨wants_plain rfl, does_move _ (.inl rfl) rfl rfl rfl rfl (ar_tmp (av_fs 0 rfl))⟩,
        .inl ⟨wants_plain rfl, does_move _ (.inl rfl) rfl rfl rfl rfl (ar_tmp (av_fs 4 rfl))⟩,
        .inl ⟨wants_plain rfl, does_indexStr (m := (s.size - 1 - k.1)) (n := bt s k.1) _ _ Try.underlying9 rfl rfl rfl rfl rfl (bt_at (by omega)) (ar_tmp (av_rs 0 rfl rfl)) (ar_int_eq (by omega) (ar_tmp (av_rs 1 rfl rfl)))⟩,
        .inl ⟨wants_plain rfl, does_cmp (m := ((bt s k.1 : Nat) : Int)) (n := 48) _ _ _ _ _ rfl rfl rfl rfl rfl rfl .u8 (ar_tmp (av_rs 2 rfl rfl)) (ar_const (fun _ => rfl))⟩,
        .inl ⟨wants_plain rfl, does_move _ (.inl rfl) rfl rfl rfl rfl (ar_tmp (av_rs 3 rfl rfl))⟩,
        .inl ⟨wants_guard false rfl rfl rfl (av_bool (decide_eq_false (by omega)) (av_rs 4 rfl rfl)), does_move _ (.inl rfl) rfl rfl rfl rfl (ar_tmp (av_fs 0 rfl))⟩,
        .inl ⟨wants_guard false rfl rfl rfl (av_bool (decide_eq_false (by omega)) (av_rs 4 rfl rfl)), does_move _ (.inl rfl) rfl rfl rfl rfl (ar_tmp (av_fs 4 rfl))⟩,
        .inl ⟨wants_guard false rfl rfl rfl (av_bool (decide_eq_false (by omega)) (av_rs 4 rfl rfl)), does_indexStr (m := (s.size - 1 - k.1)) (n := bt s k.1) _ _ Try.underlying9 rfl rfl rfl rfl rfl (bt_at (by omega)) (ar_tmp (av_rs 5 rfl rfl)) (ar_int_eq (by omega) (ar_tmp (av_rs 6 rfl rfl)))⟩,
        .inl ⟨wants_guard false rfl rfl rfl (av_bool (decide_eq_false (by omega)) (av_rs 4 rfl rfl)), does_cmp (m := ((bt s k.1 : Nat) : Int)) (n := 57) _ _ _ _ _ rfl rfl rfl rfl rfl rfl .u8 (ar_tmp (av_rs 7 rfl rfl)) (ar_const (fun _ => rfl))⟩,
        .inl ⟨wants_plain rfl, does_pick false _ _ _ rfl rfl rfl rfl rfl (ar_tmp (av_bool (decide_eq_false (by omega)) (av_rs 4 rfl rfl))) (ar_tmp (av_rs 8 rfl rfl))⟩,
        trivial⟩ ?_
      refine nx_sub (fs' := [.slot 0 (VP.str s), .slot 4 (VP.bool (((c : Nat) : Int) == 45)), .slot 5 (VP.int .i64 0), .orow 6 3 1 k.1 (intsV .i64 (pd s k.1)), .slot 7 (VP.int .i64 (((s.size : Nat) : Int) - 1 - ((k.1 : Nat) : Int))), .box 2 72 [VP.bool false, VP.nilS], .slot 21 (VP.int .i64 (((s.size : Nat) : Int) - 1 - ((k.1 : Nat) : Int))), .slot 22 (VP.int .i64 0), .slot 23 (VP.bool (decide ((((s.size : Nat) : Int) - 1 - ((k.1 : Nat) : Int)) ≥ 0))), .slot 26 (VP.str s), .slot 27 (VP.int .i64 (((s.size : Nat) : Int) - 1 - ((k.1 : Nat) : Int))), .slot 28 (VP.int .u8 ((bt s k.1 : Nat) : Int)), .slot 29 (VP.bool (decide (((bt s k.1 : Nat) : Int) < 48))), .slot 30 (VP.bool (decide (((bt s k.1 : Nat) : Int) < 48))), .slot 31 (VP.str s), .slot 32 (VP.int .i64 (((s.size : Nat) : Int) - 1 - ((k.1 : Nat) : Int))), .slot 33 (VP.int .u8 ((bt s k.1 : Nat) : Int)), .slot 34 (VP.bool (decide (((bt s k.1 : Nat) : Int) > 57))), .slot 35 (VP.bool (decide (((bt s k.1 : Nat) : Int) > 57)))]) [0, 1, 2, 3, 4, 5, 6, 7, 8, 9, 10, 11, 12, 13, 14, 15, 16, 17, 18] rfl ?_
      refine nx_then ?_
      refine t_cond_te 18 rfl (decide_eq_true (by omega)) ?_
      refine t_seq ?_
      refine t_region (F := ⟨_, _, _, _⟩) [.slot 0 (VP.str s), .slot 4 (VP.bool (((c : Nat) : Int) == 45)), .slot 5 (VP.int .i64 0), .orow 6 3 1 k.1 (intsV .i64 (pd s k.1)), .slot 7 (VP.int .i64 (((s.size : Nat) : Int) - 1 - ((k.1 : Nat) : Int))), .slot 21 (VP.int .i64 (((s.size : Nat) : Int) - 1 - ((k.1 : Nat) : Int))), .slot 22 (VP.int .i64 0), .slot 23 (VP.bool (decide ((((s.size : Nat) : Int) - 1 - ((k.1 : Nat) : Int)) ≥ 0))), .slot 26 (VP.str s), .slot 27 (VP.int .i64 (((s.size : Nat) : Int) - 1 - ((k.1 : Nat) : Int))), .slot 28 (VP.int .u8 ((bt s k.1 : Nat) : Int)), .slot 29 (VP.bool (decide (((bt s k.1 : Nat) : Int) < 48))), .slot 30 (VP.bool (decide (((bt s k.1 : Nat) : Int) < 48))), .slot 31 (VP.str s), .slot 32 (VP.int .i64 (((s.size : Nat) : Int) - 1 - ((k.1 : Nat) : Int))), .slot 33 (VP.int .u8 ((bt s k.1 : Nat) : Int)), .slot 34 (VP.bool (decide (((bt s k.1 : Nat) : Int) > 57))), .slot 35 (VP.bool (decide (((bt s k.1 : Nat) : Int) > 57)))] [(1, .box 2 72 [VP.bool false, VP.nilS])] [(0, .slot 36 (VP.agg [VP.bool false, VP.nilS])), (1, .box 2 72 [VP.bool false, VP.nilS]), (2, .slot 3 (VP.bool false))] [] [0, 1, 2, 3, 4, 6, 7, 8, 9, 10, 11, 12, 13, 14, 15, 16, 17, 18] [5] rfl rfl follow rfl ⟨
        .inl ⟨wants_plain rfl, does_build [VP.bool false, VP.nilS] ty_zero_collatorref01_Num ty_pl_collatorref01_Num rfl rfl rfl rfl rfl z_nil2 (.nil _)⟩,
        .inl ⟨wants_plain rfl, does_storeAgg 2 _ _ ty_agg_collatorref01_Num rfl rfl rfl rfl rfl (pt_box (av_os 0 rfl rfl)) (av_os 0 rfl rfl) (ar_tmp (av_rs 0 rfl rfl))⟩,
        .inl ⟨wants_plain rfl, does_move _ (.inr rfl) rfl rfl rfl rfl (ar_const (fun _ => rfl))⟩,
        trivial⟩ ?_
      refine nx_sub (fs' := [.slot 0 (VP.str s), .slot 4 (VP.bool (((c : Nat) : Int) == 45)), .slot 5 (VP.int .i64 0), .orow 6 3 1 k.1 (intsV .i64 (pd s k.1)), .slot 7 (VP.int .i64 (((s.size : Nat) : Int) - 1 - ((k.1 : Nat) : Int))), .slot 21 (VP.int .i64 (((s.size : Nat) : Int) - 1 - ((k.1 : Nat) : Int))), .slot 22 (VP.int .i64 0), .slot 23 (VP.bool (decide ((((s.size : Nat) : Int) - 1 - ((k.1 : Nat) : Int)) ≥ 0))), .slot 26 (VP.str s), .slot 27 (VP.int .i64 (((s.size : Nat) : Int) - 1 - ((k.1 : Nat) : Int))), .slot 28 (VP.int .u8 ((bt s k.1 : Nat) : Int)), .slot 29 (VP.bool (decide (((bt s k.1 : Nat) : Int) < 48))), .slot 30 (VP.bool (decide (((bt s k.1 : Nat) : Int) < 48))), .slot 31 (VP.str s), .slot 32 (VP.int .i64 (((s.size : Nat) : Int) - 1 - ((k.1 : Nat) : Int))), .slot 33 (VP.int .u8 ((bt s k.1 : Nat) : Int)), .slot 34 (VP.bool (decide (((bt s k.1 : Nat) : Int) > 57))), .slot 35 (VP.bool (decide (((bt s k.1 : Nat) : Int) > 57))), .slot 36 (VP.agg [VP.bool false, VP.nilS]), .box 2 72 [VP.bool false, VP.nilS], .slot 3 (VP.bool false)]) [0, 1, 2, 3, 4, 5, 6, 7, 8, 9, 10, 11, 12, 13, 14, 15, 16, 17, 18, 19, 20] rfl ?_
      refine nx_then ?_
      refine t_ret ?_
      refine rt_then ?_
      refine rt_block ?_
      refine rt_then ?_
      refine rt_then ?_
      refine rt_block ?_
      refine rt_then ?_
      exact rt_two rfl (res_agg 19 ty_agg_collatorref01_Num rfl) (res_tmp 20 rfl)
    case inr.inr =>
      refine t_seq ?_
      refine t_seq ?_
      refine t_region (F := ⟨_, _, _, _⟩) [.slot 0 (VP.str s), .slot 4 (VP.bool (((c : Nat) : Int) == 45)), .slot 5 (VP.int .i64 0), .orow 6 3 1 k.1 (intsV .i64 (pd s k.1)), .slot 7 (VP.int .i64 (((s.size : Nat) : Int) - 1 - ((k.1 : Nat) : Int))), .box 2 72 [VP.bool false, VP.nilS]] [] [(0, .slot 21 (VP.int .i64 (((s.size : Nat) : Int) - 1 - ((k.1 : Nat) : Int)))), (1, .slot 22 (VP.int .i64 0)), (2, .slot 23 (VP.bool (decide ((((s.size : Nat) : Int) - 1 - ((k.1 : Nat) : Int)) ≥ 0))))] [] [0, 1, 2, 3, 4, 5] [] rfl rfl follow rfl ⟨
        .inl ⟨wants_plain rfl, does_move _ (.inl rfl) rfl rfl rfl rfl (ar_tmp (av_fs 4 rfl))⟩,
        .inl ⟨wants_plain rfl, does_move _ (.inl rfl) rfl rfl rfl rfl (ar_tmp (av_fs 2 rfl))⟩,
        .inl ⟨wants_plain rfl, does_cmp (m := (((s.size : Nat) : Int) - 1 - ((k.1 : Nat) : Int))) (n := 0) _ _ _ _ _ rfl rfl rfl rfl rfl rfl .i64 (ar_tmp (av_rs 0 rfl rfl)) (ar_tmp (av_rs 1 rfl rfl))⟩,
        trivial⟩ ?_
      refine nx_sub (fs' := [.slot 0 (VP.str s), .slot 4 (VP.bool (((c : Nat) : Int) == 45)), .slot 5 (VP.int .i64 0), .orow 6 3 1 k.1 (intsV .i64 (pd s k.1)), .slot 7 (VP.int .i64 (((s.size : Nat) : Int) - 1 - ((k.1 : Nat) : Int))), .box 2 72 [VP.bool false, VP.nilS], .slot 21 (VP.int .i64 (((s.size : Nat) : Int) - 1 - ((k.1 : Nat) : Int))), .slot 22 (VP.int .i64 0), .slot 23 (VP.bool (decide ((((s.size : Nat) : Int) - 1 - ((k.1 : Nat) : Int)) ≥ 0)))]) [0, 1, 2, 3, 4, 5, 6, 7, 8] rfl ?_
      refine nx_then ?_
      refine t_cond_te 8 rfl (decide_eq_true (by omega)) ?_
      refine t_skip ?_
      refine nx_then ?_
      refine t_seq ?_
      refine t_block ?_
      refine t_seq ?_
      refine t_seq ?_
      refine t_region (F := ⟨_, _, _, _⟩) [.slot 0 (VP.str s), .slot 4 (VP.bool (((c : Nat) : Int) == 45)), .slot 5 (VP.int .i64 0), .orow 6 3 1 k.1 (intsV .i64 (pd s k.1)), .slot 7 (VP.int .i64 (((s.size : Nat) : Int) - 1 - ((k.1 : Nat) : Int))), .box 2 72 [VP.bool false, VP.nilS], .slot 21 (VP.int .i64 (((s.size : Nat) : Int) - 1 - ((k.1 : Nat) : Int))), .slot 22 (VP.int .i64 0), .slot 23 (VP.bool (decide ((((s.size : Nat) : Int) - 1 - ((k.1 : Nat) : Int)) ≥ 0)))] [] [(0, .slot 26 (VP.str s)), (1, .slot 27 (VP.int .i64 (((s.size : Nat) : Int) - 1 - ((k.1 : Nat) : Int)))), (2, .slot 28 (VP.int .u8 ((bt s k.1 : Nat) : Int))), (3, .slot 29 (VP.bool (decide (((bt s k.1 : Nat) : Int) < 48)))), (4, .slot 30 (VP.bool (decide (((bt s k.1 : Nat) : Int) < 48)))), (5, .slot 31 (VP.str s)), (6, .slot 32 (VP.int .i64 (((s.size : Nat) : Int) - 1 - ((k.1 : Nat) : Int)))), (7, .slot 33 (VP.int .u8 ((bt s k.1 : Nat) : Int))), (8, .slot 34 (VP.bool (decide (((bt s k.1 : Nat) : Int) > 57)))), (9, .slot 35 (VP.bool (decide (((bt s k.1 : Nat) : Int) > 57))))] [] [0, 1, 2, 3, 4, 5, 6, 7, 8] [] rfl rfl follow rfl ⟨
        .inl ⟨wants_plain rfl, does_move _ (.inl rfl) rfl rfl rfl rfl (ar_tmp (av_fs 0 rfl))⟩,
        .inl ⟨wants_plain rfl, does_move _ (.inl rfl) rfl rfl rfl rfl (ar_tmp (av_fs 4 rfl))⟩,
        .inl ⟨wants_plain rfl, does_indexStr (m := (s.size - 1 - k.1)) (n := bt s k.1) _ _ Try.underlying9 rfl rfl rfl rfl rfl (bt_at (by omega)) (ar_tmp (av_rs 0 rfl rfl)) (ar_int_eq (by omega) (ar_tmp (av_rs 1 rfl rfl)))⟩,
        .inl ⟨wants_plain rfl, does_cmp (m := ((bt s k.1 : Nat) : Int)) (n := 48) _ _ _ _ _ rfl rfl rfl rfl rfl rfl .u8 (ar_tmp (av_rs 2 rfl rfl)) (ar_const (fun _ => rfl))⟩,
        .inl ⟨wants_plain rfl, does_move _ (.inl rfl) rfl rfl rfl rfl (ar_tmp (av_rs 3 rfl rfl))⟩,
        .inl ⟨wants_guard false rfl rfl rfl (av_bool (decide_eq_false (by omega)) (av_rs 4 rfl rfl)), does_move _ (.inl rfl) rfl rfl rfl rfl (ar_tmp (av_fs 0 rfl))⟩,
        .inl ⟨wants_guard false rfl rfl rfl (av_bool (decide_eq_false (by omega)) (av_rs 4 rfl rfl)), does_move _ (.inl rfl) rfl rfl rfl rfl (ar_tmp (av_fs 4 rfl))⟩,
        .inl ⟨wants_guard false rfl rfl rfl (av_bool (decide_eq_false (by omega)) (av_rs 4 rfl rfl)), does_indexStr (m := (s.size - 1 - k.1)) (n := bt s k.1) _ _ Try.underlying9 rfl rfl rfl rfl rfl (bt_at (by omega)) (ar_tmp (av_rs 5 rfl rfl)) (ar_int_eq (by omega) (ar_tmp (av_rs 6 rfl rfl)))⟩,
        .inl ⟨wants_guard false rfl rfl rfl (av_bool (decide_eq_false (by omega)) (av_rs 4 rfl rfl)), does_cmp (m := ((bt s k.1 : Nat) : Int)) (n := 57) _ _ _ _ _ rfl rfl rfl rfl rfl rfl .u8 (ar_tmp (av_rs 7 rfl rfl)) (ar_const (fun _ => rfl))⟩,
        .inl ⟨wants_plain rfl, does_pick false _ _ _ rfl rfl rfl rfl rfl (ar_tmp (av_bool (decide_eq_false (by omega)) (av_rs 4 rfl rfl))) (ar_tmp (av_rs 8 rfl rfl))⟩,
        trivial⟩ ?_
      refine nx_sub (fs' := [.slot 0 (VP.str s), .slot 4 (VP.bool (((c : Nat) : Int) == 45)), .slot 5 (VP.int .i64 0), .orow 6 3 1 k.1 (intsV .i64 (pd s k.1)), .slot 7 (VP.int .i64 (((s.size : Nat) : Int) - 1 - ((k.1 : Nat) : Int))), .box 2 72 [VP.bool false, VP.nilS], .slot 21 (VP.int .i64 (((s.size : Nat) : Int) - 1 - ((k.1 : Nat) : Int))), .slot 22 (VP.int .i64 0), .slot 23 (VP.bool (decide ((((s.size : Nat) : Int) - 1 - ((k.1 : Nat) : Int)) ≥ 0))), .slot 26 (VP.str s), .slot 27 (VP.int .i64 (((s.size : Nat) : Int) - 1 - ((k.1 : Nat) : Int))), .slot 28 (VP.int .u8 ((bt s k.1 : Nat) : Int)), .slot 29 (VP.bool (decide (((bt s k.1 : Nat) : Int) < 48))), .slot 30 (VP.bool (decide (((bt s k.1 : Nat) : Int) < 48))), .slot 31 (VP.str s), .slot 32 (VP.int .i64 (((s.size : Nat) : Int) - 1 - ((k.1 : Nat) : Int))), .slot 33 (VP.int .u8 ((bt s k.1 : Nat) : Int)), .slot 34 (VP.bool (decide (((bt s k.1 : Nat) : Int) > 57))), .slot 35 (VP.bool (decide (((bt s k.1 : Nat) : Int) > 57)))]) [0, 1, 2, 3, 4, 5, 6, 7, 8, 9, 10, 11, 12, 13, 14, 15, 16, 17, 18] rfl ?_
      refine nx_then ?_
      refine t_cond_fe 18 rfl (decide_eq_false (by omega)) ?_
      refine t_skip ?_
      refine nx_then ?_
      refine t_region (F := ⟨_, _, _, _⟩) [.slot 0 (VP.str s), .slot 4 (VP.bool (((c : Nat) : Int) == 45)), .slot 5 (VP.int .i64 0), .slot 7 (VP.int .i64 (((s.size : Nat) : Int) - 1 - ((k.1 : Nat) : Int))), .box 2 72 [VP.bool false, VP.nilS], .slot 21 (VP.int .i64 (((s.size : Nat) : Int) - 1 - ((k.1 : Nat) : Int))), .slot 22 (VP.int .i64 0), .slot 23 (VP.bool (decide ((((s.size : Nat) : Int) - 1 - ((k.1 : Nat) : Int)) ≥ 0))), .slot 26 (VP.str s), .slot 27 (VP.int .i64 (((s.size : Nat) : Int) - 1 - ((k.1 : Nat) : Int))), .slot 28 (VP.int .u8 ((bt s k.1 : Nat) : Int)), .slot 29 (VP.bool (decide (((bt s k.1 : Nat) : Int) < 48))), .slot 30 (VP.bool (decide (((bt s k.1 : Nat) : Int) < 48))), .slot 31 (VP.str s), .slot 32 (VP.int .i64 (((s.size : Nat) : Int) - 1 - ((k.1 : Nat) : Int))), .slot 33 (VP.int .u8 ((bt s k.1 : Nat) : Int)), .slot 34 (VP.bool (decide (((bt s k.1 : Nat) : Int) > 57))), .slot 35 (VP.bool (decide (((bt s k.1 : Nat) : Int) > 57)))] [(7, .orow 6 3 1 k.1 (intsV .i64 (pd s k.1)))] [(1, .slot 38 (VP.str s)), (2, .slot 39 (VP.int .i64 (((s.size : Nat) : Int) - 1 - ((k.1 : Nat) : Int)))), (3, .slot 40 (VP.int .u8 ((bt s k.1 : Nat) : Int))), (4, .slot 41 (VP.int .i64 ((bt s k.1 : Nat) : Int))), (5, .slot 42 (VP.int .i64 ((dgt (bt s k.1) : Nat) : Int))), (7, .orow 44 3 1 (k.1 + 1) (intsV .i64 (pd s (k.1 + 1)))), (8, .orow 6 3 1 (k.1 + 1) (intsV .i64 (pd s (k.1 + 1))))] [(0, 7, .orow 37 3 1 k.1 (intsV .i64 (pd s k.1))), (6, 7, .arr 43 3 1 [VP.int .i64 ((dgt (bt s k.1) : Nat) : Int)])] [0, 1, 2, 4, 5, 6, 7, 8, 9, 10, 11, 12, 13, 14, 15, 16, 17, 18] [3] rfl rfl follow rfl ⟨
        .inl ⟨wants_plain rfl, does_moveRow _ (.inl rfl) rfl rfl rfl rfl rfl (av_os 0 rfl rfl)⟩,
        .inl ⟨wants_plain rfl, does_move _ (.inl rfl) rfl rfl rfl rfl (ar_tmp (av_fs 0 rfl))⟩,
        .inl ⟨wants_plain rfl, does_move _ (.inl rfl) rfl rfl rfl rfl (ar_tmp (av_fs 3 rfl))⟩,
        .inl ⟨wants_plain rfl, does_indexStr (m := (s.size - 1 - k.1)) (n := bt s k.1) _ _ Try.underlying9 rfl rfl rfl rfl rfl (bt_at (by omega)) (ar_tmp (av_rs 0 rfl rfl)) (ar_int_eq (by omega) (ar_tmp (av_rs 1 rfl rfl)))⟩,
        .inl ⟨wants_plain rfl, does_conv (n := ((bt s k.1 : Nat) : Int)) _ Try.underlying5 Try.underlying3 rfl rfl rfl rfl rfl (IntWalk.i64_in _ (by omega)) (ar_tmp (av_rs 2 rfl rfl))⟩,
        .inl ⟨wants_plain rfl, does_subE (m := ((bt s k.1 : Nat) : Int)) (n := 48) (x := ((dgt (bt s k.1) : Nat) : Int)) (by omega) _ _ _ _ rfl rfl rfl rfl rfl (by omega) (ar_tmp (av_rs 3 rfl rfl)) (ar_const (fun _ => rfl))⟩,
        .inl ⟨wants_plain rfl, does_buildSlice (sz := 1) [VP.int .i64 0] ty_zero_int (by kernel_rfl) (fun w => run_sizeOne ty_one_int w) rfl rfl rfl rfl rfl rfl (by kernel_rfl) (fun w => by exact z_i64 w) (.cons 0 [VP.int .i64 ((dgt (bt s k.1) : Nat) : Int)] rfl rfl (ar_cells_one rfl (ar_tmp (av_rs 4 rfl rfl))) (.nil _))⟩,
        .inl ⟨wants_plain rfl, does_append (n := k.1) (m := 1) elemI64 _ _ rfl rfl rfl rfl rfl rfl rfl (pd_snoc (by omega)) rfl (intsV_ab _ _) ⟨by omega, by decide⟩ (av_ms 0 rfl rfl rfl) (av_ms 1 rfl rfl rfl)⟩,
        .inl ⟨wants_plain rfl, does_moveRow _ (.inr rfl) rfl rfl rfl rfl rfl (av_rs 5 rfl rfl)⟩,
        trivial⟩ ?_
      refine nx_sub (fs' := [.slot 0 (VP.str s), .slot 4 (VP.bool (((c : Nat) : Int) == 45)), .slot 5 (VP.int .i64 0), .slot 7 (VP.int .i64 (((s.size : Nat) : Int) - 1 - ((k.1 : Nat) : Int))), .box 2 72 [VP.bool false, VP.nilS], .slot 21 (VP.int .i64 (((s.size : Nat) : Int) - 1 - ((k.1 : Nat) : Int))), .slot 22 (VP.int .i64 0), .slot 23 (VP.bool (decide ((((s.size : Nat) : Int) - 1 - ((k.1 : Nat) : Int)) ≥ 0))), .slot 26 (VP.str s), .slot 27 (VP.int .i64 (((s.size : Nat) : Int) - 1 - ((k.1 : Nat) : Int))), .slot 28 (VP.int .u8 ((bt s k.1 : Nat) : Int)), .slot 29 (VP.bool (decide (((bt s k.1 : Nat) : Int) < 48))), .slot 30 (VP.bool (decide (((bt s k.1 : Nat) : Int) < 48))), .slot 31 (VP.str s), .slot 32 (VP.int .i64 (((s.size : Nat) : Int) - 1 - ((k.1 : Nat) : Int))), .slot 33 (VP.int .u8 ((bt s k.1 : Nat) : Int)), .slot 34 (VP.bool (decide (((bt s k.1 : Nat) : Int) > 57))), .slot 35 (VP.bool (decide (((bt s k.1 : Nat) : Int) > 57))), .slot 38 (VP.str s), .slot 39 (VP.int .i64 (((s.size : Nat) : Int) - 1 - ((k.1 : Nat) : Int))), .slot 40 (VP.int .u8 ((bt s k.1 : Nat) : Int)), .slot 41 (VP.int .i64 ((bt s k.1 : Nat) : Int)), .slot 42 (VP.int .i64 ((dgt (bt s k.1) : Nat) : Int)), .orow 44 3 1 (k.1 + 1) (intsV .i64 (pd s (k.1 + 1))), .orow 6 3 1 (k.1 + 1) (intsV .i64 (pd s (k.1 + 1)))]) [0, 1, 2, 3, 4, 5, 6, 7, 8, 9, 10, 11, 12, 13, 14, 15, 16, 17, 18, 19, 20, 21, 22, 23, 24] rfl ?_
      refine nx_block ?_
      refine nx_then ?_
      refine t_region (F := ⟨_, _, _, _⟩) [.slot 0 (VP.str s), .slot 4 (VP.bool (((c : Nat) : Int) == 45)), .slot 5 (VP.int .i64 0), .box 2 72 [VP.bool false, VP.nilS], .slot 21 (VP.int .i64 (((s.size : Nat) : Int) - 1 - ((k.1 : Nat) : Int))), .slot 22 (VP.int .i64 0), .slot 23 (VP.bool (decide ((((s.size : Nat) : Int) - 1 - ((k.1 : Nat) : Int)) ≥ 0))), .slot 26 (VP.str s), .slot 27 (VP.int .i64 (((s.size : Nat) : Int) - 1 - ((k.1 : Nat) : Int))), .slot 28 (VP.int .u8 ((bt s k.1 : Nat) : Int)), .slot 29 (VP.bool (decide (((bt s k.1 : Nat) : Int) < 48))), .slot 30 (VP.bool (decide (((bt s k.1 : Nat) : Int) < 48))), .slot 31 (VP.str s), .slot 32 (VP.int .i64 (((s.size : Nat) : Int) - 1 - ((k.1 : Nat) : Int))), .slot 33 (VP.int .u8 ((bt s k.1 : Nat) : Int)), .slot 34 (VP.bool (decide (((bt s k.1 : Nat) : Int) > 57))), .slot 35 (VP.bool (decide (((bt s k.1 : Nat) : Int) > 57))), .slot 38 (VP.str s), .slot 39 (VP.int .i64 (((s.size : Nat) : Int) - 1 - ((k.1 : Nat) : Int))), .slot 40 (VP.int .u8 ((bt s k.1 : Nat) : Int)), .slot 41 (VP.int .i64 ((bt s k.1 : Nat) : Int)), .slot 42 (VP.int .i64 ((dgt (bt s k.1) : Nat) : Int)), .orow 44 3 1 (k.1 + 1) (intsV .i64 (pd s (k.1 + 1))), .orow 6 3 1 (k.1 + 1) (intsV .i64 (pd s (k.1 + 1)))] [(2, .slot 7 (VP.int .i64 (((s.size : Nat) : Int) - 1 - ((k.1 : Nat) : Int))))] [(0, .slot 24 (VP.int .i64 (((s.size : Nat) : Int) - 1 - ((k.1 : Nat) : Int)))), (1, .slot 25 (VP.int .i64 (((s.size : Nat) : Int) - 1 - (((k.1 + 1) : Nat) : Int)))), (2, .slot 7 (VP.int .i64 (((s.size : Nat) : Int) - 1 - (((k.1 + 1) : Nat) : Int))))] [] [0, 1, 2, 4, 5, 6, 7, 8, 9, 10, 11, 12, 13, 14, 15, 16, 17, 18, 19, 20, 21, 22, 23, 24] [3] rfl rfl follow rfl ⟨
        .inl ⟨wants_plain rfl, does_move _ (.inl rfl) rfl rfl rfl rfl (ar_tmp (av_os 0 rfl rfl))⟩,
        .inl ⟨wants_plain rfl, does_subE (m := (((s.size : Nat) : Int) - 1 - ((k.1 : Nat) : Int))) (n := 1) (x := (((s.size : Nat) : Int) - 1 - (((k.1 + 1) : Nat) : Int))) (by omega) _ _ _ _ rfl rfl rfl rfl rfl (by omega) (ar_tmp (av_rs 0 rfl rfl)) (ar_const (fun _ => rfl))⟩,
        .inl ⟨wants_plain rfl, does_move _ (.inr rfl) rfl rfl rfl rfl (ar_tmp (av_rs 1 rfl rfl))⟩,
        trivial⟩ ?_
      refine nx_sub (fs' := [.slot 0 (VP.str s), .slot 4 (VP.bool (((c : Nat) : Int) == 45)), .slot 5 (VP.int .i64 0), .box 2 72 [VP.bool false, VP.nilS], .slot 21 (VP.int .i64 (((s.size : Nat) : Int) - 1 - ((k.1 : Nat) : Int))), .slot 22 (VP.int .i64 0), .slot 23 (VP.bool (decide ((((s.size : Nat) : Int) - 1 - ((k.1 : Nat) : Int)) ≥ 0))), .slot 26 (VP.str s), .slot 27 (VP.int .i64 (((s.size : Nat) : Int) - 1 - ((k.1 : Nat) : Int))), .slot 28 (VP.int .u8 ((bt s k.1 : Nat) : Int)), .slot 29 (VP.bool (decide (((bt s k.1 : Nat) : Int) < 48))), .slot 30 (VP.bool (decide (((bt s k.1 : Nat) : Int) < 48))), .slot 31 (VP.str s), .slot 32 (VP.int .i64 (((s.size : Nat) : Int) - 1 - ((k.1 : Nat) : Int))), .slot 33 (VP.int .u8 ((bt s k.1 : Nat) : Int)), .slot 34 (VP.bool (decide (((bt s k.1 : Nat) : Int) > 57))), .slot 35 (VP.bool (decide (((bt s k.1 : Nat) : Int) > 57))), .slot 38 (VP.str s), .slot 39 (VP.int .i64 (((s.size : Nat) : Int) - 1 - ((k.1 : Nat) : Int))), .slot 40 (VP.int .u8 ((bt s k.1 : Nat) : Int)), .slot 41 (VP.int .i64 ((bt s k.1 : Nat) : Int)), .slot 42 (VP.int .i64 ((dgt (bt s k.1) : Nat) : Int)), .orow 44 3 1 (k.1 + 1) (intsV .i64 (pd s (k.1 + 1))), .orow 6 3 1 (k.1 + 1) (intsV .i64 (pd s (k.1 + 1))), .slot 24 (VP.int .i64 (((s.size : Nat) : Int) - 1 - ((k.1 : Nat) : Int))), .slot 25 (VP.int .i64 (((s.size : Nat) : Int) - 1 - (((k.1 + 1) : Nat) : Int))), .slot 7 (VP.int .i64 (((s.size : Nat) : Int) - 1 - (((k.1 + 1) : Nat) : Int)))]) [0, 1, 2, 3, 4, 5, 6, 7, 8, 9, 10, 11, 12, 13, 14, 15, 16, 17, 18, 19, 20, 21, 22, 23, 24, 25, 26] rfl ?_
      exact nx_round ⟨k.1 + 1, by omega, fun j hj => by rcases Nat.lt_succ_iff_lt_or_eq.1 hj with hj | rfl; exact k.2.2 j hj; exact hd.1⟩ (by show s.size - (k.1 + 1) < s.size - k.1; omega) [0, 1, 2, 23, 26, 3] rfl
end Go.Proofs.Ytogodjiemgilaaa
