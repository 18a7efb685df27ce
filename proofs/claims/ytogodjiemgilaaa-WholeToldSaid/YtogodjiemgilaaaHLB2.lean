/- The logic over slots and boxes: structs and slices that are built. -/
import Derived.Test.YtogodjiemgilaaaHLB
namespace Go.Proofs.Ytogodjiemgilaaa
open Go.RowKit

theorem fold_set (off : Nat) : ∀ (vs : List Value) (k : Nat) (cs : Array Value), off + k + vs.length ≤ cs.size →
    (vs.zipIdx k).foldl (fun (cs : Array Value) (x : Value × Nat) => cs.setIfInBounds (off + x.2) x.1) cs = (cs.toList.take (off + k) ++ vs ++ cs.toList.drop (off + k + vs.length)).toArray
  | [], k, cs, _ => by simp
  | v :: vs, k, cs, h => by
    simp only [List.length_cons] at h
    rw [List.zipIdx_cons, List.foldl_cons, fold_set off vs (k + 1) _ (by simp; omega)]
    simp only [Array.toList_setIfInBounds, List.length_cons]
    congr 1
    have h1 : (cs.toList.set (off + k) v).take (off + (k + 1)) = cs.toList.take (off + k) ++ [v] := by
      rw [show off + (k + 1) = off + k + 1 by omega, List.take_succ_eq_append_getElem (by simp; omega)]
      simp [List.take_set_of_le]
    have h2 : (cs.toList.set (off + k) v).drop (off + (k + 1) + vs.length) = cs.toList.drop (off + k + (vs.length + 1)) := by
      rw [List.drop_set_of_lt (by omega)]
      congr 1; omega
    rw [h1, h2]
    simp
theorem fold_set' (off : Nat) (vs : Array Value) (cs : Array Value) (h : off + vs.size ≤ cs.size) :
    vs.zipIdx.foldl (fun (cs : Array Value) (x : Value × Nat) => cs.setIfInBounds (off + x.2) x.1) cs = (cs.toList.take off ++ vs.toList ++ cs.toList.drop (off + vs.size)).toArray := by
  have := fold_set off vs.toList 0 cs (by simpa using h)
  rw [← Array.foldl_toList]
  simpa using this

def spl (ps : List VP) (off : Nat) (qs : List VP) : List VP := ps.take off ++ qs ++ ps.drop (off + qs.length)
/-- a value of n cells -/
def cellsAre (qs : List VP) (v : Value) (w : World) : Prop := v.cells.size = qs.length ∧ All2 qs v.cells.toList w

inductive Parts (X : Cx) (i : Nat) (pre suc : List Nat) (place : Nat → Option (Nat × Nat)) : List (Nat × Operand) → List VP → List VP → Prop where
  | nil (ps : List VP) : Parts X i pre suc place [] ps ps
  | cons {f : Nat} {x : Operand} {rest : List (Nat × Operand)} {ps ps' : List VP} (off : Nat) (qs : List VP) (hp : place f = some (off, qs.length)) (hl : decide (off + qs.length ≤ ps.length) = true) (hx : Ar X i pre suc x (cellsAre qs))
      (h : Parts X i pre suc place rest (spl ps off qs) ps') : Parts X i pre suc place ((f, x) :: rest) ps ps'

section
variable {X : Cx} {i : Nat} {pre suc : List Nat}
theorem parts_fill {place : Nat → Option (Nat × Nat)} {c : Nat → Bool} {a : Act} {w : World} (s : Sit X i pre suc c a w) : ∀ {parts : List (Nat × Operand)} {ps ps' : List VP}, Parts X i pre suc place parts ps ps' → ∀ (cs : List Value), All2 ps cs w →
    ∃ ds : List Value, Instr.fill place cs.toArray (parts.map fun x => (x.1, a.eval x.2)) = some ds.toArray ∧ All2 ps' ds w := by
  intro parts ps ps' h
  induction h with
  | nil ps => intro cs hc; exact ⟨cs, rfl, hc⟩
  | cons off qs hp hl hx h ih =>
    intro cs hc
    obtain ⟨h1, h2⟩ := hx c a w s
    have hl := of_decide_eq_true hl
    have hlen := hc.len
    obtain ⟨ds, e1, e2⟩ := ih (cs.take off ++ (a.eval _).cells.toList ++ cs.drop (off + qs.length)) (((hc.take off).app h2).app (hc.drop _))
    refine ⟨ds, ?_, e2⟩
    rw [List.map_cons]
    unfold Instr.fill
    simp only [hp, h1]
    rw [if_neg (by simp; omega)]
    have := fold_set' off (a.eval _).cells cs.toArray (by rw [h1]; simp; omega)
    rw [h1] at this
    rw [← e1]
    congr 1

/-- where a struct's fields lie -/
def placesOf (P : Program) (T : TypeId) (pl : Array (Nat × Nat)) : Prop :=
  ∃ fs, P.underlying T = some (.struct fs) ∧ ∀ w, (fs.mapM fun f => (do pure (f.offset, ← sizeOf f.type) : Sem (Nat × Nat))).run P w = .ok pl w

theorem ar_cells_agg {x : Operand} {qs : List VP} (h : Ar X i pre suc x (VP.agg qs).p) : Ar X i pre suc x (cellsAre qs) := fun c a w s => by
  obtain ⟨cs, h1, h2⟩ := h c a w s
  rw [h1]
  exact ⟨by simp [Value.cells, h2.len], by simpa [Value.cells] using h2⟩
theorem ar_cells_one {x : Operand} {q : VP} (h1 : q.one = true) (h : Ar X i pre suc x q.p) : Ar X i pre suc x (cellsAre [q]) := fun c a w s => by
  have h3 := h c a w s
  have h2 := q.hone h1 _ _ h3
  have h4 : (a.eval x).cells = #[a.eval x] := by
    generalize a.eval x = v at *
    cases v <;> first | rfl | (simp [Value.oneCell'] at h2)
  unfold cellsAre
  rw [h4]
  exact ⟨rfl, h3, trivial⟩

theorem does_build {o : Oper} {d : Nat} {T : TypeId} {parts : Array (Nat × Operand)} {zs : List Value} {pl : Array (Nat × Nat)} {ps : List VP} (ps0 : List VP) (hz : zeroOf X.P T zs) (hpl : placesOf X.P T pl) (hop : o.op = .build T parts) (hd : o.dst = some d) (hlt : (decide (d < X.N) && !X.B.contains d) = true) (hc : chk X i suc d = true)
    (hr : resOf X i = [(i, .slot d (VP.agg ps))]) (h0 : ∀ w, All2 ps0 zs w) (h : Parts X i pre suc (fun f => pl[f]?) parts.toList ps0 ps) : Does X i pre suc o :=
  does_run hd hlt hc hr fun c a w s => by
    obtain ⟨ds, e1, e2⟩ := parts_fill s h zs (h0 w)
    refine ⟨.agg ds.toArray, ?_, ⟨ds, rfl, e2⟩⟩
    obtain ⟨fs, hu, hm⟩ := hpl
    unfold zeroOf at hz
    obtain ⟨ti, h1, h2⟩ := Option.bind_eq_some_iff.1 hz
    obtain ⟨v, h3, h4⟩ := Option.map_eq_some_iff.1 h2
    have hz' : (zeroValue T).run X.P w = .ok v w := by simp [zeroValue, typeInfo, h1, h3]
    have hcs : v.cells = zs.toArray := by rw [← h4]
    unfold execOp; rw [hop]
    have hpt : (Array.map (fun x => (x.1, a.eval x.2)) parts).toList = parts.toList.map (fun x => (x.1, a.eval x.2)) := by simp
    have hb : (Instr.build T (parts.map fun x => (x.1, a.eval x.2))).run X.P w = .ok (.agg ds.toArray) w := by
      unfold Instr.build
      simp only [Sem.run_bind, hz', Result.andThen_ok, run_underlying hu, hm w, hpt, hcs, e1, Sem.run_pure]
    have hb' : (Instr.build T (parts.map fun (i, x) => (i, a.eval x))).run X.P w = .ok (.agg ds.toArray) w := hb
    simp only [Sem.run_bind, hb', Result.andThen_ok, Sem.run_pure]

theorem run_eqBool {P : Program} (w : World) (d : Nat) {T : TypeId} (hu : P.underlying T = some .bool) (u v : Bool) : (Op.equalIn (d + 1) T (.bool u) (.bool v)).run P w = .ok (u == v) w := by
  simp [Op.equalIn, run_underlying hu]
theorem run_eqlBool {P : Program} (w : World) {T : TypeId} (hu : P.underlying T = some .bool) (u v : Bool) : (binOp .eql T (.bool u) (.bool v)).run P w = .ok (.bool (u == v)) w := by
  simp only [binOp]
  simp [Op.equal, Op.maxDepth, run_eqBool w 9999 hu]
theorem run_neqBool {P : Program} (w : World) {T : TypeId} (hu : P.underlying T = some .bool) (u v : Bool) : (binOp .neq T (.bool u) (.bool v)).run P w = .ok (.bool (!(u == v))) w := by
  simp only [binOp]
  simp [Op.equal, Op.maxDepth, run_eqBool w 9999 hu]
theorem does_eqBool {o : Oper} {d : Nat} {u v b : Bool} (op : BinOp) (T T' : TypeId) (y z : Operand) (hu : X.P.underlying T = some .bool) (hop : o.op = .binOp op T y z T') (hd : o.dst = some d) (hlt : (decide (d < X.N) && !X.B.contains d) = true) (hc : chk X i suc d = true)
    (hr : resOf X i = [(i, .slot d (VP.bool b))]) (hb : (match op with | .eql => some (u == v) | .neq => some (!(u == v)) | _ => none) = some b)
    (h1 : Ar X i pre suc y (VP.bool u).p) (h2 : Ar X i pre suc z (VP.bool v).p) : Does X i pre suc o :=
  does_run hd hlt hc hr fun c a w s => by
    have e1 : a.eval y = .bool u := h1 c a w s
    have e2 : a.eval z = .bool v := h2 c a w s
    refine ⟨.bool b, ?_, rfl⟩
    unfold execOp; rw [hop]
    cases op <;> first
      | (cases hb; done)
      | (have hb' := Option.some.inj hb; subst hb'; simp [e1, e2, eqGuard, run_eqlBool w hu, run_neqBool w hu])
theorem does_cat {o : Oper} {d : Nat} {u v : ByteArray} (T T' : TypeId) (y z : Operand) (hop : o.op = .binOp .add T y z T') (hd : o.dst = some d) (hlt : (decide (d < X.N) && !X.B.contains d) = true) (hc : chk X i suc d = true)
    (hr : resOf X i = [(i, .slot d (VP.str (u ++ v)))]) (hs : u.size + v.size ≤ 1000000)
    (h1 : Ar X i pre suc y (VP.str u).p) (h2 : Ar X i pre suc z (VP.str v).p) : Does X i pre suc o :=
  does_run hd hlt hc hr fun c a w s => by
    have e1 : a.eval y = .string u := h1 c a w s
    have e2 : a.eval z = .string v := h2 c a w s
    refine ⟨.string (u ++ v), ?_, rfl⟩
    unfold execOp; rw [hop]
    have hx : ¬ ((u.size + v.size : Nat) : Int) > IntKind.i64.max := by
      have : IntKind.i64.max = 9223372036854775807 := rfl
      rw [this]; omega
    simp only [e1, e2, eqGuard, binOp, Op.stringOp, if_neg hx, Sem.run_bind, Sem.run_pure, Result.andThen_ok]
    rfl

/-- a slice of n elements, built -/
theorem does_buildSlice {o : Oper} {d : Nat} {T E : TypeId} {n sz : Nat} {parts : Array (Nat × Operand)} {zs : List Value} {ps : List VP} (ps0 : List VP) (hz : zeroOf X.P E zs) (hu : X.P.underlying T = some (.slice E)) (hsz : ∀ w, (sizeOf E).run X.P w = .ok sz w)
    (hop : o.op = .buildSlice T n parts) (hd : o.dst = some d) (hlt : (decide (d < X.N) && !X.B.contains d) = true) (hc : chk X i suc d = true)
    (hr : resOf X i = [(i, .arr d E n ps)]) (hs : (decide (n * sz ≤ 100) && decide (0 < n * sz)) = true) (hzz : (Array.range (n * sz)).map (fun j => zs.toArray[j % zs.toArray.size]!) = ((List.replicate n zs).flatten).toArray) (h0 : ∀ w, All2 ps0 (List.replicate n zs).flatten w)
    (h : Parts X i pre suc (fun j => some (j * sz, sz)) parts.toList ps0 ps) : Does X i pre suc o :=
  does_val hd hlt hc fun c a w s Q K hK => by
    obtain ⟨ds, e1, e2⟩ := parts_fill s h _ (h0 w)
    simp only [Bool.and_eq_true, decide_eq_true_eq] at hs
    unfold zeroOf at hz
    obtain ⟨ti, h1, h2⟩ := Option.bind_eq_some_iff.1 hz
    obtain ⟨v, h3, h4⟩ := Option.map_eq_some_iff.1 h2
    have hz' : (zeroValue E).run X.P w = .ok v w := by simp [zeroValue, typeInfo, h1, h3]
    have hcs : v.cells = zs.toArray := by rw [← h4]
    have hpt : (Array.map (fun x => (x.1, a.eval x.2)) parts).toList = parts.toList.map (fun x => (x.1, a.eval x.2)) := by simp
    have hb : (Instr.buildSlice T n (parts.map fun x => (x.1, a.eval x.2))).run X.P w = .ok (.slice (some ⟨w.heap.size, 0, none⟩) n n) (w.alloc (.cells ds.toArray E)) := by
      unfold Instr.buildSlice
      simp only [Sem.run_bind, run_underlying hu, Result.andThen_ok, hsz w]
      rw [if_neg (by omega), if_neg (by omega)]
      simp only [Sem.run_bind, Sem.run_pure, hz', Result.andThen_ok, hcs, hpt, hzz, e1, newRow, run_newObj_alloc]
    have hb' : (Instr.buildSlice T n (parts.map fun (i, x) => (i, a.eval x))).run X.P w = .ok (.slice (some ⟨w.heap.size, 0, none⟩) n n) (w.alloc (.cells ds.toArray E)) := hb
    unfold Oper.wp execOp; rw [hop]
    simp only [Sem.run_bind, hb', Result.andThen_ok, Sem.run_pure]
    show K (a.put o.dst _) _
    rw [hd]
    simp only [Bool.and_eq_true, decide_eq_true_eq] at hlt
    exact hK _ _ (Ext.new w _) (res_one hr ⟨w.heap.size, ds, put_eq _ (by rw [s.inv.1.1]; exact hlt.1), Row.new w E ds, e2.st (.of_ext (Ext.new w _))⟩)
end
end Go.Proofs.Ytogodjiemgilaaa
