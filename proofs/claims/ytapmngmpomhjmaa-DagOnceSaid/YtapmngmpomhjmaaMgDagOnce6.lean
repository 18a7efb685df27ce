/- Part of the proof that a law returns true for all that comes in, and that what came in reads as it did. No condition. -/
import Derived.Maps.RangeRun
import Derived.Test.YtapmngmpomhjmaaRows
import Derived.Test.YtapmngmpomhjmaaMgDagOnce5
/- Maps that are gone through, in whatever order. No program stands in this text. -/
namespace Go.Proofs.Ytapmngmpomhjmaa
open Go.RowKit
open Go.ChangeMaps (setBlock)
namespace O
section
variable {κ β : Type}
/-- u is the map, v what goes through it -/
def isRng (u : Value) (K : MKey κ) (g : β → VP) (l : List (κ × β)) (ok : Array MapEntry → Array Nat → Prop) (Z : Foot) (v : Value) (w : World) (S : Foot) : Prop :=
  ∃ r m arr clock seen, v = .pointer (some ⟨r, 0, none⟩) ∧ u = .map (some m) ∧ w.heap[r]? = some (.mapIter (some m) clock seen clock) ∧ w.heap[m]? = some (.map arr clock) ∧ arr.toList.map (·.key) = l.map (fun e => K.enc e.1) ∧ All2 Z (l.map fun e => g e.2) (arr.toList.map (·.val)) w ∧
    (∀ b, S b ↔ b = r ∨ b = m) ∧ r ≠ m ∧ (arr.toList.map (·.born)).Pairwise (· < ·) ∧ (∀ e ∈ arr.toList, e.born < clock) ∧ (l.map (·.1)).Nodup ∧ ok arr seen
def HA.rg (u : Value) (K : MKey κ) (g : β → VP) (l : List (κ × β)) (ok : Array MapEntry → Array Nat → Prop) : HA := ⟨isRng u K g l ok, true, fun _ _ v _ _ ⟨_, _, _, _, _, h, _⟩ n e => (by rw [h] at e; cases e), true, fun _ _ v _ _ ⟨_, _, _, _, _, h, _⟩ => (by rw [h]; rfl),
  fun Z Z' v w w' S ⟨r, m, arr, clock, seen, h1, h2, h3, h4, h5, h6, h7, h8⟩ hz hs hS hc => ⟨r, m, arr, clock, seen, h1, h2, (hS r ((h7 r).2 (.inl rfl))).trans h3, (hS m ((h7 m).2 (.inr rfl))).trans h4, h5, h6.st hz hs hc, h7, h8⟩⟩
/-- n entries are left -/
abbrev HA.rng (u : Value) (K : MKey κ) (g : β → VP) (l : List (κ × β)) (n : Nat) : HA := HA.rg u K g l fun arr seen => (leftOf arr seen).size = n
/-- this one came last -/
def cameLast (l : List (κ × β)) (p : κ × β) (arr : Array MapEntry) (seen : Array Nat) : Prop := ∃ (j : Nat) (e : MapEntry) (seen0 : Array Nat), l[j]? = some p ∧ arr.toList[j]? = some e ∧ seen = seen0.push e.born
abbrev HA.rngAt (u : Value) (K : MKey κ) (g : β → VP) (l : List (κ × β)) (n : Nat) (p : κ × β) : HA := HA.rg u K g l fun arr seen => (leftOf arr seen).size = n ∧ cameLast l p arr seen
abbrev HA.rngE (u : Value) (K : MKey κ) (g : β → VP) (l : List (κ × β)) (n : Nat) : HA := HA.rg u K g l fun arr seen => n = 0 ∨ ∃ n' p, n' < n ∧ (leftOf arr seen).size = n' ∧ cameLast l p arr seen
theorem rg_weak {u : Value} {K : MKey κ} {g : β → VP} {l : List (κ × β)} {ok ok' : Array MapEntry → Array Nat → Prop} (h : ∀ arr seen, ok arr seen → ok' arr seen) : ∀ Z v w S, (HA.rg u K g l ok).p Z v w S → (HA.rg u K g l ok').p Z v w S :=
  fun Z v w S ⟨r, m, arr, clock, seen, h1, h2, h3, h4, h5, h6, h7, h8, h9, h10, h11, h12⟩ => ⟨r, m, arr, clock, seen, h1, h2, h3, h4, h5, h6, h7, h8, h9, h10, h11, h _ _ h12⟩
theorem rng_up {u : Value} {K : MKey κ} {g : β → VP} {l : List (κ × β)} {n : Nat} {p : κ × β} : ∀ Z v w S, (HA.rngAt u K g l n p).p Z v w S → (HA.rng u K g l n).p Z v w S := rg_weak fun _ _ h => h.1
theorem rng_at {u : Value} {K : MKey κ} {g : β → VP} {l : List (κ × β)} {n : Nat} (hn : n ≠ 0) : ∀ Z v w S, (HA.rngE u K g l n).p Z v w S → (HA.ex true true fun q : Nat × (κ × β) => HA.pure (q.1 < n ∧ q.2 ∈ l) (HA.rngAt u K g l q.1 q.2)).p Z v w S :=
  fun Z v w S ⟨r, m, arr, clock, seen, h1, h2, h3, h4, h5, h6, h7, h8, h9, h10, h11, h12⟩ => by
    rcases h12 with h | ⟨n', p, hlt, hs, hc⟩
    · exact absurd h hn
    · obtain ⟨j, e, s0, e1, e2, e3⟩ := hc
      exact ⟨(n', p), ⟨⟨hlt, List.mem_of_getElem? e1⟩, r, m, arr, clock, seen, h1, h2, h3, h4, h5, h6, h7, h8, h9, h10, h11, hs, j, e, s0, e1, e2, e3⟩, fun _ => rfl, fun _ => rfl⟩
/-- a tuple of which the first part, where true, tells this -/
def VP.fst (φ : Prop) : VP := .free (fun v => ∃ (cs : Array Value) (b : Bool), v = .tuple cs ∧ cs[0]? = some (.bool b) ∧ (b = true → φ)) true (fun _ v ⟨_, _, h, _⟩ n e => (by rw [h] at e; cases e)) false (fun h => (by cases h))
section
variable {X : Cx} {i : Nat} {pre suc : List Nat}
theorem does_extractFst {o : Oper} {d k : Nat} {φ : Prop} (hop : o.op = .extract (.tmp k) 0) (hd : o.dst = some d) (hlt : decide (d < X.N) = true) (hc : chk X i pre suc d = true) (hr : resOf X i = [.slot d (VP.may φ)]) (h : Ar X i pre suc (.tmp k) (VP.fst φ).p) : Does X i pre suc o :=
  does_run hd hlt hc hr fun c γ a w s => by
    obtain ⟨cs, b, e1, e2, e3⟩ := h c γ a w s
    refine ⟨.bool b, ?_, b, rfl, e3⟩
    unfold execOp; rw [hop]
    simp [Instr.extract, e1, e2]
theorem does_range {o : Oper} {d id n : Nat} {T kt E : TypeId} {u : Value} {nu one : Bool} {K : MKey κ} {g : β → VP} {l : List (κ × β)} (y : Operand) (hu : X.P.underlying T = some (.map kt E)) (hop : o.op = .range T y) (hd : o.dst = some d) (hlt : decide (d < X.N) = true) (hc : chkM X i pre suc (some d) [id] = true)
    (hr : resOf X i = [.own id (.tmp d) (HA.rng u K g l n)]) (hn : l.length = n) (h : Av X i pre suc (.own id (.val u) (HA.map K (mEnt g l)))) (hy : Ar X i pre suc y (VP.eq u nu one).p) : Does X i pre suc o :=
  does_taken (ids := [id]) hd hlt (by
    have : chkM X i pre suc (some d) [id, id] = chkM X i pre suc (some d) [id] := by
      unfold chkM; congr 1; funext f; cases f <;> simp [okM, Fact.off]
    rw [this]; exact hc) hr fun c γ a w s => by
    subst hn
    have hHas := h c γ a w s
    obtain ⟨u', h1, m, arr, clock, S', e1, e2, e3, e4, e5, e6, e7, e8, e9⟩ := h.h s
    have h1 : u' = u := h1
    subst h1
    have hb := s.g.bnd id _ _ hHas
    have hm := hb m ((e5 m).2 (.inl rfl))
    have ey : a.eval y = .map (some m) := by rw [(hy c γ a w s).1, e1]
    have e4' : AllS γ.Z ((l.map fun e => g e.2).map HA.of) (arr.toList.map (·.val)) w S' := by
      have : (mEnt g l).map (·.2) = (l.map fun e => g e.2).map HA.of := by unfold mEnt; rw [List.map_map, List.map_map]; rfl
      rw [← this]; exact e4
    obtain ⟨a2, hno⟩ := e4'.all2
    refine ⟨.pointer (some ⟨w.heap.size, 0, none⟩), w.alloc (.mapIter (some m) clock #[] clock), fun b => b = w.heap.size ∨ b = m, ?_, Ext.new w _, ⟨w.heap.size, m, arr, clock, #[], rfl, e1, by show (w.heap.push _)[w.heap.size]? = _; simp, ?_, ?_, ?_, fun b => Iff.rfl, by omega, e7, e8, ?_, ?_⟩, fun b hb' => ?_⟩
    · unfold execOp; rw [hop]
      simp [ey, Instr.range, run_underlying hu, getObj, Sem.run, e2, newObj, Result.andThen]
    · have := hm.1
      rw [← e2]; exact (Ext.new w (.mapIter (some m) clock #[] clock)).block m this
    · rw [e3]; unfold mEnt; rw [List.map_map]; rfl
    · exact a2.st (fun _ h => h) (fun b hz => (Ext.new w _).block b (s.g.zof b hz).1) (Calm.of_ext (Ext.new w _))
    · have : (mEnt g l).map (·.1) = l.map (·.1) := by unfold mEnt; rw [List.map_map]; rfl
      rw [← this]; exact e9
    · have hl := a2.len
      have : leftOf arr #[] = arr := by unfold leftOf; simp
      show (leftOf arr #[]).size = l.length
      rw [this]
      simpa using hl
    · rcases hb' with rfl | rfl
      · exact .inl ⟨Nat.le_refl _, by simp⟩
      · exact .inr ⟨id, List.mem_cons_self .., (e5 _).2 (.inl rfl), _, _, hHas⟩
theorem does_next {o : Oper} {d id n : Nat} {v u : Value} {nu one : Bool} {K : MKey κ} {g : β → VP} {l : List (κ × β)} (ri : List Nat) (y : Operand) (hop : o.op = .next y false) (hd : o.dst = some d) (hlt : decide (d < X.N) = true) (hc : chkM X i pre suc (some d) [id] = true)
    (hr : ri.map (fun q => [Fact.slot d (VP.fst (n ≠ 0)), .own id (.val v) (HA.rngE u K g l n)][q]?) = (resOf X i).map some) (h : Av X i pre suc (.own id (.val v) (HA.rng u K g l n))) (hy : Ar X i pre suc y (VP.eq v nu one).p) : Does X i pre suc o := by
  intro c γ a w s Q K' hK
  have hlt' := of_decide_eq_true hlt
  have hHas := h c γ a w s
  obtain ⟨v0, h1, r, m, arr, clock, seen, e1, e2, e3, e4, e5, e6, e7, e8, e9, e10, e11, e12⟩ := h.h s
  have h1 : v0 = v := h1
  subst h1
  have hb := s.g.bnd id _ _ hHas
  have hSr : γ.σ id r := (e7 r).2 (.inl rfl)
  have hSm : γ.σ id m := (e7 m).2 (.inr rfl)
  have ey : a.eval y = .pointer (some ⟨r, 0, none⟩) := by rw [(hy c γ a w s).1, e1]
  have hres : ∀ f ∈ resOf X i, f = Fact.slot d (VP.fst (n ≠ 0)) ∨ f = .own id (.val v0) (HA.rngE u K g l n) := fun f hf => by
    have : some f ∈ ri.map (fun q => [Fact.slot d (VP.fst (n ≠ 0)), .own id (.val v0) (HA.rngE u K g l n)][q]?) := by rw [hr]; exact List.mem_map.2 ⟨f, hf, rfl⟩
    obtain ⟨q, _, hq⟩ := List.mem_map.1 this
    have := List.mem_of_getElem? hq
    simpa using this
  have fin : ∀ (x : Value) (w' : World), (VP.fst (n ≠ 0)).p γ.Z x w' → (HA.rngE u K g l n).p γ.Z v0 w' (γ.σ id) → Turn (γ.σ id) w w' → K' (a.put (some d) x) w' := fun x w' hx hp t =>
    hK _ _ _ (step_ownV s hc (γ.σ id) (γ.σ id) (fun f hf => by
      rcases hres f hf with rfl | rfl
      · exact .inr ⟨rfl, _, put_eq _ (by rw [s.g.sz]; exact hlt'), hx⟩
      · exact .inl rfl) (fun b hb => ⟨id, List.mem_cons_self .., hb, _, _, hHas⟩) (by rw [put_size]; exact s.g.sz) (by rw [put_defers']; exact s.g.df) t (ha_put d a _ _ γ) (r := .val v0) rfl hp fun b hb' => ⟨.inl hb', Nat.lt_of_lt_of_le (hb b hb').1 t.size⟩)
  unfold Oper.wp execOp
  rw [hop]
  simp only [ey, Sem.run_bind]
  rcases run_next_at (P := X.P) w o.type r m clock clock seen arr clock e3 e4 e10 (Nat.le_refl _) with ⟨h0, hrun⟩ | ⟨e, he, w1, hw1, hrun⟩
  · rw [hrun]
    show K' (a.put o.dst _) w
    rw [hd]
    exact fin _ w ⟨_, false, rfl, rfl, fun h => by cases h⟩ ⟨r, m, arr, clock, seen, e1, e2, e3, e4, e5, e6, e7, e8, e9, e10, e11, .inl (by rw [← e12, h0])⟩ (.refl _ _)
  · rw [hrun]
    show K' (a.put o.dst _) _
    rw [hd]
    obtain ⟨hmem, _⟩ := mem_left he
    have hne : n ≠ 0 := fun h0 => by
      rw [h0] at e12
      have : leftOf arr seen = #[] := Array.eq_empty_of_size_eq_zero e12
      rw [this] at he; simp at he
    have x1 : Ext w w1 := by
      rcases hw1 with rfl | rfl
      · exact Ext.refl _
      · exact (Ext.refl w).drew
    have hr1 : w1.heap[r]? = some (.mapIter (some m) clock seen clock) := by rw [x1.block r (hb r hSr).1]; exact e3
    have hm1 : w1.heap[m]? = some (.map arr clock) := by rw [x1.block m (hb m hSm).1]; exact e4
    have hsz1 : w1.heap.size = w.heap.size := by rcases hw1 with rfl | rfl <;> rfl
    have t1 : Turn (γ.σ id) w1 (setBlock w1 r (.mapIter (some m) clock (seen.push e.born) clock)) :=
      ⟨rfl, rfl, rfl, by simp [setBlock], fun b _ hb' => by
        have : r ≠ b := fun e => hb' (e ▸ hSr)
        simp [setBlock, Array.getElem?_setIfInBounds_ne this], fun b _ => by
        by_cases e : r = b
        · subst e
          exact .inr fun cs T fz he => by rw [hr1] at he; cases he
        · exact .inl (by simp [setBlock, Array.getElem?_setIfInBounds_ne e])⟩
    have t : Turn (γ.σ id) w (setBlock w1 r (.mapIter (some m) clock (seen.push e.born) clock)) := (Turn.of_ext x1).trans t1 fun _ _ h => h
    have hrr : (setBlock w1 r (.mapIter (some m) clock (seen.push e.born) clock)).heap[r]? = some (.mapIter (some m) clock (seen.push e.born) clock) := by
      have := (Array.getElem?_eq_some_iff.1 hr1).1
      simp [setBlock, this]
    have hmm : (setBlock w1 r (.mapIter (some m) clock (seen.push e.born) clock)).heap[m]? = some (.map arr clock) := by
      simp [setBlock, Array.getElem?_setIfInBounds_ne e8, hm1]
    obtain ⟨j, hj, rfl⟩ := List.mem_iff_getElem.1 hmem
    have hlen : l.length = arr.toList.length := by have := e6.len; simpa using this.symm
    exact fin _ _ ⟨_, true, rfl, rfl, fun _ => hne⟩ ⟨r, m, arr, clock, _, e1, e2, hrr, hmm, e5, e6.st (fun _ h => h) (fun b hz => t.block b (s.g.zof b hz).1 fun h => (hb b h).2.2 hz) t.toCalm, e7, e8, e9, e10, e11,
      .inr ⟨_, l[j]'(by omega), by rw [← e12]; exact left_shrinks arr seen _ he, rfl, j, _, seen, List.getElem?_eq_getElem (by omega), List.getElem?_eq_getElem hj, rfl⟩⟩ t
theorem does_entry {o : Oper} {d id n : Nat} {v u : Value} {nu one : Bool} {K : MKey κ} {g : β → VP} {l : List (κ × β)} {p : κ × β} {kx : VP} (y : Operand) (hop : o.op = .entry y) (hd : o.dst = some d) (hlt : decide (d < X.N) = true) (hc : chk X i pre suc d = true)
    (hr : resOf X i = [.slot d (VP.tup [kx, g p.2])]) (hkx : ∀ Z w, kx.p Z (K.enc p.1) w) (h : Av X i pre suc (.own id (.val v) (HA.rngAt u K g l n p))) (hy : Ar X i pre suc y (VP.eq v nu one).p) : Does X i pre suc o :=
  does_run hd hlt hc hr fun c γ a w s => by
    obtain ⟨v0, h1, r, m, arr, clock, seen, e1, e2, e3, e4, e5, e6, e7, e8, e9, e10, e11, e12, j, e, s0, f1, f2, rfl⟩ := h.h s
    have h1 : v0 = v := h1
    subst h1
    have ey : a.eval y = .pointer (some ⟨r, 0, none⟩) := by rw [(hy c γ a w s).1, e1]
    have hrun := run_entry_at (P := X.P) w r m clock s0 arr clock e e3 e4 (List.mem_of_getElem? f2) (e9.imp fun h => Nat.ne_of_lt h)
    have hk : e.key = K.enc p.1 := by
      have h3 : (arr.toList.map (·.key))[j]? = some e.key := by rw [List.getElem?_map, f2]; rfl
      rw [e5, List.getElem?_map, f1] at h3
      injection h3 with h3
      exact h3.symm
    obtain ⟨x, hx, hp⟩ := e6.get (i := j) (x := g p.2) (by rw [List.getElem?_map, f1]; rfl)
    rw [List.getElem?_map, f2] at hx
    injection hx with hx
    subst hx
    refine ⟨.tuple #[e.key, e.val], ?_, [e.key, e.val], rfl, by rw [hk]; exact hkx _ _, hp, trivial⟩
    unfold execOp; rw [hop]
    simp [ey, hrun]
end
section
variable {F : Fr} {rest : List Fact} {K' : Act → World → Prop}
/-- a map that was gone through is a map -/
theorem t_unrng {id : Nat} {v u : Value} {K : MKey κ} {g : β → VP} {l : List (κ × β)} {ok : Array MapEntry → Array Nat → Prop} (ho : rest.all (fun f => f.off [id]) = true) (h : Sat F (.own id (.val u) (HA.map K (mEnt g l)) :: rest) K') : Sat F (.own id (.val v) (HA.rg u K g l ok) :: rest) K' := fun a w ⟨γ, gd⟩ => by
  obtain ⟨v0, h1, r, m, arr, clock, seen, e1, e2, e3, e4, e5, e6, e7, e8, e9, e10, e11, e12⟩ := gd.hold _ (List.mem_cons_self ..)
  have g' : Good F (· ∈ [Fact.own id (.val v) (HA.rg u K g l ok)] ++ rest) γ a w := gd
  refine h a w ⟨_, good_close (id := id) (r := .val u) (R' := HA.map K (mEnt g l)) g' ho (fun b => b = m) (fun b hb => ⟨id, _, _, List.mem_cons_self .., (e7 b).2 (.inr hb)⟩) (fun k1 r1 R1 k2 r2 R2 m1 m2 e => ?_) (v := u) rfl ⟨m, arr, clock, fun _ => False, e2, e4, ?_, ?_, fun b => by simp, fun h => h, e9, e10, ?_⟩⟩
  · have := off_ne ho m2
    rw [List.mem_singleton] at m1
    injection m1 with m1
    subst m1 e
    exact this (List.mem_cons_self ..)
  · rw [e5]; unfold mEnt; rw [List.map_map]; rfl
  · have : (mEnt g l).map (·.2) = (l.map fun e => g e.2).map HA.of := by unfold mEnt; rw [List.map_map, List.map_map]; rfl
    rw [this]
    exact AllS.of_all2 (fun _ h => h) e6
  · have : (mEnt g l).map (·.1) = l.map (·.1) := by unfold mEnt; rw [List.map_map]; rfl
    rw [this]; exact e11
end
end
end O
end Go.Proofs.Ytapmngmpomhjmaa

/- DagOnce: the walk. -/
namespace Go.Proofs.Ytapmngmpomhjmaa
open Go.RowKit
namespace O

theorem noT_zero : ∀ Z w, (VP.agg (cTerm noT)).p Z (.agg #[.int .i64 0, .int .i64 0, .slice none 0 0, .string (ByteArray.mk #[])]) w := fun Z w =>
  ⟨[.int .i64 0, .int .i64 0, .slice none 0 0, .string (ByteArray.mk #[])], rfl, rfl, rfl, ⟨none, 0, rfl, Nat.le_refl _, by simp [maxLen], .inl rfl⟩, rfl, trivial⟩
section
variable {α : Type}
theorem mi_mem {p : Int} {x : α} : ∀ {l : List (Int × α)}, mfind mkInt p l = some x → (p, x) ∈ l
  | [], h => by cases h
  | e :: l, h => by
    unfold mfind at h
    split at h
    · rename_i he
      injection h with h
      have he : p = e.1 := by simpa [mkInt] using he
      subst h; rw [he]; exact List.mem_cons_self ..
    · exact List.mem_cons_of_mem _ (mi_mem h)
theorem mi_put_mem {p : Int} {x : α} {q : Int × α} : ∀ {l : List (Int × α)}, q ∈ mput mkInt p x l → q = (p, x) ∨ q ∈ l
  | [], h => .inl (by unfold mput at h; simpa using h)
  | e :: l, h => by
    unfold mput at h
    split at h
    · rename_i he
      have he : p = e.1 := by simpa [mkInt] using he
      rcases List.mem_cons.1 h with h | h
      · exact .inl (by rw [h, he])
      · exact .inr (List.mem_cons_of_mem _ h)
    · rcases List.mem_cons.1 h with h | h
      · exact .inr (by rw [h]; exact List.mem_cons_self ..)
      · exact (mi_put_mem h).imp id fun h => List.mem_cons_of_mem _ h
theorem mi_put_is {p r : Int} {x : α} : ∀ {l : List (Int × α)}, (mfind mkInt r (mput mkInt p x l)).isSome = (decide (r = p) || (mfind mkInt r l).isSome)
  | [] => by
    by_cases h : r = p
    · subst h; simp [mput, mfind, mkInt]
    · simp [mput, mfind, mkInt, h]
  | e :: l => by
    have ih := mi_put_is (p := p) (r := r) (x := x) (l := l)
    unfold mput
    split
    · rename_i he
      have he : p = e.1 := by simpa [mkInt] using he
      by_cases h : r = p
      · rw [h, he]; simp [mfind, mkInt]
      · rw [he] at h
        simp [mfind, mkInt, h, he]
    · by_cases h : r = e.1
      · simp [mfind, mkInt, h]
      · simp only [mfind, mkInt] at ih ⊢
        simp [h, ih]
theorem mi_put_len {p : Int} {x : α} : ∀ {l : List (Int × α)}, (mput mkInt p x l).length = if (mfind mkInt p l).isSome then l.length else l.length + 1
  | [] => rfl
  | e :: l => by
    have ih := mi_put_len (p := p) (x := x) (l := l)
    by_cases h : p = e.1
    · simp [mput, mfind, mkInt, h]
    · have e1 : mput mkInt p x (e :: l) = e :: mput mkInt p x l := by simp [mput, mkInt, h]
      have e2 : mfind mkInt p (e :: l) = mfind mkInt p l := by simp [mfind, mkInt, h]
      rw [e1, e2, List.length_cons, ih]
      split <;> rfl
end
/-- places, as they were told -/
structure PInv (d : ArD) (pl : List (Int × TermD)) : Prop where
  key : ∀ p : Int, (mfind mkInt p pl).isSome = decide (0 ≤ p ∧ p < d.terms.length)
  len : pl.length = d.terms.length
  val : ∀ q ∈ pl, (d.fits q.2 != 0) = false ∧ 0 ≤ q.1 ∧ d.terms[q.1.toNat]? = some q.2
theorem pinv_new (n : Int) : PInv (newA n) [] := ⟨fun p => (decide_eq_false (by simp [newA])).symm, rfl, fun q h => by cases h⟩
theorem pinv_le {d d' : ArD} {pl : List (Int × TermD)} (h : PInv d pl) (ho : d.Ok) (hl : d.le d') (ht : d'.terms = d.terms) : PInv d' pl :=
  ⟨fun p => by rw [ht]; exact h.key p, by rw [ht]; exact h.len, fun q hq => by
    obtain ⟨h1, h2, h3⟩ := h.val q hq
    exact ⟨fits_le hl ho h1, h2, by rw [ht]; exact h3⟩⟩
theorem sort_terms (d : ArD) (n : ByteArray) (q : List Int) : (d.sort n q).terms = d.terms := by
  unfold ArD.sort
  split
  · rfl
  · split <;> rfl
theorem fun_terms (d : ArD) (f : FunD) : (d.fun_ f).terms = d.terms := by
  unfold ArD.fun_
  split <;> rfl
/-- a term that is taken -/
theorem term_done {d : ArD} {t : TermD} (ho : d.Ok) (he : d.termE t = 0) : ∃ i : Nat, d.termR t = i ∧ (d.term t).terms[i]? = some t ∧ (d.fits t != 0) = false ∧ ((i < d.terms.length ∧ (d.term t).terms = d.terms) ∨ (i = d.terms.length ∧ (d.term t).terms = d.terms ++ [t])) := by
  rcases term_cases d t with ⟨e, h | ⟨x, h1, h2, h3, h4⟩⟩ | ⟨e, h1, h2, h3, h4, h5⟩
  · exact absurd he h
  · obtain ⟨i, rfl, hi⟩ := find_some ho h1
    exact ⟨i, h2, by rw [e]; exact hi, h4, .inl ⟨(List.getElem?_eq_some_iff.1 hi).1, by rw [e]⟩⟩
  · have e2 := (put_sf d t).2.2.1
    exact ⟨d.terms.length, h2, by rw [e, e2]; simp, h3, .inr ⟨rfl, by rw [e, e2]⟩⟩
theorem pinv_term {d : ArD} {t : TermD} {pl : List (Int × TermD)} (h : PInv d pl) (ho : d.Ok) (he : d.termE t = 0) : PInv (d.term t) (mput mkInt (d.termR t) t pl) := by
  obtain ⟨i, hi, hg, hf, hc⟩ := term_done ho he
  rw [hi]
  have hk := h.key (i : Int)
  refine ⟨fun p => ?_, ?_, fun q hq => ?_⟩
  · rw [mi_put_is, h.key p, Bool.eq_iff_iff, Bool.or_eq_true, decide_eq_true_iff, decide_eq_true_iff, decide_eq_true_iff]
    rcases hc with ⟨h1, h2⟩ | ⟨h1, h2⟩ <;> rw [h2]
    · constructor
      · rintro (rfl | h) <;> omega
      · intro h; exact .inr h
    · rw [List.length_append, List.length_cons, List.length_nil]
      omega
  · rw [mi_put_len, hk, h.len]
    rcases hc with ⟨h1, h2⟩ | ⟨h1, h2⟩ <;> rw [h2]
    · rw [decide_eq_true (by omega)]; rfl
    · rw [decide_eq_false (by omega), List.length_append]; rfl
  · rcases mi_put_mem hq with rfl | hq
    · exact ⟨fits_le (le_term d t) ho hf, by show (0 : Int) ≤ (i : Int); omega, by rw [Int.toNat_natCast]; exact hg⟩
    · obtain ⟨h1, h2, h3⟩ := h.val q hq
      refine ⟨fits_le (le_term d t) ho h1, h2, ?_⟩
      rcases hc with ⟨_, e⟩ | ⟨_, e⟩ <;> rw [e]
      · exact h3
      · rw [List.getElem?_append_left (List.getElem?_eq_some_iff.1 h3).1]; exact h3
/-- what is asked for again is where it was -/
theorem pinv_again {d : ArD} {pl : List (Int × TermD)} (h : PInv d pl) (ho : d.Ok) (hc : d.Can) {q : Int × TermD} (hq : q ∈ pl) : d.term q.2 = d ∧ d.termR q.2 = q.1 ∧ d.termE q.2 = 0 := by
  obtain ⟨h1, h2, h3⟩ := h.val q hq
  have := term_hit h1 (find_of ho hc h3)
  exact ⟨this.1, this.2.1.trans (by omega), this.2.2⟩
theorem pinv_same {d : ArD} {t : TermD} {pl : List (Int × TermD)} (h : PInv d pl) (ho : d.Ok) (he : d.termE t = 0) (hs : (mfind mkInt (d.termR t) pl).isSome = true) : sameT ((mfind mkInt (d.termR t) pl).getD noT) t = true := by
  obtain ⟨x, hx⟩ := Option.isSome_iff_exists.1 hs
  rw [hx]
  obtain ⟨_, _, h3⟩ := h.val _ (mi_mem hx)
  obtain ⟨i, hi, hg, _, hc⟩ := term_done ho he
  rw [hi] at h3
  have h3 : d.terms[i]? = some x := by simpa using h3
  have hlt := (List.getElem?_eq_some_iff.1 h3).1
  rcases hc with ⟨_, e⟩ | ⟨e, _⟩
  · rw [e, h3] at hg
    injection hg with hg
    exact sameT_iff.2 hg
  · omega
theorem pinv_was {d : ArD} {t : TermD} {pl : List (Int × TermD)} (h : PInv d pl) (ho : d.Ok) (he : d.termE t = 0) : (mfind mkInt (d.termR t) pl).isSome = decide (d.termR t < ((d.terms.length : Nat) : Int)) := by
  obtain ⟨i, hi, _⟩ := term_done ho he
  rw [h.key, hi, decide_eq_decide]
  omega
theorem term_max {d : ArD} {t : TermD} (ho : d.Ok) (he : d.termE t = 0) : (((d.term t).terms.length : Nat) : Int) = if d.termR t + 1 > ((d.terms.length : Nat) : Int) then d.termR t + 1 else ((d.terms.length : Nat) : Int) := by
  obtain ⟨i, hi, _, _, hc⟩ := term_done ho he
  rw [hi]
  rcases hc with ⟨h1, e⟩ | ⟨h1, e⟩ <;> rw [e]
  · rw [if_neg (by omega)]
  · rw [if_pos (by omega), List.length_append, List.length_cons, List.length_nil]; omega
theorem term_range {d : ArD} {t : TermD} (ho : d.Ok) (he : d.termE t = 0) : 0 ≤ d.termR t ∧ d.termR t ≤ 100000 := by
  obtain ⟨i, hi, hg, _⟩ := term_done ho he
  have h1 := (List.getElem?_eq_some_iff.1 hg).1
  have h2 := (term_ok ho t).few
  omega
theorem put_small {pl : List (Int × TermD)} {r : Int} {t : TermD} (h : ∀ q ∈ pl, q.2.kids.length ≤ 12 ∧ q.2.num.size ≤ 60) (ht : t.kids.length ≤ 12 ∧ t.num.size ≤ 60) : ∀ q ∈ mput mkInt r t pl, q.2.kids.length ≤ 12 ∧ q.2.num.size ≤ 60 := fun q hq => by
  rcases mi_put_mem hq with rfl | hq
  · exact ht
  · exact h q hq
theorem term_kids {d : ArD} {t : TermD} (ho : d.Ok) (he : d.termE t = 0) : ∀ k ∈ t.kids, k < d.termR t := fun k hk => by
  obtain ⟨i, hi, hg, _⟩ := term_done ho he
  have := (term_ok ho t).kids i t hg k hk
  omega
theorem DagR_hb_collator_collatorlaw06_speaks : hasBody Try.prog 7 = true := by kernel_rfl
theorem DagR_hb_collator_collatorlaw06_Great : hasBody Try.prog 8 = true := by kernel_rfl
abbrev DagR_p3_3 : Tab2 := [[], [0], [0, 1], [0, 1, 2], [0, 1, 2, 3], [0, 1, 2, 3, 4]]
abbrev DagR_s3_3 : Tab2 := [[1, 2, 3, 4, 5], [2, 3, 4, 5], [3, 4, 5], [4, 5], [5], []]
theorem DagR_hb_collator_dag_New : hasBody Try.prog 9 = true := by kernel_rfl
theorem DagR_el_act6 : Elem Try.prog 22 32 (.agg #[.int .i64 0, .string (ByteArray.mk #[]), .slice none 0 0, .int .i64 0, .int .i64 0, .int .i64 0, .slice none 0 0, .string (ByteArray.mk #[])]) 8 112 := Elem.mk Try.underlying22 (by kernel_rfl) rfl (by decide)
abbrev DagR_p3_7 : Tab2 := [[], [], [0, 1], [], [0, 1, 2, 3], [0, 1, 2, 3, 4], []]
abbrev DagR_s3_7 : Tab2 := [[2, 4, 5], [2, 4, 5], [4, 5], [4, 5], [5], [], []]
theorem DagR_agg_collatorlaw06_Act : aggTy Try.prog 32 8 = true := by kernel_rfl
theorem DagR_size_collatorlaw06_Act : ∀ w, (sizeOf 32).run Try.prog w = .ok 8 w := run_sizeAgg DagR_agg_collatorlaw06_Act
theorem DagR_zero_collatorlaw06_Act : zeroOf Try.prog 32 [(.int .i64 0), (.string (ByteArray.mk #[])), (.slice none 0 0), (.int .i64 0), (.int .i64 0), (.int .i64 0), (.slice none 0 0), (.string (ByteArray.mk #[]))] := by unfold zeroOf; kernel_rfl
abbrev DagR_p3_9 : Tab2 := [[], [], [1], [], [0, 1, 2, 3], [0, 1, 2, 3, 4]]
abbrev DagR_s3_9 : Tab2 := [[4, 5], [2, 4, 5], [4, 5], [4, 5], [5], []]
theorem DagR_f_collatorlaw06_Act_0 : fieldAt Try.prog 32 0 0 = true := by kernel_rfl
theorem DagR_one_int : oneTy Try.prog 3 = true := by kernel_rfl
theorem DagR_f_collatorlaw06_Act_1 : fieldAt Try.prog 32 1 1 = true := by kernel_rfl
theorem DagR_one_string : oneTy Try.prog 9 = true := by kernel_rfl
theorem DagR_f_collatorlaw06_Act_2 : fieldAt Try.prog 32 2 2 = true := by kernel_rfl
theorem DagR_one___int : oneTy Try.prog 28 = true := by kernel_rfl
theorem DagR_hb___collator_dag_Arena__Sort : hasBody Try.prog 10 = true := by kernel_rfl
abbrev DagR_p3_11 : Tab2 := [[], [], [1], [], [3], [0, 1, 2, 3, 4]]
abbrev DagR_s3_11 : Tab2 := [[5], [2, 5], [5], [4, 5], [5], []]
theorem DagR_f_collatorlaw06_Act_3 : fieldAt Try.prog 32 3 3 = true := by kernel_rfl
theorem DagR_zero_api_Fun : zeroOf Try.prog 38 [(.string (ByteArray.mk #[])), (.slice none 0 0), (.int .i64 0)] := by unfold zeroOf; kernel_rfl
theorem DagR_pl_api_Fun : placesOf Try.prog 38 #[(0, 1), (1, 1), (2, 1)] := ⟨_, Try.underlying38, fun w => by kernel_rfl⟩
theorem DagR_hb___collator_dag_Arena__Fun : hasBody Try.prog 11 = true := by kernel_rfl
abbrev DagR_p3_13 : Tab2 := [[], [], [1], [], [3], [], [5], [1, 2, 3, 4, 5, 6], [0, 1, 2, 3, 4, 5, 6, 7]]
abbrev DagR_s3_13 : Tab2 := [[8], [2, 7, 8], [7, 8], [4, 7, 8], [7, 8], [6, 7, 8], [7, 8], [8], []]
theorem DagR_hb___collator_dag_Arena__Len : hasBody Try.prog 12 = true := by kernel_rfl
theorem DagR_f_collatorlaw06_Act_4 : fieldAt Try.prog 32 4 4 = true := by kernel_rfl
theorem DagR_agg_api_Term : aggTy Try.prog 30 4 = true := by kernel_rfl
theorem DagR_hb___collator_dag_Arena__Term : hasBody Try.prog 13 = true := by kernel_rfl
abbrev DagR_p3_15 : Tab2 := [[], [], [1], [0, 1, 2], [0, 1, 2, 3], [0, 1, 2, 3, 4], [0, 1, 2, 3, 4], [0, 1, 2, 3, 4, 5], [0, 1, 2, 3, 4, 5, 6, 7]]
abbrev DagR_s3_15 : Tab2 := [[3, 4, 5, 6, 7, 8], [2, 3, 4, 5, 6, 7, 8], [3, 4, 5, 6, 7, 8], [4, 5, 6, 7, 8], [5, 6, 7, 8], [7, 8], [8], [8], []]
theorem DagR_f_api_Term_2 : fieldAt Try.prog 30 2 2 = true := by kernel_rfl
theorem DagR_size_int : ∀ w, (sizeOf 3).run Try.prog w = .ok 1 w := run_sizeOne DagR_one_int
theorem DagR_zv_api_Term___agg____int__i64_0___int__i64_0___slice_none_0_0___string__ByteArray_mk_______ : ∀ w, (zeroValue 30).run Try.prog w = .ok (.agg #[.int .i64 0, .int .i64 0, .slice none 0 0, .string (ByteArray.mk #[])]) w := zv_of (by kernel_rfl)
theorem DagR_zero_api_Term : zeroOf Try.prog 30 [(.int .i64 0), (.int .i64 0), (.slice none 0 0), (.string (ByteArray.mk #[]))] := by unfold zeroOf; kernel_rfl
theorem DagR_size_api_Term : ∀ w, (sizeOf 30).run Try.prog w = .ok 4 w := run_sizeAgg DagR_agg_api_Term
abbrev DagR_p3_25 : Tab2 := [[], [], [0, 1], [0, 1, 2], [0, 1, 2, 3], [0, 1, 2, 3], [], [0, 1, 2, 3, 4, 6], [0, 1, 2, 3, 4, 5, 6, 7]]
abbrev DagR_s3_25 : Tab2 := [[2, 3, 4, 5, 7, 8], [2, 3, 4, 5, 7, 8], [3, 4, 5, 7, 8], [4, 5, 7, 8], [7, 8], [8], [7, 8], [8], []]
theorem DagR_hb_collator_collatorref06_Same : hasBody Try.prog 14 = true := by kernel_rfl
abbrev DagR_p3_26 : Tab2 := [[], [], [], [1, 2], [0, 1, 2, 3], [0, 1, 2, 3, 4], [0, 1, 2, 3, 4, 5], [0, 1, 2, 3, 4, 5, 6], [0, 1, 2, 3, 4, 5, 6, 7], [0, 1, 2, 3, 4, 5, 6, 7], [0, 1, 2, 3, 4, 5, 6, 7, 9], [0, 1, 2, 3, 4, 5, 6, 7, 8, 9, 10], [0, 1, 2, 3, 4, 5, 6, 7, 8, 9, 10, 11], [0, 1, 2, 3, 4, 5, 6, 7, 8, 9, 10, 11, 12], [0, 1, 2, 3, 4, 5, 6, 7, 8, 9, 10, 11, 12, 13], [0, 1, 2, 3, 4, 5, 6, 7, 8, 9, 10, 11, 12, 13, 14], [0, 1, 2, 3, 4, 5, 6, 7, 8, 9, 10, 11, 12, 13, 14, 15], [0, 1, 2, 3, 4, 5, 6, 7, 8, 9, 10, 11, 12, 13, 14, 15, 16], [0, 1, 2, 3, 4, 5, 6, 7, 8, 9, 10, 11, 12, 13, 14, 15], [0, 1, 2, 3, 4, 5, 6, 7, 8, 9, 10, 11, 12, 13, 14, 15], [0, 1, 2, 3, 4, 5, 6, 7, 8, 9, 10, 11, 12, 13, 14, 15, 19], [0, 1, 2, 3, 4, 5, 6, 7, 8, 9, 10, 11, 12, 13, 14, 15, 18, 19, 20], [0, 1, 2, 3, 4, 5, 6, 7, 8, 9, 10, 11, 12, 13, 14, 15, 16, 17, 18, 19, 20, 21], [0, 1, 2, 3, 4, 5, 6, 7, 8, 9, 10, 11, 12, 13, 14, 15, 16, 17, 18, 19, 20, 21, 22]]
abbrev DagR_s3_26 : Tab2 := [[4, 5, 6, 7, 8, 9, 10, 11, 12, 13, 14, 15, 16, 17, 18, 19, 20, 21, 22, 23], [3, 4, 5, 6, 7, 8, 9, 10, 11, 12, 13, 14, 15, 16, 17, 18, 19, 20, 21, 22, 23], [3, 4, 5, 6, 7, 8, 9, 10, 11, 12, 13, 14, 15, 16, 17, 18, 19, 20, 21, 22, 23], [4, 5, 6, 7, 8, 9, 10, 11, 12, 13, 14, 15, 16, 17, 18, 19, 20, 21, 22, 23], [5, 6, 7, 8, 9, 10, 11, 12, 13, 14, 15, 16, 17, 18, 19, 20, 21, 22, 23], [6, 7, 8, 9, 10, 11, 12, 13, 14, 15, 16, 17, 18, 19, 20, 21, 22, 23], [7, 8, 9, 10, 11, 12, 13, 14, 15, 16, 17, 18, 19, 20, 21, 22, 23], [8, 9, 10, 11, 12, 13, 14, 15, 16, 17, 18, 19, 20, 21, 22, 23], [11, 12, 13, 14, 15, 16, 17, 18, 19, 20, 21, 22, 23], [10, 11, 12, 13, 14, 15, 16, 17, 18, 19, 20, 21, 22, 23], [11, 12, 13, 14, 15, 16, 17, 18, 19, 20, 21, 22, 23], [12, 13, 14, 15, 16, 17, 18, 19, 20, 21, 22, 23], [13, 14, 15, 16, 17, 18, 19, 20, 21, 22, 23], [14, 15, 16, 17, 18, 19, 20, 21, 22, 23], [15, 16, 17, 18, 19, 20, 21, 22, 23], [16, 17, 18, 19, 20, 21, 22, 23], [17, 22, 23], [22, 23], [21, 22, 23], [20, 21, 22, 23], [21, 22, 23], [22, 23], [23], []]
abbrev DagR_p3_32 : Tab2 := [[], [0], [0], [], [0, 1, 3], [0, 1, 2, 3, 4]]
abbrev DagR_s3_32 : Tab2 := [[1, 2, 4, 5], [4, 5], [5], [4, 5], [5], []]
abbrev DagR_p3_33 : Tab2 := [[], [], [0, 1], [0, 1, 2], [0, 1, 2, 3], [0, 1, 2, 3], [0, 1, 2, 3, 4], [0, 1, 2, 3, 4, 5, 6]]
abbrev DagR_s3_33 : Tab2 := [[2, 3, 4, 5, 6, 7], [2, 3, 4, 5, 6, 7], [3, 4, 5, 6, 7], [4, 5, 6, 7], [6, 7], [7], [7], []]
abbrev DagR_p3_34 : Tab2 := [[], [0], [0, 1], [0, 1, 2], [0, 1, 2], [0, 1, 2, 3, 4], [0, 1, 2, 3, 4, 5]]
abbrev DagR_s3_34 : Tab2 := [[1, 2, 3, 4, 5, 6], [2, 3, 4, 5, 6], [3, 4, 5, 6], [5, 6], [5, 6], [6], []]
abbrev DagR_p3_37 : Tab2 := [[], [0], [], [0, 1, 2], [0, 1, 2, 3], [0, 1, 2, 3, 4]]
abbrev DagR_s3_37 : Tab2 := [[1, 3, 4, 5], [3, 4, 5], [3, 4, 5], [4, 5], [5], []]
set_option maxRecDepth 100000 in
set_option maxHeartbeats 4000000 in
theorem dl_DagOnce (l m : List ActD) : SpecO Try.prog 3 [.vp (O_act6 l), .vp (O_act6 m)] [] [] [] (HA.of (VP.bool true)) := by
  refine spec_of 152 Try.func3 rfl Try.ntmps3 rfl fun w0 S0 Z0 Bf => ?_
  refine t_seq ?_
  refine t_rg [.is (.tmp 0) (O_act6 l), .is (.tmp 1) (O_act6 m)] [] [(0, .is (.tmp 4) (VP.bool false))] [] [0, 1] [] [[]] [[]] rfl rfl follow rfl ⟨
    wp rfl (does_move _ (.inr rfl) rfl rfl rfl rfl (ar_const (fun _ _ => rfl))),
    trivial⟩ ?_
  refine nx_then ?_
  refine t_seq ?_
  refine t_seq ?_
  refine t_rg [.is (.tmp 0) (O_act6 l), .is (.tmp 1) (O_act6 m), .is (.tmp 4) (VP.bool false)] [] [(0, .is (.tmp 20) (VP.bool true)), (1, .is (.tmp 21) (VP.bool false))] [] [0, 1, 2] [] [[], [0]] [[1], []] rfl rfl follow rfl ⟨
    wp rfl (does_call dl_speaks (fun _ _ _ _ h => h) rfl DagR_hb_collator_collatorlaw06_speaks rfl rfl rfl rfl ar_clo ars_nil trivial),
    wp rfl (does_not true _ _ rfl rfl rfl rfl rfl (ar_tmp (av_rs 0 0 rfl rfl))),
    trivial⟩ ?_
  refine t_pick [0, 1, 2, 4] rfl ?_
  refine nx_then ?_
  refine t_cond_f 3 rfl ?_
  refine t_skip ?_
  refine nx_then ?_
  refine t_seq ?_
  refine t_seq ?_
  rcases Bool.eq_false_or_eq_true (greatL l) with hb1 | hb1
  · refine t_rg [.is (.tmp 0) (O_act6 l), .is (.tmp 1) (O_act6 m), .is (.tmp 4) (VP.bool false), .is (.tmp 21) (VP.bool false)] [] [(0, .is (.tmp 22) (O_act6 l)), (1, .is (.tmp 23) (VP.bool (greatL l))), (2, .is (.tmp 24) (VP.bool (greatL l))), (3, .is (.tmp 25) (VP.undef)), (4, .is (.tmp 26) (VP.undef)), (5, .is (.tmp 27) (VP.bool true))] [] [0, 1, 2, 3] [] DagR_p3_3 DagR_s3_3 rfl rfl follow rfl ⟨
      wp rfl (does_move _ (.inl rfl) rfl rfl rfl rfl (ar_tmp (av_fs 0 rfl))),
      wp rfl (does_call (dl_Great l) (fun _ _ _ _ h => h) rfl DagR_hb_collator_collatorlaw06_Great rfl rfl rfl rfl ar_clo (ars_cons (pa_slcRo (ar_tmp (av_rs 0 0 rfl rfl)) (flat_nil_iff cActD_len (by decide) _)) ars_nil) trivial),
      wp rfl (does_move _ (.inl rfl) rfl rfl rfl rfl (ar_tmp (av_rs 1 1 rfl rfl))),
      .inr (skips_guardU true rfl rfl rfl (av_bool hb1 (av_rs 2 2 rfl rfl)) rfl rfl rfl rfl),
      .inr (skips_guardU true rfl rfl rfl (av_bool hb1 (av_rs 2 2 rfl rfl)) rfl rfl rfl rfl),
      wp rfl (does_pick true _ _ _ rfl rfl rfl rfl rfl (ar_tmp (av_bool hb1 (av_rs 2 2 rfl rfl))) (ar_const (fun _ _ => rfl))),
      trivial⟩ ?_
    refine t_pick [0, 1, 2, 9] rfl ?_
    refine nx_then ?_
    refine t_cond_t 3 rfl ?_
    refine t_seq ?_
    refine t_rg [.is (.tmp 0) (O_act6 l), .is (.tmp 1) (O_act6 m), .is (.tmp 27) (VP.bool true)] [(0, .is (.tmp 4) (VP.bool false))] [(0, .is (.tmp 4) (VP.bool true))] [] [0, 1, 3] [2] [[]] [[]] rfl rfl follow rfl ⟨
      wp rfl (does_move _ (.inr rfl) rfl rfl rfl rfl (ar_const (fun _ _ => rfl))),
      trivial⟩ ?_
    refine t_pick [0, 1, 3] rfl ?_
    refine nx_then ?_
    refine t_ret ?_
    refine rt_then ?_
    exact rt_post [HA.of (VP.bool true)] [[]] [] [] rfl ⟨(rv_vp 2 rfl), trivial⟩ (by decide) rfl rfl
  · obtain ⟨hg1, hg2⟩ := great_no hb1
    refine t_rg [.is (.tmp 0) (O_act6 l), .is (.tmp 1) (O_act6 m), .is (.tmp 4) (VP.bool false), .is (.tmp 21) (VP.bool false)] [] [(0, .is (.tmp 22) (O_act6 l)), (1, .is (.tmp 23) (VP.bool (greatL l))), (2, .is (.tmp 24) (VP.bool (greatL l))), (3, .is (.tmp 25) (O_act6 m)), (4, .is (.tmp 26) (VP.bool (greatL m))), (5, .is (.tmp 27) (VP.bool (greatL m)))] [] [0, 1, 2, 3] [] DagR_p3_3 DagR_s3_3 rfl rfl follow rfl ⟨
      wp rfl (does_move _ (.inl rfl) rfl rfl rfl rfl (ar_tmp (av_fs 0 rfl))),
      wp rfl (does_call (dl_Great l) (fun _ _ _ _ h => h) rfl DagR_hb_collator_collatorlaw06_Great rfl rfl rfl rfl ar_clo (ars_cons (pa_slcRo (ar_tmp (av_rs 0 0 rfl rfl)) (flat_nil_iff cActD_len (by decide) _)) ars_nil) trivial),
      wp rfl (does_move _ (.inl rfl) rfl rfl rfl rfl (ar_tmp (av_rs 1 1 rfl rfl))),
      .inl ⟨wants_guard false rfl rfl rfl (av_bool hb1 (av_rs 2 2 rfl rfl)), does_move _ (.inl rfl) rfl rfl rfl rfl (ar_tmp (av_fs 1 rfl))⟩,
      .inl ⟨wants_guard false rfl rfl rfl (av_bool hb1 (av_rs 2 2 rfl rfl)), does_call (dl_Great m) (fun _ _ _ _ h => h) rfl DagR_hb_collator_collatorlaw06_Great rfl rfl rfl rfl ar_clo (ars_cons (pa_slcRo (ar_tmp (av_rs 3 3 rfl rfl)) (flat_nil_iff cActD_len (by decide) _)) ars_nil) trivial⟩,
      wp rfl (does_pick false _ _ _ rfl rfl rfl rfl rfl (ar_tmp (av_bool hb1 (av_rs 2 2 rfl rfl))) (ar_tmp (av_rs 4 4 rfl rfl))),
      trivial⟩ ?_
    refine t_pick [0, 1, 2, 9] rfl ?_
    refine nx_then ?_
    refine t_split 3 rfl (fun hb2 => ?_) (fun hb2 => ?_)
    · refine t_seq ?_
      refine t_rg [.is (.tmp 0) (O_act6 l), .is (.tmp 1) (O_act6 m), .is (.tmp 27) (VP.bool (greatL m))] [(0, .is (.tmp 4) (VP.bool false))] [(0, .is (.tmp 4) (VP.bool true))] [] [0, 1, 3] [2] [[]] [[]] rfl rfl follow rfl ⟨
        wp rfl (does_move _ (.inr rfl) rfl rfl rfl rfl (ar_const (fun _ _ => rfl))),
        trivial⟩ ?_
      refine t_pick [0, 1, 3] rfl ?_
      refine nx_then ?_
      refine t_ret ?_
      refine rt_then ?_
      exact rt_post [HA.of (VP.bool true)] [[]] [] [] rfl ⟨(rv_vp 2 rfl), trivial⟩ (by decide) rfl rfl
    · obtain ⟨hm1, hm2⟩ := great_no hb2
      have hwl : ((([] : List ActD) ++ l) ++ m).length = l.length + m.length := by simp
      refine t_skip ?_
      refine nx_then ?_
      refine t_seq ?_
      refine t_rg [.is (.tmp 0) (O_act6 l), .is (.tmp 1) (O_act6 m), .is (.tmp 4) (VP.bool false), .is (.tmp 27) (VP.bool (greatL m))] [] [(0, .own 101 (.tmp 28) (Arn (newA 1000))), (1, .eq 5 (.tmp 28))] [] [0, 1, 2, 3] [] [[], [0]] [[1], []] rfl rfl follow rfl ⟨
        wp rfl (does_callG [] [] [] 101 [0] (da_New 1000) rfl DagR_hb_collator_dag_New rfl rfl rfl rfl rfl ar_clo (ars_cons (pa_vp (ar_const (fun _ _ => rfl))) ars_nil) trivial trivial),
        wp rfl (does_eqTmp (k := 28) _ rfl (.inr rfl) rfl rfl rfl rfl rfl),
        trivial⟩ ?_
      refine t_pick [0, 1, 2, 4, 5] rfl ?_
      refine nx_then ?_
      refine t_pick [3, 0, 1, 2, 4] rfl ?_
      refine t_nameP rfl fun va => ?_
      refine t_pick [5, 1, 0, 2, 3, 4] rfl ?_
      refine t_eq ?_
      refine t_pick [0, 2, 3, 4, 5] rfl ?_
      refine t_seq ?_
      refine t_rg [.is (.tmp 5) (VP.ptr va), .own 101 (.val va) (Arn (newA 1000)), .is (.tmp 0) (O_act6 l), .is (.tmp 1) (O_act6 m), .is (.tmp 4) (VP.bool false)] [] [(0, .own 102 (.tmp 29) (HA.map mkInt (mEnt (fun t => VP.agg (cTerm t)) ([] : List (Int × TermD))))), (1, .eq 6 (.tmp 29))] [] [0, 1, 2, 3, 4] [] [[], [0]] [[1], []] rfl rfl follow rfl ⟨
        wp rfl (does_makeMap mkInt rfl rfl rfl rfl rfl),
        wp rfl (does_eqTmp (k := 29) _ rfl (.inr rfl) rfl rfl rfl rfl rfl),
        trivial⟩ ?_
      refine nx_then ?_
      refine t_pick [5, 0, 1, 2, 3, 4, 6] rfl ?_
      refine t_name rfl fun vm => ?_
      refine t_pick [7, 1, 0, 2, 3, 4, 5, 6] rfl ?_
      refine t_eq ?_
      refine t_pick [0, 2, 3, 4, 5, 6, 7] rfl ?_
      refine t_seq ?_
      refine t_seq ?_
      refine t_rg [.is (.tmp 6) (VP.eq vm true true), .own 102 (.val vm) (HA.map mkInt (mEnt (fun t => VP.agg (cTerm t)) ([] : List (Int × TermD)))), .is (.tmp 5) (VP.ptr va), .own 101 (.val va) (Arn (newA 1000)), .is (.tmp 0) (O_act6 l), .is (.tmp 1) (O_act6 m), .is (.tmp 4) (VP.bool false)] [] [(1, .is (.tmp 31) (O_act6 l)), (3, .is (.tmp 33) (O_act6 m)), (4, .own 103 (.tmp 34) (R_act6 ((([] : List ActD) ++ l) ++ m))), (5, .is (.tmp 35) (VP.int .i64 ((((([] : List ActD) ++ l) ++ m).length : Nat) : Int))), (6, .is (.tmp 36) (VP.int .i64 0))] [(0, 2, .own 103 (.tmp 30) (R_act6 ([] : List ActD))), (2, 4, .own 103 (.tmp 32) (R_act6 (([] : List ActD) ++ l)))] [0, 1, 2, 3, 4, 5, 6] [] DagR_p3_7 DagR_s3_7 rfl rfl follow rfl ⟨
        wp rfl (does_sliceLit (n := 0) DagR_el_act6 rfl [] (fun _ _ => by rw [show zerosOf (.agg #[.int .i64 0, .string (ByteArray.mk #[]), .slice none 0 0, .int .i64 0, .int .i64 0, .int .i64 0, .slice none 0 0, .string (ByteArray.mk #[])]) (0 * 8) = [] by kernel_rfl]; trivial) rfl rfl rfl rfl rfl rfl rfl (.nil _)),
        wp rfl (does_move _ (.inl rfl) rfl rfl rfl rfl (ar_tmp (av_fs 4 rfl))),
        wp rfl (does_append (n := 0) (m := l.length) DagR_el_act6 rfl _ _ rfl rfl rfl rfl rfl (by simp only [List.length_append, List.length_nil, List.length_cons, Nat.zero_add]) (flat_cat ([] : List ActD) l) rfl (by constructor <;> first | decide | omega | (simp only [List.length_append, List.length_cons, List.length_nil] at *; omega)) (flat_lenH cActD_len _) (flat_allH (fun _ => rfl) cActD_one _) (flat_allH (fun _ => rfl) cActD_nu _) (mv_own (av_ms 0 0 2 rfl rfl rfl)) (src_ro (ar_tmp (av_rs 0 1 rfl rfl)) (flat_nil_iff cActD_len (by decide) _))),
        wp rfl (does_move _ (.inl rfl) rfl rfl rfl rfl (ar_tmp (av_fs 5 rfl))),
        wp rfl (does_append (n := (([] : List ActD) ++ l).length) (m := m.length) DagR_el_act6 rfl _ _ rfl rfl rfl rfl rfl (by simp only [List.length_append, List.length_nil, List.length_cons, Nat.zero_add]) (flat_cat (([] : List ActD) ++ l) m) rfl (by constructor <;> first | decide | omega | (simp only [List.length_append, List.length_cons, List.length_nil] at *; omega)) (flat_lenH cActD_len _) (flat_allH (fun _ => rfl) cActD_one _) (flat_allH (fun _ => rfl) cActD_nu _) (mv_own (av_ms 1 2 4 rfl rfl rfl)) (src_ro (ar_tmp (av_rs 1 3 rfl rfl)) (flat_nil_iff cActD_len (by decide) _))),
        wp rfl (does_len _ _ (by kernel_rfl) rfl rfl rfl rfl rfl (sl_tmp (av_rs 2 4 rfl rfl))),
        wp rfl (does_move _ (.inl rfl) rfl rfl rfl rfl (ar_const (fun _ _ => rfl))),
        trivial⟩ ?_
      refine t_pick [0, 1, 2, 3, 6, 9, 10, 11] rfl ?_
      refine nx_then ?_
      refine t_pick [5, 0, 1, 2, 3, 4, 6, 7] rfl ?_
      refine t_name rfl fun vw => ?_
      refine t_block ?_
      refine t_pick [8, 0, 1, 2, 3, 4, 5, 6, 7] rfl ?_
      refine t_slot (y := VP.int .i64 ((0 : Nat) : Int)) (fun _ _ _ h => h) ?_
      refine t_loop (τ := {x : Nat × ArD × List (Int × TermD) // x.1 ≤ ((([] : List ActD) ++ l) ++ m).length ∧ AInv x.2.1 x.1 ∧ x.2.1.Can ∧ PInv x.2.1 x.2.2 ∧ ∀ q ∈ x.2.2, q.2.kids.length ≤ 12 ∧ q.2.num.size ≤ 60}) (fun ⟨(k, d, pl), _⟩ => [.is (.tmp 5) (VP.ptr va), .is (.tmp 6) (VP.eq vm true true), .is (.tmp 34) (VP.eq vw true true), .is (.tmp 35) (VP.int .i64 ((((([] : List ActD) ++ l) ++ m).length : Nat) : Int)), .is (.tmp 36) (VP.int .i64 ((k : Nat) : Int)), .own 101 (.val va) (Arn d), .own 103 (.val vw) (R_act6 ((([] : List ActD) ++ l) ++ m)), .own 102 (.val vm) (HA.map mkInt (mEnt (fun t => VP.agg (cTerm t)) pl))]) (fun ⟨(k, d, pl), _⟩ => ((([] : List ActD) ++ l) ++ m).length - k) (⟨(0, newA 1000, []), Nat.zero_le _, ainv_new 1000 (by decide), can_new 1000, pinv_new 1000, fun q h => by cases h⟩) [5, 3, 2, 8, 0, 6, 1, 4] rfl ?_
      rintro ⟨⟨k, d, pl⟩, hk, hI, hC, hP, hS⟩
      have hk : k ≤ ((([] : List ActD) ++ l) ++ m).length := hk
      have hI : AInv d k := hI
      have hC : d.Can := hC
      have hP : PInv d pl := hP
      have hS : ∀ q ∈ pl, q.2.kids.length ≤ 12 ∧ q.2.num.size ≤ 60 := hS
      have hns := hI.ns
      have hnf := hI.nf
      refine t_seq ?_
      refine t_rg [.is (.tmp 5) (VP.ptr va), .is (.tmp 6) (VP.eq vm true true), .is (.tmp 34) (VP.eq vw true true), .is (.tmp 35) (VP.int .i64 ((((([] : List ActD) ++ l) ++ m).length : Nat) : Int)), .is (.tmp 36) (VP.int .i64 ((k : Nat) : Int)), .own 101 (.val va) (Arn d), .own 103 (.val vw) (R_act6 ((([] : List ActD) ++ l) ++ m)), .own 102 (.val vm) (HA.map mkInt (mEnt (fun t => VP.agg (cTerm t)) pl))] [] [(0, .is (.tmp 37) (VP.bool (decide (((k : Nat) : Int) < ((((([] : List ActD) ++ l) ++ m).length : Nat) : Int)))))] [] [0, 1, 2, 3, 4, 5, 6, 7] [] [[]] [[]] rfl rfl follow rfl ⟨
        wp rfl (does_cmp (m := ((k : Nat) : Int)) (n := ((((([] : List ActD) ++ l) ++ m).length : Nat) : Int)) _ _ _ _ _ rfl rfl rfl rfl rfl rfl .i64 (ar_tmp (av_fs 4 rfl)) (ar_tmp (av_fs 3 rfl))),
        trivial⟩ ?_
      refine nx_then ?_
      refine t_seq ?_
      refine t_split 8 rfl (fun hb3 => ?_) (fun hb3 => ?_)
      · have hc3 := of_decide_eq_true hb3
        obtain ⟨a, ha⟩ : ∃ a, ((([] : List ActD) ++ l) ++ m)[k]? = some a := ⟨_, List.getElem?_eq_getElem (by omega)⟩
        have hga0 : a.name.size ≤ 60 ∧ a.args.length ≤ 12 ∧ a.term.kids.length ≤ 12 ∧ a.term.num.size ≤ 60 := by
          have h := List.mem_of_getElem? ha
          simp only [List.nil_append, List.mem_append] at h
          exact h.elim (hg2 a) (hm2 a)
        have hga := hga0.2.1
        refine t_skip ?_
        refine nx_then ?_
        refine t_seq ?_
        refine t_block ?_
        refine t_seq ?_
        refine t_rg [.is (.tmp 5) (VP.ptr va), .is (.tmp 6) (VP.eq vm true true), .is (.tmp 34) (VP.eq vw true true), .is (.tmp 35) (VP.int .i64 ((((([] : List ActD) ++ l) ++ m).length : Nat) : Int)), .is (.tmp 36) (VP.int .i64 ((k : Nat) : Int)), .own 101 (.val va) (Arn d), .own 103 (.val vw) (R_act6 ((([] : List ActD) ++ l) ++ m)), .own 102 (.val vm) (HA.map mkInt (mEnt (fun t => VP.agg (cTerm t)) pl)), .is (.tmp 37) (VP.bool (decide (((k : Nat) : Int) < ((((([] : List ActD) ++ l) ++ m).length : Nat) : Int))))] [] [(0, .is (.tmp 38) (VP.int .i64 ((k : Nat) : Int))), (1, .pt 39 (.row (.val vw) (k * 8))), (2, .is (.tmp 40) (VP.agg [VP.int .i64 a.what, VP.str a.name, O_int a.args, VP.int .i64 a.res, VP.int .i64 a.term.op, VP.int .i64 a.term.fn, O_int a.term.kids, VP.str a.term.num])), (4, .is (.tmp 7) (VP.int .i64 ((k : Nat) : Int))), (5, .own 104 (.tmp 8) (B_act6 a))] [(3, 5, .own 104 (.tmp 8) (HA.cells 32 [HA.of (VP.int .i64 0), HA.of (VP.str (ByteArray.mk #[])), HA.of (VP.nilS), HA.of (VP.int .i64 0), HA.of (VP.int .i64 0), HA.of (VP.int .i64 0), HA.of (VP.nilS), HA.of (VP.str (ByteArray.mk #[]))]))] [0, 1, 2, 3, 4, 5, 6, 7, 8] [] DagR_p3_9 DagR_s3_9 rfl rfl follow rfl ⟨
          wp rfl (does_move _ (.inl rfl) rfl rfl rfl rfl (ar_tmp (av_fs 4 rfl))),
          wp rfl (does_index (m := k) _ _ Try.underlying22 DagR_size_collatorlaw06_Act rfl rfl rfl rfl rfl _ (by omega) rfl (by omega) (sl_own (av_fs 6 rfl) (ar_tmp (av_fs 2 rfl))) (ar_tmp (av_fs 4 rfl))),
          wp rfl (does_loadAgg (ps := [VP.int .i64 a.what, VP.str a.name, O_int a.args, VP.int .i64 a.res, VP.int .i64 a.term.op, VP.int .i64 a.term.fn, O_int a.term.kids, VP.str a.term.num]) _ DagR_agg_collatorlaw06_Act rfl rfl rfl rfl rfl (pt_pt (av_rs 1 1 rfl rfl)) (rds_row (av_fs 6 rfl) (hq_flat cActD_len ha (by omega) rfl))),
          wp rfl (does_alloc (ps := [VP.int .i64 0, VP.str (ByteArray.mk #[]), VP.nilS, VP.int .i64 0, VP.int .i64 0, VP.int .i64 0, VP.nilS, VP.str (ByteArray.mk #[])]) DagR_zero_collatorlaw06_Act rfl rfl rfl rfl rfl rfl (fun _ _ => ⟨rfl, rfl, rfl, rfl, rfl, rfl, rfl, rfl, trivial⟩)),
          wp rfl (does_move _ (.inr rfl) rfl rfl rfl rfl (ar_tmp (av_rs 0 0 rfl rfl))),
          wp rfl (does_store (off := 0) (Qs := [HA.of (VP.int .i64 a.what), HA.of (VP.str a.name), HA.of (O_int a.args), HA.of (VP.int .i64 a.res), HA.of (VP.int .i64 a.term.op), HA.of (VP.int .i64 a.term.fn), HA.of (O_int a.term.kids), HA.of (VP.str a.term.num)]) _ _ DagR_size_collatorlaw06_Act rfl rfl rfl rfl rfl rfl (pt_box (av_ms 0 3 5 rfl rfl rfl)) (av_ms 0 3 5 rfl rfl rfl) (cv_agg (ps := [VP.int .i64 a.what, VP.str a.name, O_int a.args, VP.int .i64 a.res, VP.int .i64 a.term.op, VP.int .i64 a.term.fn, O_int a.term.kids, VP.str a.term.num]) (ar_tmp (av_rs 2 2 rfl rfl)))),
          trivial⟩ ?_
        refine nx_then ?_
        refine t_pick [13, 0, 1, 2, 3, 4, 5, 6, 7, 8, 9, 10, 11, 12] rfl ?_
        refine t_nameP rfl fun ca => ?_
        refine t_seq ?_
        refine t_seq ?_
        refine t_rg [.own 104 (.val ca) (B_act6 a), .is (.tmp 8) (VP.ptr ca), .is (.tmp 5) (VP.ptr va), .is (.tmp 6) (VP.eq vm true true), .is (.tmp 34) (VP.eq vw true true), .is (.tmp 35) (VP.int .i64 ((((([] : List ActD) ++ l) ++ m).length : Nat) : Int)), .is (.tmp 36) (VP.int .i64 ((k : Nat) : Int)), .own 101 (.val va) (Arn d), .own 103 (.val vw) (R_act6 ((([] : List ActD) ++ l) ++ m)), .own 102 (.val vm) (HA.map mkInt (mEnt (fun t => VP.agg (cTerm t)) pl)), .is (.tmp 37) (VP.bool (decide (((k : Nat) : Int) < ((((([] : List ActD) ++ l) ++ m).length : Nat) : Int)))), .is (.tmp 38) (VP.int .i64 ((k : Nat) : Int)), .pt 39 (.row (.val vw) (k * 8)), .is (.tmp 40) (VP.agg [VP.int .i64 a.what, VP.str a.name, O_int a.args, VP.int .i64 a.res, VP.int .i64 a.term.op, VP.int .i64 a.term.fn, O_int a.term.kids, VP.str a.term.num]), .is (.tmp 7) (VP.int .i64 ((k : Nat) : Int))] [] [(0, .pt 41 (.blk (.val ca) 0)), (1, .is (.tmp 42) (VP.int .i64 a.what)), (2, .is (.tmp 43) (VP.bool (a.what == 0)))] [] [0, 1, 2, 3, 4, 5, 6, 7, 8, 9, 10, 11, 12, 13, 14] [] [[], [0], [0, 1]] [[1, 2], [2], []] rfl rfl follow rfl ⟨
          wp rfl (does_field _ _ _ 0 DagR_f_collatorlaw06_Act_0 rfl rfl rfl rfl rfl rfl (pt_ptr (ar_tmp (av_fs 1 rfl)))),
          wp rfl (does_loadOne _ DagR_one_int rfl rfl rfl rfl rfl (pt_pt (av_rs 0 0 rfl rfl)) (rds_box (off := 0) (av_fs 0 rfl) (hq_one rfl))),
          wp rfl (does_cmp (m := a.what) (n := 0) _ _ _ _ _ rfl rfl rfl rfl rfl rfl .i64 (ar_tmp (av_rs 1 1 rfl rfl)) (ar_const (fun _ _ => rfl))),
          trivial⟩ ?_
        refine nx_then ?_
        refine t_split 17 rfl (fun hb4 => ?_) (fun hb4 => ?_)
        · have hc4 := eq_of_beq hb4
          refine t_seq ?_
          refine t_rg [.own 104 (.val ca) (B_act6 a), .is (.tmp 8) (VP.ptr ca), .is (.tmp 5) (VP.ptr va), .is (.tmp 6) (VP.eq vm true true), .is (.tmp 34) (VP.eq vw true true), .is (.tmp 35) (VP.int .i64 ((((([] : List ActD) ++ l) ++ m).length : Nat) : Int)), .is (.tmp 36) (VP.int .i64 ((k : Nat) : Int)), .own 103 (.val vw) (R_act6 ((([] : List ActD) ++ l) ++ m)), .own 102 (.val vm) (HA.map mkInt (mEnt (fun t => VP.agg (cTerm t)) pl)), .is (.tmp 37) (VP.bool (decide (((k : Nat) : Int) < ((((([] : List ActD) ++ l) ++ m).length : Nat) : Int)))), .is (.tmp 38) (VP.int .i64 ((k : Nat) : Int)), .pt 39 (.row (.val vw) (k * 8)), .is (.tmp 40) (VP.agg [VP.int .i64 a.what, VP.str a.name, O_int a.args, VP.int .i64 a.res, VP.int .i64 a.term.op, VP.int .i64 a.term.fn, O_int a.term.kids, VP.str a.term.num]), .is (.tmp 7) (VP.int .i64 ((k : Nat) : Int)), .pt 41 (.blk (.val ca) 0), .is (.tmp 42) (VP.int .i64 a.what), .is (.tmp 43) (VP.bool (a.what == 0))] [(5, .own 101 (.val va) (Arn d))] [(0, .is (.tmp 44) (VP.ptr va)), (1, .pt 45 (.blk (.val ca) 1)), (2, .is (.tmp 46) (VP.str a.name)), (3, .pt 47 (.blk (.val ca) 2)), (4, .is (.tmp 48) (O_int a.args)), (5, .own 105 (.tmp 49) (HA.of (VP.tup [VP.int .i64 (d.sortR a.name a.args), VP.int .i64 (d.sortE a.args)]))), (5, .own 101 (.val va) (Arn (d.sort a.name a.args)))] [] [0, 1, 2, 3, 4, 5, 6, 8, 9, 10, 11, 12, 13, 14, 15, 16, 17] [7] DagR_p3_11 DagR_s3_11 rfl rfl follow rfl ⟨
            wp rfl (does_move _ (.inl rfl) rfl rfl rfl rfl (ar_tmp (av_fs 2 rfl))),
            wp rfl (does_field _ _ _ 1 DagR_f_collatorlaw06_Act_1 rfl rfl rfl rfl rfl rfl (pt_ptr (ar_tmp (av_fs 1 rfl)))),
            wp rfl (does_loadOne _ DagR_one_string rfl rfl rfl rfl rfl (pt_pt (av_rs 1 1 rfl rfl)) (rds_box (off := 1) (av_fs 0 rfl) (hq_one rfl))),
            wp rfl (does_field _ _ _ 2 DagR_f_collatorlaw06_Act_2 rfl rfl rfl rfl rfl rfl (pt_ptr (ar_tmp (av_fs 1 rfl)))),
            wp rfl (does_loadOne _ DagR_one___int rfl rfl rfl rfl rfl (pt_pt (av_rs 3 3 rfl rfl)) (rds_box (off := 2) (av_fs 0 rfl) (hq_one rfl))),
            wp rfl (does_callG [] [101] [101] 105 [0, 1] (da_Sort (v := va) (d := d) a.name a.args (by omega) (by omega)) rfl DagR_hb___collator_dag_Arena__Sort rfl rfl rfl rfl rfl ar_clo (ars_cons (pa_vp (ar_tmp (av_rs 0 0 rfl rfl))) (ars_cons (pa_vp (ar_tmp (av_rs 2 2 rfl rfl))) (ars_cons (pa_slcRo (ar_tmp (av_rs 4 4 rfl rfl)) (flat_nil_iff cInt_len (by decide) _)) ars_nil))) trivial ⟨(av_os 0 5 rfl rfl), trivial⟩),
            trivial⟩ ?_
          refine nx_then ?_
          refine t_pick [0, 1, 2, 3, 4, 5, 6, 7, 8, 9, 10, 11, 12, 13, 14, 15, 16, 17, 18, 19, 20, 21, 23] rfl ?_
          refine t_exit ?_
          refine ex_then ?_
          refine ex_block ?_
          refine nx_then ?_
          refine t_rg [.own 104 (.val ca) (B_act6 a), .is (.tmp 8) (VP.ptr ca), .is (.tmp 5) (VP.ptr va), .is (.tmp 6) (VP.eq vm true true), .is (.tmp 34) (VP.eq vw true true), .is (.tmp 35) (VP.int .i64 ((((([] : List ActD) ++ l) ++ m).length : Nat) : Int)), .own 103 (.val vw) (R_act6 ((([] : List ActD) ++ l) ++ m)), .own 102 (.val vm) (HA.map mkInt (mEnt (fun t => VP.agg (cTerm t)) pl)), .is (.tmp 37) (VP.bool (decide (((k : Nat) : Int) < ((((([] : List ActD) ++ l) ++ m).length : Nat) : Int)))), .is (.tmp 38) (VP.int .i64 ((k : Nat) : Int)), .pt 39 (.row (.val vw) (k * 8)), .is (.tmp 40) (VP.agg [VP.int .i64 a.what, VP.str a.name, O_int a.args, VP.int .i64 a.res, VP.int .i64 a.term.op, VP.int .i64 a.term.fn, O_int a.term.kids, VP.str a.term.num]), .is (.tmp 7) (VP.int .i64 ((k : Nat) : Int)), .pt 41 (.blk (.val ca) 0), .is (.tmp 42) (VP.int .i64 a.what), .is (.tmp 43) (VP.bool (a.what == 0)), .is (.tmp 44) (VP.ptr va), .pt 45 (.blk (.val ca) 1), .is (.tmp 46) (VP.str a.name), .pt 47 (.blk (.val ca) 2), .is (.tmp 48) (O_int a.args), .own 101 (.val va) (Arn (d.sort a.name a.args))] [(1, .is (.tmp 36) (VP.int .i64 ((k : Nat) : Int)))] [(0, .is (.tmp 146) (VP.int .i64 (((k + 1) : Nat) : Int))), (1, .is (.tmp 36) (VP.int .i64 (((k + 1) : Nat) : Int)))] [] [0, 1, 2, 3, 4, 5, 7, 8, 9, 10, 11, 12, 13, 14, 15, 16, 17, 18, 19, 20, 21, 22] [6] [[], [0]] [[1], []] rfl rfl follow rfl ⟨
            wp rfl (does_addE (m := ((k : Nat) : Int)) (n := 1) (x := (((k + 1) : Nat) : Int)) (by omega) _ _ _ _ rfl rfl rfl rfl rfl (by omega) (ar_tmp (av_os 0 1 rfl rfl)) (ar_const (fun _ _ => rfl))),
            wp rfl (does_move _ (.inl rfl) rfl rfl rfl rfl (ar_tmp (av_rs 0 0 rfl rfl))),
            trivial⟩ ?_
          refine nx_round (τ := {x : Nat × ArD × List (Int × TermD) // x.1 ≤ ((([] : List ActD) ++ l) ++ m).length ∧ AInv x.2.1 x.1 ∧ x.2.1.Can ∧ PInv x.2.1 x.2.2 ∧ ∀ q ∈ x.2.2, q.2.kids.length ≤ 12 ∧ q.2.num.size ≤ 60}) (I := fun ⟨(k, d, pl), _⟩ => [.is (.tmp 5) (VP.ptr va), .is (.tmp 6) (VP.eq vm true true), .is (.tmp 34) (VP.eq vw true true), .is (.tmp 35) (VP.int .i64 ((((([] : List ActD) ++ l) ++ m).length : Nat) : Int)), .is (.tmp 36) (VP.int .i64 ((k : Nat) : Int)), .own 101 (.val va) (Arn d), .own 103 (.val vw) (R_act6 ((([] : List ActD) ++ l) ++ m)), .own 102 (.val vm) (HA.map mkInt (mEnt (fun t => VP.agg (cTerm t)) pl))]) (μ := fun ⟨(k, d, pl), _⟩ => ((([] : List ActD) ++ l) ++ m).length - k) (s := ⟨(k, d, pl), hk, hI, hC, hP, hS⟩) (⟨(k + 1, (d.sort a.name a.args), pl), (show k + 1 ≤ ((([] : List ActD) ++ l) ++ m).length by omega), ainv_sort hI a.name a.args hga, can_sort hC a.name a.args, pinv_le hP hI.ok (le_sort d a.name a.args) (sort_terms d a.name a.args), hS⟩) ?_ [2, 3, 4, 5, 23, 21, 6, 7] ?_
          · exact (show ((([] : List ActD) ++ l) ++ m).length - (k + 1) < ((([] : List ActD) ++ l) ++ m).length - k by omega)
          · exact rfl
        · have hc4 := ne_of_beq_false hb4
          refine t_skip ?_
          refine nx_then ?_
          refine t_seq ?_
          refine t_seq ?_
          refine t_rg [.own 104 (.val ca) (B_act6 a), .is (.tmp 8) (VP.ptr ca), .is (.tmp 5) (VP.ptr va), .is (.tmp 6) (VP.eq vm true true), .is (.tmp 34) (VP.eq vw true true), .is (.tmp 35) (VP.int .i64 ((((([] : List ActD) ++ l) ++ m).length : Nat) : Int)), .is (.tmp 36) (VP.int .i64 ((k : Nat) : Int)), .own 101 (.val va) (Arn d), .own 103 (.val vw) (R_act6 ((([] : List ActD) ++ l) ++ m)), .own 102 (.val vm) (HA.map mkInt (mEnt (fun t => VP.agg (cTerm t)) pl)), .is (.tmp 37) (VP.bool (decide (((k : Nat) : Int) < ((((([] : List ActD) ++ l) ++ m).length : Nat) : Int)))), .is (.tmp 38) (VP.int .i64 ((k : Nat) : Int)), .pt 39 (.row (.val vw) (k * 8)), .is (.tmp 40) (VP.agg [VP.int .i64 a.what, VP.str a.name, O_int a.args, VP.int .i64 a.res, VP.int .i64 a.term.op, VP.int .i64 a.term.fn, O_int a.term.kids, VP.str a.term.num]), .is (.tmp 7) (VP.int .i64 ((k : Nat) : Int)), .pt 41 (.blk (.val ca) 0), .is (.tmp 42) (VP.int .i64 a.what), .is (.tmp 43) (VP.bool (a.what == 0))] [] [(0, .pt 50 (.blk (.val ca) 0)), (1, .is (.tmp 51) (VP.int .i64 a.what)), (2, .is (.tmp 52) (VP.bool (a.what == 1)))] [] [0, 1, 2, 3, 4, 5, 6, 7, 8, 9, 10, 11, 12, 13, 14, 15, 16, 17] [] [[], [0], [0, 1]] [[1, 2], [2], []] rfl rfl follow rfl ⟨
            wp rfl (does_field _ _ _ 0 DagR_f_collatorlaw06_Act_0 rfl rfl rfl rfl rfl rfl (pt_ptr (ar_tmp (av_fs 1 rfl)))),
            wp rfl (does_loadOne _ DagR_one_int rfl rfl rfl rfl rfl (pt_pt (av_rs 0 0 rfl rfl)) (rds_box (off := 0) (av_fs 0 rfl) (hq_one rfl))),
            wp rfl (does_cmp (m := a.what) (n := 1) _ _ _ _ _ rfl rfl rfl rfl rfl rfl .i64 (ar_tmp (av_rs 1 1 rfl rfl)) (ar_const (fun _ _ => rfl))),
            trivial⟩ ?_
          refine nx_then ?_
          refine t_split 20 rfl (fun hb5 => ?_) (fun hb5 => ?_)
          · have hc5 := eq_of_beq hb5
            refine t_seq ?_
            refine t_rg [.own 104 (.val ca) (B_act6 a), .is (.tmp 8) (VP.ptr ca), .is (.tmp 5) (VP.ptr va), .is (.tmp 6) (VP.eq vm true true), .is (.tmp 34) (VP.eq vw true true), .is (.tmp 35) (VP.int .i64 ((((([] : List ActD) ++ l) ++ m).length : Nat) : Int)), .is (.tmp 36) (VP.int .i64 ((k : Nat) : Int)), .own 103 (.val vw) (R_act6 ((([] : List ActD) ++ l) ++ m)), .own 102 (.val vm) (HA.map mkInt (mEnt (fun t => VP.agg (cTerm t)) pl)), .is (.tmp 37) (VP.bool (decide (((k : Nat) : Int) < ((((([] : List ActD) ++ l) ++ m).length : Nat) : Int)))), .is (.tmp 38) (VP.int .i64 ((k : Nat) : Int)), .pt 39 (.row (.val vw) (k * 8)), .is (.tmp 40) (VP.agg [VP.int .i64 a.what, VP.str a.name, O_int a.args, VP.int .i64 a.res, VP.int .i64 a.term.op, VP.int .i64 a.term.fn, O_int a.term.kids, VP.str a.term.num]), .is (.tmp 7) (VP.int .i64 ((k : Nat) : Int)), .pt 41 (.blk (.val ca) 0), .is (.tmp 42) (VP.int .i64 a.what), .is (.tmp 43) (VP.bool (a.what == 0)), .pt 50 (.blk (.val ca) 0), .is (.tmp 51) (VP.int .i64 a.what), .is (.tmp 52) (VP.bool (a.what == 1))] [(8, .own 101 (.val va) (Arn d))] [(0, .is (.tmp 53) (VP.ptr va)), (1, .pt 54 (.blk (.val ca) 1)), (2, .is (.tmp 55) (VP.str a.name)), (3, .pt 56 (.blk (.val ca) 2)), (4, .is (.tmp 57) (O_int a.args)), (5, .pt 58 (.blk (.val ca) 3)), (6, .is (.tmp 59) (VP.int .i64 a.res)), (7, .is (.tmp 60) (VP.agg [VP.str a.name, O_int a.args, VP.int .i64 a.res])), (8, .own 106 (.tmp 61) (HA.of (VP.tup [VP.int .i64 (d.funR (⟨a.name, a.args, a.res⟩ : FunD)), VP.int .i64 (d.funE (⟨a.name, a.args, a.res⟩ : FunD))]))), (8, .own 101 (.val va) (Arn (d.fun_ (⟨a.name, a.args, a.res⟩ : FunD))))] [] [0, 1, 2, 3, 4, 5, 6, 8, 9, 10, 11, 12, 13, 14, 15, 16, 17, 18, 19, 20] [7] DagR_p3_13 DagR_s3_13 rfl rfl follow rfl ⟨
              wp rfl (does_move _ (.inl rfl) rfl rfl rfl rfl (ar_tmp (av_fs 2 rfl))),
              wp rfl (does_field _ _ _ 1 DagR_f_collatorlaw06_Act_1 rfl rfl rfl rfl rfl rfl (pt_ptr (ar_tmp (av_fs 1 rfl)))),
              wp rfl (does_loadOne _ DagR_one_string rfl rfl rfl rfl rfl (pt_pt (av_rs 1 1 rfl rfl)) (rds_box (off := 1) (av_fs 0 rfl) (hq_one rfl))),
              wp rfl (does_field _ _ _ 2 DagR_f_collatorlaw06_Act_2 rfl rfl rfl rfl rfl rfl (pt_ptr (ar_tmp (av_fs 1 rfl)))),
              wp rfl (does_loadOne _ DagR_one___int rfl rfl rfl rfl rfl (pt_pt (av_rs 3 3 rfl rfl)) (rds_box (off := 2) (av_fs 0 rfl) (hq_one rfl))),
              wp rfl (does_field _ _ _ 3 DagR_f_collatorlaw06_Act_3 rfl rfl rfl rfl rfl rfl (pt_ptr (ar_tmp (av_fs 1 rfl)))),
              wp rfl (does_loadOne _ DagR_one_int rfl rfl rfl rfl rfl (pt_pt (av_rs 5 5 rfl rfl)) (rds_box (off := 3) (av_fs 0 rfl) (hq_one rfl))),
              wp rfl (does_build [VP.str (ByteArray.mk #[]), VP.nilS, VP.int .i64 0] DagR_zero_api_Fun DagR_pl_api_Fun rfl rfl rfl rfl rfl (fun _ _ => ⟨rfl, rfl, rfl, trivial⟩) (.cons 0 [HA.of (VP.str a.name)] none rfl rfl (cv_one rfl (mv_vp (ar_tmp (av_rs 2 2 rfl rfl)))) (.cons 1 [HA.of (O_int a.args)] none rfl rfl (cv_one rfl (mv_vp (ar_tmp (av_rs 4 4 rfl rfl)))) (.cons 2 [HA.of (VP.int .i64 a.res)] none rfl rfl (cv_one rfl (mv_vp (ar_tmp (av_rs 6 6 rfl rfl)))) (.nil _))))),
              wp rfl (does_callG [] [101] [101] 106 [0, 1] (da_Fun (v := va) (d := d) (⟨a.name, a.args, a.res⟩ : FunD) (by first | omega | (dsimp only; omega)) (by omega)) rfl DagR_hb___collator_dag_Arena__Fun rfl rfl rfl rfl rfl ar_clo (ars_cons (pa_vp (ar_tmp (av_rs 0 0 rfl rfl))) (ars_cons (pa_vp (ar_tmp (av_rs 7 7 rfl rfl))) ars_nil)) trivial ⟨(av_os 0 8 rfl rfl), trivial⟩),
              trivial⟩ ?_
            refine nx_then ?_
            refine t_pick [0, 1, 2, 3, 4, 5, 6, 7, 8, 9, 10, 11, 12, 13, 14, 15, 16, 17, 18, 19, 20, 21, 22, 23, 24, 25, 26, 27, 29] rfl ?_
            refine t_exit ?_
            refine ex_then ?_
            refine ex_block ?_
            refine nx_then ?_
            refine t_rg [.own 104 (.val ca) (B_act6 a), .is (.tmp 8) (VP.ptr ca), .is (.tmp 5) (VP.ptr va), .is (.tmp 6) (VP.eq vm true true), .is (.tmp 34) (VP.eq vw true true), .is (.tmp 35) (VP.int .i64 ((((([] : List ActD) ++ l) ++ m).length : Nat) : Int)), .own 103 (.val vw) (R_act6 ((([] : List ActD) ++ l) ++ m)), .own 102 (.val vm) (HA.map mkInt (mEnt (fun t => VP.agg (cTerm t)) pl)), .is (.tmp 37) (VP.bool (decide (((k : Nat) : Int) < ((((([] : List ActD) ++ l) ++ m).length : Nat) : Int)))), .is (.tmp 38) (VP.int .i64 ((k : Nat) : Int)), .pt 39 (.row (.val vw) (k * 8)), .is (.tmp 40) (VP.agg [VP.int .i64 a.what, VP.str a.name, O_int a.args, VP.int .i64 a.res, VP.int .i64 a.term.op, VP.int .i64 a.term.fn, O_int a.term.kids, VP.str a.term.num]), .is (.tmp 7) (VP.int .i64 ((k : Nat) : Int)), .pt 41 (.blk (.val ca) 0), .is (.tmp 42) (VP.int .i64 a.what), .is (.tmp 43) (VP.bool (a.what == 0)), .pt 50 (.blk (.val ca) 0), .is (.tmp 51) (VP.int .i64 a.what), .is (.tmp 52) (VP.bool (a.what == 1)), .is (.tmp 53) (VP.ptr va), .pt 54 (.blk (.val ca) 1), .is (.tmp 55) (VP.str a.name), .pt 56 (.blk (.val ca) 2), .is (.tmp 57) (O_int a.args), .pt 58 (.blk (.val ca) 3), .is (.tmp 59) (VP.int .i64 a.res), .is (.tmp 60) (VP.agg [VP.str a.name, O_int a.args, VP.int .i64 a.res]), .own 101 (.val va) (Arn (d.fun_ (⟨a.name, a.args, a.res⟩ : FunD)))] [(1, .is (.tmp 36) (VP.int .i64 ((k : Nat) : Int)))] [(0, .is (.tmp 146) (VP.int .i64 (((k + 1) : Nat) : Int))), (1, .is (.tmp 36) (VP.int .i64 (((k + 1) : Nat) : Int)))] [] [0, 1, 2, 3, 4, 5, 7, 8, 9, 10, 11, 12, 13, 14, 15, 16, 17, 18, 19, 20, 21, 22, 23, 24, 25, 26, 27, 28] [6] [[], [0]] [[1], []] rfl rfl follow rfl ⟨
              wp rfl (does_addE (m := ((k : Nat) : Int)) (n := 1) (x := (((k + 1) : Nat) : Int)) (by omega) _ _ _ _ rfl rfl rfl rfl rfl (by omega) (ar_tmp (av_os 0 1 rfl rfl)) (ar_const (fun _ _ => rfl))),
              wp rfl (does_move _ (.inl rfl) rfl rfl rfl rfl (ar_tmp (av_rs 0 0 rfl rfl))),
              trivial⟩ ?_
            refine nx_round (τ := {x : Nat × ArD × List (Int × TermD) // x.1 ≤ ((([] : List ActD) ++ l) ++ m).length ∧ AInv x.2.1 x.1 ∧ x.2.1.Can ∧ PInv x.2.1 x.2.2 ∧ ∀ q ∈ x.2.2, q.2.kids.length ≤ 12 ∧ q.2.num.size ≤ 60}) (I := fun ⟨(k, d, pl), _⟩ => [.is (.tmp 5) (VP.ptr va), .is (.tmp 6) (VP.eq vm true true), .is (.tmp 34) (VP.eq vw true true), .is (.tmp 35) (VP.int .i64 ((((([] : List ActD) ++ l) ++ m).length : Nat) : Int)), .is (.tmp 36) (VP.int .i64 ((k : Nat) : Int)), .own 101 (.val va) (Arn d), .own 103 (.val vw) (R_act6 ((([] : List ActD) ++ l) ++ m)), .own 102 (.val vm) (HA.map mkInt (mEnt (fun t => VP.agg (cTerm t)) pl))]) (μ := fun ⟨(k, d, pl), _⟩ => ((([] : List ActD) ++ l) ++ m).length - k) (s := ⟨(k, d, pl), hk, hI, hC, hP, hS⟩) (⟨(k + 1, (d.fun_ (⟨a.name, a.args, a.res⟩ : FunD)), pl), (show k + 1 ≤ ((([] : List ActD) ++ l) ++ m).length by omega), ainv_fun hI (⟨a.name, a.args, a.res⟩ : FunD) hga, can_fun hC (⟨a.name, a.args, a.res⟩ : FunD), pinv_le hP hI.ok (le_fun d (⟨a.name, a.args, a.res⟩ : FunD)) (fun_terms d (⟨a.name, a.args, a.res⟩ : FunD)), hS⟩) ?_ [2, 3, 4, 5, 29, 27, 6, 7] ?_
            · exact (show ((([] : List ActD) ++ l) ++ m).length - (k + 1) < ((([] : List ActD) ++ l) ++ m).length - k by omega)
            · exact rfl
          · have hc5 := ne_of_beq_false hb5
            refine t_skip ?_
            refine nx_then ?_
            refine t_seq ?_
            refine t_rg [.own 104 (.val ca) (B_act6 a), .is (.tmp 8) (VP.ptr ca), .is (.tmp 5) (VP.ptr va), .is (.tmp 6) (VP.eq vm true true), .is (.tmp 34) (VP.eq vw true true), .is (.tmp 35) (VP.int .i64 ((((([] : List ActD) ++ l) ++ m).length : Nat) : Int)), .is (.tmp 36) (VP.int .i64 ((k : Nat) : Int)), .own 101 (.val va) (Arn d), .own 103 (.val vw) (R_act6 ((([] : List ActD) ++ l) ++ m)), .own 102 (.val vm) (HA.map mkInt (mEnt (fun t => VP.agg (cTerm t)) pl)), .is (.tmp 37) (VP.bool (decide (((k : Nat) : Int) < ((((([] : List ActD) ++ l) ++ m).length : Nat) : Int)))), .is (.tmp 38) (VP.int .i64 ((k : Nat) : Int)), .pt 39 (.row (.val vw) (k * 8)), .is (.tmp 40) (VP.agg [VP.int .i64 a.what, VP.str a.name, O_int a.args, VP.int .i64 a.res, VP.int .i64 a.term.op, VP.int .i64 a.term.fn, O_int a.term.kids, VP.str a.term.num]), .is (.tmp 7) (VP.int .i64 ((k : Nat) : Int)), .pt 41 (.blk (.val ca) 0), .is (.tmp 42) (VP.int .i64 a.what), .is (.tmp 43) (VP.bool (a.what == 0)), .pt 50 (.blk (.val ca) 0), .is (.tmp 51) (VP.int .i64 a.what), .is (.tmp 52) (VP.bool (a.what == 1))] [] [(0, .is (.tmp 62) (VP.ptr va)), (1, .is (.tmp 63) (VP.int .i64 ((d.terms.length : Nat) : Int))), (2, .is (.tmp 9) (VP.int .i64 ((d.terms.length : Nat) : Int)))] [] [0, 1, 2, 3, 4, 5, 6, 7, 8, 9, 10, 11, 12, 13, 14, 15, 16, 17, 18, 19, 20] [] [[], [0], [0, 1]] [[1, 2], [2], []] rfl rfl follow rfl ⟨
              wp rfl (does_move _ (.inl rfl) rfl rfl rfl rfl (ar_tmp (av_fs 2 rfl))),
              wp rfl (does_call (da_Len (v := va) (d := d)) (fun _ _ _ _ h => h) rfl DagR_hb___collator_dag_Arena__Len rfl rfl rfl rfl ar_clo (ars_cons (pa_vp (ar_tmp (av_rs 0 0 rfl rfl))) ars_nil) ⟨(brw_own (av_fs 7 rfl) rfl), trivial⟩),
              wp rfl (does_move _ (.inr rfl) rfl rfl rfl rfl (ar_tmp (av_rs 1 1 rfl rfl))),
              trivial⟩ ?_
            refine nx_then ?_
            refine t_seq ?_
            refine t_rg [.own 104 (.val ca) (B_act6 a), .is (.tmp 8) (VP.ptr ca), .is (.tmp 5) (VP.ptr va), .is (.tmp 6) (VP.eq vm true true), .is (.tmp 34) (VP.eq vw true true), .is (.tmp 35) (VP.int .i64 ((((([] : List ActD) ++ l) ++ m).length : Nat) : Int)), .is (.tmp 36) (VP.int .i64 ((k : Nat) : Int)), .own 103 (.val vw) (R_act6 ((([] : List ActD) ++ l) ++ m)), .own 102 (.val vm) (HA.map mkInt (mEnt (fun t => VP.agg (cTerm t)) pl)), .is (.tmp 37) (VP.bool (decide (((k : Nat) : Int) < ((((([] : List ActD) ++ l) ++ m).length : Nat) : Int)))), .is (.tmp 38) (VP.int .i64 ((k : Nat) : Int)), .pt 39 (.row (.val vw) (k * 8)), .is (.tmp 40) (VP.agg [VP.int .i64 a.what, VP.str a.name, O_int a.args, VP.int .i64 a.res, VP.int .i64 a.term.op, VP.int .i64 a.term.fn, O_int a.term.kids, VP.str a.term.num]), .is (.tmp 7) (VP.int .i64 ((k : Nat) : Int)), .pt 41 (.blk (.val ca) 0), .is (.tmp 42) (VP.int .i64 a.what), .is (.tmp 43) (VP.bool (a.what == 0)), .pt 50 (.blk (.val ca) 0), .is (.tmp 51) (VP.int .i64 a.what), .is (.tmp 52) (VP.bool (a.what == 1)), .is (.tmp 62) (VP.ptr va), .is (.tmp 63) (VP.int .i64 ((d.terms.length : Nat) : Int)), .is (.tmp 9) (VP.int .i64 ((d.terms.length : Nat) : Int))] [(3, .own 101 (.val va) (Arn d))] [(0, .is (.tmp 65) (VP.ptr va)), (1, .pt 66 (.blk (.val ca) 4)), (2, .is (.tmp 67) (VP.agg [VP.int .i64 a.term.op, VP.int .i64 a.term.fn, O_int a.term.kids, VP.str a.term.num])), (3, .own 107 (.tmp 68) (HA.of (VP.tup [VP.int .i64 (d.termR a.term), VP.int .i64 (d.termE a.term)]))), (3, .own 101 (.val va) (Arn (d.term a.term))), (4, .is (.tmp 64) (VP.tup [VP.int .i64 (d.termR a.term), VP.int .i64 (d.termE a.term)])), (5, .is (.tmp 69) (VP.int .i64 (d.termR a.term))), (6, .is (.tmp 70) (VP.int .i64 (d.termE a.term))), (7, .is (.tmp 10) (VP.int .i64 (d.termR a.term))), (8, .is (.tmp 11) (VP.int .i64 (d.termE a.term)))] [] [0, 1, 2, 3, 4, 5, 6, 8, 9, 10, 11, 12, 13, 14, 15, 16, 17, 18, 19, 20, 21, 22, 23] [7] DagR_p3_15 DagR_s3_15 rfl rfl follow rfl ⟨
              wp rfl (does_move _ (.inl rfl) rfl rfl rfl rfl (ar_tmp (av_fs 2 rfl))),
              wp rfl (does_field _ _ _ 4 DagR_f_collatorlaw06_Act_4 rfl rfl rfl rfl rfl rfl (pt_ptr (ar_tmp (av_fs 1 rfl)))),
              wp rfl (does_loadAgg (ps := [VP.int .i64 a.term.op, VP.int .i64 a.term.fn, O_int a.term.kids, VP.str a.term.num]) _ DagR_agg_api_Term rfl rfl rfl rfl rfl (pt_pt (av_rs 1 1 rfl rfl)) (rds_box (off := 4) (av_fs 0 rfl) (hq_many (n := 4) rfl))),
              wp rfl (does_callG [] [101] [101] 107 [0, 1] (da_Term (v := va) (d := d) a.term hI.ok (by omega) (by omega)) rfl DagR_hb___collator_dag_Arena__Term rfl rfl rfl rfl rfl ar_clo (ars_cons (pa_vp (ar_tmp (av_rs 0 0 rfl rfl))) (ars_cons (pa_vp (ar_tmp (av_rs 2 2 rfl rfl))) ars_nil)) trivial ⟨(av_os 0 3 rfl rfl), trivial⟩),
              wp rfl (does_move _ (.inl rfl) rfl rfl rfl rfl (ar_of (av_rs 3 3 rfl rfl))),
              wp rfl (does_extract (ps := [VP.int .i64 (d.termR a.term), VP.int .i64 (d.termE a.term)]) _ 0 rfl rfl rfl rfl rfl (ar_tmp (av_rs 5 4 rfl rfl)) rfl),
              wp rfl (does_extract (ps := [VP.int .i64 (d.termR a.term), VP.int .i64 (d.termE a.term)]) _ 1 rfl rfl rfl rfl rfl (ar_tmp (av_rs 5 4 rfl rfl)) rfl),
              wp rfl (does_move _ (.inr rfl) rfl rfl rfl rfl (ar_tmp (av_rs 6 5 rfl rfl))),
              wp rfl (does_move _ (.inr rfl) rfl rfl rfl rfl (ar_tmp (av_rs 7 6 rfl rfl))),
              trivial⟩ ?_
            refine nx_then ?_
            refine t_pick [26, 0, 1, 2, 3, 4, 5, 6, 7, 8, 9, 10, 11, 12, 13, 14, 15, 16, 17, 18, 19, 20, 21, 22, 23, 24, 25, 27, 28, 29, 30, 31, 32] rfl ?_
            refine t_freeze (fz_of _) rfl ?_
            refine t_seq ?_
            refine t_seq ?_
            refine t_rg [.is (.tmp 68) (VP.tup [VP.int .i64 (d.termR a.term), VP.int .i64 (d.termE a.term)]), .own 104 (.val ca) (B_act6 a), .is (.tmp 8) (VP.ptr ca), .is (.tmp 5) (VP.ptr va), .is (.tmp 6) (VP.eq vm true true), .is (.tmp 34) (VP.eq vw true true), .is (.tmp 35) (VP.int .i64 ((((([] : List ActD) ++ l) ++ m).length : Nat) : Int)), .is (.tmp 36) (VP.int .i64 ((k : Nat) : Int)), .own 103 (.val vw) (R_act6 ((([] : List ActD) ++ l) ++ m)), .own 102 (.val vm) (HA.map mkInt (mEnt (fun t => VP.agg (cTerm t)) pl)), .is (.tmp 37) (VP.bool (decide (((k : Nat) : Int) < ((((([] : List ActD) ++ l) ++ m).length : Nat) : Int)))), .is (.tmp 38) (VP.int .i64 ((k : Nat) : Int)), .pt 39 (.row (.val vw) (k * 8)), .is (.tmp 40) (VP.agg [VP.int .i64 a.what, VP.str a.name, O_int a.args, VP.int .i64 a.res, VP.int .i64 a.term.op, VP.int .i64 a.term.fn, O_int a.term.kids, VP.str a.term.num]), .is (.tmp 7) (VP.int .i64 ((k : Nat) : Int)), .pt 41 (.blk (.val ca) 0), .is (.tmp 42) (VP.int .i64 a.what), .is (.tmp 43) (VP.bool (a.what == 0)), .pt 50 (.blk (.val ca) 0), .is (.tmp 51) (VP.int .i64 a.what), .is (.tmp 52) (VP.bool (a.what == 1)), .is (.tmp 62) (VP.ptr va), .is (.tmp 63) (VP.int .i64 ((d.terms.length : Nat) : Int)), .is (.tmp 9) (VP.int .i64 ((d.terms.length : Nat) : Int)), .is (.tmp 65) (VP.ptr va), .pt 66 (.blk (.val ca) 4), .is (.tmp 67) (VP.agg [VP.int .i64 a.term.op, VP.int .i64 a.term.fn, O_int a.term.kids, VP.str a.term.num]), .own 101 (.val va) (Arn (d.term a.term)), .is (.tmp 64) (VP.tup [VP.int .i64 (d.termR a.term), VP.int .i64 (d.termE a.term)]), .is (.tmp 69) (VP.int .i64 (d.termR a.term)), .is (.tmp 70) (VP.int .i64 (d.termE a.term)), .is (.tmp 10) (VP.int .i64 (d.termR a.term)), .is (.tmp 11) (VP.int .i64 (d.termE a.term))] [] [(0, .is (.tmp 71) (VP.int .i64 (d.termE a.term))), (1, .is (.tmp 72) (VP.bool ((d.termE a.term) != 0)))] [] [0, 1, 2, 3, 4, 5, 6, 7, 8, 9, 10, 11, 12, 13, 14, 15, 16, 17, 18, 19, 20, 21, 22, 23, 24, 25, 26, 27, 28, 29, 30, 31, 32] [] [[], [0]] [[1], []] rfl rfl follow rfl ⟨
              wp rfl (does_move _ (.inl rfl) rfl rfl rfl rfl (ar_tmp (av_fs 32 rfl))),
              wp rfl (does_cmp (m := (d.termE a.term)) (n := 0) _ _ _ _ _ rfl rfl rfl rfl rfl rfl .i64 (ar_tmp (av_rs 0 0 rfl rfl)) (ar_const (fun _ _ => rfl))),
              trivial⟩ ?_
            refine nx_then ?_
            refine t_split 34 rfl (fun hb6 => ?_) (fun hb6 => ?_)
            · have hc6 := (bne_iff_ne.1 hb6)
              refine t_seq ?_
              refine t_seq ?_
              refine t_rg [.is (.tmp 68) (VP.tup [VP.int .i64 (d.termR a.term), VP.int .i64 (d.termE a.term)]), .own 104 (.val ca) (B_act6 a), .is (.tmp 8) (VP.ptr ca), .is (.tmp 5) (VP.ptr va), .is (.tmp 6) (VP.eq vm true true), .is (.tmp 34) (VP.eq vw true true), .is (.tmp 35) (VP.int .i64 ((((([] : List ActD) ++ l) ++ m).length : Nat) : Int)), .is (.tmp 36) (VP.int .i64 ((k : Nat) : Int)), .own 103 (.val vw) (R_act6 ((([] : List ActD) ++ l) ++ m)), .own 102 (.val vm) (HA.map mkInt (mEnt (fun t => VP.agg (cTerm t)) pl)), .is (.tmp 37) (VP.bool (decide (((k : Nat) : Int) < ((((([] : List ActD) ++ l) ++ m).length : Nat) : Int)))), .is (.tmp 38) (VP.int .i64 ((k : Nat) : Int)), .pt 39 (.row (.val vw) (k * 8)), .is (.tmp 40) (VP.agg [VP.int .i64 a.what, VP.str a.name, O_int a.args, VP.int .i64 a.res, VP.int .i64 a.term.op, VP.int .i64 a.term.fn, O_int a.term.kids, VP.str a.term.num]), .is (.tmp 7) (VP.int .i64 ((k : Nat) : Int)), .pt 41 (.blk (.val ca) 0), .is (.tmp 42) (VP.int .i64 a.what), .is (.tmp 43) (VP.bool (a.what == 0)), .pt 50 (.blk (.val ca) 0), .is (.tmp 51) (VP.int .i64 a.what), .is (.tmp 52) (VP.bool (a.what == 1)), .is (.tmp 62) (VP.ptr va), .is (.tmp 63) (VP.int .i64 ((d.terms.length : Nat) : Int)), .is (.tmp 9) (VP.int .i64 ((d.terms.length : Nat) : Int)), .is (.tmp 65) (VP.ptr va), .pt 66 (.blk (.val ca) 4), .is (.tmp 67) (VP.agg [VP.int .i64 a.term.op, VP.int .i64 a.term.fn, O_int a.term.kids, VP.str a.term.num]), .own 101 (.val va) (Arn (d.term a.term)), .is (.tmp 64) (VP.tup [VP.int .i64 (d.termR a.term), VP.int .i64 (d.termE a.term)]), .is (.tmp 69) (VP.int .i64 (d.termR a.term)), .is (.tmp 70) (VP.int .i64 (d.termE a.term)), .is (.tmp 10) (VP.int .i64 (d.termR a.term)), .is (.tmp 11) (VP.int .i64 (d.termE a.term)), .is (.tmp 71) (VP.int .i64 (d.termE a.term)), .is (.tmp 72) (VP.bool ((d.termE a.term) != 0))] [] [(0, .is (.tmp 73) (VP.ptr va)), (1, .is (.tmp 74) (VP.int .i64 (((d.term a.term).terms.length : Nat) : Int))), (2, .is (.tmp 75) (VP.int .i64 ((d.terms.length : Nat) : Int))), (3, .is (.tmp 76) (VP.bool ((((d.term a.term).terms.length : Nat) : Int) != ((d.terms.length : Nat) : Int))))] [] [0, 1, 2, 3, 4, 5, 6, 7, 8, 9, 10, 11, 12, 13, 14, 15, 16, 17, 18, 19, 20, 21, 22, 23, 24, 25, 26, 27, 28, 29, 30, 31, 32, 33, 34] [] [[], [0], [], [0, 1, 2]] [[1, 3], [3], [3], []] rfl rfl follow rfl ⟨
                wp rfl (does_move _ (.inl rfl) rfl rfl rfl rfl (ar_tmp (av_fs 3 rfl))),
                wp rfl (does_call (da_Len (v := va) (d := (d.term a.term))) (fun _ _ _ _ h => h) rfl DagR_hb___collator_dag_Arena__Len rfl rfl rfl rfl ar_clo (ars_cons (pa_vp (ar_tmp (av_rs 0 0 rfl rfl))) ars_nil) ⟨(brw_own (av_fs 27 rfl) rfl), trivial⟩),
                wp rfl (does_move _ (.inl rfl) rfl rfl rfl rfl (ar_tmp (av_fs 23 rfl))),
                wp rfl (does_cmp (m := (((d.term a.term).terms.length : Nat) : Int)) (n := ((d.terms.length : Nat) : Int)) _ _ _ _ _ rfl rfl rfl rfl rfl rfl .i64 (ar_tmp (av_rs 1 1 rfl rfl)) (ar_tmp (av_rs 2 2 rfl rfl))),
                trivial⟩ ?_
              refine nx_then ?_
              refine t_cond_fe 38 rfl (by rw [term_refuse (bne_iff_ne.1 hb6)]; simp) ?_
              refine t_skip ?_
              refine nx_then ?_
              refine t_exit ?_
              refine ex_then ?_
              refine ex_block ?_
              refine nx_then ?_
              refine t_rg [.is (.tmp 68) (VP.tup [VP.int .i64 (d.termR a.term), VP.int .i64 (d.termE a.term)]), .own 104 (.val ca) (B_act6 a), .is (.tmp 8) (VP.ptr ca), .is (.tmp 5) (VP.ptr va), .is (.tmp 6) (VP.eq vm true true), .is (.tmp 34) (VP.eq vw true true), .is (.tmp 35) (VP.int .i64 ((((([] : List ActD) ++ l) ++ m).length : Nat) : Int)), .own 103 (.val vw) (R_act6 ((([] : List ActD) ++ l) ++ m)), .own 102 (.val vm) (HA.map mkInt (mEnt (fun t => VP.agg (cTerm t)) pl)), .is (.tmp 37) (VP.bool (decide (((k : Nat) : Int) < ((((([] : List ActD) ++ l) ++ m).length : Nat) : Int)))), .is (.tmp 38) (VP.int .i64 ((k : Nat) : Int)), .pt 39 (.row (.val vw) (k * 8)), .is (.tmp 40) (VP.agg [VP.int .i64 a.what, VP.str a.name, O_int a.args, VP.int .i64 a.res, VP.int .i64 a.term.op, VP.int .i64 a.term.fn, O_int a.term.kids, VP.str a.term.num]), .is (.tmp 7) (VP.int .i64 ((k : Nat) : Int)), .pt 41 (.blk (.val ca) 0), .is (.tmp 42) (VP.int .i64 a.what), .is (.tmp 43) (VP.bool (a.what == 0)), .pt 50 (.blk (.val ca) 0), .is (.tmp 51) (VP.int .i64 a.what), .is (.tmp 52) (VP.bool (a.what == 1)), .is (.tmp 62) (VP.ptr va), .is (.tmp 63) (VP.int .i64 ((d.terms.length : Nat) : Int)), .is (.tmp 9) (VP.int .i64 ((d.terms.length : Nat) : Int)), .is (.tmp 65) (VP.ptr va), .pt 66 (.blk (.val ca) 4), .is (.tmp 67) (VP.agg [VP.int .i64 a.term.op, VP.int .i64 a.term.fn, O_int a.term.kids, VP.str a.term.num]), .own 101 (.val va) (Arn (d.term a.term)), .is (.tmp 64) (VP.tup [VP.int .i64 (d.termR a.term), VP.int .i64 (d.termE a.term)]), .is (.tmp 69) (VP.int .i64 (d.termR a.term)), .is (.tmp 70) (VP.int .i64 (d.termE a.term)), .is (.tmp 10) (VP.int .i64 (d.termR a.term)), .is (.tmp 11) (VP.int .i64 (d.termE a.term)), .is (.tmp 71) (VP.int .i64 (d.termE a.term)), .is (.tmp 72) (VP.bool ((d.termE a.term) != 0)), .is (.tmp 73) (VP.ptr va), .is (.tmp 74) (VP.int .i64 (((d.term a.term).terms.length : Nat) : Int)), .is (.tmp 75) (VP.int .i64 ((d.terms.length : Nat) : Int)), .is (.tmp 76) (VP.bool ((((d.term a.term).terms.length : Nat) : Int) != ((d.terms.length : Nat) : Int)))] [(1, .is (.tmp 36) (VP.int .i64 ((k : Nat) : Int)))] [(0, .is (.tmp 146) (VP.int .i64 (((k + 1) : Nat) : Int))), (1, .is (.tmp 36) (VP.int .i64 (((k + 1) : Nat) : Int)))] [] [0, 1, 2, 3, 4, 5, 6, 8, 9, 10, 11, 12, 13, 14, 15, 16, 17, 18, 19, 20, 21, 22, 23, 24, 25, 26, 27, 28, 29, 30, 31, 32, 33, 34, 35, 36, 37, 38] [7] [[], [0]] [[1], []] rfl rfl follow rfl ⟨
                wp rfl (does_addE (m := ((k : Nat) : Int)) (n := 1) (x := (((k + 1) : Nat) : Int)) (by omega) _ _ _ _ rfl rfl rfl rfl rfl (by omega) (ar_tmp (av_os 0 1 rfl rfl)) (ar_const (fun _ _ => rfl))),
                wp rfl (does_move _ (.inl rfl) rfl rfl rfl rfl (ar_tmp (av_rs 0 0 rfl rfl))),
                trivial⟩ ?_
              refine nx_round (τ := {x : Nat × ArD × List (Int × TermD) // x.1 ≤ ((([] : List ActD) ++ l) ++ m).length ∧ AInv x.2.1 x.1 ∧ x.2.1.Can ∧ PInv x.2.1 x.2.2 ∧ ∀ q ∈ x.2.2, q.2.kids.length ≤ 12 ∧ q.2.num.size ≤ 60}) (I := fun ⟨(k, d, pl), _⟩ => [.is (.tmp 5) (VP.ptr va), .is (.tmp 6) (VP.eq vm true true), .is (.tmp 34) (VP.eq vw true true), .is (.tmp 35) (VP.int .i64 ((((([] : List ActD) ++ l) ++ m).length : Nat) : Int)), .is (.tmp 36) (VP.int .i64 ((k : Nat) : Int)), .own 101 (.val va) (Arn d), .own 103 (.val vw) (R_act6 ((([] : List ActD) ++ l) ++ m)), .own 102 (.val vm) (HA.map mkInt (mEnt (fun t => VP.agg (cTerm t)) pl))]) (μ := fun ⟨(k, d, pl), _⟩ => ((([] : List ActD) ++ l) ++ m).length - k) (s := ⟨(k, d, pl), hk, hI, hC, hP, hS⟩) (⟨(k + 1, (d.term a.term), pl), (show k + 1 ≤ ((([] : List ActD) ++ l) ++ m).length by omega), ainv_term hI a.term, can_term hI.ok hC a.term, (by rw [term_refuse (bne_iff_ne.1 hb6)]; exact hP), hS⟩) ?_ [3, 4, 5, 6, 39, 26, 7, 8] ?_
              · exact (show ((([] : List ActD) ++ l) ++ m).length - (k + 1) < ((([] : List ActD) ++ l) ++ m).length - k by omega)
              · exact rfl
            · have hc6 := (bne_eq_false_iff_eq.1 hb6)
              have hRb := term_range hI.ok (bne_eq_false_iff_eq.1 hb6)
              refine t_skip ?_
              refine nx_then ?_
              refine t_seq ?_
              refine t_seq ?_
              refine t_rg [.is (.tmp 68) (VP.tup [VP.int .i64 (d.termR a.term), VP.int .i64 (d.termE a.term)]), .own 104 (.val ca) (B_act6 a), .is (.tmp 8) (VP.ptr ca), .is (.tmp 5) (VP.ptr va), .is (.tmp 6) (VP.eq vm true true), .is (.tmp 34) (VP.eq vw true true), .is (.tmp 35) (VP.int .i64 ((((([] : List ActD) ++ l) ++ m).length : Nat) : Int)), .is (.tmp 36) (VP.int .i64 ((k : Nat) : Int)), .own 103 (.val vw) (R_act6 ((([] : List ActD) ++ l) ++ m)), .own 102 (.val vm) (HA.map mkInt (mEnt (fun t => VP.agg (cTerm t)) pl)), .is (.tmp 37) (VP.bool (decide (((k : Nat) : Int) < ((((([] : List ActD) ++ l) ++ m).length : Nat) : Int)))), .is (.tmp 38) (VP.int .i64 ((k : Nat) : Int)), .pt 39 (.row (.val vw) (k * 8)), .is (.tmp 40) (VP.agg [VP.int .i64 a.what, VP.str a.name, O_int a.args, VP.int .i64 a.res, VP.int .i64 a.term.op, VP.int .i64 a.term.fn, O_int a.term.kids, VP.str a.term.num]), .is (.tmp 7) (VP.int .i64 ((k : Nat) : Int)), .pt 41 (.blk (.val ca) 0), .is (.tmp 42) (VP.int .i64 a.what), .is (.tmp 43) (VP.bool (a.what == 0)), .pt 50 (.blk (.val ca) 0), .is (.tmp 51) (VP.int .i64 a.what), .is (.tmp 52) (VP.bool (a.what == 1)), .is (.tmp 62) (VP.ptr va), .is (.tmp 63) (VP.int .i64 ((d.terms.length : Nat) : Int)), .is (.tmp 9) (VP.int .i64 ((d.terms.length : Nat) : Int)), .is (.tmp 65) (VP.ptr va), .pt 66 (.blk (.val ca) 4), .is (.tmp 67) (VP.agg [VP.int .i64 a.term.op, VP.int .i64 a.term.fn, O_int a.term.kids, VP.str a.term.num]), .own 101 (.val va) (Arn (d.term a.term)), .is (.tmp 64) (VP.tup [VP.int .i64 (d.termR a.term), VP.int .i64 (d.termE a.term)]), .is (.tmp 69) (VP.int .i64 (d.termR a.term)), .is (.tmp 70) (VP.int .i64 (d.termE a.term)), .is (.tmp 10) (VP.int .i64 (d.termR a.term)), .is (.tmp 11) (VP.int .i64 (d.termE a.term)), .is (.tmp 71) (VP.int .i64 (d.termE a.term)), .is (.tmp 72) (VP.bool ((d.termE a.term) != 0))] [] [(0, .pt 77 (.blk (.val ca) 4)), (1, .pt 78 (.blk (.val ca) 6)), (2, .is (.tmp 79) (O_int a.term.kids)), (3, .is (.tmp 80) (VP.int .i64 ((a.term.kids.length : Nat) : Int))), (4, .is (.tmp 81) (VP.int .i64 0))] [] [0, 1, 2, 3, 4, 5, 6, 7, 8, 9, 10, 11, 12, 13, 14, 15, 16, 17, 18, 19, 20, 21, 22, 23, 24, 25, 26, 27, 28, 29, 30, 31, 32, 33, 34] [] [[], [0], [0, 1], [0, 1, 2], []] [[1, 2, 3], [2, 3], [3], [], []] rfl rfl follow rfl ⟨
                wp rfl (does_field _ _ _ 4 DagR_f_collatorlaw06_Act_4 rfl rfl rfl rfl rfl rfl (pt_ptr (ar_tmp (av_fs 2 rfl)))),
                wp rfl (does_field _ _ _ 2 DagR_f_api_Term_2 rfl rfl rfl rfl rfl rfl (pt_pt (av_rs 0 0 rfl rfl))),
                wp rfl (does_loadOne _ DagR_one___int rfl rfl rfl rfl rfl (pt_pt (av_rs 1 1 rfl rfl)) (rds_box (off := 6) (av_fs 1 rfl) (hq_one rfl))),
                wp rfl (does_len _ _ (by kernel_rfl) rfl rfl rfl rfl rfl (sl_ro (av_rs 2 2 rfl rfl) (flat_nil_iff cInt_len (by decide) _))),
                wp rfl (does_move _ (.inl rfl) rfl rfl rfl rfl (ar_const (fun _ _ => rfl))),
                trivial⟩ ?_
              refine nx_then ?_
              refine t_block ?_
              refine t_pick [39, 0, 1, 2, 3, 4, 5, 6, 7, 8, 9, 10, 11, 12, 13, 14, 15, 16, 17, 18, 19, 20, 21, 22, 23, 24, 25, 26, 27, 28, 29, 30, 31, 32, 33, 34, 35, 36, 37, 38] rfl ?_
              refine t_slot (y := VP.int .i64 ((0 : Nat) : Int)) (fun _ _ _ h => h) ?_
              refine t_loop (τ := {j : Nat // j ≤ a.term.kids.length}) (fun ⟨j, _⟩ => [.is (.tmp 7) (VP.int .i64 ((k : Nat) : Int)), .is (.tmp 8) (VP.ptr ca), .is (.tmp 9) (VP.int .i64 ((d.terms.length : Nat) : Int)), .is (.tmp 10) (VP.int .i64 (d.termR a.term)), .is (.tmp 79) (O_int a.term.kids), .is (.tmp 80) (VP.int .i64 ((a.term.kids.length : Nat) : Int)), .is (.tmp 81) (VP.int .i64 ((j : Nat) : Int)), .own 104 (.val ca) (B_act6 a), .own 102 (.val vm) (HA.map mkInt (mEnt (fun t => VP.agg (cTerm t)) pl)), .is (.tmp 5) (VP.ptr va), .is (.tmp 6) (VP.eq vm true true), .is (.tmp 34) (VP.eq vw true true), .is (.tmp 35) (VP.int .i64 ((((([] : List ActD) ++ l) ++ m).length : Nat) : Int)), .is (.tmp 36) (VP.int .i64 ((k : Nat) : Int)), .own 101 (.val va) (Arn (d.term a.term)), .own 103 (.val vw) (R_act6 ((([] : List ActD) ++ l) ++ m))]) (fun ⟨j, _⟩ => a.term.kids.length - j) (⟨0, Nat.zero_le _⟩) [15, 3, 24, 32, 38, 39, 0, 2, 10, 4, 5, 6, 7, 8, 28, 9] rfl ?_
              rintro ⟨j, hj⟩
              refine t_seq ?_
              refine t_rg [.is (.tmp 7) (VP.int .i64 ((k : Nat) : Int)), .is (.tmp 8) (VP.ptr ca), .is (.tmp 9) (VP.int .i64 ((d.terms.length : Nat) : Int)), .is (.tmp 10) (VP.int .i64 (d.termR a.term)), .is (.tmp 79) (O_int a.term.kids), .is (.tmp 80) (VP.int .i64 ((a.term.kids.length : Nat) : Int)), .is (.tmp 81) (VP.int .i64 ((j : Nat) : Int)), .own 104 (.val ca) (B_act6 a), .own 102 (.val vm) (HA.map mkInt (mEnt (fun t => VP.agg (cTerm t)) pl)), .is (.tmp 5) (VP.ptr va), .is (.tmp 6) (VP.eq vm true true), .is (.tmp 34) (VP.eq vw true true), .is (.tmp 35) (VP.int .i64 ((((([] : List ActD) ++ l) ++ m).length : Nat) : Int)), .is (.tmp 36) (VP.int .i64 ((k : Nat) : Int)), .own 101 (.val va) (Arn (d.term a.term)), .own 103 (.val vw) (R_act6 ((([] : List ActD) ++ l) ++ m))] [] [(0, .is (.tmp 82) (VP.bool (decide (((j : Nat) : Int) < ((a.term.kids.length : Nat) : Int)))))] [] [0, 1, 2, 3, 4, 5, 6, 7, 8, 9, 10, 11, 12, 13, 14, 15] [] [[]] [[]] rfl rfl follow rfl ⟨
                wp rfl (does_cmp (m := ((j : Nat) : Int)) (n := ((a.term.kids.length : Nat) : Int)) _ _ _ _ _ rfl rfl rfl rfl rfl rfl .i64 (ar_tmp (av_fs 6 rfl)) (ar_tmp (av_fs 5 rfl))),
                trivial⟩ ?_
              refine nx_then ?_
              refine t_seq ?_
              refine t_split 16 rfl (fun hb7 => ?_) (fun hb7 => ?_)
              · have hc7 := of_decide_eq_true hb7
                obtain ⟨y, hy⟩ : ∃ y, a.term.kids[j]? = some y := ⟨_, List.getElem?_eq_getElem (by omega)⟩
                have hym := List.mem_of_getElem? hy
                refine t_skip ?_
                refine nx_then ?_
                refine t_seq ?_
                refine t_block ?_
                refine t_seq ?_
                refine t_rg [.is (.tmp 7) (VP.int .i64 ((k : Nat) : Int)), .is (.tmp 8) (VP.ptr ca), .is (.tmp 9) (VP.int .i64 ((d.terms.length : Nat) : Int)), .is (.tmp 10) (VP.int .i64 (d.termR a.term)), .is (.tmp 79) (O_int a.term.kids), .is (.tmp 80) (VP.int .i64 ((a.term.kids.length : Nat) : Int)), .is (.tmp 81) (VP.int .i64 ((j : Nat) : Int)), .own 104 (.val ca) (B_act6 a), .own 102 (.val vm) (HA.map mkInt (mEnt (fun t => VP.agg (cTerm t)) pl)), .is (.tmp 5) (VP.ptr va), .is (.tmp 6) (VP.eq vm true true), .is (.tmp 34) (VP.eq vw true true), .is (.tmp 35) (VP.int .i64 ((((([] : List ActD) ++ l) ++ m).length : Nat) : Int)), .is (.tmp 36) (VP.int .i64 ((k : Nat) : Int)), .own 101 (.val va) (Arn (d.term a.term)), .own 103 (.val vw) (R_act6 ((([] : List ActD) ++ l) ++ m)), .is (.tmp 82) (VP.bool (decide (((j : Nat) : Int) < ((a.term.kids.length : Nat) : Int))))] [] [(0, .pt 83 (.row (.tmp 79) (j * 1))), (1, .is (.tmp 84) (VP.int .i64 y)), (2, .is (.tmp 13) (VP.int .i64 y))] [] [0, 1, 2, 3, 4, 5, 6, 7, 8, 9, 10, 11, 12, 13, 14, 15, 16] [] [[], [0], [0, 1]] [[1, 2], [2], []] rfl rfl follow rfl ⟨
                  wp rfl (does_index (m := j) _ _ Try.underlying28 DagR_size_int rfl rfl rfl rfl rfl _ (by omega) rfl (by omega) (sl_ro (av_fs 4 rfl) (flat_nil_iff cInt_len (by decide) _)) (ar_tmp (av_fs 6 rfl))),
                  wp rfl (does_loadOne _ DagR_one_int rfl rfl rfl rfl rfl (pt_pt (av_rs 0 0 rfl rfl)) (rds_ro (av_fs 4 rfl) (hq_flatV1 cInt_len hy 0 (by omega) rfl))),
                  wp rfl (does_move _ (.inr rfl) rfl rfl rfl rfl (ar_tmp (av_rs 1 1 rfl rfl))),
                  trivial⟩ ?_
                refine nx_then ?_
                refine t_seq ?_
                refine t_rg [.is (.tmp 7) (VP.int .i64 ((k : Nat) : Int)), .is (.tmp 8) (VP.ptr ca), .is (.tmp 9) (VP.int .i64 ((d.terms.length : Nat) : Int)), .is (.tmp 10) (VP.int .i64 (d.termR a.term)), .is (.tmp 79) (O_int a.term.kids), .is (.tmp 80) (VP.int .i64 ((a.term.kids.length : Nat) : Int)), .is (.tmp 81) (VP.int .i64 ((j : Nat) : Int)), .own 104 (.val ca) (B_act6 a), .own 102 (.val vm) (HA.map mkInt (mEnt (fun t => VP.agg (cTerm t)) pl)), .is (.tmp 5) (VP.ptr va), .is (.tmp 6) (VP.eq vm true true), .is (.tmp 34) (VP.eq vw true true), .is (.tmp 35) (VP.int .i64 ((((([] : List ActD) ++ l) ++ m).length : Nat) : Int)), .is (.tmp 36) (VP.int .i64 ((k : Nat) : Int)), .own 101 (.val va) (Arn (d.term a.term)), .own 103 (.val vw) (R_act6 ((([] : List ActD) ++ l) ++ m)), .is (.tmp 82) (VP.bool (decide (((j : Nat) : Int) < ((a.term.kids.length : Nat) : Int)))), .pt 83 (.row (.tmp 79) (j * 1)), .is (.tmp 84) (VP.int .i64 y), .is (.tmp 13) (VP.int .i64 y)] [] [(0, .is (.tmp 85) (VP.int .i64 y)), (1, .is (.tmp 86) (VP.int .i64 (d.termR a.term))), (2, .is (.tmp 87) (VP.bool (decide (y ≥ (d.termR a.term)))))] [] [0, 1, 2, 3, 4, 5, 6, 7, 8, 9, 10, 11, 12, 13, 14, 15, 16, 17, 18, 19] [] [[], [], [0, 1]] [[2], [2], []] rfl rfl follow rfl ⟨
                  wp rfl (does_move _ (.inl rfl) rfl rfl rfl rfl (ar_tmp (av_fs 19 rfl))),
                  wp rfl (does_move _ (.inl rfl) rfl rfl rfl rfl (ar_tmp (av_fs 3 rfl))),
                  wp rfl (does_cmp (m := y) (n := (d.termR a.term)) _ _ _ _ _ rfl rfl rfl rfl rfl rfl .i64 (ar_tmp (av_rs 0 0 rfl rfl)) (ar_tmp (av_rs 1 1 rfl rfl))),
                  trivial⟩ ?_
                refine nx_then ?_
                refine t_cond_fe 22 rfl (decide_eq_false (by have := term_kids hI.ok (bne_eq_false_iff_eq.1 hb6) y hym; omega)) ?_
                refine t_skip ?_
                refine nx_block ?_
                refine nx_then ?_
                refine t_rg [.is (.tmp 7) (VP.int .i64 ((k : Nat) : Int)), .is (.tmp 8) (VP.ptr ca), .is (.tmp 9) (VP.int .i64 ((d.terms.length : Nat) : Int)), .is (.tmp 10) (VP.int .i64 (d.termR a.term)), .is (.tmp 79) (O_int a.term.kids), .is (.tmp 80) (VP.int .i64 ((a.term.kids.length : Nat) : Int)), .own 104 (.val ca) (B_act6 a), .own 102 (.val vm) (HA.map mkInt (mEnt (fun t => VP.agg (cTerm t)) pl)), .is (.tmp 5) (VP.ptr va), .is (.tmp 6) (VP.eq vm true true), .is (.tmp 34) (VP.eq vw true true), .is (.tmp 35) (VP.int .i64 ((((([] : List ActD) ++ l) ++ m).length : Nat) : Int)), .is (.tmp 36) (VP.int .i64 ((k : Nat) : Int)), .own 101 (.val va) (Arn (d.term a.term)), .own 103 (.val vw) (R_act6 ((([] : List ActD) ++ l) ++ m)), .is (.tmp 82) (VP.bool (decide (((j : Nat) : Int) < ((a.term.kids.length : Nat) : Int)))), .pt 83 (.row (.tmp 79) (j * 1)), .is (.tmp 84) (VP.int .i64 y), .is (.tmp 13) (VP.int .i64 y), .is (.tmp 85) (VP.int .i64 y), .is (.tmp 86) (VP.int .i64 (d.termR a.term)), .is (.tmp 87) (VP.bool (decide (y ≥ (d.termR a.term))))] [(1, .is (.tmp 81) (VP.int .i64 ((j : Nat) : Int)))] [(0, .is (.tmp 88) (VP.int .i64 (((j + 1) : Nat) : Int))), (1, .is (.tmp 81) (VP.int .i64 (((j + 1) : Nat) : Int)))] [] [0, 1, 2, 3, 4, 5, 7, 8, 9, 10, 11, 12, 13, 14, 15, 16, 17, 18, 19, 20, 21, 22] [6] [[], [0]] [[1], []] rfl rfl follow rfl ⟨
                  wp rfl (does_addE (m := ((j : Nat) : Int)) (n := 1) (x := (((j + 1) : Nat) : Int)) (by omega) _ _ _ _ rfl rfl rfl rfl rfl (by omega) (ar_tmp (av_os 0 1 rfl rfl)) (ar_const (fun _ _ => rfl))),
                  wp rfl (does_move _ (.inl rfl) rfl rfl rfl rfl (ar_tmp (av_rs 0 0 rfl rfl))),
                  trivial⟩ ?_
                refine nx_round (τ := {j : Nat // j ≤ a.term.kids.length}) (I := fun ⟨j, _⟩ => [.is (.tmp 7) (VP.int .i64 ((k : Nat) : Int)), .is (.tmp 8) (VP.ptr ca), .is (.tmp 9) (VP.int .i64 ((d.terms.length : Nat) : Int)), .is (.tmp 10) (VP.int .i64 (d.termR a.term)), .is (.tmp 79) (O_int a.term.kids), .is (.tmp 80) (VP.int .i64 ((a.term.kids.length : Nat) : Int)), .is (.tmp 81) (VP.int .i64 ((j : Nat) : Int)), .own 104 (.val ca) (B_act6 a), .own 102 (.val vm) (HA.map mkInt (mEnt (fun t => VP.agg (cTerm t)) pl)), .is (.tmp 5) (VP.ptr va), .is (.tmp 6) (VP.eq vm true true), .is (.tmp 34) (VP.eq vw true true), .is (.tmp 35) (VP.int .i64 ((((([] : List ActD) ++ l) ++ m).length : Nat) : Int)), .is (.tmp 36) (VP.int .i64 ((k : Nat) : Int)), .own 101 (.val va) (Arn (d.term a.term)), .own 103 (.val vw) (R_act6 ((([] : List ActD) ++ l) ++ m))]) (μ := fun ⟨j, _⟩ => a.term.kids.length - j) (s := ⟨j, hj⟩) (⟨j + 1, by omega⟩) ?_ [0, 1, 2, 3, 4, 5, 23, 6, 7, 8, 9, 10, 11, 12, 13, 14] ?_
                · exact (show a.term.kids.length - (j + 1) < a.term.kids.length - j by omega)
                · exact rfl
              · have hc7 := of_decide_eq_false hb7
                refine t_exit ?_
                refine ex_then ?_
                refine ex_then ?_
                refine ex_block ?_
                refine nx_then ?_
                refine t_seq ?_
                refine t_rg [.is (.tmp 7) (VP.int .i64 ((k : Nat) : Int)), .is (.tmp 8) (VP.ptr ca), .is (.tmp 9) (VP.int .i64 ((d.terms.length : Nat) : Int)), .is (.tmp 10) (VP.int .i64 (d.termR a.term)), .is (.tmp 79) (O_int a.term.kids), .is (.tmp 80) (VP.int .i64 ((a.term.kids.length : Nat) : Int)), .is (.tmp 81) (VP.int .i64 ((j : Nat) : Int)), .own 104 (.val ca) (B_act6 a), .own 102 (.val vm) (HA.map mkInt (mEnt (fun t => VP.agg (cTerm t)) pl)), .is (.tmp 5) (VP.ptr va), .is (.tmp 6) (VP.eq vm true true), .is (.tmp 34) (VP.eq vw true true), .is (.tmp 35) (VP.int .i64 ((((([] : List ActD) ++ l) ++ m).length : Nat) : Int)), .is (.tmp 36) (VP.int .i64 ((k : Nat) : Int)), .own 101 (.val va) (Arn (d.term a.term)), .own 103 (.val vw) (R_act6 ((([] : List ActD) ++ l) ++ m)), .is (.tmp 82) (VP.bool (decide (((j : Nat) : Int) < ((a.term.kids.length : Nat) : Int))))] [] [(0, .is (.tmp 90) (VP.eq vm true true)), (1, .is (.tmp 91) (VP.int .i64 (d.termR a.term))), (2, .is (.tmp 92) (VP.tup [VP.agg [VP.int .i64 (((mfind mkInt (d.termR a.term) pl).getD noT).op), VP.int .i64 (((mfind mkInt (d.termR a.term) pl).getD noT).fn), O_int (((mfind mkInt (d.termR a.term) pl).getD noT).kids), VP.str (((mfind mkInt (d.termR a.term) pl).getD noT).num)], VP.bool ((mfind mkInt (d.termR a.term) pl).isSome)])), (3, .is (.tmp 89) (VP.tup [VP.agg [VP.int .i64 (((mfind mkInt (d.termR a.term) pl).getD noT).op), VP.int .i64 (((mfind mkInt (d.termR a.term) pl).getD noT).fn), O_int (((mfind mkInt (d.termR a.term) pl).getD noT).kids), VP.str (((mfind mkInt (d.termR a.term) pl).getD noT).num)], VP.bool ((mfind mkInt (d.termR a.term) pl).isSome)])), (4, .is (.tmp 93) (VP.agg [VP.int .i64 (((mfind mkInt (d.termR a.term) pl).getD noT).op), VP.int .i64 (((mfind mkInt (d.termR a.term) pl).getD noT).fn), O_int (((mfind mkInt (d.termR a.term) pl).getD noT).kids), VP.str (((mfind mkInt (d.termR a.term) pl).getD noT).num)])), (5, .is (.tmp 94) (VP.bool ((mfind mkInt (d.termR a.term) pl).isSome))), (7, .own 108 (.tmp 14) (B_term ((mfind mkInt (d.termR a.term) pl).getD noT))), (8, .is (.tmp 15) (VP.bool ((mfind mkInt (d.termR a.term) pl).isSome)))] [(6, 7, .own 108 (.tmp 14) (HA.cells 30 [HA.of (VP.int .i64 0), HA.of (VP.int .i64 0), HA.of (VP.nilS), HA.of (VP.str (ByteArray.mk #[]))]))] [0, 1, 2, 3, 4, 5, 6, 7, 8, 9, 10, 11, 12, 13, 14, 15, 16] [] DagR_p3_25 DagR_s3_25 rfl rfl follow rfl ⟨
                  wp rfl (does_move _ (.inl rfl) rfl rfl rfl rfl (ar_tmp (av_fs 10 rfl))),
                  wp rfl (does_move _ (.inl rfl) rfl rfl rfl rfl (ar_tmp (av_fs 3 rfl))),
                  wp rfl (does_lookup2 (K := mkInt) (d.termR a.term) (x := VP.agg [VP.int .i64 (((mfind mkInt (d.termR a.term) pl).getD noT).op), VP.int .i64 (((mfind mkInt (d.termR a.term) pl).getD noT).fn), O_int (((mfind mkInt (d.termR a.term) pl).getD noT).kids), VP.str (((mfind mkInt (d.termR a.term) pl).getD noT).num)]) _ _ Try.underlying27 Try.underlying3 DagR_zv_api_Term___agg____int__i64_0___int__i64_0___slice_none_0_0___string__ByteArray_mk_______ rfl rfl rfl rfl rfl mlk_is (mlk_some noT rfl) (mlk_none noT rfl noT_zero) (mp_own (av_fs 8 rfl) (ar_tmp (av_rs 0 0 rfl rfl))) (key_int (ar_tmp (av_rs 1 1 rfl rfl)))),
                  wp rfl (does_move _ (.inl rfl) rfl rfl rfl rfl (ar_tmp (av_rs 2 2 rfl rfl))),
                  wp rfl (does_extract (ps := [VP.agg [VP.int .i64 (((mfind mkInt (d.termR a.term) pl).getD noT).op), VP.int .i64 (((mfind mkInt (d.termR a.term) pl).getD noT).fn), O_int (((mfind mkInt (d.termR a.term) pl).getD noT).kids), VP.str (((mfind mkInt (d.termR a.term) pl).getD noT).num)], VP.bool ((mfind mkInt (d.termR a.term) pl).isSome)]) _ 0 rfl rfl rfl rfl rfl (ar_tmp (av_rs 3 3 rfl rfl)) rfl),
                  wp rfl (does_extract (ps := [VP.agg [VP.int .i64 (((mfind mkInt (d.termR a.term) pl).getD noT).op), VP.int .i64 (((mfind mkInt (d.termR a.term) pl).getD noT).fn), O_int (((mfind mkInt (d.termR a.term) pl).getD noT).kids), VP.str (((mfind mkInt (d.termR a.term) pl).getD noT).num)], VP.bool ((mfind mkInt (d.termR a.term) pl).isSome)]) _ 1 rfl rfl rfl rfl rfl (ar_tmp (av_rs 3 3 rfl rfl)) rfl),
                  wp rfl (does_alloc (ps := [VP.int .i64 0, VP.int .i64 0, VP.nilS, VP.str (ByteArray.mk #[])]) DagR_zero_api_Term rfl rfl rfl rfl rfl rfl (fun _ _ => ⟨rfl, rfl, rfl, rfl, trivial⟩)),
                  wp rfl (does_store (off := 0) (Qs := [HA.of (VP.int .i64 (((mfind mkInt (d.termR a.term) pl).getD noT).op)), HA.of (VP.int .i64 (((mfind mkInt (d.termR a.term) pl).getD noT).fn)), HA.of (O_int (((mfind mkInt (d.termR a.term) pl).getD noT).kids)), HA.of (VP.str (((mfind mkInt (d.termR a.term) pl).getD noT).num))]) _ _ DagR_size_api_Term rfl rfl rfl rfl rfl rfl (pt_box (av_ms 0 6 7 rfl rfl rfl)) (av_ms 0 6 7 rfl rfl rfl) (cv_agg (ps := [VP.int .i64 (((mfind mkInt (d.termR a.term) pl).getD noT).op), VP.int .i64 (((mfind mkInt (d.termR a.term) pl).getD noT).fn), O_int (((mfind mkInt (d.termR a.term) pl).getD noT).kids), VP.str (((mfind mkInt (d.termR a.term) pl).getD noT).num)]) (ar_tmp (av_rs 4 4 rfl rfl)))),
                  wp rfl (does_move _ (.inr rfl) rfl rfl rfl rfl (ar_tmp (av_rs 5 5 rfl rfl))),
                  trivial⟩ ?_
                refine nx_then ?_
                refine t_pick [23, 0, 1, 2, 3, 4, 5, 6, 7, 8, 9, 10, 11, 12, 13, 14, 15, 16, 17, 18, 19, 20, 21, 22, 24] rfl ?_
                refine t_nameP rfl fun ct => ?_
                refine t_seq ?_
                refine t_seq ?_
                rcases Bool.eq_false_or_eq_true ((mfind mkInt (d.termR a.term) pl).isSome) with hb8 | hb8
                · refine t_rg [.own 108 (.val ct) (B_term ((mfind mkInt (d.termR a.term) pl).getD noT)), .is (.tmp 14) (VP.ptr ct), .is (.tmp 7) (VP.int .i64 ((k : Nat) : Int)), .is (.tmp 8) (VP.ptr ca), .is (.tmp 9) (VP.int .i64 ((d.terms.length : Nat) : Int)), .is (.tmp 10) (VP.int .i64 (d.termR a.term)), .is (.tmp 79) (O_int a.term.kids), .is (.tmp 80) (VP.int .i64 ((a.term.kids.length : Nat) : Int)), .is (.tmp 81) (VP.int .i64 ((j : Nat) : Int)), .own 104 (.val ca) (B_act6 a), .own 102 (.val vm) (HA.map mkInt (mEnt (fun t => VP.agg (cTerm t)) pl)), .is (.tmp 5) (VP.ptr va), .is (.tmp 6) (VP.eq vm true true), .is (.tmp 34) (VP.eq vw true true), .is (.tmp 35) (VP.int .i64 ((((([] : List ActD) ++ l) ++ m).length : Nat) : Int)), .is (.tmp 36) (VP.int .i64 ((k : Nat) : Int)), .own 101 (.val va) (Arn (d.term a.term)), .own 103 (.val vw) (R_act6 ((([] : List ActD) ++ l) ++ m)), .is (.tmp 82) (VP.bool (decide (((j : Nat) : Int) < ((a.term.kids.length : Nat) : Int)))), .is (.tmp 90) (VP.eq vm true true), .is (.tmp 91) (VP.int .i64 (d.termR a.term)), .is (.tmp 92) (VP.tup [VP.agg [VP.int .i64 (((mfind mkInt (d.termR a.term) pl).getD noT).op), VP.int .i64 (((mfind mkInt (d.termR a.term) pl).getD noT).fn), O_int (((mfind mkInt (d.termR a.term) pl).getD noT).kids), VP.str (((mfind mkInt (d.termR a.term) pl).getD noT).num)], VP.bool ((mfind mkInt (d.termR a.term) pl).isSome)]), .is (.tmp 89) (VP.tup [VP.agg [VP.int .i64 (((mfind mkInt (d.termR a.term) pl).getD noT).op), VP.int .i64 (((mfind mkInt (d.termR a.term) pl).getD noT).fn), O_int (((mfind mkInt (d.termR a.term) pl).getD noT).kids), VP.str (((mfind mkInt (d.termR a.term) pl).getD noT).num)], VP.bool ((mfind mkInt (d.termR a.term) pl).isSome)]), .is (.tmp 93) (VP.agg [VP.int .i64 (((mfind mkInt (d.termR a.term) pl).getD noT).op), VP.int .i64 (((mfind mkInt (d.termR a.term) pl).getD noT).fn), O_int (((mfind mkInt (d.termR a.term) pl).getD noT).kids), VP.str (((mfind mkInt (d.termR a.term) pl).getD noT).num)]), .is (.tmp 94) (VP.bool ((mfind mkInt (d.termR a.term) pl).isSome)), .is (.tmp 15) (VP.bool ((mfind mkInt (d.termR a.term) pl).isSome))] [] [(0, .is (.tmp 95) (VP.bool ((mfind mkInt (d.termR a.term) pl).isSome))), (1, .is (.tmp 96) (VP.int .i64 (d.termR a.term))), (2, .is (.tmp 97) (VP.int .i64 ((d.terms.length : Nat) : Int))), (3, .is (.tmp 98) (VP.bool (decide ((d.termR a.term) < ((d.terms.length : Nat) : Int))))), (4, .is (.tmp 99) (VP.bool (!(true == (decide ((d.termR a.term) < ((d.terms.length : Nat) : Int))))))), (5, .is (.tmp 100) (VP.bool (!(true == (decide ((d.termR a.term) < ((d.terms.length : Nat) : Int))))))), (6, .is (.tmp 101) (VP.bool ((mfind mkInt (d.termR a.term) pl).isSome))), (7, .is (.tmp 102) (VP.bool ((mfind mkInt (d.termR a.term) pl).isSome))), (8, .is (.tmp 103) (VP.agg [VP.int .i64 (((mfind mkInt (d.termR a.term) pl).getD noT).op), VP.int .i64 (((mfind mkInt (d.termR a.term) pl).getD noT).fn), O_int (((mfind mkInt (d.termR a.term) pl).getD noT).kids), VP.str (((mfind mkInt (d.termR a.term) pl).getD noT).num)])), (9, .pt 104 (.blk (.val ca) 4)), (10, .is (.tmp 105) (VP.agg [VP.int .i64 a.term.op, VP.int .i64 a.term.fn, O_int a.term.kids, VP.str a.term.num])), (11, .is (.tmp 106) (VP.bool (sameT ((mfind mkInt (d.termR a.term) pl).getD noT) a.term))), (12, .is (.tmp 107) (VP.bool false)), (13, .is (.tmp 108) (VP.bool false)), (14, .is (.tmp 109) (VP.bool false)), (15, .is (.tmp 110) (VP.bool false)), (16, .is (.tmp 111) (VP.ptr va)), (17, .is (.tmp 112) (VP.int .i64 (((d.term a.term).terms.length : Nat) : Int))), (18, .is (.tmp 113) (VP.int .i64 ((d.terms.length : Nat) : Int))), (19, .is (.tmp 114) (VP.int .i64 (d.termR a.term))), (20, .is (.tmp 115) (VP.int .i64 ((d.termR a.term) + 1))), (21, .is (.tmp 116) (VP.int .i64 (if ((d.termR a.term) + 1) > ((d.terms.length : Nat) : Int) then ((d.termR a.term) + 1) else ((d.terms.length : Nat) : Int)))), (22, .is (.tmp 117) (VP.bool ((((d.term a.term).terms.length : Nat) : Int) != (if ((d.termR a.term) + 1) > ((d.terms.length : Nat) : Int) then ((d.termR a.term) + 1) else ((d.terms.length : Nat) : Int))))), (23, .is (.tmp 118) (VP.bool ((((d.term a.term).terms.length : Nat) : Int) != (if ((d.termR a.term) + 1) > ((d.terms.length : Nat) : Int) then ((d.termR a.term) + 1) else ((d.terms.length : Nat) : Int)))))] [] [0, 1, 2, 3, 4, 5, 6, 7, 8, 9, 10, 11, 12, 13, 14, 15, 16, 17, 18, 19, 20, 21, 22, 23, 24, 25] [] DagR_p3_26 DagR_s3_26 rfl rfl follow rfl ⟨
                    wp rfl (does_move _ (.inl rfl) rfl rfl rfl rfl (ar_tmp (av_fs 25 rfl))),
                    wp rfl (does_move _ (.inl rfl) rfl rfl rfl rfl (ar_tmp (av_fs 5 rfl))),
                    wp rfl (does_move _ (.inl rfl) rfl rfl rfl rfl (ar_tmp (av_fs 4 rfl))),
                    wp rfl (does_cmp (m := (d.termR a.term)) (n := ((d.terms.length : Nat) : Int)) _ _ _ _ _ rfl rfl rfl rfl rfl rfl .i64 (ar_tmp (av_rs 1 1 rfl rfl)) (ar_tmp (av_rs 2 2 rfl rfl))),
                    wp rfl (does_eqBool (u := true) (v := (decide ((d.termR a.term) < ((d.terms.length : Nat) : Int)))) _ _ _ _ _ (by kernel_rfl) rfl rfl rfl rfl rfl rfl (ar_tmp (av_bool hb8 (av_rs 0 0 rfl rfl))) (ar_tmp (av_rs 3 3 rfl rfl))),
                    wp rfl (does_move _ (.inl rfl) rfl rfl rfl rfl (ar_tmp (av_rs 4 4 rfl rfl))),
                    .inl ⟨wants_guard false rfl rfl rfl (av_bool (by rw [← pinv_was hP hI.ok (bne_eq_false_iff_eq.1 hb6), hb8]; rfl) (av_rs 5 5 rfl rfl)), does_move _ (.inl rfl) rfl rfl rfl rfl (ar_tmp (av_fs 25 rfl))⟩,
                    .inl ⟨wants_guard false rfl rfl rfl (av_bool (by rw [← pinv_was hP hI.ok (bne_eq_false_iff_eq.1 hb6), hb8]; rfl) (av_rs 5 5 rfl rfl)), does_move _ (.inl rfl) rfl rfl rfl rfl (ar_tmp (av_rs 6 6 rfl rfl))⟩,
                    .inl ⟨wants_guard true rfl rfl rfl (av_bool hb8 (av_rs 7 7 rfl rfl)), does_loadAgg (ps := [VP.int .i64 (((mfind mkInt (d.termR a.term) pl).getD noT).op), VP.int .i64 (((mfind mkInt (d.termR a.term) pl).getD noT).fn), O_int (((mfind mkInt (d.termR a.term) pl).getD noT).kids), VP.str (((mfind mkInt (d.termR a.term) pl).getD noT).num)]) _ DagR_agg_api_Term rfl rfl rfl rfl rfl (pt_ptr (ar_tmp (av_fs 1 rfl))) (rds_box (off := 0) (av_fs 0 rfl) (hq_many (n := 4) rfl))⟩,
                    .inl ⟨wants_guard true rfl rfl rfl (av_bool hb8 (av_rs 7 7 rfl rfl)), does_field _ _ _ 4 DagR_f_collatorlaw06_Act_4 rfl rfl rfl rfl rfl rfl (pt_ptr (ar_tmp (av_fs 3 rfl)))⟩,
                    .inl ⟨wants_guard true rfl rfl rfl (av_bool hb8 (av_rs 7 7 rfl rfl)), does_loadAgg (ps := [VP.int .i64 a.term.op, VP.int .i64 a.term.fn, O_int a.term.kids, VP.str a.term.num]) _ DagR_agg_api_Term rfl rfl rfl rfl rfl (pt_pt (av_rs 9 9 rfl rfl)) (rds_box (off := 4) (av_fs 9 rfl) (hq_many (n := 4) rfl))⟩,
                    .inl ⟨wants_guard true rfl rfl rfl (av_bool hb8 (av_rs 7 7 rfl rfl)), does_call (dg_Same ((mfind mkInt (d.termR a.term) pl).getD noT) a.term) (fun _ _ _ _ h => h) rfl DagR_hb_collator_collatorref06_Same rfl rfl rfl rfl ar_clo (ars_cons (pa_vp (ar_tmp (av_rs 8 8 rfl rfl))) (ars_cons (pa_vp (ar_tmp (av_rs 10 10 rfl rfl))) ars_nil)) trivial⟩,
                    .inl ⟨wants_guard true rfl rfl rfl (av_bool hb8 (av_rs 7 7 rfl rfl)), does_not true _ _ rfl rfl rfl rfl rfl (ar_tmp (av_bool (pinv_same hP hI.ok (bne_eq_false_iff_eq.1 hb6) hb8) (av_rs 11 11 rfl rfl)))⟩,
                    .inl ⟨wants_guard false rfl rfl rfl (av_bool (by rw [← pinv_was hP hI.ok (bne_eq_false_iff_eq.1 hb6), hb8]; rfl) (av_rs 5 5 rfl rfl)), does_pick true _ _ _ rfl rfl rfl rfl rfl (ar_tmp (av_bool hb8 (av_rs 7 7 rfl rfl))) (ar_tmp (av_rs 12 12 rfl rfl))⟩,
                    wp rfl (does_pick false _ _ _ rfl rfl rfl rfl rfl (ar_tmp (av_bool (by rw [← pinv_was hP hI.ok (bne_eq_false_iff_eq.1 hb6), hb8]; rfl) (av_rs 5 5 rfl rfl))) (ar_tmp (av_rs 13 13 rfl rfl))),
                    wp rfl (does_move _ (.inl rfl) rfl rfl rfl rfl (ar_tmp (av_rs 14 14 rfl rfl))),
                    .inl ⟨wants_guard false rfl rfl rfl (av_rs 15 15 rfl rfl), does_move _ (.inl rfl) rfl rfl rfl rfl (ar_tmp (av_fs 11 rfl))⟩,
                    .inl ⟨wants_guard false rfl rfl rfl (av_rs 15 15 rfl rfl), does_call (da_Len (v := va) (d := (d.term a.term))) (fun _ _ _ _ h => h) rfl DagR_hb___collator_dag_Arena__Len rfl rfl rfl rfl ar_clo (ars_cons (pa_vp (ar_tmp (av_rs 16 16 rfl rfl))) ars_nil) ⟨(brw_own (av_fs 16 rfl) rfl), trivial⟩⟩,
                    .inl ⟨wants_guard false rfl rfl rfl (av_rs 15 15 rfl rfl), does_move _ (.inl rfl) rfl rfl rfl rfl (ar_tmp (av_fs 4 rfl))⟩,
                    .inl ⟨wants_guard false rfl rfl rfl (av_rs 15 15 rfl rfl), does_move _ (.inl rfl) rfl rfl rfl rfl (ar_tmp (av_fs 5 rfl))⟩,
                    .inl ⟨wants_guard false rfl rfl rfl (av_rs 15 15 rfl rfl), does_addE (m := (d.termR a.term)) (n := 1) (x := ((d.termR a.term) + 1)) (by omega) _ _ _ _ rfl rfl rfl rfl rfl (by omega) (ar_tmp (av_rs 19 19 rfl rfl)) (ar_const (fun _ _ => rfl))⟩,
                    .inl ⟨wants_guard false rfl rfl rfl (av_rs 15 15 rfl rfl), does_max (m := ((d.terms.length : Nat) : Int)) (n := ((d.termR a.term) + 1)) _ _ rfl rfl rfl rfl rfl (ar_tmp (av_rs 18 18 rfl rfl)) (ar_tmp (av_rs 20 20 rfl rfl))⟩,
                    .inl ⟨wants_guard false rfl rfl rfl (av_rs 15 15 rfl rfl), does_cmp (m := (((d.term a.term).terms.length : Nat) : Int)) (n := (if ((d.termR a.term) + 1) > ((d.terms.length : Nat) : Int) then ((d.termR a.term) + 1) else ((d.terms.length : Nat) : Int))) _ _ _ _ _ rfl rfl rfl rfl rfl rfl .i64 (ar_tmp (av_rs 17 17 rfl rfl)) (ar_tmp (av_rs 21 21 rfl rfl))⟩,
                    wp rfl (does_pick false _ _ _ rfl rfl rfl rfl rfl (ar_tmp (av_rs 15 15 rfl rfl)) (ar_tmp (av_rs 22 22 rfl rfl))),
                    trivial⟩ ?_
                  refine nx_then ?_
                  refine t_cond_fe 49 rfl (by rw [← term_max hI.ok (bne_eq_false_iff_eq.1 hb6)]; simp) ?_
                  refine t_skip ?_
                  refine nx_then ?_
                  refine t_seq ?_
                  refine t_rg [.own 108 (.val ct) (B_term ((mfind mkInt (d.termR a.term) pl).getD noT)), .is (.tmp 14) (VP.ptr ct), .is (.tmp 7) (VP.int .i64 ((k : Nat) : Int)), .is (.tmp 8) (VP.ptr ca), .is (.tmp 9) (VP.int .i64 ((d.terms.length : Nat) : Int)), .is (.tmp 10) (VP.int .i64 (d.termR a.term)), .is (.tmp 79) (O_int a.term.kids), .is (.tmp 80) (VP.int .i64 ((a.term.kids.length : Nat) : Int)), .is (.tmp 81) (VP.int .i64 ((j : Nat) : Int)), .own 104 (.val ca) (B_act6 a), .is (.tmp 5) (VP.ptr va), .is (.tmp 6) (VP.eq vm true true), .is (.tmp 34) (VP.eq vw true true), .is (.tmp 35) (VP.int .i64 ((((([] : List ActD) ++ l) ++ m).length : Nat) : Int)), .is (.tmp 36) (VP.int .i64 ((k : Nat) : Int)), .own 101 (.val va) (Arn (d.term a.term)), .own 103 (.val vw) (R_act6 ((([] : List ActD) ++ l) ++ m)), .is (.tmp 82) (VP.bool (decide (((j : Nat) : Int) < ((a.term.kids.length : Nat) : Int)))), .is (.tmp 90) (VP.eq vm true true), .is (.tmp 91) (VP.int .i64 (d.termR a.term)), .is (.tmp 92) (VP.tup [VP.agg [VP.int .i64 (((mfind mkInt (d.termR a.term) pl).getD noT).op), VP.int .i64 (((mfind mkInt (d.termR a.term) pl).getD noT).fn), O_int (((mfind mkInt (d.termR a.term) pl).getD noT).kids), VP.str (((mfind mkInt (d.termR a.term) pl).getD noT).num)], VP.bool ((mfind mkInt (d.termR a.term) pl).isSome)]), .is (.tmp 89) (VP.tup [VP.agg [VP.int .i64 (((mfind mkInt (d.termR a.term) pl).getD noT).op), VP.int .i64 (((mfind mkInt (d.termR a.term) pl).getD noT).fn), O_int (((mfind mkInt (d.termR a.term) pl).getD noT).kids), VP.str (((mfind mkInt (d.termR a.term) pl).getD noT).num)], VP.bool ((mfind mkInt (d.termR a.term) pl).isSome)]), .is (.tmp 93) (VP.agg [VP.int .i64 (((mfind mkInt (d.termR a.term) pl).getD noT).op), VP.int .i64 (((mfind mkInt (d.termR a.term) pl).getD noT).fn), O_int (((mfind mkInt (d.termR a.term) pl).getD noT).kids), VP.str (((mfind mkInt (d.termR a.term) pl).getD noT).num)]), .is (.tmp 94) (VP.bool ((mfind mkInt (d.termR a.term) pl).isSome)), .is (.tmp 15) (VP.bool ((mfind mkInt (d.termR a.term) pl).isSome)), .is (.tmp 95) (VP.bool ((mfind mkInt (d.termR a.term) pl).isSome)), .is (.tmp 96) (VP.int .i64 (d.termR a.term)), .is (.tmp 97) (VP.int .i64 ((d.terms.length : Nat) : Int)), .is (.tmp 98) (VP.bool (decide ((d.termR a.term) < ((d.terms.length : Nat) : Int)))), .is (.tmp 99) (VP.bool (!(true == (decide ((d.termR a.term) < ((d.terms.length : Nat) : Int)))))), .is (.tmp 100) (VP.bool (!(true == (decide ((d.termR a.term) < ((d.terms.length : Nat) : Int)))))), .is (.tmp 101) (VP.bool ((mfind mkInt (d.termR a.term) pl).isSome)), .is (.tmp 102) (VP.bool ((mfind mkInt (d.termR a.term) pl).isSome)), .is (.tmp 103) (VP.agg [VP.int .i64 (((mfind mkInt (d.termR a.term) pl).getD noT).op), VP.int .i64 (((mfind mkInt (d.termR a.term) pl).getD noT).fn), O_int (((mfind mkInt (d.termR a.term) pl).getD noT).kids), VP.str (((mfind mkInt (d.termR a.term) pl).getD noT).num)]), .pt 104 (.blk (.val ca) 4), .is (.tmp 105) (VP.agg [VP.int .i64 a.term.op, VP.int .i64 a.term.fn, O_int a.term.kids, VP.str a.term.num]), .is (.tmp 106) (VP.bool (sameT ((mfind mkInt (d.termR a.term) pl).getD noT) a.term)), .is (.tmp 107) (VP.bool false), .is (.tmp 108) (VP.bool false), .is (.tmp 109) (VP.bool false), .is (.tmp 110) (VP.bool false), .is (.tmp 111) (VP.ptr va), .is (.tmp 112) (VP.int .i64 (((d.term a.term).terms.length : Nat) : Int)), .is (.tmp 113) (VP.int .i64 ((d.terms.length : Nat) : Int)), .is (.tmp 114) (VP.int .i64 (d.termR a.term)), .is (.tmp 115) (VP.int .i64 ((d.termR a.term) + 1)), .is (.tmp 116) (VP.int .i64 (if ((d.termR a.term) + 1) > ((d.terms.length : Nat) : Int) then ((d.termR a.term) + 1) else ((d.terms.length : Nat) : Int))), .is (.tmp 117) (VP.bool ((((d.term a.term).terms.length : Nat) : Int) != (if ((d.termR a.term) + 1) > ((d.terms.length : Nat) : Int) then ((d.termR a.term) + 1) else ((d.terms.length : Nat) : Int)))), .is (.tmp 118) (VP.bool ((((d.term a.term).terms.length : Nat) : Int) != (if ((d.termR a.term) + 1) > ((d.terms.length : Nat) : Int) then ((d.termR a.term) + 1) else ((d.terms.length : Nat) : Int))))] [(4, .own 102 (.val vm) (HA.map mkInt (mEnt (fun t => VP.agg (cTerm t)) pl)))] [(0, .is (.tmp 119) (VP.eq vm true true)), (1, .is (.tmp 120) (VP.int .i64 (d.termR a.term))), (2, .pt 121 (.blk (.val ca) 4)), (3, .is (.tmp 122) (VP.agg [VP.int .i64 a.term.op, VP.int .i64 a.term.fn, O_int a.term.kids, VP.str a.term.num])), (4, .own 102 (.val vm) (HA.map mkInt (mEnt (fun t => VP.agg (cTerm t)) (mput mkInt (d.termR a.term) a.term pl))))] [] [0, 1, 2, 3, 4, 5, 6, 7, 8, 9, 11, 12, 13, 14, 15, 16, 17, 18, 19, 20, 21, 22, 23, 24, 25, 26, 27, 28, 29, 30, 31, 32, 33, 34, 35, 36, 37, 38, 39, 40, 41, 42, 43, 44, 45, 46, 47, 48, 49] [10] [[], [], [], [2], [0, 1, 2, 3]] [[4], [4], [3, 4], [4], []] rfl rfl follow rfl ⟨
                    wp rfl (does_move _ (.inl rfl) rfl rfl rfl rfl (ar_tmp (av_fs 11 rfl))),
                    wp rfl (does_move _ (.inl rfl) rfl rfl rfl rfl (ar_tmp (av_fs 5 rfl))),
                    wp rfl (does_field _ _ _ 4 DagR_f_collatorlaw06_Act_4 rfl rfl rfl rfl rfl rfl (pt_ptr (ar_tmp (av_fs 3 rfl)))),
                    wp rfl (does_loadAgg (ps := [VP.int .i64 a.term.op, VP.int .i64 a.term.fn, O_int a.term.kids, VP.str a.term.num]) _ DagR_agg_api_Term rfl rfl rfl rfl rfl (pt_pt (av_rs 2 2 rfl rfl)) (rds_box (off := 4) (av_fs 9 rfl) (hq_many (n := 4) rfl))),
                    wp rfl (does_mapPut (K := mkInt) (d.termR a.term) (R := HA.of (VP.agg [VP.int .i64 a.term.op, VP.int .i64 a.term.fn, O_int a.term.kids, VP.str a.term.num])) _ _ _ Try.underlying27 Try.underlying3 rfl rfl rfl rfl (mput_ent _ _ _ _ _) rfl (av_os 0 4 rfl rfl) (ar_tmp (av_rs 0 0 rfl rfl)) (key_int (ar_tmp (av_rs 1 1 rfl rfl))) (mv_vp (ar_tmp (av_rs 3 3 rfl rfl)))),
                    trivial⟩ ?_
                  refine nx_then ?_
                  refine t_seq ?_
                  refine t_rg [.own 108 (.val ct) (B_term ((mfind mkInt (d.termR a.term) pl).getD noT)), .is (.tmp 14) (VP.ptr ct), .is (.tmp 7) (VP.int .i64 ((k : Nat) : Int)), .is (.tmp 8) (VP.ptr ca), .is (.tmp 9) (VP.int .i64 ((d.terms.length : Nat) : Int)), .is (.tmp 10) (VP.int .i64 (d.termR a.term)), .is (.tmp 79) (O_int a.term.kids), .is (.tmp 80) (VP.int .i64 ((a.term.kids.length : Nat) : Int)), .is (.tmp 81) (VP.int .i64 ((j : Nat) : Int)), .own 104 (.val ca) (B_act6 a), .is (.tmp 5) (VP.ptr va), .is (.tmp 6) (VP.eq vm true true), .is (.tmp 34) (VP.eq vw true true), .is (.tmp 35) (VP.int .i64 ((((([] : List ActD) ++ l) ++ m).length : Nat) : Int)), .is (.tmp 36) (VP.int .i64 ((k : Nat) : Int)), .own 101 (.val va) (Arn (d.term a.term)), .own 103 (.val vw) (R_act6 ((([] : List ActD) ++ l) ++ m)), .is (.tmp 82) (VP.bool (decide (((j : Nat) : Int) < ((a.term.kids.length : Nat) : Int)))), .is (.tmp 90) (VP.eq vm true true), .is (.tmp 91) (VP.int .i64 (d.termR a.term)), .is (.tmp 92) (VP.tup [VP.agg [VP.int .i64 (((mfind mkInt (d.termR a.term) pl).getD noT).op), VP.int .i64 (((mfind mkInt (d.termR a.term) pl).getD noT).fn), O_int (((mfind mkInt (d.termR a.term) pl).getD noT).kids), VP.str (((mfind mkInt (d.termR a.term) pl).getD noT).num)], VP.bool ((mfind mkInt (d.termR a.term) pl).isSome)]), .is (.tmp 89) (VP.tup [VP.agg [VP.int .i64 (((mfind mkInt (d.termR a.term) pl).getD noT).op), VP.int .i64 (((mfind mkInt (d.termR a.term) pl).getD noT).fn), O_int (((mfind mkInt (d.termR a.term) pl).getD noT).kids), VP.str (((mfind mkInt (d.termR a.term) pl).getD noT).num)], VP.bool ((mfind mkInt (d.termR a.term) pl).isSome)]), .is (.tmp 93) (VP.agg [VP.int .i64 (((mfind mkInt (d.termR a.term) pl).getD noT).op), VP.int .i64 (((mfind mkInt (d.termR a.term) pl).getD noT).fn), O_int (((mfind mkInt (d.termR a.term) pl).getD noT).kids), VP.str (((mfind mkInt (d.termR a.term) pl).getD noT).num)]), .is (.tmp 94) (VP.bool ((mfind mkInt (d.termR a.term) pl).isSome)), .is (.tmp 15) (VP.bool ((mfind mkInt (d.termR a.term) pl).isSome)), .is (.tmp 95) (VP.bool ((mfind mkInt (d.termR a.term) pl).isSome)), .is (.tmp 96) (VP.int .i64 (d.termR a.term)), .is (.tmp 97) (VP.int .i64 ((d.terms.length : Nat) : Int)), .is (.tmp 98) (VP.bool (decide ((d.termR a.term) < ((d.terms.length : Nat) : Int)))), .is (.tmp 99) (VP.bool (!(true == (decide ((d.termR a.term) < ((d.terms.length : Nat) : Int)))))), .is (.tmp 100) (VP.bool (!(true == (decide ((d.termR a.term) < ((d.terms.length : Nat) : Int)))))), .is (.tmp 101) (VP.bool ((mfind mkInt (d.termR a.term) pl).isSome)), .is (.tmp 102) (VP.bool ((mfind mkInt (d.termR a.term) pl).isSome)), .is (.tmp 103) (VP.agg [VP.int .i64 (((mfind mkInt (d.termR a.term) pl).getD noT).op), VP.int .i64 (((mfind mkInt (d.termR a.term) pl).getD noT).fn), O_int (((mfind mkInt (d.termR a.term) pl).getD noT).kids), VP.str (((mfind mkInt (d.termR a.term) pl).getD noT).num)]), .pt 104 (.blk (.val ca) 4), .is (.tmp 105) (VP.agg [VP.int .i64 a.term.op, VP.int .i64 a.term.fn, O_int a.term.kids, VP.str a.term.num]), .is (.tmp 106) (VP.bool (sameT ((mfind mkInt (d.termR a.term) pl).getD noT) a.term)), .is (.tmp 107) (VP.bool false), .is (.tmp 108) (VP.bool false), .is (.tmp 109) (VP.bool false), .is (.tmp 110) (VP.bool false), .is (.tmp 111) (VP.ptr va), .is (.tmp 112) (VP.int .i64 (((d.term a.term).terms.length : Nat) : Int)), .is (.tmp 113) (VP.int .i64 ((d.terms.length : Nat) : Int)), .is (.tmp 114) (VP.int .i64 (d.termR a.term)), .is (.tmp 115) (VP.int .i64 ((d.termR a.term) + 1)), .is (.tmp 116) (VP.int .i64 (if ((d.termR a.term) + 1) > ((d.terms.length : Nat) : Int) then ((d.termR a.term) + 1) else ((d.terms.length : Nat) : Int))), .is (.tmp 117) (VP.bool ((((d.term a.term).terms.length : Nat) : Int) != (if ((d.termR a.term) + 1) > ((d.terms.length : Nat) : Int) then ((d.termR a.term) + 1) else ((d.terms.length : Nat) : Int)))), .is (.tmp 118) (VP.bool ((((d.term a.term).terms.length : Nat) : Int) != (if ((d.termR a.term) + 1) > ((d.terms.length : Nat) : Int) then ((d.termR a.term) + 1) else ((d.terms.length : Nat) : Int)))), .is (.tmp 119) (VP.eq vm true true), .is (.tmp 120) (VP.int .i64 (d.termR a.term)), .pt 121 (.blk (.val ca) 4), .is (.tmp 122) (VP.agg [VP.int .i64 a.term.op, VP.int .i64 a.term.fn, O_int a.term.kids, VP.str a.term.num]), .own 102 (.val vm) (HA.map mkInt (mEnt (fun t => VP.agg (cTerm t)) (mput mkInt (d.termR a.term) a.term pl)))] [] [(0, .is (.tmp 123) (VP.int .i64 ((k : Nat) : Int))), (1, .is (.tmp 124) (VP.int .i64 (((k : Nat) : Int).tmod 3))), (2, .is (.tmp 125) (VP.bool ((((k : Nat) : Int).tmod 3) == 0)))] [] [0, 1, 2, 3, 4, 5, 6, 7, 8, 9, 10, 11, 12, 13, 14, 15, 16, 17, 18, 19, 20, 21, 22, 23, 24, 25, 26, 27, 28, 29, 30, 31, 32, 33, 34, 35, 36, 37, 38, 39, 40, 41, 42, 43, 44, 45, 46, 47, 48, 49, 50, 51, 52, 53] [] [[], [0], [0, 1]] [[1, 2], [2], []] rfl rfl follow rfl ⟨
                    wp rfl (does_move _ (.inl rfl) rfl rfl rfl rfl (ar_tmp (av_fs 2 rfl))),
                    wp rfl (does_bin (m := ((k : Nat) : Int)) (n := 3) (r := (((k : Nat) : Int).tmod 3)) _ _ _ _ _ rfl rfl rfl rfl rfl rfl (br_rem (by decide) rfl) (ar_tmp (av_rs 0 0 rfl rfl)) (ar_const (fun _ _ => rfl))),
                    wp rfl (does_cmp (m := (((k : Nat) : Int).tmod 3)) (n := 0) _ _ _ _ _ rfl rfl rfl rfl rfl rfl .i64 (ar_tmp (av_rs 1 1 rfl rfl)) (ar_const (fun _ _ => rfl))),
                    trivial⟩ ?_
                  refine nx_then ?_
                  refine t_split 56 rfl (fun hb9 => ?_) (fun hb9 => ?_)
                  · have hc9 := eq_of_beq hb9
                    refine t_seq ?_
                    have hI2 := ainv_term hI a.term
                    have hC2 := can_term hI.ok hC a.term
                    have hP2 := pinv_term hP hI.ok (bne_eq_false_iff_eq.1 hb6)
                    have hkt : ∀ q ∈ (mput mkInt (d.termR a.term) a.term pl), q.2.kids.length ≤ 900000 ∧ q.2.num.size ≤ 1000000 := fun q hq => by
                      rcases mi_put_mem hq with rfl | hq
                      · exact ⟨by show a.term.kids.length ≤ 900000; omega, by show a.term.num.size ≤ 1000000; omega⟩
                      · have := hS q hq; omega
                    refine t_rg [.own 108 (.val ct) (B_term ((mfind mkInt (d.termR a.term) pl).getD noT)), .is (.tmp 14) (VP.ptr ct), .is (.tmp 7) (VP.int .i64 ((k : Nat) : Int)), .is (.tmp 8) (VP.ptr ca), .is (.tmp 9) (VP.int .i64 ((d.terms.length : Nat) : Int)), .is (.tmp 10) (VP.int .i64 (d.termR a.term)), .is (.tmp 79) (O_int a.term.kids), .is (.tmp 80) (VP.int .i64 ((a.term.kids.length : Nat) : Int)), .is (.tmp 81) (VP.int .i64 ((j : Nat) : Int)), .own 104 (.val ca) (B_act6 a), .is (.tmp 5) (VP.ptr va), .is (.tmp 6) (VP.eq vm true true), .is (.tmp 34) (VP.eq vw true true), .is (.tmp 35) (VP.int .i64 ((((([] : List ActD) ++ l) ++ m).length : Nat) : Int)), .is (.tmp 36) (VP.int .i64 ((k : Nat) : Int)), .own 101 (.val va) (Arn (d.term a.term)), .own 103 (.val vw) (R_act6 ((([] : List ActD) ++ l) ++ m)), .is (.tmp 82) (VP.bool (decide (((j : Nat) : Int) < ((a.term.kids.length : Nat) : Int)))), .is (.tmp 90) (VP.eq vm true true), .is (.tmp 91) (VP.int .i64 (d.termR a.term)), .is (.tmp 92) (VP.tup [VP.agg [VP.int .i64 (((mfind mkInt (d.termR a.term) pl).getD noT).op), VP.int .i64 (((mfind mkInt (d.termR a.term) pl).getD noT).fn), O_int (((mfind mkInt (d.termR a.term) pl).getD noT).kids), VP.str (((mfind mkInt (d.termR a.term) pl).getD noT).num)], VP.bool ((mfind mkInt (d.termR a.term) pl).isSome)]), .is (.tmp 89) (VP.tup [VP.agg [VP.int .i64 (((mfind mkInt (d.termR a.term) pl).getD noT).op), VP.int .i64 (((mfind mkInt (d.termR a.term) pl).getD noT).fn), O_int (((mfind mkInt (d.termR a.term) pl).getD noT).kids), VP.str (((mfind mkInt (d.termR a.term) pl).getD noT).num)], VP.bool ((mfind mkInt (d.termR a.term) pl).isSome)]), .is (.tmp 93) (VP.agg [VP.int .i64 (((mfind mkInt (d.termR a.term) pl).getD noT).op), VP.int .i64 (((mfind mkInt (d.termR a.term) pl).getD noT).fn), O_int (((mfind mkInt (d.termR a.term) pl).getD noT).kids), VP.str (((mfind mkInt (d.termR a.term) pl).getD noT).num)]), .is (.tmp 94) (VP.bool ((mfind mkInt (d.termR a.term) pl).isSome)), .is (.tmp 15) (VP.bool ((mfind mkInt (d.termR a.term) pl).isSome)), .is (.tmp 95) (VP.bool ((mfind mkInt (d.termR a.term) pl).isSome)), .is (.tmp 96) (VP.int .i64 (d.termR a.term)), .is (.tmp 97) (VP.int .i64 ((d.terms.length : Nat) : Int)), .is (.tmp 98) (VP.bool (decide ((d.termR a.term) < ((d.terms.length : Nat) : Int)))), .is (.tmp 99) (VP.bool (!(true == (decide ((d.termR a.term) < ((d.terms.length : Nat) : Int)))))), .is (.tmp 100) (VP.bool (!(true == (decide ((d.termR a.term) < ((d.terms.length : Nat) : Int)))))), .is (.tmp 101) (VP.bool ((mfind mkInt (d.termR a.term) pl).isSome)), .is (.tmp 102) (VP.bool ((mfind mkInt (d.termR a.term) pl).isSome)), .is (.tmp 103) (VP.agg [VP.int .i64 (((mfind mkInt (d.termR a.term) pl).getD noT).op), VP.int .i64 (((mfind mkInt (d.termR a.term) pl).getD noT).fn), O_int (((mfind mkInt (d.termR a.term) pl).getD noT).kids), VP.str (((mfind mkInt (d.termR a.term) pl).getD noT).num)]), .pt 104 (.blk (.val ca) 4), .is (.tmp 105) (VP.agg [VP.int .i64 a.term.op, VP.int .i64 a.term.fn, O_int a.term.kids, VP.str a.term.num]), .is (.tmp 106) (VP.bool (sameT ((mfind mkInt (d.termR a.term) pl).getD noT) a.term)), .is (.tmp 107) (VP.bool false), .is (.tmp 108) (VP.bool false), .is (.tmp 109) (VP.bool false), .is (.tmp 110) (VP.bool false), .is (.tmp 111) (VP.ptr va), .is (.tmp 112) (VP.int .i64 (((d.term a.term).terms.length : Nat) : Int)), .is (.tmp 113) (VP.int .i64 ((d.terms.length : Nat) : Int)), .is (.tmp 114) (VP.int .i64 (d.termR a.term)), .is (.tmp 115) (VP.int .i64 ((d.termR a.term) + 1)), .is (.tmp 116) (VP.int .i64 (if ((d.termR a.term) + 1) > ((d.terms.length : Nat) : Int) then ((d.termR a.term) + 1) else ((d.terms.length : Nat) : Int))), .is (.tmp 117) (VP.bool ((((d.term a.term).terms.length : Nat) : Int) != (if ((d.termR a.term) + 1) > ((d.terms.length : Nat) : Int) then ((d.termR a.term) + 1) else ((d.terms.length : Nat) : Int)))), .is (.tmp 118) (VP.bool ((((d.term a.term).terms.length : Nat) : Int) != (if ((d.termR a.term) + 1) > ((d.terms.length : Nat) : Int) then ((d.termR a.term) + 1) else ((d.terms.length : Nat) : Int)))), .is (.tmp 119) (VP.eq vm true true), .is (.tmp 120) (VP.int .i64 (d.termR a.term)), .pt 121 (.blk (.val ca) 4), .is (.tmp 122) (VP.agg [VP.int .i64 a.term.op, VP.int .i64 a.term.fn, O_int a.term.kids, VP.str a.term.num]), .is (.tmp 123) (VP.int .i64 ((k : Nat) : Int)), .is (.tmp 124) (VP.int .i64 (((k : Nat) : Int).tmod 3)), .is (.tmp 125) (VP.bool ((((k : Nat) : Int).tmod 3) == 0))] [(1, .own 102 (.val vm) (HA.map mkInt (mEnt (fun t => VP.agg (cTerm t)) (mput mkInt (d.termR a.term) a.term pl))))] [(0, .is (.tmp 126) (VP.eq vm true true)), (1, .own 102 (.tmp 127) (HA.rng vm mkInt (fun t => VP.agg (cTerm t)) (mput mkInt (d.termR a.term) a.term pl) ((mput mkInt (d.termR a.term) a.term pl).length)))] [] [0, 1, 2, 3, 4, 5, 6, 7, 8, 9, 10, 11, 12, 13, 14, 15, 16, 17, 18, 19, 20, 21, 22, 23, 24, 25, 26, 27, 28, 29, 30, 31, 32, 33, 34, 35, 36, 37, 38, 39, 40, 41, 42, 43, 44, 45, 46, 47, 48, 49, 50, 51, 52, 54, 55, 56] [53] [[], [0]] [[1], []] rfl rfl follow rfl ⟨
                      wp rfl (does_move _ (.inl rfl) rfl rfl rfl rfl (ar_tmp (av_fs 11 rfl))),
                      wp rfl (does_range (n := (mput mkInt (d.termR a.term) a.term pl).length) (K := mkInt) _ Try.underlying27 rfl rfl rfl rfl rfl rfl (av_os 0 1 rfl rfl) (ar_tmp (av_rs 0 0 rfl rfl))),
                      trivial⟩ ?_
                    refine nx_then ?_
                    refine t_pick [57, 0, 1, 2, 3, 4, 5, 6, 7, 8, 9, 10, 11, 12, 13, 14, 15, 16, 17, 18, 19, 20, 21, 22, 23, 24, 25, 26, 27, 28, 29, 30, 31, 32, 33, 34, 35, 36, 37, 38, 39, 40, 41, 42, 43, 44, 45, 46, 47, 48, 49, 50, 51, 52, 53, 54, 55, 56] rfl ?_
                    refine t_name rfl fun it => ?_
                    refine t_block ?_
                    refine t_loop (τ := Nat) (fun n => [.is (.tmp 127) (VP.eq it true true), .own 102 (.val it) (HA.rng vm mkInt (fun t => VP.agg (cTerm t)) (mput mkInt (d.termR a.term) a.term pl) n), .is (.tmp 5) (VP.ptr va), .is (.tmp 6) (VP.eq vm true true), .is (.tmp 34) (VP.eq vw true true), .is (.tmp 35) (VP.int .i64 ((((([] : List ActD) ++ l) ++ m).length : Nat) : Int)), .is (.tmp 36) (VP.int .i64 ((k : Nat) : Int)), .own 101 (.val va) (Arn (d.term a.term)), .own 103 (.val vw) (R_act6 ((([] : List ActD) ++ l) ++ m))]) (fun n => n) ((mput mkInt (d.termR a.term) a.term pl).length) [1, 0, 12, 13, 14, 15, 16, 17, 18] rfl ?_
                    rintro n
                    refine t_seq ?_
                    refine t_rg [.is (.tmp 127) (VP.eq it true true), .is (.tmp 5) (VP.ptr va), .is (.tmp 6) (VP.eq vm true true), .is (.tmp 34) (VP.eq vw true true), .is (.tmp 35) (VP.int .i64 ((((([] : List ActD) ++ l) ++ m).length : Nat) : Int)), .is (.tmp 36) (VP.int .i64 ((k : Nat) : Int)), .own 101 (.val va) (Arn (d.term a.term)), .own 103 (.val vw) (R_act6 ((([] : List ActD) ++ l) ++ m))] [(0, .own 102 (.val it) (HA.rng vm mkInt (fun t => VP.agg (cTerm t)) (mput mkInt (d.termR a.term) a.term pl) n))] [(0, .is (.tmp 128) (VP.fst (n ≠ 0))), (0, .own 102 (.val it) (HA.rngE vm mkInt (fun t => VP.agg (cTerm t)) (mput mkInt (d.termR a.term) a.term pl) n)), (1, .is (.tmp 129) (VP.may (n ≠ 0)))] [] [0, 2, 3, 4, 5, 6, 7, 8] [1] [[], [0]] [[1], []] rfl rfl follow rfl ⟨
                      wp rfl (does_next [0, 1] _ rfl rfl rfl rfl rfl (av_os 0 0 rfl rfl) (ar_tmp (av_fs 0 rfl))),
                      wp rfl (does_extractFst rfl rfl rfl rfl rfl (ar_tmp (av_rs 0 0 rfl rfl))),
                      trivial⟩ ?_
                    refine nx_then ?_
                    refine t_seq ?_
                    refine t_condM 10 rfl (fun hm10 => ?_) ?_
                    · have _ := hm10
                      refine t_skip ?_
                      refine nx_then ?_
                      refine t_block ?_
                      refine t_seq ?_
                      refine t_pick [9, 0, 1, 2, 3, 4, 5, 6, 7, 8, 10] rfl ?_
                      refine t_weak (rng_at (by assumption)) rfl ?_
                      refine t_ex rfl fun q => ?_
                      refine t_pure rfl fun hq => ?_
                      obtain ⟨n', p⟩ := q
                      obtain ⟨hqn, hqm⟩ : n' < n ∧ p ∈ (mput mkInt (d.termR a.term) a.term pl) := hq
                      refine t_rg [.own 102 (.val it) (HA.rngAt vm mkInt (fun t => VP.agg (cTerm t)) (mput mkInt (d.termR a.term) a.term pl) n' p), .is (.tmp 127) (VP.eq it true true), .is (.tmp 5) (VP.ptr va), .is (.tmp 6) (VP.eq vm true true), .is (.tmp 34) (VP.eq vw true true), .is (.tmp 35) (VP.int .i64 ((((([] : List ActD) ++ l) ++ m).length : Nat) : Int)), .is (.tmp 36) (VP.int .i64 ((k : Nat) : Int)), .own 101 (.val va) (Arn (d.term a.term)), .own 103 (.val vw) (R_act6 ((([] : List ActD) ++ l) ++ m)), .is (.tmp 128) (VP.fst (n ≠ 0)), .is (.tmp 129) (VP.may (n ≠ 0))] [] [(0, .is (.tmp 130) (VP.tup [VP.int .i64 p.1, VP.agg [VP.int .i64 p.2.op, VP.int .i64 p.2.fn, O_int p.2.kids, VP.str p.2.num]])), (1, .is (.tmp 131) (VP.int .i64 p.1)), (2, .is (.tmp 132) (VP.agg [VP.int .i64 p.2.op, VP.int .i64 p.2.fn, O_int p.2.kids, VP.str p.2.num])), (4, .is (.tmp 16) (VP.int .i64 p.1)), (5, .own 109 (.tmp 17) (B_term p.2))] [(3, 5, .own 109 (.tmp 17) (HA.cells 30 [HA.of (VP.int .i64 0), HA.of (VP.int .i64 0), HA.of (VP.nilS), HA.of (VP.str (ByteArray.mk #[]))]))] [0, 1, 2, 3, 4, 5, 6, 7, 8, 9, 10] [] DagR_p3_32 DagR_s3_32 rfl rfl follow rfl ⟨
                        wp rfl (does_entry (K := mkInt) (p := p) (kx := VP.int .i64 p.1) _ rfl rfl rfl rfl rfl (fun _ _ => rfl) (av_fs 0 rfl) (ar_tmp (av_fs 1 rfl))),
                        wp rfl (does_extract (ps := [VP.int .i64 p.1, VP.agg [VP.int .i64 p.2.op, VP.int .i64 p.2.fn, O_int p.2.kids, VP.str p.2.num]]) _ 0 rfl rfl rfl rfl rfl (ar_tmp (av_rs 0 0 rfl rfl)) rfl),
                        wp rfl (does_extract (ps := [VP.int .i64 p.1, VP.agg [VP.int .i64 p.2.op, VP.int .i64 p.2.fn, O_int p.2.kids, VP.str p.2.num]]) _ 1 rfl rfl rfl rfl rfl (ar_tmp (av_rs 0 0 rfl rfl)) rfl),
                        wp rfl (does_alloc (ps := [VP.int .i64 0, VP.int .i64 0, VP.nilS, VP.str (ByteArray.mk #[])]) DagR_zero_api_Term rfl rfl rfl rfl rfl rfl (fun _ _ => ⟨rfl, rfl, rfl, rfl, trivial⟩)),
                        wp rfl (does_move _ (.inr rfl) rfl rfl rfl rfl (ar_tmp (av_rs 1 1 rfl rfl))),
                        wp rfl (does_store (off := 0) (Qs := [HA.of (VP.int .i64 p.2.op), HA.of (VP.int .i64 p.2.fn), HA.of (O_int p.2.kids), HA.of (VP.str p.2.num)]) _ _ DagR_size_api_Term rfl rfl rfl rfl rfl rfl (pt_box (av_ms 0 3 5 rfl rfl rfl)) (av_ms 0 3 5 rfl rfl rfl) (cv_agg (ps := [VP.int .i64 p.2.op, VP.int .i64 p.2.fn, O_int p.2.kids, VP.str p.2.num]) (ar_tmp (av_rs 2 2 rfl rfl)))),
                        trivial⟩ ?_
                      refine nx_then ?_
                      refine t_pick [15, 0, 1, 2, 3, 4, 5, 6, 7, 8, 9, 10, 11, 12, 13, 14] rfl ?_
                      refine t_nameP rfl fun cy => ?_
                      refine t_seq ?_
                      refine t_rg [.own 109 (.val cy) (B_term p.2), .is (.tmp 17) (VP.ptr cy), .own 102 (.val it) (HA.rngAt vm mkInt (fun t => VP.agg (cTerm t)) (mput mkInt (d.termR a.term) a.term pl) n' p), .is (.tmp 127) (VP.eq it true true), .is (.tmp 5) (VP.ptr va), .is (.tmp 6) (VP.eq vm true true), .is (.tmp 34) (VP.eq vw true true), .is (.tmp 35) (VP.int .i64 ((((([] : List ActD) ++ l) ++ m).length : Nat) : Int)), .is (.tmp 36) (VP.int .i64 ((k : Nat) : Int)), .own 103 (.val vw) (R_act6 ((([] : List ActD) ++ l) ++ m)), .is (.tmp 128) (VP.fst (n ≠ 0)), .is (.tmp 129) (VP.may (n ≠ 0)), .is (.tmp 130) (VP.tup [VP.int .i64 p.1, VP.agg [VP.int .i64 p.2.op, VP.int .i64 p.2.fn, O_int p.2.kids, VP.str p.2.num]]), .is (.tmp 131) (VP.int .i64 p.1), .is (.tmp 132) (VP.agg [VP.int .i64 p.2.op, VP.int .i64 p.2.fn, O_int p.2.kids, VP.str p.2.num]), .is (.tmp 16) (VP.int .i64 p.1)] [(2, .own 101 (.val va) (Arn (d.term a.term)))] [(0, .is (.tmp 134) (VP.ptr va)), (1, .is (.tmp 135) (VP.agg [VP.int .i64 p.2.op, VP.int .i64 p.2.fn, O_int p.2.kids, VP.str p.2.num])), (2, .own 110 (.tmp 136) (HA.of (VP.tup [VP.int .i64 ((d.term a.term).termR p.2), VP.int .i64 ((d.term a.term).termE p.2)]))), (2, .own 101 (.val va) (Arn ((d.term a.term).term p.2))), (3, .is (.tmp 133) (VP.tup [VP.int .i64 ((d.term a.term).termR p.2), VP.int .i64 ((d.term a.term).termE p.2)])), (4, .is (.tmp 137) (VP.int .i64 ((d.term a.term).termR p.2))), (5, .is (.tmp 138) (VP.int .i64 ((d.term a.term).termE p.2))), (6, .is (.tmp 18) (VP.int .i64 ((d.term a.term).termR p.2))), (7, .is (.tmp 19) (VP.int .i64 ((d.term a.term).termE p.2)))] [] [0, 1, 2, 3, 4, 5, 6, 7, 8, 10, 11, 12, 13, 14, 15, 16] [9] DagR_p3_33 DagR_s3_33 rfl rfl follow rfl ⟨
                        wp rfl (does_move _ (.inl rfl) rfl rfl rfl rfl (ar_tmp (av_fs 4 rfl))),
                        wp rfl (does_loadAgg (ps := [VP.int .i64 p.2.op, VP.int .i64 p.2.fn, O_int p.2.kids, VP.str p.2.num]) _ DagR_agg_api_Term rfl rfl rfl rfl rfl (pt_ptr (ar_tmp (av_fs 1 rfl))) (rds_box (off := 0) (av_fs 0 rfl) (hq_many (n := 4) rfl))),
                        wp rfl (does_callG [] [101] [101] 110 [0, 1] (da_Term (v := va) (d := (d.term a.term)) p.2 hI2.ok (hkt p hqm).1 (hkt p hqm).2) rfl DagR_hb___collator_dag_Arena__Term rfl rfl rfl rfl rfl ar_clo (ars_cons (pa_vp (ar_tmp (av_rs 0 0 rfl rfl))) (ars_cons (pa_vp (ar_tmp (av_rs 1 1 rfl rfl))) ars_nil)) trivial ⟨(av_os 0 2 rfl rfl), trivial⟩),
                        wp rfl (does_move _ (.inl rfl) rfl rfl rfl rfl (ar_of (av_rs 2 2 rfl rfl))),
                        wp rfl (does_extract (ps := [VP.int .i64 ((d.term a.term).termR p.2), VP.int .i64 ((d.term a.term).termE p.2)]) _ 0 rfl rfl rfl rfl rfl (ar_tmp (av_rs 4 3 rfl rfl)) rfl),
                        wp rfl (does_extract (ps := [VP.int .i64 ((d.term a.term).termR p.2), VP.int .i64 ((d.term a.term).termE p.2)]) _ 1 rfl rfl rfl rfl rfl (ar_tmp (av_rs 4 3 rfl rfl)) rfl),
                        wp rfl (does_move _ (.inr rfl) rfl rfl rfl rfl (ar_tmp (av_rs 5 4 rfl rfl))),
                        wp rfl (does_move _ (.inr rfl) rfl rfl rfl rfl (ar_tmp (av_rs 6 5 rfl rfl))),
                        trivial⟩ ?_
                      refine nx_then ?_
                      refine t_pick [18, 0, 1, 2, 3, 4, 5, 6, 7, 8, 9, 10, 11, 12, 13, 14, 15, 16, 17, 19, 20, 21, 22, 23, 24] rfl ?_
                      refine t_freeze (fz_of _) rfl ?_
                      refine t_seq ?_
                      refine t_rg [.is (.tmp 136) (VP.tup [VP.int .i64 ((d.term a.term).termR p.2), VP.int .i64 ((d.term a.term).termE p.2)]), .own 109 (.val cy) (B_term p.2), .is (.tmp 17) (VP.ptr cy), .own 102 (.val it) (HA.rngAt vm mkInt (fun t => VP.agg (cTerm t)) (mput mkInt (d.termR a.term) a.term pl) n' p), .is (.tmp 127) (VP.eq it true true), .is (.tmp 5) (VP.ptr va), .is (.tmp 6) (VP.eq vm true true), .is (.tmp 34) (VP.eq vw true true), .is (.tmp 35) (VP.int .i64 ((((([] : List ActD) ++ l) ++ m).length : Nat) : Int)), .is (.tmp 36) (VP.int .i64 ((k : Nat) : Int)), .own 103 (.val vw) (R_act6 ((([] : List ActD) ++ l) ++ m)), .is (.tmp 128) (VP.fst (n ≠ 0)), .is (.tmp 129) (VP.may (n ≠ 0)), .is (.tmp 130) (VP.tup [VP.int .i64 p.1, VP.agg [VP.int .i64 p.2.op, VP.int .i64 p.2.fn, O_int p.2.kids, VP.str p.2.num]]), .is (.tmp 131) (VP.int .i64 p.1), .is (.tmp 132) (VP.agg [VP.int .i64 p.2.op, VP.int .i64 p.2.fn, O_int p.2.kids, VP.str p.2.num]), .is (.tmp 16) (VP.int .i64 p.1), .is (.tmp 134) (VP.ptr va), .is (.tmp 135) (VP.agg [VP.int .i64 p.2.op, VP.int .i64 p.2.fn, O_int p.2.kids, VP.str p.2.num]), .own 101 (.val va) (Arn ((d.term a.term).term p.2)), .is (.tmp 133) (VP.tup [VP.int .i64 ((d.term a.term).termR p.2), VP.int .i64 ((d.term a.term).termE p.2)]), .is (.tmp 137) (VP.int .i64 ((d.term a.term).termR p.2)), .is (.tmp 138) (VP.int .i64 ((d.term a.term).termE p.2)), .is (.tmp 18) (VP.int .i64 ((d.term a.term).termR p.2)), .is (.tmp 19) (VP.int .i64 ((d.term a.term).termE p.2))] [] [(0, .is (.tmp 139) (VP.int .i64 ((d.term a.term).termE p.2))), (1, .is (.tmp 140) (VP.bool (((d.term a.term).termE p.2) != 0))), (2, .is (.tmp 141) (VP.bool (((d.term a.term).termE p.2) != 0))), (3, .is (.tmp 142) (VP.int .i64 ((d.term a.term).termR p.2))), (4, .is (.tmp 143) (VP.int .i64 p.1)), (5, .is (.tmp 144) (VP.bool (((d.term a.term).termR p.2) != p.1))), (6, .is (.tmp 145) (VP.bool (((d.term a.term).termR p.2) != p.1)))] [] [0, 1, 2, 3, 4, 5, 6, 7, 8, 9, 10, 11, 12, 13, 14, 15, 16, 17, 18, 19, 20, 21, 22, 23, 24] [] DagR_p3_34 DagR_s3_34 rfl rfl follow rfl ⟨
                        wp rfl (does_move _ (.inl rfl) rfl rfl rfl rfl (ar_tmp (av_fs 24 rfl))),
                        wp rfl (does_cmp (m := ((d.term a.term).termE p.2)) (n := 0) _ _ _ _ _ rfl rfl rfl rfl rfl rfl .i64 (ar_tmp (av_rs 0 0 rfl rfl)) (ar_const (fun _ _ => rfl))),
                        wp rfl (does_move _ (.inl rfl) rfl rfl rfl rfl (ar_tmp (av_rs 1 1 rfl rfl))),
                        .inl ⟨wants_guard false rfl rfl rfl (av_bool (by rw [(pinv_again hP2 hI2.ok hC2 hqm).2.2]; rfl) (av_rs 2 2 rfl rfl)), does_move _ (.inl rfl) rfl rfl rfl rfl (ar_tmp (av_fs 23 rfl))⟩,
                        .inl ⟨wants_guard false rfl rfl rfl (av_bool (by rw [(pinv_again hP2 hI2.ok hC2 hqm).2.2]; rfl) (av_rs 2 2 rfl rfl)), does_move _ (.inl rfl) rfl rfl rfl rfl (ar_tmp (av_fs 16 rfl))⟩,
                        .inl ⟨wants_guard false rfl rfl rfl (av_bool (by rw [(pinv_again hP2 hI2.ok hC2 hqm).2.2]; rfl) (av_rs 2 2 rfl rfl)), does_cmp (m := ((d.term a.term).termR p.2)) (n := p.1) _ _ _ _ _ rfl rfl rfl rfl rfl rfl .i64 (ar_tmp (av_rs 3 3 rfl rfl)) (ar_tmp (av_rs 4 4 rfl rfl))⟩,
                        wp rfl (does_pick false _ _ _ rfl rfl rfl rfl rfl (ar_tmp (av_bool (by rw [(pinv_again hP2 hI2.ok hC2 hqm).2.2]; rfl) (av_rs 2 2 rfl rfl))) (ar_tmp (av_rs 5 5 rfl rfl))),
                        trivial⟩ ?_
                      refine nx_then ?_
                      refine t_cond_fe 31 rfl (by rw [(pinv_again hP2 hI2.ok hC2 hqm).2.1]; simp) ?_
                      refine t_skip ?_
                      refine nx_block ?_
                      refine t_pick [19, 0, 1, 2, 3, 4, 5, 6, 7, 8, 9, 10, 11, 12, 13, 14, 15, 16, 17, 18, 20, 21, 22, 23, 24, 25, 26, 27, 28, 29, 30, 31] rfl ?_
                      refine t_weak (R' := Arn (d.term a.term)) (fun _ _ _ _ h => by rw [(pinv_again hP2 hI2.ok hC2 hqm).1] at h; exact h) rfl ?_
                      refine t_pick [4, 0, 1, 2, 3, 5, 6, 7, 8, 9, 10, 11, 12, 13, 14, 15, 16, 17, 18, 19, 20, 21, 22, 23, 24, 25, 26, 27, 28, 29, 30, 31] rfl ?_
                      refine t_weak rng_up rfl ?_
                      refine nx_round (τ := Nat) (I := fun n => [.is (.tmp 127) (VP.eq it true true), .own 102 (.val it) (HA.rng vm mkInt (fun t => VP.agg (cTerm t)) (mput mkInt (d.termR a.term) a.term pl) n), .is (.tmp 5) (VP.ptr va), .is (.tmp 6) (VP.eq vm true true), .is (.tmp 34) (VP.eq vw true true), .is (.tmp 35) (VP.int .i64 ((((([] : List ActD) ++ l) ++ m).length : Nat) : Int)), .is (.tmp 36) (VP.int .i64 ((k : Nat) : Int)), .own 101 (.val va) (Arn (d.term a.term)), .own 103 (.val vw) (R_act6 ((([] : List ActD) ++ l) ++ m))]) (μ := fun n => n) (s := n) n' ?_ [5, 0, 6, 7, 8, 9, 10, 1, 11] ?_
                      · exact (show n' < n from hqn)
                      · exact rfl
                    · refine t_exit ?_
                      refine ex_then ?_
                      refine ex_then ?_
                      refine ex_block ?_
                      refine t_pick [9, 0, 1, 2, 3, 4, 5, 6, 7, 8, 10] rfl ?_
                      refine t_unrng rfl ?_
                      refine nx_block ?_
                      refine nx_then ?_
                      refine t_rg [.own 102 (.val vm) (HA.map mkInt (mEnt (fun t => VP.agg (cTerm t)) (mput mkInt (d.termR a.term) a.term pl))), .is (.tmp 127) (VP.eq it true true), .is (.tmp 5) (VP.ptr va), .is (.tmp 6) (VP.eq vm true true), .is (.tmp 34) (VP.eq vw true true), .is (.tmp 35) (VP.int .i64 ((((([] : List ActD) ++ l) ++ m).length : Nat) : Int)), .own 101 (.val va) (Arn (d.term a.term)), .own 103 (.val vw) (R_act6 ((([] : List ActD) ++ l) ++ m)), .is (.tmp 128) (VP.fst (n ≠ 0)), .is (.tmp 129) (VP.may (n ≠ 0))] [(1, .is (.tmp 36) (VP.int .i64 ((k : Nat) : Int)))] [(0, .is (.tmp 146) (VP.int .i64 (((k + 1) : Nat) : Int))), (1, .is (.tmp 36) (VP.int .i64 (((k + 1) : Nat) : Int)))] [] [0, 1, 2, 3, 4, 5, 7, 8, 9, 10] [6] [[], [0]] [[1], []] rfl rfl follow rfl ⟨
                        wp rfl (does_addE (m := ((k : Nat) : Int)) (n := 1) (x := (((k + 1) : Nat) : Int)) (by omega) _ _ _ _ rfl rfl rfl rfl rfl (by omega) (ar_tmp (av_os 0 1 rfl rfl)) (ar_const (fun _ _ => rfl))),
                        wp rfl (does_move _ (.inl rfl) rfl rfl rfl rfl (ar_tmp (av_rs 0 0 rfl rfl))),
                        trivial⟩ ?_
                      refine nx_round (τ := {x : Nat × ArD × List (Int × TermD) // x.1 ≤ ((([] : List ActD) ++ l) ++ m).length ∧ AInv x.2.1 x.1 ∧ x.2.1.Can ∧ PInv x.2.1 x.2.2 ∧ ∀ q ∈ x.2.2, q.2.kids.length ≤ 12 ∧ q.2.num.size ≤ 60}) (I := fun ⟨(k, d, pl), _⟩ => [.is (.tmp 5) (VP.ptr va), .is (.tmp 6) (VP.eq vm true true), .is (.tmp 34) (VP.eq vw true true), .is (.tmp 35) (VP.int .i64 ((((([] : List ActD) ++ l) ++ m).length : Nat) : Int)), .is (.tmp 36) (VP.int .i64 ((k : Nat) : Int)), .own 101 (.val va) (Arn d), .own 103 (.val vw) (R_act6 ((([] : List ActD) ++ l) ++ m)), .own 102 (.val vm) (HA.map mkInt (mEnt (fun t => VP.agg (cTerm t)) pl))]) (μ := fun ⟨(k, d, pl), _⟩ => ((([] : List ActD) ++ l) ++ m).length - k) (s := ⟨(k, d, pl), hk, hI, hC, hP, hS⟩) (⟨(k + 1, (d.term a.term), (mput mkInt (d.termR a.term) a.term pl)), (show k + 1 ≤ ((([] : List ActD) ++ l) ++ m).length by omega), ainv_term hI a.term, can_term hI.ok hC a.term, pinv_term hP hI.ok (bne_eq_false_iff_eq.1 hb6), put_small hS hga0.2.2⟩) ?_ [2, 3, 4, 5, 11, 6, 7, 0] ?_
                      · exact (show ((([] : List ActD) ++ l) ++ m).length - (k + 1) < ((([] : List ActD) ++ l) ++ m).length - k by omega)
                      · exact rfl
                  · have hc9 := ne_of_beq_false hb9
                    refine t_skip ?_
                    refine nx_block ?_
                    refine nx_then ?_
                    refine t_rg [.own 108 (.val ct) (B_term ((mfind mkInt (d.termR a.term) pl).getD noT)), .is (.tmp 14) (VP.ptr ct), .is (.tmp 7) (VP.int .i64 ((k : Nat) : Int)), .is (.tmp 8) (VP.ptr ca), .is (.tmp 9) (VP.int .i64 ((d.terms.length : Nat) : Int)), .is (.tmp 10) (VP.int .i64 (d.termR a.term)), .is (.tmp 79) (O_int a.term.kids), .is (.tmp 80) (VP.int .i64 ((a.term.kids.length : Nat) : Int)), .is (.tmp 81) (VP.int .i64 ((j : Nat) : Int)), .own 104 (.val ca) (B_act6 a), .is (.tmp 5) (VP.ptr va), .is (.tmp 6) (VP.eq vm true true), .is (.tmp 34) (VP.eq vw true true), .is (.tmp 35) (VP.int .i64 ((((([] : List ActD) ++ l) ++ m).length : Nat) : Int)), .own 101 (.val va) (Arn (d.term a.term)), .own 103 (.val vw) (R_act6 ((([] : List ActD) ++ l) ++ m)), .is (.tmp 82) (VP.bool (decide (((j : Nat) : Int) < ((a.term.kids.length : Nat) : Int)))), .is (.tmp 90) (VP.eq vm true true), .is (.tmp 91) (VP.int .i64 (d.termR a.term)), .is (.tmp 92) (VP.tup [VP.agg [VP.int .i64 (((mfind mkInt (d.termR a.term) pl).getD noT).op), VP.int .i64 (((mfind mkInt (d.termR a.term) pl).getD noT).fn), O_int (((mfind mkInt (d.termR a.term) pl).getD noT).kids), VP.str (((mfind mkInt (d.termR a.term) pl).getD noT).num)], VP.bool ((mfind mkInt (d.termR a.term) pl).isSome)]), .is (.tmp 89) (VP.tup [VP.agg [VP.int .i64 (((mfind mkInt (d.termR a.term) pl).getD noT).op), VP.int .i64 (((mfind mkInt (d.termR a.term) pl).getD noT).fn), O_int (((mfind mkInt (d.termR a.term) pl).getD noT).kids), VP.str (((mfind mkInt (d.termR a.term) pl).getD noT).num)], VP.bool ((mfind mkInt (d.termR a.term) pl).isSome)]), .is (.tmp 93) (VP.agg [VP.int .i64 (((mfind mkInt (d.termR a.term) pl).getD noT).op), VP.int .i64 (((mfind mkInt (d.termR a.term) pl).getD noT).fn), O_int (((mfind mkInt (d.termR a.term) pl).getD noT).kids), VP.str (((mfind mkInt (d.termR a.term) pl).getD noT).num)]), .is (.tmp 94) (VP.bool ((mfind mkInt (d.termR a.term) pl).isSome)), .is (.tmp 15) (VP.bool ((mfind mkInt (d.termR a.term) pl).isSome)), .is (.tmp 95) (VP.bool ((mfind mkInt (d.termR a.term) pl).isSome)), .is (.tmp 96) (VP.int .i64 (d.termR a.term)), .is (.tmp 97) (VP.int .i64 ((d.terms.length : Nat) : Int)), .is (.tmp 98) (VP.bool (decide ((d.termR a.term) < ((d.terms.length : Nat) : Int)))), .is (.tmp 99) (VP.bool (!(true == (decide ((d.termR a.term) < ((d.terms.length : Nat) : Int)))))), .is (.tmp 100) (VP.bool (!(true == (decide ((d.termR a.term) < ((d.terms.length : Nat) : Int)))))), .is (.tmp 101) (VP.bool ((mfind mkInt (d.termR a.term) pl).isSome)), .is (.tmp 102) (VP.bool ((mfind mkInt (d.termR a.term) pl).isSome)), .is (.tmp 103) (VP.agg [VP.int .i64 (((mfind mkInt (d.termR a.term) pl).getD noT).op), VP.int .i64 (((mfind mkInt (d.termR a.term) pl).getD noT).fn), O_int (((mfind mkInt (d.termR a.term) pl).getD noT).kids), VP.str (((mfind mkInt (d.termR a.term) pl).getD noT).num)]), .pt 104 (.blk (.val ca) 4), .is (.tmp 105) (VP.agg [VP.int .i64 a.term.op, VP.int .i64 a.term.fn, O_int a.term.kids, VP.str a.term.num]), .is (.tmp 106) (VP.bool (sameT ((mfind mkInt (d.termR a.term) pl).getD noT) a.term)), .is (.tmp 107) (VP.bool false), .is (.tmp 108) (VP.bool false), .is (.tmp 109) (VP.bool false), .is (.tmp 110) (VP.bool false), .is (.tmp 111) (VP.ptr va), .is (.tmp 112) (VP.int .i64 (((d.term a.term).terms.length : Nat) : Int)), .is (.tmp 113) (VP.int .i64 ((d.terms.length : Nat) : Int)), .is (.tmp 114) (VP.int .i64 (d.termR a.term)), .is (.tmp 115) (VP.int .i64 ((d.termR a.term) + 1)), .is (.tmp 116) (VP.int .i64 (if ((d.termR a.term) + 1) > ((d.terms.length : Nat) : Int) then ((d.termR a.term) + 1) else ((d.terms.length : Nat) : Int))), .is (.tmp 117) (VP.bool ((((d.term a.term).terms.length : Nat) : Int) != (if ((d.termR a.term) + 1) > ((d.terms.length : Nat) : Int) then ((d.termR a.term) + 1) else ((d.terms.length : Nat) : Int)))), .is (.tmp 118) (VP.bool ((((d.term a.term).terms.length : Nat) : Int) != (if ((d.termR a.term) + 1) > ((d.terms.length : Nat) : Int) then ((d.termR a.term) + 1) else ((d.terms.length : Nat) : Int)))), .is (.tmp 119) (VP.eq vm true true), .is (.tmp 120) (VP.int .i64 (d.termR a.term)), .pt 121 (.blk (.val ca) 4), .is (.tmp 122) (VP.agg [VP.int .i64 a.term.op, VP.int .i64 a.term.fn, O_int a.term.kids, VP.str a.term.num]), .own 102 (.val vm) (HA.map mkInt (mEnt (fun t => VP.agg (cTerm t)) (mput mkInt (d.termR a.term) a.term pl))), .is (.tmp 123) (VP.int .i64 ((k : Nat) : Int)), .is (.tmp 124) (VP.int .i64 (((k : Nat) : Int).tmod 3)), .is (.tmp 125) (VP.bool ((((k : Nat) : Int).tmod 3) == 0))] [(1, .is (.tmp 36) (VP.int .i64 ((k : Nat) : Int)))] [(0, .is (.tmp 146) (VP.int .i64 (((k + 1) : Nat) : Int))), (1, .is (.tmp 36) (VP.int .i64 (((k + 1) : Nat) : Int)))] [] [0, 1, 2, 3, 4, 5, 6, 7, 8, 9, 10, 11, 12, 13, 15, 16, 17, 18, 19, 20, 21, 22, 23, 24, 25, 26, 27, 28, 29, 30, 31, 32, 33, 34, 35, 36, 37, 38, 39, 40, 41, 42, 43, 44, 45, 46, 47, 48, 49, 50, 51, 52, 53, 54, 55, 56] [14] [[], [0]] [[1], []] rfl rfl follow rfl ⟨
                      wp rfl (does_addE (m := ((k : Nat) : Int)) (n := 1) (x := (((k + 1) : Nat) : Int)) (by omega) _ _ _ _ rfl rfl rfl rfl rfl (by omega) (ar_tmp (av_os 0 1 rfl rfl)) (ar_const (fun _ _ => rfl))),
                      wp rfl (does_move _ (.inl rfl) rfl rfl rfl rfl (ar_tmp (av_rs 0 0 rfl rfl))),
                      trivial⟩ ?_
                    refine nx_round (τ := {x : Nat × ArD × List (Int × TermD) // x.1 ≤ ((([] : List ActD) ++ l) ++ m).length ∧ AInv x.2.1 x.1 ∧ x.2.1.Can ∧ PInv x.2.1 x.2.2 ∧ ∀ q ∈ x.2.2, q.2.kids.length ≤ 12 ∧ q.2.num.size ≤ 60}) (I := fun ⟨(k, d, pl), _⟩ => [.is (.tmp 5) (VP.ptr va), .is (.tmp 6) (VP.eq vm true true), .is (.tmp 34) (VP.eq vw true true), .is (.tmp 35) (VP.int .i64 ((((([] : List ActD) ++ l) ++ m).length : Nat) : Int)), .is (.tmp 36) (VP.int .i64 ((k : Nat) : Int)), .own 101 (.val va) (Arn d), .own 103 (.val vw) (R_act6 ((([] : List ActD) ++ l) ++ m)), .own 102 (.val vm) (HA.map mkInt (mEnt (fun t => VP.agg (cTerm t)) pl))]) (μ := fun ⟨(k, d, pl), _⟩ => ((([] : List ActD) ++ l) ++ m).length - k) (s := ⟨(k, d, pl), hk, hI, hC, hP, hS⟩) (⟨(k + 1, (d.term a.term), (mput mkInt (d.termR a.term) a.term pl)), (show k + 1 ≤ ((([] : List ActD) ++ l) ++ m).length by omega), ainv_term hI a.term, can_term hI.ok hC a.term, pinv_term hP hI.ok (bne_eq_false_iff_eq.1 hb6), put_small hS hga0.2.2⟩) ?_ [10, 11, 12, 13, 57, 14, 15, 52] ?_
                    · exact (show ((([] : List ActD) ++ l) ++ m).length - (k + 1) < ((([] : List ActD) ++ l) ++ m).length - k by omega)
                    · exact rfl
                · refine t_rg [.own 108 (.val ct) (B_term ((mfind mkInt (d.termR a.term) pl).getD noT)), .is (.tmp 14) (VP.ptr ct), .is (.tmp 7) (VP.int .i64 ((k : Nat) : Int)), .is (.tmp 8) (VP.ptr ca), .is (.tmp 9) (VP.int .i64 ((d.terms.length : Nat) : Int)), .is (.tmp 10) (VP.int .i64 (d.termR a.term)), .is (.tmp 79) (O_int a.term.kids), .is (.tmp 80) (VP.int .i64 ((a.term.kids.length : Nat) : Int)), .is (.tmp 81) (VP.int .i64 ((j : Nat) : Int)), .own 104 (.val ca) (B_act6 a), .own 102 (.val vm) (HA.map mkInt (mEnt (fun t => VP.agg (cTerm t)) pl)), .is (.tmp 5) (VP.ptr va), .is (.tmp 6) (VP.eq vm true true), .is (.tmp 34) (VP.eq vw true true), .is (.tmp 35) (VP.int .i64 ((((([] : List ActD) ++ l) ++ m).length : Nat) : Int)), .is (.tmp 36) (VP.int .i64 ((k : Nat) : Int)), .own 101 (.val va) (Arn (d.term a.term)), .own 103 (.val vw) (R_act6 ((([] : List ActD) ++ l) ++ m)), .is (.tmp 82) (VP.bool (decide (((j : Nat) : Int) < ((a.term.kids.length : Nat) : Int)))), .is (.tmp 90) (VP.eq vm true true), .is (.tmp 91) (VP.int .i64 (d.termR a.term)), .is (.tmp 92) (VP.tup [VP.agg [VP.int .i64 (((mfind mkInt (d.termR a.term) pl).getD noT).op), VP.int .i64 (((mfind mkInt (d.termR a.term) pl).getD noT).fn), O_int (((mfind mkInt (d.termR a.term) pl).getD noT).kids), VP.str (((mfind mkInt (d.termR a.term) pl).getD noT).num)], VP.bool ((mfind mkInt (d.termR a.term) pl).isSome)]), .is (.tmp 89) (VP.tup [VP.agg [VP.int .i64 (((mfind mkInt (d.termR a.term) pl).getD noT).op), VP.int .i64 (((mfind mkInt (d.termR a.term) pl).getD noT).fn), O_int (((mfind mkInt (d.termR a.term) pl).getD noT).kids), VP.str (((mfind mkInt (d.termR a.term) pl).getD noT).num)], VP.bool ((mfind mkInt (d.termR a.term) pl).isSome)]), .is (.tmp 93) (VP.agg [VP.int .i64 (((mfind mkInt (d.termR a.term) pl).getD noT).op), VP.int .i64 (((mfind mkInt (d.termR a.term) pl).getD noT).fn), O_int (((mfind mkInt (d.termR a.term) pl).getD noT).kids), VP.str (((mfind mkInt (d.termR a.term) pl).getD noT).num)]), .is (.tmp 94) (VP.bool ((mfind mkInt (d.termR a.term) pl).isSome)), .is (.tmp 15) (VP.bool ((mfind mkInt (d.termR a.term) pl).isSome))] [] [(0, .is (.tmp 95) (VP.bool ((mfind mkInt (d.termR a.term) pl).isSome))), (1, .is (.tmp 96) (VP.int .i64 (d.termR a.term))), (2, .is (.tmp 97) (VP.int .i64 ((d.terms.length : Nat) : Int))), (3, .is (.tmp 98) (VP.bool (decide ((d.termR a.term) < ((d.terms.length : Nat) : Int))))), (4, .is (.tmp 99) (VP.bool (!(false == (decide ((d.termR a.term) < ((d.terms.length : Nat) : Int))))))), (5, .is (.tmp 100) (VP.bool (!(false == (decide ((d.termR a.term) < ((d.terms.length : Nat) : Int))))))), (6, .is (.tmp 101) (VP.bool ((mfind mkInt (d.termR a.term) pl).isSome))), (7, .is (.tmp 102) (VP.bool ((mfind mkInt (d.termR a.term) pl).isSome))), (8, .is (.tmp 103) (VP.undef)), (9, .is (.tmp 104) (VP.undef)), (10, .is (.tmp 105) (VP.undef)), (11, .is (.tmp 106) (VP.undef)), (12, .is (.tmp 107) (VP.undef)), (13, .is (.tmp 108) (VP.bool false)), (14, .is (.tmp 109) (VP.bool false)), (15, .is (.tmp 110) (VP.bool false)), (16, .is (.tmp 111) (VP.ptr va)), (17, .is (.tmp 112) (VP.int .i64 (((d.term a.term).terms.length : Nat) : Int))), (18, .is (.tmp 113) (VP.int .i64 ((d.terms.length : Nat) : Int))), (19, .is (.tmp 114) (VP.int .i64 (d.termR a.term))), (20, .is (.tmp 115) (VP.int .i64 ((d.termR a.term) + 1))), (21, .is (.tmp 116) (VP.int .i64 (if ((d.termR a.term) + 1) > ((d.terms.length : Nat) : Int) then ((d.termR a.term) + 1) else ((d.terms.length : Nat) : Int)))), (22, .is (.tmp 117) (VP.bool ((((d.term a.term).terms.length : Nat) : Int) != (if ((d.termR a.term) + 1) > ((d.terms.length : Nat) : Int) then ((d.termR a.term) + 1) else ((d.terms.length : Nat) : Int))))), (23, .is (.tmp 118) (VP.bool ((((d.term a.term).terms.length : Nat) : Int) != (if ((d.termR a.term) + 1) > ((d.terms.length : Nat) : Int) then ((d.termR a.term) + 1) else ((d.terms.length : Nat) : Int)))))] [] [0, 1, 2, 3, 4, 5, 6, 7, 8, 9, 10, 11, 12, 13, 14, 15, 16, 17, 18, 19, 20, 21, 22, 23, 24, 25] [] DagR_p3_26 DagR_s3_26 rfl rfl follow rfl ⟨
                    wp rfl (does_move _ (.inl rfl) rfl rfl rfl rfl (ar_tmp (av_fs 25 rfl))),
                    wp rfl (does_move _ (.inl rfl) rfl rfl rfl rfl (ar_tmp (av_fs 5 rfl))),
                    wp rfl (does_move _ (.inl rfl) rfl rfl rfl rfl (ar_tmp (av_fs 4 rfl))),
                    wp rfl (does_cmp (m := (d.termR a.term)) (n := ((d.terms.length : Nat) : Int)) _ _ _ _ _ rfl rfl rfl rfl rfl rfl .i64 (ar_tmp (av_rs 1 1 rfl rfl)) (ar_tmp (av_rs 2 2 rfl rfl))),
                    wp rfl (does_eqBool (u := false) (v := (decide ((d.termR a.term) < ((d.terms.length : Nat) : Int)))) _ _ _ _ _ (by kernel_rfl) rfl rfl rfl rfl rfl rfl (ar_tmp (av_bool hb8 (av_rs 0 0 rfl rfl))) (ar_tmp (av_rs 3 3 rfl rfl))),
                    wp rfl (does_move _ (.inl rfl) rfl rfl rfl rfl (ar_tmp (av_rs 4 4 rfl rfl))),
                    .inl ⟨wants_guard false rfl rfl rfl (av_bool (by rw [← pinv_was hP hI.ok (bne_eq_false_iff_eq.1 hb6), hb8]; rfl) (av_rs 5 5 rfl rfl)), does_move _ (.inl rfl) rfl rfl rfl rfl (ar_tmp (av_fs 25 rfl))⟩,
                    .inl ⟨wants_guard false rfl rfl rfl (av_bool (by rw [← pinv_was hP hI.ok (bne_eq_false_iff_eq.1 hb6), hb8]; rfl) (av_rs 5 5 rfl rfl)), does_move _ (.inl rfl) rfl rfl rfl rfl (ar_tmp (av_rs 6 6 rfl rfl))⟩,
                    .inr (skips_guardU false rfl rfl rfl (av_bool hb8 (av_rs 7 7 rfl rfl)) rfl rfl rfl rfl),
                    .inr (skips_guardU false rfl rfl rfl (av_bool hb8 (av_rs 7 7 rfl rfl)) rfl rfl rfl rfl),
                    .inr (skips_guardU false rfl rfl rfl (av_bool hb8 (av_rs 7 7 rfl rfl)) rfl rfl rfl rfl),
                    .inr (skips_guardU false rfl rfl rfl (av_bool hb8 (av_rs 7 7 rfl rfl)) rfl rfl rfl rfl),
                    .inr (skips_guardU false rfl rfl rfl (av_bool hb8 (av_rs 7 7 rfl rfl)) rfl rfl rfl rfl),
                    .inl ⟨wants_guard false rfl rfl rfl (av_bool (by rw [← pinv_was hP hI.ok (bne_eq_false_iff_eq.1 hb6), hb8]; rfl) (av_rs 5 5 rfl rfl)), does_pick false _ _ _ rfl rfl rfl rfl rfl (ar_tmp (av_bool hb8 (av_rs 7 7 rfl rfl))) (ar_const (fun _ _ => rfl))⟩,
                    wp rfl (does_pick false _ _ _ rfl rfl rfl rfl rfl (ar_tmp (av_bool (by rw [← pinv_was hP hI.ok (bne_eq_false_iff_eq.1 hb6), hb8]; rfl) (av_rs 5 5 rfl rfl))) (ar_tmp (av_rs 13 13 rfl rfl))),
                    wp rfl (does_move _ (.inl rfl) rfl rfl rfl rfl (ar_tmp (av_rs 14 14 rfl rfl))),
                    .inl ⟨wants_guard false rfl rfl rfl (av_rs 15 15 rfl rfl), does_move _ (.inl rfl) rfl rfl rfl rfl (ar_tmp (av_fs 11 rfl))⟩,
                    .inl ⟨wants_guard false rfl rfl rfl (av_rs 15 15 rfl rfl), does_call (da_Len (v := va) (d := (d.term a.term))) (fun _ _ _ _ h => h) rfl DagR_hb___collator_dag_Arena__Len rfl rfl rfl rfl ar_clo (ars_cons (pa_vp (ar_tmp (av_rs 16 16 rfl rfl))) ars_nil) ⟨(brw_own (av_fs 16 rfl) rfl), trivial⟩⟩,
                    .inl ⟨wants_guard false rfl rfl rfl (av_rs 15 15 rfl rfl), does_move _ (.inl rfl) rfl rfl rfl rfl (ar_tmp (av_fs 4 rfl))⟩,
                    .inl ⟨wants_guard false rfl rfl rfl (av_rs 15 15 rfl rfl), does_move _ (.inl rfl) rfl rfl rfl rfl (ar_tmp (av_fs 5 rfl))⟩,
                    .inl ⟨wants_guard false rfl rfl rfl (av_rs 15 15 rfl rfl), does_addE (m := (d.termR a.term)) (n := 1) (x := ((d.termR a.term) + 1)) (by omega) _ _ _ _ rfl rfl rfl rfl rfl (by omega) (ar_tmp (av_rs 19 19 rfl rfl)) (ar_const (fun _ _ => rfl))⟩,
                    .inl ⟨wants_guard false rfl rfl rfl (av_rs 15 15 rfl rfl), does_max (m := ((d.terms.length : Nat) : Int)) (n := ((d.termR a.term) + 1)) _ _ rfl rfl rfl rfl rfl (ar_tmp (av_rs 18 18 rfl rfl)) (ar_tmp (av_rs 20 20 rfl rfl))⟩,
                    .inl ⟨wants_guard false rfl rfl rfl (av_rs 15 15 rfl rfl), does_cmp (m := (((d.term a.term).terms.length : Nat) : Int)) (n := (if ((d.termR a.term) + 1) > ((d.terms.length : Nat) : Int) then ((d.termR a.term) + 1) else ((d.terms.length : Nat) : Int))) _ _ _ _ _ rfl rfl rfl rfl rfl rfl .i64 (ar_tmp (av_rs 17 17 rfl rfl)) (ar_tmp (av_rs 21 21 rfl rfl))⟩,
                    wp rfl (does_pick false _ _ _ rfl rfl rfl rfl rfl (ar_tmp (av_rs 15 15 rfl rfl)) (ar_tmp (av_rs 22 22 rfl rfl))),
                    trivial⟩ ?_
                  refine nx_then ?_
                  refine t_cond_fe 49 rfl (by rw [← term_max hI.ok (bne_eq_false_iff_eq.1 hb6)]; simp) ?_
                  refine t_skip ?_
                  refine nx_then ?_
                  refine t_seq ?_
                  refine t_rg [.own 108 (.val ct) (B_term ((mfind mkInt (d.termR a.term) pl).getD noT)), .is (.tmp 14) (VP.ptr ct), .is (.tmp 7) (VP.int .i64 ((k : Nat) : Int)), .is (.tmp 8) (VP.ptr ca), .is (.tmp 9) (VP.int .i64 ((d.terms.length : Nat) : Int)), .is (.tmp 10) (VP.int .i64 (d.termR a.term)), .is (.tmp 79) (O_int a.term.kids), .is (.tmp 80) (VP.int .i64 ((a.term.kids.length : Nat) : Int)), .is (.tmp 81) (VP.int .i64 ((j : Nat) : Int)), .own 104 (.val ca) (B_act6 a), .is (.tmp 5) (VP.ptr va), .is (.tmp 6) (VP.eq vm true true), .is (.tmp 34) (VP.eq vw true true), .is (.tmp 35) (VP.int .i64 ((((([] : List ActD) ++ l) ++ m).length : Nat) : Int)), .is (.tmp 36) (VP.int .i64 ((k : Nat) : Int)), .own 101 (.val va) (Arn (d.term a.term)), .own 103 (.val vw) (R_act6 ((([] : List ActD) ++ l) ++ m)), .is (.tmp 82) (VP.bool (decide (((j : Nat) : Int) < ((a.term.kids.length : Nat) : Int)))), .is (.tmp 90) (VP.eq vm true true), .is (.tmp 91) (VP.int .i64 (d.termR a.term)), .is (.tmp 92) (VP.tup [VP.agg [VP.int .i64 (((mfind mkInt (d.termR a.term) pl).getD noT).op), VP.int .i64 (((mfind mkInt (d.termR a.term) pl).getD noT).fn), O_int (((mfind mkInt (d.termR a.term) pl).getD noT).kids), VP.str (((mfind mkInt (d.termR a.term) pl).getD noT).num)], VP.bool ((mfind mkInt (d.termR a.term) pl).isSome)]), .is (.tmp 89) (VP.tup [VP.agg [VP.int .i64 (((mfind mkInt (d.termR a.term) pl).getD noT).op), VP.int .i64 (((mfind mkInt (d.termR a.term) pl).getD noT).fn), O_int (((mfind mkInt (d.termR a.term) pl).getD noT).kids), VP.str (((mfind mkInt (d.termR a.term) pl).getD noT).num)], VP.bool ((mfind mkInt (d.termR a.term) pl).isSome)]), .is (.tmp 93) (VP.agg [VP.int .i64 (((mfind mkInt (d.termR a.term) pl).getD noT).op), VP.int .i64 (((mfind mkInt (d.termR a.term) pl).getD noT).fn), O_int (((mfind mkInt (d.termR a.term) pl).getD noT).kids), VP.str (((mfind mkInt (d.termR a.term) pl).getD noT).num)]), .is (.tmp 94) (VP.bool ((mfind mkInt (d.termR a.term) pl).isSome)), .is (.tmp 15) (VP.bool ((mfind mkInt (d.termR a.term) pl).isSome)), .is (.tmp 95) (VP.bool ((mfind mkInt (d.termR a.term) pl).isSome)), .is (.tmp 96) (VP.int .i64 (d.termR a.term)), .is (.tmp 97) (VP.int .i64 ((d.terms.length : Nat) : Int)), .is (.tmp 98) (VP.bool (decide ((d.termR a.term) < ((d.terms.length : Nat) : Int)))), .is (.tmp 99) (VP.bool (!(false == (decide ((d.termR a.term) < ((d.terms.length : Nat) : Int)))))), .is (.tmp 100) (VP.bool (!(false == (decide ((d.termR a.term) < ((d.terms.length : Nat) : Int)))))), .is (.tmp 101) (VP.bool ((mfind mkInt (d.termR a.term) pl).isSome)), .is (.tmp 102) (VP.bool ((mfind mkInt (d.termR a.term) pl).isSome)), .is (.tmp 103) (VP.undef), .is (.tmp 104) (VP.undef), .is (.tmp 105) (VP.undef), .is (.tmp 106) (VP.undef), .is (.tmp 107) (VP.undef), .is (.tmp 108) (VP.bool false), .is (.tmp 109) (VP.bool false), .is (.tmp 110) (VP.bool false), .is (.tmp 111) (VP.ptr va), .is (.tmp 112) (VP.int .i64 (((d.term a.term).terms.length : Nat) : Int)), .is (.tmp 113) (VP.int .i64 ((d.terms.length : Nat) : Int)), .is (.tmp 114) (VP.int .i64 (d.termR a.term)), .is (.tmp 115) (VP.int .i64 ((d.termR a.term) + 1)), .is (.tmp 116) (VP.int .i64 (if ((d.termR a.term) + 1) > ((d.terms.length : Nat) : Int) then ((d.termR a.term) + 1) else ((d.terms.length : Nat) : Int))), .is (.tmp 117) (VP.bool ((((d.term a.term).terms.length : Nat) : Int) != (if ((d.termR a.term) + 1) > ((d.terms.length : Nat) : Int) then ((d.termR a.term) + 1) else ((d.terms.length : Nat) : Int)))), .is (.tmp 118) (VP.bool ((((d.term a.term).terms.length : Nat) : Int) != (if ((d.termR a.term) + 1) > ((d.terms.length : Nat) : Int) then ((d.termR a.term) + 1) else ((d.terms.length : Nat) : Int))))] [(4, .own 102 (.val vm) (HA.map mkInt (mEnt (fun t => VP.agg (cTerm t)) pl)))] [(0, .is (.tmp 119) (VP.eq vm true true)), (1, .is (.tmp 120) (VP.int .i64 (d.termR a.term))), (2, .pt 121 (.blk (.val ca) 4)), (3, .is (.tmp 122) (VP.agg [VP.int .i64 a.term.op, VP.int .i64 a.term.fn, O_int a.term.kids, VP.str a.term.num])), (4, .own 102 (.val vm) (HA.map mkInt (mEnt (fun t => VP.agg (cTerm t)) (mput mkInt (d.termR a.term) a.term pl))))] [] [0, 1, 2, 3, 4, 5, 6, 7, 8, 9, 11, 12, 13, 14, 15, 16, 17, 18, 19, 20, 21, 22, 23, 24, 25, 26, 27, 28, 29, 30, 31, 32, 33, 34, 35, 36, 37, 38, 39, 40, 41, 42, 43, 44, 45, 46, 47, 48, 49] [10] [[], [], [], [2], [0, 1, 2, 3]] [[4], [4], [3, 4], [4], []] rfl rfl follow rfl ⟨
                    wp rfl (does_move _ (.inl rfl) rfl rfl rfl rfl (ar_tmp (av_fs 11 rfl))),
                    wp rfl (does_move _ (.inl rfl) rfl rfl rfl rfl (ar_tmp (av_fs 5 rfl))),
                    wp rfl (does_field _ _ _ 4 DagR_f_collatorlaw06_Act_4 rfl rfl rfl rfl rfl rfl (pt_ptr (ar_tmp (av_fs 3 rfl)))),
                    wp rfl (does_loadAgg (ps := [VP.int .i64 a.term.op, VP.int .i64 a.term.fn, O_int a.term.kids, VP.str a.term.num]) _ DagR_agg_api_Term rfl rfl rfl rfl rfl (pt_pt (av_rs 2 2 rfl rfl)) (rds_box (off := 4) (av_fs 9 rfl) (hq_many (n := 4) rfl))),
                    wp rfl (does_mapPut (K := mkInt) (d.termR a.term) (R := HA.of (VP.agg [VP.int .i64 a.term.op, VP.int .i64 a.term.fn, O_int a.term.kids, VP.str a.term.num])) _ _ _ Try.underlying27 Try.underlying3 rfl rfl rfl rfl (mput_ent _ _ _ _ _) rfl (av_os 0 4 rfl rfl) (ar_tmp (av_rs 0 0 rfl rfl)) (key_int (ar_tmp (av_rs 1 1 rfl rfl))) (mv_vp (ar_tmp (av_rs 3 3 rfl rfl)))),
                    trivial⟩ ?_
                  refine nx_then ?_
                  refine t_seq ?_
                  refine t_rg [.own 108 (.val ct) (B_term ((mfind mkInt (d.termR a.term) pl).getD noT)), .is (.tmp 14) (VP.ptr ct), .is (.tmp 7) (VP.int .i64 ((k : Nat) : Int)), .is (.tmp 8) (VP.ptr ca), .is (.tmp 9) (VP.int .i64 ((d.terms.length : Nat) : Int)), .is (.tmp 10) (VP.int .i64 (d.termR a.term)), .is (.tmp 79) (O_int a.term.kids), .is (.tmp 80) (VP.int .i64 ((a.term.kids.length : Nat) : Int)), .is (.tmp 81) (VP.int .i64 ((j : Nat) : Int)), .own 104 (.val ca) (B_act6 a), .is (.tmp 5) (VP.ptr va), .is (.tmp 6) (VP.eq vm true true), .is (.tmp 34) (VP.eq vw true true), .is (.tmp 35) (VP.int .i64 ((((([] : List ActD) ++ l) ++ m).length : Nat) : Int)), .is (.tmp 36) (VP.int .i64 ((k : Nat) : Int)), .own 101 (.val va) (Arn (d.term a.term)), .own 103 (.val vw) (R_act6 ((([] : List ActD) ++ l) ++ m)), .is (.tmp 82) (VP.bool (decide (((j : Nat) : Int) < ((a.term.kids.length : Nat) : Int)))), .is (.tmp 90) (VP.eq vm true true), .is (.tmp 91) (VP.int .i64 (d.termR a.term)), .is (.tmp 92) (VP.tup [VP.agg [VP.int .i64 (((mfind mkInt (d.termR a.term) pl).getD noT).op), VP.int .i64 (((mfind mkInt (d.termR a.term) pl).getD noT).fn), O_int (((mfind mkInt (d.termR a.term) pl).getD noT).kids), VP.str (((mfind mkInt (d.termR a.term) pl).getD noT).num)], VP.bool ((mfind mkInt (d.termR a.term) pl).isSome)]), .is (.tmp 89) (VP.tup [VP.agg [VP.int .i64 (((mfind mkInt (d.termR a.term) pl).getD noT).op), VP.int .i64 (((mfind mkInt (d.termR a.term) pl).getD noT).fn), O_int (((mfind mkInt (d.termR a.term) pl).getD noT).kids), VP.str (((mfind mkInt (d.termR a.term) pl).getD noT).num)], VP.bool ((mfind mkInt (d.termR a.term) pl).isSome)]), .is (.tmp 93) (VP.agg [VP.int .i64 (((mfind mkInt (d.termR a.term) pl).getD noT).op), VP.int .i64 (((mfind mkInt (d.termR a.term) pl).getD noT).fn), O_int (((mfind mkInt (d.termR a.term) pl).getD noT).kids), VP.str (((mfind mkInt (d.termR a.term) pl).getD noT).num)]), .is (.tmp 94) (VP.bool ((mfind mkInt (d.termR a.term) pl).isSome)), .is (.tmp 15) (VP.bool ((mfind mkInt (d.termR a.term) pl).isSome)), .is (.tmp 95) (VP.bool ((mfind mkInt (d.termR a.term) pl).isSome)), .is (.tmp 96) (VP.int .i64 (d.termR a.term)), .is (.tmp 97) (VP.int .i64 ((d.terms.length : Nat) : Int)), .is (.tmp 98) (VP.bool (decide ((d.termR a.term) < ((d.terms.length : Nat) : Int)))), .is (.tmp 99) (VP.bool (!(false == (decide ((d.termR a.term) < ((d.terms.length : Nat) : Int)))))), .is (.tmp 100) (VP.bool (!(false == (decide ((d.termR a.term) < ((d.terms.length : Nat) : Int)))))), .is (.tmp 101) (VP.bool ((mfind mkInt (d.termR a.term) pl).isSome)), .is (.tmp 102) (VP.bool ((mfind mkInt (d.termR a.term) pl).isSome)), .is (.tmp 103) (VP.undef), .is (.tmp 104) (VP.undef), .is (.tmp 105) (VP.undef), .is (.tmp 106) (VP.undef), .is (.tmp 107) (VP.undef), .is (.tmp 108) (VP.bool false), .is (.tmp 109) (VP.bool false), .is (.tmp 110) (VP.bool false), .is (.tmp 111) (VP.ptr va), .is (.tmp 112) (VP.int .i64 (((d.term a.term).terms.length : Nat) : Int)), .is (.tmp 113) (VP.int .i64 ((d.terms.length : Nat) : Int)), .is (.tmp 114) (VP.int .i64 (d.termR a.term)), .is (.tmp 115) (VP.int .i64 ((d.termR a.term) + 1)), .is (.tmp 116) (VP.int .i64 (if ((d.termR a.term) + 1) > ((d.terms.length : Nat) : Int) then ((d.termR a.term) + 1) else ((d.terms.length : Nat) : Int))), .is (.tmp 117) (VP.bool ((((d.term a.term).terms.length : Nat) : Int) != (if ((d.termR a.term) + 1) > ((d.terms.length : Nat) : Int) then ((d.termR a.term) + 1) else ((d.terms.length : Nat) : Int)))), .is (.tmp 118) (VP.bool ((((d.term a.term).terms.length : Nat) : Int) != (if ((d.termR a.term) + 1) > ((d.terms.length : Nat) : Int) then ((d.termR a.term) + 1) else ((d.terms.length : Nat) : Int)))), .is (.tmp 119) (VP.eq vm true true), .is (.tmp 120) (VP.int .i64 (d.termR a.term)), .pt 121 (.blk (.val ca) 4), .is (.tmp 122) (VP.agg [VP.int .i64 a.term.op, VP.int .i64 a.term.fn, O_int a.term.kids, VP.str a.term.num]), .own 102 (.val vm) (HA.map mkInt (mEnt (fun t => VP.agg (cTerm t)) (mput mkInt (d.termR a.term) a.term pl)))] [] [(0, .is (.tmp 123) (VP.int .i64 ((k : Nat) : Int))), (1, .is (.tmp 124) (VP.int .i64 (((k : Nat) : Int).tmod 3))), (2, .is (.tmp 125) (VP.bool ((((k : Nat) : Int).tmod 3) == 0)))] [] [0, 1, 2, 3, 4, 5, 6, 7, 8, 9, 10, 11, 12, 13, 14, 15, 16, 17, 18, 19, 20, 21, 22, 23, 24, 25, 26, 27, 28, 29, 30, 31, 32, 33, 34, 35, 36, 37, 38, 39, 40, 41, 42, 43, 44, 45, 46, 47, 48, 49, 50, 51, 52, 53] [] [[], [0], [0, 1]] [[1, 2], [2], []] rfl rfl follow rfl ⟨
                    wp rfl (does_move _ (.inl rfl) rfl rfl rfl rfl (ar_tmp (av_fs 2 rfl))),
                    wp rfl (does_bin (m := ((k : Nat) : Int)) (n := 3) (r := (((k : Nat) : Int).tmod 3)) _ _ _ _ _ rfl rfl rfl rfl rfl rfl (br_rem (by decide) rfl) (ar_tmp (av_rs 0 0 rfl rfl)) (ar_const (fun _ _ => rfl))),
                    wp rfl (does_cmp (m := (((k : Nat) : Int).tmod 3)) (n := 0) _ _ _ _ _ rfl rfl rfl rfl rfl rfl .i64 (ar_tmp (av_rs 1 1 rfl rfl)) (ar_const (fun _ _ => rfl))),
                    trivial⟩ ?_
                  refine nx_then ?_
                  refine t_split 56 rfl (fun hb11 => ?_) (fun hb11 => ?_)
                  · have hc11 := eq_of_beq hb11
                    refine t_seq ?_
                    have hI2 := ainv_term hI a.term
                    have hC2 := can_term hI.ok hC a.term
                    have hP2 := pinv_term hP hI.ok (bne_eq_false_iff_eq.1 hb6)
                    have hkt : ∀ q ∈ (mput mkInt (d.termR a.term) a.term pl), q.2.kids.length ≤ 900000 ∧ q.2.num.size ≤ 1000000 := fun q hq => by
                      rcases mi_put_mem hq with rfl | hq
                      · exact ⟨by show a.term.kids.length ≤ 900000; omega, by show a.term.num.size ≤ 1000000; omega⟩
                      · have := hS q hq; omega
                    refine t_rg [.own 108 (.val ct) (B_term ((mfind mkInt (d.termR a.term) pl).getD noT)), .is (.tmp 14) (VP.ptr ct), .is (.tmp 7) (VP.int .i64 ((k : Nat) : Int)), .is (.tmp 8) (VP.ptr ca), .is (.tmp 9) (VP.int .i64 ((d.terms.length : Nat) : Int)), .is (.tmp 10) (VP.int .i64 (d.termR a.term)), .is (.tmp 79) (O_int a.term.kids), .is (.tmp 80) (VP.int .i64 ((a.term.kids.length : Nat) : Int)), .is (.tmp 81) (VP.int .i64 ((j : Nat) : Int)), .own 104 (.val ca) (B_act6 a), .is (.tmp 5) (VP.ptr va), .is (.tmp 6) (VP.eq vm true true), .is (.tmp 34) (VP.eq vw true true), .is (.tmp 35) (VP.int .i64 ((((([] : List ActD) ++ l) ++ m).length : Nat) : Int)), .is (.tmp 36) (VP.int .i64 ((k : Nat) : Int)), .own 101 (.val va) (Arn (d.term a.term)), .own 103 (.val vw) (R_act6 ((([] : List ActD) ++ l) ++ m)), .is (.tmp 82) (VP.bool (decide (((j : Nat) : Int) < ((a.term.kids.length : Nat) : Int)))), .is (.tmp 90) (VP.eq vm true true), .is (.tmp 91) (VP.int .i64 (d.termR a.term)), .is (.tmp 92) (VP.tup [VP.agg [VP.int .i64 (((mfind mkInt (d.termR a.term) pl).getD noT).op), VP.int .i64 (((mfind mkInt (d.termR a.term) pl).getD noT).fn), O_int (((mfind mkInt (d.termR a.term) pl).getD noT).kids), VP.str (((mfind mkInt (d.termR a.term) pl).getD noT).num)], VP.bool ((mfind mkInt (d.termR a.term) pl).isSome)]), .is (.tmp 89) (VP.tup [VP.agg [VP.int .i64 (((mfind mkInt (d.termR a.term) pl).getD noT).op), VP.int .i64 (((mfind mkInt (d.termR a.term) pl).getD noT).fn), O_int (((mfind mkInt (d.termR a.term) pl).getD noT).kids), VP.str (((mfind mkInt (d.termR a.term) pl).getD noT).num)], VP.bool ((mfind mkInt (d.termR a.term) pl).isSome)]), .is (.tmp 93) (VP.agg [VP.int .i64 (((mfind mkInt (d.termR a.term) pl).getD noT).op), VP.int .i64 (((mfind mkInt (d.termR a.term) pl).getD noT).fn), O_int (((mfind mkInt (d.termR a.term) pl).getD noT).kids), VP.str (((mfind mkInt (d.termR a.term) pl).getD noT).num)]), .is (.tmp 94) (VP.bool ((mfind mkInt (d.termR a.term) pl).isSome)), .is (.tmp 15) (VP.bool ((mfind mkInt (d.termR a.term) pl).isSome)), .is (.tmp 95) (VP.bool ((mfind mkInt (d.termR a.term) pl).isSome)), .is (.tmp 96) (VP.int .i64 (d.termR a.term)), .is (.tmp 97) (VP.int .i64 ((d.terms.length : Nat) : Int)), .is (.tmp 98) (VP.bool (decide ((d.termR a.term) < ((d.terms.length : Nat) : Int)))), .is (.tmp 99) (VP.bool (!(false == (decide ((d.termR a.term) < ((d.terms.length : Nat) : Int)))))), .is (.tmp 100) (VP.bool (!(false == (decide ((d.termR a.term) < ((d.terms.length : Nat) : Int)))))), .is (.tmp 101) (VP.bool ((mfind mkInt (d.termR a.term) pl).isSome)), .is (.tmp 102) (VP.bool ((mfind mkInt (d.termR a.term) pl).isSome)), .is (.tmp 103) (VP.undef), .is (.tmp 104) (VP.undef), .is (.tmp 105) (VP.undef), .is (.tmp 106) (VP.undef), .is (.tmp 107) (VP.undef), .is (.tmp 108) (VP.bool false), .is (.tmp 109) (VP.bool false), .is (.tmp 110) (VP.bool false), .is (.tmp 111) (VP.ptr va), .is (.tmp 112) (VP.int .i64 (((d.term a.term).terms.length : Nat) : Int)), .is (.tmp 113) (VP.int .i64 ((d.terms.length : Nat) : Int)), .is (.tmp 114) (VP.int .i64 (d.termR a.term)), .is (.tmp 115) (VP.int .i64 ((d.termR a.term) + 1)), .is (.tmp 116) (VP.int .i64 (if ((d.termR a.term) + 1) > ((d.terms.length : Nat) : Int) then ((d.termR a.term) + 1) else ((d.terms.length : Nat) : Int))), .is (.tmp 117) (VP.bool ((((d.term a.term).terms.length : Nat) : Int) != (if ((d.termR a.term) + 1) > ((d.terms.length : Nat) : Int) then ((d.termR a.term) + 1) else ((d.terms.length : Nat) : Int)))), .is (.tmp 118) (VP.bool ((((d.term a.term).terms.length : Nat) : Int) != (if ((d.termR a.term) + 1) > ((d.terms.length : Nat) : Int) then ((d.termR a.term) + 1) else ((d.terms.length : Nat) : Int)))), .is (.tmp 119) (VP.eq vm true true), .is (.tmp 120) (VP.int .i64 (d.termR a.term)), .pt 121 (.blk (.val ca) 4), .is (.tmp 122) (VP.agg [VP.int .i64 a.term.op, VP.int .i64 a.term.fn, O_int a.term.kids, VP.str a.term.num]), .is (.tmp 123) (VP.int .i64 ((k : Nat) : Int)), .is (.tmp 124) (VP.int .i64 (((k : Nat) : Int).tmod 3)), .is (.tmp 125) (VP.bool ((((k : Nat) : Int).tmod 3) == 0))] [(1, .own 102 (.val vm) (HA.map mkInt (mEnt (fun t => VP.agg (cTerm t)) (mput mkInt (d.termR a.term) a.term pl))))] [(0, .is (.tmp 126) (VP.eq vm true true)), (1, .own 102 (.tmp 127) (HA.rng vm mkInt (fun t => VP.agg (cTerm t)) (mput mkInt (d.termR a.term) a.term pl) ((mput mkInt (d.termR a.term) a.term pl).length)))] [] [0, 1, 2, 3, 4, 5, 6, 7, 8, 9, 10, 11, 12, 13, 14, 15, 16, 17, 18, 19, 20, 21, 22, 23, 24, 25, 26, 27, 28, 29, 30, 31, 32, 33, 34, 35, 36, 37, 38, 39, 40, 41, 42, 43, 44, 45, 46, 47, 48, 49, 50, 51, 52, 54, 55, 56] [53] [[], [0]] [[1], []] rfl rfl follow rfl ⟨
                      wp rfl (does_move _ (.inl rfl) rfl rfl rfl rfl (ar_tmp (av_fs 11 rfl))),
                      wp rfl (does_range (n := (mput mkInt (d.termR a.term) a.term pl).length) (K := mkInt) _ Try.underlying27 rfl rfl rfl rfl rfl rfl (av_os 0 1 rfl rfl) (ar_tmp (av_rs 0 0 rfl rfl))),
                      trivial⟩ ?_
                    refine nx_then ?_
                    refine t_pick [57, 0, 1, 2, 3, 4, 5, 6, 7, 8, 9, 10, 11, 12, 13, 14, 15, 16, 17, 18, 19, 20, 21, 22, 23, 24, 25, 26, 27, 28, 29, 30, 31, 32, 33, 34, 35, 36, 37, 38, 39, 40, 41, 42, 43, 44, 45, 46, 47, 48, 49, 50, 51, 52, 53, 54, 55, 56] rfl ?_
                    refine t_name rfl fun it => ?_
                    refine t_block ?_
                    refine t_loop (τ := Nat) (fun n => [.is (.tmp 127) (VP.eq it true true), .own 102 (.val it) (HA.rng vm mkInt (fun t => VP.agg (cTerm t)) (mput mkInt (d.termR a.term) a.term pl) n), .is (.tmp 5) (VP.ptr va), .is (.tmp 6) (VP.eq vm true true), .is (.tmp 34) (VP.eq vw true true), .is (.tmp 35) (VP.int .i64 ((((([] : List ActD) ++ l) ++ m).length : Nat) : Int)), .is (.tmp 36) (VP.int .i64 ((k : Nat) : Int)), .own 101 (.val va) (Arn (d.term a.term)), .own 103 (.val vw) (R_act6 ((([] : List ActD) ++ l) ++ m))]) (fun n => n) ((mput mkInt (d.termR a.term) a.term pl).length) [1, 0, 12, 13, 14, 15, 16, 17, 18] rfl ?_
                    rintro n
                    refine t_seq ?_
                    refine t_rg [.is (.tmp 127) (VP.eq it true true), .is (.tmp 5) (VP.ptr va), .is (.tmp 6) (VP.eq vm true true), .is (.tmp 34) (VP.eq vw true true), .is (.tmp 35) (VP.int .i64 ((((([] : List ActD) ++ l) ++ m).length : Nat) : Int)), .is (.tmp 36) (VP.int .i64 ((k : Nat) : Int)), .own 101 (.val va) (Arn (d.term a.term)), .own 103 (.val vw) (R_act6 ((([] : List ActD) ++ l) ++ m))] [(0, .own 102 (.val it) (HA.rng vm mkInt (fun t => VP.agg (cTerm t)) (mput mkInt (d.termR a.term) a.term pl) n))] [(0, .is (.tmp 128) (VP.fst (n ≠ 0))), (0, .own 102 (.val it) (HA.rngE vm mkInt (fun t => VP.agg (cTerm t)) (mput mkInt (d.termR a.term) a.term pl) n)), (1, .is (.tmp 129) (VP.may (n ≠ 0)))] [] [0, 2, 3, 4, 5, 6, 7, 8] [1] [[], [0]] [[1], []] rfl rfl follow rfl ⟨
                      wp rfl (does_next [0, 1] _ rfl rfl rfl rfl rfl (av_os 0 0 rfl rfl) (ar_tmp (av_fs 0 rfl))),
                      wp rfl (does_extractFst rfl rfl rfl rfl rfl (ar_tmp (av_rs 0 0 rfl rfl))),
                      trivial⟩ ?_
                    refine nx_then ?_
                    refine t_seq ?_
                    refine t_condM 10 rfl (fun hm12 => ?_) ?_
                    · have _ := hm12
                      refine t_skip ?_
                      refine nx_then ?_
                      refine t_block ?_
                      refine t_seq ?_
                      refine t_pick [9, 0, 1, 2, 3, 4, 5, 6, 7, 8, 10] rfl ?_
                      refine t_weak (rng_at (by assumption)) rfl ?_
                      refine t_ex rfl fun q => ?_
                      refine t_pure rfl fun hq => ?_
                      obtain ⟨n', p⟩ := q
                      obtain ⟨hqn, hqm⟩ : n' < n ∧ p ∈ (mput mkInt (d.termR a.term) a.term pl) := hq
                      refine t_rg [.own 102 (.val it) (HA.rngAt vm mkInt (fun t => VP.agg (cTerm t)) (mput mkInt (d.termR a.term) a.term pl) n' p), .is (.tmp 127) (VP.eq it true true), .is (.tmp 5) (VP.ptr va), .is (.tmp 6) (VP.eq vm true true), .is (.tmp 34) (VP.eq vw true true), .is (.tmp 35) (VP.int .i64 ((((([] : List ActD) ++ l) ++ m).length : Nat) : Int)), .is (.tmp 36) (VP.int .i64 ((k : Nat) : Int)), .own 101 (.val va) (Arn (d.term a.term)), .own 103 (.val vw) (R_act6 ((([] : List ActD) ++ l) ++ m)), .is (.tmp 128) (VP.fst (n ≠ 0)), .is (.tmp 129) (VP.may (n ≠ 0))] [] [(0, .is (.tmp 130) (VP.tup [VP.int .i64 p.1, VP.agg [VP.int .i64 p.2.op, VP.int .i64 p.2.fn, O_int p.2.kids, VP.str p.2.num]])), (1, .is (.tmp 131) (VP.int .i64 p.1)), (2, .is (.tmp 132) (VP.agg [VP.int .i64 p.2.op, VP.int .i64 p.2.fn, O_int p.2.kids, VP.str p.2.num])), (4, .is (.tmp 16) (VP.int .i64 p.1)), (5, .own 111 (.tmp 17) (B_term p.2))] [(3, 5, .own 111 (.tmp 17) (HA.cells 30 [HA.of (VP.int .i64 0), HA.of (VP.int .i64 0), HA.of (VP.nilS), HA.of (VP.str (ByteArray.mk #[]))]))] [0, 1, 2, 3, 4, 5, 6, 7, 8, 9, 10] [] DagR_p3_32 DagR_s3_32 rfl rfl follow rfl ⟨
                        wp rfl (does_entry (K := mkInt) (p := p) (kx := VP.int .i64 p.1) _ rfl rfl rfl rfl rfl (fun _ _ => rfl) (av_fs 0 rfl) (ar_tmp (av_fs 1 rfl))),
                        wp rfl (does_extract (ps := [VP.int .i64 p.1, VP.agg [VP.int .i64 p.2.op, VP.int .i64 p.2.fn, O_int p.2.kids, VP.str p.2.num]]) _ 0 rfl rfl rfl rfl rfl (ar_tmp (av_rs 0 0 rfl rfl)) rfl),
                        wp rfl (does_extract (ps := [VP.int .i64 p.1, VP.agg [VP.int .i64 p.2.op, VP.int .i64 p.2.fn, O_int p.2.kids, VP.str p.2.num]]) _ 1 rfl rfl rfl rfl rfl (ar_tmp (av_rs 0 0 rfl rfl)) rfl),
                        wp rfl (does_alloc (ps := [VP.int .i64 0, VP.int .i64 0, VP.nilS, VP.str (ByteArray.mk #[])]) DagR_zero_api_Term rfl rfl rfl rfl rfl rfl (fun _ _ => ⟨rfl, rfl, rfl, rfl, trivial⟩)),
                        wp rfl (does_move _ (.inr rfl) rfl rfl rfl rfl (ar_tmp (av_rs 1 1 rfl rfl))),
                        wp rfl (does_store (off := 0) (Qs := [HA.of (VP.int .i64 p.2.op), HA.of (VP.int .i64 p.2.fn), HA.of (O_int p.2.kids), HA.of (VP.str p.2.num)]) _ _ DagR_size_api_Term rfl rfl rfl rfl rfl rfl (pt_box (av_ms 0 3 5 rfl rfl rfl)) (av_ms 0 3 5 rfl rfl rfl) (cv_agg (ps := [VP.int .i64 p.2.op, VP.int .i64 p.2.fn, O_int p.2.kids, VP.str p.2.num]) (ar_tmp (av_rs 2 2 rfl rfl)))),
                        trivial⟩ ?_
                      refine nx_then ?_
                      refine t_pick [15, 0, 1, 2, 3, 4, 5, 6, 7, 8, 9, 10, 11, 12, 13, 14] rfl ?_
                      refine t_nameP rfl fun cy => ?_
                      refine t_seq ?_
                      refine t_rg [.own 111 (.val cy) (B_term p.2), .is (.tmp 17) (VP.ptr cy), .own 102 (.val it) (HA.rngAt vm mkInt (fun t => VP.agg (cTerm t)) (mput mkInt (d.termR a.term) a.term pl) n' p), .is (.tmp 127) (VP.eq it true true), .is (.tmp 5) (VP.ptr va), .is (.tmp 6) (VP.eq vm true true), .is (.tmp 34) (VP.eq vw true true), .is (.tmp 35) (VP.int .i64 ((((([] : List ActD) ++ l) ++ m).length : Nat) : Int)), .is (.tmp 36) (VP.int .i64 ((k : Nat) : Int)), .own 103 (.val vw) (R_act6 ((([] : List ActD) ++ l) ++ m)), .is (.tmp 128) (VP.fst (n ≠ 0)), .is (.tmp 129) (VP.may (n ≠ 0)), .is (.tmp 130) (VP.tup [VP.int .i64 p.1, VP.agg [VP.int .i64 p.2.op, VP.int .i64 p.2.fn, O_int p.2.kids, VP.str p.2.num]]), .is (.tmp 131) (VP.int .i64 p.1), .is (.tmp 132) (VP.agg [VP.int .i64 p.2.op, VP.int .i64 p.2.fn, O_int p.2.kids, VP.str p.2.num]), .is (.tmp 16) (VP.int .i64 p.1)] [(2, .own 101 (.val va) (Arn (d.term a.term)))] [(0, .is (.tmp 134) (VP.ptr va)), (1, .is (.tmp 135) (VP.agg [VP.int .i64 p.2.op, VP.int .i64 p.2.fn, O_int p.2.kids, VP.str p.2.num])), (2, .own 112 (.tmp 136) (HA.of (VP.tup [VP.int .i64 ((d.term a.term).termR p.2), VP.int .i64 ((d.term a.term).termE p.2)]))), (2, .own 101 (.val va) (Arn ((d.term a.term).term p.2))), (3, .is (.tmp 133) (VP.tup [VP.int .i64 ((d.term a.term).termR p.2), VP.int .i64 ((d.term a.term).termE p.2)])), (4, .is (.tmp 137) (VP.int .i64 ((d.term a.term).termR p.2))), (5, .is (.tmp 138) (VP.int .i64 ((d.term a.term).termE p.2))), (6, .is (.tmp 18) (VP.int .i64 ((d.term a.term).termR p.2))), (7, .is (.tmp 19) (VP.int .i64 ((d.term a.term).termE p.2)))] [] [0, 1, 2, 3, 4, 5, 6, 7, 8, 10, 11, 12, 13, 14, 15, 16] [9] DagR_p3_33 DagR_s3_33 rfl rfl follow rfl ⟨
                        wp rfl (does_move _ (.inl rfl) rfl rfl rfl rfl (ar_tmp (av_fs 4 rfl))),
                        wp rfl (does_loadAgg (ps := [VP.int .i64 p.2.op, VP.int .i64 p.2.fn, O_int p.2.kids, VP.str p.2.num]) _ DagR_agg_api_Term rfl rfl rfl rfl rfl (pt_ptr (ar_tmp (av_fs 1 rfl))) (rds_box (off := 0) (av_fs 0 rfl) (hq_many (n := 4) rfl))),
                        wp rfl (does_callG [] [101] [101] 112 [0, 1] (da_Term (v := va) (d := (d.term a.term)) p.2 hI2.ok (hkt p hqm).1 (hkt p hqm).2) rfl DagR_hb___collator_dag_Arena__Term rfl rfl rfl rfl rfl ar_clo (ars_cons (pa_vp (ar_tmp (av_rs 0 0 rfl rfl))) (ars_cons (pa_vp (ar_tmp (av_rs 1 1 rfl rfl))) ars_nil)) trivial ⟨(av_os 0 2 rfl rfl), trivial⟩),
                        wp rfl (does_move _ (.inl rfl) rfl rfl rfl rfl (ar_of (av_rs 2 2 rfl rfl))),
                        wp rfl (does_extract (ps := [VP.int .i64 ((d.term a.term).termR p.2), VP.int .i64 ((d.term a.term).termE p.2)]) _ 0 rfl rfl rfl rfl rfl (ar_tmp (av_rs 4 3 rfl rfl)) rfl),
                        wp rfl (does_extract (ps := [VP.int .i64 ((d.term a.term).termR p.2), VP.int .i64 ((d.term a.term).termE p.2)]) _ 1 rfl rfl rfl rfl rfl (ar_tmp (av_rs 4 3 rfl rfl)) rfl),
                        wp rfl (does_move _ (.inr rfl) rfl rfl rfl rfl (ar_tmp (av_rs 5 4 rfl rfl))),
                        wp rfl (does_move _ (.inr rfl) rfl rfl rfl rfl (ar_tmp (av_rs 6 5 rfl rfl))),
                        trivial⟩ ?_
                      refine nx_then ?_
                      refine t_pick [18, 0, 1, 2, 3, 4, 5, 6, 7, 8, 9, 10, 11, 12, 13, 14, 15, 16, 17, 19, 20, 21, 22, 23, 24] rfl ?_
                      refine t_freeze (fz_of _) rfl ?_
                      refine t_seq ?_
                      refine t_rg [.is (.tmp 136) (VP.tup [VP.int .i64 ((d.term a.term).termR p.2), VP.int .i64 ((d.term a.term).termE p.2)]), .own 111 (.val cy) (B_term p.2), .is (.tmp 17) (VP.ptr cy), .own 102 (.val it) (HA.rngAt vm mkInt (fun t => VP.agg (cTerm t)) (mput mkInt (d.termR a.term) a.term pl) n' p), .is (.tmp 127) (VP.eq it true true), .is (.tmp 5) (VP.ptr va), .is (.tmp 6) (VP.eq vm true true), .is (.tmp 34) (VP.eq vw true true), .is (.tmp 35) (VP.int .i64 ((((([] : List ActD) ++ l) ++ m).length : Nat) : Int)), .is (.tmp 36) (VP.int .i64 ((k : Nat) : Int)), .own 103 (.val vw) (R_act6 ((([] : List ActD) ++ l) ++ m)), .is (.tmp 128) (VP.fst (n ≠ 0)), .is (.tmp 129) (VP.may (n ≠ 0)), .is (.tmp 130) (VP.tup [VP.int .i64 p.1, VP.agg [VP.int .i64 p.2.op, VP.int .i64 p.2.fn, O_int p.2.kids, VP.str p.2.num]]), .is (.tmp 131) (VP.int .i64 p.1), .is (.tmp 132) (VP.agg [VP.int .i64 p.2.op, VP.int .i64 p.2.fn, O_int p.2.kids, VP.str p.2.num]), .is (.tmp 16) (VP.int .i64 p.1), .is (.tmp 134) (VP.ptr va), .is (.tmp 135) (VP.agg [VP.int .i64 p.2.op, VP.int .i64 p.2.fn, O_int p.2.kids, VP.str p.2.num]), .own 101 (.val va) (Arn ((d.term a.term).term p.2)), .is (.tmp 133) (VP.tup [VP.int .i64 ((d.term a.term).termR p.2), VP.int .i64 ((d.term a.term).termE p.2)]), .is (.tmp 137) (VP.int .i64 ((d.term a.term).termR p.2)), .is (.tmp 138) (VP.int .i64 ((d.term a.term).termE p.2)), .is (.tmp 18) (VP.int .i64 ((d.term a.term).termR p.2)), .is (.tmp 19) (VP.int .i64 ((d.term a.term).termE p.2))] [] [(0, .is (.tmp 139) (VP.int .i64 ((d.term a.term).termE p.2))), (1, .is (.tmp 140) (VP.bool (((d.term a.term).termE p.2) != 0))), (2, .is (.tmp 141) (VP.bool (((d.term a.term).termE p.2) != 0))), (3, .is (.tmp 142) (VP.int .i64 ((d.term a.term).termR p.2))), (4, .is (.tmp 143) (VP.int .i64 p.1)), (5, .is (.tmp 144) (VP.bool (((d.term a.term).termR p.2) != p.1))), (6, .is (.tmp 145) (VP.bool (((d.term a.term).termR p.2) != p.1)))] [] [0, 1, 2, 3, 4, 5, 6, 7, 8, 9, 10, 11, 12, 13, 14, 15, 16, 17, 18, 19, 20, 21, 22, 23, 24] [] DagR_p3_34 DagR_s3_34 rfl rfl follow rfl ⟨
                        wp rfl (does_move _ (.inl rfl) rfl rfl rfl rfl (ar_tmp (av_fs 24 rfl))),
                        wp rfl (does_cmp (m := ((d.term a.term).termE p.2)) (n := 0) _ _ _ _ _ rfl rfl rfl rfl rfl rfl .i64 (ar_tmp (av_rs 0 0 rfl rfl)) (ar_const (fun _ _ => rfl))),
                        wp rfl (does_move _ (.inl rfl) rfl rfl rfl rfl (ar_tmp (av_rs 1 1 rfl rfl))),
                        .inl ⟨wants_guard false rfl rfl rfl (av_bool (by rw [(pinv_again hP2 hI2.ok hC2 hqm).2.2]; rfl) (av_rs 2 2 rfl rfl)), does_move _ (.inl rfl) rfl rfl rfl rfl (ar_tmp (av_fs 23 rfl))⟩,
                        .inl ⟨wants_guard false rfl rfl rfl (av_bool (by rw [(pinv_again hP2 hI2.ok hC2 hqm).2.2]; rfl) (av_rs 2 2 rfl rfl)), does_move _ (.inl rfl) rfl rfl rfl rfl (ar_tmp (av_fs 16 rfl))⟩,
                        .inl ⟨wants_guard false rfl rfl rfl (av_bool (by rw [(pinv_again hP2 hI2.ok hC2 hqm).2.2]; rfl) (av_rs 2 2 rfl rfl)), does_cmp (m := ((d.term a.term).termR p.2)) (n := p.1) _ _ _ _ _ rfl rfl rfl rfl rfl rfl .i64 (ar_tmp (av_rs 3 3 rfl rfl)) (ar_tmp (av_rs 4 4 rfl rfl))⟩,
                        wp rfl (does_pick false _ _ _ rfl rfl rfl rfl rfl (ar_tmp (av_bool (by rw [(pinv_again hP2 hI2.ok hC2 hqm).2.2]; rfl) (av_rs 2 2 rfl rfl))) (ar_tmp (av_rs 5 5 rfl rfl))),
                        trivial⟩ ?_
                      refine nx_then ?_
                      refine t_cond_fe 31 rfl (by rw [(pinv_again hP2 hI2.ok hC2 hqm).2.1]; simp) ?_
                      refine t_skip ?_
                      refine nx_block ?_
                      refine t_pick [19, 0, 1, 2, 3, 4, 5, 6, 7, 8, 9, 10, 11, 12, 13, 14, 15, 16, 17, 18, 20, 21, 22, 23, 24, 25, 26, 27, 28, 29, 30, 31] rfl ?_
                      refine t_weak (R' := Arn (d.term a.term)) (fun _ _ _ _ h => by rw [(pinv_again hP2 hI2.ok hC2 hqm).1] at h; exact h) rfl ?_
                      refine t_pick [4, 0, 1, 2, 3, 5, 6, 7, 8, 9, 10, 11, 12, 13, 14, 15, 16, 17, 18, 19, 20, 21, 22, 23, 24, 25, 26, 27, 28, 29, 30, 31] rfl ?_
                      refine t_weak rng_up rfl ?_
                      refine nx_round (τ := Nat) (I := fun n => [.is (.tmp 127) (VP.eq it true true), .own 102 (.val it) (HA.rng vm mkInt (fun t => VP.agg (cTerm t)) (mput mkInt (d.termR a.term) a.term pl) n), .is (.tmp 5) (VP.ptr va), .is (.tmp 6) (VP.eq vm true true), .is (.tmp 34) (VP.eq vw true true), .is (.tmp 35) (VP.int .i64 ((((([] : List ActD) ++ l) ++ m).length : Nat) : Int)), .is (.tmp 36) (VP.int .i64 ((k : Nat) : Int)), .own 101 (.val va) (Arn (d.term a.term)), .own 103 (.val vw) (R_act6 ((([] : List ActD) ++ l) ++ m))]) (μ := fun n => n) (s := n) n' ?_ [5, 0, 6, 7, 8, 9, 10, 1, 11] ?_
                      · exact (show n' < n from hqn)
                      · exact rfl
                    · refine t_exit ?_
                      refine ex_then ?_
                      refine ex_then ?_
                      refine ex_block ?_
                      refine t_pick [9, 0, 1, 2, 3, 4, 5, 6, 7, 8, 10] rfl ?_
                      refine t_unrng rfl ?_
                      refine nx_block ?_
                      refine nx_then ?_
                      refine t_rg [.own 102 (.val vm) (HA.map mkInt (mEnt (fun t => VP.agg (cTerm t)) (mput mkInt (d.termR a.term) a.term pl))), .is (.tmp 127) (VP.eq it true true), .is (.tmp 5) (VP.ptr va), .is (.tmp 6) (VP.eq vm true true), .is (.tmp 34) (VP.eq vw true true), .is (.tmp 35) (VP.int .i64 ((((([] : List ActD) ++ l) ++ m).length : Nat) : Int)), .own 101 (.val va) (Arn (d.term a.term)), .own 103 (.val vw) (R_act6 ((([] : List ActD) ++ l) ++ m)), .is (.tmp 128) (VP.fst (n ≠ 0)), .is (.tmp 129) (VP.may (n ≠ 0))] [(1, .is (.tmp 36) (VP.int .i64 ((k : Nat) : Int)))] [(0, .is (.tmp 146) (VP.int .i64 (((k + 1) : Nat) : Int))), (1, .is (.tmp 36) (VP.int .i64 (((k + 1) : Nat) : Int)))] [] [0, 1, 2, 3, 4, 5, 7, 8, 9, 10] [6] [[], [0]] [[1], []] rfl rfl follow rfl ⟨
                        wp rfl (does_addE (m := ((k : Nat) : Int)) (n := 1) (x := (((k + 1) : Nat) : Int)) (by omega) _ _ _ _ rfl rfl rfl rfl rfl (by omega) (ar_tmp (av_os 0 1 rfl rfl)) (ar_const (fun _ _ => rfl))),
                        wp rfl (does_move _ (.inl rfl) rfl rfl rfl rfl (ar_tmp (av_rs 0 0 rfl rfl))),
                        trivial⟩ ?_
                      refine nx_round (τ := {x : Nat × ArD × List (Int × TermD) // x.1 ≤ ((([] : List ActD) ++ l) ++ m).length ∧ AInv x.2.1 x.1 ∧ x.2.1.Can ∧ PInv x.2.1 x.2.2 ∧ ∀ q ∈ x.2.2, q.2.kids.length ≤ 12 ∧ q.2.num.size ≤ 60}) (I := fun ⟨(k, d, pl), _⟩ => [.is (.tmp 5) (VP.ptr va), .is (.tmp 6) (VP.eq vm true true), .is (.tmp 34) (VP.eq vw true true), .is (.tmp 35) (VP.int .i64 ((((([] : List ActD) ++ l) ++ m).length : Nat) : Int)), .is (.tmp 36) (VP.int .i64 ((k : Nat) : Int)), .own 101 (.val va) (Arn d), .own 103 (.val vw) (R_act6 ((([] : List ActD) ++ l) ++ m)), .own 102 (.val vm) (HA.map mkInt (mEnt (fun t => VP.agg (cTerm t)) pl))]) (μ := fun ⟨(k, d, pl), _⟩ => ((([] : List ActD) ++ l) ++ m).length - k) (s := ⟨(k, d, pl), hk, hI, hC, hP, hS⟩) (⟨(k + 1, (d.term a.term), (mput mkInt (d.termR a.term) a.term pl)), (show k + 1 ≤ ((([] : List ActD) ++ l) ++ m).length by omega), ainv_term hI a.term, can_term hI.ok hC a.term, pinv_term hP hI.ok (bne_eq_false_iff_eq.1 hb6), put_small hS hga0.2.2⟩) ?_ [2, 3, 4, 5, 11, 6, 7, 0] ?_
                      · exact (show ((([] : List ActD) ++ l) ++ m).length - (k + 1) < ((([] : List ActD) ++ l) ++ m).length - k by omega)
                      · exact rfl
                  · have hc11 := ne_of_beq_false hb11
                    refine t_skip ?_
                    refine nx_block ?_
                    refine nx_then ?_
                    refine t_rg [.own 108 (.val ct) (B_term ((mfind mkInt (d.termR a.term) pl).getD noT)), .is (.tmp 14) (VP.ptr ct), .is (.tmp 7) (VP.int .i64 ((k : Nat) : Int)), .is (.tmp 8) (VP.ptr ca), .is (.tmp 9) (VP.int .i64 ((d.terms.length : Nat) : Int)), .is (.tmp 10) (VP.int .i64 (d.termR a.term)), .is (.tmp 79) (O_int a.term.kids), .is (.tmp 80) (VP.int .i64 ((a.term.kids.length : Nat) : Int)), .is (.tmp 81) (VP.int .i64 ((j : Nat) : Int)), .own 104 (.val ca) (B_act6 a), .is (.tmp 5) (VP.ptr va), .is (.tmp 6) (VP.eq vm true true), .is (.tmp 34) (VP.eq vw true true), .is (.tmp 35) (VP.int .i64 ((((([] : List ActD) ++ l) ++ m).length : Nat) : Int)), .own 101 (.val va) (Arn (d.term a.term)), .own 103 (.val vw) (R_act6 ((([] : List ActD) ++ l) ++ m)), .is (.tmp 82) (VP.bool (decide (((j : Nat) : Int) < ((a.term.kids.length : Nat) : Int)))), .is (.tmp 90) (VP.eq vm true true), .is (.tmp 91) (VP.int .i64 (d.termR a.term)), .is (.tmp 92) (VP.tup [VP.agg [VP.int .i64 (((mfind mkInt (d.termR a.term) pl).getD noT).op), VP.int .i64 (((mfind mkInt (d.termR a.term) pl).getD noT).fn), O_int (((mfind mkInt (d.termR a.term) pl).getD noT).kids), VP.str (((mfind mkInt (d.termR a.term) pl).getD noT).num)], VP.bool ((mfind mkInt (d.termR a.term) pl).isSome)]), .is (.tmp 89) (VP.tup [VP.agg [VP.int .i64 (((mfind mkInt (d.termR a.term) pl).getD noT).op), VP.int .i64 (((mfind mkInt (d.termR a.term) pl).getD noT).fn), O_int (((mfind mkInt (d.termR a.term) pl).getD noT).kids), VP.str (((mfind mkInt (d.termR a.term) pl).getD noT).num)], VP.bool ((mfind mkInt (d.termR a.term) pl).isSome)]), .is (.tmp 93) (VP.agg [VP.int .i64 (((mfind mkInt (d.termR a.term) pl).getD noT).op), VP.int .i64 (((mfind mkInt (d.termR a.term) pl).getD noT).fn), O_int (((mfind mkInt (d.termR a.term) pl).getD noT).kids), VP.str (((mfind mkInt (d.termR a.term) pl).getD noT).num)]), .is (.tmp 94) (VP.bool ((mfind mkInt (d.termR a.term) pl).isSome)), .is (.tmp 15) (VP.bool ((mfind mkInt (d.termR a.term) pl).isSome)), .is (.tmp 95) (VP.bool ((mfind mkInt (d.termR a.term) pl).isSome)), .is (.tmp 96) (VP.int .i64 (d.termR a.term)), .is (.tmp 97) (VP.int .i64 ((d.terms.length : Nat) : Int)), .is (.tmp 98) (VP.bool (decide ((d.termR a.term) < ((d.terms.length : Nat) : Int)))), .is (.tmp 99) (VP.bool (!(false == (decide ((d.termR a.term) < ((d.terms.length : Nat) : Int)))))), .is (.tmp 100) (VP.bool (!(false == (decide ((d.termR a.term) < ((d.terms.length : Nat) : Int)))))), .is (.tmp 101) (VP.bool ((mfind mkInt (d.termR a.term) pl).isSome)), .is (.tmp 102) (VP.bool ((mfind mkInt (d.termR a.term) pl).isSome)), .is (.tmp 103) (VP.undef), .is (.tmp 104) (VP.undef), .is (.tmp 105) (VP.undef), .is (.tmp 106) (VP.undef), .is (.tmp 107) (VP.undef), .is (.tmp 108) (VP.bool false), .is (.tmp 109) (VP.bool false), .is (.tmp 110) (VP.bool false), .is (.tmp 111) (VP.ptr va), .is (.tmp 112) (VP.int .i64 (((d.term a.term).terms.length : Nat) : Int)), .is (.tmp 113) (VP.int .i64 ((d.terms.length : Nat) : Int)), .is (.tmp 114) (VP.int .i64 (d.termR a.term)), .is (.tmp 115) (VP.int .i64 ((d.termR a.term) + 1)), .is (.tmp 116) (VP.int .i64 (if ((d.termR a.term) + 1) > ((d.terms.length : Nat) : Int) then ((d.termR a.term) + 1) else ((d.terms.length : Nat) : Int))), .is (.tmp 117) (VP.bool ((((d.term a.term).terms.length : Nat) : Int) != (if ((d.termR a.term) + 1) > ((d.terms.length : Nat) : Int) then ((d.termR a.term) + 1) else ((d.terms.length : Nat) : Int)))), .is (.tmp 118) (VP.bool ((((d.term a.term).terms.length : Nat) : Int) != (if ((d.termR a.term) + 1) > ((d.terms.length : Nat) : Int) then ((d.termR a.term) + 1) else ((d.terms.length : Nat) : Int)))), .is (.tmp 119) (VP.eq vm true true), .is (.tmp 120) (VP.int .i64 (d.termR a.term)), .pt 121 (.blk (.val ca) 4), .is (.tmp 122) (VP.agg [VP.int .i64 a.term.op, VP.int .i64 a.term.fn, O_int a.term.kids, VP.str a.term.num]), .own 102 (.val vm) (HA.map mkInt (mEnt (fun t => VP.agg (cTerm t)) (mput mkInt (d.termR a.term) a.term pl))), .is (.tmp 123) (VP.int .i64 ((k : Nat) : Int)), .is (.tmp 124) (VP.int .i64 (((k : Nat) : Int).tmod 3)), .is (.tmp 125) (VP.bool ((((k : Nat) : Int).tmod 3) == 0))] [(1, .is (.tmp 36) (VP.int .i64 ((k : Nat) : Int)))] [(0, .is (.tmp 146) (VP.int .i64 (((k + 1) : Nat) : Int))), (1, .is (.tmp 36) (VP.int .i64 (((k + 1) : Nat) : Int)))] [] [0, 1, 2, 3, 4, 5, 6, 7, 8, 9, 10, 11, 12, 13, 15, 16, 17, 18, 19, 20, 21, 22, 23, 24, 25, 26, 27, 28, 29, 30, 31, 32, 33, 34, 35, 36, 37, 38, 39, 40, 41, 42, 43, 44, 45, 46, 47, 48, 49, 50, 51, 52, 53, 54, 55, 56] [14] [[], [0]] [[1], []] rfl rfl follow rfl ⟨
                      wp rfl (does_addE (m := ((k : Nat) : Int)) (n := 1) (x := (((k + 1) : Nat) : Int)) (by omega) _ _ _ _ rfl rfl rfl rfl rfl (by omega) (ar_tmp (av_os 0 1 rfl rfl)) (ar_const (fun _ _ => rfl))),
                      wp rfl (does_move _ (.inl rfl) rfl rfl rfl rfl (ar_tmp (av_rs 0 0 rfl rfl))),
                      trivial⟩ ?_
                    refine nx_round (τ := {x : Nat × ArD × List (Int × TermD) // x.1 ≤ ((([] : List ActD) ++ l) ++ m).length ∧ AInv x.2.1 x.1 ∧ x.2.1.Can ∧ PInv x.2.1 x.2.2 ∧ ∀ q ∈ x.2.2, q.2.kids.length ≤ 12 ∧ q.2.num.size ≤ 60}) (I := fun ⟨(k, d, pl), _⟩ => [.is (.tmp 5) (VP.ptr va), .is (.tmp 6) (VP.eq vm true true), .is (.tmp 34) (VP.eq vw true true), .is (.tmp 35) (VP.int .i64 ((((([] : List ActD) ++ l) ++ m).length : Nat) : Int)), .is (.tmp 36) (VP.int .i64 ((k : Nat) : Int)), .own 101 (.val va) (Arn d), .own 103 (.val vw) (R_act6 ((([] : List ActD) ++ l) ++ m)), .own 102 (.val vm) (HA.map mkInt (mEnt (fun t => VP.agg (cTerm t)) pl))]) (μ := fun ⟨(k, d, pl), _⟩ => ((([] : List ActD) ++ l) ++ m).length - k) (s := ⟨(k, d, pl), hk, hI, hC, hP, hS⟩) (⟨(k + 1, (d.term a.term), (mput mkInt (d.termR a.term) a.term pl)), (show k + 1 ≤ ((([] : List ActD) ++ l) ++ m).length by omega), ainv_term hI a.term, can_term hI.ok hC a.term, pinv_term hP hI.ok (bne_eq_false_iff_eq.1 hb6), put_small hS hga0.2.2⟩) ?_ [10, 11, 12, 13, 57, 14, 15, 52] ?_
                    · exact (show ((([] : List ActD) ++ l) ++ m).length - (k + 1) < ((([] : List ActD) ++ l) ++ m).length - k by omega)
                    · exact rfl
      · have hc3 := of_decide_eq_false hb3
        refine t_exit ?_
        refine ex_then ?_
        refine ex_then ?_
        refine ex_block ?_
        refine nx_then ?_
        refine t_pick [0, 1, 5, 6, 7] rfl ?_
        refine t_seq ?_
        refine t_rg [.is (.tmp 5) (VP.ptr va), .is (.tmp 6) (VP.eq vm true true), .own 101 (.val va) (Arn d), .own 103 (.val vw) (R_act6 ((([] : List ActD) ++ l) ++ m)), .own 102 (.val vm) (HA.map mkInt (mEnt (fun t => VP.agg (cTerm t)) pl))] [] [(0, .is (.tmp 147) (VP.eq vm true true)), (1, .is (.tmp 148) (VP.int .i64 (((mEnt (fun t => VP.agg (cTerm t)) pl).length : Nat) : Int))), (2, .is (.tmp 149) (VP.ptr va)), (3, .is (.tmp 150) (VP.int .i64 ((d.terms.length : Nat) : Int))), (4, .is (.tmp 151) (VP.bool ((((mEnt (fun t => VP.agg (cTerm t)) pl).length : Nat) : Int) == ((d.terms.length : Nat) : Int)))), (5, .is (.tmp 4) (VP.bool ((((mEnt (fun t => VP.agg (cTerm t)) pl).length : Nat) : Int) == ((d.terms.length : Nat) : Int))))] [] [0, 1, 2, 3, 4] [] DagR_p3_37 DagR_s3_37 rfl rfl follow rfl ⟨
          wp rfl (does_move _ (.inl rfl) rfl rfl rfl rfl (ar_tmp (av_fs 1 rfl))),
          wp rfl (does_mapLen _ Try.underlying27 rfl rfl rfl rfl rfl (mp_own (av_fs 4 rfl) (ar_tmp (av_rs 0 0 rfl rfl)))),
          wp rfl (does_move _ (.inl rfl) rfl rfl rfl rfl (ar_tmp (av_fs 0 rfl))),
          wp rfl (does_call (da_Len (v := va) (d := d)) (fun _ _ _ _ h => h) rfl DagR_hb___collator_dag_Arena__Len rfl rfl rfl rfl ar_clo (ars_cons (pa_vp (ar_tmp (av_rs 2 2 rfl rfl))) ars_nil) ⟨(brw_own (av_fs 2 rfl) rfl), trivial⟩),
          wp rfl (does_cmp (m := (((mEnt (fun t => VP.agg (cTerm t)) pl).length : Nat) : Int)) (n := ((d.terms.length : Nat) : Int)) _ _ _ _ _ rfl rfl rfl rfl rfl rfl .i64 (ar_tmp (av_rs 1 1 rfl rfl)) (ar_tmp (av_rs 3 3 rfl rfl))),
          wp rfl (does_move _ (.inr rfl) rfl rfl rfl rfl (ar_tmp (av_rs 4 4 rfl rfl))),
          trivial⟩ ?_
        refine t_pick [2, 3, 4, 10] rfl ?_
        refine nx_then ?_
        refine t_ret ?_
        exact rt_post [HA.of (VP.bool true)] [[]] [] [] rfl ⟨(rv_eq (congrArg (fun b => HA.of (VP.bool b)) (by rw [mEnt_len, hP.len]; simp)) (rv_vp 3 rfl)), trivial⟩ (by decide) rfl rfl

end O
end Go.Proofs.Ytapmngmpomhjmaa

/- DagOnce: for all that comes in the law returns true, and what came in reads as it did. No condition. -/
namespace Go.Proofs.Ytapmngmpomhjmaa
open Go.ChangeShapes Go.WideShapes Go.ChangeAt Go.RowKit

theorem dagOnce_own : ownKnob Try.prog.godebug = none := by kernel_rfl
theorem dagOnce_laid : laidOutB Try.prog = true := by kernel_rfl

theorem dagOnce_args (W : World) (args : Array Value) (hn : args.size = 2) (h : ∀ (j : Nat) (t : TypeId) (v : Value), (#[22, 22] : Array TypeId)[j]? = some t → args[j]? = some v → Arg Try.prog W t v) :
    Calls Try.prog 3 args W fun e W' => e = .returned (.bool true) ∧ Ext W W' := by
  obtain ⟨l⟩ := args
  match l, hn with
  | [v0, v1], _ =>
    obtain ⟨l, _, p1⟩ := O.arg_acts6 (h 0 _ v0 rfl rfl)
    obtain ⟨m, _, p2⟩ := O.arg_acts6 (h 1 _ v1 rfl rfl)
    exact O.SpecO.law (ps := [_, _]) (O.dl_DagOnce l m) ⟨p1, p2, trivial⟩

set_option maxRecDepth 100000 in
theorem dagOnce_lifted (os : Os) (started : os.Started) (H : Type) (enc : TypeId × Value → H) :
    ReturnsInHanded {} Try.checked os 3 .any (Rows.dagOnceSpec.pre6 enc Try.prog Try.f3 Rows.dagOnceRow.domain false) (Rows.dagOnceSpec.post enc Try.prog Try.f3 false true false false) :=
  law_lifted (C := Try.checked) 4 dagOnce_own started (by kernel_rfl) Try.func3 dagOnce_laid
      (by rw [Try.params3]; exact (List.forall_mem_cons.2 ⟨⟨by kernel_rfl, of_decide_eq_true (by kernel_rfl)⟩, (List.forall_mem_cons.2 ⟨⟨by kernel_rfl, of_decide_eq_true (by kernel_rfl)⟩, (fun _ h => by cases h)⟩)⟩))
      (by rw [Try.params3]; exact (List.forall_mem_cons.2 ⟨(by show Served Try.prog _; unfold Served; rw [Try.underlying22]; trivial), (List.forall_mem_cons.2 ⟨(by show Served Try.prog _; unfold Served; rw [Try.underlying22]; trivial), (fun _ h => by cases h)⟩)⟩))
      rfl Try.underlying4 rfl
      (fun ds hd => by match ds, hd with | [_, _], _ => rfl)
      (ChangeSpec.witness6 (enc := enc) (C := Try.checked) false ⟨#[], #[.slice none 0 0, .slice none 0 0], []⟩ 8 (by kernel_rfl) (by kernel_rfl) (by kernel_rfl) (by kernel_rfl))
      (fun W args hn h => dagOnce_args W args (by rw [Try.params3] at hn; exact hn) (by rw [Try.params3] at h; exact h))

theorem dagOnce_over : Rows.dagOnceRow.holds Try.pinned (OpenSpec.ofChange Rows.dagOnceSpec) :=
  OpenClaim.holds_of_wide 3 Try.f3 rfl rfl rfl rfl rfl rfl rfl ⟨rfl, rfl, rfl, rfl, rfl⟩ rfl rfl rfl rfl rfl (by kernel_rfl) Try.func3 (by kernel_rfl)
    (of_decide_eq_true (by kernel_rfl)) (by unfold Func.isWrapper; first | (rw [if_pos (by decide +kernel)]; kernel_rfl) | (rw [if_neg (by decide +kernel)]; exact ⟨rfl, rfl⟩))
    (fun os started H enc _ => dagOnce_lifted os started H enc)

theorem dagOnce_holds : Rows.DagOnceSaid := dagOnce_over
#print axioms dagOnce_holds
end Go.Proofs.Ytapmngmpomhjmaa
