/- Part of the proof that a law returns true for all that comes in, and that what came in reads as it did. No condition. -/
import Derived.Orders
import Derived.Deep.LoopGhost
import Derived.Deep.Cut
import Derived.Test.YtogodjiemgilaaaMgA1
/- A logic of my own over slots and boxes: what values, worlds and frames are said to be. No program stands in this text. -/
namespace Go.Proofs.Ytogodjiemgilaaa
open Go.RowKit

/-! ### The world goes on: what holds numbers stands -/
def NotInt (v : Value) : Prop := ∀ k n, v ≠ .int k n
def Boxed (w : World) (b : Nat) : Prop := ∃ cs T, w.heap[b]? = some (.cells cs T (0, 0)) ∧ ∀ u ∈ cs.toList, NotInt u
def Evol (w w' : World) : Prop := w.heap.size ≤ w'.heap.size ∧ ∀ b, b < w.heap.size → w'.heap[b]? = w.heap[b]? ∨ (Boxed w b ∧ Boxed w' b)
theorem Evol.of_ext {w w' : World} (e : Ext w w') : Evol w w' := ⟨e.size, fun b hb => .inl (e.block b hb)⟩
theorem Evol.refl (w : World) : Evol w w := .of_ext (Ext.refl w)
theorem Evol.trans {a b c : World} (h : Evol a b) (k : Evol b c) : Evol a c := by
  refine ⟨Nat.le_trans h.1 k.1, fun x hx => ?_⟩
  rcases h.2 x hx with e1 | ⟨b1, b2⟩ <;> rcases k.2 x (Nat.lt_of_lt_of_le hx h.1) with e2 | ⟨b3, b4⟩
  · exact .inl (e2.trans e1)
  · refine .inr ⟨?_, b4⟩
    obtain ⟨cs, T, h1, h2⟩ := b3
    exact ⟨cs, T, e1.symm.trans h1, h2⟩
  · refine .inr ⟨b1, ?_⟩
    obtain ⟨cs, T, h1, h2⟩ := b2
    exact ⟨cs, T, e2.trans h1, h2⟩
  · exact .inr ⟨b1, b4⟩
theorem Rd.evol {w w' : World} {a : Option Addr} {xs : List Value} (h : Rd w a xs) (hx : ∀ u ∈ xs, ¬ NotInt u) (e : Evol w w') : Rd w' a xs := by
  rcases h with rfl | ⟨b, off, ea, hc⟩
  · exact .inl rfl
  · refine .inr ⟨b, off, ea, fun j u hu => ?_⟩
    have h1 := hc j u hu
    have hb := World.block_lt_of_cell? w _ h1
    rcases e.2 b hb with e1 | ⟨⟨cs, T, h2, h3⟩, _⟩
    · rw [World.cell?_of_block (w := w) e1]; exact h1
    · exfalso
      refine hx u (List.mem_of_getElem? hu) (h3 u ?_)
      rw [cell_of_row w b (off + j) cs T (0, 0) h2] at h1
      have := List.mem_of_getElem? (l := cs.toList) (i := off + j) (a := u) (by simpa using h1)
      exact this

/-! ### What is said of a value -/
structure VP where
  p : Value → World → Prop
  ni : Bool
  st : ∀ v w w', p v w → Evol w w' → p v w'
  hni : ni = true → ∀ v w, p v w → NotInt v
  one : Bool
  hone : one = true → ∀ v w, p v w → v.oneCell' = true
  ab : Bool
  hab : ab = true → ∀ v w w', p v w → p v w'

def All2 : List VP → List Value → World → Prop
  | [], [], _ => True
  | x :: xs, v :: vs, w => x.p v w ∧ All2 xs vs w
  | _, _, _ => False
theorem All2.len : ∀ {ps : List VP} {vs : List Value} {w : World}, All2 ps vs w → vs.length = ps.length
  | [], [], _, _ => rfl
  | _ :: _, _ :: _, _, h => by simp [All2.len h.2]
  | [], _ :: _, _, h => h.elim
  | _ :: _, [], _, h => h.elim
theorem All2.st : ∀ {ps : List VP} {vs : List Value} {w w' : World}, All2 ps vs w → Evol w w' → All2 ps vs w'
  | [], [], _, _, _, _ => trivial
  | x :: _, v :: _, _, _, h, e => ⟨x.st v _ _ h.1 e, All2.st h.2 e⟩
  | [], _ :: _, _, _, h, _ => h.elim
  | _ :: _, [], _, _, h, _ => h.elim
theorem All2.get : ∀ {ps : List VP} {vs : List Value} {w : World}, All2 ps vs w → ∀ {i : Nat} {x : VP}, ps[i]? = some x → ∃ v, vs[i]? = some v ∧ x.p v w
  | [], [], _, _, i, _, h => by simp at h
  | y :: _, v :: _, _, h, 0, x, hx => by simp at hx; subst hx; exact ⟨v, rfl, h.1⟩
  | _ :: _, _ :: _, _, h, i + 1, x, hx => by simpa using All2.get h.2 (by simpa using hx)
  | [], _ :: _, _, h, _, _, _ => h.elim
  | _ :: _, [], _, h, _, _, _ => h.elim
theorem All2.app : ∀ {ps qs : List VP} {us vs : List Value} {w : World}, All2 ps us w → All2 qs vs w → All2 (ps ++ qs) (us ++ vs) w
  | [], _, [], _, _, _, k => k
  | _ :: _, _, _ :: _, _, _, h, k => ⟨h.1, All2.app h.2 k⟩
  | [], _, _ :: _, _, _, h, _ => h.elim
  | _ :: _, _, [], _, _, h, _ => h.elim
theorem All2.take : ∀ {ps : List VP} {vs : List Value} {w : World}, All2 ps vs w → ∀ n, All2 (ps.take n) (vs.take n) w
  | [], [], _, _, n => by simp [All2]
  | _ :: _, _ :: _, _, h, 0 => trivial
  | _ :: _, _ :: _, _, h, n + 1 => ⟨h.1, All2.take h.2 n⟩
  | [], _ :: _, _, h, _ => h.elim
  | _ :: _, [], _, h, _ => h.elim
theorem All2.drop : ∀ {ps : List VP} {vs : List Value} {w : World}, All2 ps vs w → ∀ n, All2 (ps.drop n) (vs.drop n) w
  | [], [], _, _, n => by simp [All2]
  | _ :: _, _ :: _, _, h, 0 => h
  | _ :: _, _ :: _, _, h, n + 1 => All2.drop h.2 n
  | [], _ :: _, _, h, _ => h.elim
  | _ :: _, [], _, h, _ => h.elim
theorem All2.noint {ps : List VP} {vs : List Value} {w : World} (h : All2 ps vs w) (hn : ps.all (·.ni) = true) : ∀ u ∈ vs, NotInt u := by
  intro u hu
  obtain ⟨i, hi, rfl⟩ := List.mem_iff_getElem.1 hu
  have hl := h.len
  obtain ⟨v, hv, hp⟩ := h.get (i := i) (x := ps[i]'(by omega)) (List.getElem?_eq_getElem _)
  rw [List.getElem?_eq_getElem hi] at hv
  injection hv with hv
  subst hv
  exact (ps[i]'(by omega)).hni (List.all_eq_true.1 hn _ (List.getElem_mem _)) _ _ hp
theorem All2.ones {ps : List VP} {vs : List Value} {w : World} (h : All2 ps vs w) (hn : ps.all (·.one) = true) : ∀ u ∈ vs, u.oneCell' = true := by
  intro u hu
  obtain ⟨i, hi, rfl⟩ := List.mem_iff_getElem.1 hu
  have hl := h.len
  obtain ⟨v, hv, hp⟩ := h.get (i := i) (x := ps[i]'(by omega)) (List.getElem?_eq_getElem _)
  rw [List.getElem?_eq_getElem hi] at hv
  injection hv with hv
  subst hv
  exact (ps[i]'(by omega)).hone (List.all_eq_true.1 hn _ (List.getElem_mem _)) _ _ hp

theorem All2.abs {ps : List VP} {vs : List Value} {w w' : World} (h : All2 ps vs w) (hn : ps.all (·.ab) = true) : All2 ps vs w' := by
  induction ps generalizing vs with
  | nil => cases vs with
    | nil => trivial
    | cons v vs => exact h.elim
  | cons x xs ih => cases vs with
    | nil => exact h.elim
    | cons v vs =>
      simp only [List.all_cons, Bool.and_eq_true] at hn
      exact ⟨x.hab hn.1 v w w' h.1, ih h.2 hn.2⟩
/-- nothing is known -/
def VP.any : VP := ⟨fun _ _ => True, false, fun _ _ _ _ _ => trivial, fun h => (by cases h), false, fun h => (by cases h), true, fun _ _ _ _ _ => trivial⟩
def VP.bool (b : Bool) : VP := ⟨fun v _ => v = .bool b, true, fun _ _ _ h _ => h, fun _ v _ h k n e => (by rw [h] at e; cases e), true, fun _ v _ h => (by rw [h]; rfl), true, fun _ _ _ _ h => h⟩
def VP.int (k : IntKind) (n : Int) : VP := ⟨fun v _ => v = .int k n, false, fun _ _ _ h _ => h, fun h => (by cases h), true, fun _ v _ h => (by rw [h]; rfl), true, fun _ _ _ _ h => h⟩
def VP.str (s : ByteArray) : VP := ⟨fun v _ => v = .string s, true, fun _ _ _ h _ => h, fun _ v _ h k n e => (by rw [h] at e; cases e), true, fun _ v _ h => (by rw [h]; rfl), true, fun _ _ _ _ h => h⟩
/-- numbers of a kind as cells -/
def ksI (k : IntKind) (l : List Nat) : List Value := l.map fun d : Nat => .int k (d : Int)
/-- a slice of numbers -/
def VP.nums (k : IntKind) (l : List Nat) : VP := ⟨fun v w => ∃ a c, v = .slice a l.length c ∧ l.length ≤ c ∧ c ≤ maxLen ∧ Rd w a (ksI k l), true,
  fun _ _ _ ⟨a, c, h1, h2, h3, h4⟩ e => ⟨a, c, h1, h2, h3, h4.evol (fun u hu => by
    unfold ksI at hu
    obtain ⟨d, _, rfl⟩ := List.mem_map.1 hu
    exact fun hn => hn _ _ rfl) e⟩,
  fun _ v _ ⟨a, c, h1, _⟩ k n e => (by rw [h1] at e; cases e), true, fun _ v _ ⟨a, c, h1, _⟩ => (by rw [h1]; rfl), false, fun h => (by cases h)⟩
def VP.agg (ps : List VP) : VP := ⟨fun v w => ∃ cs : List Value, v = .agg cs.toArray ∧ All2 ps cs w, true, fun _ _ _ ⟨cs, h1, h2⟩ e => ⟨cs, h1, h2.st e⟩, fun _ v _ ⟨cs, h1, _⟩ k n e => (by rw [h1] at e; cases e), false, fun h => (by cases h), ps.all (·.ab), fun hn _ _ _ ⟨cs, h1, h2⟩ => ⟨cs, h1, h2.abs hn⟩⟩
def VP.tup (ps : List VP) : VP := ⟨fun v w => ∃ cs : List Value, v = .tuple cs.toArray ∧ All2 ps cs w, true, fun _ _ _ ⟨cs, h1, h2⟩ e => ⟨cs, h1, h2.st e⟩, fun _ v _ ⟨cs, h1, _⟩ k n e => (by rw [h1] at e; cases e), false, fun h => (by cases h), ps.all (·.ab), fun hn _ _ _ ⟨cs, h1, h2⟩ => ⟨cs, h1, h2.abs hn⟩⟩

/-! ### What is said of a frame -/
def ptr (g : Nat) : Value := .pointer (some ⟨g, 0, none⟩)
/-- from offset off of block g on lie cells of which ps is said -/
def Cells (w : World) (g off : Nat) (ps : List VP) : Prop := ∀ j x, ps[j]? = some x → ∃ u, w.cell? ⟨g, off + j, none⟩ = some u ∧ x.p u w
inductive Fact where
  | slot (k : Nat) (x : VP)
  | fp (d k off : Nat)
  | box (k : Nat) (T : TypeId) (ps : List VP)
  | arr (k : Nat) (T : TypeId) (n : Nat) (ps : List VP)
  | own (k : Nat) (T : TypeId) (n : Nat)
  | rows (k : Nat) (n : Nat) (ps : List VP)
  | rp (d k off : Nat)
  | orow (k : Nat) (E : TypeId) (sz n : Nat) (ps : List VP)

def Fact.holds (w0 : World) : Fact → Act → World → Prop
  | .slot k x, a, w => ∃ v, a.tmps[k]? = some v ∧ x.p v w
  | .fp d k off, a, _ => ∃ g, a.tmps[k]? = some (ptr g) ∧ a.tmps[d]? = some (.pointer (some ⟨g, off, none⟩))
  | .box k T ps, a, w => ∃ g cs, a.tmps[k]? = some (ptr g) ∧ Row w g T cs ∧ All2 ps cs w
  | .arr k T n ps, a, w => ∃ g cs, a.tmps[k]? = some (.slice (some ⟨g, 0, none⟩) n n) ∧ Row w g T cs ∧ All2 ps cs w
  | .own k T n, a, w => ∃ g cs, a.tmps[k]? = some (ptr g) ∧ Row w g T cs ∧ cs.length = n ∧ ∀ u ∈ cs, NotInt u
  | .rows k n ps, a, w => ∃ g off c, a.tmps[k]? = some (.slice (some ⟨g, off, none⟩) n c) ∧ n ≤ c ∧ c ≤ maxLen ∧ g < w0.heap.size ∧ Cells w g off ps
  | .rp d k off, a, _ => ∃ g o n c, a.tmps[k]? = some (.slice (some ⟨g, o, none⟩) n c) ∧ a.tmps[d]? = some (.pointer (some ⟨g, o + off, none⟩))
  | .orow k E sz n ps, a, w => ∃ v xs, a.tmps[k]? = some v ∧ w.ownsRow w0.heap.size E sz v n xs ∧ All2 ps xs w
/-- the slots of which a fact speaks -/
def Fact.uses : Fact → Nat → Bool
  | .slot k _, d => k == d
  | .fp e k _, d => e == d || k == d
  | .box k _ _, d => k == d
  | .arr k _ _ _, d => k == d
  | .own k _ _, d => k == d
  | .rows k _ _, d => k == d
  | .rp e k _, d => e == d || k == d
  | .orow k _ _ _ _, d => k == d
/-- a store into slot k's box leaves this fact -/
def Fact.off : Fact → Nat → Bool
  | .box j _ _, k => !(j == k)
  | .arr .., _ => false
  | _, _ => true

theorem put_ne {a : Act} {d k : Nat} (v : Value) (h : d ≠ k) : (a.put (some d) v).tmps[k]? = a.tmps[k]? := by
  simp [Act.put, Array.getElem?_setIfInBounds_ne h]
theorem put_eq {a : Act} {d : Nat} (v : Value) (h : d < a.tmps.size) : (a.put (some d) v).tmps[d]? = some v := by
  simp [Act.put, h]
theorem put_size (a : Act) (d : Option Nat) (v : Value) : (a.put d v).tmps.size = a.tmps.size := by
  cases d <;> simp [Act.put]
theorem put_defers' (a : Act) (d : Option Nat) (v : Value) : (a.put d v).defers = a.defers := by cases d <;> rfl

theorem Cells.evol {w w' : World} {g off : Nat} {ps : List VP} (h : Cells w g off ps) (e : Evol w w') (hb : w'.heap[g]? = w.heap[g]?) : Cells w' g off ps := fun j x hx => by
  obtain ⟨u, h1, h2⟩ := h j x hx
  exact ⟨u, by rw [World.cell?_of_block (w := w) hb]; exact h1, x.st _ _ _ h2 e⟩
theorem Cells.ext {w w' : World} {g off : Nat} {ps : List VP} (h : Cells w g off ps) (e : Ext w w') : Cells w' g off ps := fun j x hx => by
  obtain ⟨u, h1, h2⟩ := h j x hx
  exact ⟨u, e.cell h1, x.st _ _ _ h2 (.of_ext e)⟩
theorem own_kept {w w' : World} {base : Nat} {e : TypeId} {size n : Nat} {v : Value} {xs : List Value} (h : w.ownsRow base e size v n xs) (x : Ext w w') : w'.ownsRow base e size v n xs :=
  h.kept (row := none) ⟨x.os, x.tape, x.output, x.size, fun k hk _ => x.block k hk⟩ (by cases v.ownBlock <;> simp)
theorem fact_put {f : Fact} {w0 : World} {a : Act} {w w' : World} {d : Nat} {v : Value} (h : f.holds w0 a w) (hd : f.uses d = false) (e : Ext w w') : f.holds w0 (a.put (some d) v) w' := by
  cases f with
  | slot k x =>
    obtain ⟨u, h1, h2⟩ := h
    simp [Fact.uses] at hd
    exact ⟨u, by rw [put_ne v (Ne.symm hd)]; exact h1, x.st _ _ _ h2 (.of_ext e)⟩
  | fp c k off =>
    obtain ⟨g, h1, h2⟩ := h
    simp [Fact.uses] at hd
    exact ⟨g, by rw [put_ne v (Ne.symm hd.2)]; exact h1, by rw [put_ne v (Ne.symm hd.1)]; exact h2⟩
  | box k T ps =>
    obtain ⟨g, cs, h1, h2, h3⟩ := h
    simp [Fact.uses] at hd
    exact ⟨g, cs, by rw [put_ne v (Ne.symm hd)]; exact h1, h2.ext e, h3.st (.of_ext e)⟩
  | arr k T n ps =>
    obtain ⟨g, cs, h1, h2, h3⟩ := h
    simp [Fact.uses] at hd
    exact ⟨g, cs, by rw [put_ne v (Ne.symm hd)]; exact h1, h2.ext e, h3.st (.of_ext e)⟩
  | own k T n =>
    obtain ⟨g, cs, h1, h2, h3, h4⟩ := h
    simp [Fact.uses] at hd
    exact ⟨g, cs, by rw [put_ne v (Ne.symm hd)]; exact h1, h2.ext e, h3, h4⟩
  | rows k n ps =>
    obtain ⟨g, off, c, h1, h2, h3, h4, h5⟩ := h
    simp [Fact.uses] at hd
    exact ⟨g, off, c, by rw [put_ne v (Ne.symm hd)]; exact h1, h2, h3, h4, h5.ext e⟩
  | rp c k off =>
    obtain ⟨g, o, n, c', h1, h2⟩ := h
    simp [Fact.uses] at hd
    exact ⟨g, o, n, c', by rw [put_ne v (Ne.symm hd.2)]; exact h1, by rw [put_ne v (Ne.symm hd.1)]; exact h2⟩
  | orow k E sz n ps =>
    obtain ⟨u, xs, h1, h2, h3⟩ := h
    simp [Fact.uses] at hd
    exact ⟨u, xs, by rw [put_ne v (Ne.symm hd)]; exact h1, own_kept h2 e, h3.st (.of_ext e)⟩
theorem fact_ext {f : Fact} {w0 : World} {a : Act} {w w' : World} (h : f.holds w0 a w) (e : Ext w w') : f.holds w0 a w' := by
  cases f with
  | slot k x => obtain ⟨u, h1, h2⟩ := h; exact ⟨u, h1, x.st _ _ _ h2 (.of_ext e)⟩
  | fp c k off => exact h
  | box k T ps => obtain ⟨g, cs, h1, h2, h3⟩ := h; exact ⟨g, cs, h1, h2.ext e, h3.st (.of_ext e)⟩
  | arr k T n ps => obtain ⟨g, cs, h1, h2, h3⟩ := h; exact ⟨g, cs, h1, h2.ext e, h3.st (.of_ext e)⟩
  | own k T n => obtain ⟨g, cs, h1, h2, h3⟩ := h; exact ⟨g, cs, h1, h2.ext e, h3⟩
  | rows k n ps => obtain ⟨g, off, c, h1, h2, h3, h4, h5⟩ := h; exact ⟨g, off, c, h1, h2, h3, h4, h5.ext e⟩
  | rp c k off => exact h
  | orow k E sz n ps => obtain ⟨u, xs, h1, h2, h3⟩ := h; exact ⟨u, xs, h1, own_kept h2 e, h3.st (.of_ext e)⟩

def Base (w0 : World) (N : Nat) (B : List Nat) (a : Act) (w : World) : Prop :=
  a.tmps.size = N ∧ a.defers = [] ∧ Ext w0 w ∧ (∀ k ∈ B, ∀ g, a.tmps[k]? = some (ptr g) → w0.heap.size ≤ g ∧ g < w.heap.size) ∧
    (∀ k ∈ B, ∀ k' ∈ B, k ≠ k' → ∀ g, a.tmps[k]? = some (ptr g) → a.tmps[k']? ≠ some (ptr g))

theorem Base.put {w0 : World} {N : Nat} {B : List Nat} {a : Act} {w w' : World} (h : Base w0 N B a w) {d : Nat} (hd : B.contains d = false) (v : Value) (e : Ext w w') : Base w0 N B (a.put (some d) v) w' := by
  obtain ⟨h1, h2, h3, h4, h5⟩ := h
  have hne : ∀ k ∈ B, d ≠ k := fun k hk e => by subst e; simp [hk] at hd
  refine ⟨by rw [put_size]; exact h1, by rw [put_defers']; exact h2, h3.trans e, fun k hk g hg => ?_, fun k hk k' hk' hkk g hg => ?_⟩
  · rw [put_ne v (hne k hk)] at hg
    have := h4 k hk g hg
    exact ⟨this.1, Nat.lt_of_lt_of_le this.2 e.size⟩
  · rw [put_ne v (hne k hk)] at hg
    rw [put_ne v (hne k' hk')]
    exact h5 k hk k' hk' hkk g hg
theorem Base.ext {w0 : World} {N : Nat} {B : List Nat} {a : Act} {w w' : World} (h : Base w0 N B a w) (e : Ext w w') : Base w0 N B a w' := by
  obtain ⟨h1, h2, h3, h4, h5⟩ := h
  exact ⟨h1, h2, h3.trans e, fun k hk g hg => ⟨(h4 k hk g hg).1, Nat.lt_of_lt_of_le (h4 k hk g hg).2 e.size⟩, h5⟩
/-- a new box -/
theorem Base.new {w0 : World} {N : Nat} {B : List Nat} {a : Act} {w : World} (h : Base w0 N B a w) {d : Nat} (hd : d < N) (o : Obj) : Base w0 N B (a.put (some d) (ptr w.heap.size)) (w.alloc o) := by
  obtain ⟨h1, h2, h3, h4, h5⟩ := h
  have hself := put_eq (a := a) (ptr w.heap.size) (d := d) (by omega)
  refine ⟨by rw [put_size]; exact h1, by rw [put_defers']; exact h2, h3.alloc o, fun k hk g hg => ?_, fun k hk k' hk' hkk g hg => ?_⟩
  · by_cases e : d = k
    · subst e
      rw [hself] at hg
      injection hg with hg
      unfold ptr at hg
      injection hg with hg
      injection hg with hg
      injection hg with hg
      subst hg
      exact ⟨h3.size, by simp⟩
    · rw [put_ne _ e] at hg
      have := h4 k hk g hg
      exact ⟨this.1, by simp; omega⟩
  · by_cases e : d = k
    · subst e
      rw [hself] at hg
      rw [put_ne _ hkk]
      intro hg'
      rw [← Option.some.inj hg] at hg'
      have := (h4 k' hk' _ hg').2
      omega
    · rw [put_ne _ e] at hg
      by_cases e' : d = k'
      · subst e'
        rw [hself]
        intro hg'
        rw [← Option.some.inj hg'] at hg
        have := (h4 k hk _ hg).2
        omega
      · rw [put_ne _ e']
        exact h5 k hk k' hk' hkk g hg
end Go.Proofs.Ytogodjiemgilaaa

/- The logic over slots and boxes: a rule for each operation, whatever order a region takes. -/
namespace Go.Proofs.Ytogodjiemgilaaa
open Go.RowKit

structure Cx where
  P : Program
  w0 : World
  N : Nat
  B : List Nat
  fs : List Fact
  os : List (Nat × Fact)
  rs : List (Nat × Fact)
  ms : List (Nat × Nat × Fact)

def Inv (X : Cx) (c : Nat → Bool) (a : Act) (w : World) : Prop :=
  Base X.w0 X.N X.B a w ∧ (∀ f ∈ X.fs, f.holds X.w0 a w) ∧ (∀ x ∈ X.os, c x.1 = false → x.2.holds X.w0 a w) ∧ (∀ x ∈ X.rs, c x.1 = true → x.2.holds X.w0 a w) ∧ (∀ x ∈ X.ms, c x.1 = true → c x.2.1 = false → x.2.2.holds X.w0 a w)
def upd (c : Nat → Bool) (i : Nat) : Nat → Bool := fun j => if j = i then true else c j
structure Sit (X : Cx) (i : Nat) (pre suc : List Nat) (c : Nat → Bool) (a : Act) (w : World) : Prop where
  me : c i = false
  hpre : ∀ j ∈ pre, c j = true
  hsuc : ∀ j ∈ suc, c j = false
  inv : Inv X c a w
/-- this is known when operation i comes up -/
def Av (X : Cx) (i : Nat) (pre suc : List Nat) (f : Fact) : Prop := ∀ c a w, Sit X i pre suc c a w → f.holds X.w0 a w
section
variable {X : Cx} {i : Nat} {pre suc : List Nat}
theorem av_fs (n : Nat) {f : Fact} (h : X.fs[n]? = some f) : Av X i pre suc f := fun _ _ _ s => s.inv.2.1 f (List.mem_of_getElem? h)
theorem av_rs (n : Nat) {j : Nat} {f : Fact} (h : X.rs[n]? = some (j, f)) (hj : pre.contains j = true) : Av X i pre suc f :=
  fun _ _ _ s => s.inv.2.2.2.1 _ (List.mem_of_getElem? h) (s.hpre j (by simpa using hj))
theorem av_ms (n : Nat) {j e : Nat} {f : Fact} (h : X.ms[n]? = some (j, e, f)) (hj : pre.contains j = true) (he : (e == i || suc.contains e) = true) : Av X i pre suc f :=
  fun _ _ _ s => s.inv.2.2.2.2 _ (List.mem_of_getElem? h) (s.hpre j (by simpa using hj)) (by
    simp only [Bool.or_eq_true, beq_iff_eq] at he
    rcases he with rfl | he
    · exact s.me
    · exact s.hsuc e (by simpa using he))
theorem av_os (n : Nat) {j : Nat} {f : Fact} (h : X.os[n]? = some (j, f)) (hj : (j == i || suc.contains j) = true) : Av X i pre suc f :=
  fun _ _ _ s => s.inv.2.2.1 _ (List.mem_of_getElem? h) (by
    simp only [Bool.or_eq_true, beq_iff_eq] at hj
    rcases hj with rfl | hj
    · exact s.me
    · exact s.hsuc j (by simpa using hj))

theorem av_bool {k : Nat} {b b' : Bool} (e : b = b') (h : Av X i pre suc (.slot k (VP.bool b))) : Av X i pre suc (.slot k (VP.bool b')) := e ▸ h
theorem av_eq {k : Nat} {x y : VP} (e : x = y) (h : Av X i pre suc (.slot k x)) : Av X i pre suc (.slot k y) := e ▸ h

/-- an operand's value -/
def Ar (X : Cx) (i : Nat) (pre suc : List Nat) (x : Operand) (q : Value → World → Prop) : Prop := ∀ c a w, Sit X i pre suc c a w → q (a.eval x) w
theorem eval_tmp {a : Act} {k : Nat} {v : Value} (h : a.tmps[k]? = some v) : a.eval (.tmp k) = v := by simp [Act.eval, h]
theorem ar_tmp {k : Nat} {x : VP} (h : Av X i pre suc (.slot k x)) : Ar X i pre suc (.tmp k) x.p := fun c a w s => by
  obtain ⟨v, h1, h2⟩ := h c a w s
  rw [eval_tmp h1]; exact h2
theorem ar_const {v : Value} {q : Value → World → Prop} (h : ∀ w, q v w) : Ar X i pre suc (.const v) q := fun _ _ w _ => h w
/-- a slice of a block of its own, as an argument -/
def isArr (T : TypeId) (n : Nat) (ps : List VP) (v : Value) (w : World) : Prop := ∃ g cs, v = .slice (some ⟨g, 0, none⟩) n n ∧ Row w g T cs ∧ All2 ps cs w
theorem ar_arr {k : Nat} {T : TypeId} {n : Nat} {ps : List VP} (h : Av X i pre suc (.arr k T n ps)) : Ar X i pre suc (.tmp k) (isArr T n ps) := fun c a w s => by
  obtain ⟨g, cs, h1, h2, h3⟩ := h c a w s
  rw [eval_tmp h1]; exact ⟨g, cs, rfl, h2, h3⟩
def isPtr (g off : Nat) (v : Value) : Prop := v = .pointer (some ⟨g, off, none⟩)

/-- the operation does what the context says of it, when it comes up -/
def Does (X : Cx) (i : Nat) (pre suc : List Nat) (o : Oper) : Prop :=
  ∀ c a w, Sit X i pre suc c a w → ∀ Q (K : Act → World → Prop), (∀ a' w', Inv X (upd c i) a' w' → K a' w') → o.wp X.P a w K Q

def chk (X : Cx) (i : Nat) (pre suc : List Nat) (d : Nat) : Bool :=
  X.fs.all (fun f => !f.uses d) && X.os.all (fun x => x.1 == i || pre.contains x.1 || !x.2.uses d) && X.rs.all (fun x => x.1 == i || !x.2.uses d || suc.contains x.1) && X.ms.all (fun x => x.1 == i || x.2.1 == i || pre.contains x.2.1 || !x.2.2.uses d || suc.contains x.1)
def resOf (X : Cx) (i : Nat) : List (Nat × Fact) := X.rs.filter (fun x => x.1 == i) ++ (X.ms.filter (fun x => x.1 == i && !(x.2.1 == i))).map (fun x => (x.1, x.2.2))

theorem res_rs {x : Nat × Fact} (hx : x ∈ X.rs) (h : x.1 = i) : x ∈ resOf X i := by
  unfold resOf; rw [List.mem_append, List.mem_filter]; exact .inl ⟨hx, by simp [h]⟩
theorem res_ms {x : Nat × Nat × Fact} (hx : x ∈ X.ms) (h : x.1 = i) (h2 : x.2.1 ≠ i) : (x.1, x.2.2) ∈ resOf X i := by
  unfold resOf; rw [List.mem_append, List.mem_map]; exact .inr ⟨x, by rw [List.mem_filter]; exact ⟨hx, by simp [h, h2]⟩, rfl⟩
theorem not_pre {c : Nat → Bool} {a : Act} {w : World} (s : Sit X i pre suc c a w) {j : Nat} (hc : c j = false) : pre.contains j = false := by
  rw [Bool.eq_false_iff]
  intro h
  have := s.hpre j (by simpa using h)
  rw [this] at hc; cases hc
/-- the facts behind operation i: what it lays, and what it leaves -/
theorem inv_mk {c : Nat → Bool} {a a' : Act} {w w' : World} (s : Sit X i pre suc c a w) (hb : Base X.w0 X.N X.B a' w') (hr : ∀ x ∈ resOf X i, x.2.holds X.w0 a' w')
    (kf : ∀ f ∈ X.fs, f.holds X.w0 a w → f.holds X.w0 a' w') (ko : ∀ x ∈ X.os, x.1 ≠ i → pre.contains x.1 = false → x.2.holds X.w0 a w → x.2.holds X.w0 a' w')
    (kr : ∀ x ∈ X.rs, x.1 ≠ i → c x.1 = true → x.2.holds X.w0 a w → x.2.holds X.w0 a' w') (km : ∀ x ∈ X.ms, x.1 ≠ i → x.2.1 ≠ i → pre.contains x.2.1 = false → c x.1 = true → x.2.2.holds X.w0 a w → x.2.2.holds X.w0 a' w') : Inv X (upd c i) a' w' := by
  refine ⟨hb, fun f hf => kf f hf (s.inv.2.1 f hf), fun x hx hcx => ?_, fun x hx hcx => ?_, fun x hx hcx hce => ?_⟩
  · have hne : x.1 ≠ i := fun he => by simp [upd, he] at hcx
    have hcx' : c x.1 = false := by simpa [upd, hne] using hcx
    exact ko x hx hne (not_pre s hcx') (s.inv.2.2.1 x hx hcx')
  · by_cases hne : x.1 = i
    · exact hr x (res_rs hx hne)
    · have hcx' : c x.1 = true := by simpa [upd, hne] using hcx
      exact kr x hx hne hcx' (s.inv.2.2.2.1 x hx hcx')
  · have hne2 : x.2.1 ≠ i := fun he => by simp [upd, he] at hce
    have hce' : c x.2.1 = false := by simpa [upd, hne2] using hce
    by_cases hne : x.1 = i
    · exact hr (x.1, x.2.2) (res_ms hx hne hne2)
    · have hcx' : c x.1 = true := by simpa [upd, hne] using hcx
      exact km x hx hne hne2 (not_pre s hce') hcx' (s.inv.2.2.2.2 x hx hcx' hce')
theorem not_suc {c : Nat → Bool} {a : Act} {w : World} (s : Sit X i pre suc c a w) {j : Nat} (h : suc.contains j = true) (hc : c j = true) : False := by
  have := s.hsuc j (by simpa using h)
  rw [this] at hc; cases hc
theorem inv_put {c : Nat → Bool} {a : Act} {w w' : World} {d : Nat} {v : Value} (s : Sit X i pre suc c a w) (e : Ext w w')
    (hb : Base X.w0 X.N X.B (a.put (some d) v) w') (hc : chk X i pre suc d = true) (hr : ∀ x ∈ resOf X i, x.2.holds X.w0 (a.put (some d) v) w') : Inv X (upd c i) (a.put (some d) v) w' := by
  unfold chk at hc
  simp only [Bool.and_eq_true, List.all_eq_true] at hc
  obtain ⟨⟨⟨h1, h2⟩, h3⟩, h4⟩ := hc
  refine inv_mk s hb hr (fun f hf h => fact_put h (by simpa using h1 f hf) e) (fun x hx hne hp h => ?_) (fun x hx hne hcx h => ?_) (fun x hx hne hne2 hp hcx h => ?_)
  · have := h2 x hx
    simp only [Bool.or_eq_true, beq_iff_eq, hne, hp, Bool.false_eq_true, false_or] at this
    exact fact_put h (by simpa using this) e
  · have := h3 x hx
    simp only [Bool.or_eq_true, beq_iff_eq, hne, false_or] at this
    rcases this with hu | hs
    · exact fact_put h (by simpa using hu) e
    · exact (not_suc s hs hcx).elim
  · have := h4 x hx
    simp only [Bool.or_eq_true, beq_iff_eq, hne, hne2, hp, Bool.false_eq_true, false_or] at this
    rcases this with hu | hs
    · exact fact_put h (by simpa using hu) e
    · exact (not_suc s hs hcx).elim

/-- an operation that leaves a value in a slot that is no box's -/
theorem does_val {o : Oper} {d : Nat} (_hd : o.dst = some d) (hlt : (decide (d < X.N) && !X.B.contains d) = true) (hc : chk X i pre suc d = true)
    (h : ∀ c a w, Sit X i pre suc c a w → ∀ Q (K : Act → World → Prop), (∀ v w', Ext w w' → (∀ x ∈ resOf X i, x.2.holds X.w0 (a.put (some d) v) w') → K (a.put (some d) v) w') → o.wp X.P a w K Q) : Does X i pre suc o := by
  intro c a w s Q K hK
  simp only [Bool.and_eq_true, decide_eq_true_eq] at hlt
  exact h c a w s Q K fun v w' e hr => hK _ _ (inv_put s e (s.inv.1.put (by simpa using hlt.2) v e) hc hr)

theorem res_one {f : Fact} (hr : resOf X i = [(i, f)]) {a : Act} {w : World} (h : f.holds X.w0 a w) : ∀ x ∈ resOf X i, x.2.holds X.w0 a w := by
  rw [hr]; intro x hx; simp at hx; subst hx; exact h
theorem slot_put {a : Act} {w : World} {d : Nat} {v : Value} {x : VP} (hN : a.tmps.size = X.N) (hlt : (decide (d < X.N) && !X.B.contains d) = true) (h : x.p v w) : (Fact.slot d x).holds X.w0 (a.put (some d) v) w :=
  ⟨v, put_eq v (by simp only [Bool.and_eq_true, decide_eq_true_eq] at hlt; omega), h⟩

/-- an operation whose run is known: it yields a value, the world stands -/
theorem does_run {o : Oper} {d : Nat} {x : VP} (hd : o.dst = some d) (hlt : (decide (d < X.N) && !X.B.contains d) = true) (hc : chk X i pre suc d = true) (hr : resOf X i = [(i, .slot d x)])
    (h : ∀ c a w, Sit X i pre suc c a w → ∃ v, (execOp a.eval o).run X.P w = .ok (.value v) w ∧ x.p v w) : Does X i pre suc o :=
  does_val hd hlt hc fun c a w s Q K hK => by
    obtain ⟨v, h1, h2⟩ := h c a w s
    unfold Oper.wp
    rw [h1]
    show K (a.put o.dst v) w
    rw [hd]
    exact hK v w (Ext.refl w) (res_one hr (slot_put s.inv.1.1 hlt h2))

theorem does_move {o : Oper} {d : Nat} {x : VP} (y : Operand) (hop : o.op = .move y ∨ o.op = .assign y) (hd : o.dst = some d) (hlt : (decide (d < X.N) && !X.B.contains d) = true) (hc : chk X i pre suc d = true)
    (hr : resOf X i = [(i, .slot d x)]) (h : Ar X i pre suc y x.p) : Does X i pre suc o :=
  does_run hd hlt hc hr fun c a w s => ⟨a.eval y, by unfold execOp; rcases hop with e | e <;> rw [e] <;> rfl, h c a w s⟩

theorem does_pick {o : Oper} {d : Nat} {x : VP} (b : Bool) (y u v : Operand) (hop : o.op = .pick y u v) (hd : o.dst = some d) (hlt : (decide (d < X.N) && !X.B.contains d) = true) (hc : chk X i pre suc d = true)
    (hr : resOf X i = [(i, .slot d x)]) (hb : Ar X i pre suc y (VP.bool b).p) (h : Ar X i pre suc (if b then u else v) x.p) : Does X i pre suc o :=
  does_run hd hlt hc hr fun c a w s => ⟨a.eval (if b then u else v), by
    have := hb c a w s
    unfold execOp; rw [hop]
    have hb' : a.eval y = .bool b := this
    cases b <;> simp [hb', asBool], h c a w s⟩

theorem does_not {o : Oper} {d : Nat} (b : Bool) (T : TypeId) (y : Operand) (hop : o.op = .unOp .not T y) (hd : o.dst = some d) (hlt : (decide (d < X.N) && !X.B.contains d) = true) (hc : chk X i pre suc d = true)
    (hr : resOf X i = [(i, .slot d (VP.bool (!b)))]) (hb : Ar X i pre suc y (VP.bool b).p) : Does X i pre suc o :=
  does_run hd hlt hc hr fun c a w s => ⟨.bool (!b), by
    have hb' : a.eval y = .bool b := hb c a w s
    unfold execOp; rw [hop]
    simp [hb', Op.unary], rfl⟩

theorem does_extract {o : Oper} {d : Nat} {ps : List VP} {x : VP} (y : Operand) (n : Nat) (hop : o.op = .extract y n) (hd : o.dst = some d) (hlt : (decide (d < X.N) && !X.B.contains d) = true) (hc : chk X i pre suc d = true)
    (hr : resOf X i = [(i, .slot d x)]) (hb : Ar X i pre suc y (VP.tup ps).p) (hn : ps[n]? = some x) : Does X i pre suc o :=
  does_run hd hlt hc hr fun c a w s => by
    obtain ⟨cs, h1, h2⟩ := hb c a w s
    obtain ⟨v, hv, hp⟩ := h2.get hn
    exact ⟨v, by unfold execOp; rw [hop]; simp [h1, Instr.extract, hv], hp⟩

/-! ### calls -/
/-- WHAT A FUNCTION DOES: arguments of which that is said, a result of which this is said, and nothing that there was has turned -/
def Spec (P : Program) (f : FuncId) (qs : List (Value → World → Prop)) (x : VP) : Prop :=
  ∀ (vs : Array Value) (w : World), vs.size = qs.length → (∀ (j : Nat) (q : Value → World → Prop), qs[j]? = some q → ∃ v, vs[j]? = some v ∧ q v w) → Calls P f vs w fun e w' => ∃ v, e = .returned v ∧ x.p v w' ∧ Ext w w'

def Ars (X : Cx) (i : Nat) (pre suc : List Nat) : List Operand → List (Value → World → Prop) → Prop
  | [], [] => True
  | o :: os, q :: qs => Ar X i pre suc o q ∧ Ars X i pre suc os qs
  | _, _ => False
theorem Ars.len : ∀ {os : List Operand} {qs : List (Value → World → Prop)}, Ars X i pre suc os qs → os.length = qs.length
  | [], [], _ => rfl
  | _ :: _, _ :: _, h => by simp [Ars.len h.2]
  | [], _ :: _, h => h.elim
  | _ :: _, [], h => h.elim
theorem Ars.get : ∀ {os : List Operand} {qs : List (Value → World → Prop)}, Ars X i pre suc os qs → ∀ {j : Nat} {q : Value → World → Prop}, qs[j]? = some q → ∃ o, os[j]? = some o ∧ Ar X i pre suc o q
  | [], [], _, j, _, h => by simp at h
  | o :: _, _ :: _, h, 0, q, hq => by simp at hq; subst hq; exact ⟨o, rfl, h.1⟩
  | _ :: _, _ :: _, h, j + 1, q, hq => by simpa using Ars.get h.2 (by simpa using hq)
  | [], _ :: _, h, _, _, _ => h.elim
  | _ :: _, [], h, _, _, _ => h.elim

/-- function f has a text -/
def hasBody (P : Program) (f : FuncId) : Bool := match P.funcs[f]? with | some fn => fn.body.isSome && !(fn.name == "runtime.NumGoroutine") | none => false

theorem run_callv {P : Program} {f : FuncId} {o : Oper} {ags : Array Operand} {ts : Array TypeId} {a : Act} {w : World} (hop : o.op = .call { callee := .value (.func f), args := ags, argTypes := ts }) (hb : hasBody P f = true) :
    (execOp a.eval o).run P w = .ok (.enter f (ags.map a.eval)) w := by
  unfold hasBody at hb
  unfold execOp; rw [hop]
  cases hf : P.funcs[f]? with
  | none => rw [hf] at hb; cases hb
  | some fn =>
    rw [hf] at hb
    simp only [Bool.and_eq_true, Bool.not_eq_true', beq_eq_false_iff_ne, ne_eq, Option.isSome_iff_ne_none] at hb
    simp [resolve, Act.eval, Deferred.ofValue, invoke, callFunc, hf, hb.1, hb.2]

theorem does_call {o : Oper} {d : Nat} {f : FuncId} {ags : Array Operand} {ts : Array TypeId} {qs : List (Value → World → Prop)} {x : VP} (hs : Spec X.P f qs x)
    (hop : o.op = .call { callee := .value (.func f), args := ags, argTypes := ts }) (hbd : hasBody X.P f = true) (hd : o.dst = some d) (hlt : (decide (d < X.N) && !X.B.contains d) = true) (hc : chk X i pre suc d = true)
    (hr : resOf X i = [(i, .slot d x)]) (h : Ars X i pre suc ags.toList qs) : Does X i pre suc o :=
  does_val hd hlt hc fun c a w s Q K hK => by
    unfold Oper.wp
    rw [run_callv hop hbd]
    show Calls X.P f (ags.map a.eval) w _
    refine (hs (ags.map a.eval) w (by rw [Array.size_map, ← h.len]; simp) fun j q hq => ?_).mono ?_
    · obtain ⟨y, hy, har⟩ := h.get hq
      refine ⟨a.eval y, ?_, har c a w s⟩
      rw [Array.getElem?_map]
      have : ags[j]? = some y := by simpa using hy
      rw [this]; rfl
    · rintro e w' ⟨v, rfl, hp, he⟩
      show K (a.put o.dst v) w'
      rw [hd]
      exact hK v w' he (res_one hr (slot_put s.inv.1.1 hlt hp))

/-! ### boxes -/
theorem box_put {a : Act} {w : World} {d : Nat} {T : TypeId} {cs : List Value} {ps : List VP} (hlt : d < a.tmps.size) (h : All2 ps cs w) :
    (Fact.box d T ps).holds X.w0 (a.put (some d) (ptr w.heap.size)) (w.alloc (.cells cs.toArray T)) :=
  ⟨w.heap.size, cs, put_eq _ hlt, Row.new w T cs, h.st (.of_ext (Ext.new w _))⟩

theorem does_new {o : Oper} {d : Nat} {T : TypeId} {ps : List VP} (hd : o.dst = some d) (hlt : decide (d < X.N) = true) (hc : chk X i pre suc d = true) (hr : resOf X i = [(i, .box d T ps)])
    (h : ∀ c a w, Sit X i pre suc c a w → ∃ cs : List Value, (execOp a.eval o).run X.P w = .ok (.value (ptr w.heap.size)) (w.alloc (.cells cs.toArray T)) ∧ All2 ps cs w) : Does X i pre suc o := by
  intro c a w s Q K hK
  obtain ⟨cs, h1, h2⟩ := h c a w s
  have hlt' := of_decide_eq_true hlt
  unfold Oper.wp
  rw [h1]
  show K (a.put o.dst (ptr w.heap.size)) _
  rw [hd]
  exact hK _ _ (inv_put s (Ext.new w _) (s.inv.1.new hlt' _) hc (res_one hr (box_put (by rw [s.inv.1.1]; exact hlt') h2)))

theorem does_box {o : Oper} {d : Nat} {T : TypeId} {ps : List VP} (y : Operand) (hop : o.op = .box T y) (hd : o.dst = some d) (hlt : decide (d < X.N) = true) (hc : chk X i pre suc d = true) (hr : resOf X i = [(i, .box d T ps)])
    (h : Ar X i pre suc y (VP.agg ps).p) : Does X i pre suc o :=
  does_new hd hlt hc hr fun c a w s => by
    obtain ⟨cs, h1, h2⟩ := h c a w s
    refine ⟨cs, ?_, h2⟩
    unfold execOp; rw [hop]
    simp [Instr.box, newVar, newRow, h1, Value.cells, ptr]

/-- the cells of a type's zero -/
def zeroOf (P : Program) (T : TypeId) (zs : List Value) : Prop := (P.info? T).bind (fun i => i.zero.map (fun v => v.cells.toList)) = some zs
theorem does_alloc {o : Oper} {d : Nat} {T : TypeId} {zs : List Value} {ps : List VP} (hz : zeroOf X.P T zs) (hop : o.op = .alloc T) (hd : o.dst = some d) (hlt : decide (d < X.N) = true) (hc : chk X i pre suc d = true) (hr : resOf X i = [(i, .box d T ps)])
    (h : ∀ w, All2 ps zs w) : Does X i pre suc o :=
  does_new hd hlt hc hr fun c a w s => by
    refine ⟨zs, ?_, h w⟩
    unfold zeroOf at hz
    obtain ⟨ti, h1, h2⟩ := Option.bind_eq_some_iff.1 hz
    obtain ⟨v, h3, h4⟩ := Option.map_eq_some_iff.1 h2
    unfold execOp; rw [hop]
    simp [Instr.alloc, zeroValue, typeInfo, h1, h3, newVar, newRow, ptr, ← h4]

/-- field f of a struct type begins at cell off -/
def fieldAt (P : Program) (T : TypeId) (f off : Nat) : Bool :=
  match P.underlying T with
  | some (.struct fs) => match fs[f]? with
    | some fd => fd.offset == off && (match P.info? fd.type with | some i => !(i.size == 0) | none => false)
    | none => false
  | _ => false
theorem run_fieldAt {P : Program} {T : TypeId} {f off o g : Nat} (h : fieldAt P T f off = true) (w : World) : (Instr.fieldAt T (.pointer (some ⟨g, o, none⟩)) f).run P w = .ok (.pointer (some ⟨g, o + off, none⟩)) w := by
  unfold fieldAt at h
  split at h
  · rename_i fs hu
    split at h
    · rename_i fd hf
      simp only [Bool.and_eq_true, beq_iff_eq] at h
      obtain ⟨h1, h2⟩ := h
      split at h2
      · rename_i ti hi
        simp only [Bool.not_eq_true', beq_eq_false_iff_ne, ne_eq] at h2
        simp [Instr.fieldAt, run_underlying hu, hf, Instr.sureAddr, fieldPlace, sizeOf, typeInfo, hi, h2, h1, add_plain]
      · cases h2
    · cases h
  · cases h

/-- pointer operand: into slot k's box, at off -/
def Pt (X : Cx) (i : Nat) (pre suc : List Nat) (x : Operand) (k off : Nat) : Prop := ∀ c a w, Sit X i pre suc c a w → ∃ g, a.tmps[k]? = some (ptr g) ∧ a.eval x = .pointer (some ⟨g, off, none⟩)
theorem pt_fp {d k off : Nat} (h : Av X i pre suc (.fp d k off)) : Pt X i pre suc (.tmp d) k off := fun c a w s => by
  obtain ⟨g, h1, h2⟩ := h c a w s
  exact ⟨g, h1, eval_tmp h2⟩
theorem pt_box {k : Nat} {T : TypeId} {ps : List VP} (h : Av X i pre suc (.box k T ps)) : Pt X i pre suc (.tmp k) k 0 := fun c a w s => by
  obtain ⟨g, cs, h1, _⟩ := h c a w s
  exact ⟨g, h1, eval_tmp h1⟩

theorem does_field {o : Oper} {d k off off' : Nat} (T : TypeId) (y : Operand) (f fo : Nat) (hf : fieldAt X.P T f fo = true) (hop : o.op = .fieldAddr T y f) (hd : o.dst = some d) (hlt : (decide (d < X.N) && !X.B.contains d) = true) (hk : (d == k) = false) (hc : chk X i pre suc d = true)
    (hr : resOf X i = [(i, .fp d k off')]) (ho : off' = off + fo) (h : Pt X i pre suc y k off) : Does X i pre suc o :=
  does_val hd hlt hc fun c a w s Q K hK => by
    obtain ⟨g, h1, h2⟩ := h c a w s
    unfold Oper.wp execOp
    rw [hop]
    simp only [h2, Sem.run_bind, run_fieldAt hf, Result.andThen_ok, Sem.run_pure]
    show K (a.put o.dst _) w
    rw [hd, ← ho]
    refine hK _ w (Ext.refl w) (res_one hr ⟨g, ?_, put_eq _ ?_⟩)
    · rw [put_ne _ (by simpa using hk)]; exact h1
    · simp only [Bool.and_eq_true, decide_eq_true_eq] at hlt; rw [s.inv.1.1]; exact hlt.1

/-- T is a struct (array) of n cells -/
def aggTy (P : Program) (T : TypeId) (n : Nat) : Bool :=
  (match P.underlying T with | some (.struct _) => true | some (.array _ _) => true | _ => false) && (match P.info? T with | some i => i.size == n | none => false)
/-- T is a type of one cell -/
def oneTy (P : Program) (T : TypeId) : Bool :=
  (match P.underlying T with | some (.struct _) => false | some (.array _ _) => false | some _ => true | _ => false) && (match P.info? T with | some i => i.size == 1 | none => false)
theorem run_isAgg {P : Program} {T : TypeId} {n : Nat} (h : aggTy P T n = true) (w : World) : (isAgg T).run P w = .ok true w := by
  unfold aggTy at h
  simp only [Bool.and_eq_true] at h
  have h := h.1
  split at h
  · rename_i hu; simp [isAgg, run_underlying hu]
  · rename_i hu; simp [isAgg, run_underlying hu]
  · cases h
theorem run_isOne {P : Program} {T : TypeId} (h : oneTy P T = true) (w : World) : (isAgg T).run P w = .ok false w := by
  unfold oneTy at h
  simp only [Bool.and_eq_true] at h
  have h := h.1
  split at h
  · cases h
  · cases h
  · rename_i d hn1 hn2 hu
    simp only [isAgg, Sem.run_bind, run_underlying hu, Result.andThen_ok]
    cases d <;> simp_all
  · cases h
theorem run_sizeAgg {P : Program} {T : TypeId} {n : Nat} (h : aggTy P T n = true) (w : World) : (sizeOf T).run P w = .ok n w := by
  unfold aggTy at h
  simp only [Bool.and_eq_true] at h
  have h := h.2
  split at h
  · rename_i i hi; simp only [beq_iff_eq] at h; simp [sizeOf, typeInfo, hi, h]
  · cases h
theorem run_sizeOne {P : Program} {T : TypeId} (h : oneTy P T = true) (w : World) : (sizeOf T).run P w = .ok 1 w := by
  unfold oneTy at h
  simp only [Bool.and_eq_true] at h
  have h := h.2
  split at h
  · rename_i i hi; simp only [beq_iff_eq] at h; simp [sizeOf, typeInfo, hi, h]
  · cases h
theorem run_loadRow {P : Program} {T T' : TypeId} {n g off : Nat} (h : aggTy P T n = true) {w : World} {cs : List Value} (hr : Row w g T' cs) (hl : off + n ≤ cs.length) :
    (loadVar T ⟨g, off, none⟩).run P w = .ok (.agg ((cs.drop off).take n).toArray) w := by
  have hlen : ((cs.drop off).take n).length = n := by simp; omega
  have := run_loadCells_list (P := P) w ⟨g, off, none⟩ ((cs.drop off).take n) (fun j v hv => by
    rw [add_plain]
    refine hr.cell ?_
    rw [List.getElem?_take] at hv
    split at hv
    · rw [List.getElem?_drop] at hv; exact hv
    · cases hv)
  rw [hlen] at this
  simp [loadVar, run_isAgg h, run_sizeAgg h, this]
theorem run_loadCell {P : Program} {T T' : TypeId} {g off : Nat} (h : oneTy P T = true) {w : World} {cs : List Value} (hr : Row w g T' cs) {v : Value} (hv : cs[off]? = some v) :
    (loadVar T ⟨g, off, none⟩).run P w = .ok v w := by
  simp [loadVar, run_isOne h, hr.cell hv]

theorem does_loadAgg {o : Oper} {d k off : Nat} {T T' : TypeId} {n : Nat} {ps : List VP} (y : Operand) (ht : aggTy X.P T n = true) (hop : o.op = .load T y) (hd : o.dst = some d) (hlt : (decide (d < X.N) && !X.B.contains d) = true) (hc : chk X i pre suc d = true)
    (hr : resOf X i = [(i, .slot d (VP.agg ((ps.drop off).take n)))]) (hl : decide (off + n ≤ ps.length) = true) (hp : Pt X i pre suc y k off) (h : Av X i pre suc (.box k T' ps)) : Does X i pre suc o :=
  does_run hd hlt hc hr fun c a w s => by
    obtain ⟨g, h1, h2⟩ := hp c a w s
    obtain ⟨g', cs, h3, h4, h5⟩ := h c a w s
    rw [h1] at h3
    have : g = g' := by injection h3 with h3; unfold ptr at h3; injection h3 with h3; injection h3 with h3; injection h3
    subst this
    have hlen := h5.len
    have hl' := of_decide_eq_true hl
    refine ⟨_, ?_, ⟨(cs.drop off).take n, rfl, (h5.drop off).take n⟩⟩
    have hrun := run_loadRow (off := off) ht h4 (by omega)
    unfold execOp; rw [hop]
    simp [h2, Instr.loadAt, Instr.sureAddr, hrun]

theorem does_loadOne {o : Oper} {d k off : Nat} {T T' : TypeId} {ps : List VP} {x : VP} (y : Operand) (ht : oneTy X.P T = true) (hop : o.op = .load T y) (hd : o.dst = some d) (hlt : (decide (d < X.N) && !X.B.contains d) = true) (hc : chk X i pre suc d = true)
    (hr : resOf X i = [(i, .slot d x)]) (hx : ps[off]? = some x) (hp : Pt X i pre suc y k off) (h : Av X i pre suc (.box k T' ps)) : Does X i pre suc o :=
  does_run hd hlt hc hr fun c a w s => by
    obtain ⟨g, h1, h2⟩ := hp c a w s
    obtain ⟨g', cs, h3, h4, h5⟩ := h c a w s
    rw [h1] at h3
    have : g = g' := by injection h3 with h3; unfold ptr at h3; injection h3 with h3; injection h3 with h3; injection h3
    subst this
    obtain ⟨v, hv, hpv⟩ := h5.get hx
    refine ⟨v, ?_, hpv⟩
    unfold execOp; rw [hop]
    simp [h2, Instr.loadAt, Instr.sureAddr, run_loadCell ht h4 hv]

/-! ### stores -/
theorem run_storeCell {P : Program} {T T' : TypeId} {g off : Nat} (n : Nat) {w : World} {cs : List Value} (hr : Row w g T' cs) {v : Value} (hs : (sizeOf T).run P w = .ok n w) (hn : v.cells.size = n) (hl : off + n ≤ cs.length) (h1 : ∀ u ∈ v.cells.toList, u.oneCell' = true) :
    (storeVar T ⟨g, off, none⟩ v).run P w = .ok () (w.setRow g (cs.take off ++ v.cells.toList ++ cs.drop (off + n)).toArray) := by
  have h2 := run_storeCells_at (P := P) g off T' v.cells.toList 0 cs.toArray w hr (by simp; omega) h1
  simp only [Nat.add_zero, Array.length_toList, hn] at h2
  simp [storeVar, hs, hn, h2]

theorem setRow_row {w : World} {g : Nat} {T : TypeId} {cs : List Value} (hr : Row w g T cs) (ds : List Value) : Row (w.setRow g ds.toArray) g T ds := setRow_heap w g cs.toArray ds.toArray T (0, 0) hr
theorem setRow_far {w : World} {g b : Nat} (ds : Array Value) (h : b ≠ g) : (w.setRow g ds).heap[b]? = w.heap[b]? := by
  unfold World.setRow
  simp [Array.getElem?_modify, Ne.symm h]
theorem setRow_size {w : World} {g : Nat} (ds : Array Value) : (w.setRow g ds).heap.size = w.heap.size := by
  unfold World.setRow; simp
theorem setRow_ext {w0 w : World} {g : Nat} (ds : Array Value) (h : Ext w0 w) (hg : w0.heap.size ≤ g) : Ext w0 (w.setRow g ds) :=
  ⟨h.os, h.tape, h.output, by rw [setRow_size]; exact h.size, fun k hk => by rw [setRow_far ds (by omega)]; exact h.block k hk⟩

/-- a store into a box of cells of type T leaves this fact's row -/
def Fact.offT : Fact → TypeId → Bool
  | .orow _ E _ _ _, T => !(E == T)
  | _, _ => true
def Fact.bx : Fact → Option Nat
  | .box j _ _ => some j
  | .own j _ _ => some j
  | _ => none
/-- a fact stands behind a store into slot k's box -/
theorem fact_store {f : Fact} {w0 : World} {a : Act} {w : World} {g : Nat} {T : TypeId} {cs ds : List Value} {B : List Nat} {k : Nat} (h : f.holds w0 a w) (hk : a.tmps[k]? = some (ptr g)) (hr : Row w g T cs) (h1 : ∀ u ∈ cs, NotInt u) (h2 : ∀ u ∈ ds, NotInt u) (hlen : ds.length = cs.length) (hg0 : w0.heap.size ≤ g)
    (hoff : f.off k = true) (hoT : f.offT T = true) (hB : B.contains k = true) (hbx : ∀ j, f.bx = some j → B.contains j = true) (hsep : ∀ k ∈ B, ∀ k' ∈ B, k ≠ k' → ∀ g, a.tmps[k]? = some (ptr g) → a.tmps[k']? ≠ some (ptr g)) :
    f.holds w0 a (w.setRow g ds.toArray) := by
  have ev : Evol w (w.setRow g ds.toArray) := ⟨by rw [setRow_size]; exact Nat.le_refl _, fun b hb => by
    by_cases e : b = g
    · subst e
      exact .inr ⟨⟨_, T, hr, by simpa using h1⟩, ⟨_, T, setRow_row hr ds, by simpa using h2⟩⟩
    · exact .inl (setRow_far _ e)⟩
  cases f with
  | slot j x => obtain ⟨u, e1, e2⟩ := h; exact ⟨u, e1, x.st _ _ _ e2 ev⟩
  | fp c j off => exact h
  | box j T' ps =>
    obtain ⟨g', cs', e1, e2, e3⟩ := h
    have hne : j ≠ k := by simpa [Fact.off] using hoff
    have hg : g' ≠ g := fun e => hsep j (by simpa using hbx j rfl) k (by simpa using hB) hne g' e1 (by rw [e]; exact hk)
    exact ⟨g', cs', e1, (setRow_far _ hg).trans e2, e3.st ev⟩
  | arr j T' n ps => simp [Fact.off] at hoff
  | own j T' n =>
    obtain ⟨g', cs', e1, e2, e3, e4⟩ := h
    by_cases hne : j = k
    · subst hne
      rw [hk] at e1
      have : g = g' := by injection e1 with e1; unfold ptr at e1; injection e1 with e1; injection e1 with e1; injection e1
      subst this
      have hcc : cs.toArray = cs'.toArray := by
        unfold Row at hr e2
        rw [hr] at e2
        injection e2 with e2
        injection e2
      have : cs = cs' := by simpa using hcc
      subst this
      have hT : T = T' := by
        unfold Row at hr e2
        rw [hr] at e2
        injection e2 with e2
        injection e2
      subst hT
      exact ⟨g, ds, hk, setRow_row hr ds, by rw [hlen]; exact e3, h2⟩
    · have hg : g' ≠ g := fun e => hsep j (by simpa using hbx j rfl) k (by simpa using hB) hne g' e1 (by rw [e]; exact hk)
      exact ⟨g', cs', e1, (setRow_far _ hg).trans e2, e3, e4⟩
  | rows j n ps =>
    obtain ⟨g', off, c, e1, e2, e3, e4, e5⟩ := h
    exact ⟨g', off, c, e1, e2, e3, e4, e5.evol ev (setRow_far _ (by omega))⟩
  | rp c j off => exact h
  | orow j E sz n ps =>
    obtain ⟨u, xs, e1, e2, e3⟩ := h
    have hne : E ≠ T := by simpa [Fact.offT] using hoT
    refine ⟨u, xs, e1, ⟨e2.1, ?_⟩, e3.st ev⟩
    rcases e2.2 with hn | ⟨g', cap, cur, hu, hb, hg, rest⟩
    · exact .inl hn
    · refine .inr ⟨g', cap, cur, hu, hb, ?_, rest⟩
      have hgg : g' ≠ g := fun e => by
        subst e
        unfold Row at hr
        rw [hr] at hg
        injection hg with hg
        injection hg with _ hg _
        exact hne hg.symm
      rw [setRow_far _ hgg]; exact hg

def boxIn (B : List Nat) (f : Fact) : Bool := match f.bx with | some j => B.contains j | none => true
theorem boxIn_spec {B : List Nat} {f : Fact} (h : boxIn B f = true) : ∀ j, f.bx = some j → B.contains j = true := by
  intro j e; unfold boxIn at h; rw [e] at h; exact h
def okS (X : Cx) (k : Nat) (T : TypeId) (f : Fact) : Bool := f.off k && f.offT T && boxIn X.B f
def chkS (X : Cx) (i : Nat) (pre suc : List Nat) (k : Nat) (T : TypeId) : Bool :=
  X.fs.all (okS X k T) && X.os.all (fun x => x.1 == i || pre.contains x.1 || okS X k T x.2) && X.rs.all (fun x => x.1 == i || okS X k T x.2 || suc.contains x.1) && X.ms.all (fun x => x.1 == i || x.2.1 == i || pre.contains x.2.1 || okS X k T x.2.2 || suc.contains x.1) && X.B.contains k

theorem does_storeG {o : Oper} {k off : Nat} {T T' : TypeId} {qs rr : List VP} (n m : Nat) (y z : Operand) (hsz : ∀ w, (sizeOf T).run X.P w = .ok n w) (hop : o.op = .store T y z) (hd : o.dst = none) (hc : chkS X i pre suc k T' = true)
    (hr : resOf X i = [(i, .box k T' rr)]) (hl : off + n ≤ m) (hp : Pt X i pre suc y k off)
    (h : ∀ c a w, Sit X i pre suc c a w → ∃ g cs, a.tmps[k]? = some (ptr g) ∧ Row w g T' cs ∧ cs.length = m ∧ (∀ u ∈ cs, NotInt u) ∧ ∀ w' vs, Evol w w' → All2 qs vs w' → All2 rr (cs.take off ++ vs ++ cs.drop (off + n)) w')
    (hqn : qs.length = n) (hn2 : qs.all (·.ni) = true) (hn3 : qs.all (·.one) = true)
    (hz : Ar X i pre suc z (fun v w => v.cells.size = n ∧ All2 qs v.cells.toList w)) : Does X i pre suc o := by
  intro c a w s Q K hK
  obtain ⟨g, h1, h2⟩ := hp c a w s
  obtain ⟨g', cs, h3, h4, hlen, hnc, h5⟩ := h c a w s
  rw [h1] at h3
  have : g = g' := by injection h3 with h3; unfold ptr at h3; injection h3 with h3; injection h3 with h3; injection h3
  subst this
  obtain ⟨hvn, hv⟩ := hz c a w s
  have hrun := run_storeCell (P := X.P) (T := T) (off := off) n h4 (hsz w) hvn (by omega) (hv.ones hn3)
  unfold Oper.wp execOp
  rw [hop]
  simp only [h2, Instr.storeAt, Instr.sureAddr, Sem.run_bind, Sem.run_pure, Result.andThen_ok, hrun]
  show K (a.put o.dst undef) _
  rw [hd]
  show K a _
  unfold chkS at hc
  simp only [Bool.and_eq_true, List.all_eq_true] at hc
  obtain ⟨⟨⟨⟨c1, c2⟩, c3⟩, c5⟩, c4⟩ := hc
  obtain ⟨b1, b2, b3, b4, b5⟩ := s.inv.1
  have hnew : ∀ u ∈ cs.take off ++ (a.eval z).cells.toList ++ cs.drop (off + n), NotInt u := by
    intro u hu
    rw [List.mem_append, List.mem_append] at hu
    rcases hu with (hu | hu) | hu
    · exact hnc u (List.mem_of_mem_take hu)
    · exact hv.noint hn2 u hu
    · exact hnc u (List.mem_of_mem_drop hu)
  have hvl := hv.len
  have hlenn : (cs.take off ++ (a.eval z).cells.toList ++ cs.drop (off + n)).length = cs.length := by
    simp only [List.length_append, List.length_take, List.length_drop, hvl]; omega
  have hg0 := (b4 k (by simpa using c4) g h1)
  have keep : ∀ f : Fact, f.holds X.w0 a w → okS X k T' f = true → f.holds X.w0 a (w.setRow g (cs.take off ++ (a.eval z).cells.toList ++ cs.drop (off + n)).toArray) := by
    intro f hf hfo
    unfold okS at hfo
    simp only [Bool.and_eq_true] at hfo
    exact fact_store hf h1 h4 hnc hnew hlenn hg0.1 hfo.1.1 hfo.1.2 c4 (boxIn_spec hfo.2) b5
  have ev : Evol w (w.setRow g (cs.take off ++ (a.eval z).cells.toList ++ cs.drop (off + n)).toArray) := ⟨by rw [setRow_size]; exact Nat.le_refl _, fun b hb => by
    by_cases e : b = g
    · subst e
      exact .inr ⟨⟨_, T', h4, by simpa using hnc⟩, ⟨_, T', setRow_row h4 _, by simpa using hnew⟩⟩
    · exact .inl (setRow_far _ e)⟩
  refine hK _ _ (inv_mk s ⟨b1, b2, setRow_ext _ b3 hg0.1, fun k hk g hg => by rw [setRow_size]; exact b4 k hk g hg, b5⟩ ?_ (fun f hf h => keep f h (c1 f hf)) (fun x hx hne hp h => ?_) (fun x hx hne hcx h => ?_) (fun x hx hne hne2 hp hcx h => ?_))
  · intro x hx
    rw [hr, List.mem_singleton] at hx
    subst hx
    exact ⟨g, _, h1, setRow_row h4 _, h5 _ _ ev (hv.st ev)⟩
  · have := c2 x hx
    simp only [Bool.or_eq_true, beq_iff_eq, hne, hp, Bool.false_eq_true, false_or] at this
    exact keep _ h this
  · have := c3 x hx
    simp only [Bool.or_eq_true, beq_iff_eq, hne, false_or] at this
    rcases this with hu | hs
    · exact keep _ h hu
    · exact (not_suc s hs hcx).elim
  · have := c5 x hx
    simp only [Bool.or_eq_true, beq_iff_eq, hne, hne2, hp, Bool.false_eq_true, false_or] at this
    rcases this with hu | hs
    · exact keep _ h hu
    · exact (not_suc s hs hcx).elim

theorem av_row {k off n : Nat} {T' : TypeId} {ps qs : List VP} (h : Av X i pre suc (.box k T' ps)) (hn1 : ps.all (·.ni) = true) : ∀ c a w, Sit X i pre suc c a w → ∃ g cs, a.tmps[k]? = some (ptr g) ∧ Row w g T' cs ∧ cs.length = ps.length ∧ (∀ u ∈ cs, NotInt u) ∧ ∀ w' vs, Evol w w' → All2 qs vs w' → All2 (ps.take off ++ qs ++ ps.drop (off + n)) (cs.take off ++ vs ++ cs.drop (off + n)) w' := fun c a w s => by
  obtain ⟨g, cs, h1, h2, h3⟩ := h c a w s
  exact ⟨g, cs, h1, h2, h3.len, h3.noint hn1, fun w' vs e hv => (((h3.take off).st e).app hv).app ((h3.drop _).st e)⟩
theorem av_own {k n : Nat} {T' : TypeId} {qs : List VP} (h : Av X i pre suc (.own k T' n)) : ∀ c a w, Sit X i pre suc c a w → ∃ g cs, a.tmps[k]? = some (ptr g) ∧ Row w g T' cs ∧ cs.length = n ∧ (∀ u ∈ cs, NotInt u) ∧ ∀ w' vs, Evol w w' → All2 qs vs w' → All2 qs (cs.take 0 ++ vs ++ cs.drop (0 + n)) w' := fun c a w s => by
  obtain ⟨g, cs, h1, h2, h3, h4⟩ := h c a w s
  refine ⟨g, cs, h1, h2, h3, h4, fun w' vs e hv => ?_⟩
  rw [List.take_zero, List.drop_of_length_le (by omega), List.nil_append, List.append_nil]; exact hv

theorem pt_own {k n : Nat} {T : TypeId} (h : Av X i pre suc (.own k T n)) : Pt X i pre suc (.tmp k) k 0 := fun c a w s => by
  obtain ⟨g, cs, h1, _⟩ := h c a w s
  exact ⟨g, h1, eval_tmp h1⟩
theorem does_allocOwn {o : Oper} {d : Nat} {T : TypeId} {zs : List Value} (ps : List VP) (hz : zeroOf X.P T zs) (hop : o.op = .alloc T) (hd : o.dst = some d) (hlt : decide (d < X.N) = true) (hc : chk X i pre suc d = true) (hr : resOf X i = [(i, .own d T zs.length)])
    (h : ∀ w, All2 ps zs w) (hn : ps.all (·.ni) = true) : Does X i pre suc o := by
  intro c a w s Q K hK
  have hlt' := of_decide_eq_true hlt
  have hrun : (execOp a.eval o).run X.P w = .ok (.value (ptr w.heap.size)) (w.alloc (.cells zs.toArray T)) := by
    unfold zeroOf at hz
    obtain ⟨ti, h1, h2⟩ := Option.bind_eq_some_iff.1 hz
    obtain ⟨v, h3, h4⟩ := Option.map_eq_some_iff.1 h2
    unfold execOp; rw [hop]
    simp [Instr.alloc, zeroValue, typeInfo, h1, h3, newVar, newRow, ptr, ← h4]
  unfold Oper.wp
  rw [hrun]
  show K (a.put o.dst (ptr w.heap.size)) _
  rw [hd]
  exact hK _ _ (inv_put s (Ext.new w _) (s.inv.1.new hlt' _) hc (res_one hr ⟨w.heap.size, zs, put_eq _ (by rw [s.inv.1.1]; exact hlt'), Row.new w T zs, rfl, (h w).noint hn⟩))
theorem does_storeNew {o : Oper} {k : Nat} {T T' : TypeId} {qs : List VP} (n : Nat) (y z : Operand) (ht : aggTy X.P T n = true) (hop : o.op = .store T y z) (hd : o.dst = none) (hc : chkS X i pre suc k T' = true)
    (hr : resOf X i = [(i, .box k T' qs)]) (hl : (decide (qs.length = n) && qs.all (·.ni) && qs.all (·.one)) = true) (hp : Pt X i pre suc y k 0) (h : Av X i pre suc (.own k T' n))
    (hz : Ar X i pre suc z (VP.agg qs).p) : Does X i pre suc o := by
  simp only [Bool.and_eq_true, decide_eq_true_eq] at hl
  obtain ⟨⟨l2, l4⟩, l5⟩ := hl
  refine does_storeG (qs := qs) n n y z (run_sizeAgg ht) hop hd hc hr (by omega) hp (av_own h) l2 l4 l5 fun c a w s => ?_
  obtain ⟨cs, h1, h2⟩ := hz c a w s
  rw [h1]
  exact ⟨by simp [Value.cells, h2.len, l2], by simpa [Value.cells] using h2⟩

theorem does_storeAgg {o : Oper} {k off : Nat} {T T' : TypeId} {ps qs : List VP} (n : Nat) (y z : Operand) (ht : aggTy X.P T n = true) (hop : o.op = .store T y z) (hd : o.dst = none) (hc : chkS X i pre suc k T' = true)
    (hr : resOf X i = [(i, .box k T' (ps.take off ++ qs ++ ps.drop (off + n)))]) (hl : (decide (off + n ≤ ps.length) && decide (qs.length = n) && ps.all (·.ni) && qs.all (·.ni) && qs.all (·.one)) = true) (hp : Pt X i pre suc y k off) (h : Av X i pre suc (.box k T' ps))
    (hz : Ar X i pre suc z (VP.agg qs).p) : Does X i pre suc o := by
  simp only [Bool.and_eq_true, decide_eq_true_eq] at hl
  obtain ⟨⟨⟨⟨l1, l2⟩, l3⟩, l4⟩, l5⟩ := hl
  refine does_storeG (qs := qs) n ps.length y z (run_sizeAgg ht) hop hd hc hr l1 hp (av_row h l3) l2 l4 l5 fun c a w s => ?_
  obtain ⟨cs, h1, h2⟩ := hz c a w s
  rw [h1]
  exact ⟨by simp [Value.cells, h2.len, l2], by simpa [Value.cells] using h2⟩
theorem does_storeOne {o : Oper} {k off : Nat} {T T' : TypeId} {ps : List VP} {q : VP} (y z : Operand) (ht : oneTy X.P T = true) (hop : o.op = .store T y z) (hd : o.dst = none) (hc : chkS X i pre suc k T' = true)
    (hr : resOf X i = [(i, .box k T' (ps.take off ++ [q] ++ ps.drop (off + 1)))]) (hl : (decide (off + 1 ≤ ps.length) && ps.all (·.ni) && q.ni && q.one) = true) (hp : Pt X i pre suc y k off) (h : Av X i pre suc (.box k T' ps))
    (hz : Ar X i pre suc z q.p) : Does X i pre suc o := by
  simp only [Bool.and_eq_true, decide_eq_true_eq] at hl
  obtain ⟨⟨⟨l1, l3⟩, l4⟩, l5⟩ := hl
  refine does_storeG (qs := [q]) 1 ps.length y z (run_sizeOne ht) hop hd hc hr l1 hp (av_row h l3) rfl (by simp [l4]) (by simp [l5]) fun c a w s => ?_
  have h1 := hz c a w s
  have h2 := q.hone l5 _ _ h1
  have h3 : (a.eval z).cells = #[a.eval z] := by
    generalize a.eval z = v at *
    cases v <;> first | rfl | (simp [Value.oneCell'] at h2)
  show (a.eval z).cells.size = 1 ∧ All2 [q] (a.eval z).cells.toList w
  rw [h3]
  exact ⟨rfl, h1, trivial⟩

/-! ### len; comparisons -/
theorem does_len {o : Oper} {d : Nat} {k : IntKind} {l : List Nat} (T : TypeId) (y : Operand) (ht : (match X.P.underlying T with | some (.slice _) => true | _ => false) = true) (hop : o.op = .call { callee := .builtin .len, args := #[y], argTypes := #[T] }) (hd : o.dst = some d) (hlt : (decide (d < X.N) && !X.B.contains d) = true) (hc : chk X i pre suc d = true)
    (hr : resOf X i = [(i, .slot d (VP.int .i64 (l.length : Nat)))]) (h : Ar X i pre suc y (VP.nums k l).p) : Does X i pre suc o :=
  does_run hd hlt hc hr fun c a w s => by
    obtain ⟨ad, cp, h1, _⟩ := h c a w s
    split at ht
    · rename_i e hu
      refine ⟨.int .i64 (l.length : Nat), ?_, rfl⟩
      unfold execOp; rw [hop]
      simp [resolve, invoke, builtin, Builtin.len_, run_underlying hu, h1, goInt]
    · cases ht
theorem does_cmp {o : Oper} {d : Nat} {m n : Int} {b : Bool} (op : BinOp) (T T' : TypeId) (y z : Operand) (hop : o.op = .binOp op T y z T') (hd : o.dst = some d) (hlt : (decide (d < X.N) && !X.B.contains d) = true) (hc : chk X i pre suc d = true)
    (hr : resOf X i = [(i, .slot d (VP.bool b))])
    (hb : (match op with | .eql => some (m == n) | .neq => some (m != n) | .lss => some (decide (m < n)) | .leq => some (decide (m ≤ n)) | .gtr => some (decide (m > n)) | .geq => some (decide (m ≥ n)) | _ => none) = some b)
    (k : IntKind) (h1 : Ar X i pre suc y (VP.int k m).p) (h2 : Ar X i pre suc z (VP.int k n).p) : Does X i pre suc o :=
  does_run hd hlt hc hr fun c a w s => by
    have e1 : a.eval y = .int k m := h1 c a w s
    have e2 : a.eval z = .int k n := h2 c a w s
    refine ⟨.bool b, ?_, rfl⟩
    unfold execOp; rw [hop]
    cases op <;> simp at hb <;> (subst hb; simp [e1, e2, eqGuard, binOp, Op.intCmp])
theorem does_eqStr {o : Oper} {d : Nat} {u v : ByteArray} {b : Bool} (op : BinOp) (T T' : TypeId) (y z : Operand) (hop : o.op = .binOp op T y z T') (hd : o.dst = some d) (hlt : (decide (d < X.N) && !X.B.contains d) = true) (hc : chk X i pre suc d = true)
    (hr : resOf X i = [(i, .slot d (VP.bool b))])
    (hb : (match op with | .eql => some (u.toList == v.toList) | .neq => some (!(u.toList == v.toList)) | _ => none) = some b)
    (h1 : Ar X i pre suc y (VP.str u).p) (h2 : Ar X i pre suc z (VP.str v).p) : Does X i pre suc o :=
  does_run hd hlt hc hr fun c a w s => by
    have e1 : a.eval y = .string u := h1 c a w s
    have e2 : a.eval z = .string v := h2 c a w s
    refine ⟨.bool b, ?_, rfl⟩
    unfold execOp; rw [hop]
    cases op <;> first
      | (cases hb; done)
      | (have hb' := Option.some.inj hb; subst hb'; simp [e1, e2, eqGuard, binOp, Op.stringOp])
end
end Go.Proofs.Ytogodjiemgilaaa

/- The logic over slots and boxes: structs and slices that are built. -/
namespace Go.Proofs.Ytogodjiemgilaaa
open Go.RowKit

theorem fold_set (off : Nat) : ∀ (vs : List Value) (k : Nat) (cs : Array Value), off + k + vs.length ≤ cs.size →
    (vs.zipIdx k).foldl (fun (cs : Array Value) (x : Value × Nat) => cs.setIfInBounds (off + x.2) x.1) cs = (cs.toList.take (off + k) ++ vs ++ cs.toList.drop (off + k + vs.length)).toArray
  | [], k, cs, _ => by simp
  | v :: vs, k, cs, h => by
    simp only [List.length_cons] at h
    rw [List.zipIdx_cons, List.foldl_cons, fold_set off vs (k + 1) _ (by simp; omega)]
    simp only [Array.toList_setIfInBounds, List.length_cons]
    congr 1
    have h1 : (cs.toList.set (off + k) v).take (off + (k + 1)) = cs.toList.take (off + k) ++ [v] := by
      rw [show off + (k + 1) = off + k + 1 by omega, List.take_succ_eq_append_getElem (by simp; omega)]
      simp [List.take_set_of_le]
    have h2 : (cs.toList.set (off + k) v).drop (off + (k + 1) + vs.length) = cs.toList.drop (off + k + (vs.length + 1)) := by
      rw [List.drop_set_of_lt (by omega)]
      congr 1; omega
    rw [h1, h2]
    simp
theorem fold_set' (off : Nat) (vs : Array Value) (cs : Array Value) (h : off + vs.size ≤ cs.size) :
    vs.zipIdx.foldl (fun (cs : Array Value) (x : Value × Nat) => cs.setIfInBounds (off + x.2) x.1) cs = (cs.toList.take off ++ vs.toList ++ cs.toList.drop (off + vs.size)).toArray := by
  have := fold_set off vs.toList 0 cs (by simpa using h)
  rw [← Array.foldl_toList]
  simpa using this

def spl (ps : List VP) (off : Nat) (qs : List VP) : List VP := ps.take off ++ qs ++ ps.drop (off + qs.length)
/-- a value of n cells -/
def cellsAre (qs : List VP) (v : Value) (w : World) : Prop := v.cells.size = qs.length ∧ All2 qs v.cells.toList w

inductive Parts (X : Cx) (i : Nat) (pre suc : List Nat) (place : Nat → Option (Nat × Nat)) : List (Nat × Operand) → List VP → List VP → Prop where
  | nil (ps : List VP) : Parts X i pre suc place [] ps ps
  | cons {f : Nat} {x : Operand} {rest : List (Nat × Operand)} {ps ps' : List VP} (off : Nat) (qs : List VP) (hp : place f = some (off, qs.length)) (hl : decide (off + qs.length ≤ ps.length) = true) (hx : Ar X i pre suc x (cellsAre qs))
      (h : Parts X i pre suc place rest (spl ps off qs) ps') : Parts X i pre suc place ((f, x) :: rest) ps ps'

section
variable {X : Cx} {i : Nat} {pre suc : List Nat}
theorem parts_fill {place : Nat → Option (Nat × Nat)} {c : Nat → Bool} {a : Act} {w : World} (s : Sit X i pre suc c a w) : ∀ {parts : List (Nat × Operand)} {ps ps' : List VP}, Parts X i pre suc place parts ps ps' → ∀ (cs : List Value), All2 ps cs w →
    ∃ ds : List Value, Instr.fill place cs.toArray (parts.map fun x => (x.1, a.eval x.2)) = some ds.toArray ∧ All2 ps' ds w := by
  intro parts ps ps' h
  induction h with
  | nil ps => intro cs hc; exact ⟨cs, rfl, hc⟩
  | cons off qs hp hl hx h ih =>
    intro cs hc
    obtain ⟨h1, h2⟩ := hx c a w s
    have hl := of_decide_eq_true hl
    have hlen := hc.len
    obtain ⟨ds, e1, e2⟩ := ih (cs.take off ++ (a.eval _).cells.toList ++ cs.drop (off + qs.length)) (((hc.take off).app h2).app (hc.drop _))
    refine ⟨ds, ?_, e2⟩
    rw [List.map_cons]
    unfold Instr.fill
    simp only [hp, h1]
    rw [if_neg (by simp; omega)]
    have := fold_set' off (a.eval _).cells cs.toArray (by rw [h1]; simp; omega)
    rw [h1] at this
    rw [← e1]
    congr 1

/-- where a struct's fields lie -/
def placesOf (P : Program) (T : TypeId) (pl : Array (Nat × Nat)) : Prop :=
  ∃ fs, P.underlying T = some (.struct fs) ∧ ∀ w, (fs.mapM fun f => (do pure (f.offset, ← sizeOf f.type) : Sem (Nat × Nat))).run P w = .ok pl w

theorem ar_cells_agg {x : Operand} {qs : List VP} (h : Ar X i pre suc x (VP.agg qs).p) : Ar X i pre suc x (cellsAre qs) := fun c a w s => by
  obtain ⟨cs, h1, h2⟩ := h c a w s
  rw [h1]
  exact ⟨by simp [Value.cells, h2.len], by simpa [Value.cells] using h2⟩
theorem ar_cells_one {x : Operand} {q : VP} (h1 : q.one = true) (h : Ar X i pre suc x q.p) : Ar X i pre suc x (cellsAre [q]) := fun c a w s => by
  have h3 := h c a w s
  have h2 := q.hone h1 _ _ h3
  have h4 : (a.eval x).cells = #[a.eval x] := by
    generalize a.eval x = v at *
    cases v <;> first | rfl | (simp [Value.oneCell'] at h2)
  unfold cellsAre
  rw [h4]
  exact ⟨rfl, h3, trivial⟩

theorem does_build {o : Oper} {d : Nat} {T : TypeId} {parts : Array (Nat × Operand)} {zs : List Value} {pl : Array (Nat × Nat)} {ps : List VP} (ps0 : List VP) (hz : zeroOf X.P T zs) (hpl : placesOf X.P T pl) (hop : o.op = .build T parts) (hd : o.dst = some d) (hlt : (decide (d < X.N) && !X.B.contains d) = true) (hc : chk X i pre suc d = true)
    (hr : resOf X i = [(i, .slot d (VP.agg ps))]) (h0 : ∀ w, All2 ps0 zs w) (h : Parts X i pre suc (fun f => pl[f]?) parts.toList ps0 ps) : Does X i pre suc o :=
  does_run hd hlt hc hr fun c a w s => by
    obtain ⟨ds, e1, e2⟩ := parts_fill s h zs (h0 w)
    refine ⟨.agg ds.toArray, ?_, ⟨ds, rfl, e2⟩⟩
    obtain ⟨fs, hu, hm⟩ := hpl
    unfold zeroOf at hz
    obtain ⟨ti, h1, h2⟩ := Option.bind_eq_some_iff.1 hz
    obtain ⟨v, h3, h4⟩ := Option.map_eq_some_iff.1 h2
    have hz' : (zeroValue T).run X.P w = .ok v w := by simp [zeroValue, typeInfo, h1, h3]
    have hcs : v.cells = zs.toArray := by rw [← h4]
    unfold execOp; rw [hop]
    have hpt : (Array.map (fun x => (x.1, a.eval x.2)) parts).toList = parts.toList.map (fun x => (x.1, a.eval x.2)) := by simp
    have hb : (Instr.build T (parts.map fun x => (x.1, a.eval x.2))).run X.P w = .ok (.agg ds.toArray) w := by
      unfold Instr.build
      simp only [Sem.run_bind, hz', Result.andThen_ok, run_underlying hu, hm w, hpt, hcs, e1, Sem.run_pure]
    have hb' : (Instr.build T (parts.map fun (i, x) => (i, a.eval x))).run X.P w = .ok (.agg ds.toArray) w := hb
    simp only [Sem.run_bind, hb', Result.andThen_ok, Sem.run_pure]

theorem run_eqBool {P : Program} (w : World) (d : Nat) {T : TypeId} (hu : P.underlying T = some .bool) (u v : Bool) : (Op.equalIn (d + 1) T (.bool u) (.bool v)).run P w = .ok (u == v) w := by
  simp [Op.equalIn, run_underlying hu]
theorem run_eqlBool {P : Program} (w : World) {T : TypeId} (hu : P.underlying T = some .bool) (u v : Bool) : (binOp .eql T (.bool u) (.bool v)).run P w = .ok (.bool (u == v)) w := by
  simp only [binOp]
  simp [Op.equal, Op.maxDepth, run_eqBool w 9999 hu]
theorem run_neqBool {P : Program} (w : World) {T : TypeId} (hu : P.underlying T = some .bool) (u v : Bool) : (binOp .neq T (.bool u) (.bool v)).run P w = .ok (.bool (!(u == v))) w := by
  simp only [binOp]
  simp [Op.equal, Op.maxDepth, run_eqBool w 9999 hu]
theorem does_eqBool {o : Oper} {d : Nat} {u v b : Bool} (op : BinOp) (T T' : TypeId) (y z : Operand) (hu : X.P.underlying T = some .bool) (hop : o.op = .binOp op T y z T') (hd : o.dst = some d) (hlt : (decide (d < X.N) && !X.B.contains d) = true) (hc : chk X i pre suc d = true)
    (hr : resOf X i = [(i, .slot d (VP.bool b))]) (hb : (match op with | .eql => some (u == v) | .neq => some (!(u == v)) | _ => none) = some b)
    (h1 : Ar X i pre suc y (VP.bool u).p) (h2 : Ar X i pre suc z (VP.bool v).p) : Does X i pre suc o :=
  does_run hd hlt hc hr fun c a w s => by
    have e1 : a.eval y = .bool u := h1 c a w s
    have e2 : a.eval z = .bool v := h2 c a w s
    refine ⟨.bool b, ?_, rfl⟩
    unfold execOp; rw [hop]
    cases op <;> first
      | (cases hb; done)
      | (have hb' := Option.some.inj hb; subst hb'; simp [e1, e2, eqGuard, run_eqlBool w hu, run_neqBool w hu])
theorem does_cat {o : Oper} {d : Nat} {u v : ByteArray} (T T' : TypeId) (y z : Operand) (hop : o.op = .binOp .add T y z T') (hd : o.dst = some d) (hlt : (decide (d < X.N) && !X.B.contains d) = true) (hc : chk X i pre suc d = true)
    (hr : resOf X i = [(i, .slot d (VP.str (u ++ v)))]) (hs : u.size + v.size ≤ 1000000)
    (h1 : Ar X i pre suc y (VP.str u).p) (h2 : Ar X i pre suc z (VP.str v).p) : Does X i pre suc o :=
  does_run hd hlt hc hr fun c a w s => by
    have e1 : a.eval y = .string u := h1 c a w s
    have e2 : a.eval z = .string v := h2 c a w s
    refine ⟨.string (u ++ v), ?_, rfl⟩
    unfold execOp; rw [hop]
    have hx : ¬ ((u.size + v.size : Nat) : Int) > IntKind.i64.max := by
      have : IntKind.i64.max = 9223372036854775807 := rfl
      rw [this]; omega
    simp only [e1, e2, eqGuard, binOp, Op.stringOp, if_neg hx, Sem.run_bind, Sem.run_pure]
    rfl

/-- a slice of n elements, built -/
theorem does_buildSlice {o : Oper} {d : Nat} {T E : TypeId} {n sz : Nat} {parts : Array (Nat × Operand)} {zs : List Value} {ps : List VP} (ps0 : List VP) (hz : zeroOf X.P E zs) (hu : X.P.underlying T = some (.slice E)) (hsz : ∀ w, (sizeOf E).run X.P w = .ok sz w)
    (hop : o.op = .buildSlice T n parts) (hd : o.dst = some d) (hlt : (decide (d < X.N) && !X.B.contains d) = true) (hc : chk X i pre suc d = true)
    (hr : resOf X i = [(i, .arr d E n ps)]) (hs : (decide (n * sz ≤ 100) && decide (0 < n * sz)) = true) (hzz : (Array.range (n * sz)).map (fun j => zs.toArray[j % zs.toArray.size]!) = ((List.replicate n zs).flatten).toArray) (h0 : ∀ w, All2 ps0 (List.replicate n zs).flatten w)
    (h : Parts X i pre suc (fun j => some (j * sz, sz)) parts.toList ps0 ps) : Does X i pre suc o :=
  does_val hd hlt hc fun c a w s Q K hK => by
    obtain ⟨ds, e1, e2⟩ := parts_fill s h _ (h0 w)
    simp only [Bool.and_eq_true, decide_eq_true_eq] at hs
    unfold zeroOf at hz
    obtain ⟨ti, h1, h2⟩ := Option.bind_eq_some_iff.1 hz
    obtain ⟨v, h3, h4⟩ := Option.map_eq_some_iff.1 h2
    have hz' : (zeroValue E).run X.P w = .ok v w := by simp [zeroValue, typeInfo, h1, h3]
    have hcs : v.cells = zs.toArray := by rw [← h4]
    have hpt : (Array.map (fun x => (x.1, a.eval x.2)) parts).toList = parts.toList.map (fun x => (x.1, a.eval x.2)) := by simp
    have hb : (Instr.buildSlice T n (parts.map fun x => (x.1, a.eval x.2))).run X.P w = .ok (.slice (some ⟨w.heap.size, 0, none⟩) n n) (w.alloc (.cells ds.toArray E)) := by
      unfold Instr.buildSlice
      simp only [Sem.run_bind, run_underlying hu, Result.andThen_ok, hsz w]
      rw [if_neg (by omega), if_neg (by omega)]
      simp only [Sem.run_bind, Sem.run_pure, hz', Result.andThen_ok, hcs, hpt, hzz, e1, newRow, run_newObj_alloc]
    have hb' : (Instr.buildSlice T n (parts.map fun (i, x) => (i, a.eval x))).run X.P w = .ok (.slice (some ⟨w.heap.size, 0, none⟩) n n) (w.alloc (.cells ds.toArray E)) := hb
    unfold Oper.wp execOp; rw [hop]
    simp only [Sem.run_bind, hb', Result.andThen_ok, Sem.run_pure]
    show K (a.put o.dst _) _
    rw [hd]
    simp only [Bool.and_eq_true, decide_eq_true_eq] at hlt
    exact hK _ _ (Ext.new w _) (res_one hr ⟨w.heap.size, ds, put_eq _ (by rw [s.inv.1.1]; exact hlt.1), Row.new w E ds, e2.st (.of_ext (Ext.new w _))⟩)
end
end Go.Proofs.Ytogodjiemgilaaa

/- The logic over slots and boxes: regions in whatever order, and code. -/
namespace Go.Proofs.Ytogodjiemgilaaa
open Go.RowKit

def preOf (o : Oper) : List Nat := (o.after.toList.filter (fun e => Region.binds .any e)).map (·.on)
/-- and what comes ahead of these -/
def pre2 (ops : List Oper) (o : Oper) : List Nat := preOf o ++ (preOf o).flatMap fun j => match ops[j]? with | some p => preOf p | none => []
def sucOf (ops : List Oper) (i : Nat) : List Nat := (List.range ops.length).filter fun j => match ops[j]? with | some o => (preOf o).contains i | none => false
/-- edges lead back -/
def seqB (ops : List Oper) : Bool := (List.range ops.length).all fun j => match ops[j]? with | some o => (preOf o).all (fun i => decide (i < j)) | none => true

/-- the operation runs -/
def Wants (X : Cx) (ops : List Oper) (i : Nat) (pre suc : List Nat) (o : Oper) : Prop := ∀ c a w, Sit X i pre suc c a w → Region.wanted o (yielded ops.toArray a.tmps) = true
/-- the operation is passed by -/
def Skips (X : Cx) (ops : List Oper) (i : Nat) (pre suc : List Nat) (o : Oper) : Prop := ∀ c a w, Sit X i pre suc c a w → Region.wanted o (yielded ops.toArray a.tmps) = false ∧ Inv X (upd c i) (a.put o.dst undef) w
def Rule (X : Cx) (ops : List Oper) (i : Nat) (o : Oper) : Prop :=
  (Wants X ops i (pre2 ops o) (sucOf ops i) o ∧ Does X i (pre2 ops o) (sucOf ops i) o) ∨ Skips X ops i (pre2 ops o) (sucOf ops i) o
def Rules (X : Cx) (ops : List Oper) : List Oper → Nat → Prop
  | [], _ => True
  | o :: os, i => Rule X ops i o ∧ Rules X ops os (i + 1)
theorem Rules.get {X : Cx} {ops : List Oper} : ∀ {os : List Oper} {k : Nat}, Rules X ops os k → ∀ {j : Nat} {o : Oper}, os[j]? = some o → Rule X ops (k + j) o
  | [], _, _, j, _, h => by simp at h
  | o :: _, k, h, 0, x, hx => by simp at hx; subst hx; exact h.1
  | _ :: _, k, h, j + 1, x, hx => by
    have := Rules.get h.2 (j := j) (o := x) (by simpa using hx)
    rwa [show k + 1 + j = k + (j + 1) by omega] at this

section
variable {X : Cx} {ops : List Oper}
theorem wants_plain {i : Nat} {pre suc : List Nat} {o : Oper} (h : o.guard = none) : Wants X ops i pre suc o := fun c a w _ => by simp [Region.wanted, h]
theorem yielded_of {o : Oper} {g t : Nat} (ho : ops[g]? = some o) (hd : o.dst = some t) {a : Act} {b : Bool} (h : a.tmps[t]? = some (.bool b)) : yielded ops.toArray a.tmps g = some b := by
  unfold yielded
  have : (ops.toArray)[g]? = some o := by simpa using ho
  simp [this, hd, h]
theorem wants_guard {i : Nat} {pre suc : List Nat} {o og : Oper} {g t : Nat} (b : Bool) (h : o.guard = some (g, b)) (ho : ops[g]? = some og) (hd : og.dst = some t) (hv : Av X i pre suc (.slot t (VP.bool b))) : Wants X ops i pre suc o := fun c a w s => by
  obtain ⟨v, h1, h2⟩ := hv c a w s
  have h2 : v = .bool b := h2
  subst h2
  simp [Region.wanted, h, yielded_of ho hd h1]
theorem skips_guard {i d : Nat} {pre suc : List Nat} {o og : Oper} {g t : Nat} (b : Bool) (h : o.guard = some (g, !b)) (ho : ops[g]? = some og) (hd : og.dst = some t) (hv : Av X i pre suc (.slot t (VP.bool b))) (hod : o.dst = some d)
    (hlt : (decide (d < X.N) && !X.B.contains d) = true) (hc : chk X i pre suc d = true) (hr : resOf X i = []) : Skips X ops i pre suc o := fun c a w s => by
  obtain ⟨v, h1, h2⟩ := hv c a w s
  have h2 : v = .bool b := h2
  subst h2
  refine ⟨by cases b <;> simp [Region.wanted, h, yielded_of ho hd h1], ?_⟩
  rw [hod]
  simp only [Bool.and_eq_true, decide_eq_true_eq] at hlt
  exact inv_put s (Ext.refl w) (s.inv.1.put (by simpa using hlt.2) undef (Ext.refl w)) hc (by rw [hr]; intro x hx; cases hx)

/-- what a slot holds whose operation was passed by -/
def VP.undef : VP := ⟨fun v _ => v = Go.undef, false, fun _ _ _ h _ => h, fun h => (by cases h), false, fun h => (by cases h), true, fun _ _ _ _ h => h⟩
theorem skips_guardU {i d : Nat} {pre suc : List Nat} {o og : Oper} {g t : Nat} (b : Bool) (h : o.guard = some (g, !b)) (ho : ops[g]? = some og) (hd : og.dst = some t) (hv : Av X i pre suc (.slot t (VP.bool b))) (hod : o.dst = some d)
    (hlt : (decide (d < X.N) && !X.B.contains d) = true) (hc : chk X i pre suc d = true) (hr : resOf X i = [(i, .slot d VP.undef)]) : Skips X ops i pre suc o := fun c a w s => by
  obtain ⟨v, h1, h2⟩ := hv c a w s
  have h2 : v = .bool b := h2
  subst h2
  refine ⟨by cases b <;> simp [Region.wanted, h, yielded_of ho hd h1], ?_⟩
  rw [hod]
  have hlt' := hlt
  simp only [Bool.and_eq_true, decide_eq_true_eq] at hlt
  exact inv_put s (Ext.refl w) (s.inv.1.put (by simpa using hlt.2) Go.undef (Ext.refl w)) hc (res_one hr (slot_put s.inv.1.1 hlt' rfl))
theorem skips_undefU {i d : Nat} {pre suc : List Nat} {o og : Oper} {g t : Nat} (b : Bool) (h : o.guard = some (g, b)) (ho : ops[g]? = some og) (hd : og.dst = some t) (hv : Av X i pre suc (.slot t VP.undef)) (hod : o.dst = some d)
    (hlt : (decide (d < X.N) && !X.B.contains d) = true) (hc : chk X i pre suc d = true) (hr : resOf X i = [(i, .slot d VP.undef)]) : Skips X ops i pre suc o := fun c a w s => by
  obtain ⟨v, h1, h2⟩ := hv c a w s
  have h2 : v = Go.undef := h2
  subst h2
  have hy : yielded ops.toArray a.tmps g = none := by
    unfold yielded
    have : (ops.toArray)[g]? = some og := by simpa using ho
    simp [this, hd, h1, Go.undef]
  refine ⟨by simp [Region.wanted, h, hy], ?_⟩
  rw [hod]
  have hlt' := hlt
  simp only [Bool.and_eq_true, decide_eq_true_eq] at hlt
  exact inv_put s (Ext.refl w) (s.inv.1.put (by simpa using hlt.2) Go.undef (Ext.refl w)) hc (res_one hr (slot_put s.inv.1.1 hlt' rfl))

theorem rule_op {Q : Exit → Act → World → Prop} {i : Nat} {o : Oper} (ho : ops[i]? = some o) (hr : Rule X ops i o) {c : Nat → Bool} {a : Act} {w : World} (s : Sit X i (pre2 ops o) (sucOf ops i) c a w) {K : Act → World → Prop} (hK : ∀ a' w', Inv X (upd c i) a' w' → K a' w') :
    wpOp X.P ops.toArray Q i K a w := by
  unfold wpOp
  have : (ops.toArray)[i]? = some o := by simpa using ho
  rw [this]
  simp only
  rcases hr with ⟨h1, h2⟩ | h
  · rw [if_pos (h1 c a w s)]
    exact .inl (h2 c a w s Q K hK)
  · obtain ⟨h1, h2⟩ := h c a w s
    rw [if_neg (by rw [h1]; exact Bool.false_ne_true)]
    exact hK _ _ h2

theorem pre_lt (hq : seqB ops = true) {i : Nat} {o : Oper} (ho : ops[i]? = some o) : ∀ j ∈ preOf o, j < i := by
  intro j hj
  unfold seqB at hq
  rw [List.all_eq_true] at hq
  have := hq i (List.mem_range.2 (List.getElem?_eq_some_iff.1 ho).1)
  rw [ho] at this
  simp only [List.all_eq_true, decide_eq_true_eq] at this
  exact this j hj
theorem mem_pre2 {o : Oper} {j : Nat} (h : j ∈ pre2 ops o) : j ∈ preOf o ∨ ∃ k p, k ∈ preOf o ∧ ops[k]? = some p ∧ j ∈ preOf p := by
  unfold pre2 at h
  rw [List.mem_append] at h
  rcases h with h | h
  · exact .inl h
  · rw [List.mem_flatMap] at h
    obtain ⟨k, hk, h⟩ := h
    cases ho : ops[k]? with
    | none => rw [ho] at h; cases h
    | some p => rw [ho] at h; exact .inr ⟨k, p, hk, ho, h⟩
theorem pre2_lt (hq : seqB ops = true) {i : Nat} {o : Oper} (ho : ops[i]? = some o) : ∀ j ∈ pre2 ops o, j < i := by
  intro j hj
  rcases mem_pre2 hj with h | ⟨k, p, h1, h2, h3⟩
  · exact pre_lt hq ho j h
  · have := pre_lt hq ho k h1
    have := pre_lt hq h2 j h3
    omega
theorem suc_spec {i j : Nat} (h : j ∈ sucOf ops i) : ∃ o, ops[j]? = some o ∧ i ∈ preOf o := by
  unfold sucOf at h
  rw [List.mem_filter] at h
  obtain ⟨h1, h2⟩ := h
  cases ho : ops[j]? with
  | none => rw [ho] at h2; cases h2
  | some o => rw [ho] at h2; exact ⟨o, rfl, by simpa using h2⟩

/-- in the order of the text -/
theorem seq_ok {Q : Exit → Act → World → Prop} (hq : seqB ops = true) (hr : Rules X ops ops 0) (fin : ∀ a w, Inv X (fun j => decide (j < ops.length)) a w → Q .normal a w) :
    ∀ (m k : Nat), k + m = ops.length → ∀ a w, Inv X (fun j => decide (j < k)) a w → wpOps X.P ops.toArray Q (List.range' k m) a w := by
  intro m
  induction m with
  | zero =>
    intro k hk a w hi
    obtain rfl : k = ops.length := by omega
    exact fin a w hi
  | succ m ih =>
    intro k hk a w hi
    have hlt : k < ops.length := by omega
    rw [List.range'_succ, wpOps_cons]
    have ho : ops[k]? = some ops[k] := List.getElem?_eq_getElem hlt
    have hrk := hr.get ho
    rw [Nat.zero_add] at hrk
    refine rule_op ho hrk ⟨by simp, fun j hj => by simpa using pre2_lt hq ho j hj, fun j hj => ?_, hi⟩ fun a' w' hi' => ih (k + 1) (by omega) a' w' ?_
    · obtain ⟨o, h1, h2⟩ := suc_spec hj
      have := pre_lt hq h1 k h2
      simp; omega
    · have : upd (fun j => decide (j < k)) k = fun j => decide (j < k + 1) := by
        funext j
        unfold upd
        by_cases e : j = k
        · subst e; simp
        · rw [if_neg e]
          show decide (j < k) = decide (j < k + 1)
          by_cases h : j < k
          · rw [decide_eq_true h, decide_eq_true (by omega)]
          · rw [decide_eq_false h, decide_eq_false (by omega)]
      rwa [this] at hi'

def cOf (listed : Array Bool) : Nat → Bool := fun i => listed.getD i false
theorem cOf_set {listed : Array Bool} {i : Nat} (h : i < listed.size) : cOf (listed.setIfInBounds i true) = upd (cOf listed) i := by
  funext j
  unfold cOf upd
  by_cases e : j = i
  · subst e; rw [if_pos rfl]; simp [h]
  · rw [if_neg e, getD_set_ne false (Ne.symm e)]
/-- how many have not come up -/
def left (listed : Array Bool) : Nat := listed.toList.countP (fun b => !b)
theorem left_set {listed : Array Bool} {i : Nat} (h : i < listed.size) (hf : listed.getD i true = false) : left (listed.setIfInBounds i true) + 1 = left listed := by
  unfold left
  have hg : listed.toList[i] = false := by simpa [h] using hf
  rw [Array.toList_setIfInBounds, List.countP_set (by simpa using h)]
  have : 0 < listed.toList.countP (fun b => !b) := by
    rw [List.countP_pos_iff]
    exact ⟨false, by rw [← hg]; exact List.getElem_mem _, rfl⟩
  rw [hg]
  simp only [Bool.not_false, if_true, Bool.not_true, Bool.false_eq_true, if_false]
  omega
theorem ready_lt {listed : Array Bool} (_hs : listed.size = ops.length) {i : Nat} (h : listed.getD i true = false) : i < listed.size := by
  by_cases hh : i < listed.size
  · exact hh
  · simp [hh] at h
/-- where nothing may come up all has come up -/
theorem all_up (hq : seqB ops = true) {listed : Array Bool} (hs : listed.size = ops.length) (h : Region.ready .any ops.toArray listed = []) : ∀ i, i < ops.length → cOf listed i = true := by
  intro i
  induction i using Nat.strongRecOn with
  | ind i ih =>
    intro hi
    cases hc : cOf listed i with
    | true => rfl
    | false =>
      exfalso
      have hl : listed.getD i true = false := by
        unfold cOf at hc
        have : i < listed.size := by omega
        simpa [this] using hc
      have : i ∈ Region.ready .any ops.toArray listed := by
        rw [mem_ready]
        refine ⟨hl, ops[i], by simp [hi], fun e he hb => ?_⟩
        have hj : e.on ∈ preOf ops[i] := by
          unfold preOf
          rw [List.mem_map]
          exact ⟨e, by rw [List.mem_filter]; exact ⟨by simpa using he, hb⟩, rfl⟩
        have hlt := pre_lt hq (List.getElem?_eq_getElem hi) _ hj
        exact ih _ hlt (by omega)
      rw [h] at this
      cases this
theorem any_ok {Q : Exit → Act → World → Prop} (hq : seqB ops = true) (hr : Rules X ops ops 0) (fin : ∀ a w c, (∀ i, i < ops.length → c i = true) → Inv X c a w → Q .normal a w) :
    ∀ (fuel : Nat) (listed : Array Bool), listed.size = ops.length → (∀ i o, ops[i]? = some o → cOf listed i = true → ∀ j ∈ preOf o, cOf listed j = true) → left listed ≤ fuel → ∀ a w, Inv X (cOf listed) a w → wpAny X.P .any ops.toArray Q fuel listed a w := by
  intro fuel
  induction fuel with
  | zero =>
    intro listed hs hcl hle a w hi
    have hall : ∀ i, i < ops.length → cOf listed i = true := by
      intro i hlt
      cases hc : cOf listed i with
      | true => rfl
      | false =>
        exfalso
        have h2 : i < listed.size := by omega
        have : 0 < left listed := by
          unfold left
          rw [List.countP_pos_iff]
          exact ⟨false, by unfold cOf at hc; rw [← hc]; simp [h2], rfl⟩
        omega
    refine ⟨?_, fin a w _ hall hi⟩
    apply List.eq_nil_iff_forall_not_mem.2
    intro i hm
    rw [mem_ready] at hm
    have h2 := ready_lt (ops := ops) hs hm.1
    have := hall i (by omega)
    unfold cOf at this
    have h1 := hm.1
    simp [h2] at h1 this
    rw [h1] at this; cases this
  | succ fuel ih =>
    intro listed hs hcl hle a w hi
    refine ⟨fun hn => fin a w _ (all_up hq hs hn) hi, fun i hm => ?_⟩
    rw [mem_ready] at hm
    obtain ⟨h1, o, h2, h3⟩ := hm
    have ho : ops[i]? = some o := by simpa using h2
    have hlt := ready_lt (ops := ops) hs h1
    have hrk := hr.get ho
    rw [Nat.zero_add] at hrk
    have hme : cOf listed i = false := by unfold cOf; simpa [hlt] using h1
    have hpre : ∀ j ∈ preOf o, cOf listed j = true := by
      intro j hj
      unfold preOf at hj
      rw [List.mem_map] at hj
      obtain ⟨e, he, rfl⟩ := hj
      rw [List.mem_filter] at he
      exact h3 e (by simpa using he.1) he.2
    refine rule_op ho hrk ⟨hme, fun j hj => by
      rcases mem_pre2 hj with h | ⟨k, p, h1, h2, h3⟩
      · exact hpre j h
      · exact hcl k p h2 (hpre k h1) j h3, fun j hj => ?_, hi⟩ fun a' w' hi' => ih _ (by simp [hs]) ?_ ?_ a' w' (by rw [cOf_set hlt]; exact hi')
    · obtain ⟨oj, h4, h5⟩ := suc_spec hj
      cases hc : cOf listed j with
      | false => rfl
      | true =>
        have := hcl j oj h4 hc i h5
        rw [hme] at this; cases this
    · intro k ok hk hck j hj
      rw [cOf_set hlt] at hck ⊢
      unfold upd at hck ⊢
      by_cases e : j = i
      · rw [if_pos e]
      · rw [if_neg e]
        by_cases ek : k = i
        · subst ek
          rw [ho] at hk
          injection hk with hk
          subst hk
          exact hpre j hj
        · rw [if_neg ek] at hck
          exact hcl k ok hk hck j hj
    · have := left_set hlt h1
      omega

/-- what is known behind a region -/
def After (X : Cx) (a : Act) (w : World) : Prop := Base X.w0 X.N X.B a w ∧ (∀ f ∈ X.fs, f.holds X.w0 a w) ∧ (∀ x ∈ X.rs, x.2.holds X.w0 a w)
theorem region_ok {Q : Exit → Act → World → Prop} {id : Nat} {draw : Bool} (hm : X.P.follows .mixedOrders = true) (hq : (seqB ops && X.rs.all (fun x => decide (x.1 < ops.length))) = true) (hr : Rules X ops ops 0) {a : Act} {w : World}
    (hb : Base X.w0 X.N X.B a w) (hf : ∀ f ∈ X.fs, f.holds X.w0 a w) (ho : ∀ x ∈ X.os, x.2.holds X.w0 a w) (fin : ∀ a w, After X a w → Q .normal a w) : (Code.region id ops.toArray draw).wp X.P Q a w := by
  simp only [Bool.and_eq_true] at hq
  obtain ⟨hq, hrs⟩ := hq
  rw [List.all_eq_true] at hrs
  cases draw with
  | false =>
    refine wp_region ?_
    have := seq_ok (Q := Q) hq hr (fun a w hi => fin a w ⟨hi.1, hi.2.1, fun x hx => hi.2.2.2.1 x hx (by simpa using hrs x hx)⟩) ops.length 0 (by omega) a w ⟨hb, hf, fun x hx _ => ho x hx, fun x hx hc => by simp at hc, fun x hx hc => by simp at hc⟩
    rw [List.range_eq_range']
    simpa using this
  | true =>
    refine wp_region_any hm ?_
    have h0 : cOf (Array.replicate ops.toArray.size false) = fun _ => false := by
      funext i
      unfold cOf
      by_cases h : i < ops.length <;> simp [h]
    refine any_ok (Q := Q) hq hr (fun a w c hc hi => fin a w ⟨hi.1, hi.2.1, fun x hx => hi.2.2.2.1 x hx (hc _ (by simpa using hrs x hx))⟩) ops.toArray.size _ (by simp) (fun i o _ hc => by rw [h0] at hc; cases hc) (by
      unfold left
      exact Nat.le_trans List.countP_le_length (by simp)) a _ ?_
    rw [h0]
    have e : Ext w { w with drawn := w.drawn + 1 } := (Ext.refl w).drew
    exact ⟨hb.ext e, fun f hx => fact_ext (hf f hx) e, fun x hx _ => fact_ext (ho x hx) e, fun x hx hc => (by cases hc), fun x hx hc => (by cases hc)⟩
end
end Go.Proofs.Ytogodjiemgilaaa

/- The logic over slots and boxes: code, functions. -/
namespace Go.Proofs.Ytogodjiemgilaaa
open Go.RowKit

structure Fr where
  P : Program
  w0 : World
  N : Nat
  B : List Nat
/-- these facts stand -/
def Fs (F : Fr) (fs : List Fact) (a : Act) (w : World) : Prop := Base F.w0 F.N F.B a w ∧ ∀ f ∈ fs, f.holds F.w0 a w
def T (F : Fr) (fs : List Fact) (c : Code) (Q : Exit → Act → World → Prop) : Prop := ∀ a w, Fs F fs a w → c.wp F.P Q a w
def Nx (F : Fr) (fs : List Fact) (Q : Exit → Act → World → Prop) : Prop := ∀ a w, Fs F fs a w → Q .normal a w
def Rt (F : Fr) (fs : List Fact) (Q : Exit → Act → World → Prop) : Prop := ∀ a w, Fs F fs a w → Q .ret a w
def Ex (F : Fr) (fs : List Fact) (id : Nat) (Q : Exit → Act → World → Prop) : Prop := ∀ a w, Fs F fs a w → Q (.exit id) a w

section
variable {F : Fr} {fs : List Fact} {Q : Exit → Act → World → Prop}
theorem fs_sub {fs' : List Fact} {a : Act} {w : World} (idx : List Nat) (h : idx.map (fun n => fs[n]?) = fs'.map some) (hf : Fs F fs a w) : Fs F fs' a w := by
  refine ⟨hf.1, fun f hm => ?_⟩
  have : some f ∈ idx.map (fun n => fs[n]?) := by rw [h]; exact List.mem_map.2 ⟨f, hm, rfl⟩
  obtain ⟨n, _, hn⟩ := List.mem_map.1 this
  exact hf.2 f (List.mem_of_getElem? hn)
theorem t_sub {fs' : List Fact} {c : Code} (idx : List Nat) (h : idx.map (fun n => fs[n]?) = fs'.map some) (ht : T F fs' c Q) : T F fs c Q := fun a w hf => ht a w (fs_sub idx h hf)
theorem nx_sub {fs' : List Fact} (idx : List Nat) (h : idx.map (fun n => fs[n]?) = fs'.map some) (ht : Nx F fs' Q) : Nx F fs Q := fun a w hf => ht a w (fs_sub idx h hf)

theorem t_seq {x y : Code} (h : T F fs x (Exit.then (fun a w => y.wp F.P Q a w) Q)) : T F fs (.seq x y) Q := fun a w hf => wp_seq (h a w hf)
theorem nx_then {y : Code} (h : T F fs y Q) : Nx F fs (Exit.then (fun a w => y.wp F.P Q a w) Q) := h
theorem rt_then {K : Act → World → Prop} (h : Rt F fs Q) : Rt F fs (Exit.then K Q) := h
theorem ex_then {K : Act → World → Prop} {id : Nat} (h : Ex F fs id Q) : Ex F fs id (Exit.then K Q) := h
theorem t_skip (h : Nx F fs Q) : T F fs .skip Q := fun a w hf => wp_skip (h a w hf)
theorem t_ret (h : Rt F fs Q) : T F fs .ret Q := fun a w hf => wp_ret (h a w hf)
theorem t_exit {id : Nat} (h : Ex F fs id Q) : T F fs (.exit id) Q := fun a w hf => wp_exit (h a w hf)
theorem t_block {id : Nat} {c : Code} (h : T F fs c (Exit.inBlock id Q)) : T F fs (.block id c) Q := fun a w hf => wp_block (h a w hf)
theorem nx_block {id : Nat} (h : Nx F fs Q) : Nx F fs (Exit.inBlock id Q) := h
theorem rt_block {id : Nat} (h : Rt F fs Q) : Rt F fs (Exit.inBlock id Q) := h
theorem ex_block {id : Nat} (h : Nx F fs Q) : Ex F fs id (Exit.inBlock id Q) := fun a w hf => by
  show (if id = id then Q .normal a w else Q (.exit id) a w)
  rw [if_pos rfl]; exact h a w hf
theorem ex_other {id id' : Nat} (hne : (id == id') = false) (h : Ex F fs id Q) : Ex F fs id (Exit.inBlock id' Q) := fun a w hf => by
  show (if id = id' then Q .normal a w else Q (.exit id) a w)
  rw [if_neg (by simpa using hne)]; exact h a w hf
theorem t_cond (n : Nat) {k : Nat} (b : Bool) {x y : Code} (hs : fs[n]? = some (.slot k (VP.bool b))) (h : T F fs (if b then x else y) Q) : T F fs (.cond (.tmp k) x y) Q := fun a w hf => by
  obtain ⟨v, h1, h2⟩ := hf.2 _ (List.mem_of_getElem? hs)
  have h2 : v = .bool b := h2
  subst h2
  exact wp_cond (eval_tmp h1) (h a w hf)
theorem t_cond_t (n : Nat) {k : Nat} {x y : Code} (hs : fs[n]? = some (.slot k (VP.bool true))) (h : T F fs x Q) : T F fs (.cond (.tmp k) x y) Q := t_cond n true hs h
theorem t_cond_f (n : Nat) {k : Nat} {x y : Code} (hs : fs[n]? = some (.slot k (VP.bool false))) (h : T F fs y Q) : T F fs (.cond (.tmp k) x y) Q := t_cond n false hs h

theorem t_cond_te (n : Nat) {k : Nat} {b : Bool} {x y : Code} (hs : fs[n]? = some (.slot k (VP.bool b))) (e : b = true) (h : T F fs x Q) : T F fs (.cond (.tmp k) x y) Q := by subst e; exact t_cond n true hs h
theorem t_cond_fe (n : Nat) {k : Nat} {b : Bool} {x y : Code} (hs : fs[n]? = some (.slot k (VP.bool b))) (e : b = false) (h : T F fs y Q) : T F fs (.cond (.tmp k) x y) Q := by subst e; exact t_cond n false hs h

/-- a region: fs: what stands all through; os: what stands until operation i; rs: what operation i lays -/
theorem t_region {id : Nat} {draw : Bool} {ops : List Oper} (fs1 : List Fact) (os rs : List (Nat × Fact)) (ms : List (Nat × Nat × Fact)) (i1 i2 : List Nat) (h1 : i1.map (fun n => fs[n]?) = fs1.map some) (h2 : i2.map (fun n => fs[n]?) = os.map (fun x => some x.2))
    (hm : F.P.follows .mixedOrders = true) (hq : (seqB ops && rs.all (fun x => decide (x.1 < ops.length))) = true)
    (hr : Rules ⟨F.P, F.w0, F.N, F.B, fs1, os, rs, ms⟩ ops ops 0) (hn : Nx F (fs1 ++ rs.map (·.2)) Q) : T F fs (.region id ops.toArray draw) Q := fun a w hf => by
  have hx := (fs_sub i1 h1 hf).2
  have ho : ∀ x ∈ os, x.2.holds F.w0 a w := by
    intro x hxm
    have : some x.2 ∈ i2.map (fun n => fs[n]?) := by rw [h2]; exact List.mem_map.2 ⟨x, hxm, rfl⟩
    obtain ⟨n, _, hn⟩ := List.mem_map.1 this
    exact hf.2 _ (List.mem_of_getElem? hn)
  refine region_ok (X := ⟨F.P, F.w0, F.N, F.B, fs1, os, rs, ms⟩) hm hq hr hf.1 hx ho fun a' w' ha => hn a' w' ⟨ha.1, fun f hfm => ?_⟩
  rw [List.mem_append] at hfm
  rcases hfm with hfm | hfm
  · exact ha.2.1 f hfm
  · obtain ⟨x, hxm, rfl⟩ := List.mem_map.1 hfm
    exact ha.2.2 x hxm

/-- a loop: what stands at a round's head, with a number that each round lowers -/
theorem t_loop {σ : Type} (I : σ → List Fact) (μ : σ → Nat) (s0 : σ) {body : Code} (idx : List Nat) (h0 : idx.map (fun n => fs[n]?) = (I s0).map some)
    (h : ∀ s, T F (I s) body (Exit.then (fun a w => ∃ s', μ s' < μ s ∧ Fs F (I s') a w) Q)) : T F fs (.loop body) Q := fun a w hf => by
  refine wp_loop_ghost (fun n a w => ∃ s, μ s = n ∧ Fs F (I s) a w) (μ s0) ⟨s0, rfl, fs_sub idx h0 hf⟩ fun n a w ⟨s, hs, hfs⟩ => ?_
  refine Code.wp_mono (fun e a' w' hq => ?_) (h s a w hfs)
  cases e with
  | normal => obtain ⟨s', h1, h2⟩ := hq; exact ⟨μ s', by omega, s', rfl, h2⟩
  | exit id => exact hq
  | goto l => exact hq
  | ret => exact hq
  | panic ch => exact hq
  | outgrown => exact hq
theorem nx_round {σ : Type} {I : σ → List Fact} {μ : σ → Nat} {s : σ} (s' : σ) (hm : μ s' < μ s) (idx : List Nat) (h : idx.map (fun n => fs[n]?) = (I s').map some) : Nx F fs (Exit.then (fun a w => ∃ s', μ s' < μ s ∧ Fs F (I s') a w) Q) :=
  fun _ _ hf => ⟨s', hm, fs_sub idx h hf⟩

/-- from within another walk -/
theorem tail_in {x y : Code} {K : Act → World → Prop} {a : Act} {w : World} (h : T F fs x (Exit.then (fun a w => y.wp F.P Q a w) Q)) (hk : ∀ a w, y.wp F.P Q a w → K a w) (hf : Fs F fs a w) : x.wp F.P (Exit.then K Q) a w :=
  Code.wp_mono (fun e a w q => by cases e <;> first | exact hk _ _ q | exact q) (h a w hf)

/-! ### the end of a function -/
def resSem (tmps : Array Value) : ResultVar → Sem Value
  | .tmp t => pure (tmps.getD t undef)
  | .cell a t => do loadVar t (← asAddr (tmps.getD a undef))
def Res (F : Fr) (fs : List Fact) (r : ResultVar) (x : VP) : Prop := ∀ a w, Fs F fs a w → ∃ v, (resSem a.tmps r).run F.P w = .ok v w ∧ x.p v w
theorem res_tmp (n : Nat) {t : Nat} {x : VP} (h : fs[n]? = some (.slot t x)) : Res F fs (.tmp t) x := fun a w hf => by
  obtain ⟨v, h1, h2⟩ := hf.2 _ (List.mem_of_getElem? h)
  exact ⟨v, by simp [resSem, h1], h2⟩
theorem res_tmpb (n : Nat) {t : Nat} {b b' : Bool} (h : fs[n]? = some (.slot t (VP.bool b))) (e : b = b') : Res F fs (.tmp t) (VP.bool b') := e ▸ res_tmp n h
theorem res_agg (n : Nat) {k : Nat} {T T' : TypeId} {ps : List VP} (ht : aggTy F.P T ps.length = true) (h : fs[n]? = some (.box k T' ps)) : Res F fs (.cell k T) (VP.agg ps) := fun a w hf => by
  obtain ⟨g, cs, h1, h2, h3⟩ := hf.2 _ (List.mem_of_getElem? h)
  have hl := h3.len
  have := run_loadRow (off := 0) ht h2 (by omega)
  rw [List.drop_zero, List.take_of_length_le (by omega)] at this
  exact ⟨_, by simp [resSem, h1, ptr, asAddr, this], cs, rfl, h3⟩
theorem res_one' (n : Nat) {k : Nat} {T T' : TypeId} {x : VP} (ht : oneTy F.P T = true) (h : fs[n]? = some (.box k T' [x])) : Res F fs (.cell k T) x := fun a w hf => by
  obtain ⟨g, cs, h1, h2, h3⟩ := hf.2 _ (List.mem_of_getElem? h)
  obtain ⟨v, hv, hp⟩ := h3.get (i := 0) (x := x) rfl
  have := run_loadCell ht h2 hv
  exact ⟨v, by simp [resSem, h1, ptr, asAddr, this], hp⟩

def post (w0 : World) (x : VP) (e : Ending) (w' : World) : Prop := ∃ v, e = .returned v ∧ x.p v w' ∧ Ext w0 w'
theorem rt_one {fn : Func} {r : ResultVar} {x : VP} (hfn : fn.results = #[r]) (h : Res F fs r x) : Rt F fs (bodyPost F.P fn (post F.w0 x)) := fun a w hf => by
  obtain ⟨v, h1, h2⟩ := h a w hf
  refine ⟨hf.1.2.1, v, ?_, v, rfl, h2, hf.1.2.2.1⟩
  cases r with
  | tmp t => simp only [resSem] at h1; simpa [results, hfn] using h1
  | cell k T => simp only [resSem] at h1; simp only [results, hfn]; simpa using h1
theorem rt_two {fn : Func} {r1 r2 : ResultVar} {x1 x2 : VP} (hfn : fn.results = #[r1, r2]) (h1 : Res F fs r1 x1) (h2 : Res F fs r2 x2) : Rt F fs (bodyPost F.P fn (post F.w0 (VP.tup [x1, x2]))) := fun a w hf => by
  obtain ⟨v1, e1, p1⟩ := h1 a w hf
  obtain ⟨v2, e2, p2⟩ := h2 a w hf
  refine ⟨hf.1.2.1, .tuple #[v1, v2], ?_, _, rfl, ⟨[v1, v2], rfl, p1, p2, trivial⟩, hf.1.2.2.1⟩
  have hm : (#[r1, r2].mapM (resSem a.tmps)).run F.P w = .ok #[v1, v2] w := by simp [e1, e2]
  have : (results fn a.tmps) = (do let vs ← fn.results.mapM (resSem a.tmps); pure (if h : vs.size = 1 then vs[0] else .tuple vs)) := by
    unfold results resSem; rfl
  rw [this, hfn]
  simp only [Sem.run_bind, hm, Result.andThen_ok]
  rfl
theorem rt_three {fn : Func} {r1 r2 r3 : ResultVar} {x1 x2 x3 : VP} (hfn : fn.results = #[r1, r2, r3]) (h1 : Res F fs r1 x1) (h2 : Res F fs r2 x2) (h3 : Res F fs r3 x3) : Rt F fs (bodyPost F.P fn (post F.w0 (VP.tup [x1, x2, x3]))) := fun a w hf => by
  obtain ⟨v1, e1, p1⟩ := h1 a w hf
  obtain ⟨v2, e2, p2⟩ := h2 a w hf
  obtain ⟨v3, e3, p3⟩ := h3 a w hf
  refine ⟨hf.1.2.1, .tuple #[v1, v2, v3], ?_, _, rfl, ⟨[v1, v2, v3], rfl, p1, p2, p3, trivial⟩, hf.1.2.2.1⟩
  have hm : (#[r1, r2, r3].mapM (resSem a.tmps)).run F.P w = .ok #[v1, v2, v3] w := by simp [e1, e2, e3]
  have : (results fn a.tmps) = (do let vs ← fn.results.mapM (resSem a.tmps); pure (if h : vs.size = 1 then vs[0] else .tuple vs)) := by
    unfold results resSem; rfl
  rw [this, hfn]
  simp only [Sem.run_bind, hm, Result.andThen_ok]
  rfl
end

/-! ### a function -/
def paramFacts : List VP → Nat → List Fact
  | [], _ => []
  | x :: xs, k => .slot k x :: paramFacts xs (k + 1)
theorem paramFacts_mem : ∀ {xs : List VP} {k : Nat} {f : Fact}, f ∈ paramFacts xs k → ∃ j x, xs[j]? = some x ∧ f = .slot (k + j) x
  | x :: xs, k, f, h => by
    simp only [paramFacts, List.mem_cons] at h
    rcases h with rfl | h
    · exact ⟨0, x, rfl, rfl⟩
    · obtain ⟨j, y, h1, h2⟩ := paramFacts_mem h
      exact ⟨j + 1, y, by simpa using h1, by rw [h2]; congr 1; omega⟩
theorem spec_of {P : Program} {f : FuncId} {fn : Func} {c : Code} {xs : List VP} {x : VP} (N : Nat) (B : List Nat) (hf : P.funcs[f]? = some fn) (hc : fn.body = some c) (hN : fn.ntmps = N) (hB : (B.all (fun k => decide (xs.length ≤ k)) && decide (xs.length ≤ N)) = true)
    (h : ∀ w0, T ⟨P, w0, N, B⟩ (paramFacts xs 0) c (bodyPost P fn (post w0 x))) : Spec P f (xs.map (·.p)) x := by
  intro vs w hs hv
  rw [List.length_map] at hs
  simp only [Bool.and_eq_true, decide_eq_true_eq, List.all_eq_true] at hB
  refine calls_of_wp hf hc (h w _ w ⟨⟨?_, rfl, Ext.refl w, ?_, ?_⟩, ?_⟩)
  · simp; omega
  · intro k hk g hg
    have := hB.1 k hk
    rw [Array.getElem?_append_right (by omega)] at hg
    have hu := Array.mem_of_getElem? hg
    rw [Array.mem_replicate] at hu
    have := hu.2
    unfold ptr undef at this
    cases this
  · intro k hk k' hk' _ g hg
    have := hB.1 k hk
    rw [Array.getElem?_append_right (by omega)] at hg
    have hu := Array.mem_of_getElem? hg
    rw [Array.mem_replicate] at hu
    have := hu.2
    unfold ptr undef at this
    cases this
  · intro fa hfa
    obtain ⟨j, y, h1, rfl⟩ := paramFacts_mem hfa
    obtain ⟨v, h2, h3⟩ := hv j y.p (by rw [List.getElem?_map, h1]; rfl)
    rw [Nat.zero_add]
    refine ⟨v, ?_, h3⟩
    have hj := (Array.getElem?_eq_some_iff.1 h2).1
    show (vs ++ _)[j]? = some v
    rw [Array.getElem?_append_left hj]; exact h2
end Go.Proofs.Ytogodjiemgilaaa

/- The logic over slots and boxes: rows that came in. -/
namespace Go.Proofs.Ytogodjiemgilaaa
open Go.RowKit

/-- a slice of n elements whose cells are known -/
def isRows (n : Nat) (ps : List VP) (v : Value) (w : World) : Prop := ∃ g off c, v = .slice (some ⟨g, off, none⟩) n c ∧ n ≤ c ∧ c ≤ maxLen ∧ g < w.heap.size ∧ Cells w g off ps
theorem arr_rows {T : TypeId} {n : Nat} {ps : List VP} {v : Value} {w : World} (hn : n ≤ maxLen) (h : isArr T n ps v w) : isRows n ps v w := by
  obtain ⟨g, cs, rfl, h1, h2⟩ := h
  refine ⟨g, 0, n, rfl, Nat.le_refl _, hn, h1.lt, fun j x hx => ?_⟩
  obtain ⟨u, hu, hp⟩ := h2.get hx
  exact ⟨u, by rw [Nat.zero_add]; exact h1.cell hu, hp⟩

section
variable {X : Cx} {i : Nat} {pre suc : List Nat}
theorem ar_rows {k n : Nat} {ps : List VP} (h : Av X i pre suc (.rows k n ps)) : Ar X i pre suc (.tmp k) (isRows n ps) := fun c a w s => by
  obtain ⟨g, off, cp, h1, h2, h3, h4, h5⟩ := h c a w s
  rw [eval_tmp h1]
  exact ⟨g, off, cp, rfl, h2, h3, Nat.lt_of_lt_of_le h4 s.inv.1.2.2.1.size, h5⟩
theorem ar_arr_rows {k : Nat} {T : TypeId} {n : Nat} {ps : List VP} (hn : n ≤ maxLen) (h : Av X i pre suc (.arr k T n ps)) : Ar X i pre suc (.tmp k) (isRows n ps) := fun c a w s => arr_rows hn (ar_arr h c a w s)
theorem does_moveRows {o : Oper} {d k n : Nat} {ps : List VP} (y : Operand) (hop : o.op = .move y ∨ o.op = .assign y) (hy : y = .tmp k) (hd : o.dst = some d) (hlt : (decide (d < X.N) && !X.B.contains d) = true) (hc : chk X i pre suc d = true)
    (hr : resOf X i = [(i, .rows d n ps)]) (h : Av X i pre suc (.rows k n ps)) : Does X i pre suc o :=
  does_val hd hlt hc fun c a w s Q K hK => by
    obtain ⟨g, off, cp, h1, h2, h3, h4, h5⟩ := h c a w s
    unfold Oper.wp execOp
    rcases hop with e | e <;> rw [e] <;> (
      show K (a.put o.dst (a.eval y)) w
      rw [hd, hy, eval_tmp h1]
      refine hK _ w (Ext.refl w) (res_one hr ⟨g, off, cp, put_eq _ ?_, h2, h3, h4, h5⟩)
      simp only [Bool.and_eq_true, decide_eq_true_eq] at hlt; rw [s.inv.1.1]; exact hlt.1)
theorem does_lenRows {o : Oper} {d k n : Nat} {ps : List VP} (T : TypeId) (y : Operand) (hy : y = .tmp k) (ht : (match X.P.underlying T with | some (.slice _) => true | _ => false) = true) (hop : o.op = .call { callee := .builtin .len, args := #[y], argTypes := #[T] }) (hd : o.dst = some d) (hlt : (decide (d < X.N) && !X.B.contains d) = true) (hc : chk X i pre suc d = true)
    (hr : resOf X i = [(i, .slot d (VP.int .i64 (n : Nat)))]) (h : Av X i pre suc (.rows k n ps)) : Does X i pre suc o :=
  does_run hd hlt hc hr fun c a w s => by
    obtain ⟨g, off, cp, h1, _⟩ := h c a w s
    split at ht
    · rename_i e hu
      refine ⟨.int .i64 (n : Nat), ?_, rfl⟩
      unfold execOp; rw [hop]
      subst hy
      simp [resolve, invoke, builtin, Builtin.len_, run_underlying hu, eval_tmp h1, goInt]
    · cases ht
/-- the address of element m -/
theorem does_indexRows {o : Oper} {d k n m sz off : Nat} {ps : List VP} {T E : TypeId} (y z : Operand) (hy : y = .tmp k) (hu : X.P.underlying T = some (.slice E)) (hsz : ∀ w, (sizeOf E).run X.P w = .ok sz w) (hop : o.op = .indexAddr T y z) (hd : o.dst = some d) (hlt : (decide (d < X.N) && !X.B.contains d) = true) (hk : (d == k) = false) (hc : chk X i pre suc d = true)
    (hr : resOf X i = [(i, .rp d k off)]) (hm : m < n) (ho : off = m * sz) (h : Av X i pre suc (.rows k n ps)) (hz : Ar X i pre suc z (VP.int .i64 (m : Nat)).p) : Does X i pre suc o :=
  does_val hd hlt hc fun c a w s Q K hK => by
    obtain ⟨g, o0, cp, h1, h2, h3, h4, h5⟩ := h c a w s
    have ez : a.eval z = .int .i64 (m : Nat) := hz c a w s
    have hrun : (Instr.indexAt T (.slice (some ⟨g, o0, none⟩) n cp) (.int .i64 (m : Nat))).run X.P w = .ok (.pointer (some ⟨g, o0 + off, none⟩)) w := by
      unfold Instr.indexAt
      have hlt' : (0 : Int) ≤ (m : Nat) ∧ ((m : Nat) : Int) < (n : Nat) := by omega
      simp only [asIntOf, Sem.run_bind, Sem.run_pure, Result.andThen_ok, run_underlying hu, if_pos hlt', hsz w, Int.toNat_natCast, add_plain, ← ho]
    unfold Oper.wp execOp
    rw [hop]
    subst hy
    simp only [eval_tmp h1, ez, Sem.run_bind, hrun, Result.andThen_ok, Sem.run_pure]
    show K (a.put o.dst _) w
    rw [hd]
    refine hK _ w (Ext.refl w) (res_one hr ⟨g, o0, n, cp, ?_, put_eq _ ?_⟩)
    · rw [put_ne _ (by simpa using hk)]; exact h1
    · simp only [Bool.and_eq_true, decide_eq_true_eq] at hlt; rw [s.inv.1.1]; exact hlt.1
theorem cells_all2 {w : World} {g : Nat} : ∀ {ps : List VP} {off : Nat}, Cells w g off ps → ∃ cs : List Value, All2 ps cs w ∧ ∀ j v, cs[j]? = some v → w.cell? ⟨g, off + j, none⟩ = some v
  | [], off, _ => ⟨[], trivial, fun j v h => by simp at h⟩
  | x :: ps, off, h => by
    obtain ⟨u, hu, hp⟩ := h 0 x rfl
    obtain ⟨cs, h1, h2⟩ := cells_all2 (ps := ps) (off := off + 1) (g := g) (w := w) (fun j y hy => by
      obtain ⟨v, hv, hq⟩ := h (j + 1) y (by simpa using hy)
      exact ⟨v, by rw [show off + 1 + j = off + (j + 1) by omega]; exact hv, hq⟩)
    refine ⟨u :: cs, ⟨hp, h1⟩, fun j v hv => ?_⟩
    cases j with
    | zero => simp at hv; subst hv; exact hu
    | succ j => rw [show off + (j + 1) = off + 1 + j by omega]; exact h2 j v (by simpa using hv)
theorem Cells.sub {w : World} {g off : Nat} {ps : List VP} (h : Cells w g off ps) (o m : Nat) : Cells w g (off + o) ((ps.drop o).take m) := fun j x hx => by
  rw [List.getElem?_take] at hx
  split at hx
  · rw [List.getElem?_drop] at hx
    rw [Nat.add_assoc]; exact h _ x hx
  · cases hx
/-- where a rows pointer leads -/
theorem rows_at {k d off n : Nat} {ps : List VP} (hp : Av X i pre suc (.rp d k off)) (h : Av X i pre suc (.rows k n ps)) : ∀ c a w, Sit X i pre suc c a w → ∃ g o, a.tmps[d]? = some (.pointer (some ⟨g, o + off, none⟩)) ∧ Cells w g o ps := fun c a w s => by
  obtain ⟨g, o, n1, c1, h1, h2⟩ := hp c a w s
  obtain ⟨g', o', c', h3, h4, h5, h6, h7⟩ := h c a w s
  rw [h1] at h3
  injection h3 with h3
  injection h3 with h3 h8 h9
  injection h3 with h3
  injection h3 with h3 h10
  subst h3 h10
  exact ⟨g, o, h2, h7⟩
theorem does_loadRows {o : Oper} {d e k off n m : Nat} {T : TypeId} {ps qs : List VP} (y : Operand) (hy : y = .tmp e) (ht : aggTy X.P T m = true) (hop : o.op = .load T y) (hd : o.dst = some d) (hlt : (decide (d < X.N) && !X.B.contains d) = true) (hc : chk X i pre suc d = true)
    (hr : resOf X i = [(i, .slot d (VP.agg qs))]) (hq : (ps.drop off).take m = qs) (hl : qs.length = m) (hp : Av X i pre suc (.rp e k off)) (h : Av X i pre suc (.rows k n ps)) : Does X i pre suc o :=
  does_run hd hlt hc hr fun c a w s => by
    obtain ⟨g, o0, h1, h2⟩ := rows_at hp h c a w s
    have h3 := h2.sub off m
    rw [hq] at h3
    obtain ⟨cs, h4, h5⟩ := cells_all2 h3
    have hcl := h4.len
    have := run_loadCells_list (P := X.P) w ⟨g, o0 + off, none⟩ cs (fun j v hv => by rw [add_plain]; exact h5 j v hv)
    rw [hcl, hl] at this
    refine ⟨.agg cs.toArray, ?_, cs, rfl, h4⟩
    unfold execOp; rw [hop]
    subst hy
    simp [eval_tmp h1, Instr.loadAt, Instr.sureAddr, loadVar, run_isAgg ht, run_sizeAgg ht, this]
theorem does_loadRowsOne {o : Oper} {d e k off n : Nat} {T : TypeId} {ps : List VP} {x : VP} (y : Operand) (hy : y = .tmp e) (ht : oneTy X.P T = true) (hop : o.op = .load T y) (hd : o.dst = some d) (hlt : (decide (d < X.N) && !X.B.contains d) = true) (hc : chk X i pre suc d = true)
    (hr : resOf X i = [(i, .slot d x)]) (hq : ps[off]? = some x) (hp : Av X i pre suc (.rp e k off)) (h : Av X i pre suc (.rows k n ps)) : Does X i pre suc o :=
  does_run hd hlt hc hr fun c a w s => by
    obtain ⟨g, o0, h1, h2⟩ := rows_at hp h c a w s
    obtain ⟨v, hv, hp⟩ := h2 off x hq
    refine ⟨v, ?_, hp⟩
    unfold execOp; rw [hop]
    subst hy
    simp [eval_tmp h1, Instr.loadAt, Instr.sureAddr, loadVar, run_isOne ht, hv]
theorem does_mulInt {o : Oper} {d : Nat} {m n : Int} (T T' : TypeId) (y z : Operand) (hop : o.op = .binOp .mul T y z T') (hd : o.dst = some d) (hlt : (decide (d < X.N) && !X.B.contains d) = true) (hc : chk X i pre suc d = true)
    (hr : resOf X i = [(i, .slot d (VP.int .i64 (m * n)))]) (hb : -9223372036854775808 ≤ m * n ∧ m * n < 9223372036854775808)
    (h1 : Ar X i pre suc y (VP.int .i64 m).p) (h2 : Ar X i pre suc z (VP.int .i64 n).p) : Does X i pre suc o :=
  does_run hd hlt hc hr fun c a w s => by
    have e1 : a.eval y = .int .i64 m := h1 c a w s
    have e2 : a.eval z = .int .i64 n := h2 c a w s
    refine ⟨.int .i64 (m * n), ?_, rfl⟩
    have hw : IntKind.i64.wrap (m * n) = m * n := IntWalk.i64_in _ (by omega)
    unfold execOp; rw [hop]
    simp [e1, e2, eqGuard, binOp, Op.intArith, hw]
theorem does_negInt {o : Oper} {d : Nat} {m : Int} (T : TypeId) (y : Operand) (hop : o.op = .unOp .neg T y) (hd : o.dst = some d) (hlt : (decide (d < X.N) && !X.B.contains d) = true) (hc : chk X i pre suc d = true)
    (hr : resOf X i = [(i, .slot d (VP.int .i64 (-m)))]) (hb : -9223372036854775808 ≤ -m ∧ -m < 9223372036854775808)
    (h1 : Ar X i pre suc y (VP.int .i64 m).p) : Does X i pre suc o :=
  does_run hd hlt hc hr fun c a w s => by
    have e1 : a.eval y = .int .i64 m := h1 c a w s
    refine ⟨.int .i64 (-m), ?_, rfl⟩
    have hw : IntKind.i64.wrap (-m) = -m := IntWalk.i64_in _ (by omega)
    unfold execOp; rw [hop]
    simp [e1, Op.unary, Op.intArith, hw]
/-- a sum of ints that stays an int -/
theorem does_addInt {o : Oper} {d : Nat} {m n : Int} (T T' : TypeId) (y z : Operand) (hop : o.op = .binOp .add T y z T') (hd : o.dst = some d) (hlt : (decide (d < X.N) && !X.B.contains d) = true) (hc : chk X i pre suc d = true)
    (hr : resOf X i = [(i, .slot d (VP.int .i64 (m + n)))]) (hb : -9223372036854775808 ≤ m + n ∧ m + n < 9223372036854775808)
    (h1 : Ar X i pre suc y (VP.int .i64 m).p) (h2 : Ar X i pre suc z (VP.int .i64 n).p) : Does X i pre suc o :=
  does_run hd hlt hc hr fun c a w s => by
    have e1 : a.eval y = .int .i64 m := h1 c a w s
    have e2 : a.eval z = .int .i64 n := h2 c a w s
    refine ⟨.int .i64 (m + n), ?_, rfl⟩
    have hw : IntKind.i64.wrap (m + n) = m + n := IntWalk.i64_in _ (by omega)
    unfold execOp; rw [hop]
    simp [e1, e2, eqGuard, binOp, Op.intArith, hw]
end

/-! ### parameters of any kind -/
inductive PK where
  | val (x : VP)
  | rows (n : Nat) (ps : List VP)
def PK.q : PK → Value → World → Prop
  | .val x => x.p
  | .rows n ps => isRows n ps
def PK.fact (k : Nat) : PK → Fact
  | .val x => .slot k x
  | .rows n ps => .rows k n ps
def pkFacts : List PK → Nat → List Fact
  | [], _ => []
  | x :: xs, k => x.fact k :: pkFacts xs (k + 1)
theorem pkFacts_mem : ∀ {xs : List PK} {k : Nat} {f : Fact}, f ∈ pkFacts xs k → ∃ (j : Nat) (x : PK), xs[j]? = some x ∧ f = x.fact (k + j)
  | x :: xs, k, f, h => by
    simp only [pkFacts, List.mem_cons] at h
    rcases h with rfl | h
    · exact ⟨0, x, rfl, rfl⟩
    · obtain ⟨j, y, h1, h2⟩ := pkFacts_mem h
      exact ⟨j + 1, y, by simpa using h1, by rw [h2]; congr 1; omega⟩
theorem spec_ofP {P : Program} {f : FuncId} {fn : Func} {c : Code} {xs : List PK} {x : VP} (N : Nat) (B : List Nat) (hf : P.funcs[f]? = some fn) (hc : fn.body = some c) (hN : fn.ntmps = N) (hB : (B.all (fun k => decide (xs.length ≤ k)) && decide (xs.length ≤ N)) = true)
    (h : ∀ w0, T ⟨P, w0, N, B⟩ (pkFacts xs 0) c (bodyPost P fn (post w0 x))) : Spec P f (xs.map (·.q)) x := by
  intro vs w hs hv
  rw [List.length_map] at hs
  simp only [Bool.and_eq_true, decide_eq_true_eq, List.all_eq_true] at hB
  have hnp : ∀ k ∈ B, ∀ g, (vs ++ Array.replicate (fn.ntmps - vs.size) undef)[k]? ≠ some (ptr g) := by
    intro k hk g hg
    have := hB.1 k hk
    rw [Array.getElem?_append_right (by omega)] at hg
    have hu := Array.mem_of_getElem? hg
    rw [Array.mem_replicate] at hu
    have := hu.2
    unfold ptr undef at this
    cases this
  refine calls_of_wp hf hc (h w _ w ⟨⟨?_, rfl, Ext.refl w, fun k hk g hg => absurd hg (hnp k hk g), fun k hk _ _ _ g hg => absurd hg (hnp k hk g)⟩, ?_⟩)
  · simp; omega
  · intro fa hfa
    obtain ⟨j, y, h1, rfl⟩ := pkFacts_mem hfa
    obtain ⟨v, h2, h3⟩ := hv j y.q (by rw [List.getElem?_map, h1]; rfl)
    rw [Nat.zero_add]
    have hj := (Array.getElem?_eq_some_iff.1 h2).1
    have hat : (vs ++ Array.replicate (fn.ntmps - vs.size) undef)[j]? = some v := by rw [Array.getElem?_append_left hj]; exact h2
    cases y with
    | val x => exact ⟨v, hat, h3⟩
    | rows n ps =>
      obtain ⟨g, off, cp, rfl, h4, h5, h6, h7⟩ := h3
      exact ⟨g, off, cp, hat, h4, h5, h6, h7⟩
end Go.Proofs.Ytogodjiemgilaaa

/- What the functions on integers do, in the words of the logic over slots and boxes. -/
namespace Go.Proofs.Ytogodjiemgilaaa
open Go.RowKit

section
variable {P : Program} {f : FuncId} {x : VP}
theorem spec0 (h : ∀ w, Calls P f #[] w fun e w' => ∃ v, e = .returned v ∧ x.p v w' ∧ Ext w w') : Spec P f [] x := by
  intro vs w hs _
  obtain rfl : vs = #[] := Array.eq_empty_of_size_eq_zero hs
  exact h w
theorem spec1 {q1 : Value → World → Prop} (h : ∀ v1 w, q1 v1 w → Calls P f #[v1] w fun e w' => ∃ v, e = .returned v ∧ x.p v w' ∧ Ext w w') : Spec P f [q1] x := by
  intro vs w hs hv
  obtain ⟨v1, h1, p1⟩ := hv 0 q1 rfl
  obtain rfl : vs = #[v1] := by
    apply Array.ext (by simpa using hs)
    intro j hj hj2
    have : j = 0 := by simp at hj2; omega
    subst this
    rw [Array.getElem?_eq_getElem hj] at h1
    exact Option.some.inj h1
  exact h v1 w p1
theorem spec2 {q1 q2 : Value → World → Prop} (h : ∀ v1 v2 w, q1 v1 w → q2 v2 w → Calls P f #[v1, v2] w fun e w' => ∃ v, e = .returned v ∧ x.p v w' ∧ Ext w w') : Spec P f [q1, q2] x := by
  intro vs w hs hv
  obtain ⟨v1, h1, p1⟩ := hv 0 q1 rfl
  obtain ⟨v2, h2, p2⟩ := hv 1 q2 rfl
  obtain rfl : vs = #[v1, v2] := by
    apply Array.ext (by simpa using hs)
    intro j hj hj2
    have : j = 0 ∨ j = 1 := by simp at hj2; omega
    rcases this with rfl | rfl
    · rw [Array.getElem?_eq_getElem hj] at h1; exact Option.some.inj h1
    · rw [Array.getElem?_eq_getElem hj] at h2; exact Option.some.inj h2
  exact h v1 v2 w p1 p2
end

abbrev Bz (z : Int) : VP := VP.bool (decide (z < 0))
abbrev Dz (z : Int) : VP := VP.nums .u32 (dg BB z.natAbs)
abbrev Tz (z : Int) : VP := VP.nums .i64 (dg 10 z.natAbs)
abbrev INT (z : Int) : VP := VP.agg [Bz z, Dz z]
abbrev NUM (z : Int) : VP := VP.agg [Bz z, Tz z]
theorem int_open {z : Int} {v : Value} {w : World} (h : (INT z).p v w) : ∃ a c, v = .agg #[.bool (decide (z < 0)), .slice a (dg BB z.natAbs).length c] ∧ IsInt w z a c := by
  obtain ⟨cs, rfl, h⟩ := h
  match cs, h with
  | [u, v], ⟨h1, ⟨a, c, h2, h3, h4, h5⟩, _⟩ =>
    have h1 : u = .bool (decide (z < 0)) := h1
    subst h1 h2
    exact ⟨a, c, rfl, h3, h4, h5⟩
theorem int_shut {z : Int} {w : World} {a : Option Addr} {c : Nat} (h : IsInt w z a c) : (INT z).p (.agg #[.bool (decide (z < 0)), .slice a (dg BB z.natAbs).length c]) w :=
  ⟨[.bool (decide (z < 0)), .slice a (dg BB z.natAbs).length c], rfl, rfl, ⟨a, c, rfl, h.1, h.2.1, h.2.2⟩, trivial⟩
theorem num_open {z : Int} {v : Value} {w : World} (h : (NUM z).p v w) : ∃ a c, v = .agg #[.bool (decide (z < 0)), .slice a (dg 10 z.natAbs).length c] ∧ IsNum w z a c := by
  obtain ⟨cs, rfl, h⟩ := h
  match cs, h with
  | [u, v], ⟨h1, ⟨a, c, h2, h3, h4, h5⟩, _⟩ =>
    have h1 : u = .bool (decide (z < 0)) := h1
    subst h1 h2
    exact ⟨a, c, rfl, h3, h4, h5⟩
theorem num_shut {z : Int} {w : World} {a : Option Addr} {c : Nat} (h : IsNum w z a c) : (NUM z).p (.agg #[.bool (decide (z < 0)), .slice a (dg 10 z.natAbs).length c]) w :=
  ⟨[.bool (decide (z < 0)), .slice a (dg 10 z.natAbs).length c], rfl, rfl, ⟨a, c, rfl, h.1, h.2.1, h.2.2⟩, trivial⟩
theorem gotint_shut {W : World} {z : Int} {e : Ending} {w' : World} (h : GotInt W z e w') : ∃ v, e = .returned v ∧ (INT z).p v w' ∧ Ext W w' := by
  obtain ⟨a, c, h1, h2, h3, h4, h5, _⟩ := h
  exact ⟨_, h1, int_shut ⟨h2, h3, h4⟩, h5⟩
theorem gi_shut {W : World} {z : Int} {e : Ending} {w' : World} (h : GI z W e w') : ∃ v, e = .returned v ∧ (INT z).p v w' ∧ Ext W w' := by
  obtain ⟨a, c, h1, h2, h3⟩ := h
  exact ⟨_, h1, int_shut h2, h3⟩
theorem gotnum_shut {W : World} {z : Int} {e : Ending} {w' : World} (h : GotNum z W e w') : ∃ v, e = .returned v ∧ (NUM z).p v w' ∧ Ext W w' := by
  obtain ⟨a, c, h1, h2, h3⟩ := h
  exact ⟨_, h1, num_shut h2, h3⟩

/-- how many digits an integer has -/
abbrev L (z : Int) : Nat := (dg BB z.natAbs).length
theorem ladd {x y : Int} {a b : Nat} (h : L x ≤ a) (k : L y ≤ b) : L (x + y) ≤ a + b + 1 := by have := len_add x y; unfold L at *; omega
theorem lmul {x y : Int} {a b : Nat} (h : L x ≤ a) (k : L y ≤ b) : L (x * y) ≤ a + b := by have := len_mul x y; unfold L at *; omega
theorem lneg {x : Int} {a : Nat} (h : L x ≤ a) : L (-x) ≤ a := by have := len_neg x; unfold L at *; omega
theorem ldiv {x y : Int} {a : Nat} (h : L x ≤ a) : L (divZ x y) ≤ a := Nat.le_trans (len_div x y) h
theorem lmod {x y : Int} {a : Nat} (h : L y ≤ a) : L (modZ x y) ≤ a := Nat.le_trans (len_mod x y) h
/-- the greatest number that divides both -/
abbrev gcdZ (x y : Int) : Int := ((Nat.gcd x.natAbs y.natAbs : Nat) : Int)
theorem lgcd {x y : Int} {a b : Nat} (h : L x ≤ a) (k : L y ≤ b) : L (gcdZ x y) ≤ a + b := by have := len_gcd x y; unfold L gcdZ at *; omega
theorem lone : L 1 ≤ 1 := by unfold L; rw [show (1 : Int).natAbs = 1 from rfl, dg_one BB_gt (by decide) BB_gt]; exact Nat.le_refl _
theorem lzero : L 0 ≤ 0 := Nat.le_refl _
theorem l10 {z : Int} {a : Nat} (h : L z ≤ a) : (dg 10 z.natAbs).length ≤ 9 * a := dg10_len _ _ h
theorem lle {z : Int} {a b : Nat} (h : L z ≤ a) (k : a ≤ b) : L z ≤ b := Nat.le_trans h k
theorem n10 {z : Int} {a b : Nat} (h : L z ≤ a) (k : 9 * a ≤ b) : (dg 10 z.natAbs).length ≤ b := Nat.le_trans (l10 h) k

theorem s_add (x y : Int) (h1 : L x ≤ 100000) (h2 : L y ≤ 100000) : Spec Try.prog 52 [(INT x).p, (INT y).p] (INT (x + y)) :=
  spec2 fun v1 v2 w p1 p2 => by
    obtain ⟨a, c, rfl, i1⟩ := int_open p1
    obtain ⟨b, d, rfl, i2⟩ := int_open p2
    exact (addz_walk x y a b c d w h1 h2 i1 i2).mono fun e w' h => gotint_shut h
theorem s_mul (x y : Int) (h1 : L x ≤ 100000) (h2 : L y ≤ 100000) : Spec Try.prog 55 [(INT x).p, (INT y).p] (INT (x * y)) :=
  spec2 fun v1 v2 w p1 p2 => by
    obtain ⟨a, c, rfl, i1⟩ := int_open p1
    obtain ⟨b, d, rfl, i2⟩ := int_open p2
    exact (mulz_walk x y a b c d w h1 h2 i1 i2).mono fun e w' h => gotint_shut h
theorem s_neg (x : Int) (h1 : L x ≤ 100000) : Spec Try.prog 57 [(INT x).p] (INT (-x)) :=
  spec1 fun v1 w p1 => by
    obtain ⟨a, c, rfl, i1⟩ := int_open p1
    exact (neg_walk x a c w (by unfold L at *; omega) i1).mono fun e w' h => gotint_shut h
theorem s_cmp (x y : Int) (h1 : L x ≤ 100000) (h2 : L y ≤ 100000) : Spec Try.prog 61 [(INT x).p, (INT y).p] (VP.int .i64 (cmpZ x y)) :=
  spec2 fun v1 v2 w p1 p2 => by
    obtain ⟨a, c, rfl, i1⟩ := int_open p1
    obtain ⟨b, d, rfl, i2⟩ := int_open p2
    exact (cmpz_walk x y a b c d w (by unfold L at *; omega) (by unfold L at *; omega) i1 i2).mono fun e w' h => ⟨_, h.1, rfl, h.2⟩
theorem s_div (x y : Int) (h1 : L x ≤ 100000) (h2 : L y ≤ 100000) : Spec Try.prog 49 [(INT x).p, (INT y).p] (VP.tup [INT (divZ x y), INT (modZ x y)]) :=
  spec2 fun v1 v2 w p1 p2 => by
    obtain ⟨a, c, rfl, i1⟩ := int_open p1
    obtain ⟨b, d, rfl, i2⟩ := int_open p2
    refine (divz_walk x y a b c d w h1 h2 i1 i2).mono fun e w' h => ?_
    obtain ⟨a1, c1, b1, d1, e1, e2, e3, e4, _⟩ := h
    exact ⟨_, e1, ⟨[_, _], rfl, int_shut e2, int_shut e3, trivial⟩, e4⟩
theorem s_gcd (x y : Int) (h1 : L x ≤ 100000) (h2 : L y ≤ 100000) : Spec Try.prog 59 [(INT x).p, (INT y).p] (INT (gcdZ x y)) :=
  spec2 fun v1 v2 w p1 p2 => by
    obtain ⟨a, c, rfl, i1⟩ := int_open p1
    obtain ⟨b, d, rfl, i2⟩ := int_open p2
    exact (gcdz_walk x y a b c d w h1 h2 i1 i2).mono fun e w' h => gotint_shut h
theorem s_of (n : Int) (h1 : -9223372036854775808 ≤ n) (h2 : n < 9223372036854775808) : Spec Try.prog 66 [(VP.int .i64 n).p] (INT n) :=
  spec1 fun v1 w p1 => by
    have p1 : v1 = .int .i64 n := p1
    subst p1
    exact (ofi_walk n w h1 h2).mono fun e w' h => gotint_shut h
theorem s_text (x : Int) (h1 : L x ≤ 100000) : Spec Try.prog 63 [(INT x).p] (VP.str (txt x)) :=
  spec1 fun v1 w p1 => by
    obtain ⟨a, c, rfl, i1⟩ := int_open p1
    exact (textz_walk x a c w h1 i1).mono fun e w' h => ⟨_, h.1, rfl, h.2⟩

theorem r_of (x : Int) (h1 : L x ≤ 100000) : Spec Try.prog 48 [(INT x).p] (NUM x) :=
  spec1 fun v1 w p1 => by
    obtain ⟨a, c, rfl, i1⟩ := int_open p1
    exact (rof_walk x a c w h1 i1).mono fun e w' h => gotnum_shut h
theorem r_form (x : Int) (h1 : (dg 10 x.natAbs).length ≤ 100000) : Spec Try.prog 53 [(NUM x).p] (INT x) :=
  spec1 fun v1 w p1 => by
    obtain ⟨a, c, rfl, i1⟩ := num_open p1
    exact (rform_walk x a c w h1 i1).mono fun e w' h => gi_shut h
theorem r_add (x y : Int) (h1 : (dg 10 x.natAbs).length ≤ 100000) (h2 : (dg 10 y.natAbs).length ≤ 100000) : Spec Try.prog 54 [(NUM x).p, (NUM y).p] (NUM (x + y)) :=
  spec2 fun v1 v2 w p1 p2 => by
    obtain ⟨a, c, rfl, i1⟩ := num_open p1
    obtain ⟨b, d, rfl, i2⟩ := num_open p2
    exact (raddz_walk x y a b c d w h1 h2 i1 i2).mono fun e w' h => gotnum_shut h
theorem r_mul (x y : Int) (h1 : (dg 10 x.natAbs).length ≤ 100000) (h2 : (dg 10 y.natAbs).length ≤ 100000) : Spec Try.prog 56 [(NUM x).p, (NUM y).p] (NUM (x * y)) :=
  spec2 fun v1 v2 w p1 p2 => by
    obtain ⟨a, c, rfl, i1⟩ := num_open p1
    obtain ⟨b, d, rfl, i2⟩ := num_open p2
    exact (rmul_walk x y a b c d w h1 h2 i1 i2).mono fun e w' h => gotnum_shut h
theorem r_neg (x : Int) : Spec Try.prog 58 [(NUM x).p] (NUM (-x)) :=
  spec1 fun v1 w p1 => by
    obtain ⟨a, c, rfl, i1⟩ := num_open p1
    exact (rneg_walk x a c w i1).mono fun e w' h => gotnum_shut h
theorem r_cmp (x y : Int) (h1 : (dg 10 x.natAbs).length ≤ 100000) (h2 : (dg 10 y.natAbs).length ≤ 100000) : Spec Try.prog 62 [(NUM x).p, (NUM y).p] (VP.int .i64 (cmpZ x y)) :=
  spec2 fun v1 v2 w p1 p2 => by
    obtain ⟨a, c, rfl, i1⟩ := num_open p1
    obtain ⟨b, d, rfl, i2⟩ := num_open p2
    exact (rcmpz_walk x y a b c d w (by omega) (by omega) i1 i2).mono fun e w' h => ⟨_, h.1, rfl, h.2⟩
theorem r_int (n : Int) (h1 : -4611686018427387904 ≤ n) (h2 : n ≤ 9223372036854775807) : Spec Try.prog 71 [(VP.int .i64 n).p] (NUM n) :=
  spec1 fun v1 w p1 => by
    have p1 : v1 = .int .i64 n := p1
    subst p1
    exact (rint_walk n w h1 h2).mono fun e w' h => gotnum_shut h
theorem r_text (x : Int) (h1 : (dg 10 x.natAbs).length ≤ 100000) : Spec Try.prog 64 [(NUM x).p] (VP.str (txt x)) :=
  spec1 fun v1 w p1 => by
    obtain ⟨a, c, rfl, i1⟩ := num_open p1
    exact (rtext_walk x a c w h1 i1).mono fun e w' h => ⟨_, h.1, rfl, h.2⟩
theorem r_make1 (s : Bool) (n : Nat) : Spec Try.prog 117 [(VP.bool s).p, (VP.nums .i64 (dg 10 n)).p] (NUM (sz s n)) :=
  spec2 fun v1 v2 w p1 p2 => by
    have p1 : v1 = .bool s := p1
    obtain ⟨a, c, rfl, h2, h3, h4⟩ := p2
    subst p1
    refine (rmk_walk s n a c w h2 h3 h4).mono fun e w' h => ⟨_, h.1, ?_, h.2⟩
    exact ⟨[_, _], rfl, rfl, ⟨a, c, by rw [sz_abs], by rw [sz_abs]; exact h2, h3, by rw [sz_abs]; exact (show Rd w a (ks .i64 (dg 10 n)) from h4).ext h.2⟩, trivial⟩
theorem r_makeQ (s : Bool) (n m k : Nat) (h : n < 10 ^ k) (_hk : k ≤ 100000) : Spec Try.prog 117 [(VP.bool s).p, (VP.nums .i64 (fixd 10 k (n / m))).p] (NUM (sz s (n / m))) :=
  spec2 fun v1 v2 w p1 p2 => by
    have p1 : v1 = .bool s := p1
    obtain ⟨a, c, rfl, h2, h3, h4⟩ := p2
    subst p1
    have hv : val 10 (fixd 10 k (n / m)) = n / m := by rw [fixd_val]; exact Nat.mod_eq_of_lt (Nat.lt_of_le_of_lt (Nat.div_le_self _ _) h)
    have hw := rmake1_walk s a c (fixd 10 k (n / m)) (fixd 10 k (n / m)).length w (fun d hd => fixd_lt ten_gt hd) rfl h2 h3 h4
    rw [hv] at hw
    refine hw.mono fun e w' h5 => ⟨_, h5.1, ?_, h5.2⟩
    have hl : (dg 10 (n / m)).length ≤ (fixd 10 k (n / m)).length := by
      rw [fixd_len, dg_len_le ten_gt]; exact Nat.lt_of_le_of_lt (Nat.div_le_self _ _) h
    have h6 : Rd w a (ks .i64 (dg 10 (n / m))) := by
      have h7 := (show Rd w a (ks .i64 (fixd 10 k (n / m))) from h4).take (stripN (fixd 10 k (n / m)) (fixd 10 k (n / m)).length)
      rw [ks_take] at h7
      rwa [show (fixd 10 k (n / m)).take (stripN (fixd 10 k (n / m)) (fixd 10 k (n / m)).length) = dg 10 (n / m) from by
        have := strip_fixd ten_gt k (n / m) (Nat.lt_of_le_of_lt (Nat.div_le_self _ _) h)
        exact this] at h7
    exact ⟨[_, _], rfl, rfl, ⟨a, c, by rw [sz_abs], by rw [sz_abs]; omega, h3, by rw [sz_abs]; exact h6.ext h5.2⟩, trivial⟩
/-- Same, at two integers -/
theorem r_same (x y : Int) (h1 : L x ≤ 100000) (h2 : L y ≤ 100000) : Spec Try.prog 51 [(INT x).p, (INT y).p] (VP.bool (decide (x = y))) :=
  spec2 fun v1 v2 w p1 p2 => by
    obtain ⟨a, c, rfl, i1⟩ := int_open p1
    obtain ⟨b, d, rfl, i2⟩ := int_open p2
    refine (rsame_walk (decide (x < 0)) (decide (y < 0)) (dg BB x.natAbs) (dg BB y.natAbs) a b c d w (by unfold L at *; omega) (by unfold L at *; omega) i1.2.2 i2.2.2).mono fun e w' h => ⟨_, h.1, ?_, h.2⟩
    show Value.bool _ = Value.bool _
    congr 1
    rw [Bool.eq_iff_iff]
    simp only [decide_eq_true_eq]
    constructor
    · rintro ⟨h3, h4⟩
      have h5 := dg_inj BB_gt h4
      have : (x < 0) ↔ (y < 0) := by
        constructor
        · intro h; rw [decide_eq_true h] at h3; exact of_decide_eq_true h3.symm
        · intro h; rw [decide_eq_true h] at h3; exact of_decide_eq_true h3
      omega
    · rintro rfl; exact ⟨rfl, rfl⟩
end Go.Proofs.Ytogodjiemgilaaa

/- Closed facts on the types of integers and fractions, and zeros. -/
namespace Go.Proofs.Ytogodjiemgilaaa
open Go.RowKit
theorem follow : Try.prog.follows .mixedOrders = true := by kernel_rfl
theorem nums_nil (k : IntKind) (w : World) : (VP.nums k []).p (.slice none 0 0) w := ⟨none, 0, rfl, Nat.le_refl _, by simp [maxLen], Rd.nil _ _⟩
theorem z_int (w : World) : All2 [Bz 0, Dz 0] [.bool false, .slice none 0 0] w := ⟨rfl, nums_nil _ _, trivial⟩
theorem z_num (w : World) : All2 [Bz 0, Tz 0] [.bool false, .slice none 0 0] w := ⟨rfl, nums_nil _ _, trivial⟩
theorem z_frac (w : World) : All2 [Bz 0, Dz 0, Bz 0, Dz 0] [.bool false, .slice none 0 0, .bool false, .slice none 0 0] w := ⟨rfl, nums_nil _ _, rfl, nums_nil _ _, trivial⟩
theorem z_rfrac (w : World) : All2 [Bz 0, Tz 0, Bz 0, Tz 0] [.bool false, .slice none 0 0, .bool false, .slice none 0 0] w := ⟨rfl, nums_nil _ _, rfl, nums_nil _ _, trivial⟩
theorem ty_agg_api_Int : aggTy Try.prog 69 2 = true := by kernel_rfl
theorem ty_zero_api_Int : zeroOf Try.prog 69 [.bool false, .slice none 0 0] := by unfold zeroOf; kernel_rfl
theorem ty_pl_api_Int : placesOf Try.prog 69 #[(0, 1), (1, 1)] := ⟨_, Try.underlying69, fun w => by kernel_rfl⟩
theorem ty_f0_api_Int : fieldAt Try.prog 69 0 0 = true := by kernel_rfl
theorem ty_f1_api_Int : fieldAt Try.prog 69 1 1 = true := by kernel_rfl
theorem ty_agg_collatorref01_Num : aggTy Try.prog 72 2 = true := by kernel_rfl
theorem ty_zero_collatorref01_Num : zeroOf Try.prog 72 [.bool false, .slice none 0 0] := by unfold zeroOf; kernel_rfl
theorem ty_pl_collatorref01_Num : placesOf Try.prog 72 #[(0, 1), (1, 1)] := ⟨_, Try.underlying72, fun w => by kernel_rfl⟩
theorem ty_f0_collatorref01_Num : fieldAt Try.prog 72 0 0 = true := by kernel_rfl
theorem ty_f1_collatorref01_Num : fieldAt Try.prog 72 1 1 = true := by kernel_rfl
theorem ty_agg_api_Frac : aggTy Try.prog 100 4 = true := by kernel_rfl
theorem ty_zero_api_Frac : zeroOf Try.prog 100 [.bool false, .slice none 0 0, .bool false, .slice none 0 0] := by unfold zeroOf; kernel_rfl
theorem ty_pl_api_Frac : placesOf Try.prog 100 #[(0, 2), (2, 2)] := ⟨_, Try.underlying100, fun w => by kernel_rfl⟩
theorem ty_f0_api_Frac : fieldAt Try.prog 100 0 0 = true := by kernel_rfl
theorem ty_f1_api_Frac : fieldAt Try.prog 100 1 2 = true := by kernel_rfl
theorem ty_agg_collatorref02_Frac : aggTy Try.prog 130 4 = true := by kernel_rfl
theorem ty_zero_collatorref02_Frac : zeroOf Try.prog 130 [.bool false, .slice none 0 0, .bool false, .slice none 0 0] := by unfold zeroOf; kernel_rfl
theorem ty_pl_collatorref02_Frac : placesOf Try.prog 130 #[(0, 2), (2, 2)] := ⟨_, Try.underlying130, fun w => by kernel_rfl⟩
theorem ty_f0_collatorref02_Frac : fieldAt Try.prog 130 0 0 = true := by kernel_rfl
theorem ty_f1_collatorref02_Frac : fieldAt Try.prog 130 1 2 = true := by kernel_rfl
theorem ty_one_bool : oneTy Try.prog 4 = true := by kernel_rfl
theorem ty_one___uint32 : oneTy Try.prog 67 = true := by kernel_rfl
theorem ty_one___int : oneTy Try.prog 35 = true := by kernel_rfl
theorem hb_collator_whole_Of : hasBody Try.prog 66 = true := by kernel_rfl
theorem hb_collator_whole_Add : hasBody Try.prog 52 = true := by kernel_rfl
theorem hb_collator_whole_Mul : hasBody Try.prog 55 = true := by kernel_rfl
theorem hb_collator_whole_Gcd : hasBody Try.prog 59 = true := by kernel_rfl
theorem hb_collator_whole_Cmp : hasBody Try.prog 61 = true := by kernel_rfl
theorem hb_collator_whole_Div : hasBody Try.prog 49 = true := by kernel_rfl
theorem hb_collator_whole_Neg : hasBody Try.prog 57 = true := by kernel_rfl
theorem hb_collator_whole_Text : hasBody Try.prog 63 = true := by kernel_rfl
theorem hb_collator_whole_Right : hasBody Try.prog 69 = true := by kernel_rfl
theorem hb_collator_whole_Small : hasBody Try.prog 65 = true := by kernel_rfl
theorem hb_collator_whole_Parse : hasBody Try.prog 67 = true := by kernel_rfl
theorem hb_collator_collatorref01_Of : hasBody Try.prog 48 = true := by kernel_rfl
theorem hb_collator_collatorref01_Form : hasBody Try.prog 53 = true := by kernel_rfl
theorem hb_collator_collatorref01_Add : hasBody Try.prog 54 = true := by kernel_rfl
theorem hb_collator_collatorref01_Mul : hasBody Try.prog 56 = true := by kernel_rfl
theorem hb_collator_collatorref01_Neg : hasBody Try.prog 58 = true := by kernel_rfl
theorem hb_collator_collatorref01_Cmp : hasBody Try.prog 62 = true := by kernel_rfl
theorem hb_collator_collatorref01_Int : hasBody Try.prog 71 = true := by kernel_rfl
theorem hb_collator_collatorref01_Text : hasBody Try.prog 64 = true := by kernel_rfl
theorem hb_collator_collatorref01_make1 : hasBody Try.prog 117 = true := by kernel_rfl
theorem hb_collator_collatorref01_Same : hasBody Try.prog 51 = true := by kernel_rfl
theorem hb_collator_collatorref01_Div : hasBody Try.prog 50 = true := by kernel_rfl
theorem hb_collator_collatorref01_Gcd : hasBody Try.prog 60 = true := by kernel_rfl
theorem hb_collator_collatorref01_Right : hasBody Try.prog 70 = true := by kernel_rfl
theorem hb_collator_collatorref01_Parse : hasBody Try.prog 68 = true := by kernel_rfl
theorem hb_collator_collatorlaw01_speaks : hasBody Try.prog 46 = true := by kernel_rfl
theorem hb_collator_collatorlaw01_Odd : hasBody Try.prog 47 = true := by kernel_rfl
theorem hb_collator_frac_under : hasBody Try.prog 134 = true := by kernel_rfl
theorem hb_collator_frac_zero : hasBody Try.prog 149 = true := by kernel_rfl
theorem hb_collator_frac_cross : hasBody Try.prog 133 = true := by kernel_rfl
theorem hb_collator_frac_Make : hasBody Try.prog 90 = true := by kernel_rfl
theorem hb_collator_frac_Of : hasBody Try.prog 77 = true := by kernel_rfl
theorem hb_collator_frac_Add : hasBody Try.prog 96 = true := by kernel_rfl
theorem hb_collator_frac_Mul : hasBody Try.prog 75 = true := by kernel_rfl
theorem hb_collator_frac_Div : hasBody Try.prog 78 = true := by kernel_rfl
theorem hb_collator_frac_Neg : hasBody Try.prog 76 = true := by kernel_rfl
theorem hb_collator_frac_Cmp : hasBody Try.prog 74 = true := by kernel_rfl
theorem hb_collator_frac_Floor : hasBody Try.prog 94 = true := by kernel_rfl
theorem hb_collator_frac_Text : hasBody Try.prog 102 = true := by kernel_rfl
theorem hb_collator_frac_Right : hasBody Try.prog 87 = true := by kernel_rfl
theorem hb_collator_collatorref02_Of : hasBody Try.prog 93 = true := by kernel_rfl
theorem hb_collator_collatorref02_Int : hasBody Try.prog 150 = true := by kernel_rfl
theorem hb_collator_collatorref02_Make : hasBody Try.prog 92 = true := by kernel_rfl
theorem hb_collator_collatorref02_Form : hasBody Try.prog 91 = true := by kernel_rfl
theorem hb_collator_collatorref02_Add : hasBody Try.prog 97 = true := by kernel_rfl
theorem hb_collator_collatorref02_Neg : hasBody Try.prog 100 = true := by kernel_rfl
theorem hb_collator_collatorref02_Mul : hasBody Try.prog 98 = true := by kernel_rfl
theorem hb_collator_collatorref02_Div : hasBody Try.prog 99 = true := by kernel_rfl
theorem hb_collator_collatorref02_Cmp : hasBody Try.prog 101 = true := by kernel_rfl
theorem hb_collator_collatorref02_Floor : hasBody Try.prog 95 = true := by kernel_rfl
theorem hb_collator_collatorref02_Right : hasBody Try.prog 88 = true := by kernel_rfl
theorem hb_collator_collatorref02_Same : hasBody Try.prog 89 = true := by kernel_rfl
theorem hb_collator_collatorref02_Text : hasBody Try.prog 103 = true := by kernel_rfl
theorem hb_collator_collatorlaw02_speaks : hasBody Try.prog 72 = true := by kernel_rfl
theorem hb_collator_collatorlaw02_Odd : hasBody Try.prog 73 = true := by kernel_rfl
end Go.Proofs.Ytogodjiemgilaaa

/- The reference's Div: the loops. -/
namespace Go.Proofs.Ytogodjiemgilaaa
open Go.RowKit

/-- the boxes of the quotient's arguments and results -/
def N4 (w W : World) (u0 u1 v0 v1 : Value) : Prop := Row W w.heap.size 72 [u0, u1] ∧ Row W (w.heap.size + 1) 72 [v0, v1] ∧ Row W (w.heap.size + 1 + 1) 72 [.bool false, .slice none 0 0] ∧ Row W (w.heap.size + 1 + 1 + 1) 72 [.bool false, .slice none 0 0]
theorem N4.ext {w W W' : World} {u0 u1 v0 v1 : Value} (h : N4 w W u0 u1 v0 v1) (e : Ext W W') : N4 w W' u0 u1 v0 v1 := ⟨h.1.ext e, h.2.1.ext e, h.2.2.1.ext e, h.2.2.2.ext e⟩
theorem N4.new (w : World) (u0 u1 v0 v1 : Value) :
    ∃ W0, (((w.alloc (.cells #[u0, u1] 72)).alloc (.cells #[v0, v1] 72)).alloc (.cells #[.bool false, .slice none 0 0] 72)).alloc (.cells #[.bool false, .slice none 0 0] 72) = W0 ∧ N4 w W0 u0 u1 v0 v1 ∧ Ext w W0 ∧ W0.heap.size = w.heap.size + 1 + 1 + 1 + 1 := by
  obtain ⟨W, hW, q0, q1, q2, x, hs⟩ := two_nums w u0 u1 v0 v1
  rw [hW]
  refine ⟨_, rfl, ⟨q0.alloc _, q1.alloc _, q2.alloc _, ?_⟩, x.alloc _, by simp [hs]⟩
  have := Row.new W 72 [.bool false, .slice none 0 0]
  rwa [hs] at this

set_option maxRecDepth 100000 in
set_option maxHeartbeats 4000000 in
theorem rdiv_walk (z1 z2 : Int) (a b : Option Addr) (ca cb : Nat) (w : World) (hb1 : (dg 10 z1.natAbs).length ≤ 100000) (hb2 : (dg 10 z2.natAbs).length ≤ 100000) (h1 : IsNum w z1 a ca) (h2 : IsNum w z2 b cb) (h0 : z2 ≠ 0) :
    Calls Try.prog 50 #[.agg #[.bool (decide (z1 < 0)), .slice a (dg 10 z1.natAbs).length ca], .agg #[.bool (decide (z2 < 0)), .slice b (dg 10 z2.natAbs).length cb]] w (post w (VP.tup [NUM (divZ z1 z2), NUM (modZ z1 z2)])) := by
  have ha := h1.2.2
  have hb := h2.2.2
  have hm : 0 < z2.natAbs := by omega
  have h1c := h1.1
  have h2c := h2.1
  have h1m := h1.2.1
  have h2m := h2.2.1
  clear h1 h2 h0
  obtain ⟨n, hgn⟩ : ∃ n, z1.natAbs = n := ⟨_, rfl⟩
  obtain ⟨m, hgm⟩ : ∃ m, z2.natAbs = m := ⟨_, rfl⟩
  obtain ⟨s1, hgs1⟩ : ∃ s1, decide (z1 < 0) = s1 := ⟨_, rfl⟩
  obtain ⟨s2, hgs2⟩ : ∃ s2, decide (z2 < 0) = s2 := ⟨_, rfl⟩
  have HE := Lib.hid (And.intro hgn (And.intro hgm (And.intro hgs1 hgs2)))
  rw [hgn] at hb1 ha h1c ⊢
  rw [hgm] at hb2 hb h2c hm ⊢
  rw [hgs1, hgs2]
  clear hgn hgm hgs1 hgs2
  have hNN := lt_pow_len ten_gt n
  have hl0 := dg_len0 ten_gt m
  generalize hna : (dg 10 n).length = na at *
  generalize hnb : (dg 10 m).length = nb at *
  have HNA := Lib.hid hna
  have HNB := Lib.hid hnb
  have HN := Lib.hid hNN
  have HA := Lib.hid ha
  have HB := Lib.hid hb
  have hnb0 : 0 < nb := by omega
  have HM := Lib.hid hm
  clear hna hnb hNN ha hb hl0
  go_enter Try.func50, Try.ntmps50
  obtain ⟨W1, hW1, q0, x1, hs1⟩ := N4.new w (.bool s1) (.slice a na ca) (.bool s2) (.slice b nb cb)
  have Q := Lib.hid (And.intro q0 (And.intro x1 (And.intro hs1 hW1)))
  clear q0 x1 hs1 hW1
  go_wp2_with (at_make; rw [Q.out.2.2.2]; refine make_one elemI64 rfl rfl _ _ rfl rfl rfl (n := na) (by omega) (by omega) (by omega) (by unfold maxLen; omega) ?_; intro w0 hrow0 hext0; have k0 := (Q.out.1.1.ext hext0).cell (i := 0) rfl; have k1 := (Q.out.1.1.ext hext0).cell (i := 1) rfl; have k2 := (Q.out.1.2.1.ext hext0).cell (i := 0) rfl; have k3 := (Q.out.1.2.1.ext hext0).cell (i := 1) rfl; have kk1 := (Q.out.1.1.ext (hext0.alloc (.cells #[] 3))).cell (i := 1) rfl)
  have own0 := own_emptyE w0 3
  rw [ks_replicate] at hrow0
  have F0 := own_from own0
  have X0 := hext0.alloc (.cells #[] 3)
  have R0 := hrow0.alloc (.cells #[] 3)
  have hw0 := hext0.size
  have hgq : W1.heap.size < w0.heap.size := hrow0.lt
  go_loopw [7, 8] (fun rv iv wr => ∃ k : Nat, k ≤ na ∧ iv = .int .i64 ((na : Int) - 1 - k) ∧ ∃ a' c', rv = .slice a' (dg 10 (n / 10 ^ (na - k) % m)).length c' ∧ (dg 10 (n / 10 ^ (na - k) % m)).length ≤ c' ∧ c' ≤ maxLen ∧ Rd wr a' (ks .i64 (dg 10 (n / 10 ^ (na - k) % m))) ∧ From (W1.heap.size + 1) a' ∧ Row wr W1.heap.size 3 (ks .i64 (dvQ 10 n m na k)) ∧ Ext W1 wr) (fun _ iv _ => (intOf iv + 1).toNat)
  case atStart =>
    have hz : n / 10 ^ (na - 0) % m = 0 := by rw [Nat.sub_zero, Nat.div_eq_of_lt HN.out]; exact Nat.zero_mod m
    have hQ0 : dvQ 10 n m na 0 = List.replicate na 0 := by
      have h := dvS_down ten_gt n m na HM.out HN.out 0 (Nat.zero_le _)
      rw [List.range_zero, List.map_nil, dvS_nil] at h
      exact (Prod.mk.inj h).1.symm
    refine ⟨0, by omega, by simp, some ⟨w0.heap.size, 0, none⟩, 0, by rw [hz]; rfl, by rw [hz]; exact Nat.le_refl _, by simp [maxLen], by rw [hz]; exact Rd.nil _ _, ?_, by rw [hQ0]; exact R0, X0⟩
    intro ad e
    cases e
    exact hgq
  case round =>
    obtain ⟨k, hk, rfl, a', c', rfl, j1, j2, j3, j4, j5, hext⟩ := hrel
    clear own0 F0 X0 R0 hrow0 hext0 k0 k1 k2 k3 kk1 hw0 hgq
    have k0 := (Q.out.1.1.ext hext).cell (i := 0) rfl
    have k1 := (Q.out.1.1.ext hext).cell (i := 1) rfl
    have k2 := (Q.out.1.2.1.ext hext).cell (i := 0) rfl
    have k3 := (Q.out.1.2.1.ext hext).cell (i := 1) rfl
    by_cases hlt : k < na
    · obtain ⟨p, hp⟩ : ∃ p : Nat, (na : Int) - 1 - k = (p : Int) := ⟨na - 1 - k, by omega⟩
      have hpn : p < na := by omega
      have HPP : Hid (p = na - 1 - k) := by show _ = _; omega
      obtain ⟨ba, oa, rfl, hca⟩ := (HA.out.ext (Q.out.2.1.trans hext)).num (i := p) (by rw [HNA.out]; exact hpn)
      rw [fdig10] at hca
      have hRm : n / 10 ^ (na - k) % m < m := Nat.mod_lt _ HM.out
      obtain ⟨st1, st2⟩ := rdiv_step ten_gt n m na k p HM.out HN.out hlt HPP.out
      have hx : n / 10 ^ p % 10 < 10 := Nat.mod_lt _ (by decide)
      have hlenR : (dg 10 (n / 10 ^ (na - k) % m)).length ≤ nb := by rw [← HNB.out]; exact dg_len_mono ten_gt (Nat.le_of_lt hRm)
      generalize n / 10 ^ (na - k) % m = R at *
      generalize n / 10 ^ p % 10 = x at *
      have HST1 := Lib.hid st1
      have HST2 := Lib.hid st2
      have HRM := Lib.hid hRm
      rw [hp]
      clear st1 st2 hp hRm
      have ownD := (Row.new wr 3 [.int .i64 (x : Int)]).own (base := wr.heap.size) (Nat.le_refl _) (by simp [maxLen])
      go_wp2_with (at_builtin; refine append_row elemI64 (W := wr) ownD (Ext.new _ _) (by rw [ks_len, Nat.mul_one]) (j3.alloc _) (by unfold maxLen; simp; omega) (by simp; omega) (by simp [ks, Value.oneCell']) rfl _ _ rfl rfl rfl ?_; intro v1 w1 own1 x1 hg1; obtain ⟨a1, c1, rfl, f1, f2, f3⟩ := own_form own1)
      obtain ⟨t, ht⟩ : ∃ t, t = x + 10 * R := ⟨_, rfl⟩
      rw [← ht] at HST1 HST2
      have HTM : Hid (t < 10 * m) := by have := HRM.out; show _ < _; omega
      have hstrip : strip (x :: dg 10 R) = dg 10 t := by
        rw [strip_dg ten_gt _ (fun d hd => by
          rcases List.mem_cons.1 hd with h | h
          · rw [h]; exact hx
          · exact dg_lt ten_gt h)]
        simp only [val]; rw [val_dg ten_gt, ht]
      have hklen : stripN (x :: dg 10 R) (x :: dg 10 R).length = (dg 10 t).length := by rw [← strip_len, hstrip]
      have HC := Lib.hid (rcut_walk a1 c1 (x :: dg 10 R) (1 + (dg 10 R).length) w1 (by rw [List.length_cons, Nat.add_comm]) f1 f2 f3)
      rw [hklen] at HC
      have f4 : Rd w1 a1 (ks .i64 (dg 10 t)) := by
        have h6 := f3.take (stripN (x :: dg 10 R) (x :: dg 10 R).length)
        rw [show [Value.int .i64 (x : Int)] ++ ks .i64 (dg 10 R) = ks .i64 (x :: dg 10 R) from rfl, ks_take] at h6
        rwa [show (x :: dg 10 R).take (stripN (x :: dg 10 R) (x :: dg 10 R).length) = dg 10 t from hstrip] at h6
      have f5 : (dg 10 t).length ≤ c1 := by rw [← hklen]; exact Nat.le_trans (stripN_le _ _) (by rw [List.length_cons, Nat.add_comm]; exact f1)
      refine HC.out.mono ?_
      rintro e w2 ⟨rfl, rfl⟩
      have hQ0 : (dvQ 10 n m na k).set p 0 = dvQ 10 n m na k := by
        have hz := dvQ_get0 10 n m na k p hlt HPP.out
        apply List.ext_getElem?
        intro i
        rw [List.getElem?_set]
        by_cases hi : p = i
        · subst hi; rw [if_pos rfl, if_pos (by rw [dvQ_len]; exact hpn), hz]
        · rw [if_neg hi]
      have e1 := j5.ext x1
      have hext1 := hext.trans x1
      have hfa : From (W1.heap.size + 1) a1 := (own_from own1).mono (by have := j5.lt; omega)
      have hlen2 : (dg 10 t).length ≤ nb + 1 := by
        rw [← hklen]; exact Nat.le_trans (stripN_le _ _) (by rw [List.length_cons]; omega)
      have G := Lib.hid (And.intro f4 (And.intro f5 (And.intro f2 (And.intro hfa (And.intro e1 (And.intro hext1 (And.intro hQ0 hlen2)))))))
      clear f1 f2 f3 f4 f5 own1 ownD hg1 x1 e1 hext1 hfa hQ0 hlen2 j1 j2 j3 j4 j5 hext hca hstrip hklen k0 k1 k2 k3 HC ht
      go_wp2_with fail
      go_loopg [7] t (fun g rv wr => ∃ (c : Nat) (a' : Option Addr) (c' : Nat), c * m ≤ t ∧ g = t - c * m ∧ rv = .slice a' (dg 10 (t - c * m)).length c' ∧ (dg 10 (t - c * m)).length ≤ c' ∧ c' ≤ maxLen ∧ Rd wr a' (ks .i64 (dg 10 (t - c * m))) ∧ From (W1.heap.size + 1) a' ∧ Row wr W1.heap.size 3 (ks .i64 ((dvQ 10 n m na k).set p c)) ∧ Ext W1 wr)
      case atStart =>
        have ht0 : t - 0 * m = t := by rw [Nat.zero_mul, Nat.sub_zero]
        refine ⟨0, a1, c1, by omega, ht0.symm, by rw [ht0], by rw [ht0]; exact G.out.2.1, G.out.2.2.1, by rw [ht0]; exact G.out.1, G.out.2.2.2.1, by rw [G.out.2.2.2.2.2.2.1]; exact G.out.2.2.2.2.1, G.out.2.2.2.2.2.1⟩
      case round =>
        obtain ⟨c, a', c', hct, hgk, rfl, g1, g2, g3, g4, g5, g6⟩ := hrel
        have k2 := (Q.out.1.2.1.ext g6).cell (i := 0) rfl
        have k3 := (Q.out.1.2.1.ext g6).cell (i := 1) rfl
        have hlr : (dg 10 (t - c * m)).length ≤ 200000 := Nat.le_trans (dg_len_mono ten_gt (Nat.sub_le _ _)) (by have := G.out.2.2.2.2.2.2.2; omega)
        have HCM := Lib.hid (fun W (h1 : Rd W a' (ks .i64 (dg 10 (t - c * m)))) (h2 : Rd W b (ks .i64 (dg 10 m))) => rcmp_walk a' b c' cb (t - c * m) m W (by omega) (by rw [HNB.out]; omega) h1 h2)
        have HSB := Lib.hid (fun W (hle : m ≤ t - c * m) (h1 : Rd W a' (ks .i64 (dg 10 (t - c * m)))) (h2 : Rd W b (ks .i64 (dg 10 m))) => rsub_walk a' b c' cb (t - c * m) m W hle (by omega) (by rw [HNB.out]; omega) h1 h2)
        rw [HNB.out] at HCM HSB
        have hge := cmpN_ge (t - c * m) m
        have hc10 : c < 10 := Nat.lt_of_mul_lt_mul_right (Nat.lt_of_le_of_lt hct HTM.out)
        have I := Lib.hid (And.intro hct (And.intro hgk (And.intro g1 (And.intro g2 (And.intro g3 (And.intro g4 (And.intro g5 (And.intro g6 hlr))))))))
        clear hct hgk g1 g2 g3 g4 g5 g6 hlr
        generalize cmpN (t - c * m) m = q at *
        obtain ⟨u, hu⟩ : ∃ u, t - c * m = u := ⟨_, rfl⟩
        have HU := Lib.hid hu
        rw [hu] at HCM HSB hge ⊢
        clear hu
        by_cases hq : 0 ≤ q
        · have hle := hge.1 hq
          have HLE := Lib.hid hle
          clear hge hle
          go_wp2_with fail
          refine (HCM.out _ (by rw [← HU.out]; exact I.out.2.2.2.2.1) (HB.out.ext (Q.out.2.1.trans I.out.2.2.2.2.2.2.2.1))).mono ?_
          rintro e w3 ⟨rfl, x3⟩
          have e2 := (Q.out.1.2.1.ext (I.out.2.2.2.2.2.2.2.1.trans x3)).cell (i := 0) rfl
          have e3 := (Q.out.1.2.1.ext (I.out.2.2.2.2.2.2.2.1.trans x3)).cell (i := 1) rfl
          clear k2 k3
          go_wp2_with fail
          refine (HSB.out _ HLE.out (by rw [← HU.out]; exact I.out.2.2.2.2.1.ext x3) (HB.out.ext (Q.out.2.1.trans (I.out.2.2.2.2.2.2.2.1.trans x3)))).mono ?_
          rintro e w4 ⟨a4, c4, rfl, t1, t2, t3, t4, t5⟩
          have rq := (I.out.2.2.2.2.2.2.1.ext x3).ext t4
          have hqc : (ks .i64 ((dvQ 10 n m na k).set p c))[p]? = some (.int .i64 (c : Int)) := by
            rw [ks, List.getElem?_map, List.getElem?_set_self (by rw [dvQ_len]; exact hpn)]; rfl
          have cq := rq.cell hqc
          have fq := rq.frozen p
          have RQ := Lib.hid rq
          clear rq hqc e2 e3
          go_wp2_with fail
          go_roundg (t - (c + 1) * m)
          case measure =>
            have h1 := I.out.2.1
            have h2 := HLE.out
            have h3 := HU.out
            have h4 := HM.out
            rw [Nat.add_mul, Nat.one_mul]
            omega
          case rel =>
            obtain ⟨hct, hgk, g1, g2, g3, g4, g5, g6, hlr⟩ := I.out
            have h2 := HLE.out
            have h3 := HU.out
            have hnew : t - (c + 1) * m = u - m := by rw [Nat.add_mul, Nat.one_mul]; omega
            have hfr : ∀ bb off, a4 = some ⟨bb, off, none⟩ → bb ≠ W1.heap.size := fun bb off e => by
              have := t5 _ e
              have h6 := (g5.ext x3).lt
              simp only at this; omega
            refine ⟨c + 1, a4, c4, by rw [Nat.add_mul, Nat.one_mul]; omega, rfl, by rw [hnew], by rw [hnew]; exact t1, t2, ?_, ?_, ?_, (((g6.trans x3).trans t4).set (p := ⟨W1.heap.size, p, none⟩) (Nat.le_refl _) _)⟩
            · rw [hnew]
              exact t3.keep fun bb off e _ => Below.heap_setCell _ _ _ _ (hfr bb off e)
            · intro ad e
              have := t5 _ e
              have h6 := (g5.ext x3).lt
              omega
            · have h7 := RQ.out.set p (.int .i64 ((c + 1 : Nat) : Int))
              rw [ks_set, List.set_set] at h7
              exact h7
        · have hlt2 : u < m := by have := fun h => hq (hge.2 h); omega
          have HLT2 := Lib.hid hlt2
          clear hge hlt2
          go_wp2_with fail
          refine (HCM.out _ (by rw [← HU.out]; exact I.out.2.2.2.2.1) (HB.out.ext (Q.out.2.1.trans I.out.2.2.2.2.2.2.2.1))).mono ?_
          rintro e w3 ⟨rfl, x3⟩
          clear k2 k3
          go_wp2_with fail
          go_roundw
          case rel =>
            obtain ⟨hct, hgk, g1, g2, g3, g4, g5, g6, hlr⟩ := I.out
            have h2 := HLT2.out
            have h3 := HU.out
            have hp2 := HPP.out
            have hdm : t = c * m + u := by omega
            have hdiv : t / m = c := by rw [hdm, Nat.mul_comm, Nat.mul_add_div HM.out, Nat.div_eq_of_lt h2, Nat.add_zero]
            have hmod : t % m = u := by rw [hdm, Nat.mul_comm, Nat.mul_add_mod, Nat.mod_eq_of_lt h2]
            rw [h3] at g1 g3
            have e1 := HST1.out
            have e2 := HST2.out
            rw [hmod] at e1
            rw [hdiv] at e2
            refine ⟨k + 1, by omega, ?_, a', c', by rw [e1], by rw [e1]; exact g1, g2, by rw [e1]; exact g3.ext x3, g4, by rw [e2]; exact g5.ext x3, g6.trans x3⟩
            congr 1; omega
          case measure => simp [intOf] <;> omega
    · obtain rfl : k = na := by omega
      rw [Nat.sub_self, Nat.pow_zero, Nat.div_one] at j1 j3 ⊢
      rw [dvQ_all] at j5
      go_upto_region 12 with (fail)
      obtain ⟨rfl, rfl, rfl, rfl⟩ := HE.out
      have hk1 := hb1
      refine tail_in (F := ⟨Try.prog, w, 82, [2, 3, 4, 5, 9, 10]⟩) (fs := [.box 2 72 [Bz z1, Tz z1], .box 3 72 [Bz z2, Tz z2], .box 4 72 [Bz 0, Tz 0], .box 5 72 [Bz 0, Tz 0], .slot 6 (VP.nums .i64 (fixd 10 k (z1.natAbs / z2.natAbs))), .slot 7 (VP.nums .i64 (dg 10 (z1.natAbs % z2.natAbs)))]) ?_ (by assumption) ?_
      case refine_2 =>
        have q := Q.out
        refine ⟨⟨rfl, rfl, q.2.1.trans hext, ?_, ?_⟩, ?_⟩
        · intro k hk g hg
          simp only [List.mem_cons, List.not_mem_nil, or_false] at hk
          rcases hk with rfl | rfl | rfl | rfl | rfl | rfl <;> first | (cases hg; have := q.2.2.1; have := hext.size; dsimp only; omega) | (cases hg; done)
        · intro k hk k' hk' hne g hg hg'
          simp only [List.mem_cons, List.not_mem_nil, or_false] at hk hk'
          rcases hk with rfl | rfl | rfl | rfl | rfl | rfl <;> rcases hk' with rfl | rfl | rfl | rfl | rfl | rfl <;> first | exact hne rfl | (cases hg; cases hg'; done) | (cases hg; done) | (have h3 := Option.some.inj hg; have h4 := Option.some.inj hg'; unfold ptr at h3 h4; injection h3 with h3; injection h3 with h3; injection h3 with h3; injection h4 with h4; injection h4 with h4; injection h4 with h4; omega)
        · have hkk : k ≤ maxLen := by unfold maxLen; omega
          intro f hf
          simp only [List.mem_cons, List.not_mem_nil, or_false] at hf
          rcases hf with rfl | rfl | rfl | rfl | rfl | rfl
          · exact ⟨_, _, rfl, q.1.1.ext hext, rfl, ⟨a, ca, by rw [HNA.out], by rw [HNA.out]; exact h1c, h1m, (HA.out.ext (q.2.1.trans hext))⟩, trivial⟩
          · exact ⟨_, _, rfl, q.1.2.1.ext hext, rfl, ⟨b, cb, by rw [HNB.out], by rw [HNB.out]; exact h2c, h2m, (HB.out.ext (q.2.1.trans hext))⟩, trivial⟩
          · exact ⟨_, _, rfl, q.1.2.2.1.ext hext, z_num _⟩
          · exact ⟨_, _, rfl, q.1.2.2.2.ext hext, z_num _⟩
          · exact ⟨.slice (some ⟨W1.heap.size, 0, none⟩) k k, rfl, some ⟨W1.heap.size, 0, none⟩, k, by rw [fixd_len], by rw [fixd_len]; exact Nat.le_refl _, hkk, j5.rd⟩
          · exact ⟨_, rfl, a', c', rfl, j1, j2, j3⟩
      have hbz1 : (dg 10 z1.natAbs).length ≤ 100000 := by rw [HNA.out]; exact hb1
      have hbz2 : (dg 10 z2.natAbs).length ≤ 100000 := by rw [HNB.out]; exact hb2
      have HLQ : (dg 10 (z1.natAbs / z2.natAbs)).length ≤ 100000 := Nat.le_trans (dg_len_mono ten_gt (Nat.div_le_self _ _)) hbz1
      have HLR : (dg 10 (z1.natAbs % z2.natAbs)).length ≤ 100000 := Nat.le_trans (dg_len_mono ten_gt (Nat.le_of_lt (Nat.mod_lt _ HM.out))) hbz2
      clear HA HB Q j5 j3 j4 hext
      by_cases g1 : z1 < 0
      · by_cases g0 : z1.natAbs % z2.natAbs = 0
        · have e0 := div_sign2 z1 z2 HM.out (by rw [g0]; simp)
          rw [decide_eq_true g1] at e0
          have e1 : sz (decide (z1 < 0)) (z1.natAbs % z2.natAbs) = modZ z1 z2 := by rw [← e0.2, g0, decide_eq_true g1]; rfl
          have e2 := e0.1
          rw [show (true != decide (z2 < 0)) = (!(true == decide (z2 < 0))) from rfl] at e2
          rw [← e1, ← e2]
          refine t_region (F := ⟨_, _, _, _⟩) [.box 2 72 [Bz z1, Tz z1], .box 3 72 [Bz z2, Tz z2], .box 4 72 [Bz 0, Tz 0], .box 5 72 [Bz 0, Tz 0], .slot 6 (VP.nums .i64 (fixd 10 k (z1.natAbs / z2.natAbs))), .slot 7 (VP.nums .i64 (dg 10 (z1.natAbs % z2.natAbs)))] [] [(0, .fp 54 2 0), (1, .slot 55 (Bz z1)), (2, .fp 56 3 0), (3, .slot 57 (Bz z2)), (4, .slot 58 (VP.bool (!(true == (decide (z2 < 0)))))), (5, .slot 59 (VP.nums .i64 (fixd 10 k (z1.natAbs / z2.natAbs)))), (6, .slot 60 (NUM (sz (!(true == (decide (z2 < 0)))) (z1.natAbs / z2.natAbs)))), (7, .own 9 72 2), (8, .box 9 72 [Bz (sz (!(true == (decide (z2 < 0)))) (z1.natAbs / z2.natAbs)), Tz (sz (!(true == (decide (z2 < 0)))) (z1.natAbs / z2.natAbs))])] [] [0, 1, 2, 3, 4, 5] [] rfl rfl follow rfl ⟨
            .inl ⟨wants_plain rfl, does_field _ _ _ 0 ty_f0_collatorref01_Num rfl rfl rfl rfl rfl rfl rfl (pt_box (av_fs 0 rfl))⟩,
            .inl ⟨wants_plain rfl, does_loadOne _ ty_one_bool rfl rfl rfl rfl rfl rfl (pt_fp (av_rs 0 rfl rfl)) (av_fs 0 rfl)⟩,
            .inl ⟨wants_plain rfl, does_field _ _ _ 0 ty_f0_collatorref01_Num rfl rfl rfl rfl rfl rfl rfl (pt_box (av_fs 1 rfl))⟩,
            .inl ⟨wants_plain rfl, does_loadOne _ ty_one_bool rfl rfl rfl rfl rfl rfl (pt_fp (av_rs 2 rfl rfl)) (av_fs 1 rfl)⟩,
            .inl ⟨wants_plain rfl, does_eqBool (u := true) (v := (decide (z2 < 0))) _ _ _ _ _ (by kernel_rfl) rfl rfl rfl rfl rfl rfl (ar_tmp (av_bool (decide_eq_true g1) (av_rs 1 rfl rfl))) (ar_tmp (av_rs 3 rfl rfl))⟩,
            .inl ⟨wants_plain rfl, does_move _ (.inl rfl) rfl rfl rfl rfl (ar_tmp (av_fs 4 rfl))⟩,
            .inl ⟨wants_plain rfl, does_call (r_makeQ (!(true == (decide (z2 < 0)))) z1.natAbs z2.natAbs k HN.out hk1) rfl hb_collator_collatorref01_make1 rfl rfl rfl rfl ⟨(ar_tmp (av_rs 4 rfl rfl)), (ar_tmp (av_rs 5 rfl rfl)), trivial⟩⟩,
            .inl ⟨wants_plain rfl, does_allocOwn [Bz 0, Tz 0] ty_zero_collatorref01_Num rfl rfl rfl rfl rfl z_num rfl⟩,
            .inl ⟨wants_plain rfl, does_storeNew 2 _ _ ty_agg_collatorref01_Num rfl rfl rfl rfl rfl (pt_own (av_rs 7 rfl rfl)) (av_rs 7 rfl rfl) (ar_tmp (av_rs 6 rfl rfl))⟩,
            trivial⟩ ?_
          refine nx_sub (fs' := [.box 2 72 [Bz z1, Tz z1], .box 3 72 [Bz z2, Tz z2], .box 4 72 [Bz 0, Tz 0], .box 5 72 [Bz 0, Tz 0], .slot 7 (VP.nums .i64 (dg 10 (z1.natAbs % z2.natAbs))), .box 9 72 [Bz (sz (!(true == (decide (z2 < 0)))) (z1.natAbs / z2.natAbs)), Tz (sz (!(true == (decide (z2 < 0)))) (z1.natAbs / z2.natAbs))]]) [0, 1, 2, 3, 5, 14] rfl ?_
          refine nx_then ?_
          refine t_seq ?_
          refine t_region (F := ⟨_, _, _, _⟩) [.box 2 72 [Bz z1, Tz z1], .box 3 72 [Bz z2, Tz z2], .box 4 72 [Bz 0, Tz 0], .box 5 72 [Bz 0, Tz 0], .slot 7 (VP.nums .i64 (dg 10 (z1.natAbs % z2.natAbs))), .box 9 72 [Bz (sz (!(true == (decide (z2 < 0)))) (z1.natAbs / z2.natAbs)), Tz (sz (!(true == (decide (z2 < 0)))) (z1.natAbs / z2.natAbs))]] [] [(0, .fp 61 2 0), (1, .slot 62 (Bz z1)), (2, .slot 63 (VP.nums .i64 (dg 10 (z1.natAbs % z2.natAbs)))), (3, .slot 64 (NUM (sz (decide (z1 < 0)) (z1.natAbs % z2.natAbs)))), (4, .own 10 72 2), (5, .box 10 72 [Bz (sz (decide (z1 < 0)) (z1.natAbs % z2.natAbs)), Tz (sz (decide (z1 < 0)) (z1.natAbs % z2.natAbs))])] [] [0, 1, 2, 3, 4, 5] [] rfl rfl follow rfl ⟨
            .inl ⟨wants_plain rfl, does_field _ _ _ 0 ty_f0_collatorref01_Num rfl rfl rfl rfl rfl rfl rfl (pt_box (av_fs 0 rfl))⟩,
            .inl ⟨wants_plain rfl, does_loadOne _ ty_one_bool rfl rfl rfl rfl rfl rfl (pt_fp (av_rs 0 rfl rfl)) (av_fs 0 rfl)⟩,
            .inl ⟨wants_plain rfl, does_move _ (.inl rfl) rfl rfl rfl rfl (ar_tmp (av_fs 4 rfl))⟩,
            .inl ⟨wants_plain rfl, does_call (r_make1 (decide (z1 < 0)) (z1.natAbs % z2.natAbs)) rfl hb_collator_collatorref01_make1 rfl rfl rfl rfl ⟨(ar_tmp (av_rs 1 rfl rfl)), (ar_tmp (av_rs 2 rfl rfl)), trivial⟩⟩,
            .inl ⟨wants_plain rfl, does_allocOwn [Bz 0, Tz 0] ty_zero_collatorref01_Num rfl rfl rfl rfl rfl z_num rfl⟩,
            .inl ⟨wants_plain rfl, does_storeNew 2 _ _ ty_agg_collatorref01_Num rfl rfl rfl rfl rfl (pt_own (av_rs 4 rfl rfl)) (av_rs 4 rfl rfl) (ar_tmp (av_rs 3 rfl rfl))⟩,
            trivial⟩ ?_
          refine nx_sub (fs' := [.box 3 72 [Bz z2, Tz z2], .box 4 72 [Bz 0, Tz 0], .box 5 72 [Bz 0, Tz 0], .box 9 72 [Bz (sz (!(true == (decide (z2 < 0)))) (z1.natAbs / z2.natAbs)), Tz (sz (!(true == (decide (z2 < 0)))) (z1.natAbs / z2.natAbs))], .box 10 72 [Bz (sz (decide (z1 < 0)) (z1.natAbs % z2.natAbs)), Tz (sz (decide (z1 < 0)) (z1.natAbs % z2.natAbs))]]) [1, 2, 3, 5, 11] rfl ?_
          refine nx_then ?_
          refine t_seq ?_
          refine t_seq ?_
          refine t_region (F := ⟨_, _, _, _⟩) [.box 3 72 [Bz z2, Tz z2], .box 4 72 [Bz 0, Tz 0], .box 5 72 [Bz 0, Tz 0], .box 9 72 [Bz (sz (!(true == (decide (z2 < 0)))) (z1.natAbs / z2.natAbs)), Tz (sz (!(true == (decide (z2 < 0)))) (z1.natAbs / z2.natAbs))], .box 10 72 [Bz (sz (decide (z1 < 0)) (z1.natAbs % z2.natAbs)), Tz (sz (decide (z1 < 0)) (z1.natAbs % z2.natAbs))]] [] [(0, .fp 65 10 0), (1, .slot 66 (Bz (sz (decide (z1 < 0)) (z1.natAbs % z2.natAbs))))] [] [0, 1, 2, 3, 4] [] rfl rfl follow rfl ⟨
            .inl ⟨wants_plain rfl, does_field _ _ _ 0 ty_f0_collatorref01_Num rfl rfl rfl rfl rfl rfl rfl (pt_box (av_fs 4 rfl))⟩,
            .inl ⟨wants_plain rfl, does_loadOne _ ty_one_bool rfl rfl rfl rfl rfl rfl (pt_fp (av_rs 0 rfl rfl)) (av_fs 4 rfl)⟩,
            trivial⟩ ?_
          refine nx_sub (fs' := [.box 3 72 [Bz z2, Tz z2], .box 4 72 [Bz 0, Tz 0], .box 5 72 [Bz 0, Tz 0], .box 9 72 [Bz (sz (!(true == (decide (z2 < 0)))) (z1.natAbs / z2.natAbs)), Tz (sz (!(true == (decide (z2 < 0)))) (z1.natAbs / z2.natAbs))], .box 10 72 [Bz (sz (decide (z1 < 0)) (z1.natAbs % z2.natAbs)), Tz (sz (decide (z1 < 0)) (z1.natAbs % z2.natAbs))], .slot 66 (Bz (sz (decide (z1 < 0)) (z1.natAbs % z2.natAbs)))]) [0, 1, 2, 3, 4, 6] rfl ?_
          refine nx_then ?_
          refine t_cond_fe 5 rfl (by rw [g0, decide_eq_true g1]; rfl) ?_
          refine t_skip ?_
          refine nx_then ?_
          refine t_seq ?_
          refine t_region (F := ⟨_, _, _, _⟩) [.box 3 72 [Bz z2, Tz z2], .box 9 72 [Bz (sz (!(true == (decide (z2 < 0)))) (z1.natAbs / z2.natAbs)), Tz (sz (!(true == (decide (z2 < 0)))) (z1.natAbs / z2.natAbs))], .box 10 72 [Bz (sz (decide (z1 < 0)) (z1.natAbs % z2.natAbs)), Tz (sz (decide (z1 < 0)) (z1.natAbs % z2.natAbs))], .slot 66 (Bz (sz (decide (z1 < 0)) (z1.natAbs % z2.natAbs)))] [(2, .box 4 72 [Bz 0, Tz 0]), (3, .box 5 72 [Bz 0, Tz 0])] [(0, .slot 80 (NUM (sz (!(true == (decide (z2 < 0)))) (z1.natAbs / z2.natAbs)))), (1, .slot 81 (NUM (sz (decide (z1 < 0)) (z1.natAbs % z2.natAbs)))), (2, .box 4 72 [Bz (sz (!(true == (decide (z2 < 0)))) (z1.natAbs / z2.natAbs)), Tz (sz (!(true == (decide (z2 < 0)))) (z1.natAbs / z2.natAbs))]), (3, .box 5 72 [Bz (sz (decide (z1 < 0)) (z1.natAbs % z2.natAbs)), Tz (sz (decide (z1 < 0)) (z1.natAbs % z2.natAbs))])] [] [0, 3, 4, 5] [1, 2] rfl rfl follow rfl ⟨
            .inl ⟨wants_plain rfl, does_loadAgg _ ty_agg_collatorref01_Num rfl rfl rfl rfl rfl rfl (pt_box (av_fs 1 rfl)) (av_fs 1 rfl)⟩,
            .inl ⟨wants_plain rfl, does_loadAgg _ ty_agg_collatorref01_Num rfl rfl rfl rfl rfl rfl (pt_box (av_fs 2 rfl)) (av_fs 2 rfl)⟩,
            .inl ⟨wants_plain rfl, does_storeAgg 2 _ _ ty_agg_collatorref01_Num rfl rfl rfl rfl rfl (pt_box (av_os 0 rfl rfl)) (av_os 0 rfl rfl) (ar_tmp (av_rs 0 rfl rfl))⟩,
            .inl ⟨wants_plain rfl, does_storeAgg 2 _ _ ty_agg_collatorref01_Num rfl rfl rfl rfl rfl (pt_box (av_os 1 rfl rfl)) (av_os 1 rfl rfl) (ar_tmp (av_rs 1 rfl rfl))⟩,
            trivial⟩ ?_
          refine nx_sub (fs' := [.box 4 72 [Bz (sz (!(true == (decide (z2 < 0)))) (z1.natAbs / z2.natAbs)), Tz (sz (!(true == (decide (z2 < 0)))) (z1.natAbs / z2.natAbs))], .box 5 72 [Bz (sz (decide (z1 < 0)) (z1.natAbs % z2.natAbs)), Tz (sz (decide (z1 < 0)) (z1.natAbs % z2.natAbs))]]) [6, 7] rfl ?_
          refine nx_then ?_
          refine t_ret ?_
          exact rt_two rfl (res_agg 0 ty_agg_collatorref01_Num rfl) (res_agg 1 ty_agg_collatorref01_Num rfl)
        · have e0 := div_sign1 z1 z2 HM.out (by rw [decide_eq_true g1, decide_eq_true (by omega)]; rfl)
          have e1 : sz (decide (z1 < 0)) (z1.natAbs % z2.natAbs) + sz false z2.natAbs = modZ z1 z2 := by
            rw [← e0.2, decide_eq_true g1]
            have := Nat.mod_lt z1.natAbs HM.out
            unfold sz; simp only [if_true, Bool.false_eq_true, if_false]; omega
          rw [← e1]
          rw [decide_eq_true g1] at e0
          by_cases g2 : z2 < 0
          · rw [decide_eq_true g2] at e0
            have e2 : sz false (z1.natAbs / z2.natAbs) + 1 = divZ z1 z2 := by rw [← e0.1]; rfl
            rw [← e2]
            refine t_region (F := ⟨_, _, _, _⟩) [.box 2 72 [Bz z1, Tz z1], .box 3 72 [Bz z2, Tz z2], .box 4 72 [Bz 0, Tz 0], .box 5 72 [Bz 0, Tz 0], .slot 6 (VP.nums .i64 (fixd 10 k (z1.natAbs / z2.natAbs))), .slot 7 (VP.nums .i64 (dg 10 (z1.natAbs % z2.natAbs)))] [] [(0, .fp 54 2 0), (1, .slot 55 (Bz z1)), (2, .fp 56 3 0), (3, .slot 57 (Bz z2)), (4, .slot 58 (VP.bool false)), (5, .slot 59 (VP.nums .i64 (fixd 10 k (z1.natAbs / z2.natAbs)))), (6, .slot 60 (NUM (sz false (z1.natAbs / z2.natAbs)))), (7, .own 9 72 2), (8, .box 9 72 [Bz (sz false (z1.natAbs / z2.natAbs)), Tz (sz false (z1.natAbs / z2.natAbs))])] [] [0, 1, 2, 3, 4, 5] [] rfl rfl follow rfl ⟨
              .inl ⟨wants_plain rfl, does_field _ _ _ 0 ty_f0_collatorref01_Num rfl rfl rfl rfl rfl rfl rfl (pt_box (av_fs 0 rfl))⟩,
              .inl ⟨wants_plain rfl, does_loadOne _ ty_one_bool rfl rfl rfl rfl rfl rfl (pt_fp (av_rs 0 rfl rfl)) (av_fs 0 rfl)⟩,
              .inl ⟨wants_plain rfl, does_field _ _ _ 0 ty_f0_collatorref01_Num rfl rfl rfl rfl rfl rfl rfl (pt_box (av_fs 1 rfl))⟩,
              .inl ⟨wants_plain rfl, does_loadOne _ ty_one_bool rfl rfl rfl rfl rfl rfl (pt_fp (av_rs 2 rfl rfl)) (av_fs 1 rfl)⟩,
              .inl ⟨wants_plain rfl, does_eqBool (u := true) (v := true) _ _ _ _ _ (by kernel_rfl) rfl rfl rfl rfl rfl rfl (ar_tmp (av_bool (decide_eq_true g1) (av_rs 1 rfl rfl))) (ar_tmp (av_bool (decide_eq_true g2) (av_rs 3 rfl rfl)))⟩,
              .inl ⟨wants_plain rfl, does_move _ (.inl rfl) rfl rfl rfl rfl (ar_tmp (av_fs 4 rfl))⟩,
              .inl ⟨wants_plain rfl, does_call (r_makeQ false z1.natAbs z2.natAbs k HN.out hk1) rfl hb_collator_collatorref01_make1 rfl rfl rfl rfl ⟨(ar_tmp (av_rs 4 rfl rfl)), (ar_tmp (av_rs 5 rfl rfl)), trivial⟩⟩,
              .inl ⟨wants_plain rfl, does_allocOwn [Bz 0, Tz 0] ty_zero_collatorref01_Num rfl rfl rfl rfl rfl z_num rfl⟩,
              .inl ⟨wants_plain rfl, does_storeNew 2 _ _ ty_agg_collatorref01_Num rfl rfl rfl rfl rfl (pt_own (av_rs 7 rfl rfl)) (av_rs 7 rfl rfl) (ar_tmp (av_rs 6 rfl rfl))⟩,
              trivial⟩ ?_
            refine nx_sub (fs' := [.box 2 72 [Bz z1, Tz z1], .box 3 72 [Bz z2, Tz z2], .box 4 72 [Bz 0, Tz 0], .box 5 72 [Bz 0, Tz 0], .slot 7 (VP.nums .i64 (dg 10 (z1.natAbs % z2.natAbs))), .box 9 72 [Bz (sz false (z1.natAbs / z2.natAbs)), Tz (sz false (z1.natAbs / z2.natAbs))]]) [0, 1, 2, 3, 5, 14] rfl ?_
            refine nx_then ?_
            refine t_seq ?_
            refine t_region (F := ⟨_, _, _, _⟩) [.box 2 72 [Bz z1, Tz z1], .box 3 72 [Bz z2, Tz z2], .box 4 72 [Bz 0, Tz 0], .box 5 72 [Bz 0, Tz 0], .slot 7 (VP.nums .i64 (dg 10 (z1.natAbs % z2.natAbs))), .box 9 72 [Bz (sz false (z1.natAbs / z2.natAbs)), Tz (sz false (z1.natAbs / z2.natAbs))]] [] [(0, .fp 61 2 0), (1, .slot 62 (Bz z1)), (2, .slot 63 (VP.nums .i64 (dg 10 (z1.natAbs % z2.natAbs)))), (3, .slot 64 (NUM (sz (decide (z1 < 0)) (z1.natAbs % z2.natAbs)))), (4, .own 10 72 2), (5, .box 10 72 [Bz (sz (decide (z1 < 0)) (z1.natAbs % z2.natAbs)), Tz (sz (decide (z1 < 0)) (z1.natAbs % z2.natAbs))])] [] [0, 1, 2, 3, 4, 5] [] rfl rfl follow rfl ⟨
              .inl ⟨wants_plain rfl, does_field _ _ _ 0 ty_f0_collatorref01_Num rfl rfl rfl rfl rfl rfl rfl (pt_box (av_fs 0 rfl))⟩,
              .inl ⟨wants_plain rfl, does_loadOne _ ty_one_bool rfl rfl rfl rfl rfl rfl (pt_fp (av_rs 0 rfl rfl)) (av_fs 0 rfl)⟩,
              .inl ⟨wants_plain rfl, does_move _ (.inl rfl) rfl rfl rfl rfl (ar_tmp (av_fs 4 rfl))⟩,
              .inl ⟨wants_plain rfl, does_call (r_make1 (decide (z1 < 0)) (z1.natAbs % z2.natAbs)) rfl hb_collator_collatorref01_make1 rfl rfl rfl rfl ⟨(ar_tmp (av_rs 1 rfl rfl)), (ar_tmp (av_rs 2 rfl rfl)), trivial⟩⟩,
              .inl ⟨wants_plain rfl, does_allocOwn [Bz 0, Tz 0] ty_zero_collatorref01_Num rfl rfl rfl rfl rfl z_num rfl⟩,
              .inl ⟨wants_plain rfl, does_storeNew 2 _ _ ty_agg_collatorref01_Num rfl rfl rfl rfl rfl (pt_own (av_rs 4 rfl rfl)) (av_rs 4 rfl rfl) (ar_tmp (av_rs 3 rfl rfl))⟩,
              trivial⟩ ?_
            refine nx_sub (fs' := [.box 3 72 [Bz z2, Tz z2], .box 4 72 [Bz 0, Tz 0], .box 5 72 [Bz 0, Tz 0], .box 9 72 [Bz (sz false (z1.natAbs / z2.natAbs)), Tz (sz false (z1.natAbs / z2.natAbs))], .box 10 72 [Bz (sz (decide (z1 < 0)) (z1.natAbs % z2.natAbs)), Tz (sz (decide (z1 < 0)) (z1.natAbs % z2.natAbs))]]) [1, 2, 3, 5, 11] rfl ?_
            refine nx_then ?_
            refine t_seq ?_
            refine t_seq ?_
            refine t_region (F := ⟨_, _, _, _⟩) [.box 3 72 [Bz z2, Tz z2], .box 4 72 [Bz 0, Tz 0], .box 5 72 [Bz 0, Tz 0], .box 9 72 [Bz (sz false (z1.natAbs / z2.natAbs)), Tz (sz false (z1.natAbs / z2.natAbs))], .box 10 72 [Bz (sz (decide (z1 < 0)) (z1.natAbs % z2.natAbs)), Tz (sz (decide (z1 < 0)) (z1.natAbs % z2.natAbs))]] [] [(0, .fp 65 10 0), (1, .slot 66 (Bz (sz (decide (z1 < 0)) (z1.natAbs % z2.natAbs))))] [] [0, 1, 2, 3, 4] [] rfl rfl follow rfl ⟨
              .inl ⟨wants_plain rfl, does_field _ _ _ 0 ty_f0_collatorref01_Num rfl rfl rfl rfl rfl rfl rfl (pt_box (av_fs 4 rfl))⟩,
              .inl ⟨wants_plain rfl, does_loadOne _ ty_one_bool rfl rfl rfl rfl rfl rfl (pt_fp (av_rs 0 rfl rfl)) (av_fs 4 rfl)⟩,
              trivial⟩ ?_
            refine nx_sub (fs' := [.box 3 72 [Bz z2, Tz z2], .box 4 72 [Bz 0, Tz 0], .box 5 72 [Bz 0, Tz 0], .box 9 72 [Bz (sz false (z1.natAbs / z2.natAbs)), Tz (sz false (z1.natAbs / z2.natAbs))], .box 10 72 [Bz (sz (decide (z1 < 0)) (z1.natAbs % z2.natAbs)), Tz (sz (decide (z1 < 0)) (z1.natAbs % z2.natAbs))], .slot 66 (Bz (sz (decide (z1 < 0)) (z1.natAbs % z2.natAbs)))]) [0, 1, 2, 3, 4, 6] rfl ?_
            refine nx_then ?_
            refine t_cond_te 5 rfl (by rw [sz_neg, decide_eq_true g1, decide_eq_true (by omega)]; rfl) ?_
            refine t_seq ?_
            refine t_region (F := ⟨_, _, _, _⟩) [.box 3 72 [Bz z2, Tz z2], .box 4 72 [Bz 0, Tz 0], .box 5 72 [Bz 0, Tz 0], .box 9 72 [Bz (sz false (z1.natAbs / z2.natAbs)), Tz (sz false (z1.natAbs / z2.natAbs))], .slot 66 (Bz (sz (decide (z1 < 0)) (z1.natAbs % z2.natAbs)))] [(5, .box 10 72 [Bz (sz (decide (z1 < 0)) (z1.natAbs % z2.natAbs)), Tz (sz (decide (z1 < 0)) (z1.natAbs % z2.natAbs))])] [(0, .slot 67 (NUM (sz (decide (z1 < 0)) (z1.natAbs % z2.natAbs)))), (1, .fp 68 3 1), (2, .slot 69 (Tz z2)), (3, .slot 70 (NUM (sz false z2.natAbs))), (4, .slot 71 (NUM ((sz (decide (z1 < 0)) (z1.natAbs % z2.natAbs)) + (sz false z2.natAbs)))), (5, .box 10 72 [Bz ((sz (decide (z1 < 0)) (z1.natAbs % z2.natAbs)) + (sz false z2.natAbs)), Tz ((sz (decide (z1 < 0)) (z1.natAbs % z2.natAbs)) + (sz false z2.natAbs))])] [] [0, 1, 2, 3, 5] [4] rfl rfl follow rfl ⟨
              .inl ⟨wants_plain rfl, does_loadAgg _ ty_agg_collatorref01_Num rfl rfl rfl rfl rfl rfl (pt_box (av_os 0 rfl rfl)) (av_os 0 rfl rfl)⟩,
              .inl ⟨wants_plain rfl, does_field _ _ _ 1 ty_f1_collatorref01_Num rfl rfl rfl rfl rfl rfl rfl (pt_box (av_fs 0 rfl))⟩,
              .inl ⟨wants_plain rfl, does_loadOne _ ty_one___int rfl rfl rfl rfl rfl rfl (pt_fp (av_rs 1 rfl rfl)) (av_fs 0 rfl)⟩,
              .inl ⟨wants_plain rfl, does_call (r_make1 false z2.natAbs) rfl hb_collator_collatorref01_make1 rfl rfl rfl rfl ⟨(ar_const (fun _ => rfl)), (ar_tmp (av_rs 2 rfl rfl)), trivial⟩⟩,
              .inl ⟨wants_plain rfl, does_call (r_add (sz (decide (z1 < 0)) (z1.natAbs % z2.natAbs)) (sz false z2.natAbs) (by rw [sz_abs]; exact HLR) (by rw [sz_abs]; exact hbz2)) rfl hb_collator_collatorref01_Add rfl rfl rfl rfl ⟨(ar_tmp (av_rs 0 rfl rfl)), (ar_tmp (av_rs 3 rfl rfl)), trivial⟩⟩,
              .inl ⟨wants_plain rfl, does_storeAgg 2 _ _ ty_agg_collatorref01_Num rfl rfl rfl rfl rfl (pt_box (av_os 0 rfl rfl)) (av_os 0 rfl rfl) (ar_tmp (av_rs 4 rfl rfl))⟩,
              trivial⟩ ?_
            refine nx_sub (fs' := [.box 3 72 [Bz z2, Tz z2], .box 4 72 [Bz 0, Tz 0], .box 5 72 [Bz 0, Tz 0], .box 9 72 [Bz (sz false (z1.natAbs / z2.natAbs)), Tz (sz false (z1.natAbs / z2.natAbs))], .box 10 72 [Bz ((sz (decide (z1 < 0)) (z1.natAbs % z2.natAbs)) + (sz false z2.natAbs)), Tz ((sz (decide (z1 < 0)) (z1.natAbs % z2.natAbs)) + (sz false z2.natAbs))]]) [0, 1, 2, 3, 10] rfl ?_
            refine nx_then ?_
            refine t_seq ?_
            refine t_region (F := ⟨_, _, _, _⟩) [.box 3 72 [Bz z2, Tz z2], .box 4 72 [Bz 0, Tz 0], .box 5 72 [Bz 0, Tz 0], .box 9 72 [Bz (sz false (z1.natAbs / z2.natAbs)), Tz (sz false (z1.natAbs / z2.natAbs))], .box 10 72 [Bz ((sz (decide (z1 < 0)) (z1.natAbs % z2.natAbs)) + (sz false z2.natAbs)), Tz ((sz (decide (z1 < 0)) (z1.natAbs % z2.natAbs)) + (sz false z2.natAbs))]] [] [(0, .fp 72 3 0), (1, .slot 73 (Bz z2))] [] [0, 1, 2, 3, 4] [] rfl rfl follow rfl ⟨
              .inl ⟨wants_plain rfl, does_field _ _ _ 0 ty_f0_collatorref01_Num rfl rfl rfl rfl rfl rfl rfl (pt_box (av_fs 0 rfl))⟩,
              .inl ⟨wants_plain rfl, does_loadOne _ ty_one_bool rfl rfl rfl rfl rfl rfl (pt_fp (av_rs 0 rfl rfl)) (av_fs 0 rfl)⟩,
              trivial⟩ ?_
            refine nx_sub (fs' := [.box 4 72 [Bz 0, Tz 0], .box 5 72 [Bz 0, Tz 0], .box 9 72 [Bz (sz false (z1.natAbs / z2.natAbs)), Tz (sz false (z1.natAbs / z2.natAbs))], .box 10 72 [Bz ((sz (decide (z1 < 0)) (z1.natAbs % z2.natAbs)) + (sz false z2.natAbs)), Tz ((sz (decide (z1 < 0)) (z1.natAbs % z2.natAbs)) + (sz false z2.natAbs))], .slot 73 (Bz z2)]) [1, 2, 3, 4, 6] rfl ?_
            refine nx_then ?_
            refine t_cond_te 4 rfl (decide_eq_true g2) ?_
            refine t_region (F := ⟨_, _, _, _⟩) [.box 4 72 [Bz 0, Tz 0], .box 5 72 [Bz 0, Tz 0], .box 10 72 [Bz ((sz (decide (z1 < 0)) (z1.natAbs % z2.natAbs)) + (sz false z2.natAbs)), Tz ((sz (decide (z1 < 0)) (z1.natAbs % z2.natAbs)) + (sz false z2.natAbs))], .slot 73 (Bz z2)] [(3, .box 9 72 [Bz (sz false (z1.natAbs / z2.natAbs)), Tz (sz false (z1.natAbs / z2.natAbs))])] [(0, .slot 74 (NUM (sz false (z1.natAbs / z2.natAbs)))), (1, .slot 75 (NUM 1)), (2, .slot 76 (NUM ((sz false (z1.natAbs / z2.natAbs)) + 1))), (3, .box 9 72 [Bz ((sz false (z1.natAbs / z2.natAbs)) + 1), Tz ((sz false (z1.natAbs / z2.natAbs)) + 1)])] [] [0, 1, 3, 4] [2] rfl rfl follow rfl ⟨
              .inl ⟨wants_plain rfl, does_loadAgg _ ty_agg_collatorref01_Num rfl rfl rfl rfl rfl rfl (pt_box (av_os 0 rfl rfl)) (av_os 0 rfl rfl)⟩,
              .inl ⟨wants_plain rfl, does_call (r_int 1 (by decide) (by decide)) rfl hb_collator_collatorref01_Int rfl rfl rfl rfl ⟨(ar_const (fun _ => rfl)), trivial⟩⟩,
              .inl ⟨wants_plain rfl, does_call (r_add (sz false (z1.natAbs / z2.natAbs)) 1 (by rw [sz_abs]; exact HLQ) (by decide)) rfl hb_collator_collatorref01_Add rfl rfl rfl rfl ⟨(ar_tmp (av_rs 0 rfl rfl)), (ar_tmp (av_rs 1 rfl rfl)), trivial⟩⟩,
              .inl ⟨wants_plain rfl, does_storeAgg 2 _ _ ty_agg_collatorref01_Num rfl rfl rfl rfl rfl (pt_box (av_os 0 rfl rfl)) (av_os 0 rfl rfl) (ar_tmp (av_rs 2 rfl rfl))⟩,
              trivial⟩ ?_
            refine nx_sub (fs' := [.box 4 72 [Bz 0, Tz 0], .box 5 72 [Bz 0, Tz 0], .box 10 72 [Bz ((sz (decide (z1 < 0)) (z1.natAbs % z2.natAbs)) + (sz false z2.natAbs)), Tz ((sz (decide (z1 < 0)) (z1.natAbs % z2.natAbs)) + (sz false z2.natAbs))], .box 9 72 [Bz ((sz false (z1.natAbs / z2.natAbs)) + 1), Tz ((sz false (z1.natAbs / z2.natAbs)) + 1)]]) [0, 1, 2, 7] rfl ?_
            refine nx_then ?_
            refine t_seq ?_
            refine t_region (F := ⟨_, _, _, _⟩) [.box 10 72 [Bz ((sz (decide (z1 < 0)) (z1.natAbs % z2.natAbs)) + (sz false z2.natAbs)), Tz ((sz (decide (z1 < 0)) (z1.natAbs % z2.natAbs)) + (sz false z2.natAbs))], .box 9 72 [Bz ((sz false (z1.natAbs / z2.natAbs)) + 1), Tz ((sz false (z1.natAbs / z2.natAbs)) + 1)]] [(2, .box 4 72 [Bz 0, Tz 0]), (3, .box 5 72 [Bz 0, Tz 0])] [(0, .slot 80 (NUM ((sz false (z1.natAbs / z2.natAbs)) + 1))), (1, .slot 81 (NUM ((sz (decide (z1 < 0)) (z1.natAbs % z2.natAbs)) + (sz false z2.natAbs)))), (2, .box 4 72 [Bz ((sz false (z1.natAbs / z2.natAbs)) + 1), Tz ((sz false (z1.natAbs / z2.natAbs)) + 1)]), (3, .box 5 72 [Bz ((sz (decide (z1 < 0)) (z1.natAbs % z2.natAbs)) + (sz false z2.natAbs)), Tz ((sz (decide (z1 < 0)) (z1.natAbs % z2.natAbs)) + (sz false z2.natAbs))])] [] [2, 3] [0, 1] rfl rfl follow rfl ⟨
              .inl ⟨wants_plain rfl, does_loadAgg _ ty_agg_collatorref01_Num rfl rfl rfl rfl rfl rfl (pt_box (av_fs 1 rfl)) (av_fs 1 rfl)⟩,
              .inl ⟨wants_plain rfl, does_loadAgg _ ty_agg_collatorref01_Num rfl rfl rfl rfl rfl rfl (pt_box (av_fs 0 rfl)) (av_fs 0 rfl)⟩,
              .inl ⟨wants_plain rfl, does_storeAgg 2 _ _ ty_agg_collatorref01_Num rfl rfl rfl rfl rfl (pt_box (av_os 0 rfl rfl)) (av_os 0 rfl rfl) (ar_tmp (av_rs 0 rfl rfl))⟩,
              .inl ⟨wants_plain rfl, does_storeAgg 2 _ _ ty_agg_collatorref01_Num rfl rfl rfl rfl rfl (pt_box (av_os 1 rfl rfl)) (av_os 1 rfl rfl) (ar_tmp (av_rs 1 rfl rfl))⟩,
              trivial⟩ ?_
            refine nx_sub (fs' := [.box 4 72 [Bz ((sz false (z1.natAbs / z2.natAbs)) + 1), Tz ((sz false (z1.natAbs / z2.natAbs)) + 1)], .box 5 72 [Bz ((sz (decide (z1 < 0)) (z1.natAbs % z2.natAbs)) + (sz false z2.natAbs)), Tz ((sz (decide (z1 < 0)) (z1.natAbs % z2.natAbs)) + (sz false z2.natAbs))]]) [4, 5] rfl ?_
            refine nx_then ?_
            refine t_ret ?_
            exact rt_two rfl (res_agg 0 ty_agg_collatorref01_Num rfl) (res_agg 1 ty_agg_collatorref01_Num rfl)
          · rw [decide_eq_false g2] at e0
            have e2 : sz true (z1.natAbs / z2.natAbs) + (-1) = divZ z1 z2 := by
              rw [← e0.1]; show sz true _ + -1 = sz true _; unfold sz; simp only [if_true]; omega
            rw [← e2]
            refine t_region (F := ⟨_, _, _, _⟩) [.box 2 72 [Bz z1, Tz z1], .box 3 72 [Bz z2, Tz z2], .box 4 72 [Bz 0, Tz 0], .box 5 72 [Bz 0, Tz 0], .slot 6 (VP.nums .i64 (fixd 10 k (z1.natAbs / z2.natAbs))), .slot 7 (VP.nums .i64 (dg 10 (z1.natAbs % z2.natAbs)))] [] [(0, .fp 54 2 0), (1, .slot 55 (Bz z1)), (2, .fp 56 3 0), (3, .slot 57 (Bz z2)), (4, .slot 58 (VP.bool true)), (5, .slot 59 (VP.nums .i64 (fixd 10 k (z1.natAbs / z2.natAbs)))), (6, .slot 60 (NUM (sz true (z1.natAbs / z2.natAbs)))), (7, .own 9 72 2), (8, .box 9 72 [Bz (sz true (z1.natAbs / z2.natAbs)), Tz (sz true (z1.natAbs / z2.natAbs))])] [] [0, 1, 2, 3, 4, 5] [] rfl rfl follow rfl ⟨
              .inl ⟨wants_plain rfl, does_field _ _ _ 0 ty_f0_collatorref01_Num rfl rfl rfl rfl rfl rfl rfl (pt_box (av_fs 0 rfl))⟩,
              .inl ⟨wants_plain rfl, does_loadOne _ ty_one_bool rfl rfl rfl rfl rfl rfl (pt_fp (av_rs 0 rfl rfl)) (av_fs 0 rfl)⟩,
              .inl ⟨wants_plain rfl, does_field _ _ _ 0 ty_f0_collatorref01_Num rfl rfl rfl rfl rfl rfl rfl (pt_box (av_fs 1 rfl))⟩,
              .inl ⟨wants_plain rfl, does_loadOne _ ty_one_bool rfl rfl rfl rfl rfl rfl (pt_fp (av_rs 2 rfl rfl)) (av_fs 1 rfl)⟩,
              .inl ⟨wants_plain rfl, does_eqBool (u := true) (v := false) _ _ _ _ _ (by kernel_rfl) rfl rfl rfl rfl rfl rfl (ar_tmp (av_bool (decide_eq_true g1) (av_rs 1 rfl rfl))) (ar_tmp (av_bool (decide_eq_false g2) (av_rs 3 rfl rfl)))⟩,
              .inl ⟨wants_plain rfl, does_move _ (.inl rfl) rfl rfl rfl rfl (ar_tmp (av_fs 4 rfl))⟩,
              .inl ⟨wants_plain rfl, does_call (r_makeQ true z1.natAbs z2.natAbs k HN.out hk1) rfl hb_collator_collatorref01_make1 rfl rfl rfl rfl ⟨(ar_tmp (av_rs 4 rfl rfl)), (ar_tmp (av_rs 5 rfl rfl)), trivial⟩⟩,
              .inl ⟨wants_plain rfl, does_allocOwn [Bz 0, Tz 0] ty_zero_collatorref01_Num rfl rfl rfl rfl rfl z_num rfl⟩,
              .inl ⟨wants_plain rfl, does_storeNew 2 _ _ ty_agg_collatorref01_Num rfl rfl rfl rfl rfl (pt_own (av_rs 7 rfl rfl)) (av_rs 7 rfl rfl) (ar_tmp (av_rs 6 rfl rfl))⟩,
              trivial⟩ ?_
            refine nx_sub (fs' := [.box 2 72 [Bz z1, Tz z1], .box 3 72 [Bz z2, Tz z2], .box 4 72 [Bz 0, Tz 0], .box 5 72 [Bz 0, Tz 0], .slot 7 (VP.nums .i64 (dg 10 (z1.natAbs % z2.natAbs))), .box 9 72 [Bz (sz true (z1.natAbs / z2.natAbs)), Tz (sz true (z1.natAbs / z2.natAbs))]]) [0, 1, 2, 3, 5, 14] rfl ?_
            refine nx_then ?_
            refine t_seq ?_
            refine t_region (F := ⟨_, _, _, _⟩) [.box 2 72 [Bz z1, Tz z1], .box 3 72 [Bz z2, Tz z2], .box 4 72 [Bz 0, Tz 0], .box 5 72 [Bz 0, Tz 0], .slot 7 (VP.nums .i64 (dg 10 (z1.natAbs % z2.natAbs))), .box 9 72 [Bz (sz true (z1.natAbs / z2.natAbs)), Tz (sz true (z1.natAbs / z2.natAbs))]] [] [(0, .fp 61 2 0), (1, .slot 62 (Bz z1)), (2, .slot 63 (VP.nums .i64 (dg 10 (z1.natAbs % z2.natAbs)))), (3, .slot 64 (NUM (sz (decide (z1 < 0)) (z1.natAbs % z2.natAbs)))), (4, .own 10 72 2), (5, .box 10 72 [Bz (sz (decide (z1 < 0)) (z1.natAbs % z2.natAbs)), Tz (sz (decide (z1 < 0)) (z1.natAbs % z2.natAbs))])] [] [0, 1, 2, 3, 4, 5] [] rfl rfl follow rfl ⟨
              .inl ⟨wants_plain rfl, does_field _ _ _ 0 ty_f0_collatorref01_Num rfl rfl rfl rfl rfl rfl rfl (pt_box (av_fs 0 rfl))⟩,
              .inl ⟨wants_plain rfl, does_loadOne _ ty_one_bool rfl rfl rfl rfl rfl rfl (pt_fp (av_rs 0 rfl rfl)) (av_fs 0 rfl)⟩,
              .inl ⟨wants_plain rfl, does_move _ (.inl rfl) rfl rfl rfl rfl (ar_tmp (av_fs 4 rfl))⟩,
              .inl ⟨wants_plain rfl, does_call (r_make1 (decide (z1 < 0)) (z1.natAbs % z2.natAbs)) rfl hb_collator_collatorref01_make1 rfl rfl rfl rfl ⟨(ar_tmp (av_rs 1 rfl rfl)), (ar_tmp (av_rs 2 rfl rfl)), trivial⟩⟩,
              .inl ⟨wants_plain rfl, does_allocOwn [Bz 0, Tz 0] ty_zero_collatorref01_Num rfl rfl rfl rfl rfl z_num rfl⟩,
              .inl ⟨wants_plain rfl, does_storeNew 2 _ _ ty_agg_collatorref01_Num rfl rfl rfl rfl rfl (pt_own (av_rs 4 rfl rfl)) (av_rs 4 rfl rfl) (ar_tmp (av_rs 3 rfl rfl))⟩,
              trivial⟩ ?_
            refine nx_sub (fs' := [.box 3 72 [Bz z2, Tz z2], .box 4 72 [Bz 0, Tz 0], .box 5 72 [Bz 0, Tz 0], .box 9 72 [Bz (sz true (z1.natAbs / z2.natAbs)), Tz (sz true (z1.natAbs / z2.natAbs))], .box 10 72 [Bz (sz (decide (z1 < 0)) (z1.natAbs % z2.natAbs)), Tz (sz (decide (z1 < 0)) (z1.natAbs % z2.natAbs))]]) [1, 2, 3, 5, 11] rfl ?_
            refine nx_then ?_
            refine t_seq ?_
            refine t_seq ?_
            refine t_region (F := ⟨_, _, _, _⟩) [.box 3 72 [Bz z2, Tz z2], .box 4 72 [Bz 0, Tz 0], .box 5 72 [Bz 0, Tz 0], .box 9 72 [Bz (sz true (z1.natAbs / z2.natAbs)), Tz (sz true (z1.natAbs / z2.natAbs))], .box 10 72 [Bz (sz (decide (z1 < 0)) (z1.natAbs % z2.natAbs)), Tz (sz (decide (z1 < 0)) (z1.natAbs % z2.natAbs))]] [] [(0, .fp 65 10 0), (1, .slot 66 (Bz (sz (decide (z1 < 0)) (z1.natAbs % z2.natAbs))))] [] [0, 1, 2, 3, 4] [] rfl rfl follow rfl ⟨
              .inl ⟨wants_plain rfl, does_field _ _ _ 0 ty_f0_collatorref01_Num rfl rfl rfl rfl rfl rfl rfl (pt_box (av_fs 4 rfl))⟩,
              .inl ⟨wants_plain rfl, does_loadOne _ ty_one_bool rfl rfl rfl rfl rfl rfl (pt_fp (av_rs 0 rfl rfl)) (av_fs 4 rfl)⟩,
              trivial⟩ ?_
            refine nx_sub (fs' := [.box 3 72 [Bz z2, Tz z2], .box 4 72 [Bz 0, Tz 0], .box 5 72 [Bz 0, Tz 0], .box 9 72 [Bz (sz true (z1.natAbs / z2.natAbs)), Tz (sz true (z1.natAbs / z2.natAbs))], .box 10 72 [Bz (sz (decide (z1 < 0)) (z1.natAbs % z2.natAbs)), Tz (sz (decide (z1 < 0)) (z1.natAbs % z2.natAbs))], .slot 66 (Bz (sz (decide (z1 < 0)) (z1.natAbs % z2.natAbs)))]) [0, 1, 2, 3, 4, 6] rfl ?_
            refine nx_then ?_
            refine t_cond_te 5 rfl (by rw [sz_neg, decide_eq_true g1, decide_eq_true (by omega)]; rfl) ?_
            refine t_seq ?_
            refine t_region (F := ⟨_, _, _, _⟩) [.box 3 72 [Bz z2, Tz z2], .box 4 72 [Bz 0, Tz 0], .box 5 72 [Bz 0, Tz 0], .box 9 72 [Bz (sz true (z1.natAbs / z2.natAbs)), Tz (sz true (z1.natAbs / z2.natAbs))], .slot 66 (Bz (sz (decide (z1 < 0)) (z1.natAbs % z2.natAbs)))] [(5, .box 10 72 [Bz (sz (decide (z1 < 0)) (z1.natAbs % z2.natAbs)), Tz (sz (decide (z1 < 0)) (z1.natAbs % z2.natAbs))])] [(0, .slot 67 (NUM (sz (decide (z1 < 0)) (z1.natAbs % z2.natAbs)))), (1, .fp 68 3 1), (2, .slot 69 (Tz z2)), (3, .slot 70 (NUM (sz false z2.natAbs))), (4, .slot 71 (NUM ((sz (decide (z1 < 0)) (z1.natAbs % z2.natAbs)) + (sz false z2.natAbs)))), (5, .box 10 72 [Bz ((sz (decide (z1 < 0)) (z1.natAbs % z2.natAbs)) + (sz false z2.natAbs)), Tz ((sz (decide (z1 < 0)) (z1.natAbs % z2.natAbs)) + (sz false z2.natAbs))])] [] [0, 1, 2, 3, 5] [4] rfl rfl follow rfl ⟨
              .inl ⟨wants_plain rfl, does_loadAgg _ ty_agg_collatorref01_Num rfl rfl rfl rfl rfl rfl (pt_box (av_os 0 rfl rfl)) (av_os 0 rfl rfl)⟩,
              .inl ⟨wants_plain rfl, does_field _ _ _ 1 ty_f1_collatorref01_Num rfl rfl rfl rfl rfl rfl rfl (pt_box (av_fs 0 rfl))⟩,
              .inl ⟨wants_plain rfl, does_loadOne _ ty_one___int rfl rfl rfl rfl rfl rfl (pt_fp (av_rs 1 rfl rfl)) (av_fs 0 rfl)⟩,
              .inl ⟨wants_plain rfl, does_call (r_make1 false z2.natAbs) rfl hb_collator_collatorref01_make1 rfl rfl rfl rfl ⟨(ar_const (fun _ => rfl)), (ar_tmp (av_rs 2 rfl rfl)), trivial⟩⟩,
              .inl ⟨wants_plain rfl, does_call (r_add (sz (decide (z1 < 0)) (z1.natAbs % z2.natAbs)) (sz false z2.natAbs) (by rw [sz_abs]; exact HLR) (by rw [sz_abs]; exact hbz2)) rfl hb_collator_collatorref01_Add rfl rfl rfl rfl ⟨(ar_tmp (av_rs 0 rfl rfl)), (ar_tmp (av_rs 3 rfl rfl)), trivial⟩⟩,
              .inl ⟨wants_plain rfl, does_storeAgg 2 _ _ ty_agg_collatorref01_Num rfl rfl rfl rfl rfl (pt_box (av_os 0 rfl rfl)) (av_os 0 rfl rfl) (ar_tmp (av_rs 4 rfl rfl))⟩,
              trivial⟩ ?_
            refine nx_sub (fs' := [.box 3 72 [Bz z2, Tz z2], .box 4 72 [Bz 0, Tz 0], .box 5 72 [Bz 0, Tz 0], .box 9 72 [Bz (sz true (z1.natAbs / z2.natAbs)), Tz (sz true (z1.natAbs / z2.natAbs))], .box 10 72 [Bz ((sz (decide (z1 < 0)) (z1.natAbs % z2.natAbs)) + (sz false z2.natAbs)), Tz ((sz (decide (z1 < 0)) (z1.natAbs % z2.natAbs)) + (sz false z2.natAbs))]]) [0, 1, 2, 3, 10] rfl ?_
            refine nx_then ?_
            refine t_seq ?_
            refine t_region (F := ⟨_, _, _, _⟩) [.box 3 72 [Bz z2, Tz z2], .box 4 72 [Bz 0, Tz 0], .box 5 72 [Bz 0, Tz 0], .box 9 72 [Bz (sz true (z1.natAbs / z2.natAbs)), Tz (sz true (z1.natAbs / z2.natAbs))], .box 10 72 [Bz ((sz (decide (z1 < 0)) (z1.natAbs % z2.natAbs)) + (sz false z2.natAbs)), Tz ((sz (decide (z1 < 0)) (z1.natAbs % z2.natAbs)) + (sz false z2.natAbs))]] [] [(0, .fp 72 3 0), (1, .slot 73 (Bz z2))] [] [0, 1, 2, 3, 4] [] rfl rfl follow rfl ⟨
              .inl ⟨wants_plain rfl, does_field _ _ _ 0 ty_f0_collatorref01_Num rfl rfl rfl rfl rfl rfl rfl (pt_box (av_fs 0 rfl))⟩,
              .inl ⟨wants_plain rfl, does_loadOne _ ty_one_bool rfl rfl rfl rfl rfl rfl (pt_fp (av_rs 0 rfl rfl)) (av_fs 0 rfl)⟩,
              trivial⟩ ?_
            refine nx_sub (fs' := [.box 4 72 [Bz 0, Tz 0], .box 5 72 [Bz 0, Tz 0], .box 9 72 [Bz (sz true (z1.natAbs / z2.natAbs)), Tz (sz true (z1.natAbs / z2.natAbs))], .box 10 72 [Bz ((sz (decide (z1 < 0)) (z1.natAbs % z2.natAbs)) + (sz false z2.natAbs)), Tz ((sz (decide (z1 < 0)) (z1.natAbs % z2.natAbs)) + (sz false z2.natAbs))], .slot 73 (Bz z2)]) [1, 2, 3, 4, 6] rfl ?_
            refine nx_then ?_
            refine t_cond_fe 4 rfl (decide_eq_false g2) ?_
            refine t_region (F := ⟨_, _, _, _⟩) [.box 4 72 [Bz 0, Tz 0], .box 5 72 [Bz 0, Tz 0], .box 10 72 [Bz ((sz (decide (z1 < 0)) (z1.natAbs % z2.natAbs)) + (sz false z2.natAbs)), Tz ((sz (decide (z1 < 0)) (z1.natAbs % z2.natAbs)) + (sz false z2.natAbs))], .slot 73 (Bz z2)] [(3, .box 9 72 [Bz (sz true (z1.natAbs / z2.natAbs)), Tz (sz true (z1.natAbs / z2.natAbs))])] [(0, .slot 77 (NUM (sz true (z1.natAbs / z2.natAbs)))), (1, .slot 78 (NUM (-1))), (2, .slot 79 (NUM ((sz true (z1.natAbs / z2.natAbs)) + (-1)))), (3, .box 9 72 [Bz ((sz true (z1.natAbs / z2.natAbs)) + (-1)), Tz ((sz true (z1.natAbs / z2.natAbs)) + (-1))])] [] [0, 1, 3, 4] [2] rfl rfl follow rfl ⟨
              .inl ⟨wants_plain rfl, does_loadAgg _ ty_agg_collatorref01_Num rfl rfl rfl rfl rfl rfl (pt_box (av_os 0 rfl rfl)) (av_os 0 rfl rfl)⟩,
              .inl ⟨wants_plain rfl, does_call (r_int (-1) (by decide) (by decide)) rfl hb_collator_collatorref01_Int rfl rfl rfl rfl ⟨(ar_const (fun _ => rfl)), trivial⟩⟩,
              .inl ⟨wants_plain rfl, does_call (r_add (sz true (z1.natAbs / z2.natAbs)) (-1) (by rw [sz_abs]; exact HLQ) (by decide)) rfl hb_collator_collatorref01_Add rfl rfl rfl rfl ⟨(ar_tmp (av_rs 0 rfl rfl)), (ar_tmp (av_rs 1 rfl rfl)), trivial⟩⟩,
              .inl ⟨wants_plain rfl, does_storeAgg 2 _ _ ty_agg_collatorref01_Num rfl rfl rfl rfl rfl (pt_box (av_os 0 rfl rfl)) (av_os 0 rfl rfl) (ar_tmp (av_rs 2 rfl rfl))⟩,
              trivial⟩ ?_
            refine nx_sub (fs' := [.box 4 72 [Bz 0, Tz 0], .box 5 72 [Bz 0, Tz 0], .box 10 72 [Bz ((sz (decide (z1 < 0)) (z1.natAbs % z2.natAbs)) + (sz false z2.natAbs)), Tz ((sz (decide (z1 < 0)) (z1.natAbs % z2.natAbs)) + (sz false z2.natAbs))], .box 9 72 [Bz ((sz true (z1.natAbs / z2.natAbs)) + (-1)), Tz ((sz true (z1.natAbs / z2.natAbs)) + (-1))]]) [0, 1, 2, 7] rfl ?_
            refine nx_then ?_
            refine t_seq ?_
            refine t_region (F := ⟨_, _, _, _⟩) [.box 10 72 [Bz ((sz (decide (z1 < 0)) (z1.natAbs % z2.natAbs)) + (sz false z2.natAbs)), Tz ((sz (decide (z1 < 0)) (z1.natAbs % z2.natAbs)) + (sz false z2.natAbs))], .box 9 72 [Bz ((sz true (z1.natAbs / z2.natAbs)) + (-1)), Tz ((sz true (z1.natAbs / z2.natAbs)) + (-1))]] [(2, .box 4 72 [Bz 0, Tz 0]), (3, .box 5 72 [Bz 0, Tz 0])] [(0, .slot 80 (NUM ((sz true (z1.natAbs / z2.natAbs)) + (-1)))), (1, .slot 81 (NUM ((sz (decide (z1 < 0)) (z1.natAbs % z2.natAbs)) + (sz false z2.natAbs)))), (2, .box 4 72 [Bz ((sz true (z1.natAbs / z2.natAbs)) + (-1)), Tz ((sz true (z1.natAbs / z2.natAbs)) + (-1))]), (3, .box 5 72 [Bz ((sz (decide (z1 < 0)) (z1.natAbs % z2.natAbs)) + (sz false z2.natAbs)), Tz ((sz (decide (z1 < 0)) (z1.natAbs % z2.natAbs)) + (sz false z2.natAbs))])] [] [2, 3] [0, 1] rfl rfl follow rfl ⟨
              .inl ⟨wants_plain rfl, does_loadAgg _ ty_agg_collatorref01_Num rfl rfl rfl rfl rfl rfl (pt_box (av_fs 1 rfl)) (av_fs 1 rfl)⟩,
              .inl ⟨wants_plain rfl, does_loadAgg _ ty_agg_collatorref01_Num rfl rfl rfl rfl rfl rfl (pt_box (av_fs 0 rfl)) (av_fs 0 rfl)⟩,
              .inl ⟨wants_plain rfl, does_storeAgg 2 _ _ ty_agg_collatorref01_Num rfl rfl rfl rfl rfl (pt_box (av_os 0 rfl rfl)) (av_os 0 rfl rfl) (ar_tmp (av_rs 0 rfl rfl))⟩,
              .inl ⟨wants_plain rfl, does_storeAgg 2 _ _ ty_agg_collatorref01_Num rfl rfl rfl rfl rfl (pt_box (av_os 1 rfl rfl)) (av_os 1 rfl rfl) (ar_tmp (av_rs 1 rfl rfl))⟩,
              trivial⟩ ?_
            refine nx_sub (fs' := [.box 4 72 [Bz ((sz true (z1.natAbs / z2.natAbs)) + (-1)), Tz ((sz true (z1.natAbs / z2.natAbs)) + (-1))], .box 5 72 [Bz ((sz (decide (z1 < 0)) (z1.natAbs % z2.natAbs)) + (sz false z2.natAbs)), Tz ((sz (decide (z1 < 0)) (z1.natAbs % z2.natAbs)) + (sz false z2.natAbs))]]) [4, 5] rfl ?_
            refine nx_then ?_
            refine t_ret ?_
            exact rt_two rfl (res_agg 0 ty_agg_collatorref01_Num rfl) (res_agg 1 ty_agg_collatorref01_Num rfl)
      · have e0 := div_sign2 z1 z2 HM.out (by rw [decide_eq_false g1]; rfl)
        rw [decide_eq_false g1] at e0
        have e2 := e0.1
        rw [show (false != decide (z2 < 0)) = (!(false == decide (z2 < 0))) from rfl] at e2
        have e1 : sz (decide (z1 < 0)) (z1.natAbs % z2.natAbs) = modZ z1 z2 := by rw [← e0.2, decide_eq_false g1]
        rw [← e1, ← e2]
        refine t_region (F := ⟨_, _, _, _⟩) [.box 2 72 [Bz z1, Tz z1], .box 3 72 [Bz z2, Tz z2], .box 4 72 [Bz 0, Tz 0], .box 5 72 [Bz 0, Tz 0], .slot 6 (VP.nums .i64 (fixd 10 k (z1.natAbs / z2.natAbs))), .slot 7 (VP.nums .i64 (dg 10 (z1.natAbs % z2.natAbs)))] [] [(0, .fp 54 2 0), (1, .slot 55 (Bz z1)), (2, .fp 56 3 0), (3, .slot 57 (Bz z2)), (4, .slot 58 (VP.bool (!(false == (decide (z2 < 0)))))), (5, .slot 59 (VP.nums .i64 (fixd 10 k (z1.natAbs / z2.natAbs)))), (6, .slot 60 (NUM (sz (!(false == (decide (z2 < 0)))) (z1.natAbs / z2.natAbs)))), (7, .own 9 72 2), (8, .box 9 72 [Bz (sz (!(false == (decide (z2 < 0)))) (z1.natAbs / z2.natAbs)), Tz (sz (!(false == (decide (z2 < 0)))) (z1.natAbs / z2.natAbs))])] [] [0, 1, 2, 3, 4, 5] [] rfl rfl follow rfl ⟨
          .inl ⟨wants_plain rfl, does_field _ _ _ 0 ty_f0_collatorref01_Num rfl rfl rfl rfl rfl rfl rfl (pt_box (av_fs 0 rfl))⟩,
          .inl ⟨wants_plain rfl, does_loadOne _ ty_one_bool rfl rfl rfl rfl rfl rfl (pt_fp (av_rs 0 rfl rfl)) (av_fs 0 rfl)⟩,
          .inl ⟨wants_plain rfl, does_field _ _ _ 0 ty_f0_collatorref01_Num rfl rfl rfl rfl rfl rfl rfl (pt_box (av_fs 1 rfl))⟩,
          .inl ⟨wants_plain rfl, does_loadOne _ ty_one_bool rfl rfl rfl rfl rfl rfl (pt_fp (av_rs 2 rfl rfl)) (av_fs 1 rfl)⟩,
          .inl ⟨wants_plain rfl, does_eqBool (u := false) (v := (decide (z2 < 0))) _ _ _ _ _ (by kernel_rfl) rfl rfl rfl rfl rfl rfl (ar_tmp (av_bool (decide_eq_false g1) (av_rs 1 rfl rfl))) (ar_tmp (av_rs 3 rfl rfl))⟩,
          .inl ⟨wants_plain rfl, does_move _ (.inl rfl) rfl rfl rfl rfl (ar_tmp (av_fs 4 rfl))⟩,
          .inl ⟨wants_plain rfl, does_call (r_makeQ (!(false == (decide (z2 < 0)))) z1.natAbs z2.natAbs k HN.out hk1) rfl hb_collator_collatorref01_make1 rfl rfl rfl rfl ⟨(ar_tmp (av_rs 4 rfl rfl)), (ar_tmp (av_rs 5 rfl rfl)), trivial⟩⟩,
          .inl ⟨wants_plain rfl, does_allocOwn [Bz 0, Tz 0] ty_zero_collatorref01_Num rfl rfl rfl rfl rfl z_num rfl⟩,
          .inl ⟨wants_plain rfl, does_storeNew 2 _ _ ty_agg_collatorref01_Num rfl rfl rfl rfl rfl (pt_own (av_rs 7 rfl rfl)) (av_rs 7 rfl rfl) (ar_tmp (av_rs 6 rfl rfl))⟩,
          trivial⟩ ?_
        refine nx_sub (fs' := [.box 2 72 [Bz z1, Tz z1], .box 3 72 [Bz z2, Tz z2], .box 4 72 [Bz 0, Tz 0], .box 5 72 [Bz 0, Tz 0], .slot 7 (VP.nums .i64 (dg 10 (z1.natAbs % z2.natAbs))), .box 9 72 [Bz (sz (!(false == (decide (z2 < 0)))) (z1.natAbs / z2.natAbs)), Tz (sz (!(false == (decide (z2 < 0)))) (z1.natAbs / z2.natAbs))]]) [0, 1, 2, 3, 5, 14] rfl ?_
        refine nx_then ?_
        refine t_seq ?_
        refine t_region (F := ⟨_, _, _, _⟩) [.box 2 72 [Bz z1, Tz z1], .box 3 72 [Bz z2, Tz z2], .box 4 72 [Bz 0, Tz 0], .box 5 72 [Bz 0, Tz 0], .slot 7 (VP.nums .i64 (dg 10 (z1.natAbs % z2.natAbs))), .box 9 72 [Bz (sz (!(false == (decide (z2 < 0)))) (z1.natAbs / z2.natAbs)), Tz (sz (!(false == (decide (z2 < 0)))) (z1.natAbs / z2.natAbs))]] [] [(0, .fp 61 2 0), (1, .slot 62 (Bz z1)), (2, .slot 63 (VP.nums .i64 (dg 10 (z1.natAbs % z2.natAbs)))), (3, .slot 64 (NUM (sz (decide (z1 < 0)) (z1.natAbs % z2.natAbs)))), (4, .own 10 72 2), (5, .box 10 72 [Bz (sz (decide (z1 < 0)) (z1.natAbs % z2.natAbs)), Tz (sz (decide (z1 < 0)) (z1.natAbs % z2.natAbs))])] [] [0, 1, 2, 3, 4, 5] [] rfl rfl follow rfl ⟨
          .inl ⟨wants_plain rfl, does_field _ _ _ 0 ty_f0_collatorref01_Num rfl rfl rfl rfl rfl rfl rfl (pt_box (av_fs 0 rfl))⟩,
          .inl ⟨wants_plain rfl, does_loadOne _ ty_one_bool rfl rfl rfl rfl rfl rfl (pt_fp (av_rs 0 rfl rfl)) (av_fs 0 rfl)⟩,
          .inl ⟨wants_plain rfl, does_move _ (.inl rfl) rfl rfl rfl rfl (ar_tmp (av_fs 4 rfl))⟩,
          .inl ⟨wants_plain rfl, does_call (r_make1 (decide (z1 < 0)) (z1.natAbs % z2.natAbs)) rfl hb_collator_collatorref01_make1 rfl rfl rfl rfl ⟨(ar_tmp (av_rs 1 rfl rfl)), (ar_tmp (av_rs 2 rfl rfl)), trivial⟩⟩,
          .inl ⟨wants_plain rfl, does_allocOwn [Bz 0, Tz 0] ty_zero_collatorref01_Num rfl rfl rfl rfl rfl z_num rfl⟩,
          .inl ⟨wants_plain rfl, does_storeNew 2 _ _ ty_agg_collatorref01_Num rfl rfl rfl rfl rfl (pt_own (av_rs 4 rfl rfl)) (av_rs 4 rfl rfl) (ar_tmp (av_rs 3 rfl rfl))⟩,
          trivial⟩ ?_
        refine nx_sub (fs' := [.box 3 72 [Bz z2, Tz z2], .box 4 72 [Bz 0, Tz 0], .box 5 72 [Bz 0, Tz 0], .box 9 72 [Bz (sz (!(false == (decide (z2 < 0)))) (z1.natAbs / z2.natAbs)), Tz (sz (!(false == (decide (z2 < 0)))) (z1.natAbs / z2.natAbs))], .box 10 72 [Bz (sz (decide (z1 < 0)) (z1.natAbs % z2.natAbs)), Tz (sz (decide (z1 < 0)) (z1.natAbs % z2.natAbs))]]) [1, 2, 3, 5, 11] rfl ?_
        refine nx_then ?_
        refine t_seq ?_
        refine t_seq ?_
        refine t_region (F := ⟨_, _, _, _⟩) [.box 3 72 [Bz z2, Tz z2], .box 4 72 [Bz 0, Tz 0], .box 5 72 [Bz 0, Tz 0], .box 9 72 [Bz (sz (!(false == (decide (z2 < 0)))) (z1.natAbs / z2.natAbs)), Tz (sz (!(false == (decide (z2 < 0)))) (z1.natAbs / z2.natAbs))], .box 10 72 [Bz (sz (decide (z1 < 0)) (z1.natAbs % z2.natAbs)), Tz (sz (decide (z1 < 0)) (z1.natAbs % z2.natAbs))]] [] [(0, .fp 65 10 0), (1, .slot 66 (Bz (sz (decide (z1 < 0)) (z1.natAbs % z2.natAbs))))] [] [0, 1, 2, 3, 4] [] rfl rfl follow rfl ⟨
          .inl ⟨wants_plain rfl, does_field _ _ _ 0 ty_f0_collatorref01_Num rfl rfl rfl rfl rfl rfl rfl (pt_box (av_fs 4 rfl))⟩,
          .inl ⟨wants_plain rfl, does_loadOne _ ty_one_bool rfl rfl rfl rfl rfl rfl (pt_fp (av_rs 0 rfl rfl)) (av_fs 4 rfl)⟩,
          trivial⟩ ?_
        refine nx_sub (fs' := [.box 3 72 [Bz z2, Tz z2], .box 4 72 [Bz 0, Tz 0], .box 5 72 [Bz 0, Tz 0], .box 9 72 [Bz (sz (!(false == (decide (z2 < 0)))) (z1.natAbs / z2.natAbs)), Tz (sz (!(false == (decide (z2 < 0)))) (z1.natAbs / z2.natAbs))], .box 10 72 [Bz (sz (decide (z1 < 0)) (z1.natAbs % z2.natAbs)), Tz (sz (decide (z1 < 0)) (z1.natAbs % z2.natAbs))], .slot 66 (Bz (sz (decide (z1 < 0)) (z1.natAbs % z2.natAbs)))]) [0, 1, 2, 3, 4, 6] rfl ?_
        refine nx_then ?_
        refine t_cond_fe 5 rfl (by rw [sz_neg, decide_eq_false g1]; rfl) ?_
        refine t_skip ?_
        refine nx_then ?_
        refine t_seq ?_
        refine t_region (F := ⟨_, _, _, _⟩) [.box 3 72 [Bz z2, Tz z2], .box 9 72 [Bz (sz (!(false == (decide (z2 < 0)))) (z1.natAbs / z2.natAbs)), Tz (sz (!(false == (decide (z2 < 0)))) (z1.natAbs / z2.natAbs))], .box 10 72 [Bz (sz (decide (z1 < 0)) (z1.natAbs % z2.natAbs)), Tz (sz (decide (z1 < 0)) (z1.natAbs % z2.natAbs))], .slot 66 (Bz (sz (decide (z1 < 0)) (z1.natAbs % z2.natAbs)))] [(2, .box 4 72 [Bz 0, Tz 0]), (3, .box 5 72 [Bz 0, Tz 0])] [(0, .slot 80 (NUM (sz (!(false == (decide (z2 < 0)))) (z1.natAbs / z2.natAbs)))), (1, .slot 81 (NUM (sz (decide (z1 < 0)) (z1.natAbs % z2.natAbs)))), (2, .box 4 72 [Bz (sz (!(false == (decide (z2 < 0)))) (z1.natAbs / z2.natAbs)), Tz (sz (!(false == (decide (z2 < 0)))) (z1.natAbs / z2.natAbs))]), (3, .box 5 72 [Bz (sz (decide (z1 < 0)) (z1.natAbs % z2.natAbs)), Tz (sz (decide (z1 < 0)) (z1.natAbs % z2.natAbs))])] [] [0, 3, 4, 5] [1, 2] rfl rfl follow rfl ⟨
          .inl ⟨wants_plain rfl, does_loadAgg _ ty_agg_collatorref01_Num rfl rfl rfl rfl rfl rfl (pt_box (av_fs 1 rfl)) (av_fs 1 rfl)⟩,
          .inl ⟨wants_plain rfl, does_loadAgg _ ty_agg_collatorref01_Num rfl rfl rfl rfl rfl rfl (pt_box (av_fs 2 rfl)) (av_fs 2 rfl)⟩,
          .inl ⟨wants_plain rfl, does_storeAgg 2 _ _ ty_agg_collatorref01_Num rfl rfl rfl rfl rfl (pt_box (av_os 0 rfl rfl)) (av_os 0 rfl rfl) (ar_tmp (av_rs 0 rfl rfl))⟩,
          .inl ⟨wants_plain rfl, does_storeAgg 2 _ _ ty_agg_collatorref01_Num rfl rfl rfl rfl rfl (pt_box (av_os 1 rfl rfl)) (av_os 1 rfl rfl) (ar_tmp (av_rs 1 rfl rfl))⟩,
          trivial⟩ ?_
        refine nx_sub (fs' := [.box 4 72 [Bz (sz (!(false == (decide (z2 < 0)))) (z1.natAbs / z2.natAbs)), Tz (sz (!(false == (decide (z2 < 0)))) (z1.natAbs / z2.natAbs))], .box 5 72 [Bz (sz (decide (z1 < 0)) (z1.natAbs % z2.natAbs)), Tz (sz (decide (z1 < 0)) (z1.natAbs % z2.natAbs))]]) [6, 7] rfl ?_
        refine nx_then ?_
        refine t_ret ?_
        exact rt_two rfl (res_agg 0 ty_agg_collatorref01_Num rfl) (res_agg 1 ty_agg_collatorref01_Num rfl)
end Go.Proofs.Ytogodjiemgilaaa

/- The reference's Div and Gcd, in the words of the logic over slots and boxes. -/
namespace Go.Proofs.Ytogodjiemgilaaa
open Go.RowKit
theorem len10_yes {q : Int} (h : q = 0) : ((((dg 10 q.natAbs).length : Nat) : Int) == 0) = true := by subst h; rfl
theorem len10_no {q : Int} (h : q ≠ 0) : ((((dg 10 q.natAbs).length : Nat) : Int) == 0) = false := by
  have := dg_len0 ten_gt q.natAbs
  rw [beq_eq_false_iff_ne]; omega
theorem gcd_step {a b g : Nat} (h : Nat.gcd a b = g) : Nat.gcd b (a % b) = g := by
  rw [← h, Nat.gcd_comm a b, Nat.gcd_rec b a]; exact Nat.gcd_comm _ _
theorem pos10_no {q : Nat} (h : q = 0) : decide ((((dg 10 (sz false q).natAbs).length : Nat) : Int) > 0) = false := by subst h; rfl
theorem pos10_yes {q : Nat} (h : 0 < q) : decide ((((dg 10 (sz false q).natAbs).length : Nat) : Int) > 0) = true := by
  have := dg_len0 ten_gt (sz false q).natAbs
  rw [sz_abs] at *
  rw [decide_eq_true_eq]; omega
set_option maxRecDepth 100000 in
set_option maxHeartbeats 4000000 in
theorem rdiv_zero (x y : Int) (h : y = 0) : Spec Try.prog 50 [(NUM x).p, (NUM y).p] (VP.tup [NUM 0, NUM 0]) := by
  refine spec_of (xs := [NUM x, NUM y]) 82 [2, 3, 4, 5, 9, 10] Try.func50 rfl Try.ntmps50 rfl fun w0 => ?_
  refine t_seq ?_
  refine t_region (F := ⟨_, _, _, _⟩) [.slot 0 (NUM x), .slot 1 (NUM y)] [] [(0, .box 2 72 [Bz x, Tz x]), (1, .box 3 72 [Bz y, Tz y]), (2, .box 4 72 [Bz 0, Tz 0]), (3, .box 5 72 [Bz 0, Tz 0])] [] [0, 1] [] rfl rfl follow rfl ⟨
    .inl ⟨wants_plain rfl, does_box _ rfl rfl rfl rfl rfl (ar_tmp (av_fs 0 rfl))⟩,
    .inl ⟨wants_plain rfl, does_box _ rfl rfl rfl rfl rfl (ar_tmp (av_fs 1 rfl))⟩,
    .inl ⟨wants_plain rfl, does_alloc ty_zero_collatorref01_Num rfl rfl rfl rfl rfl z_num⟩,
    .inl ⟨wants_plain rfl, does_alloc ty_zero_collatorref01_Num rfl rfl rfl rfl rfl z_num⟩,
    trivial⟩ ?_
  refine nx_sub (fs' := [.box 2 72 [Bz x, Tz x], .box 3 72 [Bz y, Tz y], .box 4 72 [Bz 0, Tz 0], .box 5 72 [Bz 0, Tz 0]]) [2, 3, 4, 5] rfl ?_
  refine nx_then ?_
  refine t_seq ?_
  refine t_seq ?_
  refine t_region (F := ⟨_, _, _, _⟩) [.box 2 72 [Bz x, Tz x], .box 3 72 [Bz y, Tz y], .box 4 72 [Bz 0, Tz 0], .box 5 72 [Bz 0, Tz 0]] [] [(0, .fp 11 3 1), (1, .slot 12 (Tz y)), (2, .slot 13 (VP.int .i64 (((dg 10 y.natAbs).length : Nat) : Int))), (3, .slot 14 (VP.bool ((((dg 10 y.natAbs).length : Nat) : Int) == 0)))] [] [0, 1, 2, 3] [] rfl rfl follow rfl ⟨
    .inl ⟨wants_plain rfl, does_field _ _ _ 1 ty_f1_collatorref01_Num rfl rfl rfl rfl rfl rfl rfl (pt_box (av_fs 1 rfl))⟩,
    .inl ⟨wants_plain rfl, does_loadOne _ ty_one___int rfl rfl rfl rfl rfl rfl (pt_fp (av_rs 0 rfl rfl)) (av_fs 1 rfl)⟩,
    .inl ⟨wants_plain rfl, does_len _ _ (by kernel_rfl) rfl rfl rfl rfl rfl (ar_tmp (av_rs 1 rfl rfl))⟩,
    .inl ⟨wants_plain rfl, does_cmp (m := (((dg 10 y.natAbs).length : Nat) : Int)) (n := 0) _ _ _ _ _ rfl rfl rfl rfl rfl rfl .i64 (ar_tmp (av_rs 2 rfl rfl)) (ar_const (fun _ => rfl))⟩,
    trivial⟩ ?_
  refine nx_sub (fs' := [.box 2 72 [Bz x, Tz x], .box 3 72 [Bz y, Tz y], .box 4 72 [Bz 0, Tz 0], .box 5 72 [Bz 0, Tz 0], .slot 14 (VP.bool ((((dg 10 y.natAbs).length : Nat) : Int) == 0))]) [0, 1, 2, 3, 7] rfl ?_
  refine nx_then ?_
  refine t_cond_te 4 rfl (len10_yes h) ?_
  refine t_seq ?_
  refine t_region (F := ⟨_, _, _, _⟩) [.box 2 72 [Bz x, Tz x], .box 3 72 [Bz y, Tz y], .slot 14 (VP.bool ((((dg 10 y.natAbs).length : Nat) : Int) == 0))] [(2, .box 4 72 [Bz 0, Tz 0]), (3, .box 5 72 [Bz 0, Tz 0])] [(0, .slot 15 (NUM 0)), (1, .slot 16 (NUM 0)), (2, .box 4 72 [Bz 0, Tz 0]), (3, .box 5 72 [Bz 0, Tz 0])] [] [0, 1, 4] [2, 3] rfl rfl follow rfl ⟨
    .inl ⟨wants_plain rfl, does_build [Bz 0, Tz 0] ty_zero_collatorref01_Num ty_pl_collatorref01_Num rfl rfl rfl rfl rfl z_num (.nil _)⟩,
    .inl ⟨wants_plain rfl, does_build [Bz 0, Tz 0] ty_zero_collatorref01_Num ty_pl_collatorref01_Num rfl rfl rfl rfl rfl z_num (.nil _)⟩,
    .inl ⟨wants_plain rfl, does_storeAgg 2 _ _ ty_agg_collatorref01_Num rfl rfl rfl rfl rfl (pt_box (av_os 0 rfl rfl)) (av_os 0 rfl rfl) (ar_tmp (av_rs 0 rfl rfl))⟩,
    .inl ⟨wants_plain rfl, does_storeAgg 2 _ _ ty_agg_collatorref01_Num rfl rfl rfl rfl rfl (pt_box (av_os 1 rfl rfl)) (av_os 1 rfl rfl) (ar_tmp (av_rs 1 rfl rfl))⟩,
    trivial⟩ ?_
  refine nx_sub (fs' := [.box 2 72 [Bz x, Tz x], .box 3 72 [Bz y, Tz y], .box 4 72 [Bz 0, Tz 0], .box 5 72 [Bz 0, Tz 0]]) [0, 1, 5, 6] rfl ?_
  refine nx_then ?_
  refine t_ret ?_
  refine rt_then ?_
  exact rt_two rfl (res_agg 2 ty_agg_collatorref01_Num rfl) (res_agg 3 ty_agg_collatorref01_Num rfl)
theorem r_div (x y : Int) (h1 : (dg 10 x.natAbs).length ≤ 100000) (h2 : (dg 10 y.natAbs).length ≤ 100000) : Spec Try.prog 50 [(NUM x).p, (NUM y).p] (VP.tup [NUM (divZ x y), NUM (modZ x y)]) := by
  by_cases h : y = 0
  · have e1 : divZ x y = 0 := by unfold divZ; rw [if_pos h]
    have e2 : modZ x y = 0 := by unfold modZ; rw [if_pos h]
    rw [e1, e2]
    exact rdiv_zero x y h
  · exact spec2 fun v1 v2 w p1 p2 => by
      obtain ⟨a, c, rfl, i1⟩ := num_open p1
      obtain ⟨b, d, rfl, i2⟩ := num_open p2
      exact rdiv_walk x y a b c d w h1 h2 i1 i2 h
theorem r_divN (a b : Nat) (h0 : 0 < b) (h1 : (dg 10 a).length ≤ 100000) (h2 : (dg 10 b).length ≤ 100000) : Spec Try.prog 50 [(NUM (sz false a)).p, (NUM (sz false b)).p] (VP.tup [NUM (sz false (a / b)), NUM (sz false (a % b))]) := by
  have h := r_div (sz false a) (sz false b) (by rw [sz_abs]; exact h1) (by rw [sz_abs]; exact h2)
  have hb : sz false b ≠ 0 := by show (b : Int) ≠ 0; omega
  have e1 : divZ (sz false a) (sz false b) = sz false (a / b) := by unfold divZ; rw [if_neg hb]; rfl
  have e2 : modZ (sz false a) (sz false b) = sz false (a % b) := by unfold modZ; rw [if_neg hb]; rfl
  rwa [e1, e2] at h
set_option maxRecDepth 100000 in
set_option maxHeartbeats 4000000 in
theorem r_gcd (x y : Int) (h1 : (dg 10 x.natAbs).length ≤ 100000) (h2 : (dg 10 y.natAbs).length ≤ 100000) : Spec Try.prog 60 [(NUM x).p, (NUM y).p] (NUM (gcdZ x y)) := by
  refine spec_of (xs := [NUM x, NUM y]) 26 [2, 3, 4, 5, 6] Try.func60 rfl Try.ntmps60 rfl fun w0 => ?_
  refine t_seq ?_
  refine t_region (F := ⟨_, _, _, _⟩) [.slot 0 (NUM x), .slot 1 (NUM y)] [] [(0, .box 2 72 [Bz x, Tz x]), (1, .box 3 72 [Bz y, Tz y]), (2, .box 4 72 [Bz 0, Tz 0])] [] [0, 1] [] rfl rfl follow rfl ⟨
    .inl ⟨wants_plain rfl, does_box _ rfl rfl rfl rfl rfl (ar_tmp (av_fs 0 rfl))⟩,
    .inl ⟨wants_plain rfl, does_box _ rfl rfl rfl rfl rfl (ar_tmp (av_fs 1 rfl))⟩,
    .inl ⟨wants_plain rfl, does_alloc ty_zero_collatorref01_Num rfl rfl rfl rfl rfl z_num⟩,
    trivial⟩ ?_
  refine nx_sub (fs' := [.box 2 72 [Bz x, Tz x], .box 3 72 [Bz y, Tz y], .box 4 72 [Bz 0, Tz 0]]) [2, 3, 4] rfl ?_
  refine nx_then ?_
  refine t_seq ?_
  refine t_region (F := ⟨_, _, _, _⟩) [.box 3 72 [Bz y, Tz y], .box 4 72 [Bz 0, Tz 0]] [(3, .box 2 72 [Bz x, Tz x])] [(0, .fp 7 2 1), (1, .slot 8 (Tz x)), (2, .slot 9 (NUM (sz false x.natAbs))), (3, .box 2 72 [Bz (sz false x.natAbs), Tz (sz false x.natAbs)])] [] [1, 2] [0] rfl rfl follow rfl ⟨
    .inl ⟨wants_plain rfl, does_field _ _ _ 1 ty_f1_collatorref01_Num rfl rfl rfl rfl rfl rfl rfl (pt_box (av_os 0 rfl rfl))⟩,
    .inl ⟨wants_plain rfl, does_loadOne _ ty_one___int rfl rfl rfl rfl rfl rfl (pt_fp (av_rs 0 rfl rfl)) (av_os 0 rfl rfl)⟩,
    .inl ⟨wants_plain rfl, does_call (r_make1 false x.natAbs) rfl hb_collator_collatorref01_make1 rfl rfl rfl rfl ⟨(ar_const (fun _ => rfl)), (ar_tmp (av_rs 1 rfl rfl)), trivial⟩⟩,
    .inl ⟨wants_plain rfl, does_storeAgg 2 _ _ ty_agg_collatorref01_Num rfl rfl rfl rfl rfl (pt_box (av_os 0 rfl rfl)) (av_os 0 rfl rfl) (ar_tmp (av_rs 2 rfl rfl))⟩,
    trivial⟩ ?_
  refine nx_sub (fs' := [.box 3 72 [Bz y, Tz y], .box 4 72 [Bz 0, Tz 0], .box 2 72 [Bz (sz false x.natAbs), Tz (sz false x.natAbs)]]) [0, 1, 5] rfl ?_
  refine nx_then ?_
  refine t_seq ?_
  refine t_region (F := ⟨_, _, _, _⟩) [.box 4 72 [Bz 0, Tz 0], .box 2 72 [Bz (sz false x.natAbs), Tz (sz false x.natAbs)]] [(3, .box 3 72 [Bz y, Tz y])] [(0, .fp 10 3 1), (1, .slot 11 (Tz y)), (2, .slot 12 (NUM (sz false y.natAbs))), (3, .box 3 72 [Bz (sz false y.natAbs), Tz (sz false y.natAbs)])] [] [1, 2] [0] rfl rfl follow rfl ⟨
    .inl ⟨wants_plain rfl, does_field _ _ _ 1 ty_f1_collatorref01_Num rfl rfl rfl rfl rfl rfl rfl (pt_box (av_os 0 rfl rfl))⟩,
    .inl ⟨wants_plain rfl, does_loadOne _ ty_one___int rfl rfl rfl rfl rfl rfl (pt_fp (av_rs 0 rfl rfl)) (av_os 0 rfl rfl)⟩,
    .inl ⟨wants_plain rfl, does_call (r_make1 false y.natAbs) rfl hb_collator_collatorref01_make1 rfl rfl rfl rfl ⟨(ar_const (fun _ => rfl)), (ar_tmp (av_rs 1 rfl rfl)), trivial⟩⟩,
    .inl ⟨wants_plain rfl, does_storeAgg 2 _ _ ty_agg_collatorref01_Num rfl rfl rfl rfl rfl (pt_box (av_os 0 rfl rfl)) (av_os 0 rfl rfl) (ar_tmp (av_rs 2 rfl rfl))⟩,
    trivial⟩ ?_
  refine nx_sub (fs' := [.box 4 72 [Bz 0, Tz 0], .box 2 72 [Bz (sz false x.natAbs), Tz (sz false x.natAbs)], .box 3 72 [Bz (sz false y.natAbs), Tz (sz false y.natAbs)]]) [0, 1, 5] rfl ?_
  refine nx_then ?_
  refine t_seq ?_
  refine t_block ?_
  refine t_loop (σ := {s : Nat × Nat // Nat.gcd s.1 s.2 = Nat.gcd x.natAbs y.natAbs ∧ (dg 10 s.1).length ≤ 100000 ∧ (dg 10 s.2).length ≤ 100000}) (fun s => [.box 2 72 [Bz (sz false s.1.1), Tz (sz false s.1.1)], .box 3 72 [Bz (sz false s.1.2), Tz (sz false s.1.2)], .box 4 72 [Bz 0, Tz 0]]) (fun s => s.1.2) (⟨(x.natAbs, y.natAbs), rfl, h1, h2⟩) [1, 2, 0] rfl ?_
  intro s
  rcases Nat.eq_zero_or_pos s.1.2 with h | h
  case inl =>
    rw [show gcdZ x y = sz false s.1.1 from by have h3 := s.2.1; rw [h, Nat.gcd_zero_right] at h3; rw [h3]; rfl]
    refine t_seq ?_
    refine t_seq ?_
    refine t_region (F := ⟨_, _, _, _⟩) [.box 2 72 [Bz (sz false s.1.1), Tz (sz false s.1.1)], .box 3 72 [Bz (sz false s.1.2), Tz (sz false s.1.2)], .box 4 72 [Bz 0, Tz 0]] [] [(0, .fp 13 3 1), (1, .slot 14 (Tz (sz false s.1.2))), (2, .slot 15 (VP.int .i64 (((dg 10 (sz false s.1.2).natAbs).length : Nat) : Int))), (3, .slot 16 (VP.bool (decide ((((dg 10 (sz false s.1.2).natAbs).length : Nat) : Int) > 0))))] [] [0, 1, 2] [] rfl rfl follow rfl ⟨
      .inl ⟨wants_plain rfl, does_field _ _ _ 1 ty_f1_collatorref01_Num rfl rfl rfl rfl rfl rfl rfl (pt_box (av_fs 1 rfl))⟩,
      .inl ⟨wants_plain rfl, does_loadOne _ ty_one___int rfl rfl rfl rfl rfl rfl (pt_fp (av_rs 0 rfl rfl)) (av_fs 1 rfl)⟩,
      .inl ⟨wants_plain rfl, does_len _ _ (by kernel_rfl) rfl rfl rfl rfl rfl (ar_tmp (av_rs 1 rfl rfl))⟩,
      .inl ⟨wants_plain rfl, does_cmp (m := (((dg 10 (sz false s.1.2).natAbs).length : Nat) : Int)) (n := 0) _ _ _ _ _ rfl rfl rfl rfl rfl rfl .i64 (ar_tmp (av_rs 2 rfl rfl)) (ar_const (fun _ => rfl))⟩,
      trivial⟩ ?_
    refine nx_sub (fs' := [.box 2 72 [Bz (sz false s.1.1), Tz (sz false s.1.1)], .box 3 72 [Bz (sz false s.1.2), Tz (sz false s.1.2)], .box 4 72 [Bz 0, Tz 0], .fp 13 3 1, .slot 14 (Tz (sz false s.1.2)), .slot 15 (VP.int .i64 (((dg 10 (sz false s.1.2).natAbs).length : Nat) : Int)), .slot 16 (VP.bool (decide ((((dg 10 (sz false s.1.2).natAbs).length : Nat) : Int) > 0)))]) [0, 1, 2, 3, 4, 5, 6] rfl ?_
    refine nx_then ?_
    refine t_cond_fe 6 rfl (pos10_no h) ?_
    refine t_exit ?_
    refine ex_then ?_
    refine ex_then ?_
    refine ex_block ?_
    refine nx_then ?_
    refine t_seq ?_
    refine t_region (F := ⟨_, _, _, _⟩) [.box 2 72 [Bz (sz false s.1.1), Tz (sz false s.1.1)], .box 3 72 [Bz (sz false s.1.2), Tz (sz false s.1.2)], .fp 13 3 1, .slot 14 (Tz (sz false s.1.2)), .slot 15 (VP.int .i64 (((dg 10 (sz false s.1.2).natAbs).length : Nat) : Int)), .slot 16 (VP.bool (decide ((((dg 10 (sz false s.1.2).natAbs).length : Nat) : Int) > 0)))] [(1, .box 4 72 [Bz 0, Tz 0])] [(0, .slot 25 (NUM (sz false s.1.1))), (1, .box 4 72 [Bz (sz false s.1.1), Tz (sz false s.1.1)])] [] [0, 1, 3, 4, 5, 6] [2] rfl rfl follow rfl ⟨
      .inl ⟨wants_plain rfl, does_loadAgg _ ty_agg_collatorref01_Num rfl rfl rfl rfl rfl rfl (pt_box (av_fs 0 rfl)) (av_fs 0 rfl)⟩,
      .inl ⟨wants_plain rfl, does_storeAgg 2 _ _ ty_agg_collatorref01_Num rfl rfl rfl rfl rfl (pt_box (av_os 0 rfl rfl)) (av_os 0 rfl rfl) (ar_tmp (av_rs 0 rfl rfl))⟩,
      trivial⟩ ?_
    refine nx_sub (fs' := [.box 4 72 [Bz (sz false s.1.1), Tz (sz false s.1.1)]]) [7] rfl ?_
    refine nx_then ?_
    refine t_ret ?_
    exact rt_one rfl (res_agg 0 ty_agg_collatorref01_Num rfl)
  case inr =>
    refine t_seq ?_
    refine t_seq ?_
    refine t_region (F := ⟨_, _, _, _⟩) [.box 2 72 [Bz (sz false s.1.1), Tz (sz false s.1.1)], .box 3 72 [Bz (sz false s.1.2), Tz (sz false s.1.2)], .box 4 72 [Bz 0, Tz 0]] [] [(0, .fp 13 3 1), (1, .slot 14 (Tz (sz false s.1.2))), (2, .slot 15 (VP.int .i64 (((dg 10 (sz false s.1.2).natAbs).length : Nat) : Int))), (3, .slot 16 (VP.bool (decide ((((dg 10 (sz false s.1.2).natAbs).length : Nat) : Int) > 0))))] [] [0, 1, 2] [] rfl rfl follow rfl ⟨
      .inl ⟨wants_plain rfl, does_field _ _ _ 1 ty_f1_collatorref01_Num rfl rfl rfl rfl rfl rfl rfl (pt_box (av_fs 1 rfl))⟩,
      .inl ⟨wants_plain rfl, does_loadOne _ ty_one___int rfl rfl rfl rfl rfl rfl (pt_fp (av_rs 0 rfl rfl)) (av_fs 1 rfl)⟩,
      .inl ⟨wants_plain rfl, does_len _ _ (by kernel_rfl) rfl rfl rfl rfl rfl (ar_tmp (av_rs 1 rfl rfl))⟩,
      .inl ⟨wants_plain rfl, does_cmp (m := (((dg 10 (sz false s.1.2).natAbs).length : Nat) : Int)) (n := 0) _ _ _ _ _ rfl rfl rfl rfl rfl rfl .i64 (ar_tmp (av_rs 2 rfl rfl)) (ar_const (fun _ => rfl))⟩,
      trivial⟩ ?_
    refine nx_sub (fs' := [.box 2 72 [Bz (sz false s.1.1), Tz (sz false s.1.1)], .box 3 72 [Bz (sz false s.1.2), Tz (sz false s.1.2)], .box 4 72 [Bz 0, Tz 0], .fp 13 3 1, .slot 14 (Tz (sz false s.1.2)), .slot 15 (VP.int .i64 (((dg 10 (sz false s.1.2).natAbs).length : Nat) : Int)), .slot 16 (VP.bool (decide ((((dg 10 (sz false s.1.2).natAbs).length : Nat) : Int) > 0)))]) [0, 1, 2, 3, 4, 5, 6] rfl ?_
    refine nx_then ?_
    refine t_cond_te 6 rfl (pos10_yes h) ?_
    refine t_skip ?_
    refine nx_then ?_
    refine t_block ?_
    refine t_seq ?_
    refine t_region (F := ⟨_, _, _, _⟩) [.box 2 72 [Bz (sz false s.1.1), Tz (sz false s.1.1)], .box 3 72 [Bz (sz false s.1.2), Tz (sz false s.1.2)], .box 4 72 [Bz 0, Tz 0], .fp 13 3 1, .slot 14 (Tz (sz false s.1.2)), .slot 15 (VP.int .i64 (((dg 10 (sz false s.1.2).natAbs).length : Nat) : Int)), .slot 16 (VP.bool (decide ((((dg 10 (sz false s.1.2).natAbs).length : Nat) : Int) > 0)))] [] [(0, .slot 18 (NUM (sz false s.1.1))), (1, .slot 19 (NUM (sz false s.1.2))), (2, .slot 20 (VP.tup [NUM (sz false (s.1.1 / s.1.2)), NUM (sz false (s.1.1 % s.1.2))])), (3, .slot 17 (VP.tup [NUM (sz false (s.1.1 / s.1.2)), NUM (sz false (s.1.1 % s.1.2))])), (4, .slot 21 (NUM (sz false (s.1.1 / s.1.2)))), (5, .slot 22 (NUM (sz false (s.1.1 % s.1.2)))), (6, .own 5 72 2), (7, .own 6 72 2), (8, .box 5 72 [Bz (sz false (s.1.1 / s.1.2)), Tz (sz false (s.1.1 / s.1.2))]), (9, .box 6 72 [Bz (sz false (s.1.1 % s.1.2)), Tz (sz false (s.1.1 % s.1.2))])] [] [0, 1, 2, 3, 4, 5, 6] [] rfl rfl follow rfl ⟨
      .inl ⟨wants_plain rfl, does_loadAgg _ ty_agg_collatorref01_Num rfl rfl rfl rfl rfl rfl (pt_box (av_fs 0 rfl)) (av_fs 0 rfl)⟩,
      .inl ⟨wants_plain rfl, does_loadAgg _ ty_agg_collatorref01_Num rfl rfl rfl rfl rfl rfl (pt_box (av_fs 1 rfl)) (av_fs 1 rfl)⟩,
      .inl ⟨wants_plain rfl, does_call (r_divN s.1.1 s.1.2 h s.2.2.1 s.2.2.2) rfl hb_collator_collatorref01_Div rfl rfl rfl rfl ⟨(ar_tmp (av_rs 0 rfl rfl)), (ar_tmp (av_rs 1 rfl rfl)), trivial⟩⟩,
      .inl ⟨wants_plain rfl, does_move _ (.inl rfl) rfl rfl rfl rfl (ar_tmp (av_rs 2 rfl rfl))⟩,
      .inl ⟨wants_plain rfl, does_extract (ps := [NUM (sz false (s.1.1 / s.1.2)), NUM (sz false (s.1.1 % s.1.2))]) _ _ rfl rfl rfl rfl rfl (ar_tmp (av_rs 3 rfl rfl)) rfl⟩,
      .inl ⟨wants_plain rfl, does_extract (ps := [NUM (sz false (s.1.1 / s.1.2)), NUM (sz false (s.1.1 % s.1.2))]) _ _ rfl rfl rfl rfl rfl (ar_tmp (av_rs 3 rfl rfl)) rfl⟩,
      .inl ⟨wants_plain rfl, does_allocOwn [Bz 0, Tz 0] ty_zero_collatorref01_Num rfl rfl rfl rfl rfl z_num rfl⟩,
      .inl ⟨wants_plain rfl, does_allocOwn [Bz 0, Tz 0] ty_zero_collatorref01_Num rfl rfl rfl rfl rfl z_num rfl⟩,
      .inl ⟨wants_plain rfl, does_storeNew 2 _ _ ty_agg_collatorref01_Num rfl rfl rfl rfl rfl (pt_own (av_rs 6 rfl rfl)) (av_rs 6 rfl rfl) (ar_tmp (av_rs 4 rfl rfl))⟩,
      .inl ⟨wants_plain rfl, does_storeNew 2 _ _ ty_agg_collatorref01_Num rfl rfl rfl rfl rfl (pt_own (av_rs 7 rfl rfl)) (av_rs 7 rfl rfl) (ar_tmp (av_rs 5 rfl rfl))⟩,
      trivial⟩ ?_
    refine nx_sub (fs' := [.box 2 72 [Bz (sz false s.1.1), Tz (sz false s.1.1)], .box 3 72 [Bz (sz false s.1.2), Tz (sz false s.1.2)], .box 4 72 [Bz 0, Tz 0], .fp 13 3 1, .slot 14 (Tz (sz false s.1.2)), .slot 15 (VP.int .i64 (((dg 10 (sz false s.1.2).natAbs).length : Nat) : Int)), .slot 16 (VP.bool (decide ((((dg 10 (sz false s.1.2).natAbs).length : Nat) : Int) > 0))), .slot 18 (NUM (sz false s.1.1)), .slot 19 (NUM (sz false s.1.2)), .slot 20 (VP.tup [NUM (sz false (s.1.1 / s.1.2)), NUM (sz false (s.1.1 % s.1.2))]), .slot 17 (VP.tup [NUM (sz false (s.1.1 / s.1.2)), NUM (sz false (s.1.1 % s.1.2))]), .slot 21 (NUM (sz false (s.1.1 / s.1.2))), .slot 22 (NUM (sz false (s.1.1 % s.1.2))), .box 5 72 [Bz (sz false (s.1.1 / s.1.2)), Tz (sz false (s.1.1 / s.1.2))], .box 6 72 [Bz (sz false (s.1.1 % s.1.2)), Tz (sz false (s.1.1 % s.1.2))]]) [0, 1, 2, 3, 4, 5, 6, 7, 8, 9, 10, 11, 12, 15, 16] rfl ?_
    refine nx_then ?_
    refine t_region (F := ⟨_, _, _, _⟩) [.box 4 72 [Bz 0, Tz 0], .fp 13 3 1, .slot 14 (Tz (sz false s.1.2)), .slot 15 (VP.int .i64 (((dg 10 (sz false s.1.2).natAbs).length : Nat) : Int)), .slot 16 (VP.bool (decide ((((dg 10 (sz false s.1.2).natAbs).length : Nat) : Int) > 0))), .slot 18 (NUM (sz false s.1.1)), .slot 19 (NUM (sz false s.1.2)), .slot 20 (VP.tup [NUM (sz false (s.1.1 / s.1.2)), NUM (sz false (s.1.1 % s.1.2))]), .slot 17 (VP.tup [NUM (sz false (s.1.1 / s.1.2)), NUM (sz false (s.1.1 % s.1.2))]), .slot 21 (NUM (sz false (s.1.1 / s.1.2))), .slot 22 (NUM (sz false (s.1.1 % s.1.2))), .box 5 72 [Bz (sz false (s.1.1 / s.1.2)), Tz (sz false (s.1.1 / s.1.2))], .box 6 72 [Bz (sz false (s.1.1 % s.1.2)), Tz (sz false (s.1.1 % s.1.2))]] [(2, .box 2 72 [Bz (sz false s.1.1), Tz (sz false s.1.1)]), (3, .box 3 72 [Bz (sz false s.1.2), Tz (sz false s.1.2)])] [(0, .slot 23 (NUM (sz false s.1.2))), (1, .slot 24 (NUM (sz false (s.1.1 % s.1.2)))), (2, .box 2 72 [Bz (sz false s.1.2), Tz (sz false s.1.2)]), (3, .box 3 72 [Bz (sz false (s.1.1 % s.1.2)), Tz (sz false (s.1.1 % s.1.2))])] [] [2, 3, 4, 5, 6, 7, 8, 9, 10, 11, 12, 13, 14] [0, 1] rfl rfl follow rfl ⟨
      .inl ⟨wants_plain rfl, does_loadAgg _ ty_agg_collatorref01_Num rfl rfl rfl rfl rfl rfl (pt_box (av_os 1 rfl rfl)) (av_os 1 rfl rfl)⟩,
      .inl ⟨wants_plain rfl, does_loadAgg _ ty_agg_collatorref01_Num rfl rfl rfl rfl rfl rfl (pt_box (av_fs 12 rfl)) (av_fs 12 rfl)⟩,
      .inl ⟨wants_plain rfl, does_storeAgg 2 _ _ ty_agg_collatorref01_Num rfl rfl rfl rfl rfl (pt_box (av_os 0 rfl rfl)) (av_os 0 rfl rfl) (ar_tmp (av_rs 0 rfl rfl))⟩,
      .inl ⟨wants_plain rfl, does_storeAgg 2 _ _ ty_agg_collatorref01_Num rfl rfl rfl rfl rfl (pt_box (av_os 1 rfl rfl)) (av_os 1 rfl rfl) (ar_tmp (av_rs 1 rfl rfl))⟩,
      trivial⟩ ?_
    refine nx_sub (fs' := [.box 4 72 [Bz 0, Tz 0], .fp 13 3 1, .slot 14 (Tz (sz false s.1.2)), .slot 15 (VP.int .i64 (((dg 10 (sz false s.1.2).natAbs).length : Nat) : Int)), .slot 16 (VP.bool (decide ((((dg 10 (sz false s.1.2).natAbs).length : Nat) : Int) > 0))), .slot 18 (NUM (sz false s.1.1)), .slot 19 (NUM (sz false s.1.2)), .slot 20 (VP.tup [NUM (sz false (s.1.1 / s.1.2)), NUM (sz false (s.1.1 % s.1.2))]), .slot 17 (VP.tup [NUM (sz false (s.1.1 / s.1.2)), NUM (sz false (s.1.1 % s.1.2))]), .slot 21 (NUM (sz false (s.1.1 / s.1.2))), .slot 22 (NUM (sz false (s.1.1 % s.1.2))), .box 5 72 [Bz (sz false (s.1.1 / s.1.2)), Tz (sz false (s.1.1 / s.1.2))], .box 6 72 [Bz (sz false (s.1.1 % s.1.2)), Tz (sz false (s.1.1 % s.1.2))], .slot 23 (NUM (sz false s.1.2)), .slot 24 (NUM (sz false (s.1.1 % s.1.2))), .box 2 72 [Bz (sz false s.1.2), Tz (sz false s.1.2)], .box 3 72 [Bz (sz false (s.1.1 % s.1.2)), Tz (sz false (s.1.1 % s.1.2))]]) [0, 1, 2, 3, 4, 5, 6, 7, 8, 9, 10, 11, 12, 13, 14, 15, 16] rfl ?_
    refine nx_block ?_
    exact nx_round ⟨(s.1.2, s.1.1 % s.1.2), gcd_step s.2.1, s.2.2.2, Nat.le_trans (dg_len_mono ten_gt (Nat.mod_le _ _)) s.2.2.1⟩ (Nat.mod_lt _ h) [15, 16, 0] rfl
end Go.Proofs.Ytogodjiemgilaaa

/- What an argument of type api.Int is. -/
namespace Go.Proofs.Ytogodjiemgilaaa
open Go.RowKit

theorem nums_of {k : IntKind} {B : Nat} : ∀ (xs : List (List Value)), (∀ x ∈ xs, ∃ d : Nat, x = [.int k (d : Int)] ∧ d < B) → ∃ l : List Nat, l.length = xs.length ∧ xs.flatten = ks k l ∧ ∀ d ∈ l, d < B
  | [], _ => ⟨[], rfl, rfl, fun _ h => by cases h⟩
  | x :: r, h => by
    obtain ⟨d, rfl, hd⟩ := h x (List.mem_cons_self ..)
    obtain ⟨l, h1, h2, h3⟩ := nums_of r (fun x hx => h x (List.mem_cons_of_mem _ hx))
    exact ⟨d :: l, by simp [h1], by rw [List.flatten_cons, h2]; rfl, fun q hq => by
      rcases List.mem_cons.1 hq with rfl | hq
      · exact hd
      · exact h3 q hq⟩

theorem typed_u32s {w : World} {n : Nat} {cs : List Value} (h : Typed Try.prog w n 67 cs) :
    ∃ (a : Option Addr) (l : List Nat) (c : Nat), cs = [.slice a l.length c] ∧ l.length ≤ c ∧ c ≤ maxLen ∧ (∀ d ∈ l, d < 4294967296) ∧ Rd w a (ks .u32 l) := by
  obtain ⟨a, cap, xs, m, rfl, h1, h2, h3, h4⟩ := h.slice Try.underlying67
  obtain ⟨l, e1, e2, e3⟩ := nums_of (k := .u32) (B := 4294967296) xs (fun x hx => by
    obtain ⟨y, rfl, hy⟩ := (h3 x hx).2.int Try.underlying160
    have hb : 0 ≤ y ∧ y < 4294967296 := by simp [Lit.wf, IntKind.min, IntKind.max, IntKind.signed, IntKind.bits] at hy; omega
    exact ⟨y.toNat, by rw [Int.toNat_of_nonneg hb.1], by omega⟩)
  rw [e2] at h4
  exact ⟨a, l, cap, by rw [e1], by rw [e1]; exact h1, h2, e3, h4⟩

theorem two_of {α : Type} {l : List α} (h : l.length = 2) : ∃ a b, l = [a, b] := by
  cases l with
  | nil => cases h
  | cons a r =>
    cases r with
    | nil => cases h
    | cons b r2 =>
      cases r2 with
      | nil => exact ⟨a, b, rfl⟩
      | cons c r3 => simp at h

theorem cells_aint : Try.prog.cellsOf 69 = 2 := by kernel_rfl
theorem cells_u32s : Try.prog.cellsOf 67 = 1 := by kernel_rfl
theorem cells_bool : Try.prog.cellsOf 4 = 1 := by kernel_rfl

theorem arg_aint {w : World} {v : Value} (h : Arg Try.prog w 69 v) : ∃ x : AInt, v = x.v ∧ x.ok w := by
  obtain ⟨cs, m, rfl, hl, hf⟩ := h.struct Try.underlying69
  rw [cells_aint] at hl
  obtain ⟨u0, u1, rfl⟩ := two_of hl
  have f0 := hf _ (List.mem_cons_self ..)
  have f1 := hf _ (List.mem_cons_of_mem _ (List.mem_cons_self ..))
  simp only at f0 f1
  rw [cells_bool] at f0
  rw [cells_u32s] at f1
  obtain ⟨s, hs⟩ := f0.bool Try.underlying4
  obtain ⟨a, l, c, hc, h1, h2, h3, h4⟩ := typed_u32s f1
  have e0 : u0 = .bool s := by simpa using hs
  have e1 : u1 = .slice a l.length c := by simpa using hc
  subst e0 e1
  exact ⟨⟨s, a, l, c⟩, rfl, h1, h2, h3, h4⟩
end Go.Proofs.Ytogodjiemgilaaa

/- What the functions of law 1 do, in the words of the logic over slots and boxes. -/
namespace Go.Proofs.Ytogodjiemgilaaa
open Go.RowKit

theorem r_same1 (x : Int) (h1 : L x ≤ 100000) : Spec Try.prog 51 [(INT x).p, (INT x).p] (VP.bool true) := by
  have := r_same x x h1 h1
  rwa [decide_eq_true rfl] at this
theorem sp1_spec : Spec Try.prog 46 [] (VP.bool true) :=
  spec0 fun w => (speaks1_walk w).mono fun _e _w' h => ⟨_, h.1, rfl, h.2⟩

/-- an integer as it came in: a sign, and digits -/
abbrev Raw := Bool × List Nat
abbrev RAW (x : Raw) : VP := VP.agg [VP.bool x.1, VP.nums .u32 x.2]
def rawcells : List Raw → List VP
  | [] => []
  | x :: r => VP.bool x.1 :: VP.nums .u32 x.2 :: rawcells r
/-- its digits are digits of 32 bits -/
def Raw.ok (x : Raw) : Prop := ∀ d ∈ x.2, d < 4294967296
def oddP (x : Raw) : Bool := decide (10 < x.2.length) || !rightB x.1 x.2
theorem raw_flat : ∀ (ps : List Raw) (cs : List Value) (w : World), All2 (rawcells ps) cs w → (∀ x ∈ ps, x.ok) → ∃ xs : List AInt, flatA xs = cs ∧ xs.map (fun x => (x.s, x.l)) = ps ∧ ∀ x ∈ xs, x.ok w
  | [], [], _, _, _ => ⟨[], rfl, rfl, fun _ h => by cases h⟩
  | x :: r, u :: v :: cs, w, h, hx => by
    obtain ⟨h1, ⟨a, c, h2, h3, h4, h5⟩, h6⟩ := h
    have h1 : u = .bool x.1 := h1
    subst h1 h2
    obtain ⟨xs, e1, e2, e3⟩ := raw_flat r cs w h6 (fun y hy => hx y (List.mem_cons_of_mem _ hy))
    refine ⟨⟨x.1, a, x.2, c⟩ :: xs, by simp only [flatA, e1], by simp only [List.map_cons, e2], fun y hy => ?_⟩
    rcases List.mem_cons.1 hy with rfl | hy
    · exact ⟨h3, h4, hx x (List.mem_cons_self ..), h5⟩
    · exact e3 y hy
theorem s_odd (ps : List Raw) (hn : ps.length ≤ 1000) (hx : ∀ x ∈ ps, x.ok) : Spec Try.prog 47 [isArr 69 ps.length (rawcells ps)] (VP.bool (ps.any oddP)) :=
  spec1 fun v1 w p1 => by
    obtain ⟨g, cs, rfl, h1, h2⟩ := p1
    obtain ⟨xs, e1, e2, e3⟩ := raw_flat ps cs w h2 hx
    have hl : xs.length = ps.length := by rw [← e2]; simp
    have := odd1_walk xs g 0 ps.length w (by omega) (fun j u hu => by rw [Nat.zero_add]; exact h1.cell (by rw [← e1]; exact hu)) e3
    rw [hl] at this
    refine this.mono fun e w' h => ⟨_, h.1, ?_, h.2⟩
    show Value.bool _ = Value.bool _
    rw [← e2, List.any_map]
    rfl
/-- an integer -/
abbrev raw (z : Int) : Raw := (decide (z < 0), dg BB z.natAbs)
theorem raw_ok (z : Int) : (raw z).ok := fun d hd => Nat.lt_trans (dg_lt BB_gt hd) (by decide)
theorem raw_even {z : Int} (h : L z ≤ 10) : oddP (raw z) = false := by
  unfold oddP raw
  rw [int_right, decide_eq_false (by unfold L at h; simp only; omega)]; rfl
theorem s_even2 (x y : Int) (h1 : L x ≤ 10) (h2 : L y ≤ 10) : Spec Try.prog 47 [isArr 69 2 [Bz x, Dz x, Bz y, Dz y]] (VP.bool false) := by
  have := s_odd [raw x, raw y] (by simp) (fun z hz => by
    simp only [List.mem_cons, List.not_mem_nil, or_false] at hz
    rcases hz with rfl | rfl <;> exact raw_ok _)
  simp only [List.any_cons, raw_even h1, raw_even h2, List.any_nil, Bool.or_self] at this
  exact this
theorem s_odd2 (x y : Raw) (h1 : x.ok) (h2 : y.ok) (h : [x, y].any oddP = true) : Spec Try.prog 47 [isArr 69 2 [VP.bool x.1, VP.nums .u32 x.2, VP.bool y.1, VP.nums .u32 y.2]] (VP.bool true) := by
  have := s_odd [x, y] (by simp) (fun z hz => by
    simp only [List.mem_cons, List.not_mem_nil, or_false] at hz
    rcases hz with rfl | rfl
    · exact h1
    · exact h2)
  rw [h] at this
  exact this
/-- an argument of type api.Int is a sign and digits -/
theorem arg_raw {w : World} {v : Value} (h : Arg Try.prog w 69 v) : ∃ x : Raw, x.ok ∧ (RAW x).p v w := by
  obtain ⟨x, rfl, h1, h2, h3, h4⟩ := arg_aint h
  exact ⟨(x.s, x.l), h3, [.bool x.s, .slice x.a x.l.length x.c], rfl, rfl, ⟨x.a, x.c, rfl, h1, h2, h4⟩, trivial⟩
/-- one that is right -/
theorem raw_right {x : Raw} (h : oddP x = false) : ∃ z : Int, L z ≤ 10 ∧ x = raw z := by
  unfold oddP at h
  rw [Bool.or_eq_false_iff] at h
  obtain ⟨z, h1, h2⟩ := right_int (s := x.1) (l := x.2) (by simpa using h.2)
  have := of_decide_eq_false h.1
  refine ⟨z, by unfold L; rw [← h2]; omega, ?_⟩
  obtain ⟨s, l⟩ := x
  simp only at h1 h2
  rw [h1, h2]
/-- a spec, called -/
theorem Spec.call1 {P : Program} {f : FuncId} {q : Value → World → Prop} {x : VP} (h : Spec P f [q] x) {v : Value} {w : World} (h1 : q v w) : Calls P f #[v] w fun e w' => ∃ v, e = .returned v ∧ x.p v w' ∧ Ext w w' :=
  h #[v] w rfl fun j q' hq => by
    match j, hq with
    | 0, hq => cases hq; exact ⟨v, rfl, h1⟩
theorem Spec.call2 {P : Program} {f : FuncId} {q r : Value → World → Prop} {x : VP} (h : Spec P f [q, r] x) {u v : Value} {w : World} (h1 : q u w) (h2 : r v w) : Calls P f #[u, v] w fun e w' => ∃ v, e = .returned v ∧ x.p v w' ∧ Ext w w' :=
  h #[u, v] w rfl fun j q' hq => by
    match j, hq with
    | 0, hq => cases hq; exact ⟨u, rfl, h1⟩
    | 1, hq => cases hq; exact ⟨v, rfl, h2⟩
theorem Spec.call3 {P : Program} {f : FuncId} {q r s : Value → World → Prop} {x : VP} (h : Spec P f [q, r, s] x) {u v t : Value} {w : World} (h1 : q u w) (h2 : r v w) (h3 : s t w) : Calls P f #[u, v, t] w fun e w' => ∃ v, e = .returned v ∧ x.p v w' ∧ Ext w w' :=
  h #[u, v, t] w rfl fun j q' hq => by
    match j, hq with
    | 0, hq => cases hq; exact ⟨u, rfl, h1⟩
    | 1, hq => cases hq; exact ⟨v, rfl, h2⟩
    | 2, hq => cases hq; exact ⟨t, rfl, h3⟩
theorem true_of {w : World} {e : Ending} {w' : World} (h : ∃ v, e = .returned v ∧ (VP.bool true).p v w' ∧ Ext w w') : e = .returned (.bool true) ∧ Ext w w' := by
  obtain ⟨v, h1, h2, h3⟩ := h
  have h2 : v = .bool true := h2
  subst h2
  exact ⟨h1, h3⟩
theorem z_int_2 : ∀ w, All2 [Bz 0, Dz 0, Bz 0, Dz 0] [.bool false, .slice none 0 0, .bool false, .slice none 0 0] w := z_frac
theorem z_int_3 (w : World) : All2 [Bz 0, Dz 0, Bz 0, Dz 0, Bz 0, Dz 0] [.bool false, .slice none 0 0, .bool false, .slice none 0 0, .bool false, .slice none 0 0] w := ⟨rfl, nums_nil _ _, rfl, nums_nil _ _, rfl, nums_nil _ _, trivial⟩
end Go.Proofs.Ytogodjiemgilaaa
