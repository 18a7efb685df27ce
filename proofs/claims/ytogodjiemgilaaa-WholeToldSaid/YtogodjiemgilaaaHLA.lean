/- A logic of my own over slots and boxes: what values, worlds and frames are said to be. No program stands in this text. -/
import Derived.Test.YtogodjiemgilaaaBase
import Derived.Orders
namespace Go.Proofs.Ytogodjiemgilaaa
open Go.RowKit

/-! ### The world goes on: what holds numbers stands -/
def NotInt (v : Value) : Prop := ∀ k n, v ≠ .int k n
def Boxed (w : World) (b : Nat) : Prop := ∃ cs T, w.heap[b]? = some (.cells cs T (0, 0)) ∧ ∀ u ∈ cs.toList, NotInt u
def Evol (w w' : World) : Prop := w.heap.size ≤ w'.heap.size ∧ ∀ b, b < w.heap.size → w'.heap[b]? = w.heap[b]? ∨ (Boxed w b ∧ Boxed w' b)
theorem Evol.of_ext {w w' : World} (e : Ext w w') : Evol w w' := ⟨e.size, fun b hb => .inl (e.block b hb)⟩
theorem Evol.refl (w : World) : Evol w w := .of_ext (Ext.refl w)
theorem Evol.trans {a b c : World} (h : Evol a b) (k : Evol b c) : Evol a c := by
  refine ⟨Nat.le_trans h.1 k.1, fun x hx => ?_⟩
  rcases h.2 x hx with e1 | ⟨b1, b2⟩ <;> rcases k.2 x (Nat.lt_of_lt_of_le hx h.1) with e2 | ⟨b3, b4⟩
  · exact .inl (e2.trans e1)
  · refine .inr ⟨?_, b4⟩
    obtain ⟨cs, T, h1, h2⟩ := b3
    exact ⟨cs, T, e1.symm.trans h1, h2⟩
  · refine .inr ⟨b1, ?_⟩
    obtain ⟨cs, T, h1, h2⟩ := b2
    exact ⟨cs, T, e2.trans h1, h2⟩
  · exact .inr ⟨b1, b4⟩
theorem Rd.evol {w w' : World} {a : Option Addr} {xs : List Value} (h : Rd w a xs) (hx : ∀ u ∈ xs, ¬ NotInt u) (e : Evol w w') : Rd w' a xs := by
  rcases h with rfl | ⟨b, off, ea, hc⟩
  · exact .inl rfl
  · refine .inr ⟨b, off, ea, fun j u hu => ?_⟩
    have h1 := hc j u hu
    have hb := World.block_lt_of_cell? w _ h1
    rcases e.2 b hb with e1 | ⟨⟨cs, T, h2, h3⟩, _⟩
    · rw [World.cell?_of_block (w := w) e1]; exact h1
    · exfalso
      refine hx u (List.mem_of_getElem? hu) (h3 u ?_)
      rw [cell_of_row w b (off + j) cs T (0, 0) h2] at h1
      have := List.mem_of_getElem? (l := cs.toList) (i := off + j) (a := u) (by simpa using h1)
      exact this

/-! ### What is said of a value -/
structure VP where
  p : Value → World → Prop
  ni : Bool
  st : ∀ v w w', p v w → Evol w w' → p v w'
  hni : ni = true → ∀ v w, p v w → NotInt v
  one : Bool
  hone : one = true → ∀ v w, p v w → v.oneCell' = true

def All2 : List VP → List Value → World → Prop
  | [], [], _ => True
  | x :: xs, v :: vs, w => x.p v w ∧ All2 xs vs w
  | _, _, _ => False
theorem All2.len : ∀ {ps : List VP} {vs : List Value} {w : World}, All2 ps vs w → vs.length = ps.length
  | [], [], _, _ => rfl
  | _ :: _, _ :: _, _, h => by simp [All2.len h.2]
  | [], _ :: _, _, h => h.elim
  | _ :: _, [], _, h => h.elim
theorem All2.st : ∀ {ps : List VP} {vs : List Value} {w w' : World}, All2 ps vs w → Evol w w' → All2 ps vs w'
  | [], [], _, _, _, _ => trivial
  | x :: _, v :: _, _, _, h, e => ⟨x.st v _ _ h.1 e, All2.st h.2 e⟩
  | [], _ :: _, _, _, h, _ => h.elim
  | _ :: _, [], _, _, h, _ => h.elim
theorem All2.get : ∀ {ps : List VP} {vs : List Value} {w : World}, All2 ps vs w → ∀ {i : Nat} {x : VP}, ps[i]? = some x → ∃ v, vs[i]? = some v ∧ x.p v w
  | [], [], _, _, i, _, h => by simp at h
  | y :: _, v :: _, _, h, 0, x, hx => by simp at hx; subst hx; exact ⟨v, rfl, h.1⟩
  | _ :: _, _ :: _, _, h, i + 1, x, hx => by simpa using All2.get h.2 (by simpa using hx)
  | [], _ :: _, _, h, _, _, _ => h.elim
  | _ :: _, [], _, h, _, _, _ => h.elim
theorem All2.app : ∀ {ps qs : List VP} {us vs : List Value} {w : World}, All2 ps us w → All2 qs vs w → All2 (ps ++ qs) (us ++ vs) w
  | [], _, [], _, _, _, k => k
  | _ :: _, _, _ :: _, _, _, h, k => ⟨h.1, All2.app h.2 k⟩
  | [], _, _ :: _, _, _, h, _ => h.elim
  | _ :: _, _, [], _, _, h, _ => h.elim
theorem All2.take : ∀ {ps : List VP} {vs : List Value} {w : World}, All2 ps vs w → ∀ n, All2 (ps.take n) (vs.take n) w
  | [], [], _, _, n => by simp [All2]
  | _ :: _, _ :: _, _, h, 0 => trivial
  | _ :: _, _ :: _, _, h, n + 1 => ⟨h.1, All2.take h.2 n⟩
  | [], _ :: _, _, h, _ => h.elim
  | _ :: _, [], _, h, _ => h.elim
theorem All2.drop : ∀ {ps : List VP} {vs : List Value} {w : World}, All2 ps vs w → ∀ n, All2 (ps.drop n) (vs.drop n) w
  | [], [], _, _, n => by simp [All2]
  | _ :: _, _ :: _, _, h, 0 => h
  | _ :: _, _ :: _, _, h, n + 1 => All2.drop h.2 n
  | [], _ :: _, _, h, _ => h.elim
  | _ :: _, [], _, h, _ => h.elim
theorem All2.noint {ps : List VP} {vs : List Value} {w : World} (h : All2 ps vs w) (hn : ps.all (·.ni) = true) : ∀ u ∈ vs, NotInt u := by
  intro u hu
  obtain ⟨i, hi, rfl⟩ := List.mem_iff_getElem.1 hu
  have hl := h.len
  obtain ⟨v, hv, hp⟩ := h.get (i := i) (x := ps[i]'(by omega)) (List.getElem?_eq_getElem _)
  rw [List.getElem?_eq_getElem hi] at hv
  injection hv with hv
  subst hv
  exact (ps[i]'(by omega)).hni (List.all_eq_true.1 hn _ (List.getElem_mem _)) _ _ hp
theorem All2.ones {ps : List VP} {vs : List Value} {w : World} (h : All2 ps vs w) (hn : ps.all (·.one) = true) : ∀ u ∈ vs, u.oneCell' = true := by
  intro u hu
  obtain ⟨i, hi, rfl⟩ := List.mem_iff_getElem.1 hu
  have hl := h.len
  obtain ⟨v, hv, hp⟩ := h.get (i := i) (x := ps[i]'(by omega)) (List.getElem?_eq_getElem _)
  rw [List.getElem?_eq_getElem hi] at hv
  injection hv with hv
  subst hv
  exact (ps[i]'(by omega)).hone (List.all_eq_true.1 hn _ (List.getElem_mem _)) _ _ hp

/-- nothing is known -/
def VP.any : VP := ⟨fun _ _ => True, false, fun _ _ _ _ _ => trivial, fun h => (by cases h), false, fun h => (by cases h)⟩
def VP.bool (b : Bool) : VP := ⟨fun v _ => v = .bool b, true, fun _ _ _ h _ => h, fun _ v _ h k n e => (by rw [h] at e; cases e), true, fun _ v _ h => (by rw [h]; rfl)⟩
def VP.int (k : IntKind) (n : Int) : VP := ⟨fun v _ => v = .int k n, false, fun _ _ _ h _ => h, fun h => (by cases h), true, fun _ v _ h => (by rw [h]; rfl)⟩
def VP.str (s : ByteArray) : VP := ⟨fun v _ => v = .string s, true, fun _ _ _ h _ => h, fun _ v _ h k n e => (by rw [h] at e; cases e), true, fun _ v _ h => (by rw [h]; rfl)⟩
/-- numbers of a kind as cells -/
def ksI (k : IntKind) (l : List Nat) : List Value := l.map fun d : Nat => .int k (d : Int)
/-- a slice of numbers -/
def VP.nums (k : IntKind) (l : List Nat) : VP := ⟨fun v w => ∃ a c, v = .slice a l.length c ∧ l.length ≤ c ∧ c ≤ maxLen ∧ Rd w a (ksI k l), true,
  fun _ _ _ ⟨a, c, h1, h2, h3, h4⟩ e => ⟨a, c, h1, h2, h3, h4.evol (fun u hu => by
    unfold ksI at hu
    obtain ⟨d, _, rfl⟩ := List.mem_map.1 hu
    exact fun hn => hn _ _ rfl) e⟩,
  fun _ v _ ⟨a, c, h1, _⟩ k n e => (by rw [h1] at e; cases e), true, fun _ v _ ⟨a, c, h1, _⟩ => (by rw [h1]; rfl)⟩
def VP.agg (ps : List VP) : VP := ⟨fun v w => ∃ cs : List Value, v = .agg cs.toArray ∧ All2 ps cs w, true, fun _ _ _ ⟨cs, h1, h2⟩ e => ⟨cs, h1, h2.st e⟩, fun _ v _ ⟨cs, h1, _⟩ k n e => (by rw [h1] at e; cases e), false, fun h => (by cases h)⟩
def VP.tup (ps : List VP) : VP := ⟨fun v w => ∃ cs : List Value, v = .tuple cs.toArray ∧ All2 ps cs w, true, fun _ _ _ ⟨cs, h1, h2⟩ e => ⟨cs, h1, h2.st e⟩, fun _ v _ ⟨cs, h1, _⟩ k n e => (by rw [h1] at e; cases e), false, fun h => (by cases h)⟩

/-! ### What is said of a frame -/
def ptr (g : Nat) : Value := .pointer (some ⟨g, 0, none⟩)
inductive Fact where
  | slot (k : Nat) (x : VP)
  | fp (d k off : Nat)
  | box (k : Nat) (T : TypeId) (ps : List VP)
  | arr (k : Nat) (T : TypeId) (n : Nat) (ps : List VP)
  | own (k : Nat) (T : TypeId) (n : Nat)

def Fact.holds : Fact → Act → World → Prop
  | .slot k x, a, w => ∃ v, a.tmps[k]? = some v ∧ x.p v w
  | .fp d k off, a, _ => ∃ g, a.tmps[k]? = some (ptr g) ∧ a.tmps[d]? = some (.pointer (some ⟨g, off, none⟩))
  | .box k T ps, a, w => ∃ g cs, a.tmps[k]? = some (ptr g) ∧ Row w g T cs ∧ All2 ps cs w
  | .arr k T n ps, a, w => ∃ g cs, a.tmps[k]? = some (.slice (some ⟨g, 0, none⟩) n n) ∧ Row w g T cs ∧ All2 ps cs w
  | .own k T n, a, w => ∃ g cs, a.tmps[k]? = some (ptr g) ∧ Row w g T cs ∧ cs.length = n ∧ ∀ u ∈ cs, NotInt u
/-- the slots of which a fact speaks -/
def Fact.uses : Fact → Nat → Bool
  | .slot k _, d => k == d
  | .fp e k _, d => e == d || k == d
  | .box k _ _, d => k == d
  | .arr k _ _ _, d => k == d
  | .own k _ _, d => k == d
/-- a store into slot k's box leaves this fact -/
def Fact.off : Fact → Nat → Bool
  | .box j _ _, k => !(j == k)
  | .arr .., _ => false
  | _, _ => true

theorem put_ne {a : Act} {d k : Nat} (v : Value) (h : d ≠ k) : (a.put (some d) v).tmps[k]? = a.tmps[k]? := by
  simp [Act.put, Array.getElem?_setIfInBounds_ne h]
theorem put_eq {a : Act} {d : Nat} (v : Value) (h : d < a.tmps.size) : (a.put (some d) v).tmps[d]? = some v := by
  simp [Act.put, h]
theorem put_size (a : Act) (d : Option Nat) (v : Value) : (a.put d v).tmps.size = a.tmps.size := by
  cases d <;> simp [Act.put]
theorem put_defers' (a : Act) (d : Option Nat) (v : Value) : (a.put d v).defers = a.defers := by cases d <;> rfl

theorem fact_put {f : Fact} {a : Act} {w w' : World} {d : Nat} {v : Value} (h : f.holds a w) (hd : f.uses d = false) (e : Ext w w') : f.holds (a.put (some d) v) w' := by
  cases f with
  | slot k x =>
    obtain ⟨u, h1, h2⟩ := h
    simp [Fact.uses] at hd
    exact ⟨u, by rw [put_ne v (Ne.symm hd)]; exact h1, x.st _ _ _ h2 (.of_ext e)⟩
  | fp c k off =>
    obtain ⟨g, h1, h2⟩ := h
    simp [Fact.uses] at hd
    exact ⟨g, by rw [put_ne v (Ne.symm hd.2)]; exact h1, by rw [put_ne v (Ne.symm hd.1)]; exact h2⟩
  | box k T ps =>
    obtain ⟨g, cs, h1, h2, h3⟩ := h
    simp [Fact.uses] at hd
    exact ⟨g, cs, by rw [put_ne v (Ne.symm hd)]; exact h1, h2.ext e, h3.st (.of_ext e)⟩
  | arr k T n ps =>
    obtain ⟨g, cs, h1, h2, h3⟩ := h
    simp [Fact.uses] at hd
    exact ⟨g, cs, by rw [put_ne v (Ne.symm hd)]; exact h1, h2.ext e, h3.st (.of_ext e)⟩
  | own k T n =>
    obtain ⟨g, cs, h1, h2, h3, h4⟩ := h
    simp [Fact.uses] at hd
    exact ⟨g, cs, by rw [put_ne v (Ne.symm hd)]; exact h1, h2.ext e, h3, h4⟩
theorem fact_ext {f : Fact} {a : Act} {w w' : World} (h : f.holds a w) (e : Ext w w') : f.holds a w' := by
  cases f with
  | slot k x => obtain ⟨u, h1, h2⟩ := h; exact ⟨u, h1, x.st _ _ _ h2 (.of_ext e)⟩
  | fp c k off => exact h
  | box k T ps => obtain ⟨g, cs, h1, h2, h3⟩ := h; exact ⟨g, cs, h1, h2.ext e, h3.st (.of_ext e)⟩
  | arr k T n ps => obtain ⟨g, cs, h1, h2, h3⟩ := h; exact ⟨g, cs, h1, h2.ext e, h3.st (.of_ext e)⟩
  | own k T n => obtain ⟨g, cs, h1, h2, h3⟩ := h; exact ⟨g, cs, h1, h2.ext e, h3⟩

def Base (w0 : World) (N : Nat) (B : List Nat) (a : Act) (w : World) : Prop :=
  a.tmps.size = N ∧ a.defers = [] ∧ Ext w0 w ∧ (∀ k ∈ B, ∀ g, a.tmps[k]? = some (ptr g) → w0.heap.size ≤ g ∧ g < w.heap.size) ∧
    (∀ k ∈ B, ∀ k' ∈ B, k ≠ k' → ∀ g, a.tmps[k]? = some (ptr g) → a.tmps[k']? ≠ some (ptr g))

theorem Base.put {w0 : World} {N : Nat} {B : List Nat} {a : Act} {w w' : World} (h : Base w0 N B a w) {d : Nat} (hd : B.contains d = false) (v : Value) (e : Ext w w') : Base w0 N B (a.put (some d) v) w' := by
  obtain ⟨h1, h2, h3, h4, h5⟩ := h
  have hne : ∀ k ∈ B, d ≠ k := fun k hk e => by subst e; simp [hk] at hd
  refine ⟨by rw [put_size]; exact h1, by rw [put_defers']; exact h2, h3.trans e, fun k hk g hg => ?_, fun k hk k' hk' hkk g hg => ?_⟩
  · rw [put_ne v (hne k hk)] at hg
    have := h4 k hk g hg
    exact ⟨this.1, Nat.lt_of_lt_of_le this.2 e.size⟩
  · rw [put_ne v (hne k hk)] at hg
    rw [put_ne v (hne k' hk')]
    exact h5 k hk k' hk' hkk g hg
theorem Base.ext {w0 : World} {N : Nat} {B : List Nat} {a : Act} {w w' : World} (h : Base w0 N B a w) (e : Ext w w') : Base w0 N B a w' := by
  obtain ⟨h1, h2, h3, h4, h5⟩ := h
  exact ⟨h1, h2, h3.trans e, fun k hk g hg => ⟨(h4 k hk g hg).1, Nat.lt_of_lt_of_le (h4 k hk g hg).2 e.size⟩, h5⟩
/-- a new box -/
theorem Base.new {w0 : World} {N : Nat} {B : List Nat} {a : Act} {w : World} (h : Base w0 N B a w) {d : Nat} (hd : d < N) (o : Obj) : Base w0 N B (a.put (some d) (ptr w.heap.size)) (w.alloc o) := by
  obtain ⟨h1, h2, h3, h4, h5⟩ := h
  have hself := put_eq (a := a) (ptr w.heap.size) (d := d) (by omega)
  refine ⟨by rw [put_size]; exact h1, by rw [put_defers']; exact h2, h3.alloc o, fun k hk g hg => ?_, fun k hk k' hk' hkk g hg => ?_⟩
  · by_cases e : d = k
    · subst e
      rw [hself] at hg
      injection hg with hg
      unfold ptr at hg
      injection hg with hg
      injection hg with hg
      injection hg with hg
      subst hg
      exact ⟨h3.size, by simp⟩
    · rw [put_ne _ e] at hg
      have := h4 k hk g hg
      exact ⟨this.1, by simp; omega⟩
  · by_cases e : d = k
    · subst e
      rw [hself] at hg
      rw [put_ne _ hkk]
      intro hg'
      rw [← Option.some.inj hg] at hg'
      have := (h4 k' hk' _ hg').2
      omega
    · rw [put_ne _ e] at hg
      by_cases e' : d = k'
      · subst e'
        rw [hself]
        intro hg'
        rw [← Option.some.inj hg'] at hg
        have := (h4 k hk _ hg).2
        omega
      · rw [put_ne _ e']
        exact h5 k hk k' hk' hkk g hg
end Go.Proofs.Ytogodjiemgilaaa
